/- Server: the table of codes. -/
import Derived.Test.YtmadgoehmjmlmaaGreatDoorTie
import Derived.ProofKit
import Derived.OpenShut
import Derived.LaidMore
import Derived.Lay
import Derived.SevenTiedAt
import Derived.Stop.Joined
import Derived.ChangeOld
import Derived.ChangeSlices
import Derived.Lib.SmallJoins
import Derived.Test.YtmadgoehmjmlmaaGreatDoorP7
import Derived.Test.YtmadgoehmjmlmaaGreatDoorCards
import Derived.Deep.DeepHandedRow
namespace Go.Proofs.YtmadgoehmjmlmaaGreatDoor
noncomputable section
open Go.ChangeShapes Go.WideShapes Go.ChangeAt Go.RowKit Go.Joins Go.Vc
open _root_.Go.Proofs.Tryz
set_option linter.unusedVariables false
set_option linter.unusedSimpArgs false
set_option maxRecDepth 100000
def Yd:List (String×DataW Unit):=[("unicode/utf8.acceptRanges",Rows.laid_unicode_utf8_acceptRanges),("wireschema/status.codes",Rows.laid_wireschema_status_codes),("unicode/utf8.first",Rows.laid_unicode_utf8_first)]
def yB:List (Int×Int):=[(0,0),(23,3),(21,6),(22,7),(3,7),(17,7),(10,4),(9,5),(20,8),(24,9),(25,13),(11,11),(19,11)]
theorem VE {W:World}(h:laidMetH Tryz.prog Yd W)(i:Nat)(hi:i < 13):
  W.cell? ⟨0,i*2,none⟩=some (.int .i64 (yB.getD i (0,0)).1)/\W.cell? ⟨0,i*2+1,none⟩=some (.int .i64 (yB.getD i (0,0)).2):=by
 rw[MakeChecks.laidMetH_plain _ _ _ dU]at h;obtain⟨ps,⟨_,_,_,_,_,_,_,_,_,_,⟨g,t,cs,fuel,p,q,hg,ht,hv,hd,_,_⟩,_⟩,_,_⟩:=h;obtain rfl:=Qc1 ((show Tryz.prog.globalNamed "wireschema/status.codes" =some 0 by kernel_rfl).symm.trans hg);obtain rfl:=Qc1 ((show(Tryz.prog.globals[0]?).map (·.type)=some 207 by kernel_rfl).symm.trans ht);obtain⟨xs,m,_,ex,_,hl,hel⟩:=DataW.trod_array underlying207 hd;have c124:Tryz.prog.cellsOf 206=2:=by kernel_rfl
 have c54:Tryz.prog.cellsOf 38=1:=by kernel_rfl
 have c3:Tryz.prog.cellsOf 3=1:=by kernel_rfl
 have hE:=hel i hi;rw[c124,Xh au]at hE;obtain⟨ys,m2,_,ey,_,hyl,hf⟩:=DataW.trod_struct underlying206 hE;have f0:DataW.trod (fun _=>()) Tryz.prog W 0 (fun _=>true) false m2 38 ((((cs.toList.drop (i*2)).take 2).drop 0).take (Tryz.prog.cellsOf 38))=ys[0]? :=hf 0 _ rfl;have f1:DataW.trod (fun _=>()) Tryz.prog W 0 (fun _=>true) false m2 3 ((((cs.toList.drop (i*2)).take 2).drop 1).take (Tryz.prog.cellsOf 3))=ys[1]? :=hf 1 _ rfl;have aJ8:ys.length=2:=hyl;rw[c54]at f0;rw[c3]at f1;rw[Xh au]at f0 f1;obtain⟨z0,e0,g0,_⟩:=DataW.trod_int underlying38 f0;obtain⟨z1,e1,g1,_⟩:=DataW.trod_int underlying3 f1;have e3:(xs.map (·.1))=yB.map fun n=>(DataW.agg [.lit (.int .i64 n.1), .lit (.int .i64 n.2)]:DataW Unit):=(DataW.agg.inj (Prod.mk.inj ex).1).symm
 have hzl:yB.length=13:=rfl;have e4:(xs.map (·.1))[i]? =(yB.map fun n=>(DataW.agg [.lit (.int .i64 n.1), .lit (.int .i64 n.2)]:DataW Unit))[i]? :=by rw[e3]
 rw[Qbd,Qbd,Xh (by omega:i < xs.length),Xh (by omega:i < yB.length),ey]at e4;have hys:ys=[ys[0],ys[1]]:=by
  match ys,aJ8 with
  | [a,b],_=>rfl
 rw[hys,g0,g1]at e4;have hz:z0=(yB.getD i (0,0)).1/\z1=(yB.getD i (0,0)).2:=by
  simp only[IR,Nb,DT,Qcx,DataW.agg.injEq,Qdh,DataW.lit.injEq,Lit.int.injEq,true_and,and_true]at e4;rw[List.getD,Xh (by omega:i < yB.length)];exact e4
 have k0:cs.toList[i*2]? =some (.int .i64 z0):=by
  have h0:((((cs.toList.drop (i*2)).take 2).drop 0).take 1)[0]? =some (.int .i64 z0):=by rw[e0];rfl
  simpa using h0
 have k1:cs.toList[i*2+1]? =some (.int .i64 z1):=by
  have h0:((((cs.toList.drop (i*2)).take 2).drop 1).take 1)[0]? =some (.int .i64 z1):=by rw[e1];rfl
  simpa[Nj,Qbp]using h0
 rw[World.var?_cell hg hv,World.var?_cell hg hv,<-hz.1,<-hz.2];exact⟨by simpa using k0,by simpa using k1⟩
theorem aH4 {W:World}(h:laidMetH Tryz.prog Yd W):acQ S NoN W:=by
 intro i d hd w' hw;have hm:(i,d)∈alT:=IQ hd;have h1:(i,d)=(0,D.iK [⟨0,0⟩,⟨23,3⟩,⟨21,6⟩,⟨22,7⟩,⟨3,7⟩,⟨17,7⟩,⟨10,4⟩,⟨9,5⟩,⟨20,8⟩,⟨24,9⟩,⟨25,13⟩,⟨11,11⟩,⟨19,11⟩]):=List.mem_singleton.mp hm;obtain⟨rfl,rfl⟩:=Prod.mk.inj h1;have hb:w'.heap[0]? =W.heap[0]? :=by
  refine hw 0 ?_ (fun k=>k);have:=(VE h 0 nG).1;unfold World.cell? at this;by_cases c:0 < W.heap.size
  ·exact c
  ·have e:W.heap[0]? =none:=Qd5 au;simp[e]at this
 have hc:∀k,w'.cell? ⟨0,k,none⟩=W.cell? ⟨0,k,none⟩:=fun k=>by
  unfold World.cell?;simp only[hb]
 refine Be.mk _ rfl (some ⟨0,0,none⟩) 13 (fun i j=> .int .i64 (if j=0 then(yB.getD i (0,0)).1 else(yB.getD i (0,0)).2)) (by decide+kernel) (by decide+kernel) ?_ ?_ ?_
 ·intro i j hi hj;have hi':i < 13:=hi;have hj':j < 2:=hj;refine⟨_,rfl,?_⟩;have ea:(⟨0,0,none⟩:Addr).add (i*2+j)=⟨0,i*2+j,none⟩:=by
   unfold Addr.add;by_cases c:i*2+j=0
   ·rw[mi c,c]
   ·rw[lL c];simp
  show w'.cell? ((⟨0,0,none⟩:Addr).add (i*2+j))=_
  rw[ea,hc];obtain⟨a,b⟩:=VE h i hi';obtain rfl | rfl:j=0\/j=1:=by omega
  ·exact a
  ·exact b
 ·intro i j hi hj;have hi':i < 13:=hi;have hj':j < 2:=hj;obtain rfl | rfl:j=0\/j=1:=by omega
  all_goals (obtain rfl | rfl | rfl | rfl | rfl | rfl | rfl | rfl | rfl | rfl | rfl | rfl | rfl:i=0\/i=1\/i=2\/i=3\/i=4\/i=5\/i=6\/i=7\/i=8\/i=9\/i=10\/i=11\/i=12:=by omega)<;>rfl
 ·intro i j d' hi hj hd';have hi':i < 13:=hi;have hj':j < 2:=hj;obtain rfl | rfl:j=0\/j=1:=by omega
  all_goals (obtain rfl | rfl | rfl | rfl | rfl | rfl | rfl | rfl | rfl | rfl | rfl | rfl | rfl:i=0\/i=1\/i=2\/i=3\/i=4\/i=5\/i=6\/i=7\/i=8\/i=9\/i=10\/i=11\/i=12:=by omega)<;>cases hd'
theorem ahP (os:Os)(args:Array Value):laidMetH Tryz.prog Yd (((World.laidAll Tryz.prog os Yd).forCall (fun _ _=>0) ⟨#[],args,[]⟩).memory):=by
 rw[MakeChecks.laidMetH_plain _ _ _ dU];exact laidMet_laidAll _ dU dU
theorem MN {H:Type}{d:DataW H}:∀{l:List (DataW H)},d∈l->Rows.uptoBulk d<=Rows.uptoBulkAll l
 | x::l,h=>by
  simp only[Rows.uptoBulkAll];rcases xI.1 h with rfl | h
  ·omega
  ·have:=MN h;omega
theorem ath {H:Type}(d:DataW H):1<=Rows.uptoBulk d:=by
 cases d with
 | lit l=>cases l<;>simp[Rows.uptoBulk]
 | nil=>simp[Rows.uptoBulk]
 | ptr d=>simp[Rows.uptoBulk]
 | slice elems spare=>simp[Rows.uptoBulk]
 | agg parts=>simp[Rows.uptoBulk]
 | iface t d=>simp[Rows.uptoBulk]
 | map entries=>simp[Rows.uptoBulk]
 | held h=>simp[Rows.uptoBulk]
theorem aeB {H:Type}:∀l:List (DataW H),l.length<=Rows.uptoBulkAll l
 | []=>by simp[Rows.uptoBulkAll]
 | x::l=>by have:=ath x;have:=aeB l;simp only[Rows.uptoBulkAll,yF];omega
def szB:Sz Tryz.prog where
 M:=fun t d n=>Rows.uptoBulk d<=n
 str:=fun h=>by simp only[Rows.uptoBulk]at h;omega
 sl:=fun{H t e el sp n} _ _ h=>by
  simp only[Rows.uptoBulk]at h;have:=aeB el;exact⟨by omega,fun d hd=>by have:=MN hd;omega⟩
 st:=fun{H t fs ps n} _ h i f p _ hp=>by
  simp only[Rows.uptoBulk]at h;have:=MN (Qbt hp);omega
def P7 (n:Nat)(b:ul):Prop:=(Cm .i64 b.Kind/\b.Name.length<=n)
theorem aCM:∀F,eP F Tryz.prog S szB 77 vH P7:=fun F=>fG underlying77 dU (fun _=>rfl) (aO rfl dU (eF (fM underlying3)) (fZ rfl dU (gq underlying9)))
def NS (n:Nat)(b:Raw):Prop:=(Cm .i64 b.Num/\(Cm .i64 b.eU/\(Cm .u64 b.Bits/\b.Data.length<=n)))
theorem ay9:∀F,eP F Tryz.prog S szB 268 oq NS:=fun F=>fG underlying268 dU (fun _=>rfl) (aO rfl dU (eF (fM underlying3)) (aO rfl dU (eF (fM underlying3)) (aO rfl dU (eF (fM underlying78)) (fZ rfl dU (gq underlying9)))))
theorem aCx:∀F,eP F Tryz.prog S szB 82 bF (fun n l=>l.length<=n/\∀a∈l,NS n a):=fun F=>gG (dflt:=pz) underlying82 (DK dU) dU ZW (ay9 F) (fun _=>rfl) (fun _=>rfl) (fun _ _ _=>rfl)
def BB (n:Nat)(b:af):Prop:=(Cm .i64 b.Kind/\(Cm .u64 b.Bits/\(b.Text.length<=n/\(b.List.length<=n/\(b.Pairs.length<=n/\(b.Slots.length<=n/\(b.bJ.length<=n/\∀a∈b.bJ,NS n a)))))))
def ail (n:Nat)(b:Pair):Prop:=(True/\True)
def ah4 (n:Nat)(b:Slot):Prop:=(Cm .i64 b.Num/\True)
theorem YA:∀F,eP F Tryz.prog S szB 84 aI BB/\eP F Tryz.prog S szB 333 vz ail/\eP F Tryz.prog S szB 261 mV ah4
 | 0=>⟨Ux,Ux,Ux⟩
 | F+1=>by
  obtain⟨h0,h1,h2⟩:=YA F;exact⟨DY (t_ underlying84 dU (fun _=>rfl) (aO rfl dU (eF (fM underlying3)) (aO rfl dU (eF (fM underlying78)) (aO rfl dU (gq underlying9) (aO rfl dU (gG (dflt:=fQ) underlying79 (DK dU) dU WP h0 (fun _=>rfl) (fun _=>rfl) (fun _ _ _=>rfl)) (aO rfl dU (gG (dflt:=gJ) underlying80 (DK dU) dU WU h1 (fun _=>rfl) (fun _=>rfl) (fun _ _ _=>rfl)) (aO rfl dU (gG (dflt:=bK) underlying81 (DK dU) dU WV h2 (fun _=>rfl) (fun _=>rfl) (fun _ _ _=>rfl)) (fZ rfl dU (aCx F))))))))) (fun n a h=>⟨h.1,h.2.1,h.2.2.1,h.2.2.2.1.1,h.2.2.2.2.1.1,h.2.2.2.2.2.1.1,h.2.2.2.2.2.2⟩),
   DY (t_ underlying333 dU (fun _=>rfl) (aO rfl dU h0 (fZ rfl dU h0))) (fun n a h=>⟨trivial,trivial⟩),
   DY (t_ underlying261 dU (fun _=>rfl) (aO rfl dU (eF (fM underlying3)) (fZ rfl dU h0))) (fun n a h=>⟨h.1,trivial⟩)⟩
theorem arf:∀F,eP F Tryz.prog S szB 84 aI BB:=fun F=>(YA F).1
def qh (n:Nat)(b:Note):Prop:=(b.Name.length<=n/\BB n b.Val)
theorem ax5:∀F,eP F Tryz.prog S szB 244 GG qh:=fun F=>fG underlying244 dU (fun _=>rfl) (aO rfl dU (gq underlying9) (fZ rfl dU (arf F)))
theorem OQ:∀F,eP F Tryz.prog S szB 69 lK (fun n l=>l.length<=n/\∀a∈l,qh n a):=fun F=>gG (dflt:=Np) underlying69 (DK dU) dU WT (ax5 F) (fun _=>rfl) (fun _=>rfl) (fun _ _ _=>rfl)
def Bz (n:Nat)(b:aJ):Prop:=(Cm .i64 b.Num/\(b.Name.length<=n/\(Cm .i64 b.Card/\(Cm .i64 b.Key/\(P7 n b.dZ/\(b.Union.length<=n/\(True/\(BB n b.Default/\(b.Notes.length<=n/\∀a∈b.Notes,qh n a)))))))))
theorem aFc:∀F,eP F Tryz.prog S szB 86 d_ Bz:=fun F=>fG underlying86 dU (fun _=>rfl) (aO rfl dU (eF (fM underlying3)) (aO rfl dU (gq underlying9) (aO rfl dU (eF (fM underlying3)) (aO rfl dU (eF (fM underlying3)) (aO rfl dU (aCM F) (aO rfl dU (gq underlying9) (aO rfl dU (eF (Tq underlying4)) (aO rfl dU (arf F) (fZ rfl dU (OQ F))))))))))
theorem aCG:∀F,eP F Tryz.prog S szB 87 gp (fun n l=>l.length<=n/\∀a∈l,Bz n a):=fun F=>gG (dflt:=aK) underlying87 (DK dU) dU MW (aFc F) (fun _=>rfl) (fun _=>rfl) (fun _ _ _=>rfl)
def CU (n:Nat)(b:nH):Prop:=(Cm .i64 b.From/\Cm .i64 b.To)
theorem awD:∀F,eP F Tryz.prog S szB 240 RH CU:=fun F=>fG underlying240 dU (fun _=>rfl) (aO rfl dU (eF (fM underlying3)) (fZ rfl dU (eF (fM underlying3))))
theorem aqv:∀F,eP F Tryz.prog S szB 88 rq (fun n l=>l.length<=n/\∀a∈l,CU n a):=fun F=>gG (dflt:=Fq) underlying88 (DK dU) dU WW (awD F) (fun _=>rfl) (fun _=>rfl) (fun _ _ _=>rfl)
theorem aDl:∀F,eP F Tryz.prog S szB 56 dh (fun n l=>l.length<=n/\∀a∈l,a.length<=n):=fun F=>gG (dflt:=[]) underlying56 (DK dU) dU ach (gq underlying9) (fun _=>rfl) (fun _=>rfl) (fun _ _ _=>rfl)
def zN (n:Nat)(b:bg):Prop:=(b.Name.length<=n/\((b.Fields.length<=n/\∀a∈b.Fields,Bz n a)/\((b.Reserved.length<=n/\∀a∈b.Reserved,CU n a)/\((b.Gone.length<=n/\∀a∈b.Gone,a.length<=n)/\(b.Notes.length<=n/\∀a∈b.Notes,qh n a)))))
theorem aEW:∀F,eP F Tryz.prog S szB 90 gQ zN:=fun F=>fG underlying90 dU (fun _=>rfl) (aO rfl dU (gq underlying9) (aO rfl dU (aCG F) (aO rfl dU (aqv F) (aO rfl dU (aDl F) (fZ rfl dU (OQ F))))))
theorem aDo:∀F,eP F Tryz.prog S szB 22 sG (fun n l=>l.length<=n/\∀a∈l,zN n a):=fun F=>gG (dflt:=jb) underlying22 (DK dU) dU z_ (aEW F) (fun _=>rfl) (fun _=>rfl) (fun _ _ _=>rfl)
def Jb (n:Nat)(b:Item):Prop:=(b.Name.length<=n/\(Cm .i64 b.Num/\(b.Notes.length<=n/\∀a∈b.Notes,qh n a)))
theorem ayk:∀F,eP F Tryz.prog S szB 220 lZ Jb:=fun F=>fG underlying220 dU (fun _=>rfl) (aO rfl dU (gq underlying9) (aO rfl dU (eF (fM underlying3)) (fZ rfl dU (OQ F))))
theorem azm:∀F,eP F Tryz.prog S szB 160 ig (fun n l=>l.length<=n/\∀a∈l,Jb n a):=fun F=>gG (dflt:=o5) underlying160 (DK dU) dU WR (ayk F) (fun _=>rfl) (fun _=>rfl) (fun _ _ _=>rfl)
def Jj (n:Nat)(b:dV):Prop:=(b.Name.length<=n/\(True/\((b.Items.length<=n/\∀a∈b.Items,Jb n a)/\((b.Reserved.length<=n/\∀a∈b.Reserved,CU n a)/\(b.Notes.length<=n/\∀a∈b.Notes,qh n a)))))
theorem ayr:∀F,eP F Tryz.prog S szB 162 jJ Jj:=fun F=>fG underlying162 dU (fun _=>rfl) (aO rfl dU (gq underlying9) (aO rfl dU (eF (Tq underlying4)) (aO rfl dU (azm F) (aO rfl dU (aqv F) (fZ rfl dU (OQ F))))))
theorem aDb:∀F,eP F Tryz.prog S szB 23 gZ (fun n l=>l.length<=n/\∀a∈l,Jj n a):=fun F=>gG (dflt:=nO) underlying23 (DK dU) dU WQ (ayr F) (fun _=>rfl) (fun _=>rfl) (fun _ _ _=>rfl)
def zY (n:Nat)(b:eG):Prop:=(b.Name.length<=n/\(b.In.length<=n/\(b.Out.length<=n/\(Cm .i64 b.Shape/\(b.Notes.length<=n/\∀a∈b.Notes,qh n a)))))
theorem aC5:∀F,eP F Tryz.prog S szB 71 p_ zY:=fun F=>fG underlying71 dU (fun _=>rfl) (aO rfl dU (gq underlying9) (aO rfl dU (gq underlying9) (aO rfl dU (gq underlying9) (aO rfl dU (eF (fM underlying3)) (fZ rfl dU (OQ F))))))
theorem aEG:∀F,eP F Tryz.prog S szB 91 yO (fun n l=>l.length<=n/\∀a∈l,zY n a):=fun F=>gG (dflt:=xn) underlying91 (DK dU) dU Ik (aC5 F) (fun _=>rfl) (fun _=>rfl) (fun _ _ _=>rfl)
def zS (n:Nat)(b:cO):Prop:=(b.Name.length<=n/\((b.Methods.length<=n/\∀a∈b.Methods,zY n a)/\(b.Notes.length<=n/\∀a∈b.Notes,qh n a)))
theorem aDs:∀F,eP F Tryz.prog S szB 93 rQ zS:=fun F=>fG underlying93 dU (fun _=>rfl) (aO rfl dU (gq underlying9) (aO rfl dU (aEG F) (fZ rfl dU (OQ F))))
theorem aCb:∀F,eP F Tryz.prog S szB 24 zx (fun n l=>l.length<=n/\∀a∈l,zS n a):=fun F=>gG (dflt:=AY) underlying24 (DK dU) dU Io (aDs F) (fun _=>rfl) (fun _=>rfl) (fun _ _ _=>rfl)
def MI (n:Nat)(b:ay):Prop:=((b.Messages.length<=n/\∀a∈b.Messages,zN n a)/\((b.Enums.length<=n/\∀a∈b.Enums,Jj n a)/\(b.jE.length<=n/\∀a∈b.jE,zS n a)))
theorem aDT:∀F,eP F Tryz.prog S szB 26 bI MI:=fun F=>fG underlying26 dU (fun _=>rfl) (aO rfl dU (aDo F) (aO rfl dU (aDb F) (fZ rfl dU (aCb F))))
def zX (n:Nat)(b:di):Prop:=(b.Method.length<=n/\(Cm .i64 b.Kind/\(Cm .i64 b.Num/\Cm .i64 b.avq)))
theorem aC9:∀F,eP F Tryz.prog S szB 67 jr zX:=fun F=>fG underlying67 dU (fun _=>rfl) (aO rfl dU (gq underlying9) (aO rfl dU (eF (fM underlying3)) (aO rfl dU (eF (fM underlying3)) (fZ rfl dU (eF (fM underlying3))))))
theorem aER:∀F,eP F Tryz.prog S szB 27 vV (fun n l=>l.length<=n/\∀a∈l,zX n a):=fun F=>gG (dflt:=nT) underlying27 (DK dU) dU Il (aC9 F) (fun _=>rfl) (fun _=>rfl) (fun _ _ _=>rfl)
def Ez (n:Nat)(b:iZ):Prop:=(Cm .i64 b.Kind/\(b.Key.length<=n/\(b.Val.length<=n/\(Cm .i64 b.Num/\Cm .i64 b.nH))))
theorem awC:∀F,eP F Tryz.prog S szB 117 xO Ez:=fun F=>fG underlying117 dU (fun _=>rfl) (aO rfl dU (eF (fM underlying3)) (aO rfl dU (gq underlying9) (aO rfl dU (gq underlying9) (aO rfl dU (eF (fM underlying3)) (fZ rfl dU (eF (fM underlying3)))))))
theorem aES:∀F,eP F Tryz.prog S szB 28 qJ (fun n l=>l.length<=n/\∀a∈l,Ez n a):=fun F=>gG (dflt:=uk) underlying28 (DK dU) dU Qg (awC F) (fun _=>rfl) (fun _=>rfl) (fun _ _ _=>rfl)
def tH (n:Nat)(b:dO):Prop:=(MI n b.S/\((b.H.length<=n/\∀a∈b.H,zX n a)/\((b.L.length<=n/\∀a∈b.L,Ez n a)/\Cm .i64 b.Most)))
theorem aCR:∀F,eP F Tryz.prog S szB 30 qm tH:=fun F=>fG underlying30 dU (fun _=>rfl) (aO rfl dU (aDT F) (aO rfl dU (aER F) (aO rfl dU (aES F) (fZ rfl dU (eF (fM underlying3))))))
def Iw (n:Nat)(b:l_):Prop:=(b.Key.length<=n/\b.Val.length<=n)
theorem azK:∀F,eP F Tryz.prog S szB 354 L8 Iw:=fun F=>fG underlying354 dU (fun _=>rfl) (aO rfl dU (gq underlying9) (fZ rfl dU (gq underlying9)))
theorem aDR:∀F,eP F Tryz.prog S szB 47 tX (fun n l=>l.length<=n/\∀a∈l,Iw n a):=fun F=>gG (dflt:=Oi) underlying47 (DK dU) dU WS (azK F) (fun _=>rfl) (fun _=>rfl) (fun _ _ _=>rfl)
def T_ (n:Nat)(b:Head):Prop:=(b.cO.length<=n/\(b.Method.length<=n/\(Cm .i64 b.fA/\(b.eQ.length<=n/\∀a∈b.eQ,Iw n a))))
theorem aCB:∀F,eP F Tryz.prog S szB 49 qC T_:=fun F=>fG underlying49 dU (fun _=>rfl) (aO rfl dU (gq underlying9) (aO rfl dU (gq underlying9) (aO rfl dU (eF (fM underlying3)) (fZ rfl dU (aDR F)))))
def wG (n:Nat)(b:dQ):Prop:=(Cm .u8 b.Kind/\(Cm .i64 b.Now/\(Cm .i64 b.kL/\(Cm .i64 b.Id/\(T_ n b.H/\(Cm .i64 b.Shape/\b.Data.length<=n))))))
theorem aBR:∀F,eP F Tryz.prog S szB 51 wS wG:=fun F=>fG underlying51 dU (fun _=>rfl) (aO rfl dU (eF (fM underlying5)) (aO rfl dU (eF (fM underlying3)) (aO rfl dU (eF (fM underlying3)) (aO rfl dU (eF (fM underlying3)) (aO rfl dU (aCB F) (aO rfl dU (eF (fM underlying3)) (fZ rfl dU (gq underlying9))))))))
theorem aCY:∀F,eP F Tryz.prog S szB 31 qU (fun n l=>l.length<=n/\∀a∈l,wG n a):=fun F=>gG (dflt:=mO) underlying31 (DK dU) dU DD (aBR F) (fun _=>rfl) (fun _=>rfl) (fun _ _ _=>rfl)
theorem own:ownKnob Tryz.prog.godebug=none:=by kernel_rfl
theorem laidOut:laidOutB Tryz.prog=true:=by kernel_rfl
theorem aCh (x:dO)(h:tH 1048576 x):okD x:=by
 obtain⟨⟨⟨_,h1⟩,⟨_,h2⟩,_,h3⟩,⟨_,h4⟩,⟨_,h5⟩,_⟩:=h;refine⟨⟨fun m hm=> ?_,fun e he=> ?_,fun v hv=> ?_⟩,fun m hm f hf n hn=> ?_,fun y hy=>(h4 y hy).1,fun y hy=>(h5 y hy).2.1⟩
 ·obtain⟨k1,k2,k3,k4,k5⟩:=h1 m hm;exact⟨k2.1,k3.1,k4.1,k1,k4.2⟩
 ·obtain⟨k1,_,k3,k4,k5⟩:=h2 e he;exact⟨k3.1,k4.1,k1⟩
 ·obtain⟨k1,k2,k3⟩:=h3 v hv;exact⟨k2.1,k1⟩
 ·obtain⟨k1,k2,k3,k4,k5⟩:=h1 m hm;obtain⟨_,_,_,_,_,_,_,q8,q9⟩:=k2.2 f hf;obtain⟨_,z1,z2,z3⟩:=(q9.2 n hn).2;exact z2
theorem aCX {a:dO×List dQ}(h:tH 1048576 a.1/\a.2.length<=1048576/\∀x∈a.2,wG 1048576 x):okD a.1/\aDz a.2:=by
 refine⟨aCh a.1 h.1,fun y hy=> ?_⟩;obtain⟨_,_,_,_,⟨k1,k2,_⟩,_⟩:=h.2.2 y hy;omega
end
end Go.Proofs.YtmadgoehmjmlmaaGreatDoor
