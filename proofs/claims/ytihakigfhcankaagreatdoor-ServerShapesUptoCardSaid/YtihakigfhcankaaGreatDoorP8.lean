/- Server: the table of codes. -/
import Derived.Test.YtihakigfhcankaaGreatDoorTie
import Derived.ProofKit
import Derived.OpenShut
import Derived.LaidMore
import Derived.Lay
import Derived.SevenTiedAt
import Derived.Stop.Joined
import Derived.ChangeOld
import Derived.ChangeSlices
import Derived.Lib.SmallJoins
import Derived.Test.YtihakigfhcankaaGreatDoorP7
import Derived.Test.YtihakigfhcankaaGreatDoorCards
import Derived.Deep.DeepHandedRow
namespace Go.Proofs.YtihakigfhcankaaGreatDoor
noncomputable section
open Go.ChangeShapes Go.WideShapes Go.ChangeAt Go.RowKit Go.Joins Go.Vc
open _root_.Go.Proofs.Tryz
set_option linter.unusedVariables false
set_option linter.unusedSimpArgs false
set_option maxRecDepth 100000
def Xl:List (String×DataW Unit):=[("unicode/utf8.acceptRanges",Rows.laid_unicode_utf8_acceptRanges),("wireschema/status.codes",Rows.laid_wireschema_status_codes),("unicode/utf8.first",Rows.laid_unicode_utf8_first)]
def xu:List (Int×Int):=[(0,0),(23,3),(21,6),(22,7),(3,7),(17,7),(10,4),(9,5),(20,8),(24,9),(25,13),(11,11),(19,11)]
theorem Vk {W:World}(h:laidMetH Tryz.prog Xl W)(i:Nat)(hi:i < 13):
  W.cell? ⟨0,i*2,none⟩=some (.int .i64 (xu.getD i (0,0)).1)/\W.cell? ⟨0,i*2+1,none⟩=some (.int .i64 (xu.getD i (0,0)).2):=by
 rw[MakeChecks.laidMetH_plain _ _ _ dS]at h;obtain⟨ps,⟨_,_,_,_,_,_,_,_,_,_,⟨g,t,cs,fuel,p,q,hg,ht,hv,hd,_,_⟩,_⟩,_,_⟩:=h;obtain rfl:=Qc1 ((show Tryz.prog.globalNamed "wireschema/status.codes" =some 0 by kernel_rfl).symm.trans hg);obtain rfl:=Qc1 ((show(Tryz.prog.globals[0]?).map (·.type)=some 202 by kernel_rfl).symm.trans ht);obtain⟨xs,m,_,ex,_,hl,hel⟩:=DataW.trod_array underlying202 hd;have c124:Tryz.prog.cellsOf 201=2:=by kernel_rfl
 have c54:Tryz.prog.cellsOf 38=1:=by kernel_rfl
 have c3:Tryz.prog.cellsOf 3=1:=by kernel_rfl
 have hE:=hel i hi;rw[c124,Wy au]at hE;obtain⟨ys,m2,_,ey,_,hyl,hf⟩:=DataW.trod_struct underlying201 hE;have f0:DataW.trod (fun _=>()) Tryz.prog W 0 (fun _=>true) false m2 38 ((((cs.toList.drop (i*2)).take 2).drop 0).take (Tryz.prog.cellsOf 38))=ys[0]? :=hf 0 _ rfl;have f1:DataW.trod (fun _=>()) Tryz.prog W 0 (fun _=>true) false m2 3 ((((cs.toList.drop (i*2)).take 2).drop 1).take (Tryz.prog.cellsOf 3))=ys[1]? :=hf 1 _ rfl;have aIq:ys.length=2:=hyl;rw[c54]at f0;rw[c3]at f1;rw[Wy au]at f0 f1;obtain⟨z0,e0,g0,_⟩:=DataW.trod_int underlying38 f0;obtain⟨z1,e1,g1,_⟩:=DataW.trod_int underlying3 f1;have e3:(xs.map (·.1))=xu.map fun n=>(DataW.agg [.lit (.int .i64 n.1), .lit (.int .i64 n.2)]:DataW Unit):=(DataW.agg.inj (Prod.mk.inj ex).1).symm
 have hzl:xu.length=13:=rfl;have e4:(xs.map (·.1))[i]? =(xu.map fun n=>(DataW.agg [.lit (.int .i64 n.1), .lit (.int .i64 n.2)]:DataW Unit))[i]? :=by rw[e3]
 rw[Qbb,Qbb,Wy (by omega:i < xs.length),Wy (by omega:i < xu.length),ey]at e4;have hys:ys=[ys[0],ys[1]]:=by
  match ys,aIq with
  | [a,b],_=>rfl
 rw[hys,g0,g1]at e4;have hz:z0=(xu.getD i (0,0)).1/\z1=(xu.getD i (0,0)).2:=by
  simp only[GZ,KZ,F_,Qcu,DataW.agg.injEq,Qdg,DataW.lit.injEq,Lit.int.injEq,true_and,and_true]at e4;rw[List.getD,Wy (by omega:i < xu.length)];exact e4
 have k0:cs.toList[i*2]? =some (.int .i64 z0):=by
  have h0:((((cs.toList.drop (i*2)).take 2).drop 0).take 1)[0]? =some (.int .i64 z0):=by rw[e0];rfl
  simpa using h0
 have k1:cs.toList[i*2+1]? =some (.int .i64 z1):=by
  have h0:((((cs.toList.drop (i*2)).take 2).drop 1).take 1)[0]? =some (.int .i64 z1):=by rw[e1];rfl
  simpa[LD,Qbk]using h0
 rw[World.var?_cell hg hv,World.var?_cell hg hv,<-hz.1,<-hz.2];exact⟨by simpa using k0,by simpa using k1⟩
theorem aEy {W:World}(h:laidMetH Tryz.prog Xl W):ab4 S NoN W:=by
 intro i d hd w' hw;have hm:(i,d)∈ajO:=Gz hd;have h1:(i,d)=(0,D.jb [⟨0,0⟩,⟨23,3⟩,⟨21,6⟩,⟨22,7⟩,⟨3,7⟩,⟨17,7⟩,⟨10,4⟩,⟨9,5⟩,⟨20,8⟩,⟨24,9⟩,⟨25,13⟩,⟨11,11⟩,⟨19,11⟩]):=List.mem_singleton.mp hm;obtain⟨rfl,rfl⟩:=Prod.mk.inj h1;have hb:w'.heap[0]? =W.heap[0]? :=by
  refine hw 0 ?_ (fun k=>k);have:=(Vk h 0 lY).1;unfold World.cell? at this;by_cases c:0 < W.heap.size
  ·exact c
  ·have e:W.heap[0]? =none:=Qdy au;simp[e]at this
 have hc:∀k,w'.cell? ⟨0,k,none⟩=W.cell? ⟨0,k,none⟩:=fun k=>by
  unfold World.cell?;simp only[hb]
 refine Ac.mk _ rfl (some ⟨0,0,none⟩) 13 (fun i j=> .int .i64 (if j=0 then(xu.getD i (0,0)).1 else(xu.getD i (0,0)).2)) (by decide+kernel) (by decide+kernel) ?_ ?_ ?_
 ·intro i j hi hj;have hi':i < 13:=hi;have hj':j < 2:=hj;refine⟨_,rfl,?_⟩;have ea:(⟨0,0,none⟩:Addr).add (i*2+j)=⟨0,i*2+j,none⟩:=by
   unfold Addr.add;by_cases c:i*2+j=0
   ·rw[Qb c,c]
   ·rw[qC c];simp
  show w'.cell? ((⟨0,0,none⟩:Addr).add (i*2+j))=_
  rw[ea,hc];obtain⟨a,b⟩:=Vk h i hi';obtain rfl | rfl:j=0\/j=1:=by omega
  ·exact a
  ·exact b
 ·intro i j hi hj;have hi':i < 13:=hi;have hj':j < 2:=hj;obtain rfl | rfl:j=0\/j=1:=by omega
  all_goals (obtain rfl | rfl | rfl | rfl | rfl | rfl | rfl | rfl | rfl | rfl | rfl | rfl | rfl:i=0\/i=1\/i=2\/i=3\/i=4\/i=5\/i=6\/i=7\/i=8\/i=9\/i=10\/i=11\/i=12:=by omega)<;>rfl
 ·intro i j d' hi hj hd';have hi':i < 13:=hi;have hj':j < 2:=hj;obtain rfl | rfl:j=0\/j=1:=by omega
  all_goals (obtain rfl | rfl | rfl | rfl | rfl | rfl | rfl | rfl | rfl | rfl | rfl | rfl | rfl:i=0\/i=1\/i=2\/i=3\/i=4\/i=5\/i=6\/i=7\/i=8\/i=9\/i=10\/i=11\/i=12:=by omega)<;>cases hd'
theorem ahO (os:Os)(args:Array Value):laidMetH Tryz.prog Xl (((World.laidAll Tryz.prog os Xl).forCall (fun _ _=>0) ⟨#[],args,[]⟩).memory):=by
 rw[MakeChecks.laidMetH_plain _ _ _ dS];exact laidMet_laidAll _ dS dS
theorem Ko {H:Type}{d:DataW H}:∀{l:List (DataW H)},d∈l->Rows.uptoBulk d<=Rows.uptoBulkAll l
 | x::l,h=>by
  simp only[Rows.uptoBulkAll];rcases yR.1 h with rfl | h
  ·omega
  ·have:=Ko h;omega
theorem arD {H:Type}(d:DataW H):1<=Rows.uptoBulk d:=by
 cases d with
 | lit l=>cases l<;>simp[Rows.uptoBulk]
 | nil=>simp[Rows.uptoBulk]
 | ptr d=>simp[Rows.uptoBulk]
 | slice elems spare=>simp[Rows.uptoBulk]
 | agg parts=>simp[Rows.uptoBulk]
 | iface t d=>simp[Rows.uptoBulk]
 | map entries=>simp[Rows.uptoBulk]
 | held h=>simp[Rows.uptoBulk]
theorem aeO {H:Type}:∀l:List (DataW H),l.length<=Rows.uptoBulkAll l
 | []=>by simp[Rows.uptoBulkAll]
 | x::l=>by have:=arD x;have:=aeO l;simp only[Rows.uptoBulkAll,xH];omega
def szB:Sz Tryz.prog where
 M:=fun t d n=>Rows.uptoBulk d<=n
 str:=fun h=>by simp only[Rows.uptoBulk]at h;omega
 sl:=fun{H t e el sp n} _ _ h=>by
  simp only[Rows.uptoBulk]at h;have:=aeO el;exact⟨by omega,fun d hd=>by have:=Ko hd;omega⟩
 st:=fun{H t fs ps n} _ h i f p _ hp=>by
  simp only[Rows.uptoBulk]at h;have:=Ko (Qbo hp);omega
def Ot (n:Nat)(b:sW):Prop:=(yZ .i64 b.Kind/\b.Name.length<=n)
theorem aB1:∀F,eX F Tryz.prog S szB 70 uZ Ot:=fun F=>fJ underlying70 dS (fun _=>rfl) (aO rfl dS (eQ (fP underlying3)) (fZ rfl dS (gq underlying9)))
def Md (n:Nat)(b:Raw):Prop:=(yZ .i64 b.Num/\(yZ .i64 b.fA/\(yZ .u64 b.Bits/\b.Data.length<=n)))
theorem ayf:∀F,eX F Tryz.prog S szB 264 og Md:=fun F=>fJ underlying264 dS (fun _=>rfl) (aO rfl dS (eQ (fP underlying3)) (aO rfl dS (eQ (fP underlying3)) (aO rfl dS (eQ (fP underlying71)) (fZ rfl dS (gq underlying9)))))
theorem aCS:∀F,eX F Tryz.prog S szB 75 bD (fun n l=>l.length<=n/\∀a∈l,Md n a):=fun F=>gJ (dflt:=oN) underlying75 (Cj dS) dS Y5 (ayf F) (fun _=>rfl) (fun _=>rfl) (fun _ _ _=>rfl)
def BP (n:Nat)(b:af):Prop:=(yZ .i64 b.Kind/\(yZ .u64 b.Bits/\(b.Text.length<=n/\(b.List.length<=n/\(b.Pairs.length<=n/\(b.Slots.length<=n/\(b.bJ.length<=n/\∀a∈b.bJ,Md n a)))))))
def agW (n:Nat)(b:Pair):Prop:=(True/\True)
def afo (n:Nat)(b:Slot):Prop:=(yZ .i64 b.Num/\True)
theorem XO:∀F,eX F Tryz.prog S szB 77 aI BP/\eX F Tryz.prog S szB 328 uI agW/\eX F Tryz.prog S szB 257 mg afo
 | 0=>⟨Uu,Uu,Uu⟩
 | F+1=>by
  obtain⟨h0,h1,h2⟩:=XO F;exact⟨Dv (rY underlying77 dS (fun _=>rfl) (aO rfl dS (eQ (fP underlying3)) (aO rfl dS (eQ (fP underlying71)) (aO rfl dS (gq underlying9) (aO rfl dS (gJ (dflt:=fM) underlying72 (Cj dS) dS VL h0 (fun _=>rfl) (fun _=>rfl) (fun _ _ _=>rfl)) (aO rfl dS (gJ (dflt:=gG) underlying73 (Cj dS) dS VR h1 (fun _=>rfl) (fun _=>rfl) (fun _ _ _=>rfl)) (aO rfl dS (gJ (dflt:=bI) underlying74 (Cj dS) dS VS h2 (fun _=>rfl) (fun _=>rfl) (fun _ _ _=>rfl)) (fZ rfl dS (aCS F))))))))) (fun n a h=>⟨h.1,h.2.1,h.2.2.1,h.2.2.2.1.1,h.2.2.2.2.1.1,h.2.2.2.2.2.1.1,h.2.2.2.2.2.2⟩),
   Dv (rY underlying328 dS (fun _=>rfl) (aO rfl dS h0 (fZ rfl dS h0))) (fun n a h=>⟨trivial,trivial⟩),
   Dv (rY underlying257 dS (fun _=>rfl) (aO rfl dS (eQ (fP underlying3)) (fZ rfl dS h0))) (fun n a h=>⟨h.1,trivial⟩)⟩
theorem api:∀F,eX F Tryz.prog S szB 77 aI BP:=fun F=>(XO F).1
def p_ (n:Nat)(b:Note):Prop:=(b.Name.length<=n/\BP n b.Val)
theorem axV:∀F,eX F Tryz.prog S szB 240 FB p_:=fun F=>fJ underlying240 dS (fun _=>rfl) (aO rfl dS (gq underlying9) (fZ rfl dS (api F)))
theorem MR:∀F,eX F Tryz.prog S szB 51 lJ (fun n l=>l.length<=n/\∀a∈l,p_ n a):=fun F=>gJ (dflt:=Nu) underlying51 (Cj dS) dS VQ (axV F) (fun _=>rfl) (fun _=>rfl) (fun _ _ _=>rfl)
def AL (n:Nat)(b:aJ):Prop:=(yZ .i64 b.Num/\(b.Name.length<=n/\(yZ .i64 b.Card/\(yZ .i64 b.Key/\(Ot n b.eF/\(b.Union.length<=n/\(True/\(BP n b.Default/\(b.Notes.length<=n/\∀a∈b.Notes,p_ n a)))))))))
theorem aCh:∀F,eX F Tryz.prog S szB 79 eG AL:=fun F=>fJ underlying79 dS (fun _=>rfl) (aO rfl dS (eQ (fP underlying3)) (aO rfl dS (gq underlying9) (aO rfl dS (eQ (fP underlying3)) (aO rfl dS (eQ (fP underlying3)) (aO rfl dS (aB1 F) (aO rfl dS (gq underlying9) (aO rfl dS (eQ (Uk underlying4)) (aO rfl dS (api F) (fZ rfl dS (MR F))))))))))
theorem aCk:∀F,eX F Tryz.prog S szB 80 gp (fun n l=>l.length<=n/\∀a∈l,AL n a):=fun F=>gJ (dflt:=aN) underlying80 (Cj dS) dS KT (aCh F) (fun _=>rfl) (fun _=>rfl) (fun _ _ _=>rfl)
def AV (n:Nat)(b:nN):Prop:=(yZ .i64 b.From/\yZ .i64 b.To)
theorem au3:∀F,eX F Tryz.prog S szB 236 PI AV:=fun F=>fJ underlying236 dS (fun _=>rfl) (aO rfl dS (eQ (fP underlying3)) (fZ rfl dS (eQ (fP underlying3))))
theorem arw:∀F,eX F Tryz.prog S szB 81 qH (fun n l=>l.length<=n/\∀a∈l,AV n a):=fun F=>gJ (dflt:=DZ) underlying81 (Cj dS) dS VT (au3 F) (fun _=>rfl) (fun _=>rfl) (fun _ _ _=>rfl)
theorem aBr:∀F,eX F Tryz.prog S szB 56 bY (fun n l=>l.length<=n/\∀a∈l,a.length<=n):=fun F=>gJ (dflt:=[]) underlying56 (Cj dS) dS aaL (gq underlying9) (fun _=>rfl) (fun _=>rfl) (fun _ _ _=>rfl)
def yQ (n:Nat)(b:bg):Prop:=(b.Name.length<=n/\((b.Fields.length<=n/\∀a∈b.Fields,AL n a)/\((b.Reserved.length<=n/\∀a∈b.Reserved,AV n a)/\((b.Gone.length<=n/\∀a∈b.Gone,a.length<=n)/\(b.Notes.length<=n/\∀a∈b.Notes,p_ n a)))))
theorem aDm:∀F,eX F Tryz.prog S szB 83 gQ yQ:=fun F=>fJ underlying83 dS (fun _=>rfl) (aO rfl dS (gq underlying9) (aO rfl dS (aCk F) (aO rfl dS (arw F) (aO rfl dS (aBr F) (fZ rfl dS (MR F))))))
theorem aAQ:∀F,eX F Tryz.prog S szB 22 rQ (fun n l=>l.length<=n/\∀a∈l,yQ n a):=fun F=>gJ (dflt:=iW) underlying22 (Cj dS) dS zg (aDm F) (fun _=>rfl) (fun _=>rfl) (fun _ _ _=>rfl)
def H6 (n:Nat)(b:Item):Prop:=(b.Name.length<=n/\(yZ .i64 b.Num/\(b.Notes.length<=n/\∀a∈b.Notes,p_ n a)))
theorem av5:∀F,eX F Tryz.prog S szB 216 lS H6:=fun F=>fJ underlying216 dS (fun _=>rfl) (aO rfl dS (gq underlying9) (aO rfl dS (eQ (fP underlying3)) (fZ rfl dS (MR F))))
theorem ayy:∀F,eX F Tryz.prog S szB 157 g_ (fun n l=>l.length<=n/\∀a∈l,H6 n a):=fun F=>gJ (dflt:=oU) underlying157 (Cj dS) dS VN (av5 F) (fun _=>rfl) (fun _=>rfl) (fun _ _ _=>rfl)
def G5 (n:Nat)(b:dU):Prop:=(b.Name.length<=n/\(True/\((b.Items.length<=n/\∀a∈b.Items,H6 n a)/\((b.Reserved.length<=n/\∀a∈b.Reserved,AV n a)/\(b.Notes.length<=n/\∀a∈b.Notes,p_ n a)))))
theorem awP:∀F,eX F Tryz.prog S szB 159 jM G5:=fun F=>fJ underlying159 dS (fun _=>rfl) (aO rfl dS (gq underlying9) (aO rfl dS (eQ (Uk underlying4)) (aO rfl dS (ayy F) (aO rfl dS (arw F) (fZ rfl dS (MR F))))))
theorem aCZ:∀F,eX F Tryz.prog S szB 23 gY (fun n l=>l.length<=n/\∀a∈l,G5 n a):=fun F=>gJ (dflt:=nD) underlying23 (Cj dS) dS VM (awP F) (fun _=>rfl) (fun _=>rfl) (fun _ _ _=>rfl)
def yU (n:Nat)(b:dG):Prop:=(b.Name.length<=n/\(b.In.length<=n/\(b.Out.length<=n/\(yZ .i64 b.Shape/\(b.Notes.length<=n/\∀a∈b.Notes,p_ n a)))))
theorem aC3:∀F,eX F Tryz.prog S szB 53 mX yU:=fun F=>fJ underlying53 dS (fun _=>rfl) (aO rfl dS (gq underlying9) (aO rfl dS (gq underlying9) (aO rfl dS (gq underlying9) (aO rfl dS (eQ (fP underlying3)) (fZ rfl dS (MR F))))))
theorem aDe:∀F,eX F Tryz.prog S szB 84 yA (fun n l=>l.length<=n/\∀a∈l,yU n a):=fun F=>gJ (dflt:=jv) underlying84 (Cj dS) dS Gu (aC3 F) (fun _=>rfl) (fun _=>rfl) (fun _ _ _=>rfl)
def yT (n:Nat)(b:bG):Prop:=(b.Name.length<=n/\((b.Methods.length<=n/\∀a∈b.Methods,yU n a)/\(b.Notes.length<=n/\∀a∈b.Notes,p_ n a)))
theorem aBQ:∀F,eX F Tryz.prog S szB 86 pV yT:=fun F=>fJ underlying86 dS (fun _=>rfl) (aO rfl dS (gq underlying9) (aO rfl dS (aDe F) (fZ rfl dS (MR F))))
theorem aBn:∀F,eX F Tryz.prog S szB 24 yl (fun n l=>l.length<=n/\∀a∈l,yT n a):=fun F=>gJ (dflt:=mf) underlying24 (Cj dS) dS Gw (aBQ F) (fun _=>rfl) (fun _=>rfl) (fun _ _ _=>rfl)
def JG (n:Nat)(b:ay):Prop:=((b.Messages.length<=n/\∀a∈b.Messages,yQ n a)/\((b.Enums.length<=n/\∀a∈b.Enums,G5 n a)/\(b.dW.length<=n/\∀a∈b.dW,yT n a)))
theorem aDP:∀F,eX F Tryz.prog S szB 26 bC JG:=fun F=>fJ underlying26 dS (fun _=>rfl) (aO rfl dS (aAQ F) (aO rfl dS (aCZ F) (fZ rfl dS (aBn F))))
def yY (n:Nat)(b:cO):Prop:=(b.Method.length<=n/\(yZ .i64 b.Kind/\(yZ .i64 b.Num/\yZ .i64 b.auh)))
theorem aBL:∀F,eX F Tryz.prog S szB 65 jm yY:=fun F=>fJ underlying65 dS (fun _=>rfl) (aO rfl dS (gq underlying9) (aO rfl dS (eQ (fP underlying3)) (aO rfl dS (eQ (fP underlying3)) (fZ rfl dS (eQ (fP underlying3))))))
theorem aAy:∀F,eX F Tryz.prog S szB 27 uT (fun n l=>l.length<=n/\∀a∈l,yY n a):=fun F=>gJ (dflt:=kC) underlying27 (Cj dS) dS Gv (aBL F) (fun _=>rfl) (fun _=>rfl) (fun _ _ _=>rfl)
def Dh (n:Nat)(b:iY):Prop:=(yZ .i64 b.Kind/\(b.Key.length<=n/\(b.Val.length<=n/\(yZ .i64 b.Num/\yZ .i64 b.nN))))
theorem awx:∀F,eX F Tryz.prog S szB 108 wO Dh:=fun F=>fJ underlying108 dS (fun _=>rfl) (aO rfl dS (eQ (fP underlying3)) (aO rfl dS (gq underlying9) (aO rfl dS (gq underlying9) (aO rfl dS (eQ (fP underlying3)) (fZ rfl dS (eQ (fP underlying3)))))))
theorem aDz:∀F,eX F Tryz.prog S szB 28 qg (fun n l=>l.length<=n/\∀a∈l,Dh n a):=fun F=>gJ (dflt:=r_) underlying28 (Cj dS) dS O0 (awx F) (fun _=>rfl) (fun _=>rfl) (fun _ _ _=>rfl)
def sO (n:Nat)(b:iP):Prop:=(JG n b.S/\((b.H.length<=n/\∀a∈b.H,yY n a)/\((b.L.length<=n/\∀a∈b.L,Dh n a)/\yZ .i64 b.Most)))
theorem aA2:∀F,eX F Tryz.prog S szB 30 pX sO:=fun F=>fJ underlying30 dS (fun _=>rfl) (aO rfl dS (aDP F) (aO rfl dS (aAy F) (aO rfl dS (aDz F) (fZ rfl dS (eQ (fP underlying3))))))
def Gy (n:Nat)(b:mJ):Prop:=(b.Key.length<=n/\b.Val.length<=n)
theorem awc:∀F,eX F Tryz.prog S szB 349 KN Gy:=fun F=>fJ underlying349 dS (fun _=>rfl) (aO rfl dS (gq underlying9) (fZ rfl dS (gq underlying9)))
theorem aDy:∀F,eX F Tryz.prog S szB 46 su (fun n l=>l.length<=n/\∀a∈l,Gy n a):=fun F=>gJ (dflt:=Nh) underlying46 (Cj dS) dS VO (awc F) (fun _=>rfl) (fun _=>rfl) (fun _ _ _=>rfl)
def TK (n:Nat)(b:Head):Prop:=(b.bG.length<=n/\(b.Method.length<=n/\(yZ .i64 b.fF/\(b.eY.length<=n/\∀a∈b.eY,Gy n a))))
theorem aDl:∀F,eX F Tryz.prog S szB 48 qh TK:=fun F=>fJ underlying48 dS (fun _=>rfl) (aO rfl dS (gq underlying9) (aO rfl dS (gq underlying9) (aO rfl dS (eQ (fP underlying3)) (fZ rfl dS (aDy F)))))
def vH (n:Nat)(b:dY):Prop:=(yZ .u8 b.Kind/\(yZ .i64 b.Now/\(yZ .i64 b.qB/\(yZ .i64 b.Id/\(TK n b.H/\(yZ .i64 b.Shape/\b.Data.length<=n))))))
theorem aCa:∀F,eX F Tryz.prog S szB 50 vT vH:=fun F=>fJ underlying50 dS (fun _=>rfl) (aO rfl dS (eQ (fP underlying5)) (aO rfl dS (eQ (fP underlying3)) (aO rfl dS (eQ (fP underlying3)) (aO rfl dS (eQ (fP underlying3)) (aO rfl dS (aDl F) (aO rfl dS (eQ (fP underlying3)) (fZ rfl dS (gq underlying9))))))))
theorem aCr:∀F,eX F Tryz.prog S szB 31 qF (fun n l=>l.length<=n/\∀a∈l,vH n a):=fun F=>gJ (dflt:=mD) underlying31 (Cj dS) dS Cf (aCa F) (fun _=>rfl) (fun _=>rfl) (fun _ _ _=>rfl)
theorem own:ownKnob Tryz.prog.godebug=none:=by kernel_rfl
theorem laidOut:laidOutB Tryz.prog=true:=by kernel_rfl
theorem aA8 (x:iP)(h:sO 1048576 x):okD x:=by
 obtain⟨⟨⟨_,h1⟩,⟨_,h2⟩,_,h3⟩,⟨_,h4⟩,⟨_,h5⟩,_⟩:=h;refine⟨⟨fun m hm=> ?_,fun e he=> ?_,fun v hv=> ?_⟩,fun m hm f hf n hn=> ?_,fun y hy=>(h4 y hy).1,fun y hy=>(h5 y hy).2.1⟩
 ·obtain⟨k1,k2,k3,k4,k5⟩:=h1 m hm;exact⟨k2.1,k3.1,k4.1,k1,k4.2⟩
 ·obtain⟨k1,_,k3,k4,k5⟩:=h2 e he;exact⟨k3.1,k4.1,k1⟩
 ·obtain⟨k1,k2,k3⟩:=h3 v hv;exact⟨k2.1,k1⟩
 ·obtain⟨k1,k2,k3,k4,k5⟩:=h1 m hm;obtain⟨_,_,_,_,_,_,_,q8,q9⟩:=k2.2 f hf;obtain⟨_,z1,z2,z3⟩:=(q9.2 n hn).2;exact z2
theorem aBz {a:iP×List dY}(h:sO 1048576 a.1/\a.2.length<=1048576/\∀x∈a.2,vH 1048576 x):okD a.1/\aDB a.2:=by
 refine⟨aA8 a.1 h.1,fun y hy=> ?_⟩;obtain⟨_,_,_,_,⟨k1,k2,_⟩,_⟩:=h.2.2 y hy;omega
end
end Go.Proofs.YtihakigfhcankaaGreatDoor
