/- Server: the table of codes. -/
import Derived.Test.YtgdmjfkdbfafjaaGreatDoorTie
import Derived.ProofKit
import Derived.OpenShut
import Derived.LaidMore
import Derived.Lay
import Derived.SevenTiedAt
import Derived.Stop.Joined
import Derived.ChangeOld
import Derived.ChangeSlices
import Derived.Lib.SmallJoins
import Derived.Test.YtgdmjfkdbfafjaaGreatDoorP6
import Derived.Test.YtgdmjfkdbfafjaaGreatDoorCards
import Derived.Deep.DeepHandedRow
namespace Go.Proofs.YtgdmjfkdbfafjaaGreatDoor
noncomputable section
open Go.ChangeShapes Go.WideShapes Go.ChangeAt Go.RowKit Go.Joins Go.Vc
open _root_.Go.Proofs.Tryz
set_option linter.unusedVariables false
set_option linter.unusedSimpArgs false
set_option maxRecDepth 100000
def aa4:List (String×DataW Unit):=[("unicode/utf8.acceptRanges",Rows.laid_unicode_utf8_acceptRanges),("wireschema/status.codes",Rows.laid_wireschema_status_codes),("unicode/utf8.first",Rows.laid_unicode_utf8_first)]
def yV:List (Int×Int):=[(0,0),(23,3),(21,6),(22,7),(3,7),(17,7),(10,4),(9,5),(20,8),(24,9),(25,13),(11,11),(19,11)]
theorem U8 {W:World}(h:laidMetH Tryz.prog aa4 W)(i:Nat)(N:i < 13):
  W.cell? ⟨0,i*2,none⟩=some (.int .i64 (yV.getD i (0,0)).1)/\W.cell? ⟨0,i*2+1,none⟩=some (.int .i64 (yV.getD i (0,0)).2):=by
 rw[MakeChecks.laidMetH_plain _ _ _ eQ]at h;obtain⟨Q,⟨_,_,_,_,_,_,_,_,_,_,⟨g,t,cs,D,p,q,o,E,w,J,_,_⟩,_⟩,_,_⟩:=h;obtain rfl:=Qct ((show Tryz.prog.globalNamed "wireschema/status.codes" =some 0 by kernel_rfl).symm.trans o);obtain rfl:=Qct ((show(Tryz.prog.globals[0]?).map (·.type)=some 213 by kernel_rfl).symm.trans E);obtain⟨j,m,_,L,_,R,y⟩:=DataW.trod_array underlying213 J;have e:Tryz.prog.cellsOf 212=2:=by kernel_rfl
 have A:Tryz.prog.cellsOf 38=1:=by kernel_rfl
 have M:Tryz.prog.cellsOf 3=1:=by kernel_rfl
 have z:=y i N;rw[e,Qay au]at z;obtain⟨c,x,_,G,_,s,u⟩:=DataW.trod_struct underlying212 z;have f0:DataW.trod (fun _=>()) Tryz.prog W 0 (fun _=>true) false x 38 ((((cs.toList.drop (i*2)).take 2).drop 0).take (Tryz.prog.cellsOf 38))=c[0]? :=u 0 _ rfl;have f1:DataW.trod (fun _=>()) Tryz.prog W 0 (fun _=>true) false x 3 ((((cs.toList.drop (i*2)).take 2).drop 1).take (Tryz.prog.cellsOf 3))=c[1]? :=u 1 _ rfl;have B:c.length=2:=s;rw[A]at f0;rw[M]at f1;rw[Qay au]at f0 f1;obtain⟨k,H,g0,_⟩:=DataW.trod_int underlying38 f0;obtain⟨l,K,C,_⟩:=DataW.trod_int underlying3 f1;have I:(j.map (·.1))=yV.map fun n=>(DataW.agg [.lit (.int .i64 n.1), .lit (.int .i64 n.2)]:DataW Unit):=(DataW.agg.inj (Prod.mk.inj L).1).symm
 have P:yV.length=13:=rfl;have d:(j.map (·.1))[i]? =(yV.map fun n=>(DataW.agg [.lit (.int .i64 n.1), .lit (.int .i64 n.2)]:DataW Unit))[i]? :=by rw[I]
 rw[Qbq,Qbq,Qay (by omega:i < j.length),Qay (by omega:i < yV.length),G]at d;have r:c=[c[0],c[1]]:=by
  match c,B with
  | [a,b],_=>rfl
 rw[r,g0,C]at d;have v:k=(yV.getD i (0,0)).1/\l=(yV.getD i (0,0)).2:=by
  simp only[YJ,P7,Kq,Qcj,DataW.agg.injEq,Qc5,DataW.lit.injEq,Lit.int.injEq,true_and,and_true]at d;rw[List.getD,Qay (by omega:i < yV.length)];exact d
 have O:cs.toList[i*2]? =some (.int .i64 k):=by
  have f:((((cs.toList.drop (i*2)).take 2).drop 0).take 1)[0]? =some (.int .i64 k):=by rw[H];rfl
  simpa using f
 have F:cs.toList[i*2+1]? =some (.int .i64 l):=by
  have f:((((cs.toList.drop (i*2)).take 2).drop 1).take 1)[0]? =some (.int .i64 l):=by rw[K];rfl
  simpa[Qcp,Qco]using f
 rw[World.var?_cell o w,World.var?_cell o w,<-v.1,<-v.2];exact⟨by simpa using O,by simpa using F⟩
theorem aMo {W:World}(h:laidMetH Tryz.prog aa4 W):ae9 S NoN W:=by
 intro i d q w' r;have o:(i,d)∈al9:=JO q;have t:(i,d)=(0,D.jC [⟨0,0⟩,⟨23,3⟩,⟨21,6⟩,⟨22,7⟩,⟨3,7⟩,⟨17,7⟩,⟨10,4⟩,⟨9,5⟩,⟨20,8⟩,⟨24,9⟩,⟨25,13⟩,⟨11,11⟩,⟨19,11⟩]):=List.mem_singleton.mp o;obtain⟨rfl,rfl⟩:=Prod.mk.inj t;have p:w'.heap[0]? =W.heap[0]? :=by
  refine r 0 ?_ (fun k=>k);have:=(U8 h 0 mi).1;unfold World.cell? at this;by_cases c:0 < W.heap.size
  ·exact c
  ·have e:W.heap[0]? =none:=Array.getElem?_eq_none au;simp[e]at this
 have u:∀k,w'.cell? ⟨0,k,none⟩=W.cell? ⟨0,k,none⟩:=fun k=>by
  unfold World.cell?;simp only[p]
 refine Cf.mk _ rfl (some ⟨0,0,none⟩) 13 (fun i j=> .int .i64 (if j=0 then(yV.getD i (0,0)).1 else(yV.getD i (0,0)).2)) (by decide+kernel) (by decide+kernel) ?_ ?_ ?_
 ·intro i j l g;have f:i < 13:=l;have m:j < 2:=g;refine⟨_,rfl,?_⟩;have s:(⟨0,0,none⟩:Addr).add (i*2+j)=⟨0,i*2+j,none⟩:=by
   unfold Addr.add;by_cases c:i*2+j=0
   ·rw[yY c,c]
   ·rw[yc c];simp
  show w'.cell? ((⟨0,0,none⟩:Addr).add (i*2+j))=_
  rw[s,u];obtain⟨a,b⟩:=U8 h i f;obtain rfl | rfl:j=0\/j=1:=by omega
  ·exact a
  ·exact b
 ·intro i j l g;have f:i < 13:=l;have m:j < 2:=g;obtain rfl | rfl:j=0\/j=1:=by omega
  all_goals (obtain rfl | rfl | rfl | rfl | rfl | rfl | rfl | rfl | rfl | rfl | rfl | rfl | rfl:i=0\/i=1\/i=2\/i=3\/i=4\/i=5\/i=6\/i=7\/i=8\/i=9\/i=10\/i=11\/i=12:=by omega)<;>rfl
 ·intro i j v l g n;have f:i < 13:=l;have m:j < 2:=g;obtain rfl | rfl:j=0\/j=1:=by omega
  all_goals (obtain rfl | rfl | rfl | rfl | rfl | rfl | rfl | rfl | rfl | rfl | rfl | rfl | rfl:i=0\/i=1\/i=2\/i=3\/i=4\/i=5\/i=6\/i=7\/i=8\/i=9\/i=10\/i=11\/i=12:=by omega)<;>cases n
theorem akX (a:Os)(args:Array Value):laidMetH Tryz.prog aa4 (((World.laidAll Tryz.prog a aa4).forCall (fun _ _=>0) ⟨#[],args,[]⟩).memory):=by
 rw[MakeChecks.laidMetH_plain _ _ _ eQ];exact laidMet_laidAll _ eQ eQ
theorem Ob {H:Type}{d:DataW H}:∀{l:List (DataW H)},d∈l->Rows.uptoBulk d<=Rows.uptoBulkAll l
 | x::l,h=>by
  simp only[Rows.uptoBulkAll];rcases EC.1 h with rfl | h
  ·omega
  ·have:=Ob h;omega
theorem axy {H:Type}(d:DataW H):1<=Rows.uptoBulk d:=by
 cases d with
 | lit l=>cases l<;>simp[Rows.uptoBulk]
 | nil=>simp[Rows.uptoBulk]
 | ptr d=>simp[Rows.uptoBulk]
 | slice b c=>simp[Rows.uptoBulk]
 | agg parts=>simp[Rows.uptoBulk]
 | iface t d=>simp[Rows.uptoBulk]
 | map a=>simp[Rows.uptoBulk]
 | held h=>simp[Rows.uptoBulk]
theorem ahM {H:Type}:∀l:List (DataW H),l.length<=Rows.uptoBulkAll l
 | []=>by simp[Rows.uptoBulkAll]
 | x::l=>by have:=axy x;have:=ahM l;simp only[Rows.uptoBulkAll,yG];omega
def szB:Sz Tryz.prog where
 M:=fun t d n=>Rows.uptoBulk d<=n
 str:=fun h=>by simp only[Rows.uptoBulk]at h;omega
 sl:=fun{H t e el sp n} _ _ h=>by
  simp only[Rows.uptoBulk]at h;have:=ahM el;exact⟨by omega,fun d hd=>by have:=Ob hd;omega⟩
 st:=fun{H t fs ps n} _ h i f p _ hp=>by
  simp only[Rows.uptoBulk]at h;have:=Ob (Qby hp);omega
def QL (n:Nat)(b:uS):Prop:=(CO .i64 b.Kind/\b.Name.length<=n)
theorem aH0:∀F,fZ F Tryz.prog S szB 71 wF QL:=fun F=>gz underlying71 eQ (fun _=>rfl) (aU rfl eQ (fF (gm underlying3)) (g_ rfl eQ (ik underlying9)))
def PX (n:Nat)(b:Raw):Prop:=(CO .i64 b.Num/\(CO .i64 b.iy/\(CO .u64 b.Bits/\b.Data.length<=n)))
theorem aBz:∀F,fZ F Tryz.prog S szB 295 pF PX:=fun F=>gz underlying295 eQ (fun _=>rfl) (aU rfl eQ (fF (gm underlying3)) (aU rfl eQ (fF (gm underlying3)) (aU rfl eQ (fF (gm underlying72)) (g_ rfl eQ (ik underlying9)))))
theorem aFZ:∀F,fZ F Tryz.prog S szB 76 bU (fun n l=>l.length<=n/\∀a∈l,PX n a):=fun F=>iD (dflt:=qf) underlying76 (Eh eQ) eQ ab4 (aBz F) (fun _=>rfl) (fun _=>rfl) (fun _ _ _=>rfl)
def yj (n:Nat)(b:ah):Prop:=(CO .i64 b.Kind/\(CO .u64 b.Bits/\(b.Text.length<=n/\(b.List.length<=n/\(b.Pairs.length<=n/\(b.Slots.length<=n/\(b.bM.length<=n/\∀a∈b.bM,PX n a)))))))
def ai6 (n:Nat)(b:Pair):Prop:=(True/\True)
def alG (n:Nat)(b:Slot):Prop:=(CO .i64 b.Num/\True)
theorem aad:∀F,fZ F Tryz.prog S szB 78 aP yj/\fZ F Tryz.prog S szB 355 wB ai6/\fZ F Tryz.prog S szB 288 nR alG
 | 0=>⟨Xu,Xu,Xu⟩
 | F+1=>by
  obtain⟨b,c,d⟩:=aad F;exact⟨EG (uB underlying78 eQ (fun _=>rfl) (aU rfl eQ (fF (gm underlying3)) (aU rfl eQ (fF (gm underlying72)) (aU rfl eQ (ik underlying9) (aU rfl eQ (iD (dflt:=gQ) underlying73 (Eh eQ) eQ YX b (fun _=>rfl) (fun _=>rfl) (fun _ _ _=>rfl)) (aU rfl eQ (iD (dflt:=iE) underlying74 (Eh eQ) eQ Y2 c (fun _=>rfl) (fun _=>rfl) (fun _ _ _=>rfl)) (aU rfl eQ (iD (dflt:=cO) underlying75 (Eh eQ) eQ Y3 d (fun _=>rfl) (fun _=>rfl) (fun _ _ _=>rfl)) (g_ rfl eQ (aFZ F))))))))) (fun n a h=>⟨h.1,h.2.1,h.2.2.1,h.2.2.2.1.1,h.2.2.2.2.1.1,h.2.2.2.2.2.1.1,h.2.2.2.2.2.2⟩),
   EG (uB underlying355 eQ (fun _=>rfl) (aU rfl eQ b (g_ rfl eQ b))) (fun n a h=>⟨trivial,trivial⟩),
   EG (uB underlying288 eQ (fun _=>rfl) (aU rfl eQ (fF (gm underlying3)) (g_ rfl eQ b))) (fun n a h=>⟨h.1,trivial⟩)⟩
theorem awZ:∀F,fZ F Tryz.prog S szB 78 aP yj:=fun F=>(aad F).1
def pK (n:Nat)(b:Note):Prop:=(b.Name.length<=n/\yj n b.Val)
theorem az9:∀F,fZ F Tryz.prog S szB 271 CZ pK:=fun F=>gz underlying271 eQ (fun _=>rfl) (aU rfl eQ (ik underlying9) (g_ rfl eQ (awZ F)))
theorem PK:∀F,fZ F Tryz.prog S szB 63 lS (fun n l=>l.length<=n/\∀a∈l,pK n a):=fun F=>iD (dflt:=sW) underlying63 (Eh eQ) eQ Y1 (az9 F) (fun _=>rfl) (fun _=>rfl) (fun _ _ _=>rfl)
def D8 (n:Nat)(b:aK):Prop:=(CO .i64 b.Num/\(b.Name.length<=n/\(CO .i64 b.Card/\(CO .i64 b.Key/\(QL n b.dH/\(b.Union.length<=n/\(True/\(yj n b.Default/\(b.Notes.length<=n/\∀a∈b.Notes,pK n a)))))))))
theorem aIq:∀F,fZ F Tryz.prog S szB 80 eG D8:=fun F=>gz underlying80 eQ (fun _=>rfl) (aU rfl eQ (fF (gm underlying3)) (aU rfl eQ (ik underlying9) (aU rfl eQ (fF (gm underlying3)) (aU rfl eQ (fF (gm underlying3)) (aU rfl eQ (aH0 F) (aU rfl eQ (ik underlying9) (aU rfl eQ (fF (We underlying4)) (aU rfl eQ (awZ F) (g_ rfl eQ (PK F))))))))))
theorem aGG:∀F,fZ F Tryz.prog S szB 81 iw (fun n l=>l.length<=n/\∀a∈l,D8 n a):=fun F=>iD (dflt:=aH) underlying81 (Eh eQ) eQ Oo (aIq F) (fun _=>rfl) (fun _=>rfl) (fun _ _ _=>rfl)
def Dn (n:Nat)(b:mg):Prop:=(CO .i64 b.From/\CO .i64 b.To)
theorem aDN:∀F,fZ F Tryz.prog S szB 267 Tm Dn:=fun F=>gz underlying267 eQ (fun _=>rfl) (aU rfl eQ (fF (gm underlying3)) (g_ rfl eQ (fF (gm underlying3))))
theorem au0:∀F,fZ F Tryz.prog S szB 82 p_ (fun n l=>l.length<=n/\∀a∈l,Dn n a):=fun F=>iD (dflt:=tJ) underlying82 (Eh eQ) eQ Y4 (aDN F) (fun _=>rfl) (fun _=>rfl) (fun _ _ _=>rfl)
theorem aHG:∀F,fZ F Tryz.prog S szB 83 bV (fun n l=>l.length<=n/\∀a∈l,a.length<=n):=fun F=>iD (dflt:=[]) underlying83 (Eh eQ) eQ aca (ik underlying9) (fun _=>rfl) (fun _=>rfl) (fun _ _ _=>rfl)
def AO (n:Nat)(b:aO):Prop:=(b.Name.length<=n/\((b.Fields.length<=n/\∀a∈b.Fields,D8 n a)/\((b.Reserved.length<=n/\∀a∈b.Reserved,Dn n a)/\((b.Gone.length<=n/\∀a∈b.Gone,a.length<=n)/\(b.Notes.length<=n/\∀a∈b.Notes,pK n a)))))
theorem aId:∀F,fZ F Tryz.prog S szB 85 gu AO:=fun F=>gz underlying85 eQ (fun _=>rfl) (aU rfl eQ (ik underlying9) (aU rfl eQ (aGG F) (aU rfl eQ (au0 F) (aU rfl eQ (aHG F) (g_ rfl eQ (PK F))))))
theorem aIK:∀F,fZ F Tryz.prog S szB 22 ug (fun n l=>l.length<=n/\∀a∈l,AO n a):=fun F=>iD (dflt:=dP) underlying22 (Eh eQ) eQ AX (aId F) (fun _=>rfl) (fun _=>rfl) (fun _ _ _=>rfl)
def J6 (n:Nat)(b:Item):Prop:=(b.Name.length<=n/\(CO .i64 b.Num/\(b.Notes.length<=n/\∀a∈b.Notes,pK n a)))
theorem aBN:∀F,fZ F Tryz.prog S szB 243 nz J6:=fun F=>gz underlying243 eQ (fun _=>rfl) (aU rfl eQ (ik underlying9) (aU rfl eQ (fF (gm underlying3)) (g_ rfl eQ (PK F))))
theorem aA8:∀F,fZ F Tryz.prog S szB 159 iQ (fun n l=>l.length<=n/\∀a∈l,J6 n a):=fun F=>iD (dflt:=jI) underlying159 (Eh eQ) eQ YZ (aBN F) (fun _=>rfl) (fun _=>rfl) (fun _ _ _=>rfl)
def JR (n:Nat)(b:dV):Prop:=(b.Name.length<=n/\(True/\((b.Items.length<=n/\∀a∈b.Items,J6 n a)/\((b.Reserved.length<=n/\∀a∈b.Reserved,Dn n a)/\(b.Notes.length<=n/\∀a∈b.Notes,pK n a)))))
theorem aB0:∀F,fZ F Tryz.prog S szB 161 kC JR:=fun F=>gz underlying161 eQ (fun _=>rfl) (aU rfl eQ (ik underlying9) (aU rfl eQ (fF (We underlying4)) (aU rfl eQ (aA8 F) (aU rfl eQ (au0 F) (g_ rfl eQ (PK F))))))
theorem aIr:∀F,fZ F Tryz.prog S szB 23 iK (fun n l=>l.length<=n/\∀a∈l,JR n a):=fun F=>iD (dflt:=kE) underlying23 (Eh eQ) eQ YY (aB0 F) (fun _=>rfl) (fun _=>rfl) (fun _ _ _=>rfl)
def Aw (n:Nat)(b:fC):Prop:=(b.Name.length<=n/\(b.In.length<=n/\(b.Out.length<=n/\(CO .i64 b.Shape/\(b.Notes.length<=n/\∀a∈b.Notes,pK n a)))))
theorem aHi:∀F,fZ F Tryz.prog S szB 65 rq Aw:=fun F=>gz underlying65 eQ (fun _=>rfl) (aU rfl eQ (ik underlying9) (aU rfl eQ (ik underlying9) (aU rfl eQ (ik underlying9) (aU rfl eQ (fF (gm underlying3)) (g_ rfl eQ (PK F))))))
theorem aHZ:∀F,fZ F Tryz.prog S szB 86 zt (fun n l=>l.length<=n/\∀a∈l,Aw n a):=fun F=>iD (dflt:=fG) underlying86 (Eh eQ) eQ I9 (aHi F) (fun _=>rfl) (fun _=>rfl) (fun _ _ _=>rfl)
def Az (n:Nat)(b:bQ):Prop:=(b.Name.length<=n/\((b.Methods.length<=n/\∀a∈b.Methods,Aw n a)/\(b.Notes.length<=n/\∀a∈b.Notes,pK n a)))
theorem aGT:∀F,fZ F Tryz.prog S szB 88 qU Az:=fun F=>gz underlying88 eQ (fun _=>rfl) (aU rfl eQ (ik underlying9) (aU rfl eQ (aHZ F) (g_ rfl eQ (PK F))))
theorem aGz:∀F,fZ F Tryz.prog S szB 24 zW (fun n l=>l.length<=n/\∀a∈l,Az n a):=fun F=>iD (dflt:=lu) underlying24 (Eh eQ) eQ Ja (aGT F) (fun _=>rfl) (fun _=>rfl) (fun _ _ _=>rfl)
def N8 (n:Nat)(b:ay):Prop:=((b.Messages.length<=n/\∀a∈b.Messages,AO n a)/\((b.Enums.length<=n/\∀a∈b.Enums,JR n a)/\(b.dQ.length<=n/\∀a∈b.dQ,Az n a)))
theorem aIc:∀F,fZ F Tryz.prog S szB 26 bH N8:=fun F=>gz underlying26 eQ (fun _=>rfl) (aU rfl eQ (aIK F) (aU rfl eQ (aIr F) (g_ rfl eQ (aGz F))))
def AQ (n:Nat)(b:dF):Prop:=(b.Method.length<=n/\(CO .i64 b.Kind/\(CO .i64 b.Num/\CO .i64 b.ay_)))
theorem aF4:∀F,fZ F Tryz.prog S szB 61 jR AQ:=fun F=>gz underlying61 eQ (fun _=>rfl) (aU rfl eQ (ik underlying9) (aU rfl eQ (fF (gm underlying3)) (aU rfl eQ (fF (gm underlying3)) (g_ rfl eQ (fF (gm underlying3))))))
theorem aFI:∀F,fZ F Tryz.prog S szB 27 wJ (fun n l=>l.length<=n/\∀a∈l,AQ n a):=fun F=>iD (dflt:=lm) underlying27 (Eh eQ) eQ I_ (aF4 F) (fun _=>rfl) (fun _=>rfl) (fun _ _ _=>rfl)
def Fg (n:Nat)(b:jA):Prop:=(CO .i64 b.Kind/\(b.Key.length<=n/\(b.Val.length<=n/\(CO .i64 b.Num/\CO .i64 b.mg))))
theorem aAV:∀F,fZ F Tryz.prog S szB 114 yL Fg:=fun F=>gz underlying114 eQ (fun _=>rfl) (aU rfl eQ (fF (gm underlying3)) (aU rfl eQ (ik underlying9) (aU rfl eQ (ik underlying9) (aU rfl eQ (fF (gm underlying3)) (g_ rfl eQ (fF (gm underlying3)))))))
theorem aGL:∀F,fZ F Tryz.prog S szB 28 rC (fun n l=>l.length<=n/\∀a∈l,Fg n a):=fun F=>iD (dflt:=uQ) underlying28 (Eh eQ) eQ Sj (aAV F) (fun _=>rfl) (fun _=>rfl) (fun _ _ _=>rfl)
def qG (n:Nat)(b:iH):Prop:=(N8 n b.S/\((b.H.length<=n/\∀a∈b.H,AQ n a)/\((b.L.length<=n/\∀a∈b.L,Fg n a)/\CO .i64 b.Most)))
theorem aGZ:∀F,fZ F Tryz.prog S szB 30 qV qG:=fun F=>gz underlying30 eQ (fun _=>rfl) (aU rfl eQ (aIc F) (aU rfl eQ (aFI F) (aU rfl eQ (aGL F) (g_ rfl eQ (fF (gm underlying3))))))
def JJ (n:Nat)(b:nV):Prop:=(b.Key.length<=n/\b.Val.length<=n)
theorem aCy:∀F,fZ F Tryz.prog S szB 106 MZ JJ:=fun F=>gz underlying106 eQ (fun _=>rfl) (aU rfl eQ (ik underlying9) (g_ rfl eQ (ik underlying9)))
theorem aFM:∀F,fZ F Tryz.prog S szB 46 uw (fun n l=>l.length<=n/\∀a∈l,JJ n a):=fun F=>iD (dflt:=Aq) underlying46 (Eh eQ) eQ Y0 (aCy F) (fun _=>rfl) (fun _=>rfl) (fun _ _ _=>rfl)
def Xr (n:Nat)(b:Head):Prop:=(b.bQ.length<=n/\(b.Method.length<=n/\(CO .i64 b.fK/\(b.dL.length<=n/\∀a∈b.dL,JJ n a))))
theorem aGh:∀F,fZ F Tryz.prog S szB 48 rE Xr:=fun F=>gz underlying48 eQ (fun _=>rfl) (aU rfl eQ (ik underlying9) (aU rfl eQ (ik underlying9) (aU rfl eQ (fF (gm underlying3)) (g_ rfl eQ (aFM F)))))
def wW (n:Nat)(b:fA):Prop:=(CO .u8 b.Kind/\(CO .i64 b.Now/\(CO .i64 b.qy/\(CO .i64 b.Id/\(Xr n b.H/\(CO .i64 b.Shape/\b.Data.length<=n))))))
theorem aHQ:∀F,fZ F Tryz.prog S szB 50 xB wW:=fun F=>gz underlying50 eQ (fun _=>rfl) (aU rfl eQ (fF (gm underlying5)) (aU rfl eQ (fF (gm underlying3)) (aU rfl eQ (fF (gm underlying3)) (aU rfl eQ (fF (gm underlying3)) (aU rfl eQ (aGh F) (aU rfl eQ (fF (gm underlying3)) (g_ rfl eQ (ik underlying9))))))))
theorem aGQ:∀F,fZ F Tryz.prog S szB 31 rX (fun n l=>l.length<=n/\∀a∈l,wW n a):=fun F=>iD (dflt:=kH) underlying31 (Eh eQ) eQ Es (aHQ F) (fun _=>rfl) (fun _=>rfl) (fun _ _ _=>rfl)
theorem own:ownKnob Tryz.prog.godebug=none:=by kernel_rfl
theorem laidOut:laidOutB Tryz.prog=true:=by kernel_rfl
theorem agl (v:ah)(h:yj 1048576 v):FB v:=by
 obtain⟨_,e,f,c,a,b,d⟩:=h;simp only[CO]at e;exact⟨by omega,by omega,f,c,a,b,d.1⟩
theorem Gw (l:List Note)(h:∀a∈l,pK 1048576 a):Yu l:=fun n b=>agl n.Val (h n b).2
theorem aIs (x:iH)(h:qG 1048576 x):okD x:=by
 obtain⟨⟨⟨_,k⟩,⟨_,t⟩,_,w⟩,⟨_,s⟩,⟨_,u⟩,_⟩:=h;refine⟨⟨fun m g=> ?_,fun e o=> ?_,fun v r=> ?_⟩,fun m g f q n p=> ?_,fun y i=>(s y i).1,fun y i=>(u y i).2.1⟩
 ·obtain⟨a,d,c,b,j⟩:=k m g;exact⟨d.1,c.1,b.1,a,b.2⟩
 ·obtain⟨a,_,c,b,j⟩:=t e o;exact⟨c.1,b.1,a⟩
 ·obtain⟨a,d,c⟩:=w v r;exact⟨d.1,a⟩
 ·obtain⟨a,d,c,b,j⟩:=k m g;obtain⟨_,_,_,_,_,_,_,A,z⟩:=d.2 f q;obtain⟨_,B,l,C⟩:=(z.2 n p).2;exact l
theorem aCU (x:iH)(h:qG 1048576 x):aAw x.1:=by
 obtain⟨⟨⟨_,r⟩,⟨_,t⟩,_,p⟩,_⟩:=h;refine⟨fun m c=> ?_,fun e j=> ?_,fun v n=> ?_⟩
 ·obtain⟨g,d,a,l,b⟩:=r m c;refine⟨Gw _ b.2,fun f k=> ?_⟩;obtain⟨_,_,_,_,_,_,_,o,q⟩:=d.2 f k;exact⟨agl _ o,Gw _ q.2⟩
 ·obtain⟨g,_,a,l,b⟩:=t e j;exact⟨Gw _ b.2,fun i s=>Gw _ (a.2 i s).2.2.2⟩
 ·obtain⟨g,d,a⟩:=p v n;exact⟨Gw _ a.2,fun m c=>Gw _ (d.2 m c).2.2.2.2.2⟩
theorem aGf {a:iH×List fA×Int}(b:qG 1048576 a.1)(d:a.2.1.length<=1048576/\∀x∈a.2.1,wW 1048576 x):okD a.1/\aHm a.2.1/\aAw a.1.1:=by
 refine⟨aIs a.1 b,fun y c=> ?_,aCU a.1 b⟩;obtain⟨_,_,_,_,⟨e,f,_⟩,_⟩:=d.2 y c;omega
end
end Go.Proofs.YtgdmjfkdbfafjaaGreatDoor
