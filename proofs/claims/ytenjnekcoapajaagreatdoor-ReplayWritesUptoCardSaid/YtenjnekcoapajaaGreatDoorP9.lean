/- Replay: the law ReplayWrites holds for every input of bounded bulk. -/
import Derived.Test.YtenjnekcoapajaaGreatDoorP8
import Derived.Test.YtenjnekcoapajaaGreatDoorCards
import Derived.Deep.DeepHandedRow
import Derived.Test.YtenjnekcoapajaaGreatDoorTie
import Derived.ProofKit
import Derived.OpenShut
import Derived.LaidMore
import Derived.Lay
import Derived.SevenTiedAt
import Derived.Stop.Joined
import Derived.ChangeOld
import Derived.ChangeSlices
import Derived.Lib.SmallJoins
namespace Go.Proofs.YtenjnekcoapajaaGreatDoor
noncomputable section
open Go.ChangeShapes Go.WideShapes Go.ChangeAt Go.RowKit Go.Joins Go.Vc
open _root_.Go.Proofs.Tryz
set_option linter.unusedVariables false
set_option linter.unusedSimpArgs false
set_option maxRecDepth 100000
theorem KN {H:Type}{d:DataW H}:∀{l:List (DataW H)},d∈l->Rows.uptoBulk d<=Rows.uptoBulkAll l
 | x::l,h=>by
  simp only[Rows.uptoBulkAll];rcases yw.1 h with rfl | h
  ·omega
  ·have:=KN h;omega
theorem ard {H:Type}(d:DataW H):1<=Rows.uptoBulk d:=by
 cases d with
 | lit l=>cases l<;>simp[Rows.uptoBulk]
 | nil=>simp[Rows.uptoBulk]
 | ptr d=>simp[Rows.uptoBulk]
 | slice c b=>simp[Rows.uptoBulk]
 | agg parts=>simp[Rows.uptoBulk]
 | iface t d=>simp[Rows.uptoBulk]
 | map a=>simp[Rows.uptoBulk]
 | held h=>simp[Rows.uptoBulk]
theorem afp {H:Type}:∀l:List (DataW H),l.length<=Rows.uptoBulkAll l
 | []=>by simp[Rows.uptoBulkAll]
 | x::l=>by have:=ard x;have:=afp l;simp only[Rows.uptoBulkAll,JV];omega
def szB:Sz Tryz.prog where
 M:=fun t d n=>Rows.uptoBulk d<=n
 str:=fun h=>by simp only[Rows.uptoBulk]at h;omega
 sl:=fun{H t e el sp n} _ _ h=>by
  simp only[Rows.uptoBulk]at h;have:=afp el;exact⟨by omega,fun d hd=>by have:=KN hd;omega⟩
 st:=fun{H t fs ps n} _ h i f p _ hp=>by
  simp only[Rows.uptoBulk]at h;have:=KN (Qbz hp);omega
def OD (n:Nat)(b:zl):Prop:=(Dw .i64 b.Kind/\b.Name.length<=n)
theorem aFr:∀F,dX F Tryz.prog S szB 66 Em OD:=fun F=>fU underlying66 dM (fun _=>rfl) (aZ rfl dM (iO (jq underlying3)) (gm rfl dM (iq underlying9)))
def NJ (n:Nat)(b:Raw):Prop:=(Dw .i64 b.Num/\(Dw .i64 b.fB/\(Dw .u64 b.Bits/\b.Data.length<=n)))
theorem ayx:∀F,dX F Tryz.prog S szB 316 cd_Raw NJ:=fun F=>fU underlying316 dM (fun _=>rfl) (aZ rfl dM (iO (jq underlying3)) (aZ rfl dM (iO (jq underlying3)) (aZ rfl dM (iO (jq underlying67)) (gm rfl dM (iq underlying9)))))
theorem aDP:∀F,dX F Tryz.prog S szB 71 mQ (fun n l=>l.length<=n/\∀a∈l,NJ n a):=fun F=>gp (dflt:=zf) underlying71 (Dt dM) dM aan (ayx F) (fun _=>rfl) (fun _=>rfl) (fun _ _ _=>rfl)
def xk (n:Nat)(b:ae):Prop:=(Dw .i64 b.Kind/\(Dw .u64 b.Bits/\(b.Text.length<=n/\(b.List.length<=n/\(b.Pairs.length<=n/\(b.Slots.length<=n/\(b.Raws.length<=n/\∀a∈b.Raws,NJ n a)))))))
def ahu (n:Nat)(b:Pair):Prop:=(True/\True)
def ahW (n:Nat)(b:Slot):Prop:=(Dw .i64 b.Num/\True)
theorem Zm:∀F,dX F Tryz.prog S szB 73 cd_AVal xk/\dX F Tryz.prog S szB 341 vZ ahu/\dX F Tryz.prog S szB 309 JD ahW
 | 0=>⟨TF,TF,TF⟩
 | F+1=>by
  obtain⟨b,c,d⟩:=Zm F;exact⟨DR (ru underlying73 dM (fun _=>rfl) (aZ rfl dM (iO (jq underlying3)) (aZ rfl dM (iO (jq underlying67)) (aZ rfl dM (iq underlying9) (aZ rfl dM (gp (dflt:=jP) underlying68 (Dt dM) dM Xk b (fun _=>rfl) (fun _=>rfl) (fun _ _ _=>rfl)) (aZ rfl dM (gp (dflt:=dV) underlying69 (Dt dM) dM Xo c (fun _=>rfl) (fun _=>rfl) (fun _ _ _=>rfl)) (aZ rfl dM (gp (dflt:=gZ) underlying70 (Dt dM) dM Xp d (fun _=>rfl) (fun _=>rfl) (fun _ _ _=>rfl)) (gm rfl dM (aDP F))))))))) (fun n a h=>⟨h.1,h.2.1,h.2.2.1,h.2.2.2.1.1,h.2.2.2.2.1.1,h.2.2.2.2.2.1.1,h.2.2.2.2.2.2⟩),
   DR (ru underlying341 dM (fun _=>rfl) (aZ rfl dM b (gm rfl dM b))) (fun n a h=>⟨trivial,trivial⟩),
   DR (ru underlying309 dM (fun _=>rfl) (aZ rfl dM (iO (jq underlying3)) (gm rfl dM b))) (fun n a h=>⟨h.1,trivial⟩)⟩
theorem arL:∀F,dX F Tryz.prog S szB 73 cd_AVal xk:=fun F=>(Zm F).1
def mP (n:Nat)(b:Note):Prop:=(b.Name.length<=n/\xk n b.Val)
theorem az5:∀F,dX F Tryz.prog S szB 204 cd_Note mP:=fun F=>fU underlying204 dM (fun _=>rfl) (aZ rfl dM (iq underlying9) (gm rfl dM (arL F)))
theorem NF:∀F,dX F Tryz.prog S szB 59 cd_LNote (fun n l=>l.length<=n/\∀a∈l,mP n a):=fun F=>gp (dflt:=ou) underlying59 (Dt dM) dM Xn (az5 F) (fun _=>rfl) (fun _=>rfl) (fun _ _ _=>rfl)
def BN (n:Nat)(b:aN):Prop:=(Dw .i64 b.Num/\(b.Name.length<=n/\(Dw .i64 b.Card/\(Dw .i64 b.Key/\(OD n b.bV/\(b.Union.length<=n/\(True/\(xk n b.Default/\(b.Notes.length<=n/\∀a∈b.Notes,mP n a)))))))))
theorem aDU:∀F,dX F Tryz.prog S szB 75 cd_AField BN:=fun F=>fU underlying75 dM (fun _=>rfl) (aZ rfl dM (iO (jq underlying3)) (aZ rfl dM (iq underlying9) (aZ rfl dM (iO (jq underlying3)) (aZ rfl dM (iO (jq underlying3)) (aZ rfl dM (aFr F) (aZ rfl dM (iq underlying9) (aZ rfl dM (iO (U6 underlying4)) (aZ rfl dM (arL F) (gm rfl dM (NF F))))))))))
theorem aFQ:∀F,dX F Tryz.prog S szB 76 cd_LAField (fun n l=>l.length<=n/\∀a∈l,BN n a):=fun F=>gp (dflt:=aB) underlying76 (Dt dM) dM Me (aDU F) (fun _=>rfl) (fun _=>rfl) (fun _ _ _=>rfl)
def Ba (n:Nat)(b:ny):Prop:=(Dw .i64 b.From/\Dw .i64 b.To)
theorem ayg:∀F,dX F Tryz.prog S szB 198 Q5 Ba:=fun F=>fU underlying198 dM (fun _=>rfl) (aZ rfl dM (iO (jq underlying3)) (gm rfl dM (iO (jq underlying3))))
theorem asT:∀F,dX F Tryz.prog S szB 77 cd_LSpan (fun n l=>l.length<=n/\∀a∈l,Ba n a):=fun F=>gp (dflt:=tJ) underlying77 (Dt dM) dM Xq (ayg F) (fun _=>rfl) (fun _=>rfl) (fun _ _ _=>rfl)
theorem aiE:∀F,dX F Tryz.prog S szB 39 cd_Lstr (fun n l=>l.length<=n/\∀a∈l,a.length<=n):=fun F=>gp (dflt:=[]) underlying39 (Dt dM) dM ac0 (iq underlying9) (fun _=>rfl) (fun _=>rfl) (fun _ _ _=>rfl)
def zD (n:Nat)(b:aG):Prop:=(b.Name.length<=n/\((b.Fields.length<=n/\∀a∈b.Fields,BN n a)/\((b.Reserved.length<=n/\∀a∈b.Reserved,Ba n a)/\((b.Gone.length<=n/\∀a∈b.Gone,a.length<=n)/\(b.Notes.length<=n/\∀a∈b.Notes,mP n a)))))
theorem aEx:∀F,dX F Tryz.prog S szB 79 cd_Message zD:=fun F=>fU underlying79 dM (fun _=>rfl) (aZ rfl dM (iq underlying9) (aZ rfl dM (aFQ F) (aZ rfl dM (asT F) (aZ rfl dM (aiE F) (gm rfl dM (NF F))))))
theorem aEE:∀F,dX F Tryz.prog S szB 22 vg (fun n l=>l.length<=n/\∀a∈l,zD n a):=fun F=>gp (dflt:=bT) underlying22 (Dt dM) dM zH (aEx F) (fun _=>rfl) (fun _=>rfl) (fun _ _ _=>rfl)
def Hr (n:Nat)(b:Item):Prop:=(b.Name.length<=n/\(Dw .i64 b.Num/\(b.Notes.length<=n/\∀a∈b.Notes,mP n a)))
theorem aAW:∀F,dX F Tryz.prog S szB 200 CG Hr:=fun F=>fU underlying200 dM (fun _=>rfl) (aZ rfl dM (iq underlying9) (aZ rfl dM (iO (jq underlying3)) (gm rfl dM (NF F))))
theorem aA3:∀F,dX F Tryz.prog S szB 140 nD (fun n l=>l.length<=n/\∀a∈l,Hr n a):=fun F=>gp (dflt:=gQ) underlying140 (Dt dM) dM Xm (aAW F) (fun _=>rfl) (fun _=>rfl) (fun _ _ _=>rfl)
def IJ (n:Nat)(b:eu):Prop:=(b.Name.length<=n/\(True/\((b.Items.length<=n/\∀a∈b.Items,Hr n a)/\((b.Reserved.length<=n/\∀a∈b.Reserved,Ba n a)/\(b.Notes.length<=n/\∀a∈b.Notes,mP n a)))))
theorem axK:∀F,dX F Tryz.prog S szB 142 cd_Enum IJ:=fun F=>fU underlying142 dM (fun _=>rfl) (aZ rfl dM (iq underlying9) (aZ rfl dM (iO (U6 underlying4)) (aZ rfl dM (aA3 F) (aZ rfl dM (asT F) (gm rfl dM (NF F))))))
theorem aDW:∀F,dX F Tryz.prog S szB 23 AO (fun n l=>l.length<=n/\∀a∈l,IJ n a):=fun F=>gp (dflt:=dR) underlying23 (Dt dM) dM Xl (axK F) (fun _=>rfl) (fun _=>rfl) (fun _ _ _=>rfl)
def zF (n:Nat)(b:dh):Prop:=(b.Name.length<=n/\(b.In.length<=n/\(b.Out.length<=n/\(Dw .i64 b.Shape/\(b.Notes.length<=n/\∀a∈b.Notes,mP n a)))))
theorem aFL:∀F,dX F Tryz.prog S szB 61 qC zF:=fun F=>fU underlying61 dM (fun _=>rfl) (aZ rfl dM (iq underlying9) (aZ rfl dM (iq underlying9) (aZ rfl dM (iq underlying9) (aZ rfl dM (iO (jq underlying3)) (gm rfl dM (NF F))))))
theorem aDL:∀F,dX F Tryz.prog S szB 80 yR (fun n l=>l.length<=n/\∀a∈l,zF n a):=fun F=>gp (dflt:=dA) underlying80 (Dt dM) dM Hf (aFL F) (fun _=>rfl) (fun _=>rfl) (fun _ _ _=>rfl)
def zo (n:Nat)(b:bz):Prop:=(b.Name.length<=n/\((b.Methods.length<=n/\∀a∈b.Methods,zF n a)/\(b.Notes.length<=n/\∀a∈b.Notes,mP n a)))
theorem aDJ:∀F,dX F Tryz.prog S szB 82 cd_Service zo:=fun F=>fU underlying82 dM (fun _=>rfl) (aZ rfl dM (iq underlying9) (aZ rfl dM (aDL F) (gm rfl dM (NF F))))
theorem aEj:∀F,dX F Tryz.prog S szB 24 yF (fun n l=>l.length<=n/\∀a∈l,zo n a):=fun F=>gp (dflt:=iC) underlying24 (Dt dM) dM Hg (aDJ F) (fun _=>rfl) (fun _=>rfl) (fun _ _ _=>rfl)
def vU (n:Nat)(b:ax):Prop:=((b.Messages.length<=n/\∀a∈b.Messages,zD n a)/\((b.Enums.length<=n/\∀a∈b.Enums,IJ n a)/\(b.bK.length<=n/\∀a∈b.bK,zo n a)))
theorem aDZ:∀F,dX F Tryz.prog S szB 26 cd_Schema vU:=fun F=>fU underlying26 dM (fun _=>rfl) (aZ rfl dM (aEE F) (aZ rfl dM (aDW F) (gm rfl dM (aEj F))))
def Ku (n:Nat)(b:Status):Prop:=(Dw .i64 b.Code/\b.Text.length<=n)
theorem aC2:∀F,dX F Tryz.prog S szB 41 cd_Status Ku:=fun F=>fU underlying41 dM (fun _=>rfl) (aZ rfl dM (iO (jq underlying3)) (gm rfl dM (iq underlying9)))
def Ie (n:Nat)(b:Tape):Prop:=(b.Method.length<=n/\((b.In.length<=n/\∀a∈b.In,a.length<=n)/\((b.Out.length<=n/\∀a∈b.Out,a.length<=n)/\Ku n b.Status)))
theorem aD4:∀F,dX F Tryz.prog S szB 43 cd_Tape Ie:=fun F=>fU underlying43 dM (fun _=>rfl) (aZ rfl dM (iq underlying9) (aZ rfl dM (aiE F) (aZ rfl dM (aiE F) (gm rfl dM (aC2 F)))))
theorem aFl:∀F,dX F Tryz.prog S szB 27 cd_LTape (fun n l=>l.length<=n/\∀a∈l,Ie n a):=fun F=>gp (dflt:=iE) underlying27 (Dt dM) dM Xr (aD4 F) (fun _=>rfl) (fun _=>rfl) (fun _ _ _=>rfl)
theorem own:ownKnob Tryz.prog.godebug=none:=by kernel_rfl
theorem laidOut:laidOutB Tryz.prog=true:=by kernel_rfl
theorem afe (v:ae)(h:xk 1048576 v):vN v:=by
 obtain⟨_,a,e,f,c,b,d⟩:=h;simp only[Dw]at a;exact⟨by omega,by omega,e,f,c,b,d.1⟩
theorem Fh (l:List Note)(h:∀a∈l,mP 1048576 a):UB l:=fun n b=>afe n.Val (h n b).2
theorem arZ {s:ax}(h:vU 1048576 s):okB s/\noteQ s:=by
 obtain⟨⟨_,j⟩,⟨_,i⟩,_,l⟩:=h;refine⟨⟨fun m o=> ?_,fun e f=> ?_,fun v k=> ?_⟩,fun e f x n=> ?_⟩
 ·obtain⟨a,d,b,c,g⟩:=j m o;exact⟨d.1,b.1,c.1,a,c.2⟩
 ·obtain⟨a,_,b,c,g⟩:=i e f;exact⟨b.1,c.1,a⟩
 ·obtain⟨a,d,b⟩:=l v k;exact⟨d.1,a⟩
 ·obtain⟨a,_,b,c,g⟩:=i e f;exact(b.2 x n).2.2.1
theorem axU {s:ax}(h:vU 1048576 s):aHy s:=by
 obtain⟨⟨_,l⟩,⟨_,o⟩,_,r⟩:=h;refine⟨fun m d=> ?_,fun e k=> ?_,fun v q=> ?_⟩
 ·obtain⟨g,c,a,j,b⟩:=l m d;refine⟨Fh _ b.2,fun f n=> ?_⟩;obtain⟨_,_,_,_,_,_,_,p,t⟩:=c.2 f n;exact⟨afe _ p,Fh _ t.2⟩
 ·obtain⟨g,_,a,j,b⟩:=o e k;exact⟨Fh _ b.2,fun i u=>Fh _ (a.2 i u).2.2.2⟩
 ·obtain⟨g,c,a⟩:=r v q;exact⟨Fh _ a.2,fun m d=>Fh _ (c.2 m d).2.2.2.2.2⟩
theorem aFw {a:ax×List Tape}(h:vU 1048576 a.1/\a.2.length<=1048576/\∀t∈a.2,Ie 1048576 t):okP a.1 a.2:=by
 obtain⟨b,_,d⟩:=h;refine⟨(arZ b).1,axU b,(arZ b).2,fun t c=> ?_⟩;obtain⟨t1,t2,t3,t4⟩:=d t c;exact⟨t1,t4.2,t2.1,t3.1⟩
def adG:List (String×DataW Unit):=[("unicode/utf8.acceptRanges",Rows.laid_unicode_utf8_acceptRanges),("unicode/utf8.first",Rows.laid_unicode_utf8_first)]
theorem aHb {W:World}(h:laidMetH Tryz.prog adG W):ac4 S NoN W:=fun i d a=>nomatch a
theorem ai5 (a:Os)(args:Array Value):laidMetH Tryz.prog adG (((World.laidAll Tryz.prog a adG).forCall (fun _ _=>0) ⟨#[],args,[]⟩).memory):=by
 rw[MakeChecks.laidMetH_plain _ _ _ dM];exact laidMet_laidAll _ dM dM
end
end Go.Proofs.YtenjnekcoapajaaGreatDoor
