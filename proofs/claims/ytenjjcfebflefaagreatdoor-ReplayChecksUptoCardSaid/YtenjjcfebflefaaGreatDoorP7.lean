/- Replay: the law ReplayChecks holds for every input of bounded bulk. -/
import Derived.Test.YtenjjcfebflefaaGreatDoorP6
import Derived.Test.YtenjjcfebflefaaGreatDoorCards
import Derived.Deep.DeepHandedRow
import Derived.Test.YtenjjcfebflefaaGreatDoorTie
import Derived.ProofKit
import Derived.OpenShut
import Derived.LaidMore
import Derived.Lay
import Derived.SevenTiedAt
import Derived.Stop.Joined
import Derived.ChangeOld
import Derived.ChangeSlices
import Derived.Lib.SmallJoins
namespace Go.Proofs.YtenjjcfebflefaaGreatDoor
noncomputable section
open Go.ChangeShapes Go.WideShapes Go.ChangeAt Go.RowKit Go.Joins Go.Vc
open _root_.Go.Proofs.Tryz
set_option linter.unusedVariables false
set_option linter.unusedSimpArgs false
set_option maxRecDepth 100000
theorem OE {H:Type}{d:DataW H}:∀{l:List (DataW H)},d∈l->Rows.uptoBulk d<=Rows.uptoBulkAll l
 | x::l,h=>by
  simp only[Rows.uptoBulkAll];rcases zN.1 h with rfl | h
  ·omega
  ·have:=OE h;omega
theorem axn {H:Type}(d:DataW H):1<=Rows.uptoBulk d:=by
 cases d with
 | lit l=>cases l<;>simp[Rows.uptoBulk]
 | nil=>simp[Rows.uptoBulk]
 | ptr d=>simp[Rows.uptoBulk]
 | slice b c=>simp[Rows.uptoBulk]
 | agg parts=>simp[Rows.uptoBulk]
 | iface t d=>simp[Rows.uptoBulk]
 | map a=>simp[Rows.uptoBulk]
 | held h=>simp[Rows.uptoBulk]
theorem ah6 {H:Type}:∀l:List (DataW H),l.length<=Rows.uptoBulkAll l
 | []=>by simp[Rows.uptoBulkAll]
 | x::l=>by have:=axn x;have:=ah6 l;simp only[Rows.uptoBulkAll,zx];omega
def szB:Sz Tryz.prog where
 M:=fun t d n=>Rows.uptoBulk d<=n
 str:=fun h=>by simp only[Rows.uptoBulk]at h;omega
 sl:=fun{H t e el sp n} _ _ h=>by
  simp only[Rows.uptoBulk]at h;have:=ah6 el;exact⟨by omega,fun d hd=>by have:=OE hd;omega⟩
 st:=fun{H t fs ps n} _ h i f p _ hp=>by
  simp only[Rows.uptoBulk]at h;have:=OE (Qb8 hp);omega
def Q7 (n:Nat)(b:DD):Prop:=(FX .i64 b.Kind/\b.Name.length<=n)
theorem aDw:∀F,gU F Tryz.prog S szB 59 wW Q7:=fun F=>iJ underlying59 fO (fun _=>rfl) (bD rfl fO (jO (kR underlying3)) (iQ rfl fO (jo underlying9)))
def Qx (n:Nat)(b:Raw):Prop:=(FX .i64 b.Num/\(FX .i64 b.eF/\(FX .u64 b.Bits/\b.Data.length<=n)))
theorem azP:∀F,gU F Tryz.prog S szB 284 qM Qx:=fun F=>iJ underlying284 fO (fun _=>rfl) (bD rfl fO (jO (kR underlying3)) (bD rfl fO (jO (kR underlying3)) (bD rfl fO (jO (kR underlying60)) (iQ rfl fO (jo underlying9)))))
theorem aGb:∀F,gU F Tryz.prog S szB 63 iH (fun n l=>l.length<=n/\∀a∈l,Qx n a):=fun F=>jk (dflt:=Ak) underlying63 (EU fO) fO acr (azP F) (fun _=>rfl) (fun _=>rfl) (fun _ _ _=>rfl)
def yT (n:Nat)(b:af):Prop:=(FX .i64 b.Kind/\(FX .u64 b.Bits/\(b.Text.length<=n/\(b.List.length<=n/\(b.Pairs.length<=n/\(b.Slots.length<=n/\(b.dH.length<=n/\∀a∈b.dH,Qx n a)))))))
def alr (n:Nat)(b:Pair):Prop:=(True/\True)
def ali (n:Nat)(b:Slot):Prop:=(FX .i64 b.Num/\True)
theorem aat:∀F,gU F Tryz.prog S szB 65 aH yT/\gU F Tryz.prog S szB 300 yg alr/\gU F Tryz.prog S szB 291 MB ali
 | 0=>⟨YQ,YQ,YQ⟩
 | F+1=>by
  obtain⟨b,d,c⟩:=aat F;exact⟨Gv (uO underlying65 fO (fun _=>rfl) (bD rfl fO (jO (kR underlying3)) (bD rfl fO (jO (kR underlying60)) (bD rfl fO (jo underlying9) (bD rfl fO (jk (dflt:=l_) underlying51 (EU fO) fO Zx b (fun _=>rfl) (fun _=>rfl) (fun _ _ _=>rfl)) (bD rfl fO (jk (dflt:=fH) underlying61 (EU fO) fO ZB d (fun _=>rfl) (fun _=>rfl) (fun _ _ _=>rfl)) (bD rfl fO (jk (dflt:=iV) underlying62 (EU fO) fO ZC c (fun _=>rfl) (fun _=>rfl) (fun _ _ _=>rfl)) (iQ rfl fO (aGb F))))))))) (fun n a h=>⟨h.1,h.2.1,h.2.2.1,h.2.2.2.1.1,h.2.2.2.2.1.1,h.2.2.2.2.2.1.1,h.2.2.2.2.2.2⟩),
   Gv (uO underlying300 fO (fun _=>rfl) (bD rfl fO b (iQ rfl fO b))) (fun n a h=>⟨trivial,trivial⟩),
   Gv (uO underlying291 fO (fun _=>rfl) (bD rfl fO (jO (kR underlying3)) (iQ rfl fO b))) (fun n a h=>⟨h.1,trivial⟩)⟩
theorem aud:∀F,gU F Tryz.prog S szB 65 aH yT:=fun F=>(aat F).1
def pg (n:Nat)(b:Note):Prop:=(b.Name.length<=n/\yT n b.Val)
theorem aBi:∀F,gU F Tryz.prog S szB 143 EY pg:=fun F=>iJ underlying143 fO (fun _=>rfl) (bD rfl fO (jo underlying9) (iQ rfl fO (aud F)))
theorem Qr:∀F,gU F Tryz.prog S szB 45 jE (fun n l=>l.length<=n/\∀a∈l,pg n a):=fun F=>jk (dflt:=qI) underlying45 (EU fO) fO ZA (aBi F) (fun _=>rfl) (fun _=>rfl) (fun _ _ _=>rfl)
def DY (n:Nat)(b:bu):Prop:=(FX .i64 b.Num/\(b.Name.length<=n/\(FX .i64 b.Card/\(FX .i64 b.Key/\(Q7 n b.di/\(b.Union.length<=n/\(True/\(yT n b.Default/\(b.Notes.length<=n/\∀a∈b.Notes,pg n a)))))))))
theorem aFX:∀F,gU F Tryz.prog S szB 67 iK DY:=fun F=>iJ underlying67 fO (fun _=>rfl) (bD rfl fO (jO (kR underlying3)) (bD rfl fO (jo underlying9) (bD rfl fO (jO (kR underlying3)) (bD rfl fO (jO (kR underlying3)) (bD rfl fO (aDw F) (bD rfl fO (jo underlying9) (bD rfl fO (jO (Zm underlying4)) (bD rfl fO (aud F) (iQ rfl fO (Qr F))))))))))
theorem aFi:∀F,gU F Tryz.prog S szB 68 jI (fun n l=>l.length<=n/\∀a∈l,DY n a):=fun F=>jk (dflt:=aB) underlying68 (EU fO) fO Pn (aFX F) (fun _=>rfl) (fun _=>rfl) (fun _ _ _=>rfl)
def EH (n:Nat)(b:ou):Prop:=(FX .i64 b.From/\FX .i64 b.To)
theorem azC:∀F,gU F Tryz.prog S szB 137 Vm EH:=fun F=>iJ underlying137 fO (fun _=>rfl) (bD rfl fO (jO (kR underlying3)) (iQ rfl fO (jO (kR underlying3))))
theorem auW:∀F,gU F Tryz.prog S szB 69 pW (fun n l=>l.length<=n/\∀a∈l,EH n a):=fun F=>jk (dflt:=vF) underlying69 (EU fO) fO ZE (azC F) (fun _=>rfl) (fun _=>rfl) (fun _ _ _=>rfl)
theorem akb:∀F,gU F Tryz.prog S szB 27 dI (fun n l=>l.length<=n/\∀a∈l,a.length<=n):=fun F=>jk (dflt:=[]) underlying27 (EU fO) fO aek (jo underlying9) (fun _=>rfl) (fun _=>rfl) (fun _ _ _=>rfl)
def Bh (n:Nat)(b:aK):Prop:=(b.Name.length<=n/\((b.Fields.length<=n/\∀a∈b.Fields,DY n a)/\((b.Reserved.length<=n/\∀a∈b.Reserved,EH n a)/\((b.Gone.length<=n/\∀a∈b.Gone,a.length<=n)/\(b.Notes.length<=n/\∀a∈b.Notes,pg n a)))))
theorem aEH:∀F,gU F Tryz.prog S szB 71 jq Bh:=fun F=>iJ underlying71 fO (fun _=>rfl) (bD rfl fO (jo underlying9) (bD rfl fO (aFi F) (bD rfl fO (auW F) (bD rfl fO (akb F) (iQ rfl fO (Qr F))))))
theorem aDP:∀F,gU F Tryz.prog S szB 22 xB (fun n l=>l.length<=n/\∀a∈l,Bh n a):=fun F=>jk (dflt:=b_) underlying22 (EU fO) fO BI (aEH F) (fun _=>rfl) (fun _=>rfl) (fun _ _ _=>rfl)
def KU (n:Nat)(b:Item):Prop:=(b.Name.length<=n/\(FX .i64 b.Num/\(b.Notes.length<=n/\∀a∈b.Notes,pg n a)))
theorem aBc:∀F,gU F Tryz.prog S szB 139 Fh KU:=fun F=>iJ underlying139 fO (fun _=>rfl) (bD rfl fO (jo underlying9) (bD rfl fO (jO (kR underlying3)) (iQ rfl fO (Qr F))))
theorem aFN:∀F,gU F Tryz.prog S szB 88 oD (fun n l=>l.length<=n/\∀a∈l,KU n a):=fun F=>jk (dflt:=iT) underlying88 (EU fO) fO Zz (aBc F) (fun _=>rfl) (fun _=>rfl) (fun _ _ _=>rfl)
def J8 (n:Nat)(b:gu):Prop:=(b.Name.length<=n/\(True/\((b.Items.length<=n/\∀a∈b.Items,KU n a)/\((b.Reserved.length<=n/\∀a∈b.Reserved,EH n a)/\(b.Notes.length<=n/\∀a∈b.Notes,pg n a)))))
theorem aD3:∀F,gU F Tryz.prog S szB 90 o6 J8:=fun F=>iJ underlying90 fO (fun _=>rfl) (bD rfl fO (jo underlying9) (bD rfl fO (jO (Zm underlying4)) (bD rfl fO (aFN F) (bD rfl fO (auW F) (iQ rfl fO (Qr F))))))
theorem aDr:∀F,gU F Tryz.prog S szB 23 Dp (fun n l=>l.length<=n/\∀a∈l,J8 n a):=fun F=>jk (dflt:=fF) underlying23 (EU fO) fO Zy (aD3 F) (fun _=>rfl) (fun _=>rfl) (fun _ _ _=>rfl)
def Bq (n:Nat)(b:dS):Prop:=(b.Name.length<=n/\(b.In.length<=n/\(b.Out.length<=n/\(FX .i64 b.Shape/\(b.Notes.length<=n/\∀a∈b.Notes,pg n a)))))
theorem aEz:∀F,gU F Tryz.prog S szB 47 o_ Bq:=fun F=>iJ underlying47 fO (fun _=>rfl) (bD rfl fO (jo underlying9) (bD rfl fO (jo underlying9) (bD rfl fO (jo underlying9) (bD rfl fO (jO (kR underlying3)) (iQ rfl fO (Qr F))))))
theorem aEF:∀F,gU F Tryz.prog S szB 72 Bd (fun n l=>l.length<=n/\∀a∈l,Bq n a):=fun F=>jk (dflt:=iY) underlying72 (EU fO) fO JI (aEz F) (fun _=>rfl) (fun _=>rfl) (fun _ _ _=>rfl)
def BC (n:Nat)(b:dQ):Prop:=(b.Name.length<=n/\((b.Methods.length<=n/\∀a∈b.Methods,Bq n a)/\(b.Notes.length<=n/\∀a∈b.Notes,pg n a)))
theorem aEg:∀F,gU F Tryz.prog S szB 74 o5 BC:=fun F=>iJ underlying74 fO (fun _=>rfl) (bD rfl fO (jo underlying9) (bD rfl fO (aEF F) (iQ rfl fO (Qr F))))
theorem aDW:∀F,gU F Tryz.prog S szB 24 AZ (fun n l=>l.length<=n/\∀a∈l,BC n a):=fun F=>jk (dflt:=kJ) underlying24 (EU fO) fO JJ (aEg F) (fun _=>rfl) (fun _=>rfl) (fun _ _ _=>rfl)
def x_ (n:Nat)(b:aF):Prop:=((b.Messages.length<=n/\∀a∈b.Messages,Bh n a)/\((b.Enums.length<=n/\∀a∈b.Enums,J8 n a)/\(b.dC.length<=n/\∀a∈b.dC,BC n a)))
theorem aEZ:∀F,gU F Tryz.prog S szB 26 bV x_:=fun F=>iJ underlying26 fO (fun _=>rfl) (bD rfl fO (aDP F) (bD rfl fO (aDr F) (iQ rfl fO (aDW F))))
def MF (n:Nat)(b:Status):Prop:=(FX .i64 b.Code/\b.Text.length<=n)
theorem aE1:∀F,gU F Tryz.prog S szB 29 Dq MF:=fun F=>iJ underlying29 fO (fun _=>rfl) (bD rfl fO (jO (kR underlying3)) (iQ rfl fO (jo underlying9)))
def Xm (n:Nat)(b:Tape):Prop:=(b.Method.length<=n/\((b.In.length<=n/\∀a∈b.In,a.length<=n)/\((b.Out.length<=n/\∀a∈b.Out,a.length<=n)/\MF n b.Status)))
theorem aEa:∀F,gU F Tryz.prog S szB 31 Eo Xm:=fun F=>iJ underlying31 fO (fun _=>rfl) (bD rfl fO (jo underlying9) (bD rfl fO (akb F) (bD rfl fO (akb F) (iQ rfl fO (aE1 F)))))
theorem own:ownKnob Tryz.prog.godebug=none:=by kernel_rfl
theorem laidOut:laidOutB Tryz.prog=true:=by kernel_rfl
theorem ahN (v:af)(h:yT 1048576 v):xU v:=by
 obtain⟨_,e,d,c,a,f,b⟩:=h;simp only[FX]at e;exact⟨by omega,by omega,d,c,a,f,b.1⟩
theorem Hz (l:List Note)(h:∀a∈l,pg 1048576 a):XG l:=fun n b=>ahN n.Val (h n b).2
theorem aw8 {s:aF}(h:x_ 1048576 s):okB s/\FN s:=by
 obtain⟨⟨_,o⟩,⟨_,g⟩,_,k⟩:=h;refine⟨⟨fun m n=> ?_,fun e d=> ?_,fun v j=> ?_⟩,fun e d x l=> ?_⟩
 ·obtain⟨a,f,b,c,i⟩:=o m n;exact⟨f.1,b.1,c.1,a,c.2⟩
 ·obtain⟨a,_,b,c,i⟩:=g e d;exact⟨b.1,c.1,a⟩
 ·obtain⟨a,f,b⟩:=k v j;exact⟨f.1,a⟩
 ·obtain⟨a,_,b,c,i⟩:=g e d;exact(b.2 x l).2.2.1
theorem azp {s:aF}(h:x_ 1048576 s):aHM s:=by
 obtain⟨⟨_,r⟩,⟨_,o⟩,_,t⟩:=h;refine⟨fun m d=> ?_,fun e n=> ?_,fun v j=> ?_⟩
 ·obtain⟨g,b,a,l,c⟩:=r m d;refine⟨Hz _ c.2,fun f q=> ?_⟩;obtain⟨_,_,_,_,_,_,_,k,p⟩:=b.2 f q;exact⟨ahN _ k,Hz _ p.2⟩
 ·obtain⟨g,_,a,l,c⟩:=o e n;exact⟨Hz _ c.2,fun i u=>Hz _ (a.2 i u).2.2.2⟩
 ·obtain⟨g,b,a⟩:=t v j;exact⟨Hz _ a.2,fun m d=>Hz _ (b.2 m d).2.2.2.2.2⟩
theorem aEr {a:aF×Tape}(h:x_ 1048576 a.1/\Xm 1048576 a.2):okP a.1 a.2:=by
 obtain⟨b,t1,t2,t3,t4⟩:=h;exact⟨(aw8 b).1,azp b,(aw8 b).2,t1,t4.2,t2.1,t3.1⟩
def aiS:List (String×DataW Unit):=[("unicode/utf8.acceptRanges",Rows.laid_unicode_utf8_acceptRanges),("unicode/utf8.first",Rows.laid_unicode_utf8_first)]
theorem aHb {W:World}(h:laidMetH Tryz.prog aiS W):afD S NoN W:=fun i d a=>nomatch a
theorem alW (a:Os)(args:Array Value):laidMetH Tryz.prog aiS (((World.laidAll Tryz.prog a aiS).forCall (fun _ _=>0) ⟨#[],args,[]⟩).memory):=by
 rw[MakeChecks.laidMetH_plain _ _ _ fO];exact laidMet_laidAll _ fO fO
end
end Go.Proofs.YtenjjcfebflefaaGreatDoor
