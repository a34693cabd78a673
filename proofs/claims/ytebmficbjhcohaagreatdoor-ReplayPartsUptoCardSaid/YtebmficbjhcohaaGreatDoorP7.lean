/- Replay: what is laid. -/
import Derived.Test.YtebmficbjhcohaaGreatDoorTie
import Derived.ProofKit
import Derived.OpenShut
import Derived.LaidMore
import Derived.Lay
import Derived.SevenTiedAt
import Derived.Stop.Joined
import Derived.ChangeOld
import Derived.ChangeSlices
import Derived.Lib.SmallJoins
import Derived.Test.YtebmficbjhcohaaGreatDoorP6
import Derived.Test.YtebmficbjhcohaaGreatDoorCards
import Derived.Deep.DeepHandedRow
namespace Go.Proofs.YtebmficbjhcohaaGreatDoor
noncomputable section
open Go.ChangeShapes Go.WideShapes Go.ChangeAt Go.RowKit Go.Joins Go.Vc
open _root_.Go.Proofs.Tryz
set_option linter.unusedVariables false
set_option linter.unusedSimpArgs false
set_option maxRecDepth 100000
def adM:List (String×DataW Unit):=[("unicode/utf8.acceptRanges",Rows.laid_unicode_utf8_acceptRanges),("unicode/utf8.first",Rows.laid_unicode_utf8_first)]
theorem aHT {W:World}(h:laidMetH Tryz.prog adM W):ab5 S NoN W:=fun i d a=>nomatch a
theorem ahw (a:Os)(args:Array Value):laidMetH Tryz.prog adM (((World.laidAll Tryz.prog a adM).forCall (fun _ _=>0) ⟨#[],args,[]⟩).memory):=by
 rw[MakeChecks.laidMetH_plain _ _ _ eF];exact laidMet_laidAll _ eF eF
theorem Jh {H:Type}{d:DataW H}:∀{l:List (DataW H)},d∈l->Rows.uptoBulk d<=Rows.uptoBulkAll l
 | x::l,h=>by
  simp only[Rows.uptoBulkAll];rcases CW.1 h with rfl | h
  ·omega
  ·have:=Jh h;omega
theorem ar1 {H:Type}(d:DataW H):1<=Rows.uptoBulk d:=by
 cases d with
 | lit l=>cases l<;>simp[Rows.uptoBulk]
 | nil=>simp[Rows.uptoBulk]
 | ptr d=>simp[Rows.uptoBulk]
 | slice c b=>simp[Rows.uptoBulk]
 | agg parts=>simp[Rows.uptoBulk]
 | iface t d=>simp[Rows.uptoBulk]
 | map a=>simp[Rows.uptoBulk]
 | held h=>simp[Rows.uptoBulk]
theorem aer {H:Type}:∀l:List (DataW H),l.length<=Rows.uptoBulkAll l
 | []=>by simp[Rows.uptoBulkAll]
 | x::l=>by have:=ar1 x;have:=aer l;simp only[Rows.uptoBulkAll,AB];omega
def szB:Sz Tryz.prog where
 M:=fun t d n=>Rows.uptoBulk d<=n
 str:=fun h=>by simp only[Rows.uptoBulk]at h;omega
 sl:=fun{H t e el sp n} _ _ h=>by
  simp only[Rows.uptoBulk]at h;have:=aer el;exact⟨by omega,fun d hd=>by have:=Jh hd;omega⟩
 st:=fun{H t fs ps n} _ h i f p _ hp=>by
  simp only[Rows.uptoBulk]at h;have:=Jh (Qbl hp);omega
def Ol (n:Nat)(b:xg):Prop:=(Jv .i64 b.Kind/\b.Name.length<=n)
theorem aEH:∀F,fP F Tryz.prog S szB 54 uK Ol:=fun F=>gZ underlying54 eF (fun _=>rfl) (bi rfl eF (iM (jl underlying3)) (h_ rfl eF (iO underlying9)))
def MM (n:Nat)(b:Raw):Prop:=(Jv .i64 b.Num/\(Jv .i64 b.eY/\(Jv .u64 b.Bits/\b.Data.length<=n)))
theorem ayK:∀F,fP F Tryz.prog S szB 286 mQ MM:=fun F=>gZ underlying286 eF (fun _=>rfl) (bi rfl eF (iM (jl underlying3)) (bi rfl eF (iM (jl underlying3)) (bi rfl eF (iM (jl underlying55)) (h_ rfl eF (iO underlying9)))))
theorem aDM:∀F,fP F Tryz.prog S szB 59 bG (fun n l=>l.length<=n/\∀a∈l,MM n a):=fun F=>iw (dflt:=nH) underlying59 (Fa eF) eF YZ (ayK F) (fun _=>rfl) (fun _=>rfl) (fun _ _ _=>rfl)
def AQ (n:Nat)(b:af):Prop:=(Jv .i64 b.Kind/\(Jv .u64 b.Bits/\(b.Text.length<=n/\(b.List.length<=n/\(b.Pairs.length<=n/\(b.Slots.length<=n/\(b.bT.length<=n/\∀a∈b.bT,MM n a)))))))
def ahz (n:Nat)(b:Pair):Prop:=(True/\True)
def ag5 (n:Nat)(b:Slot):Prop:=(Jv .i64 b.Num/\True)
theorem X7:∀F,fP F Tryz.prog S szB 61 aK AQ/\fP F Tryz.prog S szB 297 qF ahz/\fP F Tryz.prog S szB 279 kY ag5
 | 0=>⟨RD,RD,RD⟩
 | F+1=>by
  obtain⟨b,d,c⟩:=X7 F;exact⟨Ec (rH underlying61 eF (fun _=>rfl) (bi rfl eF (iM (jl underlying3)) (bi rfl eF (iM (jl underlying55)) (bi rfl eF (iO underlying9) (bi rfl eF (iw (dflt:=fJ) underlying56 (Fa eF) eF VW b (fun _=>rfl) (fun _=>rfl) (fun _ _ _=>rfl)) (bi rfl eF (iw (dflt:=fO) underlying57 (Fa eF) eF V5 d (fun _=>rfl) (fun _=>rfl) (fun _ _ _=>rfl)) (bi rfl eF (iw (dflt:=bP) underlying58 (Fa eF) eF V6 c (fun _=>rfl) (fun _=>rfl) (fun _ _ _=>rfl)) (h_ rfl eF (aDM F))))))))) (fun n a h=>⟨h.1,h.2.1,h.2.2.1,h.2.2.2.1.1,h.2.2.2.2.1.1,h.2.2.2.2.2.1.1,h.2.2.2.2.2.2⟩),
   Ec (rH underlying297 eF (fun _=>rfl) (bi rfl eF b (h_ rfl eF b))) (fun n a h=>⟨trivial,trivial⟩),
   Ec (rH underlying279 eF (fun _=>rfl) (bi rfl eF (iM (jl underlying3)) (h_ rfl eF b))) (fun n a h=>⟨h.1,trivial⟩)⟩
theorem asL:∀F,fP F Tryz.prog S szB 61 aK AQ:=fun F=>(X7 F).1
def oZ (n:Nat)(b:Note):Prop:=(b.Name.length<=n/\AQ n b.Val)
theorem ayu:∀F,fP F Tryz.prog S szB 149 A8 oZ:=fun F=>gZ underlying149 eF (fun _=>rfl) (bi rfl eF (iO underlying9) (h_ rfl eF (asL F)))
theorem LP:∀F,fP F Tryz.prog S szB 62 kQ (fun n l=>l.length<=n/\∀a∈l,oZ n a):=fun F=>iw (dflt:=Be) underlying62 (Fa eF) eF V4 (ayu F) (fun _=>rfl) (fun _=>rfl) (fun _ _ _=>rfl)
def AU (n:Nat)(b:aP):Prop:=(Jv .i64 b.Num/\(b.Name.length<=n/\(Jv .i64 b.Card/\(Jv .i64 b.Key/\(Ol n b.dS/\(b.Union.length<=n/\(True/\(AQ n b.Default/\(b.Notes.length<=n/\∀a∈b.Notes,oZ n a)))))))))
theorem aCR:∀F,fP F Tryz.prog S szB 64 dY AU:=fun F=>gZ underlying64 eF (fun _=>rfl) (bi rfl eF (iM (jl underlying3)) (bi rfl eF (iO underlying9) (bi rfl eF (iM (jl underlying3)) (bi rfl eF (iM (jl underlying3)) (bi rfl eF (aEH F) (bi rfl eF (iO underlying9) (bi rfl eF (iM (Uw underlying4)) (bi rfl eF (asL F) (h_ rfl eF (LP F))))))))))
theorem aCG:∀F,fP F Tryz.prog S szB 65 fZ (fun n l=>l.length<=n/\∀a∈l,AU n a):=fun F=>iw (dflt:=aJ) underlying65 (Fa eF) eF KQ (aCR F) (fun _=>rfl) (fun _=>rfl) (fun _ _ _=>rfl)
def BU (n:Nat)(b:mG):Prop:=(Jv .i64 b.From/\Jv .i64 b.To)
theorem axy:∀F,fP F Tryz.prog S szB 145 PV BU:=fun F=>gZ underlying145 eF (fun _=>rfl) (bi rfl eF (iM (jl underlying3)) (h_ rfl eF (iM (jl underlying3))))
theorem aoS:∀F,fP F Tryz.prog S szB 66 ou (fun n l=>l.length<=n/\∀a∈l,BU n a):=fun F=>iw (dflt:=uO) underlying66 (Fa eF) eF V7 (axy F) (fun _=>rfl) (fun _=>rfl) (fun _ _ _=>rfl)
theorem ahh:∀F,fP F Tryz.prog S szB 39 bF (fun n l=>l.length<=n/\∀a∈l,a.length<=n):=fun F=>iw (dflt:=[]) underlying39 (Fa eF) eF aaj (iO underlying9) (fun _=>rfl) (fun _=>rfl) (fun _ _ _=>rfl)
def zh (n:Nat)(b:aX):Prop:=(b.Name.length<=n/\((b.Fields.length<=n/\∀a∈b.Fields,AU n a)/\((b.Reserved.length<=n/\∀a∈b.Reserved,BU n a)/\((b.Gone.length<=n/\∀a∈b.Gone,a.length<=n)/\(b.Notes.length<=n/\∀a∈b.Notes,oZ n a)))))
theorem aCM:∀F,fP F Tryz.prog S szB 68 fF zh:=fun F=>gZ underlying68 eF (fun _=>rfl) (bi rfl eF (iO underlying9) (bi rfl eF (aCG F) (bi rfl eF (aoS F) (bi rfl eF (ahh F) (h_ rfl eF (LP F))))))
theorem aFg:∀F,fP F Tryz.prog S szB 22 rq (fun n l=>l.length<=n/\∀a∈l,zh n a):=fun F=>iw (dflt:=f_) underlying22 (Fa eF) eF zy (aCM F) (fun _=>rfl) (fun _=>rfl) (fun _ _ _=>rfl)
def GK (n:Nat)(b:Item):Prop:=(b.Name.length<=n/\(Jv .i64 b.Num/\(b.Notes.length<=n/\∀a∈b.Notes,oZ n a)))
theorem axh:∀F,fP F Tryz.prog S szB 136 lV GK:=fun F=>gZ underlying136 eF (fun _=>rfl) (bi rfl eF (iO underlying9) (bi rfl eF (iM (jl underlying3)) (h_ rfl eF (LP F))))
theorem aFj:∀F,fP F Tryz.prog S szB 89 gW (fun n l=>l.length<=n/\∀a∈l,GK n a):=fun F=>iw (dflt:=kW) underlying89 (Fa eF) eF VY (axh F) (fun _=>rfl) (fun _=>rfl) (fun _ _ _=>rfl)
def Ho (n:Nat)(b:dP):Prop:=(b.Name.length<=n/\(True/\((b.Items.length<=n/\∀a∈b.Items,GK n a)/\((b.Reserved.length<=n/\∀a∈b.Reserved,BU n a)/\(b.Notes.length<=n/\∀a∈b.Notes,oZ n a)))))
theorem aEE:∀F,fP F Tryz.prog S szB 91 jv Ho:=fun F=>gZ underlying91 eF (fun _=>rfl) (bi rfl eF (iO underlying9) (bi rfl eF (iM (Uw underlying4)) (bi rfl eF (aFj F) (bi rfl eF (aoS F) (h_ rfl eF (LP F))))))
theorem aDt:∀F,fP F Tryz.prog S szB 23 gJ (fun n l=>l.length<=n/\∀a∈l,Ho n a):=fun F=>iw (dflt:=jV) underlying23 (Fa eF) eF VX (aEE F) (fun _=>rfl) (fun _=>rfl) (fun _ _ _=>rfl)
def yX (n:Nat)(b:fH):Prop:=(b.Name.length<=n/\(b.In.length<=n/\(b.Out.length<=n/\(Jv .i64 b.Shape/\(b.Notes.length<=n/\∀a∈b.Notes,oZ n a)))))
theorem aCO:∀F,fP F Tryz.prog S szB 70 pz yX:=fun F=>gZ underlying70 eF (fun _=>rfl) (bi rfl eF (iO underlying9) (bi rfl eF (iO underlying9) (bi rfl eF (iO underlying9) (bi rfl eF (iM (jl underlying3)) (h_ rfl eF (LP F))))))
theorem aCm:∀F,fP F Tryz.prog S szB 71 yJ (fun n l=>l.length<=n/\∀a∈l,yX n a):=fun F=>iw (dflt:=oD) underlying71 (Fa eF) eF Gm (aCO F) (fun _=>rfl) (fun _=>rfl) (fun _ _ _=>rfl)
def zi (n:Nat)(b:gU):Prop:=(b.Name.length<=n/\((b.Methods.length<=n/\∀a∈b.Methods,yX n a)/\(b.Notes.length<=n/\∀a∈b.Notes,oZ n a)))
theorem aE2:∀F,fP F Tryz.prog S szB 73 pI zi:=fun F=>gZ underlying73 eF (fun _=>rfl) (bi rfl eF (iO underlying9) (bi rfl eF (aCm F) (h_ rfl eF (LP F))))
theorem aEo:∀F,fP F Tryz.prog S szB 24 xU (fun n l=>l.length<=n/\∀a∈l,zi n a):=fun F=>iw (dflt:=qU) underlying24 (Fa eF) eF Gp (aE2 F) (fun _=>rfl) (fun _=>rfl) (fun _ _ _=>rfl)
def vT (n:Nat)(b:aH):Prop:=((b.Messages.length<=n/\∀a∈b.Messages,zh n a)/\((b.Enums.length<=n/\∀a∈b.Enums,Ho n a)/\(b.gK.length<=n/\∀a∈b.gK,zi n a)))
theorem apV:∀F,fP F Tryz.prog S szB 26 bn vT:=fun F=>gZ underlying26 eF (fun _=>rfl) (bi rfl eF (aFg F) (bi rfl eF (aDt F) (h_ rfl eF (aEo F))))
def zk (n:Nat)(b:bZ):Prop:=(b.Method.length<=n/\(Jv .i64 b.Kind/\(Jv .i64 b.Num/\Jv .i64 b.azA)))
theorem aFc:∀F,fP F Tryz.prog S szB 75 jc zk:=fun F=>gZ underlying75 eF (fun _=>rfl) (bi rfl eF (iO underlying9) (bi rfl eF (iM (jl underlying3)) (bi rfl eF (iM (jl underlying3)) (h_ rfl eF (iM (jl underlying3))))))
theorem aFv:∀F,fP F Tryz.prog S szB 27 pF (fun n l=>l.length<=n/\∀a∈l,zk n a):=fun F=>iw (dflt:=MV) underlying27 (Fa eF) eF Gn (aFc F) (fun _=>rfl) (fun _=>rfl) (fun _ _ _=>rfl)
def JQ (n:Nat)(b:Status):Prop:=(Jv .i64 b.Code/\b.Text.length<=n)
theorem aD7:∀F,fP F Tryz.prog S szB 41 lu JQ:=fun F=>gZ underlying41 eF (fun _=>rfl) (bi rfl eF (iM (jl underlying3)) (h_ rfl eF (iO underlying9)))
def G8 (n:Nat)(b:Tape):Prop:=(b.Method.length<=n/\((b.In.length<=n/\∀a∈b.In,a.length<=n)/\((b.Out.length<=n/\∀a∈b.Out,a.length<=n)/\JQ n b.Status)))
theorem aCe:∀F,fP F Tryz.prog S szB 43 PS G8:=fun F=>gZ underlying43 eF (fun _=>rfl) (bi rfl eF (iO underlying9) (bi rfl eF (ahh F) (bi rfl eF (ahh F) (h_ rfl eF (aD7 F)))))
theorem aCJ:∀F,fP F Tryz.prog S szB 28 zG (fun n l=>l.length<=n/\∀a∈l,G8 n a):=fun F=>iw (dflt:=jy) underlying28 (Fa eF) eF V8 (aCe F) (fun _=>rfl) (fun _=>rfl) (fun _ _ _=>rfl)
theorem own:ownKnob Tryz.prog.godebug=none:=by kernel_rfl
theorem laidOut:laidOutB Tryz.prog=true:=by kernel_rfl
theorem afF {s:aH}(h:vT 1048576 s):okB s/\okN s:=by
 obtain⟨⟨_,j⟩,⟨_,r⟩,_,u⟩:=h;refine⟨⟨fun m g=> ?_,fun e l=> ?_,fun v q=> ?_⟩,fun m g f t n p=> ?_⟩
 ·obtain⟨a,b,c,d,i⟩:=j m g;exact⟨b.1,c.1,d.1,a,d.2⟩
 ·obtain⟨a,_,c,d,i⟩:=r e l;exact⟨c.1,d.1,a⟩
 ·obtain⟨a,b,c⟩:=u v q;exact⟨b.1,a⟩
 ·obtain⟨a,b,c,d,i⟩:=j m g;obtain⟨_,_,_,_,_,_,_,y,k⟩:=b.2 f t;obtain⟨_,x,o,w⟩:=(k.2 n p).2;exact o
theorem aD3 {a:aH×aH×List bZ×List Tape}(h:vT 1048576 a.1/\vT 1048576 a.2.1/\(a.2.2.1.length<=1048576/\∀x∈a.2.2.1,zk 1048576 x)/\a.2.2.2.length<=1048576/\∀x∈a.2.2.2,G8 1048576 x):okP a.1 a.2.1 a.2.2.1 a.2.2.2:=by
 obtain⟨g,b,⟨_,c⟩,_,f⟩:=h;exact⟨(afF g).1,(afF b).1,(afF b).2,fun x d=>(c x d).1,fun t e=>(f t e).1⟩
end
end Go.Proofs.YtebmficbjhcohaaGreatDoor
