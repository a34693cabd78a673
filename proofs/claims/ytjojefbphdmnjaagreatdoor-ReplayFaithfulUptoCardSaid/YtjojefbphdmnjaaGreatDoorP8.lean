/- Replay: what is laid. -/
import Derived.Test.YtjojefbphdmnjaaGreatDoorTie
import Derived.ProofKit
import Derived.OpenShut
import Derived.LaidMore
import Derived.Lay
import Derived.SevenTiedAt
import Derived.Stop.Joined
import Derived.ChangeOld
import Derived.ChangeSlices
import Derived.Lib.SmallJoins
import Derived.Test.YtjojefbphdmnjaaGreatDoorP7
import Derived.Test.YtjojefbphdmnjaaGreatDoorCards
import Derived.Deep.DeepHandedRow
namespace Go.Proofs.YtjojefbphdmnjaaGreatDoor
noncomputable section
open Go.ChangeShapes Go.WideShapes Go.ChangeAt Go.RowKit Go.Joins Go.Vc
open _root_.Go.Proofs.Tryz
set_option linter.unusedVariables false
set_option linter.unusedSimpArgs false
set_option maxRecDepth 100000
def adq:List (String×DataW Unit):=[("unicode/utf8.acceptRanges",Rows.laid_unicode_utf8_acceptRanges),("unicode/utf8.first",Rows.laid_unicode_utf8_first)]
theorem aFL {W:World}(h:laidMetH Tryz.prog adq W):aai S NoN W:=fun i d a=>nomatch a
theorem agu (a:Os)(args:Array Value):laidMetH Tryz.prog adq (((World.laidAll Tryz.prog a adq).forCall (fun _ _=>0) ⟨#[],args,[]⟩).memory):=by
 rw[MakeChecks.laidMetH_plain _ _ _ dE];exact laidMet_laidAll _ dE dE
theorem GX {H:Type}{d:DataW H}:∀{l:List (DataW H)},d∈l->Rows.uptoBulk d<=Rows.uptoBulkAll l
 | x::l,h=>by
  simp only[Rows.uptoBulkAll];rcases IP.1 h with rfl | h
  ·omega
  ·have:=GX h;omega
theorem ao9 {H:Type}(d:DataW H):1<=Rows.uptoBulk d:=by
 cases d with
 | lit l=>cases l<;>simp[Rows.uptoBulk]
 | nil=>simp[Rows.uptoBulk]
 | ptr d=>simp[Rows.uptoBulk]
 | slice c b=>simp[Rows.uptoBulk]
 | agg parts=>simp[Rows.uptoBulk]
 | iface t d=>simp[Rows.uptoBulk]
 | map a=>simp[Rows.uptoBulk]
 | held h=>simp[Rows.uptoBulk]
theorem ab6 {H:Type}:∀l:List (DataW H),l.length<=Rows.uptoBulkAll l
 | []=>by simp[Rows.uptoBulkAll]
 | x::l=>by have:=ao9 x;have:=ab6 l;simp only[Rows.uptoBulkAll,uU];omega
def szB:Sz Tryz.prog where
 M:=fun t d n=>Rows.uptoBulk d<=n
 str:=fun h=>by simp only[Rows.uptoBulk]at h;omega
 sl:=fun{H t e el sp n} _ _ h=>by
  simp only[Rows.uptoBulk]at h;have:=ab6 el;exact⟨by omega,fun d hd=>by have:=GX hd;omega⟩
 st:=fun{H t fs ps n} _ h i f p _ hp=>by
  simp only[Rows.uptoBulk]at h;have:=GX (Qbu hp);omega
def LM (n:Nat)(b:oN):Prop:=(InR .i64 b.Kind/\b.Name.length<=n)
theorem aCF:∀F,dV F Tryz.prog S szB 70 rU LM:=fun F=>fV underlying70 dE (fun _=>rfl) (aS rfl dE (gq (iy underlying3)) (fZ rfl dE (iG underlying9)))
def Jf (n:Nat)(b:Raw):Prop:=(InR .i64 b.Num/\(InR .i64 b.dF/\(InR .u64 b.Bits/\b.Data.length<=n)))
theorem av1:∀F,dV F Tryz.prog S szB 294 lh Jf:=fun F=>fV underlying294 dE (fun _=>rfl) (aS rfl dE (gq (iy underlying3)) (aS rfl dE (gq (iy underlying3)) (aS rfl dE (gq (iy underlying71)) (fZ rfl dE (iG underlying9)))))
theorem aDh:∀F,dV F Tryz.prog S szB 75 aZ (fun n l=>l.length<=n/\∀a∈l,Jf n a):=fun F=>fM (dflt:=lD) underlying75 (xe dE) dE Xf (av1 F) (fun _=>rfl) (fun _=>rfl) (fun _ _ _=>rfl)
def zo (n:Nat)(b:AVal):Prop:=(InR .i64 b.Kind/\(InR .u64 b.Bits/\(b.Text.length<=n/\(b.List.length<=n/\(b.Pairs.length<=n/\(b.Slots.length<=n/\(b.bC.length<=n/\∀a∈b.bC,Jf n a)))))))
def afb (n:Nat)(b:Pair):Prop:=(True/\True)
def afi (n:Nat)(b:Slot):Prop:=(InR .i64 b.Num/\True)
theorem V9:∀F,dV F Tryz.prog S szB 77 ay zo/\dV F Tryz.prog S szB 358 oV afb/\dV F Tryz.prog S szB 287 jP afi
 | 0=>⟨Qy,Qy,Qy⟩
 | F+1=>by
  obtain⟨b,d,c⟩:=V9 F;exact⟨Bz (qo underlying77 dE (fun _=>rfl) (aS rfl dE (gq (iy underlying3)) (aS rfl dE (gq (iy underlying71)) (aS rfl dE (iG underlying9) (aS rfl dE (fM (dflt:=dK) underlying72 (xe dE) dE TZ b (fun _=>rfl) (fun _=>rfl) (fun _ _ _=>rfl)) (aS rfl dE (fM (dflt:=dJ) underlying73 (xe dE) dE Ue d (fun _=>rfl) (fun _=>rfl) (fun _ _ _=>rfl)) (aS rfl dE (fM (dflt:=bn) underlying74 (xe dE) dE Uf c (fun _=>rfl) (fun _=>rfl) (fun _ _ _=>rfl)) (fZ rfl dE (aDh F))))))))) (fun n a h=>⟨h.1,h.2.1,h.2.2.1,h.2.2.2.1.1,h.2.2.2.2.1.1,h.2.2.2.2.2.1.1,h.2.2.2.2.2.2⟩),
   Bz (qo underlying358 dE (fun _=>rfl) (aS rfl dE b (fZ rfl dE b))) (fun n a h=>⟨trivial,trivial⟩),
   Bz (qo underlying287 dE (fun _=>rfl) (aS rfl dE (gq (iy underlying3)) (fZ rfl dE b))) (fun n a h=>⟨h.1,trivial⟩)⟩
theorem auo:∀F,dV F Tryz.prog S szB 77 ay zo:=fun F=>(V9 F).1
def nH (n:Nat)(b:Note):Prop:=(b.Name.length<=n/\zo n b.Val)
theorem ay4:∀F,dV F Tryz.prog S szB 224 zA nH:=fun F=>fV underlying224 dE (fun _=>rfl) (aS rfl dE (iG underlying9) (fZ rfl dE (auo F)))
theorem Ju:∀F,dV F Tryz.prog S szB 62 jB (fun n l=>l.length<=n/\∀a∈l,nH n a):=fun F=>fM (dflt:=zC) underlying62 (xe dE) dE Ud (ay4 F) (fun _=>rfl) (fun _=>rfl) (fun _ _ _=>rfl)
def zD (n:Nat)(b:aB):Prop:=(InR .i64 b.Num/\(b.Name.length<=n/\(InR .i64 b.Card/\(InR .i64 b.Key/\(LM n b.cO/\(b.Union.length<=n/\(True/\(zo n b.Default/\(b.Notes.length<=n/\∀a∈b.Notes,nH n a)))))))))
theorem aCJ:∀F,dV F Tryz.prog S szB 79 dA zD:=fun F=>fV underlying79 dE (fun _=>rfl) (aS rfl dE (gq (iy underlying3)) (aS rfl dE (iG underlying9) (aS rfl dE (gq (iy underlying3)) (aS rfl dE (gq (iy underlying3)) (aS rfl dE (aCF F) (aS rfl dE (iG underlying9) (aS rfl dE (gq (O5 underlying4)) (aS rfl dE (auo F) (fZ rfl dE (Ju F))))))))))
theorem aEu:∀F,dV F Tryz.prog S szB 80 dS (fun n l=>l.length<=n/\∀a∈l,zD n a):=fun F=>fM (dflt:=ax) underlying80 (xe dE) dE IE (aCJ F) (fun _=>rfl) (fun _=>rfl) (fun _ _ _=>rfl)
def yO (n:Nat)(b:lW):Prop:=(InR .i64 b.From/\InR .i64 b.To)
theorem avJ:∀F,dV F Tryz.prog S szB 218 NP yO:=fun F=>fV underlying218 dE (fun _=>rfl) (aS rfl dE (gq (iy underlying3)) (fZ rfl dE (gq (iy underlying3))))
theorem aoM:∀F,dV F Tryz.prog S szB 81 mO (fun n l=>l.length<=n/\∀a∈l,yO n a):=fun F=>fM (dflt:=sK) underlying81 (xe dE) dE Ug (avJ F) (fun _=>rfl) (fun _=>rfl) (fun _ _ _=>rfl)
theorem atB:∀F,dV F Tryz.prog S szB 41 aV (fun n l=>l.length<=n/\∀a∈l,a.length<=n):=fun F=>fM (dflt:=[]) underlying41 (xe dE) dE Yi (iG underlying9) (fun _=>rfl) (fun _=>rfl) (fun _ _ _=>rfl)
def xy (n:Nat)(b:aH):Prop:=(b.Name.length<=n/\((b.Fields.length<=n/\∀a∈b.Fields,zD n a)/\((b.Reserved.length<=n/\∀a∈b.Reserved,yO n a)/\((b.Gone.length<=n/\∀a∈b.Gone,a.length<=n)/\(b.Notes.length<=n/\∀a∈b.Notes,nH n a)))))
theorem aC6:∀F,dV F Tryz.prog S szB 83 dG xy:=fun F=>fV underlying83 dE (fun _=>rfl) (aS rfl dE (iG underlying9) (aS rfl dE (aEu F) (aS rfl dE (aoM F) (aS rfl dE (atB F) (fZ rfl dE (Ju F))))))
theorem aCr:∀F,dV F Tryz.prog S szB 22 pW (fun n l=>l.length<=n/\∀a∈l,xy n a):=fun F=>fM (dflt:=dP) underlying22 (xe dE) dE xH (aC6 F) (fun _=>rfl) (fun _=>rfl) (fun _ _ _=>rfl)
def Ef (n:Nat)(b:Item):Prop:=(b.Name.length<=n/\(InR .i64 b.Num/\(b.Notes.length<=n/\∀a∈b.Notes,nH n a)))
theorem aye:∀F,dV F Tryz.prog S szB 220 kE Ef:=fun F=>fV underlying220 dE (fun _=>rfl) (aS rfl dE (iG underlying9) (aS rfl dE (gq (iy underlying3)) (fZ rfl dE (Ju F))))
theorem axF:∀F,dV F Tryz.prog S szB 150 eG (fun n l=>l.length<=n/\∀a∈l,Ef n a):=fun F=>fM (dflt:=jF) underlying150 (xe dE) dE Ua (aye F) (fun _=>rfl) (fun _=>rfl) (fun _ _ _=>rfl)
def E8 (n:Nat)(b:df):Prop:=(b.Name.length<=n/\(True/\((b.Items.length<=n/\∀a∈b.Items,Ef n a)/\((b.Reserved.length<=n/\∀a∈b.Reserved,yO n a)/\(b.Notes.length<=n/\∀a∈b.Notes,nH n a)))))
theorem axJ:∀F,dV F Tryz.prog S szB 152 iF E8:=fun F=>fV underlying152 dE (fun _=>rfl) (aS rfl dE (iG underlying9) (aS rfl dE (gq (O5 underlying4)) (aS rfl dE (axF F) (aS rfl dE (aoM F) (fZ rfl dE (Ju F))))))
theorem aBK:∀F,dV F Tryz.prog S szB 23 dY (fun n l=>l.length<=n/\∀a∈l,E8 n a):=fun F=>fM (dflt:=jg) underlying23 (xe dE) dE T_ (axJ F) (fun _=>rfl) (fun _=>rfl) (fun _ _ _=>rfl)
def wX (n:Nat)(b:bP):Prop:=(b.Name.length<=n/\(b.In.length<=n/\(b.Out.length<=n/\(InR .i64 b.Shape/\(b.Notes.length<=n/\∀a∈b.Notes,nH n a)))))
theorem aEf:∀F,dV F Tryz.prog S szB 64 kY wX:=fun F=>fV underlying64 dE (fun _=>rfl) (aS rfl dE (iG underlying9) (aS rfl dE (iG underlying9) (aS rfl dE (iG underlying9) (aS rfl dE (gq (iy underlying3)) (fZ rfl dE (Ju F))))))
theorem aDV:∀F,dV F Tryz.prog S szB 84 wu (fun n l=>l.length<=n/\∀a∈l,wX n a):=fun F=>fM (dflt:=fD) underlying84 (xe dE) dE DZ (aEf F) (fun _=>rfl) (fun _=>rfl) (fun _ _ _=>rfl)
def wW (n:Nat)(b:bK):Prop:=(b.Name.length<=n/\((b.Methods.length<=n/\∀a∈b.Methods,wX n a)/\(b.Notes.length<=n/\∀a∈b.Notes,nH n a)))
theorem aBL:∀F,dV F Tryz.prog S szB 86 mr wW:=fun F=>fV underlying86 dE (fun _=>rfl) (aS rfl dE (iG underlying9) (aS rfl dE (aDV F) (fZ rfl dE (Ju F))))
theorem aDi:∀F,dV F Tryz.prog S szB 24 vY (fun n l=>l.length<=n/\∀a∈l,wW n a):=fun F=>fM (dflt:=kM) underlying24 (xe dE) dE D6 (aBL F) (fun _=>rfl) (fun _=>rfl) (fun _ _ _=>rfl)
def zn (n:Nat)(b:Schema):Prop:=((b.Messages.length<=n/\∀a∈b.Messages,xy n a)/\((b.Enums.length<=n/\∀a∈b.Enums,E8 n a)/\(b.Services.length<=n/\∀a∈b.Services,wW n a)))
theorem aB3:∀F,dV F Tryz.prog S szB 26 cd_Schema zn:=fun F=>fV underlying26 dE (fun _=>rfl) (aS rfl dE (aCr F) (aS rfl dE (aBK F) (fZ rfl dE (aDi F))))
def w_ (n:Nat)(b:Handler):Prop:=(b.Method.length<=n/\(InR .i64 b.Kind/\(InR .i64 b.Num/\InR .i64 b.anh)))
theorem aBQ:∀F,dV F Tryz.prog S szB 51 eP w_:=fun F=>fV underlying51 dE (fun _=>rfl) (aS rfl dE (iG underlying9) (aS rfl dE (gq (iy underlying3)) (aS rfl dE (gq (iy underlying3)) (fZ rfl dE (gq (iy underlying3))))))
theorem aBq:∀F,dV F Tryz.prog S szB 27 jT (fun n l=>l.length<=n/\∀a∈l,w_ n a):=fun F=>fM (dflt:=d_Handler) underlying27 (xe dE) dE D5 (aBQ F) (fun _=>rfl) (fun _=>rfl) (fun _ _ _=>rfl)
def qX (n:Nat)(b:law56_Call):Prop:=(InR .i64 b.H/\(b.In.length<=n/\∀a∈b.In,a.length<=n))
theorem aEp:∀F,dV F Tryz.prog S szB 43 xB qX:=fun F=>fV underlying43 dE (fun _=>rfl) (aS rfl dE (gq (iy underlying3)) (fZ rfl dE (atB F)))
theorem aCE:∀F,dV F Tryz.prog S szB 28 qC (fun n l=>l.length<=n/\∀a∈l,qX n a):=fun F=>fM (dflt:=d_law56_Call) underlying28 (xe dE) dE yF (aEp F) (fun _=>rfl) (fun _=>rfl) (fun _ _ _=>rfl)
theorem own:ownKnob Tryz.prog.godebug=none:=by kernel_rfl
theorem laidOut:laidOutB Tryz.prog=true:=by kernel_rfl
theorem anD {s:Schema}(h:zn 1048576 s):okB s/\okN s:=by
 obtain⟨⟨_,j⟩,⟨_,r⟩,_,t⟩:=h;refine⟨⟨fun m g=> ?_,fun e o=> ?_,fun v p=> ?_⟩,fun m g f q n u=> ?_⟩
 ·obtain⟨a,c,b,d,i⟩:=j m g;exact⟨c.1,b.1,d.1,a,d.2⟩
 ·obtain⟨a,_,b,d,i⟩:=r e o;exact⟨b.1,d.1,a⟩
 ·obtain⟨a,c,b⟩:=t v p;exact⟨c.1,a⟩
 ·obtain⟨a,c,b,d,i⟩:=j m g;obtain⟨_,_,_,_,_,_,_,y,k⟩:=c.2 f q;obtain⟨_,w,l,x⟩:=(k.2 n u).2;exact l
theorem aBj {a:Schema×List Handler×List law56_Call}(h:zn 1048576 a.1/\(a.2.1.length<=1048576/\∀x∈a.2.1,w_ 1048576 x)/\a.2.2.length<=1048576/\∀x∈a.2.2,qX 1048576 x):okP a.1 a.2.1 a.2.2:=by
 obtain⟨b,⟨_,c⟩,_⟩:=h;exact⟨(anD b).1,(anD b).2,fun x d=>(c x d).1⟩
end
end Go.Proofs.YtjojefbphdmnjaaGreatDoor
