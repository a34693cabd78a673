/- Replay: the law ReplayChecks holds for every input of bounded bulk, and its card. -/
import Derived.Test.YtenjjcfebflefaaGreatDoorP7
import Derived.Test.YtenjjcfebflefaaGreatDoorP9
namespace Go.Proofs.YtenjjcfebflefaaGreatDoor
noncomputable section
open Go.ChangeShapes Go.WideShapes Go.ChangeAt Go.RowKit Go.Joins Go.Vc
open _root_.Go.Proofs.Tryz
set_option linter.unusedVariables false
set_option linter.unusedSimpArgs false
set_option maxRecDepth 100000
theorem asB (c:Os){H:Type}(b:TypeId×Value->H):∃a,DataW.whole b Tryz.prog ((World.laidAll Tryz.prog c aiS).forCall (fun _ _=>0) ⟨#[],#[.agg #[.slice none 0 0, .slice none 0 0, .slice none 0 0], .agg #[.string ⟨#[]⟩, .slice none 0 0, .slice none 0 0, .int .i64 0, .string ⟨#[]⟩]],[]⟩).memory f3.params.toList Rows.replayChecksSpec.vars false (#[.agg #[.slice none 0 0, .slice none 0 0, .slice none 0 0], .agg #[.string ⟨#[]⟩, .slice none 0 0, .slice none 0 0, .int .i64 0, .string ⟨#[]⟩]]:Array Value).toList 8=some ([.agg [.nil, .nil, .nil], .agg [.lit (.string []), .nil, .nil, .agg [.lit (.int .i64 0), .lit (.string [])]]],[],a):=
 ⟨[],by kernel_rfl⟩
set_option maxRecDepth 100000 in
theorem ag5 (f:Os)(c:f.Started)(H:Type)(enc:TypeId×Value->H)(F:Stop.Interp):
  ReturnsInHanded {} Tryz.checked f 3 .any ((Rows.OpenSpec.upto Rows.replayChecksSpec).preRow enc Tryz.prog f3 Rows.replayChecksUptoRow.domain false Rows.replayChecksUptoRow.laid) (((Rows.OpenSpec.upto Rows.replayChecksSpec).at F).post enc Tryz.prog f3 false true false false):=by
 obtain⟨y,G⟩:=asB f enc;refine returnsInHanded_of_row (C:=Tryz.checked) (s:=Rows.OpenSpec.upto Rows.replayChecksSpec) own c fO func3
  (witness_row_at (enc:=enc) (C:=Tryz.checked) false (World.laidAll Tryz.prog f aiS) #[.agg #[.slice none 0 0, .slice none 0 0, .slice none 0 0], .agg #[.string ⟨#[]⟩, .slice none 0 0, .slice none 0 0, .int .i64 0, .string ⟨#[]⟩]] (World.laidAll_os _ _ _) fO fO fO
   (OpenSpec.preRow_of_cond 8 G fO (fun k u=>by cases u;kernel_rfl) fO (alW f _))) ?_
 intro W r args w P D l x Q i O L _ _;have g:∀(j:Nat) t v,f3.params[j]? =some t->args[j]? =some v->Value.okWide Tryz.prog W .any r t v:=l;have A:=x;obtain⟨p,q,B,K,rfl,M,N⟩:=x;have m:DataW.TrodAll enc Tryz.prog W 0 (fun _=>true) true f3.params.toList args.toList w p:=B;rw[params3]at m g;obtain⟨rfl,rfl⟩:=trodVars_none K;obtain⟨d0,d1,rfl⟩:∃d0 d1,w=[d0,d1]:=by
  obtain⟨_,_,d0,_,_,_,_,rfl,_,_,I⟩:=trodAll_cons m;obtain⟨_,_,d1,_,_,_,_,rfl,_,_,E⟩:=trodAll_cons I;obtain⟨_,rfl,_⟩:=trodAll_nil E;exact⟨d0,d1,rfl⟩
 have z:fK Tryz.prog S 3 (xK (Go.Vc.args (ax (aQ bV) (a1 (aQ Eo)))) auz 1 [] _ (fun _=>true)):=aIf.ok;have u:Rows.uptoBulkAll [d0,d1]<=1048576:=EU (i _ rfl);have J:∀(j:Nat) t d,[26,31][j]? =some t->[d0,d1][j]? =some d->szB.M t d 1048576:=fun j t d _ o=>KF (OE (Qb8 o)) u
 have b:=ak8 (Z:=szB) (ts:=[26,31]) 1048576 z (fun _=>rfl) (ag2 (X9 underlying26 aEZ) (asX (X9 underlying31 aEa))) (fun a h=>aEr h) (vs:=args.toList) (aHb L) J (fun j t v h1 o=>g j t v qcg (by simpa using o)) m;rw[Array.toArray_toList]at b;refine b.mono ?_;rintro e W' ⟨rfl,n⟩;exact⟨_,rfl,_,_,_,[],_,[],A,trodAll_mk1 (shut_bool underlying4 _),JA laidOut n fO m,rfl,n.frame _,fun h=>by cases h⟩
theorem alv:Rows.ReplayChecksUptoSaid:=
 OpenClaim.holds_of_cond 3 f3 rfl rfl rfl rfl rfl rfl rfl ⟨rfl,rfl,rfl,rfl,rfl⟩ rfl rfl rfl rfl rfl (by as_aux_lemma=>kernel_rfl) func3 closedCalls
  (EU (by as_aux_lemma=>kernel_rfl)) (by unfold Func.isWrapper;first | (rw[nI (by decide+kernel)];kernel_rfl) | (rw[kT (by decide+kernel)];exact⟨rfl,rfl⟩))
  (fun b a H enc _ F=>by rw[OpenClaim.pre_eq_preRow];exact ag5 b a H enc F)
theorem law_cardU:Rows.ReplayChecksUptoCardSaid:=
 Claim7.holds_tied_plain_at .later [] _ _ _ _ alv (fun _ h=>by cases h) (by as_aux_lemma=>kernel_rfl) (fun _ h=>by cases h) replayChecksUpto_row_tie rfl ⟨rfl,rfl⟩ (by as_aux_lemma=>kernel_rfl) rfl
  (fun f d e b=>by
   obtain rfl:f=3:=Qdw ((show Tryz.prog.funcNamed "wireschema/wireschemalaw56.ReplayChecks" =some 3 by as_aux_lemma=>kernel_rfl).symm.trans e) |>.symm
   obtain rfl:d=f3:=(Qdw (func3.symm.trans b)).symm;exact⟨by as_aux_lemma=>kernel_rfl,fun j t c=>by
    rw[params3]at c;have g:t∈[26,31]:=by simpa using Array.mem_of_getElem? c
    have a:([26,31].all fun u=> !Tryz.prog.wantsStandIn u)=true:=by as_aux_lemma=>kernel_rfl
    exact(show Tryz.prog.wantsStandIn t=false by simpa using Qbd.1 a t g)⟩)
  (ark (P:=Tryz.prog) closedGoes rfl)
#print axioms law_cardU
end
end Go.Proofs.YtenjjcfebflefaaGreatDoor
