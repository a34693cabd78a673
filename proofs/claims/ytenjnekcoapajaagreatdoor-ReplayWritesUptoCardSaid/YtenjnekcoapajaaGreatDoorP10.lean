/- Replay: the law ReplayWrites holds for every input of bounded bulk, and its card. -/
import Derived.Test.YtenjnekcoapajaaGreatDoorP9
import Derived.Test.YtenjnekcoapajaaGreatDoorQZ
namespace Go.Proofs.YtenjnekcoapajaaGreatDoor
noncomputable section
open Go.ChangeShapes Go.WideShapes Go.ChangeAt Go.RowKit Go.Joins Go.Vc
open _root_.Go.Proofs.Tryz
set_option linter.unusedVariables false
set_option linter.unusedSimpArgs false
set_option maxRecDepth 100000
theorem apn (c:Os){H:Type}(b:TypeId×Value->H):∃a,DataW.whole b Tryz.prog ((World.laidAll Tryz.prog c adG).forCall (fun _ _=>0) ⟨#[],#[.agg #[.slice none 0 0, .slice none 0 0, .slice none 0 0], .slice none 0 0],[]⟩).memory f3.params.toList Rows.replayWritesSpec.vars false (#[.agg #[.slice none 0 0, .slice none 0 0, .slice none 0 0], .slice none 0 0]:Array Value).toList 8=some ([.agg [.nil, .nil, .nil], .nil],[],a):=
 ⟨[],by kernel_rfl⟩
set_option maxRecDepth 100000 in
theorem ad8 (g:Os)(c:g.Started)(H:Type)(enc:TypeId×Value->H)(F:Stop.Interp):
  ReturnsInHanded {} Tryz.checked g 3 .any ((Rows.OpenSpec.upto Rows.replayWritesSpec).preRow enc Tryz.prog f3 Rows.replayWritesUptoRow.domain false Rows.replayWritesUptoRow.laid) (((Rows.OpenSpec.upto Rows.replayWritesSpec).at F).post enc Tryz.prog f3 false true false false):=by
 obtain⟨B,I⟩:=apn g enc;refine returnsInHanded_of_row (C:=Tryz.checked) (s:=Rows.OpenSpec.upto Rows.replayWritesSpec) own c dM func3
  (witness_row_at (enc:=enc) (C:=Tryz.checked) false (World.laidAll Tryz.prog g adG) #[.agg #[.slice none 0 0, .slice none 0 0, .slice none 0 0], .slice none 0 0] (World.laidAll_os _ _ _) dM dM dM
   (OpenSpec.preRow_of_cond 8 I dM (fun k r=>by cases r;kernel_rfl) dM (ai5 g _))) ?_
 intro W u args w P D m z Q l O E _ _;have f:∀(j:Nat) t v,f3.params[j]? =some t->args[j]? =some v->Value.okWide Tryz.prog W .any u t v:=m;have A:=z;obtain⟨p,q,x,J,rfl,N,M⟩:=z;have i:DataW.TrodAll enc Tryz.prog W 0 (fun _=>true) true f3.params.toList args.toList w p:=x;rw[params3]at i f;obtain⟨rfl,rfl⟩:=trodVars_none J;obtain⟨d0,d1,rfl⟩:∃d0 d1,w=[d0,d1]:=by
  obtain⟨_,_,d0,_,_,_,_,rfl,_,_,K⟩:=trodAll_cons i;obtain⟨_,_,d1,_,_,_,_,rfl,_,_,G⟩:=trodAll_cons K;obtain⟨_,rfl,_⟩:=trodAll_nil G;exact⟨d0,d1,rfl⟩
 have y:CtOk Tryz.prog S 3 (qQ (Go.Vc.args (aCons (aAgg cd_Schema) (a1 (aLf cd_LTape)))) arP 1 [] _ (fun _=>true)):=aIa.ok;have r:Rows.uptoBulkAll [d0,d1]<=1048576:=Dt (l _ rfl);have L:∀(j:Nat) t d,[26,27][j]? =some t->[d0,d1][j]? =some d->szB.M t d 1048576:=fun j t d _ o=>Du (KN (Qbz o)) r
 have b:=aiV (Z:=szB) (ts:=[26,27]) 1048576 y (fun _=>rfl) (agi (aha underlying26 aDZ) (aq5 (anZ underlying27 rfl agO rfl aFl))) (fun a h=>aFw h) (vs:=args.toList) (aHb E) L (fun j t v h1 o=>f j t v qbt (by simpa using o)) i;rw[Array.toArray_toList]at b;refine b.mono ?_;rintro e W' ⟨rfl,n⟩;exact⟨_,rfl,_,_,_,[],_,[],A,trodAll_mk1 (shut_bool underlying4 _),GR laidOut n dM i,rfl,n.frame _,fun h=>by cases h⟩
theorem ai8:Rows.ReplayWritesUptoSaid:=
 OpenClaim.holds_of_cond 3 f3 rfl rfl rfl rfl rfl rfl rfl ⟨rfl,rfl,rfl,rfl,rfl⟩ rfl rfl rfl rfl rfl (by as_aux_lemma=>kernel_rfl) func3 closedCalls
  (Dt (by as_aux_lemma=>kernel_rfl)) (by unfold Func.isWrapper;first | (rw[vJ (by decide+kernel)];kernel_rfl) | (rw[uU (by decide+kernel)];exact⟨rfl,rfl⟩))
  (fun b a H enc _ F=>by rw[OpenClaim.pre_eq_preRow];exact ad8 b a H enc F)
theorem law_cardU:Rows.ReplayWritesUptoCardSaid:=
 Claim7.holds_tied_plain_at .later [] _ _ _ _ ai8 (fun _ h=>by cases h) (by as_aux_lemma=>kernel_rfl) (fun _ h=>by cases h) replayWritesUpto_row_tie rfl ⟨rfl,rfl⟩ (by as_aux_lemma=>kernel_rfl) rfl
  (fun f e d b=>by
   obtain rfl:f=3:=Qdn ((show Tryz.prog.funcNamed "wireschema/wireschemalaw56.ReplayWrites" =some 3 by as_aux_lemma=>kernel_rfl).symm.trans d) |>.symm
   obtain rfl:e=f3:=(Qdn (func3.symm.trans b)).symm;exact⟨by as_aux_lemma=>kernel_rfl,fun j t c=>by
    rw[params3]at c;have g:t∈[26,27]:=by simpa using Array.mem_of_getElem? c
    have a:([26,27].all fun u=> !Tryz.prog.wantsStandIn u)=true:=by as_aux_lemma=>kernel_rfl
    exact(show Tryz.prog.wantsStandIn t=false by simpa using Qb.1 a t g)⟩)
  (aoH (P:=Tryz.prog) closedGoes rfl)
#print axioms law_cardU
end
end Go.Proofs.YtenjnekcoapajaaGreatDoor
