/- Replay: the law ReplayFaithful holds for every input of bounded bulk, and its card. -/
import Derived.Test.YtjojefbphdmnjaaGreatDoorP8
import Derived.Test.YtjojefbphdmnjaaGreatDoorP10
namespace Go.Proofs.YtjojefbphdmnjaaGreatDoor
noncomputable section
open Go.ChangeShapes Go.WideShapes Go.ChangeAt Go.RowKit Go.Joins Go.Vc
open _root_.Go.Proofs.Tryz
set_option linter.unusedVariables false
set_option linter.unusedSimpArgs false
set_option maxRecDepth 100000
theorem ak8 (c:Os){H:Type}(b:TypeId×Value->H):∃a,DataW.whole b Tryz.prog ((World.laidAll Tryz.prog c adq).forCall (fun _ _=>0) ⟨#[],#[.agg #[.slice none 0 0, .slice none 0 0, .slice none 0 0], .slice none 0 0, .slice none 0 0],[]⟩).memory f3.params.toList Rows.replayFaithfulSpec.vars false (#[.agg #[.slice none 0 0, .slice none 0 0, .slice none 0 0], .slice none 0 0, .slice none 0 0]:Array Value).toList 8=some ([.agg [.nil, .nil, .nil], .nil, .nil],[],a):=
 ⟨[],by kernel_rfl⟩
set_option maxRecDepth 100000 in
theorem abX (f:Os)(c:f.Started)(H:Type)(enc:TypeId×Value->H)(F:Stop.Interp):
  ReturnsInHanded {} Tryz.checked f 3 .any ((Rows.OpenSpec.upto Rows.replayFaithfulSpec).preRow enc Tryz.prog f3 Rows.replayFaithfulUptoRow.domain false Rows.replayFaithfulUptoRow.laid) (((Rows.OpenSpec.upto Rows.replayFaithfulSpec).at F).post enc Tryz.prog f3 false true false false):=by
 obtain⟨z,J⟩:=ak8 f enc;refine returnsInHanded_of_row (C:=Tryz.checked) (s:=Rows.OpenSpec.upto Rows.replayFaithfulSpec) own c dE func3
  (witness_row_at (enc:=enc) (C:=Tryz.checked) false (World.laidAll Tryz.prog f adq) #[.agg #[.slice none 0 0, .slice none 0 0, .slice none 0 0], .slice none 0 0, .slice none 0 0] (World.laidAll_os _ _ _) dE dE dE
   (OpenSpec.preRow_of_cond 8 J dE (fun k u=>by cases u;kernel_rfl) dE (agu f _))) ?_
 intro W r args y Q x i A P l R L _ _;have g:∀(j:Nat) t v,f3.params[j]? =some t->args[j]? =some v->Value.okWide Tryz.prog W .any r t v:=i;have w:=A;obtain⟨p,q,B,M,rfl,N,O⟩:=A;have m:DataW.TrodAll enc Tryz.prog W 0 (fun _=>true) true f3.params.toList args.toList y p:=B;rw[params3]at m g;obtain⟨rfl,rfl⟩:=trodVars_none M;obtain⟨d0,d1,d2,rfl⟩:∃d0 d1 d2,y=[d0,d1,d2]:=by
  obtain⟨_,_,d0,_,_,_,_,rfl,_,_,G⟩:=trodAll_cons m;obtain⟨_,_,d1,_,_,_,_,rfl,_,_,E⟩:=trodAll_cons G;obtain⟨_,_,d2,_,_,_,_,rfl,_,_,K⟩:=trodAll_cons E;obtain⟨_,rfl,_⟩:=trodAll_nil K;exact⟨d0,d1,d2,rfl⟩
 have D:CtOk Tryz.prog S 3 (ctN (Go.Vc.args (aCons (aAgg cd_Schema) (aCons (aLf jT) (a1 (aLf qC))))) aoQ 1 [] _ (fun _=>true)):=aId.ok;have u:Rows.uptoBulkAll [d0,d1,d2]<=1048576:=xe (l _ rfl);have I:∀(j:Nat) t d,[26,27,28][j]? =some t->[d0,d1,d2][j]? =some d->szB.M t d 1048576:=fun j t d _ o=>zW (GX (Qbu o)) u
 have b:=ag2 (Z:=szB) (ts:=[26,27,28]) 1048576 D (fun _=>rfl) (Ls (adZ underlying26 aB3) (Ls (U9 underlying27 rfl Ub rfl aBq) (aqj (U9 underlying28 rfl IG rfl aCE)))) (fun a h=>aBj h) (vs:=args.toList) (aFL L) I (fun j t v h1 o=>g j t v qcp (by simpa using o)) m;rw[Array.toArray_toList]at b;refine b.mono ?_;rintro e W' ⟨rfl,n⟩;exact⟨_,rfl,_,_,_,[],_,[],w,trodAll_mk1 (shut_bool underlying4 _),DN laidOut n dE m,rfl,n.frame _,fun h=>by cases h⟩
theorem agA:Rows.ReplayFaithfulUptoSaid:=
 OpenClaim.holds_of_cond 3 f3 rfl rfl rfl rfl rfl rfl rfl ⟨rfl,rfl,rfl,rfl,rfl⟩ rfl rfl rfl rfl rfl (by as_aux_lemma=>kernel_rfl) func3 ac0
  (xe (by as_aux_lemma=>kernel_rfl)) (by unfold Func.isWrapper;first | (rw[Ai (by decide+kernel)];kernel_rfl) | (rw[vF (by decide+kernel)];exact⟨rfl,rfl⟩))
  (fun b a H enc _ F=>by rw[OpenClaim.pre_eq_preRow];exact abX b a H enc F)
theorem law_cardU:Rows.ReplayFaithfulUptoCardSaid:=
 Claim7.holds_tied_plain_at .later [] _ _ _ _ agA (fun _ h=>by cases h) (by as_aux_lemma=>kernel_rfl) (fun _ h=>by cases h) replayFaithfulUpto_row_tie rfl ⟨rfl,rfl⟩ (by as_aux_lemma=>kernel_rfl) rfl
  (fun f e d c=>by
   obtain rfl:f=3:=Qc6 ((show Tryz.prog.funcNamed "wireschema/wireschemalaw56.ReplayFaithful" =some 3 by as_aux_lemma=>kernel_rfl).symm.trans d) |>.symm
   obtain rfl:e=f3:=(Qc6 (func3.symm.trans c)).symm;exact⟨by as_aux_lemma=>kernel_rfl,fun j t b=>by
    rw[params3]at b;have g:t∈[26,27,28]:=by simpa using Array.mem_of_getElem? b
    have a:([26,27,28].all fun u=> !Tryz.prog.wantsStandIn u)=true:=by as_aux_lemma=>kernel_rfl
    exact(show Tryz.prog.wantsStandIn t=false by simpa using Qa3.1 a t g)⟩)
  (am3 (P:=Tryz.prog) agX rfl)
#print axioms law_cardU
end
end Go.Proofs.YtjojefbphdmnjaaGreatDoor
