/- Server: the law ServerShapes holds for every input of bounded bulk, and its card: the end. -/
import Derived.Test.YtihakigfhcankaaGreatDoorP8
namespace Go.Proofs.YtihakigfhcankaaGreatDoor
noncomputable section
open Go.ChangeShapes Go.WideShapes Go.ChangeAt Go.RowKit Go.Joins Go.Vc
open _root_.Go.Proofs.Tryz
set_option linter.unusedVariables false
set_option linter.unusedSimpArgs false
set_option maxRecDepth 100000
theorem alM (os:Os){H:Type}(enc:TypeId×Value->H):∃places,DataW.whole enc Tryz.prog ((World.laidAll Tryz.prog os Xl).forCall (fun _ _=>0) ⟨#[],#[.agg #[.slice none 0 0, .slice none 0 0, .slice none 0 0, .slice none 0 0, .slice none 0 0, .int .i64 0], .slice none 0 0],[]⟩).memory f3.params.toList Rows.serverShapesSpec.vars false (#[.agg #[.slice none 0 0, .slice none 0 0, .slice none 0 0, .slice none 0 0, .slice none 0 0, .int .i64 0], .slice none 0 0]:Array Value).toList 8=some ([.agg [.agg [.nil, .nil, .nil], .nil, .nil, .lit (.int .i64 0)], .nil],[],places):=
 ⟨[],by kernel_rfl⟩
set_option maxRecDepth 100000 in
theorem adN (os:Os)(started:os.Started)(H:Type)(enc:TypeId×Value->H)(F:Stop.Interp):
  ReturnsInHanded {} Tryz.checked os 3 .any ((Rows.OpenSpec.upto Rows.serverShapesSpec).preRow enc Tryz.prog f3 Rows.serverShapesUptoRow.domain false Rows.serverShapesUptoRow.laid) (((Rows.OpenSpec.upto Rows.serverShapesSpec).at F).post enc Tryz.prog f3 false true false false):=by
 obtain⟨places,hx⟩:=alM os enc;refine returnsInHanded_of_row (C:=Tryz.checked) (s:=Rows.OpenSpec.upto Rows.serverShapesSpec) own started dS func3
  (witness_row_at (enc:=enc) (C:=Tryz.checked) false (World.laidAll Tryz.prog os Xl) #[.agg #[.slice none 0 0, .slice none 0 0, .slice none 0 0, .slice none 0 0, .slice none 0 0, .int .i64 0], .slice none 0 0] (World.laidAll_os _ _ _) dS dS dS
   (OpenSpec.preRow_of_cond 8 hx dS (fun k hk=>by cases hk;kernel_rfl) dS (ahO os _))) ?_
 intro W base args ds gs before hval0 hW hc hcond hz hL _ _;have hval:∀(j:Nat) t v,f3.params[j]? =some t->args[j]? =some v->Value.okWide Tryz.prog W .any base t v:=hval0;have hW':=hW;obtain⟨p,q,hA0,hV,rfl,hfz,hnd⟩:=hW;have hA:DataW.TrodAll enc Tryz.prog W 0 (fun _=>true) true f3.params.toList args.toList ds p:=hA0;rw[params3]at hA hval;obtain⟨rfl,rfl⟩:=trodVars_none hV;obtain⟨d0,d1,rfl⟩:∃d0 d1,ds=[d0,d1]:=by
  obtain⟨_,_,d0,_,_,_,_,rfl,_,_,r0⟩:=trodAll_cons hA;obtain⟨_,_,d1,_,_,_,_,rfl,_,_,r1⟩:=trodAll_cons r0;obtain⟨_,rfl,_⟩:=trodAll_nil r1;exact⟨d0,d1,rfl⟩
 have hok:fV Tryz.prog S 3 (oL (Go.Vc.args (aj (aF pX) (a1 (bn qF)))) as3 1 [] _ (fun _=>true)):=aHe.ok;have hk:Rows.uptoBulkAll [d0,d1]<=1048576:=Cj (hcond _ rfl);have hM:∀(j:Nat) t d,[30,31][j]? =some t->[d0,d1][j]? =some d->szB.M t d 1048576:=fun j t d _ h2=>Ak (Ko (Qbo h2)) hk
 have hcall:=afH (Z:=szB) (ts:=[30,31]) 1048576 hok (fun _=>rfl) (aeR (afu underlying30 aA2) (asb (amz underlying31 rfl Ny rfl aCr))) (fun a h=>aBz h) (vs:=args.toList) (aEy hL) hM (fun j t v h1 h2=>hval j t v qcv (by simpa using h2)) hA;rw[Array.toArray_toList]at hcall;refine hcall.mono ?_;rintro e W' ⟨rfl,bel⟩;exact⟨_,rfl,_,_,_,[],_,[],hW',trodAll_mk1 (shut_bool underlying4 _),Gj laidOut bel dS hA,rfl,bel.frame _,fun h=>by cases h⟩
set_option maxHeartbeats 0 in
theorem ac3:joinedFacts Tryz.prog 3 f3 (Rows.OpenSpec.upto Rows.serverShapesSpec).bare Rows.serverShapesUptoRow=true:=by
 unfold joinedFacts;simp only[jY];(repeat' apply And.intro)<;>(as_aux_lemma=>kernel_rfl)
theorem agC:Rows.ServerShapesUptoSaid:=
 OpenClaim.holds_of_cond 3 f3 rfl rfl rfl rfl rfl rfl rfl ⟨rfl,rfl,rfl,rfl,rfl⟩ rfl rfl rfl rfl rfl (by as_aux_lemma=>kernel_rfl) func3 ac3
  (Cj (by as_aux_lemma=>kernel_rfl)) (by unfold Func.isWrapper;first | (rw[Qb (by decide+kernel)];kernel_rfl) | (rw[qC (by decide+kernel)];exact⟨rfl,rfl⟩))
  (fun os started H enc _ F=>by rw[OpenClaim.pre_eq_preRow];exact adN os started H enc F)
theorem ag4:Tryz.prog.funcs.any Func.goes=false:=by kernel_rfl
theorem law_cardU:Rows.ServerShapesUptoCardSaid:=
 Claim7.holds_tied_plain_at .later [] _ _ _ _ agC (fun _ h=>by cases h) (by as_aux_lemma=>kernel_rfl) (fun _ h=>by cases h) serverShapesUpto_row_tie rfl ⟨rfl,rfl⟩ (by as_aux_lemma=>kernel_rfl) rfl
  (fun f fn hf hfn=>by
   obtain rfl:f=3:=Qc1 ((show Tryz.prog.funcNamed "wireschema/wireschemalaw52.ServerShapes" =some 3 by as_aux_lemma=>kernel_rfl).symm.trans hf) |>.symm
   obtain rfl:fn=f3:=(Qc1 (func3.symm.trans hfn)).symm;exact⟨by as_aux_lemma=>kernel_rfl,fun j t ht=>by
    rw[params3]at ht;have hm:t∈[30,31]:=by simpa using Qd2 ht
    have hall:([30,31].all fun u=> !Tryz.prog.wantsStandIn u)=true:=by as_aux_lemma=>kernel_rfl
    exact(show Tryz.prog.wantsStandIn t=false by simpa using MX.1 hall t hm)⟩)
  (ani (P:=Tryz.prog) ag4 rfl)
#print axioms law_cardU
end
end Go.Proofs.YtihakigfhcankaaGreatDoor
