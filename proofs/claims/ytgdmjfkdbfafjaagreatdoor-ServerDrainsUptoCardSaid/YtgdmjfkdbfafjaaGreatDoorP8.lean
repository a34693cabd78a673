/- Server: the law ServerDrains holds for every input of bounded bulk, and its card: the end. -/
import Derived.Test.YtgdmjfkdbfafjaaGreatDoorP7
namespace Go.Proofs.YtgdmjfkdbfafjaaGreatDoor
noncomputable section
open Go.ChangeShapes Go.WideShapes Go.ChangeAt Go.RowKit Go.Joins Go.Vc
open _root_.Go.Proofs.Tryz
set_option linter.unusedVariables false
set_option linter.unusedSimpArgs false
set_option maxRecDepth 100000
theorem apw (c:Os){H:Type}(b:TypeId×Value->H):∃a,DataW.whole b Tryz.prog ((World.laidAll Tryz.prog c aa4).forCall (fun _ _=>0) ⟨#[],#[.agg #[.slice none 0 0, .slice none 0 0, .slice none 0 0, .slice none 0 0, .slice none 0 0, .int .i64 0], .slice none 0 0, .int .i64 0],[]⟩).memory f3.params.toList Rows.serverDrainsSpec.vars false (#[.agg #[.slice none 0 0, .slice none 0 0, .slice none 0 0, .slice none 0 0, .slice none 0 0, .int .i64 0], .slice none 0 0, .int .i64 0]:Array Value).toList 8=some ([.agg [.agg [.nil, .nil, .nil], .nil, .nil, .lit (.int .i64 0)], .nil, .lit (.int .i64 0)],[],a):=
 ⟨[],by kernel_rfl⟩
set_option maxRecDepth 100000 in
theorem agG (g:Os)(c:g.Started)(H:Type)(enc:TypeId×Value->H)(F:Stop.Interp):
  ReturnsInHanded {} Tryz.checked g 3 .any ((Rows.OpenSpec.upto Rows.serverDrainsSpec).preRow enc Tryz.prog f3 Rows.serverDrainsUptoRow.domain false Rows.serverDrainsUptoRow.laid) (((Rows.OpenSpec.upto Rows.serverDrainsSpec).at F).post enc Tryz.prog f3 false true false false):=by
 obtain⟨x,K⟩:=apw g enc;refine returnsInHanded_of_row (C:=Tryz.checked) (s:=Rows.OpenSpec.upto Rows.serverDrainsSpec) own c eQ func3
  (witness_row_at (enc:=enc) (C:=Tryz.checked) false (World.laidAll Tryz.prog g aa4) #[.agg #[.slice none 0 0, .slice none 0 0, .slice none 0 0, .slice none 0 0, .slice none 0 0, .int .i64 0], .slice none 0 0, .int .i64 0] (World.laidAll_os _ _ _) eQ eQ eQ
   (OpenSpec.preRow_of_cond 8 K eQ (fun k o=>by cases o;kernel_rfl) eQ (akX g _))) ?_
 intro W r args w Q before l B P m O I _ _;have f:∀(j:Nat) t v,f3.params[j]? =some t->args[j]? =some v->Value.okWide Tryz.prog W .any r t v:=l;have A:=B;obtain⟨p,q,y,J,rfl,M,N⟩:=B;have i:DataW.TrodAll enc Tryz.prog W 0 (fun _=>true) true f3.params.toList args.toList w p:=y;rw[params3]at i f;obtain⟨rfl,rfl⟩:=trodVars_none J;obtain⟨d0,d1,d2,rfl⟩:∃d0 d1 d2,w=[d0,d1,d2]:=by
  obtain⟨_,_,d0,_,_,_,_,rfl,_,_,E⟩:=trodAll_cons i;obtain⟨_,_,d1,_,_,_,_,rfl,_,_,L⟩:=trodAll_cons E;obtain⟨_,_,d2,_,_,_,_,rfl,_,_,G⟩:=trodAll_cons L;obtain⟨_,rfl,_⟩:=trodAll_nil G;exact⟨d0,d1,d2,rfl⟩
 have z:gZ Tryz.prog S 3 (qj (Go.Vc.args (ak (aJ qV) (ak (bC rX) (a1 (bC cI))))) axc 1 [] _ (fun _=>true)):=aMv.ok;have o:Rows.uptoBulkAll [d0,d1,d2]<=1048576:=Eh (m _ rfl);have D:∀(j:Nat) t d,[30,31,3][j]? =some t->[d0,d1,d2][j]? =some d->szB.M t d 1048576:=fun j t d _ u=>yI (Ob (Qby u)) o
 have b:=alF (Z:=szB) (ts:=[30,31,3]) 1048576 z (fun _=>rfl) (Rz (ak1 underlying30 aGZ) (Rz (aay underlying31 rfl Qo rfl aGQ) (aw3 (aay underlying3 rfl (pG _) rfl (fun F=>fF (gm underlying3)))))) (fun a h=>aGf h.1 h.2.1) (vs:=args.toList) (aMo I) D (fun j t v h1 u=>f j t v qcv (by simpa using u)) i;rw[Array.toArray_toList]at b;refine b.mono ?_;rintro e W' ⟨rfl,n⟩;exact⟨_,rfl,_,_,_,[],_,[],A,trodAll_mk1 (shut_bool underlying4 _),IU laidOut n eQ i,rfl,n.frame _,fun h=>by cases h⟩
set_option maxHeartbeats 0 in
theorem aim:joinedFacts Tryz.prog 3 f3 (Rows.OpenSpec.upto Rows.serverDrainsSpec).bare Rows.serverDrainsUptoRow=true:=by
 unfold joinedFacts;simp only[kW];(repeat' apply And.intro)<;>(as_aux_lemma=>kernel_rfl)
theorem akh:Rows.ServerDrainsUptoSaid:=
 OpenClaim.holds_of_cond 3 f3 rfl rfl rfl rfl rfl rfl rfl ⟨rfl,rfl,rfl,rfl,rfl⟩ rfl rfl rfl rfl rfl (by as_aux_lemma=>kernel_rfl) func3 aim
  (Eh (by as_aux_lemma=>kernel_rfl)) (by unfold Func.isWrapper;first | (rw[yY (by decide+kernel)];kernel_rfl) | (rw[yc (by decide+kernel)];exact⟨rfl,rfl⟩))
  (fun b a H enc _ F=>by rw[OpenClaim.pre_eq_preRow];exact agG b a H enc F)
theorem alc:Tryz.prog.funcs.any Func.goes=false:=by kernel_rfl
theorem law_cardU:Rows.ServerDrainsUptoCardSaid:=
 Claim7.holds_tied_plain_at .later [] _ _ _ _ akh (fun _ h=>by cases h) (by as_aux_lemma=>kernel_rfl) (fun _ h=>by cases h) serverDrainsUpto_row_tie rfl ⟨rfl,rfl⟩ (by as_aux_lemma=>kernel_rfl) rfl
  (fun f g d b=>by
   obtain rfl:f=3:=Qct ((show Tryz.prog.funcNamed "wireschema/wireschemalaw52.ServerDrains" =some 3 by as_aux_lemma=>kernel_rfl).symm.trans d) |>.symm
   obtain rfl:g=f3:=(Qct (func3.symm.trans b)).symm;exact⟨by as_aux_lemma=>kernel_rfl,fun j t c=>by
    rw[params3]at c;have e:t∈[30,31,3]:=by simpa using Array.mem_of_getElem? c
    have a:([30,31,3].all fun u=> !Tryz.prog.wantsStandIn u)=true:=by as_aux_lemma=>kernel_rfl
    exact(show Tryz.prog.wantsStandIn t=false by simpa using Qa2.1 a t e)⟩)
  (arI (P:=Tryz.prog) alc rfl)
#print axioms law_cardU
end
end Go.Proofs.YtgdmjfkdbfafjaaGreatDoor
