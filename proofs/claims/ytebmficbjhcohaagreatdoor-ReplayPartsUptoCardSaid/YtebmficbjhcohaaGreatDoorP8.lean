/- Replay: the law ReplayParts holds for every input of bounded bulk, and its card. -/
import Derived.Test.YtebmficbjhcohaaGreatDoorP7
namespace Go.Proofs.YtebmficbjhcohaaGreatDoor
noncomputable section
open Go.ChangeShapes Go.WideShapes Go.ChangeAt Go.RowKit Go.Joins Go.Vc
open _root_.Go.Proofs.Tryz
set_option linter.unusedVariables false
set_option linter.unusedSimpArgs false
set_option maxRecDepth 100000
theorem ama (c:Os){H:Type}(b:TypeId×Value->H):∃a,DataW.whole b Tryz.prog ((World.laidAll Tryz.prog c adM).forCall (fun _ _=>0) ⟨#[],#[.agg #[.slice none 0 0, .slice none 0 0, .slice none 0 0], .agg #[.slice none 0 0, .slice none 0 0, .slice none 0 0], .slice none 0 0, .slice none 0 0],[]⟩).memory f3.params.toList Rows.replayPartsSpec.vars false (#[.agg #[.slice none 0 0, .slice none 0 0, .slice none 0 0], .agg #[.slice none 0 0, .slice none 0 0, .slice none 0 0], .slice none 0 0, .slice none 0 0]:Array Value).toList 8=some ([.agg [.nil, .nil, .nil], .agg [.nil, .nil, .nil], .nil, .nil],[],a):=
 ⟨[],by kernel_rfl⟩
set_option maxRecDepth 100000 in
theorem aeh (g:Os)(c:g.Started)(H:Type)(enc:TypeId×Value->H)(F:Stop.Interp):
  ReturnsInHanded {} Tryz.checked g 3 .any ((Rows.OpenSpec.upto Rows.replayPartsSpec).preRow enc Tryz.prog f3 Rows.replayPartsUptoRow.domain false Rows.replayPartsUptoRow.laid) (((Rows.OpenSpec.upto Rows.replayPartsSpec).at F).post enc Tryz.prog f3 false true false false):=by
 obtain⟨w,N⟩:=ama g enc;refine returnsInHanded_of_row (C:=Tryz.checked) (s:=Rows.OpenSpec.upto Rows.replayPartsSpec) own c eF func3
  (witness_row_at (enc:=enc) (C:=Tryz.checked) false (World.laidAll Tryz.prog g adM) #[.agg #[.slice none 0 0, .slice none 0 0, .slice none 0 0], .agg #[.slice none 0 0, .slice none 0 0, .slice none 0 0], .slice none 0 0, .slice none 0 0] (World.laidAll_os _ _ _) eF eF eF
   (OpenSpec.preRow_of_cond 8 N eF (fun k o=>by cases o;kernel_rfl) eF (ahw g _))) ?_
 intro W u args A R B i y T m Q M _ _;have f:∀(j:Nat) t v,f3.params[j]? =some t->args[j]? =some v->Value.okWide Tryz.prog W .any u t v:=i;have x:=y;obtain⟨p,q,D,K,rfl,P,O⟩:=y;have l:DataW.TrodAll enc Tryz.prog W 0 (fun _=>true) true f3.params.toList args.toList A p:=D;rw[params3]at l f;obtain⟨rfl,rfl⟩:=trodVars_none K;obtain⟨d0,d1,d2,d3,rfl⟩:∃d0 d1 d2 d3,A=[d0,d1,d2,d3]:=by
  obtain⟨_,_,d0,_,_,_,_,rfl,_,_,E⟩:=trodAll_cons l;obtain⟨_,_,d1,_,_,_,_,rfl,_,_,G⟩:=trodAll_cons E;obtain⟨_,_,d2,_,_,_,_,rfl,_,_,L⟩:=trodAll_cons G;obtain⟨_,_,d3,_,_,_,_,rfl,_,_,I⟩:=trodAll_cons L;obtain⟨_,rfl,_⟩:=trodAll_nil I;exact⟨d0,d1,d2,d3,rfl⟩
 have z:dJ Tryz.prog S 3 (mi (Go.Vc.args (ak (aI bn) (ak (aI bn) (ak (bz pF) (a1 (bz zG)))))) aqQ 1 [] _ (fun _=>true)):=aI2.ok;have o:Rows.uptoBulkAll [d0,d1,d2,d3]<=1048576:=Fa (m _ rfl);have J:∀(j:Nat) t d,[26,26,27,28][j]? =some t->[d0,d1,d2,d3][j]? =some d->szB.M t d 1048576:=fun j t d _ r=>EZ (Jh (Qbl r)) o
 have b:=afK (Z:=szB) (ts:=[26,26,27,28]) 1048576 z (fun _=>rfl) (Eb (TL underlying26 apV) (Eb (TL underlying26 apV) (Eb (Yq underlying27 rfl VZ rfl aFv) (asq (Yq underlying28 rfl afc rfl aCJ))))) (fun a h=>aD3 h) (vs:=args.toList) (aHT M) J (fun j t v h1 r=>f j t v qcx (by simpa using r)) l;rw[Array.toArray_toList]at b;refine b.mono ?_;rintro e W' ⟨rfl,n⟩;exact⟨_,rfl,_,_,_,[],_,[],x,trodAll_mk1 (shut_bool underlying4 _),Gg laidOut n eF l,rfl,n.frame _,fun h=>by cases h⟩
set_option maxHeartbeats 0 in
theorem ac3:joinedFacts Tryz.prog 3 f3 (Rows.OpenSpec.upto Rows.replayPartsSpec).bare Rows.replayPartsUptoRow=true:=by
 unfold joinedFacts;simp only[iT];(repeat' apply And.intro)<;>(as_aux_lemma=>kernel_rfl)
theorem ahg:Rows.ReplayPartsUptoSaid:=
 OpenClaim.holds_of_cond 3 f3 rfl rfl rfl rfl rfl rfl rfl ⟨rfl,rfl,rfl,rfl,rfl⟩ rfl rfl rfl rfl rfl (by as_aux_lemma=>kernel_rfl) func3 ac3
  (Fa (by as_aux_lemma=>kernel_rfl)) (by unfold Func.isWrapper;first | (rw[mV (by decide+kernel)];kernel_rfl) | (rw[lW (by decide+kernel)];exact⟨rfl,rfl⟩))
  (fun b a H enc _ F=>by rw[OpenClaim.pre_eq_preRow];exact aeh b a H enc F)
theorem agF:Tryz.prog.funcs.any Func.goes=false:=by kernel_rfl
theorem law_cardU:Rows.ReplayPartsUptoCardSaid:=
 Claim7.holds_tied_plain_at .later [] _ _ _ _ ahg (fun _ h=>by cases h) (by as_aux_lemma=>kernel_rfl) (fun _ h=>by cases h) replayPartsUpto_row_tie rfl ⟨rfl,rfl⟩ (by as_aux_lemma=>kernel_rfl) rfl
  (fun f e g c=>by
   obtain rfl:f=3:=Qdp ((show Tryz.prog.funcNamed "wireschema/wireschemalaw56.ReplayParts" =some 3 by as_aux_lemma=>kernel_rfl).symm.trans g) |>.symm
   obtain rfl:e=f3:=(Qdp (func3.symm.trans c)).symm;exact⟨by as_aux_lemma=>kernel_rfl,fun j t b=>by
    rw[params3]at b;have d:t∈[26,26,27,28]:=by simpa using Qdw b
    have a:([26,26,27,28].all fun u=> !Tryz.prog.wantsStandIn u)=true:=by as_aux_lemma=>kernel_rfl
    exact(show Tryz.prog.wantsStandIn t=false by simpa using Rf.1 a t d)⟩)
  (amf (P:=Tryz.prog) agF rfl)
#print axioms law_cardU
end
end Go.Proofs.YtebmficbjhcohaaGreatDoor
