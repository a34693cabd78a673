/- Server: the program makes the servers that the reference makes. -/
import Derived.Test.YtiibcbmenoaigaaGreatDoorP
namespace Go.Proofs.YtiibcbmenoaigaaGreatDoor
open Go.RowKit Go.Vc
set_option linter.unusedVariables false
set_option linter.unusedSimpArgs false
set_option maxRecDepth 100000
theorem forE_allX {A R:Type}{b:Nat->A->Unit->Unit⊕R}{f:Nat->Unit->R}{p:A->Bool}{r z:R}(hb:∀k a,b k a ()=bif p a then .inl ()else .inr r)(hf:∀k,f k ()=z):∀(l:List A) (k:Nat),forE b f l k ()=bif l.all p then z else r
 | [],k=>hf k
 | a::l,k=>by
  unfold forE
  rw[hb,List.all_cons]
  cases p a with
  | true=>exact forE_allX hb hf l (k+1)
  | false=>rfl
theorem forE_anyX {A R:Type}{b:Nat->A->Unit->Unit⊕R}{f:Nat->Unit->R}{p:A->Bool}{r z:R}(hb:∀k a,b k a ()=bif p a then .inr r else .inl ())(hf:∀k,f k ()=z):∀(l:List A) (k:Nat),forE b f l k ()=bif l.any p then r else z
 | [],k=>hf k
 | a::l,k=>by
  unfold forE
  rw[hb,List.any_cons]
  cases p a with
  | true=>rfl
  | false=>exact forE_anyX hb hf l (k+1)
theorem forN_anyX {A R:Type}{d:A}{l:List A}{p:A->Bool}{b:Int->Unit->Unit⊕R}{f:Int->Unit->R}{r z:R}(hb:∀k,b k ()=bif p (l.getD k.toNat d)then .inr r else .inl ())(hf:∀k,f k ()=z):∀(n i:Nat),i+n<=l.length->forN b f n (i:Int) ()=bif ((l.drop i).take n).any p then r else z
 | 0,i,_=>by simp[forN,hf]
 | n+1,i,h=>by
  unfold forN
  rw[hb]
  have e:((i:Nat):Int)+1=((i+1:Nat):Int):=by omega
  have hd:l.drop i=l.getD i d::l.drop (i+1):=by
   rw[List.drop_eq_getElem_cons (show i < l.length by omega)]
   congr 1
   simp[List.getD,show i < l.length by omega]
  rw[hd,List.take_succ_cons,List.any_cons,Int.toNat_natCast]
  cases p (l.getD i d)with
  | true=>rfl
  | false=>
   simp only[cond_false,Bool.false_or]
   rw[e,forN_anyX hb hf n (i+1) (by omega)]
theorem forE_and {A R:Type}{p:A->Bool}:∀(l:List A) (k:Nat) (y:Bool),forE (fun(_:Nat) (a:A) (y:Bool)=>(Sum.inl (bif y then p a else false):Bool⊕(Bool⊕R))) (fun _ y=> .inl y) l k y= .inl (y && l.all p)
 | [],k,y=>by simp[forE]
 | a::l,k,y=>by
  unfold forE
  dsimp only
  rw[forE_and l (k+1),List.all_cons]
  cases y<;>simp
theorem all_congr {A:Type}{p q:A->Bool}{l:List A}(h:∀a∈l,p a=q a):l.all p=l.all q:=by
 induction l with
 | nil=>rfl
 | cons a l ih=>rw[List.all_cons,List.all_cons,h a (by simp),ih fun b hb=>h b (by simp[hb])]
theorem thenS_bif {X R:Type}(c:Bool)(a:X)(r:R)(k:X->R):thenS (bif c then .inl a else .inr r) k=bif c then k a else r:=by cases c<;>rfl
theorem new_eq (name:Str)(s:Schema)(hs:List Handler)(l:List Icept)(most:Int)(h:okNew s hs l)(h2:okS2 s):sNewP name s hs l most=r52NewP name s hs l most:=by
 obtain⟨_,hp,_,_,_⟩:=h
 unfold sNewP sNew r52NewP r52New
 simp only[val_cut,val_lt,val_br,val_ob,val_as,val_each,val_cnt,val_ix,val_ret,inl_cond,thenS_inl,named_eq,valid_eq s h2]
 cases r52namedP name with
 | false=>rfl
 | true=>
  simp only[Bool.not_true,cond_false]
  have e1:=fun(y:Bool)=>forE_and (R:=Server×Int) (p:=r52rangedP) hs 0 y
  refine Eq.trans ?_ (congrArg (fun v=>thenS v _) (e1 _)).symm
  rw[thenS_inl]
  cases hv:c12validP s with
  | false=>rfl
  | true=>
   simp only[Bool.not_true,cond_false,cond_true]
   by_cases m1:most < 1
   ·rw[decide_eq_true m1,decide_eq_false (show ¬1<=most by omega)];rfl
   ·rw[decide_eq_false m1,decide_eq_true (show 1<=most by omega)]
    by_cases m2:64 < most
    ·rw[decide_eq_true m2,decide_eq_false (show ¬most<=64 by omega)];rfl
    ·rw[decide_eq_false m2,decide_eq_true (show most<=64 by omega)]
     simp only[cond_false,cond_true,Bool.true_and]
     refine Eq.trans (congrArg (fun v=>thenS v _) (forE_allX (p:=r52rangedP) (z:= .inl ()) (r:= .inr _) (fun k a=>by rw[ranged_eq];cases r52rangedP a<;>rfl) (fun k=>rfl) hs 0)) ?_
     rw[thenS_bif]
     cases hs.all r52rangedP with
     | false=>rfl
     | true=>
      simp only[cond_true,Bool.not_true,cond_false]
      have a1:(hs.all fun x=>(mFindP s x.Method).2==0)=hs.all fun x=>(r43FindP s x.Method).2==0:=all_congr fun a ha=>by rw[find_eq s a.Method (hp a ha)]
      refine Eq.trans (congrArg (fun v=>thenS v _) (forE_allX (p:=fun x=>(mFindP s x.Method).2==0) (z:= .inl ()) (r:= .inr _) (fun k a=>by show(bif !((mFindP s a.Method).2==0)then _ else _)=_;cases(mFindP s a.Method).2==0<;>rfl) (fun k=>rfl) hs 0)) ?_
      refine Eq.trans ?_ (congrArg (fun v=>thenS v _) (forE_allX (p:=fun x=>(r43FindP s x.Method).2==0) (z:= .inl ()) (r:= .inr _) (fun k a=>by show(bif !((r43FindP s a.Method).2==0)then _ else _)=_;cases(r43FindP s a.Method).2==0<;>rfl) (fun k=>rfl) hs 0)).symm
      rw[thenS_bif,thenS_bif,a1]
      cases hs.all fun x=>(r43FindP s x.Method).2==0 with
      | false=>rfl
      | true=>
       simp only[cond_true]
       refine relS_then (I:=fun _ _=>True) (Q:=Eq) ?_ (fun _ _ _=> ?_)
       ·refine forE_rel (d:=d_Handler) (d':=d_Handler) (fun _ _ _=>True) (RelS (fun _ _=>True) Eq) hs hs 0 () () rfl trivial (fun j y z hj _=> ?_) (fun _ _ _=>trivial)
        simp only[Nat.zero_add,Int.toNat_natCast]
        generalize ha:hs.getD j d_Handler=a
        have i1:=forE_anyX (R:=Unit⊕(Unit⊕(Server×Int))) (p:=fun x=>a.Method==x.Method) (b:=fun _ (a13:Handler) _=>bif a.Method==a13.Method then .inr (.inr (.inr (Server.mk [] (Schema.mk [] [] []) [] [] [] [] 0 false,9)))else .inl ()) (f:=fun _ _=> .inl ()) (fun k a=>rfl) (fun k=>rfl) (hs.take j) 0
        have i2:=forN_anyX (R:=Unit⊕(Unit⊕(Server×Int))) (d:=d_Handler) (l:=hs) (p:=fun x=>a.Method==x.Method) (b:=fun k _=>bif a.Method==(hs.getD k.toNat d_Handler).Method then .inr (.inr (.inr (Server.mk [] (Schema.mk [] [] []) [] [] [] [] 0 false,9)))else .inl ()) (f:=fun _ _=> .inl ()) (fun k=>rfl) (fun k=>rfl) j 0 (by omega)
        rw[List.drop_zero]at i2
        rw[show((j:Int) - 0).toNat=j by omega]
        refine Eq.mpr (congr (congrArg (fun v w=>RelS (fun _ _=>True) (RelS (fun _ _=>True) Eq) v w) i1) i2) ?_
        cases(hs.take j).any fun x=>a.Method==x.Method with
        | true=>rfl
        | false=>exact trivial
       ·cases rcheckP l !=0 with
        | true=>rfl
        | false=>
         simp only[cond_false]
         have a2:(hs.all fun x=>fitsP s x)=hs.all fun x=>r52fitsP s x:=all_congr fun a ha=>fits_eq s (cards_ok s hv) a (hp a ha)
         refine Eq.trans (forE_allX (p:=fun x=>fitsP s x) (fun k a=>by cases fitsP s a<;>rfl) (fun k=>rfl) hs 0) ?_
         refine Eq.trans ?_ (forE_allX (p:=fun x=>r52fitsP s x) (fun k a=>by cases r52fitsP s a<;>rfl) (fun k=>rfl) hs 0).symm
         rw[a2]
theorem thenS_Q {X R:Type}{Q:R->Prop}{a:X⊕R}{k:X->R}(ha:∀r,a= .inr r->Q r)(hk:∀x,Q (k x)):Q (thenS a k):=by
 cases a with
 | inl x=>exact hk x
 | inr r=>exact ha r rfl
theorem forE_Q {A Y R:Type}{Q:R->Prop}{b:Nat->A->Y->Y⊕R}{f:Nat->Y->R}(hb:∀k a y r,b k a y= .inr r->Q r)(hf:∀k y,Q (f k y)):∀(l:List A) (k:Nat) (y:Y),Q (forE b f l k y)
 | [],k,y=>hf k y
 | a::l,k,y=>by
  unfold forE
  cases hx:b k a y with
  | inl y'=>exact forE_Q hb hf l (k+1) y'
  | inr r=>exact hb k a y r hx
theorem forN_Q {Y R:Type}{Q:R->Prop}{b:Int->Y->Y⊕R}{f:Int->Y->R}(hb:∀k y r,b k y= .inr r->Q r)(hf:∀k y,Q (f k y)):∀(n:Nat) (k:Int) (y:Y),Q (forN b f n k y)
 | 0,k,y=>hf k y
 | n+1,k,y=>by
  unfold forN
  cases hx:b k y with
  | inl y'=>exact forN_Q hb hf n (k+1) y'
  | inr r=>exact hb k y r hx
def okR (r:Server×Int):Prop:=r.1.Handlers.length<=1048576/\r.1.Icepts.length<=1048576/\r.1.Tasks=[]/\r.1.Traces=[]
theorem new_parts (name:Str)(s:Schema)(hs:List Handler)(l:List Icept)(most:Int)(h1:hs.length<=1048576)(h2:l.length<=1048576):okR (r52NewP name s hs l most):=by
 have z:∀e:Int,okR (Server.mk [] (Schema.mk [] [] []) [] [] [] [] 0 false,e):=fun e=>⟨Nat.zero_le _,Nat.zero_le _,rfl,rfl⟩
 unfold r52NewP r52New
 simp only[val_cut,val_lt,val_br,val_ob,val_as,val_each,val_cnt,val_ix,val_ret,inl_cond]
 cases r52namedP name with
 | false=>exact z 8
 | true=>
  simp only[Bool.not_true,cond_false]
  refine thenS_Q (fun r hr=>by cases hr) (fun y1=>thenS_Q ?_ (fun y5=> ?_))
  ·exact forE_Q (Q:=fun(v:Bool⊕(Server×Int))=>∀r,v= .inr r->okR r) (fun k a y r hr=>by cases hr) (fun k y r hr=>by cases hr) hs 0 y1
  ·cases y5 with
   | false=>exact z 1
   | true=>
    simp only[Bool.not_true,cond_false]
    refine thenS_Q ?_ (fun _=>thenS_Q ?_ (fun _=> ?_))
    ·refine forE_Q (Q:=fun(v:Unit⊕(Server×Int))=>∀r,v= .inr r->okR r) (fun k a y r hr=> ?_) (fun k y r hr=>by cases hr) hs 0 ()
     cases hc:(r43FindP s a.Method).2 !=0<;>rw[hc]at hr<;>cases hr
     intro r hr
     cases hr
     exact z 10
    ·refine forE_Q (Q:=fun(v:Unit⊕(Server×Int))=>∀r,v= .inr r->okR r) (fun k a y r hr=> ?_) (fun k y r hr=>by cases hr) hs 0 ()
     revert r
     refine forN_Q (Q:=fun(v:Unit⊕(Unit⊕(Server×Int)))=>∀r,v= .inr r->∀r0,r= .inr r0->okR r0) (fun i y r hr=> ?_) (fun i y r hr=>by cases hr) _ _ ()
     cases hc:a.Method==(hs.getD i.toNat d_Handler).Method<;>rw[hc]at hr<;>cases hr
     intro r hr r0 hr0
     cases hr
     cases hr0
     exact z 9
    ·cases rcheckP l !=0 with
     | true=>exact z _
     | false=>
      simp only[cond_false]
      refine forE_Q (fun k a y r hr=> ?_) (fun k y=>⟨h1,h2,rfl,rfl⟩) hs 0 ()
      cases hc:r52fitsP s a<;>rw[hc]at hr<;>cases hr
      exact z 12
end Go.Proofs.YtiibcbmenoaigaaGreatDoor
