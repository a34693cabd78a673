/- Server: all problems of a schema: the program's are the reference's. -/
import Derived.Test.YtiibcbmenoaigaaGreatDoorQc
import Derived.Test.YtiibcbmenoaigaaGreatDoorJb
namespace Go.Proofs.YtiibcbmenoaigaaGreatDoor
open Go.RowKit Go.Vc
set_option linter.unusedVariables false
set_option linter.unusedSimpArgs false
set_option maxRecDepth 100000
theorem wh_names {A R:Type}{l:List A}{d:A}{nm:A->Str}{F:List Str->R}{step:Int×List Str->(Int×List Str)⊕R}(hl:l.length<=1048576)(hs:∀x:Int×List Str,step x=bif decide (x.1 < (l.length:Int))then .inl (wrp .i64 (x.1+1),x.2++[nm (l.getD x.1.toNat d)])else .inr (F x.2))(r0:R):∀(n i:Nat) (y:List Str),l.length - i < n->i<=l.length->whN step r0 n ((i:Int),y)=F (y++(l.drop i).map nm)
 | 0,i,y,h,_=>by omega
 | n+1,i,y,h,hi=>by
  unfold whN
  rw[hs]
  by_cases hlt:i < l.length
  ·have d0:decide (((i:Nat):Int) < (l.length:Int))=true:=decide_eq_true (by omega)
   have w:wrp .i64 (((i:Nat):Int)+1)=((i+1:Nat):Int):=wrp_next (by omega)
   simp only[d0,cond_true,w,Int.toNat_natCast]
   rw[wh_names hl hs r0 n (i+1) _ (by omega) (by omega)]
   congr 1
   have hd:l.drop i=l.getD i d::l.drop (i+1):=by
    rw[List.drop_eq_getElem_cons hlt]
    congr 1
    simp[List.getD,hlt]
   rw[hd,List.map_cons,List.append_assoc]
   rfl
  ·have d0:decide (((i:Nat):Int) < (l.length:Int))=false:=decide_eq_false (by omega)
   simp only[d0,cond_false]
   rw[List.drop_of_length_le (by omega)]
   simp
def namesM (s:Schema):List Str:=s.Messages.map Message.Name
def namesE (s:Schema):List Str:=s.Enums.map Enum.Name
def namesS (s:Schema):List Str:=s.Services.map Service.Name
theorem names1 (s:Schema)(h:okS s):c12namesP s 1=namesM s:=by
 have h1:s.Messages.length<=150:=h.1
 unfold c12namesP c12names
 simp only[val_cut,val_wh,val_br,val_as,val_ix,val_ob,val_ret]
 have e:=wh_names (R:=List Str⊕List Str) (l:=s.Messages) (d:=d_Message) (nm:=Message.Name) (F:=fun y=> .inl y) (by omega) (fun _=>rfl) default (s.Messages.length+1) 0 [] (by omega) (by omega)
 refine Eq.trans (congrArg (fun v=>thenS v _) e) ?_
 simp only[List.nil_append,List.drop_zero,thenS_inl]
 rfl
theorem names2 (s:Schema)(h:okS s):c12namesP s 2=namesE s:=by
 have h2:s.Enums.length<=150:=h.2.1
 unfold c12namesP c12names
 simp only[val_cut,val_wh,val_br,val_as,val_ix,val_ob,val_ret]
 have e:=wh_names (R:=List Str⊕List Str) (l:=s.Enums) (d:=d_Enum) (nm:=Enum.Name) (F:=fun y=> .inl y) (by omega) (fun _=>rfl) default (s.Enums.length+1) 0 [] (by omega) (by omega)
 show thenS (whN _ (default:List Str⊕List Str) (s.Enums.length+1) ((0:Int),([]:List Str))) _=_
 refine Eq.trans (congrArg (fun v=>thenS v _) e) ?_
 simp only[List.nil_append,List.drop_zero,thenS_inl]
 rfl
theorem names3 (s:Schema)(h:okS s):c12namesP s 3=namesS s:=by
 have h3:s.Services.length<=150:=h.2.2.1
 unfold c12namesP c12names
 simp only[val_cut,val_wh,val_br,val_as,val_ix,val_ob,val_ret]
 have e:=wh_names (R:=List Str) (l:=s.Services) (d:=d_Service) (nm:=Service.Name) (F:=fun y=>y) (by omega) (fun _=>rfl) default (s.Services.length+1) 0 [] (by omega) (by omega)
 refine Eq.trans (congrArg (fun v=>thenS v _) (?_:_=Sum.inl [])) ?_
 ·rfl
 simp only[thenS_inl]
 refine Eq.trans (congrArg (fun v=>thenS v _) (?_:_=Sum.inl [])) ?_
 ·rfl
 simp only[thenS_inl]
 refine Eq.trans e ?_
 simp only[List.nil_append,List.drop_zero]
 rfl
theorem lists_as (s:Schema):listsP s=[namesM s,namesE s,namesS s]:=by
 unfold listsP lists
 simp only[val_cut,val_as,val_each,val_ix,val_ob,val_ret]
 have k0:∀(l:List Message) (k:Nat) (a b c:List Str),forE (fun(_:Nat) (m:Message) (y:List (List Str))=>(Sum.inl [y.getD 0 []++[m.Name],y.getD 1 [],y.getD 2 []]:List (List Str)⊕(List (List Str)⊕List (List Str)))) (fun _ y=> .inl [y.getD 0 [],y.getD 1 [],y.getD 2 []]) l k [a,b,c]= .inl [a++l.map Message.Name,b,c]:=by
  intro l
  induction l with
  | nil=>intro k a b c;simp[forE]
  | cons m l ih=>
   intro k a b c
   unfold forE
   have:=ih (k+1) (a++[m.Name]) b c
   simpa using this
 have k1:∀(l:List Enum) (k:Nat) (a b c:List Str),forE (fun(_:Nat) (m:Enum) (y:List (List Str))=>(Sum.inl [y.getD 0 [],y.getD 1 []++[m.Name],y.getD 2 []]:List (List Str)⊕(List (List Str)⊕List (List Str)))) (fun _ y=> .inl [y.getD 0 [],y.getD 1 [],y.getD 2 []]) l k [a,b,c]= .inl [a,b++l.map Enum.Name,c]:=by
  intro l
  induction l with
  | nil=>intro k a b c;simp[forE]
  | cons m l ih=>
   intro k a b c
   unfold forE
   have:=ih (k+1) a (b++[m.Name]) c
   simpa using this
 have k2:∀(l:List Service) (k:Nat) (a b c:List Str),forE (fun(_:Nat) (m:Service) (y:List (List Str))=>(Sum.inl [y.getD 0 [],y.getD 1 [],y.getD 2 []++[m.Name]]:List (List Str)⊕List (List Str))) (fun _ y=>[y.getD 0 [],y.getD 1 [],y.getD 2 []]) l k [a,b,c]=[a,b,c++l.map Service.Name]:=by
  intro l
  induction l with
  | nil=>intro k a b c;simp[forE]
  | cons m l ih=>
   intro k a b c
   unfold forE
   have:=ih (k+1) a b (c++[m.Name])
   simpa using this
 refine Eq.trans (congrArg (fun v=>thenS v _) (k0 s.Messages 0 [] [] [])) ?_
 simp only[thenS_inl,List.getD_cons_zero,List.getD_cons_succ]
 refine Eq.trans (congrArg (fun v=>thenS v _) (k1 s.Enums 0 _ _ _)) ?_
 simp only[thenS_inl,List.getD_cons_zero,List.getD_cons_succ]
 exact k2 s.Services 0 _ _ _
theorem rising_eq (l:List Str):risingP l=c12ascP l:=rfl
theorem meet_as (a b:List Str):c12meetP a b=a.any fun x=>r6hasP b x:=by
 unfold c12meetP c12meet
 simp only[val_each,val_ix,val_br,val_ret]
 exact forE_anyR (fun k a=>rfl) (fun k=>rfl) a 0
theorem meet_sym (a b:List Str):(b.any fun x=>a.any fun y=>x==y)=c12meetP a b:=by
 rw[meet_as,Bool.eq_iff_iff,List.any_eq_true,List.any_eq_true]
 constructor
 ·rintro⟨x,hx,hy⟩
  obtain⟨y,hy,e⟩:=List.any_eq_true.1 hy
  refine⟨y,hy,?_⟩
  rw[<-has_eq,List.any_eq_true]
  exact⟨x,hx,by rw[eq_of_beq e];exact beq_self_eq_true y⟩
 ·rintro⟨y,hy,hx⟩
  rw[<-has_eq,List.any_eq_true]at hx
  obtain⟨x,hx,e⟩:=hx
  exact⟨x,hx,List.any_eq_true.2 ⟨y,hy,by rw[eq_of_beq e];exact beq_self_eq_true x⟩⟩
theorem apart_eq (a b c:List Str):apartP [a,b,c]= !(bif c12meetP a b then true else bif c12meetP a c then true else c12meetP b c):=by
 have e0:∀x,ap0P x [a,b,c]=a.any fun y=>x==y:=fun x=>rfl
 have e1:∀x,ap1P x [a,b,c]=b.any fun y=>x==y:=fun x=>rfl
 unfold apartP apart
 simp only[val_lt,val_ob,val_br,val_ret,List.getD_cons_zero,List.getD_cons_succ,e0,e1,meet_sym]
 cases c12meetP a b<;>cases c12meetP a c<;>cases c12meetP b c<;>rfl
theorem wh3 {X R:Type}(G:Int->X->X)(x0:X)(r0:X⊕R):whN (fun(x:Int×X)=>bif decide (x.1<=3)then(Sum.inl (wrp .i64 (x.1+1),G x.1 x.2):(Int×X)⊕(X⊕R))else .inr (.inl x.2)) r0 5 (1,x0)= .inl (G 3 (G 2 (G 1 x0))):=by
 have w1:wrp .i64 ((1:Int)+1)=2:=wrp_in (k:= .i64) (by simp only[InR];omega)
 have w2:wrp .i64 ((2:Int)+1)=3:=wrp_in (k:= .i64) (by simp only[InR];omega)
 have w3:wrp .i64 ((3:Int)+1)=4:=wrp_in (k:= .i64) (by simp only[InR];omega)
 have d1:decide ((1:Int)<=3)=true:=rfl
 have d2:decide ((2:Int)<=3)=true:=rfl
 have d3:decide ((3:Int)<=3)=true:=rfl
 have d4:decide ((4:Int)<=3)=false:=rfl
 simp only[whN,w1,w2,w3,d1,d2,d3,d4,cond_true,cond_false]
theorem rel_app {n:Int}{x:check_finder}{p:ref12_list}(h:RelX n x p){a b:List Problem}(e:a=b):RelX n ⟨x.def_,x.num,x.out++a⟩ ⟨p.def_,p.l++b⟩:=⟨h.1,h.2.1,by show x.out++a=p.l++b;rw[h.2.2,e]⟩
theorem all_eq (s:Schema)(h:okS2 s):cAllP s=c12allP s:=by
 obtain⟨hs,hM,hE,hS⟩:=h
 have h1:s.Messages.length<=150:=hs.1
 unfold cAllP cAll c12allP c12all
 simp only[val_cut,val_lt,val_br,val_ob,val_as,val_each,val_wh,val_ix,val_ret,inl_cond,thenS_inl,unl_cond,unl_condx,add_cond,add_condx,lists_as,List.getD_cons_zero,List.getD_cons_succ]
 refine Eq.trans ?_ (congrArg (fun v=>thenS v _) (wh3 (fun k x=>c12addP (!c12ascP (c12namesP s k)) (-1) 11 (c12addP (decide (64 < ((c12namesP s k).length:Int))) (-1) 3 x)) ⟨[],[]⟩ default)).symm
 simp only[thenS_inl,names1 s hs,names2 s hs,names3 s hs]
 refine relS_then (I:=RelX (-1)) (Q:=Eq) ?_ (fun y z hyz=>relS_then (I:=RelX (-1)) (Q:=Eq) ?_ (fun y z hyz=> ?_))
 ·refine forE_rel (d:=d_Message) (d':=d_Message) (fun _=>RelX (-1)) (RelS (RelX (-1)) Eq) s.Messages s.Messages 0 _ _ rfl ?_ (fun j y z hj hi=> ?_) (fun y z hi=>hi)
  ·refine rel_unl (rel_unl (rel_unl (rel_unl (rel_unl (rel_unl (rel_unl ?_ (dec_not ?_)) ((rising_eq _).trans (nn _))) (dec_not ?_)) ((rising_eq _).trans (nn _))) (dec_not ?_)) ((rising_eq _).trans (nn _))) (apart_eq _ _ _)
   ·exact⟨rfl,rfl,rfl⟩
   ·omega
   ·omega
   ·omega
  ·have hm:=hM _ (getD_mem (d:=d_Message) hj)
   exact rel_app hi (msg_eq s _ _ _ hm (cyclic_eq s (by omega) _))
 ·refine forE_rel (d:=d_Enum) (d':=d_Enum) (fun _=>RelX (-1)) (RelS (RelX (-1)) Eq) s.Enums s.Enums 0 _ _ rfl hyz (fun j y z hj hi=> ?_) (fun y z hi=>hi)
  exact rel_app hi (enum_eq _ (hE _ (getD_mem (d:=d_Enum) hj)))
 ·refine forE_rel (d:=d_Service) (d':=d_Service) (fun _=>RelX (-1)) Eq s.Services s.Services 0 _ _ rfl hyz (fun j y z hj hi=> ?_) (fun y z hi=>hi.2.2)
  exact rel_app hi (svc_eq s _ (hS _ (getD_mem (d:=d_Service) hj)))
theorem valid_eq (s:Schema)(h:okS2 s):cValidP s=c12validP s:=by
 unfold cValidP cValid c12validP c12valid
 simp only[val_ob,val_ret,all_eq s h]
end Go.Proofs.YtiibcbmenoaigaaGreatDoor
