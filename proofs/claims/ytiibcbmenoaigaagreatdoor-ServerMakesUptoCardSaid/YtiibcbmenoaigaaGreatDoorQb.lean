/- Server: messages, enums, services: the program's problems are the reference's. -/
import Derived.Test.YtiibcbmenoaigaaGreatDoorQa
namespace Go.Proofs.YtiibcbmenoaigaaGreatDoor
open Go.RowKit Go.Vc
set_option linter.unusedVariables false
set_option linter.unusedSimpArgs false
set_option maxRecDepth 100000
theorem noted_condx (c:Bool)(l:List Note)(t:Int)(x y:check_finder):(bif c then notedP l t x else notedP l t y)=notedP l t (bif c then x else y):=by cases c<;>rfl
theorem notes_condx (c:Bool)(l:List Note)(t n:Int)(x y:ref12_list):(bif c then c12notesP l t n x else c12notesP l t n y)=c12notesP l t n (bif c then x else y):=by cases c<;>rfl
theorem relX_num {n:Int}{x:check_finder}{p:ref12_list}(h:RelX n x p):RelX x.num x p:=⟨h.1,rfl,h.2.2⟩
theorem relS_num {n:Int}{x:check_finder}{p:ref12_list}{v:check_finder⊕List Problem}{w:ref12_list⊕List Problem}(h:RelX n x p)(hv:v= .inl x)(hw:w= .inl p):RelS (fun x p=>RelX x.num x p) Eq v w:=by subst hv hw;exact relX_num h
theorem nn (b:Bool):b= !!b:=(Bool.not_not b).symm
theorem seenF_eq (l:List AField)(n:Nat):seenFP l n=(l.take n).any fun a=>a.Name==(l.getD n d_AField).Name:=by
 unfold seenFP seenF
 simp only[val_ob,val_ix,val_ret,Int.toNat_natCast]
 rfl
theorem seenI_eq (l:List Item)(n:Nat):seenIP l n=(l.take n).any fun a=>a.Name==(l.getD n d_Item).Name:=by
 unfold seenIP seenI
 simp only[val_ob,val_ix,val_ret,Int.toNat_natCast]
 rfl
def okF (f:AField):Prop:=okVal f.Default/\okNs f.Notes
def okM2 (m:Message):Prop:=okNs m.Notes/\∀f∈m.Fields,okF f
def okE2 (e:Enum):Prop:=okNs e.Notes/\∀i∈e.Items,okNs i.Notes
def okSv2 (v:Service):Prop:=okNs v.Notes/\∀m∈v.Methods,okNs m.Notes
def okS2 (s:Schema):Prop:=okS s/\(∀m∈s.Messages,okM2 m)/\(∀e∈s.Enums,okE2 e)/\∀v∈s.Services,okSv2 v
theorem range_not (n a b:Int):(bif decide (a<=n)then decide (n<=b)else false)= !(bif decide (n < a)then true else decide (b < n)):=by
 by_cases h:a<=n
 ·rw[decide_eq_true h,decide_eq_false (show ¬n < a by omega)]
  exact dec_not (by omega)
 ·rw[decide_eq_false h,decide_eq_true (show n < a by omega)]
  rfl
theorem order_not (n:Nat)(a b:Int):(bif (n:Int)==0 then true else decide (a < b))= !(bif decide ((0:Int) < (n:Int))then decide (b<=a)else false):=by
 by_cases h0:n=0
 ·subst h0;rfl
 ·rw[show((n:Int)==0)=false from beq_eq_false_iff_ne.2 (by omega),decide_eq_true (show(0:Int) < (n:Int) by omega)]
  exact dec_not (by omega)
theorem field_rel (s:Schema)(m:Message)(n:Nat)(hn:n < m.Fields.length)(h2:okM2 m){x:check_finder}{p:ref12_list}(hi:RelX (-1) x p)(a:AField)(ha:m.Fields.getD n d_AField=a):
  RelX (-1) (fieldP s m n x) (c12notesP a.Notes 2 a.Num (c12addP (!c12valueP s a) a.Num 1 (c12addP (!c12unionP m n) a.Num 15 (c12addP (!c12typP s a) a.Num 12 (c12addP (!c12cardP a) a.Num 1 (c12addP (bif c12resP m.Reserved a.Num then true else r6hasP m.Gone a.Name) a.Num 21 (c12addP ((m.Fields.take n).any fun b=>b.Name==a.Name) a.Num 9 (c12addP (!r9partP a.Name) a.Num 8 (c12addP (bif decide ((0:Int) < (n:Int))then decide (a.Num<=(m.Fields.getD (wrp .i64 ((n:Int) - 1)).toNat d_AField).Num)else false) a.Num 11 (c12addP (bif decide (a.Num < 1)then true else decide (65535 < a.Num)) a.Num 6 p)))))))))):=by
 have hm:okF a:=ha▸h2.2 _ (getD_mem (d:=d_AField) hn)
 have hs:=seenF_eq m.Fields n
 rw[ha]at hs
 unfold fieldP field
 simp only[val_ix,val_cut,val_br,val_lt,val_ob,val_ret,inl_cond,thenS_inl,unl_cond,unl_condx,Int.toNat_natCast,AVal.re_eq,ha,hs]
 refine rel_num (n:=a.Num) (rel_noted ?_ a.Notes hm.2 2 (by omega)) (-1)
 refine rel_unl (rel_unl (rel_unl (rel_unl (rel_unl (rel_unl (rel_unl (rel_unl (rel_unl (rel_num hi a.Num) ?_) ?_) ?_) ?_) ?_) ?_) ?_) ?_) ?_
 ·exact range_not _ _ _
 ·exact order_not _ _ _
 ·exact(part_eq _).trans (nn _)
 ·rfl
 ·rw[res_eq,has_eq]
  cases c12resP m.Reserved a.Num<;>rfl
 ·exact(card_eq a).trans (nn _)
 ·exact(typed_eq s a).trans (nn _)
 ·exact(united_eq m n (by omega) (by omega)).trans (nn _)
 ·exact(default_eq s a hm.1).trans (nn _)
theorem limit_not (a b c:Int):(bif decide (a<=64)then decide (max b c<=16)else false)= !(bif decide (64 < a)then true else bif decide (16 < b)then true else decide (16 < c)):=by
 by_cases h:a<=64
 ·rw[decide_eq_true h,decide_eq_false (show ¬64 < a by omega)]
  by_cases hb:16 < b
  ·rw[decide_eq_true hb,decide_eq_false (show ¬max b c<=16 by omega)];rfl
  ·rw[decide_eq_false hb]
   exact dec_not (by omega)
 ·rw[decide_eq_false h,decide_eq_true (show 64 < a by omega)]
  rfl
theorem msg_eq (s:Schema)(m:Message)(fin:List (Str×Bool))(fin2:List Bool)(h2:okM2 m)(hc:cCyclicP s m fin=c12needsP s m fin2):inMsgP s m fin=c12msgP s m fin2:=by
 unfold inMsgP inMsg c12msgP c12msg
 simp only[val_cut,val_lt,val_br,val_ob,val_as,val_each,val_cnt,val_ix,val_ret,inl_cond,thenS_inl,unl_cond,unl_condx,add_cond,add_condx]
 refine relS_then (I:=RelX (-1)) (Q:=Eq) ?_ (fun y z hyz=> ?_)
 ·have hlen:((m.Fields.length:Int) - 0).toNat=m.Fields.length:=by omega
  rw[hlen]
  have e:∀X:check_finder,forN (fun(i:Int) (y:check_finder)=>(Sum.inl (fieldP s m i y):check_finder⊕(check_finder⊕List Problem))) (fun _ y=> .inl y) m.Fields.length 0 X=forE (fun(k:Nat) (_:AField) (y:check_finder)=>(Sum.inl (fieldP s m k y):check_finder⊕(check_finder⊕List Problem))) (fun _ y=> .inl y) m.Fields 0 X:=fun X=>(forE_forN (d:=d_AField) m.Fields 0 X (fun j y hj=>rfl) (fun y=>rfl)).symm
  refine Eq.mpr (congrArg (fun v=>RelS (RelX (-1)) Eq v _) (e _)) ?_
  refine forE_rel (d:=d_AField) (d':=d_AField) (fun _=>RelX (-1)) (RelS (RelX (-1)) Eq) m.Fields m.Fields 0 _ _ rfl ?_ (fun j y z hj hi=> ?_) (fun y z hi=>hi)
  ·refine rel_unl (rel_unl ⟨rfl,rfl,rfl⟩ ((usable_eq _).trans (nn _))) ?_
   exact limit_not _ _ _
  ·simp only[Nat.zero_add]
   have hj0:((j:Int) - 0).toNat=j:=by omega
   rw[hj0]
   generalize ha:m.Fields.getD j d_AField=a
   have q:=forN_any (R:=ref12_list⊕(ref12_list⊕List Problem)) (d:=d_AField) (l:=m.Fields) (p:=fun b=>b.Name==a.Name) (b:=fun(i5:Int) (y6:Bool)=> .inl (bif (m.Fields.getD i5.toNat d_AField).Name==a.Name then true else y6)) (f:=fun(_:Int) (y6:Bool)=> .inl (c12notesP a.Notes 2 a.Num (c12addP (!c12valueP s a) a.Num 1 (c12addP (!c12unionP m j) a.Num 15 (c12addP (!c12typP s a) a.Num 12 (c12addP (!c12cardP a) a.Num 1 (c12addP (bif c12resP m.Reserved a.Num then true else r6hasP m.Gone a.Name) a.Num 21 (c12addP y6 a.Num 9 (c12addP (!r9partP a.Name) a.Num 8 (c12addP (bif decide ((0:Int) < (j:Int))then decide (a.Num<=(m.Fields.getD (wrp .i64 ((j:Int) - 1)).toNat d_AField).Num)else false) a.Num 11 (c12addP (bif decide (a.Num < 1)then true else decide (65535 < a.Num)) a.Num 6 z))))))))))) (fun _ _=>rfl) j 0 false (by omega)
   simp only[Bool.false_or,List.drop_zero,AVal.re_eq]at q⊢
   refine Eq.mpr (congrArg (fun v=>RelS (RelX (-1)) (RelS (RelX (-1)) Eq) _ v) q) ?_
   exact field_rel s m j hj h2 hi a ha
 ·refine forE_rel (d:=[]) (d':=[]) (fun _=>RelX (-1)) Eq m.Gone m.Gone 0 _ _ rfl (spans_rel _ _ _ hyz) (fun j y z hj hi=> ?_) (fun y z hi=> ?_)
  ·exact rel_unl hi (nn _)
  ·have q:=rel_unl (e:=19) (rel_noted hi m.Notes h2.1 1 (by omega)) (show(!cCyclicP s m fin)= !c12needsP s m fin2 by rw[hc])
   exact q.2.2
theorem items_not (a b:Int):(bif decide (1<=a)then bif decide (a<=64)then decide (b<=16)else false else false)= !(bif decide (a < 1)then true else bif decide (64 < a)then true else decide (16 < b)):=by
 by_cases h:1<=a
 ·rw[decide_eq_true h,decide_eq_false (show ¬a < 1 by omega)]
  by_cases hb:a<=64
  ·rw[decide_eq_true hb,decide_eq_false (show ¬64 < a by omega)]
   exact dec_not (by omega)
  ·rw[decide_eq_false hb,decide_eq_true (show 64 < a by omega)];rfl
 ·rw[decide_eq_false h,decide_eq_true (show a < 1 by omega)]
  rfl
theorem enum_eq (e:Enum)(h2:okE2 e):enumPrP e=c12enumP e:=by
 unfold enumPrP enumPr c12enumP c12enum
 simp only[val_cut,val_lt,val_br,val_ob,val_as,val_each,val_cnt,val_ix,val_ret,inl_cond,thenS_inl,unl_cond,unl_condx,add_cond,add_condx,noted_condx,notes_condx]
 refine forE_rel (d:=d_Item) (d':=d_Item) (fun _ x p=>RelX x.num x p) Eq e.Items e.Items 0 _ _ rfl ?_ (fun j y z hj hi=> ?_) (fun y z hi=> ?_)
 ·refine relX_num (n:= -1) (rel_unl (n:= -1) (rel_unl (n:= -1) (rel_unl (n:= -1) ?_ ((usable_eq _).trans (nn _))) (items_not _ _)) ?_)
  ·exact⟨rfl,rfl,rfl⟩
  by_cases h0:e.Items.length=0
  ·rw[h0];rfl
  ·rw[show((e.Items.length:Int)==0)=false from beq_eq_false_iff_ne.2 (by omega),decide_eq_true (show(0:Int) < (e.Items.length:Int) by omega)]
   simp only[cond_true,cond_false,bne,Bool.not_not]
 ·simp only[Nat.zero_add]
  have hm:okNs (e.Items.getD j d_Item).Notes:=h2.2 _ (getD_mem (d:=d_Item) hj)
  have hs:=seenI_eq e.Items j
  have hj0:((j:Int) - 0).toNat=j:=by omega
  rw[hj0]
  generalize ha:e.Items.getD j d_Item=a at*
  have q:=forN_any (R:=ref12_list⊕List Problem) (d:=d_Item) (l:=e.Items) (p:=fun b=>b.Name==a.Name) (b:=fun(i6:Int) (y7:Bool)=> .inl (bif (e.Items.getD i6.toNat d_Item).Name==a.Name then true else y7)) (f:=fun(_:Int) (y7:Bool)=> .inl (c12notesP a.Notes 4 a.Num (c12addP (c12resP e.Reserved a.Num) a.Num 21 (c12addP y7 a.Num 9 (c12addP (!r9partP a.Name) a.Num 8 (c12addP (bif decide ((0:Int) < (j:Int))then decide (a.Num<=(e.Items.getD (wrp .i64 ((j:Int) - 1)).toNat d_Item).Num)else false) a.Num 11 (c12addP (bif decide (a.Num < 0)then true else decide (2147483647 < a.Num)) a.Num 6 z))))))) (fun _ _=>rfl) j 0 false (by omega)
  simp only[Bool.false_or,List.drop_zero]at q
  have r:RelX a.Num (notedP a.Notes 4 (unlP (!cReservedP e.Reserved a.Num) 21 (unlP (!seenIP e.Items j) 9 (unlP (uPartP a.Name) 8 (unlP (bif (j:Int)==0 then true else decide ((e.Items.getD (wrp .i64 ((j:Int) - 1)).toNat d_Item).Num < a.Num)) 11 (unlP (bif decide (0<=a.Num)then decide (a.Num<=2147483647)else false) 6 ⟨y.def_,a.Num,y.out⟩)))))) _:=
   rel_noted (rel_unl (rel_unl (rel_unl (rel_unl (rel_unl (rel_num hi a.Num) (range_not _ _ _)) (order_not j _ _)) ((part_eq _).trans (nn _))) (congrArg not hs)) (congrArg not (res_eq _ _))) a.Notes hm 4 (by omega)
  exact relS_num r rfl q
 ·have q:=rel_noted (spans_rel e.Reserved 0 2147483647 (rel_num hi (-1))) e.Notes h2.1 3 (by omega)
  exact q.2.2
theorem svc_eq (s:Schema)(v:Service)(h2:okSv2 v):cSvcP s v=c12svcP s v:=by
 unfold cSvcP cSvc c12svcP c12svc
 simp only[val_cut,val_lt,val_br,val_ob,val_as,val_each,val_cnt,val_ix,val_ret,inl_cond,thenS_inl,unl_cond,unl_condx,add_cond,add_condx,noted_condx,notes_condx]
 refine forE_rel (d:=d_AMethod) (d':=d_AMethod) (fun _ x p=>RelX x.num x p) Eq v.Methods v.Methods 0 _ _ rfl ?_ (fun j y z hj hi=> ?_) (fun y z hi=> ?_)
 ·refine relX_num (n:= -1) (rel_unl (n:= -1) (rel_unl (n:= -1) ?_ ((usable_eq _).trans (nn _))) (dec_not ?_))
  ·exact⟨rfl,rfl,rfl⟩
  ·omega
 ·simp only[Nat.zero_add]
  have hm:okNs (v.Methods.getD j d_AMethod).Notes:=h2.2 _ (getD_mem (d:=d_AMethod) hj)
  generalize ha:v.Methods.getD j d_AMethod=a at*
  have r:RelX (j:Int) (notedP a.Notes 6 (unlP (bif decide (1<=a.Shape)then decide (a.Shape<=4)else false) 1 (unlP (bif (cMessageP s a.In).snd then(cMessageP s a.Out).snd else false) 12 (unlP (bif (j:Int)==0 then true else !(Op.bytesLess a.Name (v.Methods.getD (wrp .i64 ((j:Int) - 1)).toNat d_AMethod).Name || a.Name==(v.Methods.getD (wrp .i64 ((j:Int) - 1)).toNat d_AMethod).Name)) 11 (unlP (uPartP a.Name) 8 ⟨y.def_,(j:Int),y.out⟩)))))
    (c12notesP a.Notes 6 j (c12addP (bif decide (a.Shape < 1)then true else decide (4 < a.Shape)) j 1 (c12addP (bif decide (ixOf (fun(m:Message)=>m.Name==a.In) s.Messages < 0)then true else decide (ixOf (fun(m:Message)=>m.Name==a.Out) s.Messages < 0)) j 12 (c12addP (bif decide ((0:Int) < (j:Int))then Op.bytesLess a.Name (v.Methods.getD (wrp .i64 ((j:Int) - 1)).toNat d_AMethod).Name || a.Name==(v.Methods.getD (wrp .i64 ((j:Int) - 1)).toNat d_AMethod).Name else false) j 11 (c12addP (!r9partP a.Name) j 8 z))))):=by
   refine rel_noted (rel_unl (rel_unl (rel_unl (rel_unl (rel_num hi (j:Int)) ((part_eq _).trans (nn _))) ?_) ?_) (range_not _ _ _)) a.Notes hm 6 (by omega)
   ·by_cases h0:j=0
    ·subst h0;rfl
    ·rw[show((j:Int)==0)=false from beq_eq_false_iff_ne.2 (by omega),decide_eq_true (show(0:Int) < (j:Int) by omega)]
     rfl
   ·rw[message_in,message_in]
    by_cases h1:ixOf (fun(m:Message)=>m.Name==a.In) s.Messages < 0
    ·rw[decide_eq_true h1,decide_eq_false (show ¬0<=ixOf (fun(m:Message)=>m.Name==a.In) s.Messages by omega)];rfl
    ·rw[decide_eq_false h1,decide_eq_true (show 0<=ixOf (fun(m:Message)=>m.Name==a.In) s.Messages by omega)]
     exact dec_not (by omega)
  refine relS_num r ?_ rfl
  cases(j:Int)==0<;>cases(cMessageP s a.In).snd<;>cases decide (1<=a.Shape)<;>rfl
 ·have q:=rel_noted (rel_num hi (-1)) v.Notes h2.1 5 (by omega)
  exact q.2.2
end Go.Proofs.YtiibcbmenoaigaaGreatDoor
