/- Server: messages that have finite values: the program finds those that the reference finds. -/
import Derived.Test.YtiibcbmenoaigaaGreatDoorQb
namespace Go.Proofs.YtiibcbmenoaigaaGreatDoor
open Go.RowKit Go.Vc
set_option linter.unusedVariables false
set_option linter.unusedSimpArgs false
set_option maxRecDepth 100000
theorem forE_range {A Y R:Type}{d:A}{b:Nat->A->Y->Y⊕R}{f:Nat->Y->R}{g:Y->Nat->Y}:∀(l:List A) (k:Nat) (y:Y),(∀j y,j < l.length->b (k+j) (l.getD j d) y= .inl (g y (k+j)))->forE b f l k y=f (k+l.length) ((List.range' k l.length).foldl g y)
 | [],k,y,_=>rfl
 | a::l,k,y,hb=>by
  have h0:=hb 0 y (by simp)
  rw[Nat.add_zero]at h0
  have e:(a::l).getD 0 d=a:=rfl
  rw[e]at h0
  unfold forE
  rw[h0]
  have ih:=forE_range (d:=d) (f:=f) (g:=g) l (k+1) (g y k) (fun j y hj=>by
   have q:=hb (j+1) y (by simp;omega)
   rw[show k+(j+1)=k+1+j by omega]at q
   exact q)
  dsimp only
  rw[ih,List.length_cons,List.range'_succ,List.foldl_cons,show k+1+l.length=k+(l.length+1) by omega]
def wants (m:Message):List Str:=(m.Fields.filter fun f=>f.Card==1 && f.Type_.Kind==10).map fun f=>f.Type_.Name
theorem cNeeds_as (m:Message):cNeedsP m=wants m:=by
 unfold cNeedsP cNeeds wants
 simp only[val_as,val_each,val_ix,val_br,val_ob,val_ret]
 have key:∀(l:List AField) (k:Nat) (y:List Str),forE (fun(_:Nat) (a:AField) (y2:List Str)=>bif a.Card==1 then bif a.Type_.Kind==10 then(Sum.inl (y2++[a.Type_.Name]):List Str⊕List Str)else .inl y2 else .inl y2) (fun _ y2=>y2) l k y=y++(l.filter fun f=>f.Card==1 && f.Type_.Kind==10).map fun f=>f.Type_.Name:=by
  intro l
  induction l with
  | nil=>intro k y;simp[forE]
  | cons a l ih=>
   intro k y
   unfold forE
   cases h1:a.Card==1<;>cases h2:a.Type_.Kind==10<;>simp only[cond_true,cond_false]<;>rw[ih]<;>simp[h1,h2]
 exact key m.Fields 0 []
def placeM (s:Schema)(n:Str):Int:=ixOf (fun(m:Message)=>m.Name==n) s.Messages
def hasN (s:Schema)(n:Str):Bool:=decide (0<=placeM s n)
theorem c12needs_as (s:Schema)(m:Message)(fin:List Bool):c12needsP s m fin=(wants m).any fun n=>hasN s n && !fin.getD (placeM s n).toNat false:=by
 unfold c12needsP c12needs
 simp only[val_each,val_ix,val_br,val_lt,val_ret]
 have e:∀l:List AField,(l.any fun f=>(f.Card==1 && f.Type_.Kind==10) && (hasN s f.Type_.Name && !fin.getD (placeM s f.Type_.Name).toNat false))=((l.filter fun f=>f.Card==1 && f.Type_.Kind==10).map fun f=>f.Type_.Name).any fun n=>hasN s n && !fin.getD (placeM s n).toNat false:=by
  intro l
  induction l with
  | nil=>rfl
  | cons a l ih=>
   rw[List.any_cons,ih,List.filter_cons]
   cases h:(a.Card==1 && a.Type_.Kind==10)with
   | true=>simp
   | false=>simp
 unfold wants
 rw[<-e]
 refine forE_anyR (fun k a=> ?_) (fun k=>rfl) _ 0
 unfold hasN placeM bne
 cases a.Card==1<;>cases a.Type_.Kind==10<;>cases decide (0<=ixOf (fun(m:Message)=>m.Name==a.Type_.Name) s.Messages)<;>cases fin.getD (ixOf (fun(m:Message)=>m.Name==a.Type_.Name) s.Messages).toNat false<;>rfl
theorem finC_as (n:Str)(s:Schema)(out:List (Str×Bool)):finCP n s out=(hasN s n && !kvGet false out n):=by
 unfold finCP finC
 simp only[val_br,val_ret,message_in]
 unfold hasN placeM
 cases decide (0<=ixOf (fun(m:Message)=>m.Name==n) s.Messages)<;>rfl
theorem cyclic_as (s:Schema)(m:Message)(fin:List (Str×Bool)):cCyclicP s m fin=(wants m).any fun n=>hasN s n && !kvGet false fin n:=by
 unfold cCyclicP cCyclic
 simp only[val_ob,val_ret,cNeeds_as]
 congr 1
 funext n
 unfold cycCP cycC
 simp only[val_br,val_ret,message_in]
 unfold hasN placeM
 cases decide (0<=ixOf (fun(m:Message)=>m.Name==n) s.Messages)<;>rfl
noncomputable def rulesM (s:Schema):Rules Str:=rulesN s.Messages Message.Name wants (hasN s) (fun n=>(cMessageP s n).1)
def rulesF (s:Schema):Rules Nat:=rulesI s.Messages.length (fun i=>s.Messages.getD i d_Message) wants (hasN s) (fun n=>(placeM s n).toNat)
noncomputable def passM (s:Schema)(y:List (Str×Bool))(a:Message):List (Str×Bool):=bif !(wants (cMessageP s a.Name).1).any fun n=>hasN s n && !kvGet false y n then kvPut y a.Name true else y
theorem finite_as (s:Schema)(h:s.Messages.length<=1048576):(fun n=>kvGet false (cFiniteP s) n)=iterR (rulesM s) (s.Messages.length+1) (fun _=>false):=by
 have w:wrp .i64 ((s.Messages.length:Int)+1)=(s.Messages.length:Int)+1:=wrp_in (k:= .i64) (by simp only[InR];omega)
 have e:cFiniteP s=iterF (fun y=>s.Messages.foldl (passM s) y) (s.Messages.length+1) []:=by
  unfold cFiniteP cFinite
  simp only[val_lt,val_cnt,val_as,val_each,val_ix,val_ob,val_br,val_ret]
  rw[w,show((s.Messages.length:Int)+1 - 0).toNat=s.Messages.length+1 by omega]
  refine Eq.trans (forN_iter (g:=fun y=>s.Messages.foldl (passM s) y) (fun i y=> ?_) _ 0 []) rfl
  refine Eq.trans (forE_cong _ _ _ (fun j a y _ _=> ?_) (fun y=>rfl)) (forE_fold (passM s) (fun _ y=>(Sum.inl y:List (Str×Bool)⊕List (Str×Bool))) s.Messages 0 y)
  unfold passM
  have k:((cNeedsP (cMessageP s a.Name).fst).any fun(x:Str)=>finCP x s y)=(wants (cMessageP s a.Name).1).any fun n=>hasN s n && !kvGet false y n:=by
   rw[cNeeds_as]
   congr 1
   funext n
   exact finC_as n s y
  rw[k]
  cases(wants (cMessageP s a.Name).1).any fun n=>hasN s n && !kvGet false y n<;>rfl
 rw[e]
 refine iter_sim (abs:=fun(y:List (Str×Bool)) n=>kvGet false y n) (I:=fun _=>True) (fun y _=> ?_) _ _ trivial
 refine pass_sim (abs:=fun(y:List (Str×Bool)) n=>kvGet false y n) (I:=fun _=>True) (r:=fun m=>(m.Name,fun X=> !(wants (cMessageP s m.Name).1).any fun n=>hasN s n && !X n)) s.Messages y trivial (fun a _ y _=>⟨trivial,?_⟩)
 unfold passM ruleS
 cases hc:(!(wants (cMessageP s a.Name).1).any fun n=>hasN s n && !kvGet false y n)with
 | true=>simp only[hc,cond_true];exact put_abs y a.Name
 | false=>simp only[hc,cond_false]
def passF (s:Schema)(x:Bool×List Bool)(i:Nat):Bool×List Bool:=bif !x.2.getD i false then bif !(wants (s.Messages.getD i d_Message)).any fun n=>hasN s n && !x.2.getD (placeM s n).toNat false then(true,x.2.set i true)else x else x
theorem c12fin_as (s:Schema)(h:s.Messages.length<=1048576):(fun i=>(c12finP s).getD i false)=iterR (rulesF s) s.Messages.length (fun _=>false):=by
 unfold c12finP c12fin
 simp only[val_ob,val_as,val_cnt,val_br,val_each,val_ix,val_ret]
 rw[show((s.Messages.length:Int) - 0).toNat=s.Messages.length by omega]
 have pass:∀y:List Bool,y.length=s.Messages.length->((List.range' 0 s.Messages.length).foldl (passF s) (false,y)).2.length=s.Messages.length/\(fun i=>((List.range' 0 s.Messages.length).foldl (passF s) (false,y)).2.getD i false)=passR (rulesF s) (fun i=>y.getD i false)/\
   (((List.range' 0 s.Messages.length).foldl (passF s) (false,y)).1=false->(fun i=>((List.range' 0 s.Messages.length).foldl (passF s) (false,y)).2.getD i false)=fun i=>y.getD i false):=by
  intro y hy
  have q:=pass_more_sim (abs:=fun(y:List Bool) i=>y.getD i false) (I:=fun y=>y.length=s.Messages.length) (g:=passF s) (r:=fun i=>(i,fun X=> !(wants (s.Messages.getD i d_Message)).any fun n=>hasN s n && !X (placeM s n).toNat)) (List.range' 0 s.Messages.length) false y hy (fun a ha m y hy=> ?_)
  ·refine⟨q.1,?_,fun k=>(q.2.2 k).2⟩
   have e:rulesF s=(List.range' 0 s.Messages.length).map fun i=>(i,fun X=> !(wants (s.Messages.getD i d_Message)).any fun n=>hasN s n && !X (placeM s n).toNat):=by
    unfold rulesF rulesI
    rw[List.range_eq_range']
   rw[e]
   exact q.2.1
  ·have hlt:a < s.Messages.length:=by
    have:=(List.mem_range'_1.1 ha).2
    omega
   unfold passF ruleS
   cases h1:y.getD a false with
   | true=>
    refine⟨hy,?_,fun k=>⟨k,rfl⟩⟩
    simp only[h1,Bool.not_true,cond_false]
    cases(!(wants (s.Messages.getD a d_Message)).any fun n=>hasN s n && !y.getD (placeM s n).toNat false)with
    | true=>exact(ruleS_done (fun i=>y.getD i false) a h1).symm
    | false=>rfl
   | false=>
    cases hc:(!(wants (s.Messages.getD a d_Message)).any fun n=>hasN s n && !y.getD (placeM s n).toNat false)with
    | true=>
     simp only[h1,hc,Bool.not_false,cond_true]
     exact⟨by rw[List.length_set];exact hy,set_abs y a (by omega),fun k=>by cases k⟩
    | false=>
     simp only[h1,hc,Bool.not_false,cond_true,cond_false]
     refine⟨hy,?_,fun k=>⟨k,?_⟩⟩<;>first | rfl | trivial
 have key:∀b:Int->Bool×List Bool->(Bool×List Bool)⊕List Bool,(∀i m y,y.length=s.Messages.length->b i (m,y)=bif m then .inl ((List.range' 0 s.Messages.length).foldl (passF s) (false,y))else .inr y)->(fun i=>(forN b (fun _ y2=>y2.snd) s.Messages.length 0 (true,List.replicate s.Messages.length false)).getD i false)=iterR (rulesF s) s.Messages.length (fun _=>false):=by
  intro b hb
  obtain⟨y',h1,h2,h3⟩:=more_sim (R:=List Bool) (abs:=fun(y:List Bool) i=>y.getD i false) (I:=fun y=>y.length=s.Messages.length) (g:=fun y=>(List.range' 0 s.Messages.length).foldl (passF s) (false,y)) (Rs:=rulesF s) (b:=b) (f:=fun _ y=>y.2) (F:=fun y=>y) hb (fun i m y=>rfl) pass s.Messages.length 0 true (List.replicate s.Messages.length false) (by simp) (fun k=>by cases k)
  rw[h1]
  refine h3.trans (congrArg _ ?_)
  funext i
  simp only[List.getD,List.getElem?_replicate]
  split<;>rfl
 refine key _ (fun i m y hy=> ?_)
 cases m with
 | false=>rfl
 | true=>
  simp only[cond_true]
  refine Eq.trans (forE_range (d:=d_Message) (g:=passF s) s.Messages 0 (false,y) (fun j y4 hj=> ?_)) rfl
  simp only[Nat.zero_add,Int.toNat_natCast,c12needs_as]
  unfold passF
  cases y4.2.getD j false<;>cases(wants (s.Messages.getD j d_Message)).any fun n=>hasN s n && !y4.2.getD (placeM s n).toNat false<;>rfl
theorem finite_eq (s:Schema)(h:s.Messages.length<=1048576)(n:Str)(hn:hasN s n=true):kvGet false (cFiniteP s) n=(c12finP s).getD (placeM s n).toNat false:=by
 have e1:=congrFun (finite_as s h) n
 have e2:=congrFun (c12fin_as s h) (placeM s n).toNat
 have pl:∀n,hasN s n=true->0<=placeM s n:=fun n hn=>of_decide_eq_true hn
 have lt:∀n,placeM s n < s.Messages.length:=fun n=>(ixOf_lt _ _).1
 refine e1.trans (Eq.trans (fin_agree s.Messages d_Message Message.Name wants (hasN s) (fun n=>(placeM s n).toNat) (fun n=>(cMessageP s n).1) (fun n hn=>⟨?_,?_⟩) (fun i hi=> ?_) (fun n hn=> ?_) _ _ (Nat.le_succ _) (Nat.le_refl _) n hn) e2.symm)
 ·have:=pl n hn
  have:=lt n
  omega
 ·have:=ixOf_at (fun(m:Message)=>m.Name==n) s.Messages d_Message (pl n hn)
  exact eq_of_beq this
 ·unfold hasN
  refine decide_eq_true ?_
  rcases ixOf_spec (fun(m:Message)=>m.Name==(s.Messages.getD i d_Message).Name) s.Messages with⟨_,h2⟩ | ⟨u,a,v,_,_,_,h4⟩
  ·have:=h2 _ (getD_mem (d:=d_Message) hi)
   simp at this
  ·show 0<=ixOf _ _
   rw[h4];omega
 ·have:=pl n hn
  rw[cMessage_as]
  have k:¬ixOf (fun(x:Message)=>x.Name==n) s.Messages < 0:=by
   unfold placeM at this
   omega
  rw[decide_eq_false k]
  rfl
theorem cyclic_eq (s:Schema)(h:s.Messages.length<=1048576)(m:Message):cCyclicP s m (cFiniteP s)=c12needsP s m (c12finP s):=by
 rw[cyclic_as,c12needs_as]
 congr 1
 funext n
 cases hn:hasN s n with
 | false=>rfl
 | true=>rw[finite_eq s h n hn]
end Go.Proofs.YtiibcbmenoaigaaGreatDoor
