/- Own engine: Vdy, Vdz, Vdk, Vd0, Vdx. -/
import Derived.Test.YtiibcbmenoaigaaGreatDoorEng10
import Derived.SizedLaws
namespace Go.Vc
set_option linter.unusedVariables false
set_option linter.unusedSimpArgs false
instance sumInh {X R:Type} [Inhabited R]:Inhabited (X⊕R):=⟨.inr default⟩
structure Ix (X Y:Type) where
 gi:X->Int
 gy:X->Y
 mx:Int->Y->X
 h1:∀i y,gi (mx i y)=i
 h2:∀i y,gy (mx i y)=y
def ixP {Y:Type}:Ix (Int×Y) Y:=⟨Prod.fst,Prod.snd,Prod.mk,fun _ _=>rfl,fun _ _=>rfl⟩
def ixI:Ix Int Unit:=⟨id,fun _=>(),fun i _=>i,fun _ _=>rfl,fun _ _=>rfl⟩
inductive Pg:Type->Type 1 where
 | ret {R:Type} (r:R):Pg R
 | no {R:Type} (r:R):Pg R
 | ob {R:Type} (p:Prop) (k:Pg R):Pg R
 | obD {R:Type} (p:Prop) (d:Decidable p) (k:Pg R):Pg R
 | as {R:Type} (p:Prop) (k:Pg R):Pg R
 | br {R:Type} (b:Bool) (t e:Pg R):Pg R
 | unk {R:Type} (s:Bool) (p:Bool->Prop) (t e:Pg R):Pg R
 | lt {R A:Type} (v:A) (k:A->Pg R):Pg R
 | cut {R X:Type} (k:X->Pg R) (a:Pg (X⊕R)):Pg R
 | wh {R X:Type} (n:Nat) (r:R) (step:X->Pg (X⊕R)) (x:X):Pg R
 | each {R A X Y:Type} (h:Bool) (s:Ix X Y) (l:List A) (d:A) (body:Int->A->Y->Pg (Y⊕R)) (fin:Int->Y->Pg R) (y:Y):Pg R
 | cnt {R X Y:Type} (s:Ix X Y) (a b:Int) (body:Int->Y->Pg (Y⊕R)) (fin:Int->Y->Pg R) (y:Y):Pg R
 | eachG {R A X Y:Type} (ps:List Prop) (h:Bool) (s:Ix X Y) (l:List A) (d:A) (body:Int->A->Y->Pg (Y⊕R)) (fin:Int->Y->Pg R) (y:Y):Pg R
 | cntG {R X Y:Type} (ps:List Prop) (q:Option Prop) (s:Ix X Y) (a b:Int) (body:Int->Y->Pg (Y⊕R)) (fin:Int->Y->Pg R) (y:Y):Pg R
section
variable {R R' A X Y:Type}
def nxI (s:Ix X Y)(i:Int):Y⊕R->X⊕R
 | .inl y=> .inl (s.mx (wrp .i64 (i+1)) y)
 | .inr r=> .inr r
noncomputable def needL:List Prop->Option R->Option R
 | [],k=>k
 | p::ps,k=>need p (needL ps k)
noncomputable def asmO (q:Option Prop)(e:R)(k:Option R):Option R:=
 match q with
 | none=>k
 | some q=>asm q e k
def AllP:List Prop->Prop
 | []=>True
 | p::ps=>p/\AllP ps
theorem needL_pos:∀{ps:List Prop} {k:Option R},AllP ps->needL ps k=k
 | [],_,_=>rfl
 | p::ps,k,h=>by unfold needL;rw[need_pos h.1,needL_pos h.2]
theorem asmO_pos {q:Option Prop}{e:R}{k:Option R}(h:preP q):asmO q e k=k:=by
 cases q with
 | none=>rfl
 | some q=>exact asm_pos h
theorem asmO_neg {q:Option Prop}{e:R}{k:Option R}(h:¬preP q):asmO q e k=some e:=by
 cases q with
 | none=>exact(h trivial).elim
 | some q=>exact asm_neg h
noncomputable def Pg.runK:{R:Type}->Pg R->(R':Type)->(R->R')->R'->Option R'
 | _, .ret r,_,f,_=>some (f r)
 | _, .no _,_,_,_=>none
 | _, .ob p k,R',f,e=>need p (k.runK R' f e)
 | _, .obD p _ k,R',f,e=>need p (k.runK R' f e)
 | _, .as p k,R',f,e=>asm p e (k.runK R' f e)
 | _, .br b t t',R',f,e=>cond b (t.runK R' f e) (t'.runK R' f e)
 | _, .unk _ p t t',R',f,e=>both p (t.runK R' f e) (t'.runK R' f e)
 | _, .lt v k,R',f,e=>(k v).runK R' f e
 | _, .cut (X:=X) k a,R',f,e=>bindS (a.runK (X⊕R') (Sum.map id f) (.inr e)) fun x=>(k x).runK R' f e
 | _, .wh (X:=X) _ _ step x,R',f,e=>loopU (fun y=>(step y).runK (X⊕R') (Sum.map id f) (.inr e)) x
 | _, .each (X:=X) h s l d body fin y,R',f,e=>loopU (fun x=>
   cond h (asm (l.length<=9223372036854775807) (.inr e) (cond (decide (s.gi x < (↑l.length:Int))) ((body (s.gi x) (l.getD (s.gi x).toNat d) (s.gy x)).runK (X⊕R') (fun z=>nxI s (s.gi x) (Sum.map id f z)) (.inr e)) ((fin (s.gi x) (s.gy x)).runK (X⊕R') (fun r=> .inr (f r)) (.inr e))))
    (cond (decide (s.gi x < (↑l.length:Int))) ((body (s.gi x) (l.getD (s.gi x).toNat d) (s.gy x)).runK (X⊕R') (fun z=>nxI s (s.gi x) (Sum.map id f z)) (.inr e)) ((fin (s.gi x) (s.gy x)).runK (X⊕R') (fun r=> .inr (f r)) (.inr e)))) (s.mx 0 y)
 | _, .eachG (X:=X) ps h s l d body fin y,R',f,e=>loopU (fun x=>needL ps (
   cond h (asm (l.length<=9223372036854775807) (.inr e) (cond (decide (s.gi x < (↑l.length:Int))) ((body (s.gi x) (l.getD (s.gi x).toNat d) (s.gy x)).runK (X⊕R') (fun z=>nxI s (s.gi x) (Sum.map id f z)) (.inr e)) ((fin (s.gi x) (s.gy x)).runK (X⊕R') (fun r=> .inr (f r)) (.inr e))))
    (cond (decide (s.gi x < (↑l.length:Int))) ((body (s.gi x) (l.getD (s.gi x).toNat d) (s.gy x)).runK (X⊕R') (fun z=>nxI s (s.gi x) (Sum.map id f z)) (.inr e)) ((fin (s.gi x) (s.gy x)).runK (X⊕R') (fun r=> .inr (f r)) (.inr e))))) (s.mx 0 y)
 | _, .cntG (X:=X) ps q s a b body fin y,R',f,e=>loopU (fun x=>needL ps (asmO q (.inr e) (cond (decide (s.gi x < b)) ((body (s.gi x) (s.gy x)).runK (X⊕R') (fun z=>nxI s (s.gi x) (Sum.map id f z)) (.inr e)) ((fin (s.gi x) (s.gy x)).runK (X⊕R') (fun r=> .inr (f r)) (.inr e))))) (s.mx a y)
 | _, .cnt (X:=X) s a b body fin y,R',f,e=>loopU (fun x=>cond (decide (s.gi x < b)) ((body (s.gi x) (s.gy x)).runK (X⊕R') (fun z=>nxI s (s.gi x) (Sum.map id f z)) (.inr e)) ((fin (s.gi x) (s.gy x)).runK (X⊕R') (fun r=> .inr (f r)) (.inr e))) (s.mx a y)
noncomputable def Pg.run (t:Pg R)(e:R):Option R:=t.runK R id e
abbrev Pg.ix (i:Int)(n:Nat)(k:Pg R):Pg R:= .ob (0<=i/\i < ↑n) k
def arrEta {A:Type}(n:Nat)(d:A)(l:List A):List A:=(List.range n).map fun i=>l.getD i d
def forE (b:Nat->A->Y->Y⊕R)(f:Nat->Y->R):List A->Nat->Y->R
 | [],k,y=>f k y
 | a::l,k,y=>match b k a y with
  | .inl y'=>forE b f l (k+1) y'
  | .inr r=>r
def forN (b:Int->Y->Y⊕R)(f:Int->Y->R):Nat->Int->Y->R
 | 0,i,y=>f i y
 | n+1,i,y=>match b i y with
  | .inl y'=>forN b f n (i+1) y'
  | .inr r=>r
def whN (step:X->X⊕R)(r0:R):Nat->X->R
 | 0,_=>r0
 | n+1,x=>match step x with
  | .inl x'=>whN step r0 n x'
  | .inr r=>r
def thenS (a:X⊕R)(k:X->R):R:=
 match a with
 | .inl x=>k x
 | .inr r=>r
@[simp] theorem thenS_inl (x:X) (k:X->R):thenS (.inl x) k=k x:=rfl
@[simp] theorem thenS_inr (r:R) (k:X->R):thenS (.inr r) k=r:=rfl
def Pg.val:{R:Type}->Pg R->R
 | _, .ret r=>r
 | _, .no r=>r
 | _, .ob _ k=>k.val
 | _, .obD _ _ k=>k.val
 | _, .as _ k=>k.val
 | _, .br b t e=>cond b t.val e.val
 | _, .unk s _ t e=>cond s t.val e.val
 | _, .lt v k=>(k v).val
 | _, .cut k a=>thenS a.val fun x=>(k x).val
 | _, .wh n r step x=>whN (fun y=>(step y).val) r n x
 | _, .each _ _ l _ body fin y=>forE (fun k a y=>(body (↑k:Int) a y).val) (fun k y=>(fin (↑k:Int) y).val) l 0 y
 | _, .cnt _ a b body fin y=>forN (fun i y=>(body i y).val) (fun i y=>(fin i y).val) (b - a).toNat a y
 | _, .eachG _ _ _ l _ body fin y=>forE (fun k a y=>(body (↑k:Int) a y).val) (fun k y=>(fin (↑k:Int) y).val) l 0 y
 | _, .cntG _ _ _ a b body fin y=>forN (fun i y=>(body i y).val) (fun i y=>(fin i y).val) (b - a).toNat a y
@[simp] theorem val_ret (r:R):(Pg.ret r).val=r:=rfl
@[simp] theorem val_no (r:R):(Pg.no r).val=r:=rfl
@[simp] theorem val_ob (p:Prop) (k:Pg R):(Pg.ob p k).val=k.val:=rfl
@[simp] theorem val_obD (p:Prop) (d:Decidable p) (k:Pg R):(Pg.obD p d k).val=k.val:=rfl
@[simp] theorem val_ix (i:Int) (n:Nat) (k:Pg R):(Pg.ix i n k).val=k.val:=rfl
@[simp] theorem val_as (p:Prop) (k:Pg R):(Pg.as p k).val=k.val:=rfl
@[simp] theorem val_br (b:Bool) (t e:Pg R):(Pg.br b t e).val=cond b t.val e.val:=rfl
@[simp] theorem val_unk (s:Bool) (p:Bool->Prop) (t e:Pg R):(Pg.unk s p t e).val=cond s t.val e.val:=rfl
@[simp] theorem val_lt (v:A) (k:A->Pg R):(Pg.lt v k).val=(k v).val:=rfl
@[simp] theorem val_cut (a:Pg (X⊕R)) (k:X->Pg R):(Pg.cut k a).val=thenS a.val fun x=>(k x).val:=rfl
@[simp] theorem val_wh (n:Nat) (r:R) (step:X->Pg (X⊕R)) (x:X):(Pg.wh n r step x).val=whN (fun y=>(step y).val) r n x:=rfl
@[simp] theorem val_each (h:Bool) (s:Ix X Y) (l:List A) (d:A) (body:Int->A->Y->Pg (Y⊕R)) (fin:Int->Y->Pg R) (y:Y):
  (Pg.each h s l d body fin y).val=forE (fun k a y=>(body (↑k:Int) a y).val) (fun k y=>(fin (↑k:Int) y).val) l 0 y:=rfl
@[simp] theorem val_cnt (s:Ix X Y) (a b:Int) (body:Int->Y->Pg (Y⊕R)) (fin:Int->Y->Pg R) (y:Y):
  (Pg.cnt s a b body fin y).val=forN (fun i y=>(body i y).val) (fun i y=>(fin i y).val) (b - a).toNat a y:=rfl
@[simp] theorem val_eachG (ps:List Prop) (h:Bool) (s:Ix X Y) (l:List A) (d:A) (body:Int->A->Y->Pg (Y⊕R)) (fin:Int->Y->Pg R) (y:Y):
  (Pg.eachG ps h s l d body fin y).val=forE (fun k a y=>(body (↑k:Int) a y).val) (fun k y=>(fin (↑k:Int) y).val) l 0 y:=rfl
@[simp] theorem val_cntG (ps:List Prop) (q:Option Prop) (s:Ix X Y) (a b:Int) (body:Int->Y->Pg (Y⊕R)) (fin:Int->Y->Pg R) (y:Y):
  (Pg.cntG ps q s a b body fin y).val=forN (fun i y=>(body i y).val) (fun i y=>(fin i y).val) (b - a).toNat a y:=rfl
def Is (t:Pg R):Prop:=∀(R':Type) (f:R->R') (e:R'),t.runK R' f e=some (f t.val)\/t.runK R' f e=some e
def Is1 (t:Pg R):Prop:=∀(R':Type) (f:R->R') (e:R'),t.runK R' f e=some (f t.val)
theorem Is1.is {t:Pg R}(h:Is1 t):Is t:=fun R' f e=> .inl (h R' f e)
theorem Is.run {t:Pg R}(h:Is t):t.run t.val=some t.val:=by
 rcases h R id t.val with h | h<;>exact h
theorem is_ret {r:R}:Is (.ret r):=fun _ _ _=> .inl rfl
theorem is_ob {p:Prop}{k:Pg R}(hp:p)(hk:Is k):Is (.ob p k):=fun R' f e=>by
 simp only[Pg.runK,need_pos hp]
 exact hk R' f e
theorem is_ix {i:Int}{n:Nat}{k:Pg R}(h1:0<=i)(h2:i < ↑n)(hk:Is k):Is (.ix i n k):=is_ob ⟨h1,h2⟩ hk
theorem is_as {p:Prop}{k:Pg R}(hk:p->Is k):Is (.as p k):=fun R' f e=>by
 by_cases hp:p
 ·simp only[Pg.runK,asm_pos hp]
  exact hk hp R' f e
 ·simp only[Pg.runK,asm_neg hp]
  exact .inr trivial
theorem is_br {b:Bool}{t e:Pg R}(ht:b=true->Is t)(he:b=false->Is e):Is (.br b t e):=fun R' f e0=>by
 cases b with
 | true=>exact ht rfl R' f e0
 | false=>exact he rfl R' f e0
theorem is_brd {p:Prop}{inst:Decidable p}{t e:Pg R}(ht:p->Is t)(he:¬p->Is e):Is (.br (@decide p inst) t e):=
 is_br (fun h=>ht (of_decide_eq_true h)) (fun h=>he (of_decide_eq_false h))
theorem is_beq {a b:A}[h:BEq A][lw:LawfulBEq A]{t e:Pg R}(ht:a=b->Is t)(he:¬a=b->Is e):Is (.br (a==b) t e):=
 is_br (fun h=>ht (by simpa using h)) (fun h=>he (by simpa using h))
theorem is_bne {a b:A}[h:BEq A][lw:LawfulBEq A]{t e:Pg R}(ht:¬a=b->Is t)(he:a=b->Is e):Is (.br (a !=b) t e):=
 is_br (fun h=>ht (by simpa using h)) (fun h=>he (by simpa using h))
theorem room_of {n b:Nat}(h1:n<=1099511627776)(h2:n*b<=140737488355328):roomP n b:=⟨h1,h2⟩
theorem is_lt {v:A}{k:A->Pg R}(h:∀x,x=v->Is (k x)):Is (.lt v k):=h v rfl
theorem is_ltw {n:Int}{k:Int->Pg R}(h:∀x,x=wrp .i64 n->(-9223372036854775808<=n/\n<=9223372036854775807->x=n)->Is (k x)):Is (.lt (wrp .i64 n) k):=
 h _ rfl fun hn=>wrp_in (k:= .i64) hn
theorem is_cut {a:Pg (X⊕R)}{k:X->Pg R}(ha:Is a)(hk:∀x,a.val= .inl x->Is (k x)):Is (.cut k a):=fun R' f e=>by
 have h:=ha (X⊕R') (Sum.map id f) (.inr e)
 simp only[Pg.runK,val_cut]
 rcases h with h | h
 ·rw[h]
  cases hv:a.val with
  | inl x=>exact hk x hv R' f e
  | inr r=>exact .inl rfl
 ·rw[h];exact .inr rfl
theorem is_unk {s:Bool}{p:Bool->Prop}{t e:Pg R}(hp:∃b,p b)(ht:p true->Is1 t/\t.val=cond s t.val e.val)(he:p false->Is1 e/\e.val=cond s t.val e.val):Is (.unk s p t e):=fun R' f e0=>by
 refine .inl ?_
 simp only[Pg.runK,val_unk]
 refine both_of hp (fun h=> ?_) (fun h=> ?_)
 ·rw[(ht h).1 R' f e0,<-(ht h).2]
 ·rw[(he h).1 R' f e0,<-(he h).2]
theorem loop_list {l:List A}{s:Ix X Y}{R':Type}{step:X->Option (X⊕R')}{f:R->R'}{e:R'}{b:Nat->A->Y->Y⊕R}{g:Nat->Y->R}{d:A}(I:Nat->Y->Prop)
  (h1:∀(k:Nat) (y:Y),k < l.length->I k y->step (s.mx ↑k y)=some (match b k (l.getD k d) y with | .inl y'=> .inl (s.mx (↑(k+1)) y') | .inr r=> .inr (f r))/\(∀y',b k (l.getD k d) y= .inl y'->I (k+1) y')\/step (s.mx ↑k y)=some (.inr e))
  (h2:∀y,I l.length y->step (s.mx ↑l.length y)=some (.inr (f (g l.length y)))\/step (s.mx ↑l.length y)=some (.inr e)):
  ∀(n k:Nat) (y:Y),k+n=l.length->I k y->loopU step (s.mx ↑k y)=some (f (forE b g (l.drop k) k y))\/loopU step (s.mx ↑k y)=some e
 | 0,k,y,hk,hi=>by
  have hk:k=l.length:=by omega
  subst hk
  rw[loopU_eq,List.drop_length]
  rcases h2 y hi with h | h<;>rw[h]
  ·exact .inl rfl
  ·exact .inr rfl
 | n+1,k,y,hk,hi=>by
  have hlt:k < l.length:=by omega
  rw[loopU_eq]
  have hd:l.drop k=l.getD k d::l.drop (k+1):=by
   rw[List.drop_eq_getElem_cons hlt]
   congr 1
   simp[List.getD,hlt]
  rw[hd]
  rcases h1 k y hlt hi with⟨h,hI⟩ | h
  ·rw[h]
   cases hb:b k (l.getD k d) y with
   | inl y'=>
    have:=loop_list I h1 h2 n (k+1) y' (by omega) (hI y' hb)
    simp only[forE,hb]
    exact this
   | inr r=>
    simp only[forE,hb]
    exact .inl trivial
  ·rw[h];exact .inr rfl
theorem wrp_next {k:Nat}(h:k < 9223372036854775807):wrp .i64 ((↑k:Int)+1)=↑(k+1):=by
 rw[wrp_in (k:= .i64) (by simp only[InR];omega)]
 omega
theorem is_eachI {h:Bool}{s:Ix X Y}{l:List A}{d:A}{body:Int->A->Y->Pg (Y⊕R)}{fin:Int->Y->Pg R}{y:Y}(I:Nat->Y->Prop)(h0:I 0 y)
  (hl:h=true\/l.length<=9223372036854775807)
  (hb:∀(k:Nat) (y:Y),k < l.length->l.length<=9223372036854775807->I k y->Is (body ↑k (l.getD k d) y)/\∀y',(body ↑k (l.getD k d) y).val= .inl y'->I (k+1) y')
  (hf:∀y,l.length<=9223372036854775807->I l.length y->Is (fin ↑l.length y)):Is (.each h s l d body fin y):=fun R' f e=>by
 simp only[Pg.runK,val_each]
 have key:=fun(step:X->Option (X⊕R'))=>loop_list (l:=l) (s:=s) (step:=step) (f:=f) (e:=e) (b:=fun k a y=>(body (↑k:Int) a y).val) (g:=fun k y=>(fin (↑k:Int) y).val) (d:=d) I
 have core:∀(hm:l.length<=9223372036854775807) (step:X->Option (X⊕R')),(∀x,step x=cond (decide (s.gi x < (↑l.length:Int))) ((body (s.gi x) (l.getD (s.gi x).toNat d) (s.gy x)).runK (X⊕R') (fun z=>nxI s (s.gi x) (Sum.map id f z)) (.inr e)) ((fin (s.gi x) (s.gy x)).runK (X⊕R') (fun r=> .inr (f r)) (.inr e)))->
   (loopU step (s.mx 0 y)=some (f (forE (fun k a y=>(body (↑k:Int) a y).val) (fun k y=>(fin (↑k:Int) y).val) l 0 y))\/loopU step (s.mx 0 y)=some e):=by
  intro hm step hs
  have:=key step (fun k y hk hi=> ?_) (fun y hi=> ?_) l.length 0 y (by omega) h0
  ·simpa using this
  ·obtain⟨q1,q2⟩:=hb k y hk hm hi
   rw[hs,s.h1,s.h2]
   have hlt:((k:Nat):Int) < ↑l.length:=by omega
   simp only[hlt,decide_true,cond_true,Int.toNat_natCast]
   rcases q1 (X⊕R') (fun z=>nxI s ↑k (Sum.map id f z)) (.inr e)with h | h
   ·refine .inl ⟨?_,q2⟩
    rw[h]
    cases(body ↑k (l.getD k d) y).val with
    | inl y'=>simp only[Sum.map_inl,id_eq,nxI,wrp_next (show k < 9223372036854775807 by omega)]
    | inr r=>rfl
   ·exact .inr h
  ·rw[hs,s.h1,s.h2]
   simp only[Int.lt_irrefl,decide_false,cond_false]
   exact(hf y hm hi) (X⊕R') (fun r=> .inr (f r)) (.inr e)
 cases h with
 | false=>
  rcases hl with hl | hl
  ·cases hl
  ·exact core hl _ fun x=>rfl
 | true=>
  by_cases hm:l.length<=9223372036854775807
  ·exact core hm _ fun x=>by simp only[cond_true,asm_pos hm]
  ·refine .inr ?_
   rw[loopU_eq]
   simp only[cond_true,asm_neg hm]
theorem is_each {h:Bool}{s:Ix X Y}{l:List A}{d:A}{body:Int->A->Y->Pg (Y⊕R)}{fin:Int->Y->Pg R}{y:Y}(hl:h=true\/l.length<=9223372036854775807)
  (hb:∀(k:Nat) (y:Y),k < l.length->l.length<=9223372036854775807->Is (body ↑k (l.getD k d) y)) (hf:∀y,l.length<=9223372036854775807->Is (fin ↑l.length y)):Is (.each h s l d body fin y):=
 is_eachI (fun _ _=>True) trivial hl (fun k y h1 h2 _=>⟨hb k y h1 h2,fun _ _=>trivial⟩) fun y h _=>hf y h
theorem loop_num {b:Int}{s:Ix X Y}{R':Type}{step:X->Option (X⊕R')}{f:R->R'}{e:R'}{bd:Int->Y->Y⊕R}{g:Int->Y->R}(I:Int->Y->Prop)(hm:b<=9223372036854775807)
  (h1:∀(i:Int) (y:Y),i < b->I i y->step (s.mx i y)=some (match bd i y with | .inl y'=> .inl (s.mx (i+1) y') | .inr r=> .inr (f r))/\(∀y',bd i y= .inl y'->I (i+1) y')\/step (s.mx i y)=some (.inr e))
  (h2:∀i y,b<=i->I i y->step (s.mx i y)=some (.inr (f (g i y)))\/step (s.mx i y)=some (.inr e)):
  ∀(n:Nat) (i:Int) (y:Y),(b - i).toNat=n->I i y->loopU step (s.mx i y)=some (f (forN bd g n i y))\/loopU step (s.mx i y)=some e
 | 0,i,y,hk,hi=>by
  rw[loopU_eq]
  rcases h2 i y (by omega) hi with h | h<;>rw[h]
  ·exact .inl rfl
  ·exact .inr rfl
 | n+1,i,y,hk,hi=>by
  have hlt:i < b:=by omega
  rw[loopU_eq]
  rcases h1 i y hlt hi with⟨h,hI⟩ | h
  ·rw[h]
   cases hb:bd i y with
   | inl y'=>
    have:=loop_num I hm h1 h2 n (i+1) y' (by omega) (hI y' hb)
    simp only[forN,hb]
    exact this
   | inr r=>
    simp only[forN,hb]
    exact .inl trivial
  ·rw[h];exact .inr rfl
theorem is_cntI {s:Ix X Y}{a b:Int}{body:Int->Y->Pg (Y⊕R)}{fin:Int->Y->Pg R}{y:Y}(I:Int->Y->Prop)(h0:I a y)(ha: -9223372036854775808<=a)(hm:b<=9223372036854775807)
  (hb:∀(i:Int) (y:Y),a<=i->i < b->I i y->Is (body i y)/\∀y',(body i y).val= .inl y'->I (i+1) y')
  (hf:∀i y,a<=i->b<=i->I i y->Is (fin i y)):Is (.cnt s a b body fin y):=fun R' f e=>by
 simp only[Pg.runK,val_cnt]
 refine loop_num (s:=s) (f:=f) (e:=e) (bd:=fun i y=>(body i y).val) (g:=fun i y=>(fin i y).val) (fun i y=>a<=i/\I i y) hm (fun i y hlt hi=> ?_) (fun i y hge hi=> ?_) _ a y rfl ⟨Int.le_refl _,h0⟩
 ·obtain⟨q1,q2⟩:=hb i y hi.1 hlt hi.2
  simp only[s.h1,s.h2,hlt,decide_true,cond_true]
  rcases q1 (X⊕R') (fun z=>nxI s i (Sum.map id f z)) (.inr e)with h | h
  ·refine .inl ⟨?_,fun y' hy=>⟨by omega,q2 y' hy⟩⟩
   rw[h]
   have hw:wrp .i64 (i+1)=i+1:=wrp_in (k:= .i64) (by simp only[InR];omega)
   cases(body i y).val with
   | inl y'=>simp only[Sum.map_inl,id_eq,nxI,hw]
   | inr r=>rfl
  ·exact .inr h
 ·simp only[s.h1,s.h2,show ¬i < b by omega,decide_false,cond_false]
  exact(hf i y hi.1 hge hi.2) (X⊕R') (fun r=> .inr (f r)) (.inr e)
theorem is_cnt {s:Ix X Y}{a b:Int}{body:Int->Y->Pg (Y⊕R)}{fin:Int->Y->Pg R}{y:Y}(ha: -9223372036854775808<=a)(hm:b<=9223372036854775807)
  (hb:∀(i:Int) (y:Y),a<=i->i < b->Is (body i y)) (hf:∀i y,a<=i->b<=i->Is (fin i y)):Is (.cnt s a b body fin y):=
 is_cntI (fun _ _=>True) trivial ha hm (fun i y h1 h2 _=>⟨hb i y h1 h2,fun _ _=>trivial⟩) fun i y h1 h2 _=>hf i y h1 h2
theorem is_eachGI {ps:List Prop}{h:Bool}{s:Ix X Y}{l:List A}{d:A}{body:Int->A->Y->Pg (Y⊕R)}{fin:Int->Y->Pg R}{y:Y}(I:Nat->Y->Prop)(h0:I 0 y)(hp:AllP ps)
  (hl:h=true\/l.length<=9223372036854775807)
  (hb:∀(k:Nat) (y:Y),k < l.length->l.length<=9223372036854775807->I k y->Is (body ↑k (l.getD k d) y)/\∀y',(body ↑k (l.getD k d) y).val= .inl y'->I (k+1) y')
  (hf:∀y,l.length<=9223372036854775807->I l.length y->Is (fin ↑l.length y)):Is (.eachG ps h s l d body fin y):=fun R' f e=>by
 have:=is_eachI (s:=s) I h0 hl hb hf R' f e
 simp only[Pg.runK,needL_pos hp]at this⊢
 exact this
theorem is_eachG {ps:List Prop}{h:Bool}{s:Ix X Y}{l:List A}{d:A}{body:Int->A->Y->Pg (Y⊕R)}{fin:Int->Y->Pg R}{y:Y}(hp:AllP ps)(hl:h=true\/l.length<=9223372036854775807)
  (hb:∀(k:Nat) (y:Y),k < l.length->l.length<=9223372036854775807->Is (body ↑k (l.getD k d) y)) (hf:∀y,l.length<=9223372036854775807->Is (fin ↑l.length y)):Is (.eachG ps h s l d body fin y):=
 is_eachGI (fun _ _=>True) trivial hp hl (fun k y h1 h2 _=>⟨hb k y h1 h2,fun _ _=>trivial⟩) fun y h _=>hf y h
theorem is_cntGI {ps:List Prop}{q:Option Prop}{s:Ix X Y}{a b:Int}{body:Int->Y->Pg (Y⊕R)}{fin:Int->Y->Pg R}{y:Y}(I:Int->Y->Prop)(h0:I a y)(hp:AllP ps)(ha: -9223372036854775808<=a)(hm:preP q->b<=9223372036854775807)
  (hb:∀(i:Int) (y:Y),a<=i->i < b->b<=9223372036854775807->I i y->Is (body i y)/\∀y',(body i y).val= .inl y'->I (i+1) y')
  (hf:∀i y,a<=i->b<=i->I i y->Is (fin i y)):Is (.cntG ps q s a b body fin y):=fun R' f e=>by
 by_cases hq:preP q
 ·have:=is_cntI (s:=s) I h0 ha (hm hq) (fun i y h1 h2=>hb i y h1 h2 (hm hq)) hf R' f e
  simp only[Pg.runK,needL_pos hp,asmO_pos hq]at this⊢
  exact this
 ·refine .inr ?_
  simp only[Pg.runK,needL_pos hp,asmO_neg hq]
  rw[loopU_eq]
theorem is_cntG {ps:List Prop}{q:Option Prop}{s:Ix X Y}{a b:Int}{body:Int->Y->Pg (Y⊕R)}{fin:Int->Y->Pg R}{y:Y}(hp:AllP ps)(ha: -9223372036854775808<=a)(hm:preP q->b<=9223372036854775807)
  (hb:∀(i:Int) (y:Y),a<=i->i < b->b<=9223372036854775807->Is (body i y)) (hf:∀i y,a<=i->b<=i->Is (fin i y)):Is (.cntG ps q s a b body fin y):=
 is_cntGI (fun _ _=>True) trivial hp ha hm (fun i y h1 h2 h3 _=>⟨hb i y h1 h2 h3,fun _ _=>trivial⟩) fun i y h1 h2 _=>hf i y h1 h2
theorem is_wh {n:Nat}{r0:R}{step:X->Pg (X⊕R)}{x:X}(I:X->Prop)(mu:X->Nat)(h0:I x)(hn:mu x < n)
  (hs:∀x,I x->Is (step x)/\∀x',(step x).val= .inl x'->I x'/\mu x' < mu x):Is (.wh n r0 step x):=fun R' f e=>by
 simp only[Pg.runK,val_wh]
 induction n generalizing x with
 | zero=>omega
 | succ n ih=>
  rw[loopU_eq]
  obtain⟨q1,q2⟩:=hs x h0
  rcases q1 (X⊕R') (Sum.map id f) (.inr e)with h | h
  ·rw[h]
   cases hv:(step x).val with
   | inl x'=>
    obtain⟨q3,q4⟩:=q2 x' hv
    simp only[Sum.map_inl,id_eq,whN,hv]
    exact ih q3 (by omega)
   | inr r=>
    simp only[Sum.map_inr,whN,hv]
    exact .inl trivial
  ·rw[h];exact .inr rfl
end
end Go.Vc
namespace Go.Vc
open Go.RowKit
set_option linter.unusedVariables false
set_option linter.unusedSimpArgs false
structure Seat (D:Type) where
 P:Program
 S:Sh D
 T:TypeId->Option Ty
 mx:P.follows .mixedOrders=true
 hT:∀t ty,T t=some ty->TyOk P t ty
 hS:ShOk S
structure Ent {D:Type}(Z:Seat D) where
 f:FuncId
 ct:Ct D
 ok:CtOk Z.P Z.S f ct
section
variable {D:Type}{Z:Seat D}
def envL:List (Ent Z)->FuncId->Option (Ct D)
 | [],_=>none
 | e::r,f=>if Nat.beq f e.f then(match envL r f with
  | some c=>some (ctOr e.ct c)
  | none=>some e.ct)else envL r f
theorem envL_ok:∀{l:List (Ent Z)} {f:FuncId} {ct:Ct D},envL l f=some ct->CtOk Z.P Z.S f ct
 | [],f,ct,h=>by cases h
 | e::r,f,ct,h=>by
  unfold envL at h
  split at h
  ·rename_i he
   have he:=Nat.eq_of_beq_eq_true he
   subst he
   split at h
   ·rename_i c hc
    injection h with h
    subst h
    exact ctOr_ok e.ok (envL_ok hc)
   ·injection h with h
    subst h
    exact e.ok
  ·exact envL_ok h
structure Sh1 (S:Sh D):Type 1 where
 i:Nat
 sh:Shp D
 ok:ShpOk S sh
def jS {S:Sh D}(i:Nat)(sh:Shp D)[h:ShpOk S sh]:Sh1 S:=⟨i,sh,h⟩
def jL {S:Sh D}:List (Sh1 S)->Nat->Option (Shp D)
 | [],_=>none
 | s::r,n=>if Nat.beq n s.i then some s.sh else jL r n
theorem jL_ok {S:Sh D}:∀{l:List (Sh1 S)} {i:Nat} {sh:Shp D},jL l i=some sh->ShpOk S sh
 | [],i,sh,h=>by cases h
 | s::r,i,sh,h=>by
  unfold jL at h
  split at h
  ·injection h with h
   subst h
   exact s.ok
  ·exact jL_ok h
def bodyF (fn:Func):Code:=fn.body.getD .skip
def chkF (fn:Func):Bool:=fn.body.isSome && (fn.name != "runtime.NumGoroutine" && drawsOk (bodyF fn))
def treeF (Z:Seat D)(Γ:FuncId->Option (Ct D))(J:Nat->Option (Shp D))(AS:ArgShp D)(RS:Shp D)(lent:Nat)(keep:List Nat)(fn:Func)(n:Nat)(a:AS.A):Tr D RS.X:=
 evC Z.T Z.S Γ n J (bodyF fn) RS.X (St.init (AS.enc a).1 (AS.enc a).2) (retL Z.T Z.S fn.results.toList RS lent keep)
theorem ct_ofN {Γ:FuncId->Option (Ct D)}(hΓ:∀f ct,Γ f=some ct->CtOk Z.P Z.S f ct){J:List (Sh1 Z.S)}{AS:ArgShp D}{RS:Shp D}{lent n:Nat}{keep:List Nat}{f:FuncId}{fn:Func}(hAS:ArgOk Z.S AS lent n)(hRS:ShpOk Z.S RS)
  (hf:Z.P.funcs[f]? =some fn) (hn:fn.ntmps=n) (hc:chkF fn=true) (k:Nat) (hk:fn.results.toList.length=k) (F:AS.A->Pg RS.X) (pre:AS.A->Option Prop) (hrun:∀a e,preP (pre a)->(F a).run e=(treeF Z Γ (jL J) AS RS lent keep fn n a).run e)
  (fv:AS.A->RS.X) (his:∀a,preP (pre a)->Is (F a)/\(F a).val=fv a):CtOk Z.P Z.S f (ctN AS RS k keep pre fv):=by
 subst hk
 simp only[chkF,Bool.and_eq_true,bne_iff_ne,ne_eq]at hc
 obtain⟨h1,h2,h3⟩:=hc
 obtain⟨c,hb⟩:=Option.isSome_iff_exists.1 h1
 have hbf:bodyF fn=c:=by simp[bodyF,hb]
 refine fn_okN (J:=jL J) Z.mx Z.hT hΓ Z.hS (fun i sh h=>jL_ok (l:=J) h) hf hb (by simpa using h2) hn rfl (by rw[<-hbf];exact h3) hAS hRS pre fv fun a ha=> ?_
 obtain⟨q1,q2⟩:=his a ha
 have h:=hrun a (F a).val ha
 rw[q1.run,q2]at h
 unfold treeF at h
 rw[hbf]at h
 exact h.symm
theorem ct_zero {AS:ArgShp D}{RS:Shp D}{k:Nat}{keep:List Nat}{f:FuncId}{fn:Func}(hf:Z.P.funcs[f]? =some fn)(hc:chkF fn=true){pre:AS.A->Option Prop}{fv:AS.A->RS.X}(hz:∀a,preP (pre a)->False):
  CtOk Z.P Z.S f (ctN AS RS k keep pre fv):=by
 simp only[chkF,Bool.and_eq_true,bne_iff_ne,ne_eq]at hc
 obtain⟨h1,h2,h3⟩:=hc
 obtain⟨c,hb⟩:=Option.isSome_iff_exists.1 h1
 refine⟨fun args w=>by simp[callFunc,hf,h2,hb],fun X N g w args sargs bks p r post kp hp hrel hct hpre=> ?_⟩
 unfold ctN at hct
 split at hct
 ·cases hct
 ·injection hct with hct
  injection hct with q1 hct
  subst q1
  exact(hz _ (preD_map.1 hpre)).elim
noncomputable def entN (Z:Seat D)(env:List (Ent Z))(J:List (Sh1 Z.S))(AS:ArgShp D){lent n:Nat}(hAS:ArgOk Z.S AS lent n)(RS:Shp D)[hRS:ShpOk Z.S RS](keep:List Nat){f:FuncId}{fn:Func}
  (hf:Z.P.funcs[f]? =some fn) (hn:fn.ntmps=n) (hc:chkF fn=true) (k:Nat) (hk:fn.results.toList.length=k) (F:AS.A->Pg RS.X) (pre:AS.A->Option Prop) (hrun:∀a e,preP (pre a)->(F a).run e=(treeF Z (envL env) (jL J) AS RS lent keep fn n a).run e)
  (fv:AS.A->RS.X) (his:∀a,preP (pre a)->Is (F a)/\(F a).val=fv a):Ent Z:=
 ⟨f,ctN AS RS k keep pre fv,ct_ofN (fun _ _=>envL_ok) hAS hRS hf hn hc k hk F pre hrun fv his⟩
end
end Go.Vc
namespace Go.Vc
set_option linter.unusedVariables false
set_option linter.unusedSimpArgs false
section
variable {A R Y:Type}
def ixFrom (p:A->Bool):List A->Nat->Int
 | [],_=> -1
 | a::l,k=>bif p a then(↑k:Int)else ixFrom p l (k+1)
def ixOf (p:A->Bool)(l:List A):Int:=ixFrom p l 0
theorem forE_ix (p:A->Bool):∀(l:List A) (k:Nat),forE (fun k a (_:Unit)=>cond (p a) (.inr (↑k:Int)) (.inl ())) (fun _ _=>(-1:Int)) l k ()=ixFrom p l k
 | [],_=>rfl
 | a::l,k=>by
  unfold forE ixFrom
  cases p a with
  | true=>rfl
  | false=>exact forE_ix p l (k+1)
theorem ixFrom_spec (p:A->Bool):∀(l:List A) (k:Nat),(ixFrom p l k= -1/\∀a∈l,p a=false)\/∃(u:List A) (a:A) (v:List A),l=u++a::v/\p a=true/\(∀x∈u,p x=false)/\ixFrom p l k=↑(k+u.length)
 | [],k=> .inl ⟨rfl,fun a h=>by simp at h⟩
 | a::l,k=>by
  unfold ixFrom
  cases ha:p a with
  | true=>exact .inr ⟨[],a,l,rfl,ha,(fun x h=>by simp at h),rfl⟩
  | false=>
   rcases ixFrom_spec p l (k+1)with⟨h1,h2⟩ | ⟨u,b,v,h1,h2,h3,h4⟩
   ·refine .inl ⟨h1,fun b hb=> ?_⟩
    rcases List.mem_cons.1 hb with rfl | hb
    ·exact ha
    ·exact h2 b hb
   ·refine .inr ⟨a::u,b,v,by rw[h1];rfl,h2,fun x hx=> ?_,?_⟩
    ·rcases List.mem_cons.1 hx with rfl | hx
     ·exact ha
     ·exact h3 x hx
    ·simp only[cond_false,h4,List.length_cons]
     congr 1
     omega
theorem ixOf_spec (p:A->Bool)(l:List A):(ixOf p l= -1/\∀a∈l,p a=false)\/∃(u:List A) (a:A) (v:List A),l=u++a::v/\p a=true/\(∀x∈u,p x=false)/\ixOf p l=↑u.length:=by
 have:=ixFrom_spec p l 0
 unfold ixOf
 simpa only[Nat.zero_add]using this
theorem ixOf_lt (p:A->Bool)(l:List A):ixOf p l < l.length/\ -1<=ixOf p l:=by
 rcases ixOf_spec p l with⟨h,_⟩ | ⟨u,a,v,rfl,_,_,h⟩
 ·rw[h];omega
 ·rw[h];simp;omega
theorem ixOf_at (p:A->Bool)(l:List A)(d:A)(h:0<=ixOf p l):p (l.getD (ixOf p l).toNat d)=true:=by
 rcases ixOf_spec p l with⟨h',_⟩ | ⟨u,a,v,rfl,h2,_,h'⟩
 ·omega
 ·rw[h',Int.toNat_natCast];simpa[List.getD]using h2
theorem forE_cong {b b':Nat->A->Y->Y⊕R}{f f':Nat->Y->R}:∀(l:List A) (k:Nat) (y:Y),(∀j a y,k<=j->j < k+l.length->b j a y=b' j a y)->(∀y,f (k+l.length) y=f' (k+l.length) y)->forE b f l k y=forE b' f' l k y
 | [],k,y,_,h=>h y
 | a::l,k,y,hb,hf=>by
  unfold forE
  rw[hb k a y (Nat.le_refl _) (by simp)]
  cases b' k a y with
  | inl y'=>exact forE_cong l (k+1) y' (fun j a y h1 h2=>hb j a y (by omega) (by simp only[List.length_cons];omega)) (fun y=>by have:=hf y;rwa [show k+(a::l).length=k+1+l.length by simp only[List.length_cons];omega]at this)
  | inr r=>rfl
theorem forE_all (p:A->Bool):∀(l:List A) (k:Nat),forE (fun _ a (_:Unit)=>cond (p a) (.inl ()) (.inr false)) (fun _ _=>true) l k ()=l.all p
 | [],_=>rfl
 | a::l,k=>by
  unfold forE
  rw[List.all_cons]
  cases p a with
  | true=>exact forE_all p l (k+1)
  | false=>rfl
theorem forE_fold (g:Y->A->Y)(f:Nat->Y->R):∀(l:List A) (k:Nat) (y:Y),forE (fun _ a y=> .inl (g y a)) f l k y=f (k+l.length) (l.foldl g y)
 | [],k,y=>rfl
 | a::l,k,y=>by
  have:=forE_fold g f l (k+1) (g y a)
  show forE (fun _ a y=> .inl (g y a)) f l (k+1) (g y a)=_
  rw[this]
  simp only[List.length_cons,List.foldl_cons]
  congr 1
  omega
theorem whN_post {X:Type}{step:X->X⊕R}{r0:R}(I:X->Prop)(mu:X->Nat)(Q:R->Prop)(hs:∀x,I x->(∃x',step x= .inl x'/\I x'/\mu x' < mu x)\/∃r,step x= .inr r/\Q r):∀(n:Nat) (x:X),I x->mu x < n->Q (whN step r0 n x)
 | 0,x,_,h=>by omega
 | n+1,x,hI,h=>by
  unfold whN
  rcases hs x hI with⟨x',h1,h2,h3⟩ | ⟨r,h1,h2⟩
  ·rw[h1];exact whN_post I mu Q hs n x' h2 (by omega)
  ·rw[h1];exact h2
structure DelI (p:A->Bool)(l:List A)(x:Int×Int×List A)(j i:Nat):Prop where
 hj:x.1=↑j
 hi:x.2.1=↑i
 lt:i < j
 le:j<=l.length
 len:x.2.2.length=l.length
 tk:x.2.2.take i=(l.take j).filter fun a=> !p a
 dr:x.2.2.drop j=l.drop j
theorem getD_mem {l:List A}{i:Nat}{d:A}(h:i < l.length):l.getD i d∈l:=by
 rw[getD_some h];exact List.getElem_mem h
theorem forN_succ (b:Int->Y->Y⊕R)(f:Int->Y->R)(n:Nat)(i:Int)(y:Y):forN b f (n+1) i y=thenS (b i y) (forN b f n (i+1)):=by
 unfold forN thenS
 cases b i y<;>rfl
theorem forN_unit (b:Int->Unit->Unit⊕R)(f:Int->Unit->R)(n:Nat)(i:Int):forN b f (n+1) i ()=thenS (b i ()) fun _=>forN b f n (i+1) ():=
 (forN_succ b f n i ()).trans (congrArg (thenS (b i ())) (funext fun u=>rfl))
theorem forN_zero (b:Int->Y->Y⊕R)(f:Int->Y->R)(i:Int)(y:Y):forN b f 0 i y=f i y:=rfl
theorem thenS_cond {X:Type}(c:Bool)(a b:X⊕R)(k:X->R):thenS (cond c a b) k=cond c (thenS a k) (thenS b k):=by cases c<;>rfl
end
end Go.Vc
namespace Go.Vc
open Go.RowKit Go.ChangeShapes Go.WideShapes Go.ChangeAt Go.Joins
set_option linter.unusedVariables false
set_option linter.unusedSimpArgs false
structure Sz (P:Program) where
 M:{H:Type}->TypeId->DataW H->Nat->Prop
 str:∀{H:Type} {t:TypeId} {s:List UInt8} {n:Nat},M (H:=H) t (.lit (.string s)) n->s.length<=n
 sl:∀{H:Type} {t e:TypeId} {el sp:List (DataW H)} {n:Nat},P.underlying t=some (.slice e)->1<=P.bytesOf e->M t (.slice el sp) n->el.length<=n/\∀d∈el,M e d n
 st:∀{H:Type} {t:TypeId} {fs:Array Field} {ps:List (DataW H)} {n:Nat},P.underlying t=some (.struct fs)->M t (.agg ps) n->∀(i:Nat) (f:Field) (p:DataW H),fs[i]? =some f->ps[i]? =some p->M f.type p n
section
variable {D α β:Type}{S:Sh D}{P:Program}{Z:Sz P}{F:Nat}
def OpensW (F:Nat)(P:Program)(S:Sh D)(Z:Sz P)(t:TypeId)(c:Cod D α)(good:Nat->α->Prop):Prop:=
 ∀{H:Type} {enc:TypeId×Value->H} {w:World} {base:Nat} {spare:Nat->Bool} {held:Bool} {fuel:Nat} {cs:List Value} {x:DataW H×List MemPlace},
  fuel < F->DataW.trod enc P w base spare held fuel t cs=some x->∃a,LfsRel S NoN w noG (c.enc a) cs/\∀n,Z.M t x.1 n->good n a
theorem opensW_of {t:TypeId}{c:Cod D α}{good:α->Prop}(h:Opens P S t c good):OpensW F P S Z t c fun _ a=>good a:=by
 intro H enc w base spare held fuel cs x _ hx
 obtain⟨a,h1,h2⟩:=h hx
 exact⟨a,h1,fun _ _=>h2⟩
theorem opensW_weak {t:TypeId}{c:Cod D α}{good good':Nat->α->Prop}(h:OpensW F P S Z t c good)(hg:∀n a,good n a->good' n a):OpensW F P S Z t c good':=by
 intro H enc w base spare held fuel cs x hF hx
 obtain⟨a,h1,h2⟩:=h hF hx
 exact⟨a,h1,fun n hn=>hg n a (h2 n hn)⟩
theorem opensW_0 {t:TypeId}{c:Cod D α}{good:Nat->α->Prop}:OpensW 0 P S Z t c good:=by
 intro H enc w base spare held fuel cs x hF
 omega
theorem opensW_str {t:TypeId}(ht:P.underlying t=some .string):OpensW F P S Z t cStr fun n s=>s.length<=n:=by
 intro H enc w base spare held fuel cs x _ hx
 obtain⟨a,h1,h2⟩:=opens_str (S:=S) ht hx
 obtain⟨s,e1,e2,_⟩:=DataW.trod_string ht hx
 refine⟨a,h1,fun n hn=> ?_⟩
 rw[e2]at hn
 have:=Z.str hn
 rw[e1]at h1
 have h1:Value.string s= .string ⟨a.toArray⟩/\_:=h1.1
 injection h1.1 with h3
 rw[h3]at this
 simpa using this
def OpensFW (F:Nat)(P:Program)(S:Sh D)(Z:Sz P)(fs:List Field)(off:Nat)(c:Cod D α)(good:Nat->α->Prop):Prop:=
 ∀{H:Type} {enc:TypeId×Value->H} {w:World} {base:Nat} {spare:Nat->Bool} {held:Bool} {m:Nat} {cs:List Value} (ps:List (DataW H)),m < F->
  (∀(i:Nat) (f:Field),fs[i]? =some f->∃x:DataW H×List MemPlace,DataW.trod enc P w base spare held m f.type ((cs.drop f.offset).take (P.cellsOf f.type))=some x/\ps[i]? =some x.1)->cs.length=off+c.n->
  ∃a,LfsRel S NoN w noG (c.enc a) (cs.drop off)/\∀n,(∀(i:Nat) (f:Field) (p:DataW H),fs[i]? =some f->ps[i]? =some p->Z.M f.type p n)->good n a
theorem opensFW_one {f:Field}{off:Nat}{c:Cod D α}{good:Nat->α->Prop}(ho:f.offset=off)(hn:P.cellsOf f.type=c.n)(h:OpensW F P S Z f.type c good):OpensFW F P S Z [f] off c good:=by
 intro H enc w base spare held m cs ps hF hf hl
 obtain⟨x,hx,hp⟩:=hf 0 f rfl
 rw[ho,hn,List.take_of_length_le (by simp;omega)]at hx
 obtain⟨a,h1,h2⟩:=h hF hx
 exact⟨a,h1,fun n hM=>h2 n (hM 0 f x.1 rfl hp)⟩
theorem opensFW_cons {f:Field}{fs:List Field}{off:Nat}{c:Cod D α}{d:Cod D β}{good:Nat->α->Prop}{good':Nat->β->Prop}(ho:f.offset=off)(hn:P.cellsOf f.type=c.n)(h:OpensW F P S Z f.type c good)(hr:OpensFW F P S Z fs (off+c.n) d good'):
  OpensFW F P S Z (f::fs) off (cPair c d) fun n p=>good n p.1/\good' n p.2:=by
 intro H enc w base spare held m cs ps hF hf hl
 obtain⟨x,hx,hp⟩:=hf 0 f rfl
 rw[ho,hn]at hx
 obtain⟨a,ha,hga⟩:=h hF hx
 obtain⟨b,hb,hgb⟩:=hr (ps.drop 1) hF (fun i f' hf'=>by
  obtain⟨y,hy,hq⟩:=hf (i+1) f' (by simpa using hf')
  exact⟨y,hy,by rw[List.getElem?_drop,Nat.add_comm];exact hq⟩) (by simp only[cPair]at hl;omega)
 refine⟨(a,b),?_,fun n hM=>⟨hga n (hM 0 f x.1 rfl hp),hgb n fun i f' p hf' hp'=>hM (i+1) f' p (by simpa using hf') (by rw[List.getElem?_drop,Nat.add_comm]at hp';exact hp')⟩⟩
 have:=LfsRel.app ha hb
 rw[<-List.drop_drop,List.take_append_drop]at this
 exact this
theorem opensW_struct1 {t:TypeId}{fs:Array Field}{c:Cod D α}{good:Nat->α->Prop}{f:α->β}{g:β->α}(ht:P.underlying t=some (.struct fs))(hn:P.cellsOf t=c.n)(hg:∀a,g (f a)=a)(h:OpensFW F P S Z fs.toList 0 c good):
  OpensW (F+1) P S Z t (cIso c f g) fun n b=>good n (g b):=by
 intro H enc w base spare held fuel cs x hF hx
 obtain⟨xs,m,hm,hxe,hl,hlen,hf⟩:=DataW.trod_struct ht hx
 obtain⟨a,ha,hga⟩:=h (m:=m) (cs:=cs) (xs.map (·.1)) (by omega) (fun i f' hf'=>by
  have hi':fs[i]? =some f':=by simpa using hf'
  have hlt:i < xs.length:=by rw[hlen];exact(Array.getElem?_eq_some_iff.1 hi').1
  exact⟨xs[i],by rw[hf i f' hi'];simp[hlt],by simp[hlt]⟩) (by rw[hl,hn];omega)
 refine⟨f a,by simp only[cIso,hg];simpa using ha,fun n hM=> ?_⟩
 show good n (g (f a))
 rw[hg]
 rw[hxe]at hM
 exact hga n fun i f' p hf' hp=>Z.st ht hM i f' p (by simpa using hf') hp
theorem OpensW.mono {F':Nat}{t:TypeId}{c:Cod D α}{good:Nat->α->Prop}(h:OpensW F P S Z t c good)(hF:F'<=F):OpensW F' P S Z t c good:=by
 intro H enc w base spare held fuel cs x hf hx
 exact h (by omega) hx
theorem opensW_struct {t:TypeId}{fs:Array Field}{c:Cod D α}{good:Nat->α->Prop}{f:α->β}{g:β->α}(ht:P.underlying t=some (.struct fs))(hn:P.cellsOf t=c.n)(hg:∀a,g (f a)=a)(h:OpensFW F P S Z fs.toList 0 c good):
  OpensW F P S Z t (cIso c f g) fun n b=>good n (g b):=by
 intro H enc w base spare held fuel cs x hF hx
 exact opensW_struct1 ht hn hg h (by omega) hx
theorem opensW_slice {t e:TypeId}{ce:Cod D α}{good:Nat->α->Prop}{inj:List α->D}{prj:D->Option (List α)}{dflt:α}(ht:P.underlying t=some (.slice e))(hb1:1<=P.bytesOf e)(hn:P.cellsOf e=ce.n)(hce:CodOk S ce)(h:OpensW F P S Z e ce good)
  (h1:∀l,S.size (inj l)=ce.n) (h2:∀l,S.len (inj l)=l.length) (h3:∀l i j,S.cell (inj l) i j=(ce.enc (l.getD i dflt)).getD j .any) (h4:∀l,S.mp (inj l)=none:=by intro _;rfl):
  OpensW F P S Z t (cDat inj prj []) fun n l=>l.length<=n/\∀a∈l,good n a:=by
 intro H enc w base spare held fuel cs x hF hx
 rcases DataW.trod_slice ht hx with⟨rfl,_⟩ | ⟨ad,len,cap,elems,rest,m,hfm,rfl,hxe,hb,hl,hm,hlen,hel,_,_⟩
 ·refine⟨[],⟨?_,trivial⟩,fun n _=>⟨by simp,fun a ha=>by simp at ha⟩⟩
  have hz:S.len (inj [])=0:=h2 []
  intro w' _
  have:=DRel.mk (S:=S) (w:=w') (inj []) (h4 []) none 0 (fun _ _=> .bool false) (by omega) (by omega) (fun i j hi _=>by omega) (fun i j hi _=>by omega) (fun i j _ hi _=>by omega)
  rwa [hz]at this
 ·have each:∀i,i < len->∃a,(∃vs,w.cells? base (ad.add (i*ce.n)) ce.n=some vs/\LfsRel S NoN w noG (ce.enc a) vs)/\∀n,(∀y,elems[i]? =some y->Z.M e y.1 n)->good n a:=by
   intro i hi
   have:=hel i hi
   have hlt:i < elems.length:=by omega
   rw[List.getElem?_eq_getElem hlt,hn,Option.bind_eq_some_iff]at this
   obtain⟨vs,hv,hy⟩:=this
   obtain⟨a,ha,hga⟩:=h (by omega) hy
   exact⟨a,⟨vs,hv,ha⟩,fun n hM=>hga n (hM _ (List.getElem?_eq_getElem hlt))⟩
  obtain⟨l,hll,hq⟩:=list_of' len each
  refine⟨l,⟨?_,trivial⟩,fun n hM=> ?_⟩
  ·have key:∀i j,i < l.length->j < ce.n->∃u,w.cell? (ad.add (i*ce.n+j))=some u/\((ce.enc (l.getD i dflt)).getD j .any).Rel S NoN w noG u/\((ce.enc (l.getD i dflt)).getD j .any).isData=true:=by
    intro i j hi hj
    obtain⟨⟨vs,hv,hr⟩,_⟩:=hq i hi
    obtain⟨_,hvl,hcell⟩:=World.cells?_some hv
    rw[getD_some hi]
    obtain⟨u,hu,hur⟩:=hr.getD' (j:=j) (by rw[hce.len];exact hj)
    have:=hcell j hj
    rw[add_add',hu]at this
    refine⟨u,this,hur,?_⟩
    have hlt:j < (ce.enc l[i]).length:=by rw[hce.len];exact hj
    rw[getD_some hlt]
    exact hce.data _ _ (List.getElem_mem hlt)
   have U:∀i j,∃u,i < l.length->j < ce.n->w.cell? (ad.add (i*ce.n+j))=some u/\((ce.enc (l.getD i dflt)).getD j .any).Rel S NoN w noG u/\((ce.enc (l.getD i dflt)).getD j .any).isData=true:=by
    intro i j
    by_cases hi:i < l.length
    ·by_cases hj:j < ce.n
     ·obtain⟨u,hu⟩:=key i j hi hj
      exact⟨u,fun _ _=>hu⟩
     ·exact⟨undef,fun _ h=>absurd h hj⟩
    ·exact⟨undef,fun h=>absurd h hi⟩
   have:=datOk_cells (S:=S) (w:=w) (d:=inj l) (a:=some ad) (n:=len) (cap:=cap) (by rw[h2,hll]) hl (by unfold maxLen at hm;omega) (fun i j=>Classical.choose (U i j)) (fun i j hi hj=> ?_) (fun i j hi hj=> ?_) (fun i j d' hi hj he=> ?_)
   ·exact this (h4 l)
   ·rw[h2]at hi
    rw[h1]at hj⊢
    exact⟨ad,rfl,(Classical.choose_spec (U i j) hi hj).1⟩
   ·rw[h2]at hi
    rw[h1]at hj
    rw[h3 l i j]
    obtain⟨_,hr,hd⟩:=Classical.choose_spec (U i j) hi hj
    exact(data_plain (w':=w) hd hr (fun _ _ _=>rfl)).1
   ·rw[h2]at hi
    rw[h1]at hj
    rw[h3 l i j]at he
    have hr:=(Classical.choose_spec (U i j) hi hj).2.1
    generalize Classical.choose (U i j)=u at hr⊢
    rw[he]at hr
    exact hr
  ·rw[hxe]at hM
   obtain⟨k1,k2⟩:=Z.sl ht hb1 hM
   refine⟨by rw[List.length_map]at k1;omega,fun a ha=> ?_⟩
   obtain⟨i,hi,rfl⟩:=List.getElem_of_mem ha
   exact(hq i hi).2 n fun y hy=>k2 y.1 (List.mem_map.2 ⟨y,List.mem_of_getElem? hy,rfl⟩)
def OpenVW (P:Program)(S:Sh D)(Z:Sz P)(t:TypeId)(c:Arg D α)(good:Nat->α->Prop):Prop:=
 ∀{H:Type} {enc:TypeId×Value->H} {w:World} {r:Reach} {base:Nat} {v:Value} {d:DataW H} {ps:List MemPlace},Value.okWide P w r base t v->DataW.Trod enc P w 0 (fun _=>true) true t v d ps->∃a,(c.enc a).Rel S NoN w noG v/\∀n,Z.M t d n->good n a
theorem openVW_lf {t:TypeId}{td:TypeDesc}{c:Cod D α}{good:Nat->α->Prop}(ht:P.underlying t=some td)(hs:scal td=true)(hc:CodOk S c)(hn:c.n=1)(h:∀F,OpensW F P S Z t c good):OpenVW P S Z t (aLf c) good:=by
 intro H enc w r base v d ps hval hd
 obtain⟨fuel,hf⟩:=hd
 have hv:v.cells.toList=[v]:=by
  simp only[Value.okWide,ht]at hval
  cases td<;>simp[scal]at hs
  all_goals (simp only[Cell.okWide,ht]at hval;cases v<;>simp_all [Cell.ok,Value.cells])
 rw[hv]at hf
 obtain⟨a,ha,hg⟩:=h (fuel+1) (Nat.lt_succ_self _) hf
 refine⟨a,?_,hg⟩
 have hl:=hc.len a
 simp only[aLf]
 generalize c.enc a=xs at ha hl
 cases xs with
 | nil=>exact ha.elim
 | cons x xs=>
  cases xs with
  | cons _ _=>simp[hn]at hl
  | nil=>exact ha.1
theorem openVW_agg {t:TypeId}{fs:Array Field}{c:Cod D α}{good:Nat->α->Prop}(ht:P.underlying t=some (.struct fs))(h:∀F,OpensW F P S Z t c good):OpenVW P S Z t (aAgg c) good:=by
 intro H enc w r base v d ps hval hd
 obtain⟨fuel,hf⟩:=hd
 simp only[Value.okWide,ht]at hval
 obtain⟨cs,rfl,_⟩:=hval
 obtain⟨a,ha,hg⟩:=h (fuel+1) (Nat.lt_succ_self _) hf
 exact⟨a,⟨cs.toList,by simp,by simpa[Value.cells]using ha⟩,hg⟩
def OpenAW (P:Program)(S:Sh D)(Z:Sz P)(ts:List TypeId)(c:ACod D α)(good:Nat->α->Prop):Prop:=
 ∀{H:Type} {enc:TypeId×Value->H} {w:World} {r:Reach} {base:Nat} {vs:List Value} {ds:List (DataW H)} {ps:List MemPlace},(∀(j:Nat) t v,ts[j]? =some t->vs[j]? =some v->Value.okWide P w r base t v)->
  DataW.TrodAll enc P w 0 (fun _=>true) true ts vs ds ps->∃a,SlsRel S NoN w noG (c.enc a) vs/\∀n,(∀(j:Nat) t d,ts[j]? =some t->ds[j]? =some d->Z.M t d n)->good n a
theorem openAW_1 {t:TypeId}{c:Arg D α}{good:Nat->α->Prop}(h:OpenVW P S Z t c good):OpenAW P S Z [t] (a1 c) good:=by
 intro H enc w r base vs ds ps hval hA
 obtain⟨v,vs',d,ds',p,q,rfl,rfl,rfl,h1,h2⟩:=trodAll_cons hA
 obtain⟨rfl,rfl,rfl⟩:=trodAll_nil h2
 obtain⟨a,ha,hg⟩:=h (hval 0 t v rfl rfl) h1
 exact⟨a,⟨ha,trivial⟩,fun n hM=>hg n (hM 0 t d rfl rfl)⟩
theorem openAW_cons {t:TypeId}{ts:List TypeId}{c:Arg D α}{r:ACod D β}{good:Nat->α->Prop}{good':Nat->β->Prop}(h:OpenVW P S Z t c good)(hr:OpenAW P S Z ts r good'):OpenAW P S Z (t::ts) (aCons c r) fun n p=>good n p.1/\good' n p.2:=by
 intro H enc w r base vs ds ps hval hA
 obtain⟨v,vs',d,ds',p,q,rfl,rfl,rfl,h1,h2⟩:=trodAll_cons hA
 obtain⟨a,ha,hg⟩:=h (hval 0 t v rfl rfl) h1
 obtain⟨b,hb,hgb⟩:=hr (fun j t' v' h1 h2=>hval (j+1) t' v' (by simpa using h1) (by simpa using h2)) h2
 exact⟨(a,b),⟨ha,hb⟩,fun n hM=>⟨hg n (hM 0 t d rfl rfl),hgb n fun j t' d' q1 q2=>hM (j+1) t' d' (by simpa using q1) (by simpa using q2)⟩⟩
theorem law_callsW {f:FuncId}{c:ACod D α}{pre:α->Option Prop}{good:Nat->α->Prop}{ts:List TypeId}(n:Nat)(hok:CtOk P S f (ctN (args c) rsLaw 1 [] pre (fun _=>true)))(hdec:∀a,c.dec (c.enc a)=some a)(hopen:OpenAW P S Z ts c good)
  (hpre:∀a,good n a->preP (pre a)) {H:Type} {enc:TypeId×Value->H} {w:World} {r:Reach} {base:Nat} {vs:List Value} {ds:List (DataW H)} {ps:List MemPlace}
  (hgl:GlOk S NoN w) (hM:∀(j:Nat) t d,ts[j]? =some t->ds[j]? =some d->Z.M t d n) (hval:∀(j:Nat) t v,ts[j]? =some t->vs[j]? =some v->Value.okWide P w r base t v) (hA:DataW.TrodAll enc P w 0 (fun _=>true) true ts vs ds ps):
  Calls P f vs.toArray w fun e w'=>e= .returned (.bool true)/\Below w.heap.size w w':=by
 obtain⟨a,hr,hg⟩:=hopen hval hA
 have hpa:=hpre a (hg n hM)
 have hM0:Mset NoN (tabOf ([]:List (Bk D))) noG=NoN:=by
  funext b
  simp[Mset,tabOf,hot]
 have hp:Hp S ⟨w,fun _=>False⟩ NoN (tabOf ([]:List (Bk D))) noG (· < ([]:List (Bk D)).length) w:=
  ⟨BelowX.refl ⟨w,fun _=>False⟩,fun b hb=>hb.elim,fun l bk h=>by simp[tabOf]at h,fun l l' v v' b h=>by simp[tabOf,hot]at h,fun l v h=>by simp[noG]at h,fun l v h=>by simp[noG]at h,by rw[hM0];exact hgl⟩
 refine(hok.calls (fun _=>False) NoN noG w vs (c.enc a) [] ((pre a).map dq) (.one (.lf (.bool true))) [] [] hp (by rw[hM0];exact hr) ?_ (preD_map.2 hpa)).mono ?_
 ·show ctN (args c) rsLaw 1 [] pre (fun _=>true) (c.enc a) []=_
  unfold ctN
  have:(args c).dec (c.enc a) []=some a:=hdec a
  rw[this]
  rfl
 ·rintro e w' ⟨v,g',rfl,_,hp',hv⟩
  have hv:v= .bool true:=hv
  exact⟨by rw[hv],⟨hp'.below.os,hp'.below.tape,hp'.below.output,hp'.below.size,fun k hk=>hp'.below.block k hk (fun h=>h)⟩⟩
end
end Go.Vc
namespace Go.Vc
set_option linter.unusedVariables false
section
variable {R A X Y:Type}
def IsP (t:Pg R)(Q:R->Prop):Prop:=Is t/\Q t.val
theorem IsP.is {t:Pg R}{Q:R->Prop}(h:IsP t Q):Is t:=h.1
theorem isP_ret {Q:R->Prop}{r:R}(h:Q r):IsP (.ret r) Q:=⟨is_ret,h⟩
theorem isP_ob {Q:R->Prop}{p:Prop}{k:Pg R}(hp:p)(hk:IsP k Q):IsP (.ob p k) Q:=⟨is_ob hp hk.1,hk.2⟩
theorem isP_ix {Q:R->Prop}{i:Int}{n:Nat}{k:Pg R}(h1:0<=i)(h2:i < ↑n)(hk:IsP k Q):IsP (.ix i n k) Q:=isP_ob ⟨h1,h2⟩ hk
theorem isP_as {Q:R->Prop}{p:Prop}{k:Pg R}(hk:IsP k Q):IsP (.as p k) Q:=⟨is_as fun _=>hk.1,hk.2⟩
theorem isP_br {Q:R->Prop}{b:Bool}{t e:Pg R}(ht:b=true->IsP t Q)(he:b=false->IsP e Q):IsP (.br b t e) Q:=
 ⟨is_br (fun h=>(ht h).1) (fun h=>(he h).1),by
  cases b with
  | true=>exact(ht rfl).2
  | false=>exact(he rfl).2⟩
theorem isP_brd {Q:R->Prop}{p:Prop}{inst:Decidable p}{t e:Pg R}(ht:p->IsP t Q)(he:¬p->IsP e Q):IsP (.br (@decide p inst) t e) Q:=
 isP_br (fun h=>ht (of_decide_eq_true h)) (fun h=>he (of_decide_eq_false h))
theorem isP_beq {Q:R->Prop}{a b:A}[h:BEq A][lw:LawfulBEq A]{t e:Pg R}(ht:a=b->IsP t Q)(he:¬a=b->IsP e Q):IsP (.br (a==b) t e) Q:=
 isP_br (fun h=>ht (by simpa using h)) (fun h=>he (by simpa using h))
theorem isP_lt {Q:R->Prop}{v:A}{k:A->Pg R}(h:∀x,x=v->IsP (k x) Q):IsP (.lt v k) Q:=h v rfl
theorem isP_ltw {Q:R->Prop}{n:Int}{k:Int->Pg R}(h:∀x,x=wrp .i64 n->(-9223372036854775808<=n/\n<=9223372036854775807->x=n)->IsP (k x) Q):IsP (.lt (wrp .i64 n) k) Q:=
 h _ rfl fun hn=>wrp_in (k:= .i64) hn
theorem isP_cut {Q:R->Prop}(Q1:X->Prop){a:Pg (X⊕R)}{k:X->Pg R}(ha:IsP a (Sum.elim Q1 Q))(hk:∀x,Q1 x->IsP (k x) Q):IsP (.cut k a) Q:=by
 have key:∀x,a.val= .inl x->Q1 x:=fun x hx=>by
  have:=ha.2
  rw[hx]at this
  exact this
 refine⟨is_cut ha.1 fun x hx=>(hk x (key x hx)).1,?_⟩
 rw[val_cut]
 have h2:=ha.2
 cases hv:a.val with
 | inl x=>exact(hk x (key x hv)).2
 | inr r=>rw[hv]at h2;exact h2
theorem forE_post {b:Nat->A->Y->Y⊕R}{f:Nat->Y->R}{d:A}{Q:R->Prop}(I:Nat->Y->Prop):∀(l:List A) (k:Nat) (y:Y),I k y->(∀j y,j < l.length->I (k+j) y->Sum.elim (I (k+j+1)) Q (b (k+j) (l.getD j d) y))->(∀y,I (k+l.length) y->Q (f (k+l.length) y))->Q (forE b f l k y)
 | [],k,y,h0,_,hf=>hf y h0
 | a::l,k,y,h0,hb,hf=>by
  unfold forE
  have h1:=hb 0 y (by simp) h0
  have e:(a::l).getD 0 d=a:=rfl
  rw[e]at h1
  simp only[Nat.add_zero]at h1
  cases hv:b k a y with
  | inr r=>rw[hv]at h1;exact h1
  | inl y'=>
   rw[hv]at h1
   refine forE_post (d:=d) I l (k+1) y' h1 (fun j z hj hz=> ?_) (fun z hz=> ?_)
   ·have:=hb (j+1) z (by simp;omega) (by rw[<-Nat.add_assoc,Nat.add_right_comm];exact hz)
    rw[show k+(j+1)=k+1+j by omega]at this
    exact this
   ·have:=hf z (by simp only[List.length_cons];rw[show k+(l.length+1)=k+1+l.length by omega];exact hz)
    simp only[List.length_cons]at this
    rw[show k+(l.length+1)=k+1+l.length by omega]at this
    exact this
theorem isP_each {Q:R->Prop}{h:Bool}{s:Ix X Y}{l:List A}{d:A}{body:Int->A->Y->Pg (Y⊕R)}{fin:Int->Y->Pg R}{y:Y}(I:Nat->Y->Prop)(h0:I 0 y)(hl:l.length<=9223372036854775807)
  (hb:∀(k:Nat) (y:Y),k < l.length->I k y->IsP (body ↑k (l.getD k d) y) (Sum.elim (I (k+1)) Q)) (hf:∀y,I l.length y->IsP (fin ↑l.length y) Q):IsP (.each h s l d body fin y) Q:=by
 refine⟨is_eachI I h0 (.inr hl) (fun k y h1 _ h2=>⟨(hb k y h1 h2).1,fun y' hy=> ?_⟩) (fun y _ h=>(hf y h).1),?_⟩
 ·have:=(hb k y h1 h2).2
  rw[hy]at this
  exact this
 ·rw[val_each]
  refine forE_post (d:=d) I l 0 y h0 (fun j y hj hI=> ?_) (fun y hI=> ?_)
  ·rw[Nat.zero_add]at hI⊢
   exact(hb j y hj hI).2
  ·rw[Nat.zero_add]at hI⊢
   exact(hf y hI).2
theorem forN_post {b:Int->Y->Y⊕R}{f:Int->Y->R}{Q:R->Prop}(I:Int->Y->Prop)(e:Int):∀(n:Nat) (i:Int) (y:Y),(e - i).toNat=n->I i y->(∀i y,i < e->I i y->Sum.elim (I (i+1)) Q (b i y))->(∀i y,e<=i->I i y->Q (f i y))->Q (forN b f n i y)
 | 0,i,y,hn,h0,_,hf=>hf i y (by omega) h0
 | n+1,i,y,hn,h0,hb,hf=>by
  unfold forN
  have h1:=hb i y (by omega) h0
  cases hv:b i y with
  | inr r=>rw[hv]at h1;exact h1
  | inl y'=>rw[hv]at h1;exact forN_post I e n (i+1) y' (by omega) h1 hb hf
theorem isP_cnt {Q:R->Prop}{s:Ix X Y}{a b:Int}{body:Int->Y->Pg (Y⊕R)}{fin:Int->Y->Pg R}{y:Y}(I:Int->Y->Prop)(h0:I a y)(ha: -9223372036854775808<=a)(hm:b<=9223372036854775807)
  (hb:∀(i:Int) (y:Y),a<=i->i < b->I i y->IsP (body i y) (Sum.elim (I (i+1)) Q)) (hf:∀i y,a<=i->b<=i->I i y->IsP (fin i y) Q):IsP (.cnt s a b body fin y) Q:=by
 refine⟨is_cntI I h0 ha hm (fun i y h1 h2 hI=>⟨(hb i y h1 h2 hI).1,fun y' hy=> ?_⟩) (fun i y h1 h2 h=>(hf i y h1 h2 h).1),?_⟩
 ·have:=(hb i y h1 h2 hI).2
  rw[hy]at this
  exact this
 ·rw[val_cnt]
  refine forN_post (fun i y=>a<=i/\I i y) b _ a y rfl ⟨Int.le_refl _,h0⟩ (fun i y h1 hI=> ?_) (fun i y h1 hI=>(hf i y hI.1 h1 hI.2).2)
  have:=(hb i y hI.1 h1 hI.2).2
  cases hv:(body i y).val with
  | inr r=>rw[hv]at this;exact this
  | inl y'=>rw[hv]at this;exact⟨by omega,this⟩
theorem isP_wh {Q:R->Prop}{n:Nat}{r0:R}{step:X->Pg (X⊕R)}{x:X}(I:X->Prop)(mu:X->Nat)(h0:I x)(hn:mu x < n)
  (hs:∀x,I x->IsP (step x) (Sum.elim (fun x'=>I x'/\mu x' < mu x) Q)):IsP (.wh n r0 step x) Q:=by
 refine⟨is_wh I mu h0 hn fun x hx=>⟨(hs x hx).1,fun x' hx'=> ?_⟩,?_⟩
 ·have:=(hs x hx).2
  rw[hx']at this
  exact this
 ·rw[val_wh]
  refine whN_post I mu Q (fun x hx=> ?_) n x h0 hn
  have:=(hs x hx).2
  cases hv:(step x).val with
  | inl x'=>rw[hv]at this;exact .inl ⟨x',rfl,this⟩
  | inr r=>rw[hv]at this;exact .inr ⟨r,rfl,this⟩
end
end Go.Vc
