/- Own engine: Vez2. -/
import Derived.Test.YtenjjcfebflefaaGreatDoorEng11
set_option linter.unusedVariables false
set_option linter.unusedSimpArgs false
namespace Go.Vc
section
variable {R R' A A' X X' Y Y':Type}
def mG (a:Pg R)(b:Pg R')(Q:R->R'->Prop):Prop:=kw b (Q a.val)
variable {Q:R->R'->Prop}
theorem bZ {r:R}{s:R'}(h:Q r s):mG (.ret r) (.ret s) Q:=ai h
theorem fC {p:Prop}{k:Pg R}{b:Pg R'}(h:mG k b Q):mG (.ob p k) b Q:=h
theorem aE6 {i:Int}{n:Nat}{k:Pg R}{b:Pg R'}(h:mG k b Q):mG (.ix i n k) b Q:=h
theorem avn {p:Prop}{k:Pg R}{b:Pg R'}(h:mG k b Q):mG (.as p k) b Q:=h
theorem fV {v:A}{k:A->Pg R}{b:Pg R'}(h:∀x,x=v->mG (k x) b Q):mG (.lt v k) b Q:=h v rfl
theorem jr {c:Bool}{t e:Pg R}{b:Pg R'}(d:c=true->mG t b Q)(a:c=false->mG e b Q):mG (.br c t e) b Q:=by
 cases c with
 | true=>exact d rfl
 | false=>exact a rfl
theorem dV {p:Prop}{a:Pg R}{k:Pg R'}(b:p)(h:mG a k Q):mG a (.ob p k) Q:=aj b h
theorem EL {i:Int}{n:Nat}{a:Pg R}{k:Pg R'}(c:0<=i)(b:i < ↑n)(h:mG a k Q):mG a (.ix i n k) Q:=aX c b h
theorem auB {p:Prop}{a:Pg R}{k:Pg R'}(h:mG a k Q):mG a (.as p k) Q:=fD h
theorem fP {v:A}{a:Pg R}{k:A->Pg R'}(h:∀x,x=v->mG a (k x) Q):mG a (.lt v k) Q:=h v rfl
theorem iD {c:Bool}{a:Pg R}{t e:Pg R'}(d:c=true->mG a t Q)(b:c=false->mG a e Q):mG a (.br c t e) Q:=dL d b
theorem iP {c d:Bool}{t e:Pg R}{a b:Pg R'}(g:c=d)(i:c=true->mG t a Q)(f:c=false->mG e b Q):mG (.br c t e) (.br d a b) Q:=by
 subst g;exact jr (fun h=>iD (fun _=>i h) fun k=>absurd (h.symm.trans k) jy) (fun h=>iD (fun k=>absurd (h.symm.trans k) jy) fun _=>f h)
def apU (I:X->X'->Prop)(Q:R->R'->Prop):X⊕R->X'⊕R'->Prop
 | .inl x, .inl y=>I x y
 | .inr r, .inr s=>Q r s
 | _,_=>False
theorem XJ (I:X->X'->Prop){a:Pg (X⊕R)}{b:Pg (X'⊕R')}{k:X->Pg R}{g:X'->Pg R'}(h:mG a b (apU I Q))(i:∀x y,I x y->mG (k x) (g y) Q):mG (.cut k a) (.cut g b) Q:=by
 unfold mG at h⊢;rw[gz];cases f:a.val with
 | inl x=>
  rw[f]at h;refine bP (I x) ⟨h.1,?_⟩ fun y e=>i x y e;have c:=h.2;cases d:b.val with
  | inl y=>rw[d]at c;exact c
  | inr s=>rw[d]at c;exact c.elim
 | inr r=>
  rw[f]at h;refine bP (fun _=>False) ⟨h.1,?_⟩ fun y e=>e.elim;have c:=h.2;cases d:b.val with
  | inl y=>rw[d]at c;exact c
  | inr s=>rw[d]at c;exact c
theorem axM {n m:Nat}{l:R}{i:R'}{step:X->Pg (X⊕R)}{b:X'->Pg (X'⊕R')}{x:X}{a:X'}(I:X->X'->Prop)(e:X'->Nat)(o:I x a)(w:e a < n)(p:e a < m)
  (g:∀x a,I x a->mG (step x) (b a) (apU (fun y c=>I y c/\e c < e a) Q)):mG (.wh n l step x) (.wh m i b a) Q:=by
 have q:∀(m n:Nat) (x:X) (a:X'),I x a->e a < n->e a < m->Q (JE (fun y=>(step y).val) l n x) (JE (fun y=>(b y).val) i m a):=by
  intro m;induction m with
  | zero=>intro n x a _ _ h;omega
  | succ m v=>
   intro n x a u C A;obtain⟨n,rfl⟩:∃k,n=k+1:=⟨n - 1,by omega⟩;have k:=(g x a u).2;unfold JE;cases d:(step x).val with
   | inl y=>cases f:(b a).val with
    | inl c=>
     rw[d,f]at k;exact v n y c k.1 (by have:=k.2;omega) (by have:=k.2;omega)
    | inr s=>rw[d,f]at k;exact k.elim
   | inr r=>cases f:(b a).val with
    | inl c=>rw[d,f]at k;exact k.elim
    | inr s=>rw[d,f]at k;exact k
 refine⟨L_ (fun c=>∃y,I y c) e ⟨x,o⟩ p fun c ⟨y,j⟩=>⟨(g y c j).1,fun B t=> ?_⟩,q m n x a o w p⟩;have k:=(g y c j).2;rw[t]at k;cases d:(step y).val with
 | inl z=>rw[d]at k;exact⟨⟨z,k.1⟩,k.2⟩
 | inr r=>rw[d]at k;exact k.elim
theorem aAg {h K:Bool}{s:Ix X Y}{J:Ix X' Y'}{l:List A}{c:List A'}{d:A}{E:A'}{f:Int->A->Y->Pg (Y⊕R)}{e:Int->A'->Y'->Pg (Y'⊕R')}{u:Int->Y->Pg R}{i:Int->Y'->Pg R'}{y:Y}{b:Y'}(I:Nat->Y->Y'->Prop)(B:I 0 y b)(p:l.length=c.length)(L:c.length<=9223372036854775807)
  (v:∀(k:Nat) (y:Y) (b:Y'),k < l.length->I k y b->mG (f ↑k (l.getD k d) y) (e ↑k (c.getD k E) b) (apU (I (k+1)) Q)) (x:∀y b,I l.length y b->mG (u ↑l.length y) (i ↑c.length b) Q):mG (.each h s l d f u y) (.each K J c E e i b) Q:=by
 have H:∀(l:List A) (c:List A') (k:Nat) (y:Y) (b:Y'),l.length=c.length->I k y b->
   (∀j y b,j < l.length->I (k+j) y b->apU (I (k+j+1)) Q (f ↑(k+j) (l.getD j d) y).val (e ↑(k+j) (c.getD j E) b).val)->(∀y b,I (k+l.length) y b->Q (u ↑(k+l.length) y).val (i ↑(k+c.length) b).val)->
   Q (jZ (fun k a y=>(f (↑k:Int) a y).val) (fun k y=>(u (↑k:Int) y).val) l k y) (jZ (fun k a y=>(e (↑k:Int) a y).val) (fun k y=>(i (↑k:Int) y).val) c k b):=by
  intro l;induction l with
  | nil=>
   intro c k y b p B _ x;cases c with
   | nil=>exact x y b B
   | cons a c=>exact absurd p kM
  | cons a l M=>
   intro c k y b p B v x;cases c with
   | nil=>exact absurd p kM
   | cons D c=>
    have g:=v 0 y b kM B;simp only[Qb,show(a::l).getD 0 d=a from rfl,show(D::c).getD 0 E=D from rfl]at g;unfold jZ;cases n:(f ↑k a y).val with
    | inl z=>cases t:(e ↑k D b).val with
     | inl o=>
      rw[n,t]at g;refine M c (k+1) z o (by simpa using p) g (fun j y b G m=> ?_) (fun y b m=> ?_)
      ·have q:=v (j+1) y b xI;rw[show k+(j+1)=k+1+j by omega]at q;exact q m
      ·have q:=x y b;rw[show k+(a::l).length=k+1+l.length by simp only[zx];omega,show k+(D::c).length=k+1+c.length by simp only[zx];omega]at q;exact q m
     | inr r=>rw[n,t]at g;exact g.elim
    | inr r=>cases t:(e ↑k D b).val with
     | inl o=>rw[n,t]at g;exact g.elim
     | inr s=>rw[n,t]at g;exact g
 refine⟨Dc (fun k b=>∃y,I k y b) ⟨y,B⟩ (.inr L) (fun k o g _ ⟨z,F⟩=>⟨(v k z o au F).1,fun w' t=> ?_⟩) (fun o _ ⟨z,F⟩=>(x z o (by rw[p];exact F)).1),?_⟩
 ·have C:=(v k z o au F).2;rw[t]at C;cases n:(f ↑k (l.getD k d) z).val with
  | inl w=>rw[n]at C;exact⟨w,C⟩
  | inr r=>rw[n]at C;exact C.elim
 ·rw[fM,fM];refine H l c 0 y b p B (fun j y b G m=> ?_) (fun y b m=> ?_)
  ·rw[zM]at m⊢;exact(v j y b G m).2
  ·rw[zM]at m⊢;rw[zM];exact(x y b m).2
end
end Go.Vc
