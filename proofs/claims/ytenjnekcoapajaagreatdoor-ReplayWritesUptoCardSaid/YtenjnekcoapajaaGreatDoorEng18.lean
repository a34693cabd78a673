/- Own engine: Vez2. -/
import Derived.Test.YtenjnekcoapajaaGreatDoorEng12
set_option linter.unusedVariables false
set_option linter.unusedSimpArgs false
namespace Go.Vc
section
variable {R R' A A' X X' Y Y':Type}
def jK (a:Pg R)(b:Pg R')(Q:R->R'->Prop):Prop:=gU b (Q a.val)
variable {Q:R->R'->Prop}
theorem bF {r:R}{s:R'}(h:Q r s):jK (.ret r) (.ret s) Q:=af h
theorem dB {p:Prop}{k:Pg R}{b:Pg R'}(h:jK k b Q):jK (.ob p k) b Q:=h
theorem aFA {i:Int}{n:Nat}{k:Pg R}{b:Pg R'}(h:jK k b Q):jK (.ix i n k) b Q:=h
theorem asB {p:Prop}{k:Pg R}{b:Pg R'}(h:jK k b Q):jK (.as p k) b Q:=h
theorem dP {v:A}{k:A->Pg R}{b:Pg R'}(h:∀x,x=v->jK (k x) b Q):jK (.lt v k) b Q:=h v rfl
theorem ik {c:Bool}{t e:Pg R}{b:Pg R'}(d:c=true->jK t b Q)(a:c=false->jK e b Q):jK (.br c t e) b Q:=by
 cases c with
 | true=>exact d rfl
 | false=>exact a rfl
theorem cO {p:Prop}{a:Pg R}{k:Pg R'}(b:p)(h:jK a k Q):jK a (.ob p k) Q:=ah b h
theorem BX {i:Int}{n:Nat}{a:Pg R}{k:Pg R'}(b:0<=i)(c:i < ↑n)(h:jK a k Q):jK a (.ix i n k) Q:=aH b c h
theorem asa {p:Prop}{a:Pg R}{k:Pg R'}(h:jK a k Q):jK a (.as p k) Q:=bZ h
theorem dL {v:A}{a:Pg R}{k:A->Pg R'}(h:∀x,x=v->jK a (k x) Q):jK a (.lt v k) Q:=h v rfl
theorem gJ {c:Bool}{a:Pg R}{t e:Pg R'}(d:c=true->jK a t Q)(b:c=false->jK a e Q):jK a (.br c t e) Q:=bH d b
theorem fG {c d:Bool}{t e:Pg R}{a b:Pg R'}(f:c=d)(i:c=true->jK t a Q)(g:c=false->jK e b Q):jK (.br c t e) (.br d a b) Q:=by
 subst f;exact ik (fun h=>gJ (fun _=>i h) fun k=>absurd (h.symm.trans k) dH) (fun h=>gJ (fun k=>absurd (h.symm.trans k) dH) fun _=>g h)
def anH (I:X->X'->Prop)(Q:R->R'->Prop):X⊕R->X'⊕R'->Prop
 | .inl x, .inl y=>I x y
 | .inr r, .inr s=>Q r s
 | _,_=>False
theorem WH (I:X->X'->Prop){a:Pg (X⊕R)}{b:Pg (X'⊕R')}{k:X->Pg R}{f:X'->Pg R'}(h:jK a b (anH I Q))(i:∀x y,I x y->jK (k x) (f y) Q):jK (.cut k a) (.cut f b) Q:=by
 unfold jK at h⊢;rw[dn];cases g:a.val with
 | inl x=>
  rw[g]at h;refine bg (I x) ⟨h.1,?_⟩ fun y e=>i x y e;have c:=h.2;cases d:b.val with
  | inl y=>rw[d]at c;exact c
  | inr s=>rw[d]at c;exact c.elim
 | inr r=>
  rw[g]at h;refine bg (fun _=>False) ⟨h.1,?_⟩ fun y e=>e.elim;have c:=h.2;cases d:b.val with
  | inl y=>rw[d]at c;exact c
  | inr s=>rw[d]at c;exact c
theorem al8 {n m:Nat}{o:R}{l:R'}{step:X->Pg (X⊕R)}{b:X'->Pg (X'⊕R')}{x:X}{a:X'}(I:X->X'->Prop)(d:X'->Nat)(j:I x a)(v:d a < n)(h:d a < m)
  (g:∀x a,I x a->jK (step x) (b a) (anH (fun y c=>I y c/\d c < d a) Q)):jK (.wh n o step x) (.wh m l b a) Q:=by
 have p:∀(m n:Nat) (x:X) (a:X'),I x a->d a < n->d a < m->Q (Dy (fun y=>(step y).val) o n x) (Dy (fun y=>(b y).val) l m a):=by
  intro m;induction m with
  | zero=>omega
  | succ m t=>
   intro n x a u A B;obtain⟨n,rfl⟩:∃k,n=k+1:=⟨n - 1,by omega⟩;have k:=(g x a u).2;unfold Dy;cases e:(step x).val with
   | inl y=>cases f:(b a).val with
    | inl c=>
     rw[e,f]at k;exact t n y c k.1 (by have:=k.2;omega) (by have:=k.2;omega)
    | inr s=>rw[e,f]at k;exact k.elim
   | inr r=>cases f:(b a).val with
    | inl c=>rw[e,f]at k;exact k.elim
    | inr s=>rw[e,f]at k;exact k
 refine⟨DL (fun c=>∃y,I y c) d ⟨x,j⟩ h fun c ⟨y,i⟩=>⟨(g y c i).1,fun w q=> ?_⟩,p m n x a j v h⟩;have k:=(g y c i).2;rw[q]at k;cases e:(step y).val with
 | inl z=>rw[e]at k;exact⟨⟨z,k.1⟩,k.2⟩
 | inr r=>rw[e]at k;exact k.elim
theorem aAz {h K:Bool}{s:Ix X Y}{M:Ix X' Y'}{l:List A}{c:List A'}{d:A}{E:A'}{f:Int->A->Y->Pg (Y⊕R)}{e:Int->A'->Y'->Pg (Y'⊕R')}{t:Int->Y->Pg R}{i:Int->Y'->Pg R'}{y:Y}{b:Y'}(I:Nat->Y->Y'->Prop)(u:I 0 y b)(D:l.length=c.length)(J:c.length<=9223372036854775807)
  (x:∀(k:Nat) (y:Y) (b:Y'),k < l.length->I k y b->jK (f ↑k (l.getD k d) y) (e ↑k (c.getD k E) b) (anH (I (k+1)) Q)) (v:∀y b,I l.length y b->jK (t ↑l.length y) (i ↑c.length b) Q):jK (.each h s l d f t y) (.each K M c E e i b) Q:=by
 have G:∀(l:List A) (c:List A') (k:Nat) (y:Y) (b:Y'),l.length=c.length->I k y b->
   (∀j y b,j < l.length->I (k+j) y b->anH (I (k+j+1)) Q (f ↑(k+j) (l.getD j d) y).val (e ↑(k+j) (c.getD j E) b).val)->(∀y b,I (k+l.length) y b->Q (t ↑(k+l.length) y).val (i ↑(k+c.length) b).val)->
   Q (iH (fun k a y=>(f (↑k:Int) a y).val) (fun k y=>(t (↑k:Int) y).val) l k y) (iH (fun k a y=>(e (↑k:Int) a y).val) (fun k y=>(i (↑k:Int) y).val) c k b):=by
  intro l;induction l with
  | nil=>
   intro c k y b D u _ v;cases c with
   | nil=>exact v y b u
   | cons a c=>grind
  | cons a l L=>
   intro c k y b D u x v;cases c with
   | nil=>grind
   | cons B c=>
    have g:=x 0 y b jQ u;simp only[XE,show(a::l).getD 0 d=a from rfl,show(B::c).getD 0 E=B from rfl]at g;unfold iH;cases p:(f ↑k a y).val with
    | inl z=>cases n:(e ↑k B b).val with
     | inl o=>
      rw[p,n]at g;refine L c (k+1) z o (by simpa using D) g (fun j y b H m=> ?_) (fun y b m=> ?_)
      ·have q:=x (j+1) y b vH
       grind
      ·have q:=v y b;rw[show k+(a::l).length=k+1+l.length by grind,show k+(B::c).length=k+1+c.length by grind]at q;exact q m
     | inr r=>rw[p,n]at g;exact g.elim
    | inr r=>cases n:(e ↑k B b).val with
     | inl o=>rw[p,n]at g;exact g.elim
     | inr s=>rw[p,n]at g;exact g
 refine⟨zO (fun k b=>∃y,I k y b) ⟨y,u⟩ (.inr J) (fun k o g _ ⟨z,F⟩=>⟨(x k z o aj F).1,fun w' n=> ?_⟩) (fun o _ ⟨z,F⟩=>(v z o dm).1),?_⟩
 ·have C:=(x k z o aj F).2;rw[n]at C;cases p:(f ↑k (l.getD k d) z).val with
  | inl w=>rw[p]at C;exact⟨w,C⟩
  | inr r=>rw[p]at C;exact C.elim
 ·rw[dN,dN];refine G l c 0 y b D u (fun j y b H m=> ?_) (fun y b m=> ?_)
  ·rw[Bc]at m⊢;exact(x j y b H m).2
  ·rw[Bc]at m⊢;rw[Bc];exact(v y b m).2
end
end Go.Vc
