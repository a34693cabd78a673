/- Own engine: Ver. -/
import Derived.Test.YtebmficbjhcohaaGreatDoorEng15
set_option linter.unusedVariables false
set_option linter.unusedSimpArgs false
namespace Go.Vc
section
variable {A:Type}
theorem kE {X R:Type}{a:X->Prop}{Q:R->Prop}{z:X}(h:a z):jG (.ret (.inl z)) (Sum.elim a Q):=⟨aO,h⟩
theorem vM {X R:Type}{a:X->Prop}{Q:R->Prop}{z:R}(h:Q z):jG (.ret (.inr z)) (Sum.elim a Q):=⟨aO,h⟩
def rE (q:A->A->Prop)(l:List A):Prop:=l.length<=1099511627776/\∀x∈l,∀y∈l,q x y
def swQ (a b n:Int)(k:Nat):Prop:=0<=a/\0<=n/\a+n<=b/\b+n<=(k:Int)/\k<=1099511627776
def roQ (a m b:Int)(k:Nat):Prop:=0<=a/\a < m/\m < b/\b<=(k:Int)/\k<=1099511627776
def Hg (q:A->A->Prop)(a b:Int)(l:List A):Prop:=rE q l/\0<=a/\a<=b/\b<=(l.length:Int)
def WZ (q:A->A->Prop)(c:Nat)(a m b:Int)(l:List A):Prop:=rE q l/\0<=a/\a < m/\m < b/\b<=(l.length:Int)/\(b - a).toNat < c
def stQ (q:A->A->Prop)(n:Int)(l:List A):Prop:=rE q l/\n=(l.length:Int)
variable {c:A->A->Int}{q:A->A->Prop}{d:A}{g:A->A}
theorem vV {l r:List A}(h:rE q l)(p:r.Perm l):rE q r:=⟨by rw[p.length_eq];exact h.1,fun x b y a=>h.2 x (p.mem_iff.1 b) y (p.mem_iff.1 a)⟩
theorem FY {a m b:Int}{l:List A}{B:Prop}(h:WZ q 0 a m b l):B:=absurd h.2.2.2.2.2 (Nat.not_lt_zero _)
theorem wI {v:Int}(a: -4398046511104<=v)(h:v<=4398046511104):dA .i64 v=v:=eQ (k:= .i64) ve
theorem half {x:Int}(a:0<=x)(h:x<=4398046511104):dA .i64 (Bc .u64 (dA .u64 (dA .i64 x)) 1)=x / 2:=by
 obtain⟨x,rfl⟩:=Int.eq_ofNat_of_zero_le a;have b:dA .i64 (x:Int)=x:=wI au au;rw[b,Np (k:= .u64) rfl (show x < _ from Nat.lt_of_le_of_lt (show x<=4398046511104 by omega) qp),show Bc .u64 (x:Int) 1=((x / 2:Nat):Int)from adk (k:= .u64) x 1 qp,wI au au];omega
theorem aiP {X:List A}{x:A}(h:x∈X):∃i,i < X.length/\X.getD i d=x:=by
 obtain⟨i,a,rfl⟩:=Qdh h;exact⟨i,a,by simp[List.getD,a]⟩
theorem swp {r:List A}{i j:Nat}(a:i < r.length)(b:j < r.length):((r.set i (r.getD j d)).set j (r.getD i d)).Perm r:=by
 have e:∀{k},(h:k < r.length)->r.getD k d=r[k]:=fun h=>by simp[List.getD,h]
 rw[e a,e b];exact List.set_set_perm a b
def VF (g:A->A)(d:A)(a b n:Int)(l:List A):Pg (List A):=
 .cnt oG 0 n
  (fun(h:Int) (c:List A)=>
   .lt (dA .i64 (b+h)) fun(e:Int)=>
    .ix e c.length
     (.ob (e.toNat < c.length)
      (.lt (dA .i64 (a+h)) fun(f:Int)=>
       .ix f c.length
        (.ob (f.toNat < c.length)
         (.ix f c.length
          (.ob (f.toNat < c.length)
           (.ix e (c.set f.toNat (g (c.getD e.toNat d))).length
            (.ob (e.toNat < (c.set f.toNat (g (c.getD e.toNat d))).length)
             (.ret (.inl ((c.set f.toNat (g (c.getD e.toNat d))).set e.toNat (g (c.getD f.toNat d)))))))))))))
  (fun(h:Int) (c:List A)=> .ret c) l
def ayt (g:A->A)(d:A)(a b n:Int)(l:List A):List A:=(VF g d a b n l).val
theorem LX (j:∀a,g a=a){a b n:Int}{l:List A}(h:swQ a b n l.length):jG (VF g d a b n l) (fun r=>r.Perm l):=by
 obtain rfl:g=fun a=>a:=funext j
 obtain⟨v,t,w,u,q⟩:=h;refine rM (fun i r=>r.Perm l) (.refl l) au au (fun i r o f c=> ?_) (fun i r o f c=>ah c);have e:=c.length_eq;refine aC fun s m=> ?_;rw[wI au au]at m;refine aU au au (aj au (aC fun p k=> ?_));rw[wI au au]at k;exact aU au au (aj au (aU au au (aj au (aU au qch (aj qch (kE ((swp au au).trans c)))))))
def Uj (g:A->A)(d:A)(a m b:Int)(l:List A):Pg (List A):=
 .lt (dA .i64 (m - a)) fun(i:Int)=>
  .lt (dA .i64 (b - m)) fun(h:Int)=>
   .wh ((b - a).toNat+1) default
    (fun(c:Int×Int×List A)=>
     .lt (dA .i64 (m - c.fst)) fun(e:Int)=>
      .br (c.fst !=c.snd.fst)
       (.br (decide (c.snd.fst < c.fst))
        (.ob (swQ e m c.snd.fst c.snd.snd.length) (.ret (.inl (dA .i64 (c.fst - c.snd.fst),c.snd.fst,ayt g d e m c.snd.fst c.snd.snd))))
        (.lt (dA .i64 (dA .i64 (m+c.snd.fst) - c.fst)) fun(f:Int)=>
         .ob (swQ e f c.fst c.snd.snd.length) (.ret (.inl (c.fst,dA .i64 (c.snd.fst - c.fst),ayt g d e f c.fst c.snd.snd)))))
       (.ob (swQ e m c.fst c.snd.snd.length) (.ret (.inr (ayt g d e m c.fst c.snd.snd)))))
    (i,h,l)
def aGL (g:A->A)(d:A)(a m b:Int)(l:List A):List A:=(Uj g d a m b l).val
theorem KZ (F:∀a,g a=a){a m b:Int}{l:List A}(h:roQ a m b l.length):jG (Uj g d a m b l) (fun r=>r.Perm l):=by
 obtain⟨N,L,O,M,K⟩:=h;refine aC fun f D=>aC fun o B=> ?_;rw[wI au au]at D;rw[wI au au]at B;refine oU (fun s=>0 < s.1/\s.1<=m - a/\0 < s.2.1/\s.2.1<=b - m/\s.2.2.Perm l) (fun s=>(s.1+s.2.1).toNat) ⟨by show 0 < f;omega,by show f<=_;omega,by show 0 < o;omega,by show o<=_;omega, .refl l⟩ (by show(f+o).toNat < _;omega) ?_;rintro⟨i,j,r⟩ ⟨t,q,u,v,p⟩;dsimp only at t q u v p⊢;have e:=p.length_eq;have c:∀{x y n:Int},swQ x y n r.length->(ayt g d x y n r).Perm l:=fun h=>(LX F h).2.trans p
 refine aC fun k C=> ?_;rw[wI au au]at C;refine dW (fun J=>bK (fun H=> ?_) (fun I=>aC fun E z=> ?_)) (fun G=> ?_)
 ·have w:swQ k m j r.length:=⟨by omega,by omega,by omega,by omega,by omega⟩;refine aj w (kE ⟨⟨?_,?_,u,v,c w⟩,?_⟩);all_goals (dsimp only;rw[wI au au];omega)
 ·rw[show dA .i64 (m+j)=m+j from wI au au,wI au au]at z;have w:swQ k E i r.length:=⟨by omega,by omega,by omega,by omega,by omega⟩;refine aj w (kE ⟨⟨t,q,?_,?_,c w⟩,?_⟩);all_goals (dsimp only;rw[wI au au];omega)
 ·have w:swQ k m i r.length:=⟨by omega,by omega,by omega,by omega,by omega⟩;exact aj w (vM (c w))
def VO (g:A->A)(c:A->A->Int)(q:A->A->Prop)(d:A)(a b:Int)(l:List A):Pg (List A):=
 .lt (dA .i64 (a+1)) fun(k:Int)=>
  .cnt oG k b
   (fun(j:Int) (h:List A)=>
    .wh ((b - a).toNat+1) default
     (fun(e:Int×List A)=>
      .br (decide (a < e.fst))
       (.ix e.fst e.snd.length
        (.ob (e.fst.toNat < e.snd.length)
         (.lt (dA .i64 (e.fst - 1)) fun(f:Int)=>
          .ix f e.snd.length
           (.ob (f.toNat < e.snd.length)
            (.ob (q (g (e.snd.getD e.fst.toNat d)) (g (e.snd.getD f.toNat d)))
             (.lt (c (g (e.snd.getD e.fst.toNat d)) (g (e.snd.getD f.toNat d))) fun(m:Int)=>
              .br (decide (m < 0))
               (.ix f e.snd.length
                (.ob (f.toNat < e.snd.length)
                 (.ix e.fst e.snd.length
                  (.ob (e.fst.toNat < e.snd.length)
                   (.ix e.fst e.snd.length
                    (.ob (e.fst.toNat < e.snd.length)
                     (.lt (e.snd.set e.fst.toNat (g (e.snd.getD f.toNat d))) fun(i:List A)=>
                      .ix f i.length (.ob (f.toNat < i.length) (.ret (.inl (f,i.set f.toNat (g (e.snd.getD e.fst.toNat d)))))))))))))
               (.ret (.inr (.inl e.snd)))))))))
       (.ret (.inr (.inl e.snd))))
     (j,h))
   (fun(j:Int) (h:List A)=> .ret h) l
def aDl (g:A->A)(c:A->A->Int)(q:A->A->Prop)(d:A)(a b:Int)(l:List A):List A:=(VO g c q d a b l).val
theorem LJ (z:∀a,g a=a){a b:Int}{l:List A}(h:Hg q a b l):jG (VO g c q d a b l) (fun r=>r.Perm l):=by
 obtain rfl:g=fun a=>a:=funext z
 obtain⟨⟨D,x⟩,I,H,J⟩:=h;refine aC fun G t=> ?_;rw[wI au au]at t;refine rM (fun i r=>r.Perm l) (.refl l) au au (fun i r y v m=> ?_) (fun i r y v m=>ah m);refine oU (fun s=>a<=s.1/\s.1<=i/\s.2.Perm l) (fun s=>(s.1 - a).toNat) ⟨by show a<=i;omega,H8 _,m⟩ (by show(i - a).toNat < _;omega) ?_;rintro⟨j,r⟩ ⟨w,u,f⟩;dsimp only at w u f⊢;have e:=f.length_eq;have o:∀{n:Nat},n < r.length->r.getD n d∈l:=fun h=>f.mem_iff.1 (getD_mem h)
 refine bK (fun B=> ?_) (fun C=>vM f);refine aU au au (aj au (aC fun k p=> ?_));rw[wI au au]at p;refine aU au au (aj au (aj (x _ (o au) _ (o au)) (aC fun E _=>bK (fun _=> ?_) (fun _=>vM f))));refine aU au au (aj au (aU au au (aj au (aU au au (aj au (aC fun F e9=>aU au qcn (aj qcn (kE ?_))))))));rw[e9];exact⟨⟨by show a<=k;omega,by show k<=i;omega,(swp au au).trans f⟩,by show(k - a).toNat < (j - a).toNat;omega⟩
theorem aE0 {R:Type}{n:Nat}{h:Int⊕R}{K:Int×Int->Pg ((Int×Int)⊕(Int⊕R))}{Q:R->Prop}{b a:Int}(g:b<=a)(l:(a - b).toNat < n)
  (o:∀i j:Int,b<=i->i < j->j<=a->jG (K (i,j)) fun s=>s= .inl ((i+j) / 2+1,j)\/s= .inl (i,(i+j) / 2)):
  jG (.wh n h (fun x=> .br (decide (x.fst < x.snd)) (K x) (.ret (.inr (.inl x.fst)))) (b,a)) (Sum.elim (fun y=>b<=y/\y<=a) Q):=by
 refine oU (fun x=>b<=x.1/\x.1<=x.2/\x.2<=a) (fun x=>(x.2 - x.1).toNat) ⟨H8 _,g,H8 _⟩ l ?_;rintro⟨i,j⟩ ⟨d,k,f⟩;dsimp only at d k f⊢;refine bK (fun e=> ?_) (fun e=>vM (show b<=i/\i<=a from⟨d,by omega⟩));obtain⟨m,c⟩:=o i j d e f;refine⟨m,?_⟩;rcases c with c | c<;>rw[c]
 ·exact And.intro ⟨by show b<=(i+j) / 2+1;omega,by show(i+j) / 2+1<=j;omega,f⟩ (by show(j - ((i+j) / 2+1)).toNat < (j - i).toNat;omega)
 ·exact And.intro ⟨d,by show i<=(i+j) / 2;omega,by show(i+j) / 2<=a;omega⟩ (by show((i+j) / 2 - i).toNat < (j - i).toNat;omega)
def YN (g:A->A)(c:A->A->Int)(q:A->A->Prop)(d:A)(M:Int->Int->Int->List A->List A)(I:Int->Int->Int->List A->Prop)(a m b:Int)(l:List A):Pg (List A):=
 .cut
  (fun(p:List A)=>
   .cut
    (fun(k:List A)=>
     .ob ((0:Int)<=1)
      (.lt (dA .i64 (dA .i64 (Bc .u64 (dA .u64 (dA .i64 (a+b))) 1)+m)) fun(C:Int)=>
       .lt (dA .i64 (Bc .u64 (dA .u64 (dA .i64 (a+b))) 1)) fun(i:Int)=>
        .cut
         (fun(N:Int×Int)=>
          .cut
           (fun(v:Int)=>
            .cut
             (fun(B:List A)=>
              .cut
               (fun(z:List A)=>
                .lt (dA .i64 (C - v)) fun(x:Int)=>
                 .br (decide (i < x)) (.br (decide (x < b)) (.ob (I i x b z) (.ret (M i x b z))) (.ret z)) (.ret z))
               (.br (decide (a < v)) (.br (decide (v < i)) (.ob (I a v i B) (.ret (.inl (M a v i B)))) (.ret (.inl B)))
                (.ret (.inl B))))
             (.br (decide (v < m))
              (.lt (dA .i64 (C - v)) fun(E:Int)=>
               .br (decide (m < E)) (.ob (roQ v m E k.length) (.ret (.inl (aGL g d v m E k)))) (.ret (.inl k)))
              (.ret (.inl k))))
           (.wh ((b - a).toNat+1) default
            (fun(h:Int×Int)=>
             .br (decide (h.fst < h.snd))
              (.ob ((0:Int)<=1)
               (.lt
                (dA .i64
                 (dA .i64 (C - 1) - dA .i64 (Bc .u64 (dA .u64 (dA .i64 (h.fst+h.snd))) 1)))
                fun(y:Int)=>
                .ix y k.length
                 (.ob (y.toNat < k.length)
                  (.lt (dA .i64 (Bc .u64 (dA .u64 (dA .i64 (h.fst+h.snd))) 1)) fun(u:Int)=>
                   .ix u k.length
                    (.ob (u.toNat < k.length)
                     (.ob (q (g (k.getD y.toNat d)) (g (k.getD u.toNat d)))
                      (.lt (c (g (k.getD y.toNat d)) (g (k.getD u.toNat d))) fun(K:Int)=>
                       .br (!decide (K < 0)) (.ret (.inl (dA .i64 (u+1),h.snd)))
                        (.ret (.inl (h.fst,u))))))))))
              (.ret (.inr (.inl h.fst))))
            N))
         (.br (decide (i < m)) (.ret (.inl (dA .i64 (C - b),i))) (.ret (.inl (a,m))))))
    (.lt (dA .i64 (b - m)) fun(F:Int)=>
     .br (F==1)
      (.cut
       (fun(O:Int)=>
        .wh ((b - a).toNat+1) default
         (fun(e:Int×List A)=>
          .br (decide (O < e.fst))
           (.lt (dA .i64 (e.fst - 1)) fun(n:Int)=>
            .ix n e.snd.length
             (.ob (n.toNat < e.snd.length)
              (.ix e.fst e.snd.length
               (.ob (e.fst.toNat < e.snd.length)
                (.ix e.fst e.snd.length
                 (.ob (e.fst.toNat < e.snd.length)
                  (.lt (e.snd.set e.fst.toNat (g (e.snd.getD n.toNat d))) fun(D:List A)=>
                   .ix n D.length (.ob (n.toNat < D.length) (.ret (.inl (n,D.set n.toNat (g (e.snd.getD e.fst.toNat d)))))))))))))
           (.ret (.inr (.inr e.snd))))
         (m,p))
       (.wh ((b - a).toNat+1) default
        (fun(o:Int×Int)=>
         .br (decide (o.fst < o.snd))
          (.ob ((0:Int)<=1)
           (.ix m p.length
            (.ob (m.toNat < p.length)
             (.lt (dA .i64 (Bc .u64 (dA .u64 (dA .i64 (o.fst+o.snd))) 1)) fun(t:Int)=>
              .ix t p.length
               (.ob (t.toNat < p.length)
                (.ob (q (g (p.getD m.toNat d)) (g (p.getD t.toNat d)))
                 (.lt (c (g (p.getD m.toNat d)) (g (p.getD t.toNat d))) fun(J:Int)=>
                  .br (!decide (J < 0)) (.ret (.inl (dA .i64 (t+1),o.snd))) (.ret (.inl (o.fst,t))))))))))
          (.ret (.inr (.inl o.fst))))
        (a,m)))
      (.ret (.inl p))))
  (.lt (dA .i64 (m - a)) fun(H:Int)=>
   .br (H==1)
    (.cut
     (fun(P:Int)=>
      .lt (dA .i64 (P - 1)) fun(L:Int)=>
       .cnt oG a L
        (fun(r:Int) (f:List A)=>
         .lt (dA .i64 (r+1)) fun(j:Int)=>
          .ix j f.length
           (.ob (j.toNat < f.length)
            (.ix r f.length
             (.ob (r.toNat < f.length)
              (.ix r f.length
               (.ob (r.toNat < f.length)
                (.ix j (f.set r.toNat (g (f.getD j.toNat d))).length
                 (.ob (j.toNat < (f.set r.toNat (g (f.getD j.toNat d))).length)
                  (.ret (.inl ((f.set r.toNat (g (f.getD j.toNat d))).set j.toNat (g (f.getD r.toNat d)))))))))))))
        (fun(r:Int) (f:List A)=> .ret (.inr f)) l)
     (.wh ((b - a).toNat+1) default
      (fun(w:Int×Int)=>
       .br (decide (w.fst < w.snd))
        (.ob ((0:Int)<=1)
         (.lt (dA .i64 (Bc .u64 (dA .u64 (dA .i64 (w.fst+w.snd))) 1)) fun(s:Int)=>
          .ix s l.length
           (.ob (s.toNat < l.length)
            (.ix a l.length
             (.ob (a.toNat < l.length)
              (.ob (q (g (l.getD s.toNat d)) (g (l.getD a.toNat d)))
               (.lt (c (g (l.getD s.toNat d)) (g (l.getD a.toNat d))) fun(G:Int)=>
                .br (decide (G < 0)) (.ret (.inl (dA .i64 (s+1),w.snd))) (.ret (.inl (w.fst,s))))))))))
        (.ret (.inr (.inl w.fst))))
      (m,b)))
    (.ret (.inl l)))
theorem zo (Q:∀a,g a=a){Pe:Int->Int->Int->List A->List A}{Xh:Int->Int->Int->List A->Prop}{F:Nat}(R:∀a m b l,WZ q F a m b l->Xh a m b l)(P:∀a m b l,WZ q F a m b l->(Pe a m b l).Perm l){a m b:Int}{l:List A}(h:WZ q (F+1) a m b l):jG (YN g c q d Pe Xh a m b l) (fun r=>r.Perm l):=by
 obtain⟨N,Y,h2,h3,h4,h5⟩:=h;obtain⟨K,H⟩:=N;have Z:∀{x y z:Int},roQ x y z l.length->(aGL g d x y z l).Perm l:=fun h=>(KZ Q h).2
 obtain rfl:g=fun a=>a:=funext Q
 have B:∀{n:Nat},n < l.length->l.getD n d∈l:=fun h=>getD_mem h
 refine bQ (fun y=>y=l/\m - a≠1) ?_ ?_
 ·refine aC fun v e=> ?_;rw[wI au au]at e;refine dZ (fun p=> ?_) (fun p=>kE ⟨rfl,by omega⟩);refine bQ _ (aE0 au au fun i j E t S=>aj au (aC fun w f=> ?_)) ?_
  ·dsimp only at f⊢;rw[half au au]at f;refine aU au au (aj au (aU au au (aj au (aj (H _ (B au) _ (B au)) (aC fun _ _=>dX (fun _=>ah (.inl ?_)) (fun _=>ah (.inr ?_)))))))
   ·rw[wI au au,f]
   ·rw[f]
  ·rintro y ⟨E,t⟩;refine aC fun w f=> ?_;rw[wI au au]at f;refine rM (fun i r=>r.Perm l) (.refl l) au au (fun i r h0 hi I=> ?_) (fun i r _ _ I=>vM I);have e:=I.length_eq;refine aC fun u o=> ?_;rw[wI au au]at o;exact aU au au (aj au (aU au au (aj au (aU au au (aj au (aU au qch (aj qch (kE ((swp au au).trans I)))))))))
 rintro y ⟨rfl,n1⟩;refine bQ (fun z=>z=y/\b - m≠1) ?_ ?_
 ·refine aC fun v e=> ?_;rw[wI au au]at e;refine dZ (fun p=> ?_) (fun p=>kE ⟨rfl,by omega⟩);refine bQ _ (aE0 au au fun i j E t S=>aj au (aU au au (aj au (aC fun w f=> ?_)))) ?_
  ·dsimp only at f⊢;rw[half au au]at f;refine aU au au (aj au (aj (H _ (B au) _ (B au)) (aC fun _ _=>dX (fun _=>ah (.inl ?_)) (fun _=>ah (.inr ?_)))))
   ·rw[wI au au,f]
   ·rw[f]
  ·rintro C ⟨E,t⟩;refine oU (fun s=>C<=s.1/\s.1<=m/\s.2.Perm y) (fun s=>(s.1 - C).toNat) ⟨t,H8 _, .refl y⟩ (by show(m - C).toNat < _;omega) ?_;rintro⟨j,r⟩ ⟨X,T,J⟩;dsimp only at X T J⊢;have e:=J.length_eq;refine bK (fun hlt=>aC fun u o=> ?_) (fun _=>vM (show(Sum.elim (fun z=>z=y/\b - m≠1) (fun r:List A=>r.Perm y)) (.inr r)from J));rw[wI au au]at o;refine aU au au (aj au (aU au au (aj au (aU au au (aj au (aC fun v9 e9=>aU au qcn (aj qcn (kE ?_))))))));rw[e9];exact⟨⟨by show C<=u;omega,by show u<=m;omega,(swp au au).trans J⟩,by show(u - C).toNat < (j - C).toNat;omega⟩
 rintro O ⟨rfl,n2⟩;refine aj au (aC fun v e=>aC fun w f=> ?_);rw[half au au]at f;rw[half au au,wI au au]at e;refine bQ (fun z=>(z.1=v - b/\z.2=w/\w < m)\/(z.1=a/\z.2=m/\¬w < m)) ?_ ?_
 ·refine bK (fun h=>kE (.inl ⟨?_,rfl,h⟩)) (fun h=>kE (.inr ⟨rfl,rfl,h⟩));exact wI au au
 rintro⟨i0,j0⟩ U;dsimp only at U;refine bQ _ (aE0 au au fun i j E t S=>aj au (aC fun u o=> ?_)) ?_
 ·dsimp only at o⊢;rw[half au au,show dA .i64 (v - 1)=v - 1 from wI au au,wI au au]at o;refine aU au au (aj au (aC fun x L=> ?_));rw[half au au]at L;refine aU au au (aj au (aj (H _ (B au) _ (B au)) (aC fun _ _=>dX (fun _=>ah (.inl ?_)) (fun _=>ah (.inr ?_)))))
  ·rw[wI au au,L]
  ·rw[L]
 rintro s ⟨E,t⟩;refine bQ (fun z=>z.Perm O) ?_ fun W G=> ?_
 ·refine bK (fun N=>aC fun u o=> ?_) (fun _=>kE (.refl _));rw[wI au au]at o;refine bK (fun hm=> ?_) (fun _=>kE (.refl _));have k:roQ s m u O.length:=⟨by omega,N,hm,by omega,K⟩;exact aj k (kE (Z k))
 have e1:=G.length_eq;refine bQ (fun z=>z.Perm O) ?_ fun V D=> ?_
 ·refine bK (fun M=>bK (fun p=> ?_) (fun _=>kE G)) (fun _=>kE G);have k:WZ q F a s w W:=⟨vV ⟨K,H⟩ G,Y,M,p,by omega,by omega⟩;exact aj (R _ _ _ _ k) (kE ((P _ _ _ _ k).trans G))
 have e2:=D.length_eq;refine aC fun u o=> ?_;rw[wI au au]at o;refine bK (fun M=>bK (fun p=> ?_) (fun _=>ah D)) (fun _=>ah D);have k:WZ q F w u b V:=⟨vV ⟨K,H⟩ D,by omega,M,p,by omega,by omega⟩;exact aj (R _ _ _ _ k) (ah ((P _ _ _ _ k).trans D))
def Xo (g:A->A)(c:A->A->Int)(q:A->A->Prop)(d:A)(o:Int->Int->Int->List A->List A)(n:Int)(l:List A):Pg (List A):=
 .cut
  (fun(i:Int×List A)=>
   .ob (Hg q i.fst n i.snd)
    (.wh (n.toNat+1) default
     (fun(e:Int×List A)=>
      .br (decide (e.fst < n))
       (.cut
        (fun(f:Int×List A)=>
         .lt (dA .i64 (f.fst+e.fst)) fun(h:Int)=>
          .lt (dA .i64 (e.fst*2)) fun(m:Int)=>
           .br (decide (h < n))
            (.ob (WZ q ((n - f.fst).toNat+1) f.fst h n f.snd) (.ret (.inl (m,o f.fst h n f.snd))))
            (.ret (.inl (m,f.snd))))
        (.lt (dA .i64 (2*e.fst)) fun(k:Int)=>
         .wh (n.toNat+1) default
          (fun(a:Int×Int×List A)=>
           .br (decide (a.snd.fst<=n))
            (.lt (dA .i64 (a.fst+e.fst)) fun(j:Int)=>
             .ob (WZ q ((a.snd.fst - a.fst).toNat+1) a.fst j a.snd.fst a.snd.snd)
              (.ret (.inl (a.snd.fst,dA .i64 (a.snd.fst+k),o a.fst j a.snd.fst a.snd.snd))))
            (.ret (.inr (.inl (a.fst,a.snd.snd)))))
          (0,k,e.snd)))
       (.ret (.inr e.snd)))
     (20,aDl g c q d i.fst n i.snd)))
  (.wh (n.toNat+1) default
   (fun(b:Int×Int×List A)=>
    .br (decide (b.snd.fst<=n))
     (.ob (Hg q b.fst b.snd.fst b.snd.snd)
      (.ret (.inl (b.snd.fst,dA .i64 (b.snd.fst+20),aDl g c q d b.fst b.snd.fst b.snd.snd))))
     (.ret (.inr (.inl (b.fst,b.snd.snd)))))
   (0,20,l))
theorem zq (G:∀a,g a=a){Pe:Int->Int->Int->List A->List A}(D:∀a m b l,WZ q ((b - a).toNat+1) a m b l->(Pe a m b l).Perm l){n:Int}{l:List A}(o:stQ q n l):jG (Xo g c q d Pe n l) (fun r=>r.Perm l):=by
 obtain⟨o,rfl⟩:=o;have I:=o.1;have t:∀{x y:Int} {r:List A},Hg q x y r->(aDl g c q d x y r).Perm r:=fun h=>(LJ G h).2
 refine bQ (fun y=>0<=y.1/\y.1<=(l.length:Int)/\y.2.Perm l) ?_ ?_
 ·refine oU (fun s=>0<=s.1/\s.1<=(l.length:Int)/\s.2.1=s.1+20/\s.2.2.Perm l) (fun s=>((l.length:Int) - s.1).toNat) ⟨H8 _,by show(0:Int)<=_;omega,rfl, .refl l⟩ (by show((l.length:Int) - 0).toNat < _;omega) ?_;rintro⟨x,y,r⟩ ⟨i,j,C,f⟩;dsimp only at i j C f⊢;have e:=f.length_eq;refine bK (fun h=> ?_) (fun h=>vM (show 0<=x/\x<=(l.length:Int)/\r.Perm l from⟨i,j,f⟩));have w:Hg q x y r:=⟨vV o f,i,by omega,by omega⟩;exact aj w (kE ⟨⟨by show 0<=y;omega,by show y<=_;omega,wI au au,(t w).trans f⟩,by show((l.length:Int) - y).toNat < ((l.length:Int) - x).toNat;omega⟩)
 rintro⟨x,r⟩ ⟨i,j,f⟩;dsimp only at i j f⊢;have e:=f.length_eq;have w:Hg q x l.length r:=⟨vV o f,i,j,by omega⟩;refine aj w ?_;refine oU (fun s=>0 < s.1/\s.1<=2199023255552/\s.2.Perm l) (fun s=>((l.length:Int) - s.1).toNat) ⟨by show(0:Int) < 20;decide,by show(20:Int)<=_;decide,(t w).trans f⟩ (by show((l.length:Int) - 20).toNat < _;omega) ?_;rintro⟨k,r⟩ ⟨b1,F,p⟩;dsimp only at b1 F p⊢;refine bK (fun h=> ?_) (fun _=>vM p);refine bQ (fun y=>0<=y.1/\y.1<=(l.length:Int)/\y.2.Perm l) ?_ ?_
 ·refine aC fun v z=> ?_;rw[wI au au]at z;refine oU (fun s=>0<=s.1/\s.1<=(l.length:Int)/\s.2.1=s.1+v/\s.2.2.Perm l) (fun s=>((l.length:Int) - s.1).toNat) ⟨H8 _,by show(0:Int)<=_;omega,by show v=0+v;omega,p⟩ (by show((l.length:Int) - 0).toNat < _;omega) ?_;rintro⟨x,y,r⟩ ⟨i,j,C,f⟩;dsimp only at i j C f⊢;have e:=f.length_eq;refine bK (fun h=>aC fun u B=> ?_) (fun _=>vM (show 0<=x/\x<=(l.length:Int)/\r.Perm l from⟨i,j,f⟩));rw[wI au au]at B;have w:WZ q ((y - x).toNat+1) x u y r:=⟨vV o f,i,by omega,by omega,by omega,by omega⟩;exact aj w (kE ⟨⟨by show 0<=y;omega,by show y<=_;omega,wI au au,(D _ _ _ _ w).trans f⟩,by show((l.length:Int) - y).toNat < ((l.length:Int) - x).toNat;omega⟩)
 rintro⟨x,r⟩ ⟨i,j,f⟩;dsimp only at i j f⊢;have e:=f.length_eq;refine aC fun u B=>aC fun v z=> ?_;rw[wI au au]at B;rw[wI au au]at z;have E:∀{r:List A},r.Perm l->(0 < (v,r).1/\(v,r).1<=2199023255552/\(v,r).2.Perm l)/\((l.length:Int) - (v,r).1).toNat < ((l.length:Int) - k).toNat:=fun p=>⟨⟨by show 0 < v;omega,by show v<=_;omega,p⟩,by show((l.length:Int) - v).toNat < _;omega⟩
 refine bK (fun H=> ?_) (fun _=>kE (E f));have w:WZ q (((l.length:Int) - x).toNat+1) x u l.length r:=⟨vV o f,i,by omega,H,by omega,by omega⟩;exact aj w (kE (E ((D _ _ _ _ w).trans f)))
end
end Go.Vc
