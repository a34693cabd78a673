/- Own engine: Ver. -/
import Derived.Test.YtgdmjfkdbfafjaaGreatDoorEng15
set_option linter.unusedVariables false
set_option linter.unusedSimpArgs false
namespace Go.Vc
section
variable {A:Type}
theorem lU {X R:Type}{a:X->Prop}{Q:R->Prop}{z:X}(h:a z):j_ (.ret (.inl z)) (Sum.elim a Q):=⟨aQ,h⟩
theorem xI {X R:Type}{a:X->Prop}{Q:R->Prop}{z:R}(h:Q z):j_ (.ret (.inr z)) (Sum.elim a Q):=⟨aQ,h⟩
def uq (q:A->A->Prop)(l:List A):Prop:=l.length<=1099511627776/\∀x∈l,∀y∈l,q x y
def swQ (a b n:Int)(k:Nat):Prop:=0<=a/\0<=n/\a+n<=b/\b+n<=(k:Int)/\k<=1099511627776
def roQ (a m b:Int)(k:Nat):Prop:=0<=a/\a < m/\m < b/\b<=(k:Int)/\k<=1099511627776
def IQ (q:A->A->Prop)(a b:Int)(l:List A):Prop:=uq q l/\0<=a/\a<=b/\b<=(l.length:Int)
def ZJ (q:A->A->Prop)(c:Nat)(a m b:Int)(l:List A):Prop:=uq q l/\0<=a/\a < m/\m < b/\b<=(l.length:Int)/\(b - a).toNat < c
def stQ (q:A->A->Prop)(n:Int)(l:List A):Prop:=uq q l/\n=(l.length:Int)
variable {c:A->A->Int}{q:A->A->Prop}{d:A}{g:A->A}
theorem xW {l r:List A}(h:uq q l)(p:r.Perm l):uq q r:=⟨by rw[p.length_eq];exact h.1,fun x b y a=>h.2 x (p.mem_iff.1 b) y (p.mem_iff.1 a)⟩
theorem IL {a m b:Int}{l:List A}{B:Prop}(h:ZJ q 0 a m b l):B:=absurd h.2.2.2.2.2 (Nat.not_lt_zero _)
theorem wI {v:Int}(a: -4398046511104<=v)(h:v<=4398046511104):dA .i64 v=v:=dU (k:= .i64) tZ
theorem half {x:Int}(b:0<=x)(h:x<=4398046511104):dA .i64 (Ar .u64 (dA .u64 (dA .i64 x)) 1)=x / 2:=by
 obtain⟨x,rfl⟩:=Qcy b;have a:dA .i64 (x:Int)=x:=wI au au;rw[a,Po (k:= .u64) rfl (show x < _ from Qd6 (show x<=4398046511104 by omega) mi),show Ar .u64 (x:Int) 1=((x / 2:Nat):Int)from ahg (k:= .u64) x 1 mi,wI au au];omega
theorem Ik {X:List A}{x:A}(h:x∈X):∃i,i < X.length/\X.getD i d=x:=by
 obtain⟨i,a,rfl⟩:=Qdl h;exact⟨i,a,by grind⟩
theorem swp {r:List A}{i j:Nat}(b:i < r.length)(a:j < r.length):((r.set i (r.getD j d)).set j (r.getD i d)).Perm r:=by
 have e:∀{k},(h:k < r.length)->r.getD k d=r[k]:=fun h=>by grind
 rw[e b,e a];exact List.set_set_perm b a
def Vx (g:A->A)(d:A)(a b n:Int)(l:List A):Pg (List A):=
 .cnt oZ 0 n
  (fun(h:Int) (c:List A)=>
   .lt (dA .i64 (b+h)) fun(e:Int)=>
    .ix e c.length
     (.ob (e.toNat < c.length)
      (.lt (dA .i64 (a+h)) fun(f:Int)=>
       .ix f c.length
        (.ob (f.toNat < c.length)
         (.ix f c.length
          (.ob (f.toNat < c.length)
           (.ix e (c.set f.toNat (g (c.getD e.toNat d))).length
            (.ob (e.toNat < (c.set f.toNat (g (c.getD e.toNat d))).length)
             (.ret (.inl ((c.set f.toNat (g (c.getD e.toNat d))).set e.toNat (g (c.getD f.toNat d)))))))))))))
  (fun(h:Int) (c:List A)=> .ret c) l
def aDB (g:A->A)(d:A)(a b n:Int)(l:List A):List A:=(Vx g d a b n l).val
theorem PH (m:∀a,g a=a){a b n:Int}{l:List A}(h:swQ a b n l.length):j_ (Vx g d a b n l) (fun r=>r.Perm l):=by
 obtain rfl:g=fun a=>a:=funext m
 obtain⟨w,t,v,s,u⟩:=h;refine sQ (fun i r=>r.Perm l) (.refl l) au au (fun i r f o c=> ?_) (fun i r f o c=>af c);have e:=c.length_eq;refine az fun p j=> ?_;rw[wI au au]at j;refine aW au au (ai au (az fun q k=> ?_));rw[wI au au]at k;exact aW au au (ai au (aW au au (ai au (aW au rf (ai rf (lU ((swp au au).trans c)))))))
def WG (g:A->A)(d:A)(a m b:Int)(l:List A):Pg (List A):=
 .lt (dA .i64 (m - a)) fun(i:Int)=>
  .lt (dA .i64 (b - m)) fun(h:Int)=>
   .wh ((b - a).toNat+1) default
    (fun(c:Int×Int×List A)=>
     .lt (dA .i64 (m - c.fst)) fun(e:Int)=>
      .br (c.fst !=c.snd.fst)
       (.br (decide (c.snd.fst < c.fst))
        (.ob (swQ e m c.snd.fst c.snd.snd.length) (.ret (.inl (dA .i64 (c.fst - c.snd.fst),c.snd.fst,aDB g d e m c.snd.fst c.snd.snd))))
        (.lt (dA .i64 (dA .i64 (m+c.snd.fst) - c.fst)) fun(f:Int)=>
         .ob (swQ e f c.fst c.snd.snd.length) (.ret (.inl (c.fst,dA .i64 (c.snd.fst - c.fst),aDB g d e f c.fst c.snd.snd)))))
       (.ob (swQ e m c.fst c.snd.snd.length) (.ret (.inr (aDB g d e m c.fst c.snd.snd)))))
    (i,h,l)
def aLg (g:A->A)(d:A)(a m b:Int)(l:List A):List A:=(WG g d a m b l).val
theorem OM (D:∀a,g a=a){a m b:Int}{l:List A}(h:roQ a m b l.length):j_ (WG g d a m b l) (fun r=>r.Perm l):=by
 obtain⟨O,L,N,K,M⟩:=h;refine az fun I B=>az fun J z=> ?_;rw[wI au au]at B;rw[wI au au]at z;refine qo (fun s=>0 < s.1/\s.1<=m - a/\0 < s.2.1/\s.2.1<=b - m/\s.2.2.Perm l) (fun s=>(s.1+s.2.1).toNat) ⟨by omega,by omega,by grind,by grind, .refl l⟩ rf ?_;rintro⟨i,j,r⟩ ⟨o,t,q,p,c⟩;dsimp only at o t q p c⊢;have e:=c.length_eq;have k:∀{x y n:Int},swQ x y n r.length->(aDB g d x y n r).Perm l:=fun h=>(PH D h).2.trans c
 refine az fun f v=> ?_;rw[wI au au]at v;refine dM (fun G=>bG (fun H=> ?_) (fun E=>az fun C u=> ?_)) (fun F=> ?_)
 ·have w:swQ f m j r.length:=⟨by omega,by omega,by omega,by omega,by omega⟩;refine ai w (lU ⟨⟨?_,?_,q,p,k w⟩,?_⟩);all_goals (dsimp only;rw[wI au au];omega)
 ·rw[show dA .i64 (m+j)=m+j from wI au au,wI au au]at u;have w:swQ f C i r.length:=⟨by omega,by omega,by omega,by omega,by omega⟩;refine ai w (lU ⟨⟨o,t,?_,?_,k w⟩,?_⟩);all_goals (dsimp only;rw[wI au au];omega)
 ·have w:swQ f m i r.length:=⟨by omega,by omega,by omega,by omega,by omega⟩;exact ai w (xI (k w))
def Wl (g:A->A)(c:A->A->Int)(q:A->A->Prop)(d:A)(a b:Int)(l:List A):Pg (List A):=
 .lt (dA .i64 (a+1)) fun(k:Int)=>
  .cnt oZ k b
   (fun(j:Int) (i:List A)=>
    .wh ((b - a).toNat+1) default
     (fun(e:Int×List A)=>
      .br (decide (a < e.fst))
       (.ix e.fst e.snd.length
        (.ob (e.fst.toNat < e.snd.length)
         (.lt (dA .i64 (e.fst - 1)) fun(f:Int)=>
          .ix f e.snd.length
           (.ob (f.toNat < e.snd.length)
            (.ob (q (g (e.snd.getD e.fst.toNat d)) (g (e.snd.getD f.toNat d)))
             (.lt (c (g (e.snd.getD e.fst.toNat d)) (g (e.snd.getD f.toNat d))) fun(m:Int)=>
              .br (decide (m < 0))
               (.ix f e.snd.length
                (.ob (f.toNat < e.snd.length)
                 (.ix e.fst e.snd.length
                  (.ob (e.fst.toNat < e.snd.length)
                   (.ix e.fst e.snd.length
                    (.ob (e.fst.toNat < e.snd.length)
                     (.lt (e.snd.set e.fst.toNat (g (e.snd.getD f.toNat d))) fun(h:List A)=>
                      .ix f h.length (.ob (f.toNat < h.length) (.ret (.inl (f,h.set f.toNat (g (e.snd.getD e.fst.toNat d)))))))))))))
               (.ret (.inr (.inl e.snd)))))))))
       (.ret (.inr (.inl e.snd))))
     (j,i))
   (fun(j:Int) (i:List A)=> .ret i) l
def aGy (g:A->A)(c:A->A->Int)(q:A->A->Prop)(d:A)(a b:Int)(l:List A):List A:=(Wl g c q d a b l).val
theorem PZ (x:∀a,g a=a){a b:Int}{l:List A}(h:IQ q a b l):j_ (Wl g c q d a b l) (fun r=>r.Perm l):=by
 obtain rfl:g=fun a=>a:=funext x
 obtain⟨⟨H,p⟩,K,F,J⟩:=h;refine az fun D v=> ?_;rw[wI au au]at v;refine sQ (fun i r=>r.Perm l) (.refl l) au au (fun i r o y k=> ?_) (fun i r o y k=>af k);refine qo (fun s=>a<=s.1/\s.1<=i/\s.2.Perm l) (fun s=>(s.1 - a).toNat) ⟨by omega,MS _,k⟩ au ?_;rintro⟨j,r⟩ ⟨u,z,f⟩;dsimp only at u z f⊢;have e:=f.length_eq;have m:∀{n:Nat},n < r.length->r.getD n d∈l:=fun h=>f.mem_iff.1 (getD_mem h)
 refine bG (fun C=> ?_) (fun B=>xI f);refine aW au au (ai au (az fun I t=> ?_));rw[wI au au]at t;refine aW au au (ai au (ai (p _ (m au) _ (m au)) (az fun G _=>bG (fun _=> ?_) (fun _=>xI f))));refine aW au au (ai au (aW au au (ai au (aW au au (ai au (az fun E w=>aW au rf (ai rf (lU ?_))))))));rw[w];exact⟨⟨by omega,by omega,(swp au au).trans f⟩,by omega⟩
theorem aGv {R:Type}{n:Nat}{g:Int⊕R}{K:Int×Int->Pg ((Int×Int)⊕(Int⊕R))}{Q:R->Prop}{a b:Int}(e:a<=b)(h:(b - a).toNat < n)
  (k:∀i j:Int,a<=i->i < j->j<=b->j_ (K (i,j)) fun s=>s= .inl ((i+j) / 2+1,j)\/s= .inl (i,(i+j) / 2)):
  j_ (.wh n g (fun x=> .br (decide (x.fst < x.snd)) (K x) (.ret (.inr (.inl x.fst)))) (a,b)) (Sum.elim (fun y=>a<=y/\y<=b) Q):=by
 refine qo (fun x=>a<=x.1/\x.1<=x.2/\x.2<=b) (fun x=>(x.2 - x.1).toNat) ⟨MS _,e,MS _⟩ h ?_;rintro⟨i,j⟩ ⟨d,m,f⟩;dsimp only at d m f⊢;refine bG (fun c=> ?_) (fun c=>xI (show a<=i/\i<=b from⟨d,by omega⟩));obtain⟨l,o⟩:=k i j d c f;refine⟨l,?_⟩
 grind
def aaJ (g:A->A)(c:A->A->Int)(q:A->A->Prop)(d:A)(G:Int->Int->Int->List A->List A)(M:Int->Int->Int->List A->Prop)(a m b:Int)(l:List A):Pg (List A):=
 .cut
  (fun(p:List A)=>
   .cut
    (fun(k:List A)=>
     .ob ((0:Int)<=1)
      (.lt (dA .i64 (dA .i64 (Ar .u64 (dA .u64 (dA .i64 (a+b))) 1)+m)) fun(z:Int)=>
       .lt (dA .i64 (Ar .u64 (dA .u64 (dA .i64 (a+b))) 1)) fun(i:Int)=>
        .cut
         (fun(L:Int×Int)=>
          .cut
           (fun(v:Int)=>
            .cut
             (fun(C:List A)=>
              .cut
               (fun(x:List A)=>
                .lt (dA .i64 (z - v)) fun(B:Int)=>
                 .br (decide (i < B)) (.br (decide (B < b)) (.ob (M i B b x) (.ret (G i B b x))) (.ret x)) (.ret x))
               (.br (decide (a < v)) (.br (decide (v < i)) (.ob (M a v i C) (.ret (.inl (G a v i C)))) (.ret (.inl C)))
                (.ret (.inl C))))
             (.br (decide (v < m))
              (.lt (dA .i64 (z - v)) fun(D:Int)=>
               .br (decide (m < D)) (.ob (roQ v m D k.length) (.ret (.inl (aLg g d v m D k)))) (.ret (.inl k)))
              (.ret (.inl k))))
           (.wh ((b - a).toNat+1) default
            (fun(h:Int×Int)=>
             .br (decide (h.fst < h.snd))
              (.ob ((0:Int)<=1)
               (.lt
                (dA .i64
                 (dA .i64 (z - 1) - dA .i64 (Ar .u64 (dA .u64 (dA .i64 (h.fst+h.snd))) 1)))
                fun(y:Int)=>
                .ix y k.length
                 (.ob (y.toNat < k.length)
                  (.lt (dA .i64 (Ar .u64 (dA .u64 (dA .i64 (h.fst+h.snd))) 1)) fun(u:Int)=>
                   .ix u k.length
                    (.ob (u.toNat < k.length)
                     (.ob (q (g (k.getD y.toNat d)) (g (k.getD u.toNat d)))
                      (.lt (c (g (k.getD y.toNat d)) (g (k.getD u.toNat d))) fun(F:Int)=>
                       .br (!decide (F < 0)) (.ret (.inl (dA .i64 (u+1),h.snd)))
                        (.ret (.inl (h.fst,u))))))))))
              (.ret (.inr (.inl h.fst))))
            L))
         (.br (decide (i < m)) (.ret (.inl (dA .i64 (z - b),i))) (.ret (.inl (a,m))))))
    (.lt (dA .i64 (b - m)) fun(I:Int)=>
     .br (I==1)
      (.cut
       (fun(H:Int)=>
        .wh ((b - a).toNat+1) default
         (fun(e:Int×List A)=>
          .br (decide (H < e.fst))
           (.lt (dA .i64 (e.fst - 1)) fun(o:Int)=>
            .ix o e.snd.length
             (.ob (o.toNat < e.snd.length)
              (.ix e.fst e.snd.length
               (.ob (e.fst.toNat < e.snd.length)
                (.ix e.fst e.snd.length
                 (.ob (e.fst.toNat < e.snd.length)
                  (.lt (e.snd.set e.fst.toNat (g (e.snd.getD o.toNat d))) fun(E:List A)=>
                   .ix o E.length (.ob (o.toNat < E.length) (.ret (.inl (o,E.set o.toNat (g (e.snd.getD e.fst.toNat d)))))))))))))
           (.ret (.inr (.inr e.snd))))
         (m,p))
       (.wh ((b - a).toNat+1) default
        (fun(n:Int×Int)=>
         .br (decide (n.fst < n.snd))
          (.ob ((0:Int)<=1)
           (.ix m p.length
            (.ob (m.toNat < p.length)
             (.lt (dA .i64 (Ar .u64 (dA .u64 (dA .i64 (n.fst+n.snd))) 1)) fun(s:Int)=>
              .ix s p.length
               (.ob (s.toNat < p.length)
                (.ob (q (g (p.getD m.toNat d)) (g (p.getD s.toNat d)))
                 (.lt (c (g (p.getD m.toNat d)) (g (p.getD s.toNat d))) fun(N:Int)=>
                  .br (!decide (N < 0)) (.ret (.inl (dA .i64 (s+1),n.snd))) (.ret (.inl (n.fst,s))))))))))
          (.ret (.inr (.inl n.fst))))
        (a,m)))
      (.ret (.inl p))))
  (.lt (dA .i64 (m - a)) fun(K:Int)=>
   .br (K==1)
    (.cut
     (fun(P:Int)=>
      .lt (dA .i64 (P - 1)) fun(J:Int)=>
       .cnt oZ a J
        (fun(r:Int) (f:List A)=>
         .lt (dA .i64 (r+1)) fun(j:Int)=>
          .ix j f.length
           (.ob (j.toNat < f.length)
            (.ix r f.length
             (.ob (r.toNat < f.length)
              (.ix r f.length
               (.ob (r.toNat < f.length)
                (.ix j (f.set r.toNat (g (f.getD j.toNat d))).length
                 (.ob (j.toNat < (f.set r.toNat (g (f.getD j.toNat d))).length)
                  (.ret (.inl ((f.set r.toNat (g (f.getD j.toNat d))).set j.toNat (g (f.getD r.toNat d)))))))))))))
        (fun(r:Int) (f:List A)=> .ret (.inr f)) l)
     (.wh ((b - a).toNat+1) default
      (fun(w:Int×Int)=>
       .br (decide (w.fst < w.snd))
        (.ob ((0:Int)<=1)
         (.lt (dA .i64 (Ar .u64 (dA .u64 (dA .i64 (w.fst+w.snd))) 1)) fun(t:Int)=>
          .ix t l.length
           (.ob (t.toNat < l.length)
            (.ix a l.length
             (.ob (a.toNat < l.length)
              (.ob (q (g (l.getD t.toNat d)) (g (l.getD a.toNat d)))
               (.lt (c (g (l.getD t.toNat d)) (g (l.getD a.toNat d))) fun(O:Int)=>
                .br (decide (O < 0)) (.ret (.inl (dA .i64 (t+1),w.snd))) (.ret (.inl (w.fst,t))))))))))
        (.ret (.inr (.inl w.fst))))
      (m,b)))
    (.ret (.inl l)))
theorem AU (R:∀a,g a=a){SB:Int->Int->Int->List A->List A}{ZQ:Int->Int->Int->List A->Prop}{C:Nat}(P:∀a m b l,ZJ q C a m b l->ZQ a m b l)(O:∀a m b l,ZJ q C a m b l->(SB a m b l).Perm l){a m b:Int}{l:List A}(h:ZJ q (C+1) a m b l):j_ (aaJ g c q d SB ZQ a m b l) (fun r=>r.Perm l):=by
 obtain⟨J,h1,h2,h3,h4,h5⟩:=h;obtain⟨N,D⟩:=J;have Z:∀{x y z:Int},roQ x y z l.length->(aLg g d x y z l).Perm l:=fun h=>(OM R h).2
 obtain rfl:g=fun a=>a:=funext R
 have t:∀{n:Nat},n < l.length->l.getD n d∈l:=fun h=>getD_mem h
 refine bP (fun y=>y=l/\m - a≠1) ?_ ?_
 ·refine az fun v e=> ?_;rw[wI au au]at e;refine dK (fun p=> ?_) (fun p=>lU ⟨rfl,by omega⟩);refine bP _ (aGv au au fun i j E B Q=>ai au (az fun w f=> ?_)) ?_
  ·dsimp only at f⊢;rw[half au au]at f;refine aW au au (ai au (aW au au (ai au (ai (D _ (t au) _ (t au)) (az fun _ _=>dJ (fun _=>af (.inl ?_)) (fun _=>af (.inr ?_)))))))
   ·rw[wI au au,f]
   ·rw[f]
  ·rintro y ⟨E,B⟩;refine az fun w f=> ?_;rw[wI au au]at f;refine sQ (fun i r=>r.Perm l) (.refl l) au au (fun i r h0 hi I=> ?_) (fun i r _ _ I=>xI I);have e:=I.length_eq;refine az fun u o=> ?_;rw[wI au au]at o;exact aW au au (ai au (aW au au (ai au (aW au au (ai au (aW au rf (ai rf (lU ((swp au au).trans I)))))))))
 rintro y ⟨rfl,n1⟩;refine bP (fun z=>z=y/\b - m≠1) ?_ ?_
 ·refine az fun v e=> ?_;rw[wI au au]at e;refine dK (fun p=> ?_) (fun p=>lU ⟨rfl,by omega⟩);refine bP _ (aGv au au fun i j E B Q=>ai au (aW au au (ai au (az fun w f=> ?_)))) ?_
  ·dsimp only at f⊢;rw[half au au]at f;refine aW au au (ai au (ai (D _ (t au) _ (t au)) (az fun _ _=>dJ (fun _=>af (.inl ?_)) (fun _=>af (.inr ?_)))))
   ·rw[wI au au,f]
   ·rw[f]
  ·rintro S ⟨E,B⟩;refine qo (fun s=>S<=s.1/\s.1<=m/\s.2.Perm y) (fun s=>(s.1 - S).toNat) ⟨B,MS _, .refl y⟩ au ?_;rintro⟨j,r⟩ ⟨W,i2,H⟩;dsimp only at W i2 H⊢;have e:=H.length_eq;refine bG (fun hlt=>az fun u o=> ?_) (fun _=>xI (show(Sum.elim (fun z=>z=y/\b - m≠1) (fun r:List A=>r.Perm y)) (.inr r)from H));rw[wI au au]at o;refine aW au au (ai au (aW au au (ai au (aW au au (ai au (az fun v9 X=>aW au rf (ai rf (lU ?_))))))));rw[X];exact⟨⟨by omega,by omega,(swp au au).trans H⟩,by omega⟩
 rintro L ⟨rfl,n2⟩;refine ai au (az fun v e=>az fun w f=> ?_);rw[half au au]at f;rw[half au au,wI au au]at e;refine bP (fun z=>(z.1=v - b/\z.2=w/\w < m)\/(z.1=a/\z.2=m/\¬w < m)) ?_ ?_
 ·refine bG (fun h=>lU (.inl ⟨?_,rfl,h⟩)) (fun h=>lU (.inr ⟨rfl,rfl,h⟩));exact wI au au
 rintro⟨i0,j0⟩ Y;dsimp only at Y;refine bP _ (aGv au au fun i j E B Q=>ai au (az fun u o=> ?_)) ?_
 ·dsimp only at o⊢;rw[half au au,show dA .i64 (v - 1)=v - 1 from wI au au,wI au au]at o;refine aW au au (ai au (az fun x M=> ?_));rw[half au au]at M;refine aW au au (ai au (ai (D _ (t au) _ (t au)) (az fun _ _=>dJ (fun _=>af (.inl ?_)) (fun _=>af (.inr ?_)))))
  ·rw[wI au au,M]
  ·rw[M]
 rintro s ⟨E,B⟩;refine bP (fun z=>z.Perm L) ?_ fun V G=> ?_
 ·refine bG (fun J=>az fun u o=> ?_) (fun _=>lU (.refl _));rw[wI au au]at o;refine bG (fun T=> ?_) (fun _=>lU (.refl _));have k:roQ s m u L.length:=⟨by omega,J,T,by omega,N⟩;exact ai k (lU (Z k))
 have e1:=G.length_eq;refine bP (fun z=>z.Perm L) ?_ fun U F=> ?_
 ·refine bG (fun K=>bG (fun p=> ?_) (fun _=>lU G)) (fun _=>lU G);have k:ZJ q C a s w V:=⟨xW ⟨N,D⟩ G,h1,K,p,by omega,by omega⟩;exact ai (P _ _ _ _ k) (lU ((O _ _ _ _ k).trans G))
 have e2:=F.length_eq;refine az fun u o=> ?_;rw[wI au au]at o;refine bG (fun K=>bG (fun p=> ?_) (fun _=>af F)) (fun _=>af F);have k:ZJ q C w u b U:=⟨xW ⟨N,D⟩ F,by omega,K,p,by omega,by omega⟩;exact ai (P _ _ _ _ k) (af ((O _ _ _ _ k).trans F))
def aap (g:A->A)(c:A->A->Int)(q:A->A->Prop)(d:A)(o:Int->Int->Int->List A->List A)(n:Int)(l:List A):Pg (List A):=
 .cut
  (fun(i:Int×List A)=>
   .ob (IQ q i.fst n i.snd)
    (.wh (n.toNat+1) default
     (fun(b:Int×List A)=>
      .br (decide (b.fst < n))
       (.cut
        (fun(f:Int×List A)=>
         .lt (dA .i64 (f.fst+b.fst)) fun(h:Int)=>
          .lt (dA .i64 (b.fst*2)) fun(k:Int)=>
           .br (decide (h < n))
            (.ob (ZJ q ((n - f.fst).toNat+1) f.fst h n f.snd) (.ret (.inl (k,o f.fst h n f.snd))))
            (.ret (.inl (k,f.snd))))
        (.lt (dA .i64 (2*b.fst)) fun(j:Int)=>
         .wh (n.toNat+1) default
          (fun(a:Int×Int×List A)=>
           .br (decide (a.snd.fst<=n))
            (.lt (dA .i64 (a.fst+b.fst)) fun(m:Int)=>
             .ob (ZJ q ((a.snd.fst - a.fst).toNat+1) a.fst m a.snd.fst a.snd.snd)
              (.ret (.inl (a.snd.fst,dA .i64 (a.snd.fst+j),o a.fst m a.snd.fst a.snd.snd))))
            (.ret (.inr (.inl (a.fst,a.snd.snd)))))
          (0,j,b.snd)))
       (.ret (.inr b.snd)))
     (20,aGy g c q d i.fst n i.snd)))
  (.wh (n.toNat+1) default
   (fun(e:Int×Int×List A)=>
    .br (decide (e.snd.fst<=n))
     (.ob (IQ q e.fst e.snd.fst e.snd.snd)
      (.ret (.inl (e.snd.fst,dA .i64 (e.snd.fst+20),aGy g c q d e.fst e.snd.fst e.snd.snd))))
     (.ret (.inr (.inl (e.fst,e.snd.snd)))))
   (0,20,l))
theorem AC (H:∀a,g a=a){SB:Int->Int->Int->List A->List A}(D:∀a m b l,ZJ q ((b - a).toNat+1) a m b l->(SB a m b l).Perm l){n:Int}{l:List A}(o:stQ q n l):j_ (aap g c q d SB n l) (fun r=>r.Perm l):=by
 obtain⟨o,rfl⟩:=o;have I:=o.1;have t:∀{x y:Int} {r:List A},IQ q x y r->(aGy g c q d x y r).Perm r:=fun h=>(PZ H h).2
 refine bP (fun y=>0<=y.1/\y.1<=(l.length:Int)/\y.2.Perm l) ?_ ?_
 ·refine qo (fun s=>0<=s.1/\s.1<=(l.length:Int)/\s.2.1=s.1+20/\s.2.2.Perm l) (fun s=>((l.length:Int) - s.1).toNat) ⟨MS _,by omega,rfl, .refl l⟩ au ?_;rintro⟨x,y,r⟩ ⟨i,j,C,f⟩;dsimp only at i j C f⊢;have e:=f.length_eq;refine bG (fun h=> ?_) (fun h=>xI (show 0<=x/\x<=(l.length:Int)/\r.Perm l from⟨i,j,f⟩));have w:IQ q x y r:=⟨xW o f,i,by omega,by omega⟩;exact ai w (lU ⟨⟨by omega,by omega,wI au au,(t w).trans f⟩,by omega⟩)
 rintro⟨x,r⟩ ⟨i,j,f⟩;dsimp only at i j f⊢;have e:=f.length_eq;have w:IQ q x l.length r:=⟨xW o f,i,j,by omega⟩;refine ai w ?_;refine qo (fun s=>0 < s.1/\s.1<=2199023255552/\s.2.Perm l) (fun s=>((l.length:Int) - s.1).toNat) ⟨by omega,by omega,(t w).trans f⟩ au ?_;rintro⟨k,r⟩ ⟨b1,G,p⟩;dsimp only at b1 G p⊢;refine bG (fun h=> ?_) (fun _=>xI p);refine bP (fun y=>0<=y.1/\y.1<=(l.length:Int)/\y.2.Perm l) ?_ ?_
 ·refine az fun v B=> ?_;rw[wI au au]at B;refine qo (fun s=>0<=s.1/\s.1<=(l.length:Int)/\s.2.1=s.1+v/\s.2.2.Perm l) (fun s=>((l.length:Int) - s.1).toNat) ⟨MS _,by omega,by grind,p⟩ au ?_;rintro⟨x,y,r⟩ ⟨i,j,C,f⟩;dsimp only at i j C f⊢;have e:=f.length_eq;refine bG (fun h=>az fun u z=> ?_) (fun _=>xI (show 0<=x/\x<=(l.length:Int)/\r.Perm l from⟨i,j,f⟩));rw[wI au au]at z;have w:ZJ q ((y - x).toNat+1) x u y r:=⟨xW o f,i,by omega,by omega,by omega,by omega⟩;exact ai w (lU ⟨⟨by omega,by omega,wI au au,(D _ _ _ _ w).trans f⟩,by omega⟩)
 rintro⟨x,r⟩ ⟨i,j,f⟩;dsimp only at i j f⊢;have e:=f.length_eq;refine az fun u z=>az fun v B=> ?_;rw[wI au au]at z;rw[wI au au]at B;have E:∀{r:List A},r.Perm l->(0 < (v,r).1/\(v,r).1<=2199023255552/\(v,r).2.Perm l)/\((l.length:Int) - (v,r).1).toNat < ((l.length:Int) - k).toNat:=fun p=>⟨⟨by omega,by omega,p⟩,by omega⟩
 refine bG (fun F=> ?_) (fun _=>lU (E f));have w:ZJ q (((l.length:Int) - x).toNat+1) x u l.length r:=⟨xW o f,i,by omega,F,by omega,by omega⟩;exact ai w (lU (E ((D _ _ _ _ w).trans f)))
end
end Go.Vc
