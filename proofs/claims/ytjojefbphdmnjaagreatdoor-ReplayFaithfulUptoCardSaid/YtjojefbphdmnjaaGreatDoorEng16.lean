/- Own engine: Ver. -/
import Derived.Test.YtjojefbphdmnjaaGreatDoorEng15
set_option linter.unusedVariables false
set_option linter.unusedSimpArgs false
namespace Go.Vc
section
variable {A:Type}
theorem jM {X R:Type}{a:X->Prop}{Q:R->Prop}{z:X}(h:a z):IsP (.ret (.inl z)) (Sum.elim a Q):=⟨is_ret,h⟩
theorem tN {X R:Type}{a:X->Prop}{Q:R->Prop}{z:R}(h:Q z):IsP (.ret (.inr z)) (Sum.elim a Q):=⟨is_ret,h⟩
def p_ (q:A->A->Prop)(l:List A):Prop:=l.length<=1099511627776/\∀x∈l,∀y∈l,q x y
def swQ (a b n:Int)(k:Nat):Prop:=0<=a/\0<=n/\a+n<=b/\b+n<=(k:Int)/\k<=1099511627776
def roQ (a m b:Int)(k:Nat):Prop:=0<=a/\a < m/\m < b/\b<=(k:Int)/\k<=1099511627776
def inQ (q:A->A->Prop)(a b:Int)(l:List A):Prop:=p_ q l/\0<=a/\a<=b/\b<=(l.length:Int)
def UH (q:A->A->Prop)(c:Nat)(a m b:Int)(l:List A):Prop:=p_ q l/\0<=a/\a < m/\m < b/\b<=(l.length:Int)/\(b - a).toNat < c
def stQ (q:A->A->Prop)(n:Int)(l:List A):Prop:=p_ q l/\n=(l.length:Int)
variable {c:A->A->Int}{q:A->A->Prop}{d:A}{g:A->A}
theorem tY {l r:List A}(h:p_ q l)(p:r.Perm l):p_ q r:=⟨by rw[p.length_eq];exact h.1,fun x b y a=>h.2 x (p.mem_iff.1 b) y (p.mem_iff.1 a)⟩
theorem DT {a m b:Int}{l:List A}{B:Prop}(h:UH q 0 a m b l):B:=absurd h.2.2.2.2.2 (Nat.not_lt_zero _)
theorem wI {v:Int}(a: -4398046511104<=v)(h:v<=4398046511104):wrp .i64 v=v:=wrp_in (k:= .i64) oC
theorem half {x:Int}(a:0<=x)(h:x<=4398046511104):wrp .i64 (qM .u64 (wrp .u64 (wrp .i64 x)) 1)=x / 2:=by
 obtain⟨x,rfl⟩:=Int.eq_ofNat_of_zero_le a;have b:wrp .i64 (x:Int)=x:=wI ah ah;rw[b,Aw (k:= .u64) rfl (show x < _ from Nat.lt_of_le_of_lt (show x<=4398046511104 by omega) h_),show qM .u64 (x:Int) 1=((x / 2:Nat):Int)from abq (k:= .u64) x 1 h_,wI ah ah];omega
theorem NM {X:List A}{x:A}(h:x∈X):∃i,i < X.length/\X.getD i d=x:=by
 obtain⟨i,a,rfl⟩:=Qc1 h;exact⟨i,a,by grind⟩
theorem swp {r:List A}{i j:Nat}(b:i < r.length)(a:j < r.length):((r.set i (r.getD j d)).set j (r.getD i d)).Perm r:=by
 have e:∀{k},(h:k < r.length)->r.getD k d=r[k]:=fun h=>by grind
 rw[e b,e a];exact List.set_set_perm b a
def O3 (g:A->A)(d:A)(a b n:Int)(l:List A):Pg (List A):=
 .cnt lF 0 n
  (fun(h:Int) (c:List A)=>
   .lt (wrp .i64 (b+h)) fun(e:Int)=>
    .ix e c.length
     (.ob (e.toNat < c.length)
      (.lt (wrp .i64 (a+h)) fun(f:Int)=>
       .ix f c.length
        (.ob (f.toNat < c.length)
         (.ix f c.length
          (.ob (f.toNat < c.length)
           (.ix e (c.set f.toNat (g (c.getD e.toNat d))).length
            (.ob (e.toNat < (c.set f.toNat (g (c.getD e.toNat d))).length)
             (.ret (.inl ((c.set f.toNat (g (c.getD e.toNat d))).set e.toNat (g (c.getD f.toNat d)))))))))))))
  (fun(h:Int) (c:List A)=> .ret c) l
def awC (g:A->A)(d:A)(a b n:Int)(l:List A):List A:=(O3 g d a b n l).val
theorem JR (m:∀a,g a=a){a b n:Int}{l:List A}(h:swQ a b n l.length):IsP (O3 g d a b n l) (fun r=>r.Perm l):=by
 obtain rfl:g=fun a=>a:=funext m
 obtain⟨w,q,s,p,v⟩:=h;refine isP_cnt (fun i r=>r.Perm l) (.refl l) ah ah (fun i r k f c=> ?_) (fun i r k f c=>isP_ret c);have e:=c.length_eq;refine isP_lt fun t j=> ?_;rw[wI ah ah]at j;refine isP_ix ah ah (isP_ob ah (isP_lt fun u o=> ?_));rw[wI ah ah]at o;exact isP_ix ah ah (isP_ob ah (isP_ix ah ah (isP_ob ah (isP_ix ah qP (isP_ob qP (jM ((swp ah ah).trans c)))))))
def PO (g:A->A)(d:A)(a m b:Int)(l:List A):Pg (List A):=
 .lt (wrp .i64 (m - a)) fun(i:Int)=>
  .lt (wrp .i64 (b - m)) fun(h:Int)=>
   .wh ((b - a).toNat+1) default
    (fun(c:Int×Int×List A)=>
     .lt (wrp .i64 (m - c.fst)) fun(e:Int)=>
      .br (c.fst !=c.snd.fst)
       (.br (decide (c.snd.fst < c.fst))
        (.ob (swQ e m c.snd.fst c.snd.snd.length) (.ret (.inl (wrp .i64 (c.fst - c.snd.fst),c.snd.fst,awC g d e m c.snd.fst c.snd.snd))))
        (.lt (wrp .i64 (wrp .i64 (m+c.snd.fst) - c.fst)) fun(f:Int)=>
         .ob (swQ e f c.fst c.snd.snd.length) (.ret (.inl (c.fst,wrp .i64 (c.snd.fst - c.fst),awC g d e f c.fst c.snd.snd)))))
       (.ob (swQ e m c.fst c.snd.snd.length) (.ret (.inr (awC g d e m c.fst c.snd.snd)))))
    (i,h,l)
def aGq (g:A->A)(d:A)(a m b:Int)(l:List A):List A:=(PO g d a m b l).val
theorem Jy (C:∀a,g a=a){a m b:Int}{l:List A}(h:roQ a m b l.length):IsP (PO g d a m b l) (fun r=>r.Perm l):=by
 obtain⟨O,K,L,I,N⟩:=h;refine isP_lt fun M D=>isP_lt fun J o=> ?_;rw[wI ah ah]at D;rw[wI ah ah]at o;refine isP_wh (fun s=>0 < s.1/\s.1<=m - a/\0 < s.2.1/\s.2.1<=b - m/\s.2.2.Perm l) (fun s=>(s.1+s.2.1).toNat) ⟨by omega,by omega,by grind,by grind, .refl l⟩ qP ?_;rintro⟨i,j,r⟩ ⟨q,t,k,u,c⟩;dsimp only at q t k u c⊢;have e:=c.length_eq;have B:∀{x y n:Int},swQ x y n r.length->(awC g d x y n r).Perm l:=fun h=>(JR C h).2.trans c
 refine isP_lt fun f z=> ?_;rw[wI ah ah]at z;refine isP_bne (fun G=>isP_brd (fun H=> ?_) (fun F=>isP_lt fun v p=> ?_)) (fun E=> ?_)
 ·have w:swQ f m j r.length:=⟨by omega,by omega,by omega,by omega,by omega⟩
  grind [jM,isP_ob,wI]
 ·rw[show wrp .i64 (m+j)=m+j from wI ah ah,wI ah ah]at p;have w:swQ f v i r.length:=⟨by omega,by omega,by omega,by omega,by omega⟩
  grind [jM,isP_ob,wI]
 ·have w:swQ f m i r.length:=⟨by omega,by omega,by omega,by omega,by omega⟩;exact isP_ob w (tN (B w))
def Rn (g:A->A)(c:A->A->Int)(q:A->A->Prop)(d:A)(a b:Int)(l:List A):Pg (List A):=
 .lt (wrp .i64 (a+1)) fun(m:Int)=>
  .cnt lF m b
   (fun(j:Int) (h:List A)=>
    .wh ((b - a).toNat+1) default
     (fun(e:Int×List A)=>
      .br (decide (a < e.fst))
       (.ix e.fst e.snd.length
        (.ob (e.fst.toNat < e.snd.length)
         (.lt (wrp .i64 (e.fst - 1)) fun(f:Int)=>
          .ix f e.snd.length
           (.ob (f.toNat < e.snd.length)
            (.ob (q (g (e.snd.getD e.fst.toNat d)) (g (e.snd.getD f.toNat d)))
             (.lt (c (g (e.snd.getD e.fst.toNat d)) (g (e.snd.getD f.toNat d))) fun(k:Int)=>
              .br (decide (k < 0))
               (.ix f e.snd.length
                (.ob (f.toNat < e.snd.length)
                 (.ix e.fst e.snd.length
                  (.ob (e.fst.toNat < e.snd.length)
                   (.ix e.fst e.snd.length
                    (.ob (e.fst.toNat < e.snd.length)
                     (.lt (e.snd.set e.fst.toNat (g (e.snd.getD f.toNat d))) fun(i:List A)=>
                      .ix f i.length (.ob (f.toNat < i.length) (.ret (.inl (f,i.set f.toNat (g (e.snd.getD e.fst.toNat d)))))))))))))
               (.ret (.inr (.inl e.snd)))))))))
       (.ret (.inr (.inl e.snd))))
     (j,h))
   (fun(j:Int) (h:List A)=> .ret h) l
def aEA (g:A->A)(c:A->A->Int)(q:A->A->Prop)(d:A)(a b:Int)(l:List A):List A:=(Rn g c q d a b l).val
theorem Jo (z:∀a,g a=a){a b:Int}{l:List A}(h:inQ q a b l):IsP (Rn g c q d a b l) (fun r=>r.Perm l):=by
 obtain rfl:g=fun a=>a:=funext z
 obtain⟨⟨D,p⟩,H,E,G⟩:=h;refine isP_lt fun K x=> ?_;rw[wI ah ah]at x;refine isP_cnt (fun i r=>r.Perm l) (.refl l) ah ah (fun i r y o k=> ?_) (fun i r y o k=>isP_ret k);refine isP_wh (fun s=>a<=s.1/\s.1<=i/\s.2.Perm l) (fun s=>(s.1 - a).toNat) ⟨by omega,AA _,k⟩ ah ?_;rintro⟨j,r⟩ ⟨v,w,f⟩;dsimp only at v w f⊢;have e:=f.length_eq;have m:∀{n:Nat},n < r.length->r.getD n d∈l:=fun h=>f.mem_iff.1 (getD_mem h)
 refine isP_brd (fun C=> ?_) (fun B=>tN f);refine isP_ix ah ah (isP_ob ah (isP_lt fun I u=> ?_));rw[wI ah ah]at u;refine isP_ix ah ah (isP_ob ah (isP_ob (p _ (m ah) _ (m ah)) (isP_lt fun F _=>isP_brd (fun _=> ?_) (fun _=>tN f))));refine isP_ix ah ah (isP_ob ah (isP_ix ah ah (isP_ob ah (isP_ix ah ah (isP_ob ah (isP_lt fun J t=>isP_ix ah qP (isP_ob qP (jM ?_))))))));rw[t];exact⟨⟨by omega,by omega,(swp ah ah).trans f⟩,by omega⟩
theorem aB5 {R:Type}{n:Nat}{h:Int⊕R}{K:Int×Int->Pg ((Int×Int)⊕(Int⊕R))}{Q:R->Prop}{b a:Int}(f:b<=a)(k:(a - b).toNat < n)
  (m:∀i j:Int,b<=i->i < j->j<=a->IsP (K (i,j)) fun s=>s= .inl ((i+j) / 2+1,j)\/s= .inl (i,(i+j) / 2)):
  IsP (.wh n h (fun x=> .br (decide (x.fst < x.snd)) (K x) (.ret (.inr (.inl x.fst)))) (b,a)) (Sum.elim (fun y=>b<=y/\y<=a) Q):=by
 refine isP_wh (fun x=>b<=x.1/\x.1<=x.2/\x.2<=a) (fun x=>(x.2 - x.1).toNat) ⟨AA _,f,AA _⟩ k ?_;rintro⟨i,j⟩ ⟨d,l,e⟩;dsimp only at d l e⊢;refine isP_brd (fun c=> ?_) (fun c=>tN (show b<=i/\i<=a from⟨d,by omega⟩));obtain⟨g,o⟩:=m i j d c e;refine⟨g,?_⟩
 grind
def Vh (g:A->A)(c:A->A->Int)(q:A->A->Prop)(d:A)(J:Int->Int->Int->List A->List A)(I:Int->Int->Int->List A->Prop)(a m b:Int)(l:List A):Pg (List A):=
 .cut
  (fun(p:List A)=>
   .cut
    (fun(k:List A)=>
     .ob ((0:Int)<=1)
      (.lt (wrp .i64 (wrp .i64 (qM .u64 (wrp .u64 (wrp .i64 (a+b))) 1)+m)) fun(y:Int)=>
       .lt (wrp .i64 (qM .u64 (wrp .u64 (wrp .i64 (a+b))) 1)) fun(j:Int)=>
        .cut
         (fun(L:Int×Int)=>
          .cut
           (fun(v:Int)=>
            .cut
             (fun(C:List A)=>
              .cut
               (fun(x:List A)=>
                .lt (wrp .i64 (y - v)) fun(z:Int)=>
                 .br (decide (j < z)) (.br (decide (z < b)) (.ob (I j z b x) (.ret (J j z b x))) (.ret x)) (.ret x))
               (.br (decide (a < v)) (.br (decide (v < j)) (.ob (I a v j C) (.ret (.inl (J a v j C)))) (.ret (.inl C)))
                (.ret (.inl C))))
             (.br (decide (v < m))
              (.lt (wrp .i64 (y - v)) fun(E:Int)=>
               .br (decide (m < E)) (.ob (roQ v m E k.length) (.ret (.inl (aGq g d v m E k)))) (.ret (.inl k)))
              (.ret (.inl k))))
           (.wh ((b - a).toNat+1) default
            (fun(h:Int×Int)=>
             .br (decide (h.fst < h.snd))
              (.ob ((0:Int)<=1)
               (.lt
                (wrp .i64
                 (wrp .i64 (y - 1) - wrp .i64 (qM .u64 (wrp .u64 (wrp .i64 (h.fst+h.snd))) 1)))
                fun(B:Int)=>
                .ix B k.length
                 (.ob (B.toNat < k.length)
                  (.lt (wrp .i64 (qM .u64 (wrp .u64 (wrp .i64 (h.fst+h.snd))) 1)) fun(t:Int)=>
                   .ix t k.length
                    (.ob (t.toNat < k.length)
                     (.ob (q (g (k.getD B.toNat d)) (g (k.getD t.toNat d)))
                      (.lt (c (g (k.getD B.toNat d)) (g (k.getD t.toNat d))) fun(F:Int)=>
                       .br (!decide (F < 0)) (.ret (.inl (wrp .i64 (t+1),h.snd)))
                        (.ret (.inl (h.fst,t))))))))))
              (.ret (.inr (.inl h.fst))))
            L))
         (.br (decide (j < m)) (.ret (.inl (wrp .i64 (y - b),j))) (.ret (.inl (a,m))))))
    (.lt (wrp .i64 (b - m)) fun(K:Int)=>
     .br (K==1)
      (.cut
       (fun(P:Int)=>
        .wh ((b - a).toNat+1) default
         (fun(e:Int×List A)=>
          .br (decide (P < e.fst))
           (.lt (wrp .i64 (e.fst - 1)) fun(o:Int)=>
            .ix o e.snd.length
             (.ob (o.toNat < e.snd.length)
              (.ix e.fst e.snd.length
               (.ob (e.fst.toNat < e.snd.length)
                (.ix e.fst e.snd.length
                 (.ob (e.fst.toNat < e.snd.length)
                  (.lt (e.snd.set e.fst.toNat (g (e.snd.getD o.toNat d))) fun(D:List A)=>
                   .ix o D.length (.ob (o.toNat < D.length) (.ret (.inl (o,D.set o.toNat (g (e.snd.getD e.fst.toNat d)))))))))))))
           (.ret (.inr (.inr e.snd))))
         (m,p))
       (.wh ((b - a).toNat+1) default
        (fun(n:Int×Int)=>
         .br (decide (n.fst < n.snd))
          (.ob ((0:Int)<=1)
           (.ix m p.length
            (.ob (m.toNat < p.length)
             (.lt (wrp .i64 (qM .u64 (wrp .u64 (wrp .i64 (n.fst+n.snd))) 1)) fun(s:Int)=>
              .ix s p.length
               (.ob (s.toNat < p.length)
                (.ob (q (g (p.getD m.toNat d)) (g (p.getD s.toNat d)))
                 (.lt (c (g (p.getD m.toNat d)) (g (p.getD s.toNat d))) fun(N:Int)=>
                  .br (!decide (N < 0)) (.ret (.inl (wrp .i64 (s+1),n.snd))) (.ret (.inl (n.fst,s))))))))))
          (.ret (.inr (.inl n.fst))))
        (a,m)))
      (.ret (.inl p))))
  (.lt (wrp .i64 (m - a)) fun(M:Int)=>
   .br (M==1)
    (.cut
     (fun(O:Int)=>
      .lt (wrp .i64 (O - 1)) fun(H:Int)=>
       .cnt lF a H
        (fun(r:Int) (f:List A)=>
         .lt (wrp .i64 (r+1)) fun(i:Int)=>
          .ix i f.length
           (.ob (i.toNat < f.length)
            (.ix r f.length
             (.ob (r.toNat < f.length)
              (.ix r f.length
               (.ob (r.toNat < f.length)
                (.ix i (f.set r.toNat (g (f.getD i.toNat d))).length
                 (.ob (i.toNat < (f.set r.toNat (g (f.getD i.toNat d))).length)
                  (.ret (.inl ((f.set r.toNat (g (f.getD i.toNat d))).set i.toNat (g (f.getD r.toNat d)))))))))))))
        (fun(r:Int) (f:List A)=> .ret (.inr f)) l)
     (.wh ((b - a).toNat+1) default
      (fun(w:Int×Int)=>
       .br (decide (w.fst < w.snd))
        (.ob ((0:Int)<=1)
         (.lt (wrp .i64 (qM .u64 (wrp .u64 (wrp .i64 (w.fst+w.snd))) 1)) fun(u:Int)=>
          .ix u l.length
           (.ob (u.toNat < l.length)
            (.ix a l.length
             (.ob (a.toNat < l.length)
              (.ob (q (g (l.getD u.toNat d)) (g (l.getD a.toNat d)))
               (.lt (c (g (l.getD u.toNat d)) (g (l.getD a.toNat d))) fun(G:Int)=>
                .br (decide (G < 0)) (.ret (.inl (wrp .i64 (u+1),w.snd))) (.ret (.inl (w.fst,u))))))))))
        (.ret (.inr (.inl w.fst))))
      (m,b)))
    (.ret (.inl l)))
theorem xC (S:∀a,g a=a){MK:Int->Int->Int->List A->List A}{UY:Int->Int->Int->List A->Prop}{G:Nat}(O:∀a m b l,UH q G a m b l->UY a m b l)(R:∀a m b l,UH q G a m b l->(MK a m b l).Perm l){a m b:Int}{l:List A}(h:UH q (G+1) a m b l):IsP (Vh g c q d MK UY a m b l) (fun r=>r.Perm l):=by
 obtain⟨K,h1,h2,h3,h4,h5⟩:=h;obtain⟨J,C⟩:=K;have W:∀{x y z:Int},roQ x y z l.length->(aGq g d x y z l).Perm l:=fun h=>(Jy S h).2
 obtain rfl:g=fun a=>a:=funext S
 have t:∀{n:Nat},n < l.length->l.getD n d∈l:=fun h=>getD_mem h
 refine isP_cut (fun y=>y=l/\m - a≠1) ?_ ?_
 ·refine isP_lt fun v e=> ?_;rw[wI ah ah]at e;refine isP_beq (fun p=> ?_) (fun p=>jM ⟨rfl,by omega⟩);refine isP_cut _ (aB5 ah ah fun i j F B P=>isP_ob ah (isP_lt fun w f=> ?_)) ?_
  ·dsimp only at f⊢;rw[half ah ah]at f;refine isP_ix ah ah (isP_ob ah (isP_ix ah ah (isP_ob ah (isP_ob (C _ (t ah) _ (t ah)) (isP_lt fun _ _=>isP_br (fun _=>isP_ret (.inl ?_)) (fun _=>isP_ret (.inr ?_)))))))
   ·rw[wI ah ah,f]
   ·rw[f]
  ·rintro y ⟨F,B⟩;refine isP_lt fun w f=> ?_;rw[wI ah ah]at f;refine isP_cnt (fun i r=>r.Perm l) (.refl l) ah ah (fun i r h0 hi I=> ?_) (fun i r _ _ I=>tN I);have e:=I.length_eq;refine isP_lt fun u o=> ?_;rw[wI ah ah]at o;exact isP_ix ah ah (isP_ob ah (isP_ix ah ah (isP_ob ah (isP_ix ah ah (isP_ob ah (isP_ix ah qP (isP_ob qP (jM ((swp ah ah).trans I)))))))))
 rintro y ⟨rfl,n1⟩;refine isP_cut (fun z=>z=y/\b - m≠1) ?_ ?_
 ·refine isP_lt fun v e=> ?_;rw[wI ah ah]at e;refine isP_beq (fun p=> ?_) (fun p=>jM ⟨rfl,by omega⟩);refine isP_cut _ (aB5 ah ah fun i j F B P=>isP_ob ah (isP_ix ah ah (isP_ob ah (isP_lt fun w f=> ?_)))) ?_
  ·dsimp only at f⊢;rw[half ah ah]at f;refine isP_ix ah ah (isP_ob ah (isP_ob (C _ (t ah) _ (t ah)) (isP_lt fun _ _=>isP_br (fun _=>isP_ret (.inl ?_)) (fun _=>isP_ret (.inr ?_)))))
   ·rw[wI ah ah,f]
   ·rw[f]
  ·rintro Q ⟨F,B⟩;refine isP_wh (fun s=>Q<=s.1/\s.1<=m/\s.2.Perm y) (fun s=>(s.1 - Q).toNat) ⟨B,AA _, .refl y⟩ ah ?_;rintro⟨j,r⟩ ⟨U,i2,H⟩;dsimp only at U i2 H⊢;have e:=H.length_eq;refine isP_brd (fun hlt=>isP_lt fun u o=> ?_) (fun _=>tN (show(Sum.elim (fun z=>z=y/\b - m≠1) (fun r:List A=>r.Perm y)) (.inr r)from H));rw[wI ah ah]at o;refine isP_ix ah ah (isP_ob ah (isP_ix ah ah (isP_ob ah (isP_ix ah ah (isP_ob ah (isP_lt fun v9 Z=>isP_ix ah qP (isP_ob qP (jM ?_))))))));rw[Z];exact⟨⟨by omega,by omega,(swp ah ah).trans H⟩,by omega⟩
 rintro M ⟨rfl,n2⟩;refine isP_ob ah (isP_lt fun v e=>isP_lt fun w f=> ?_);rw[half ah ah]at f;rw[half ah ah,wI ah ah]at e;refine isP_cut (fun z=>(z.1=v - b/\z.2=w/\w < m)\/(z.1=a/\z.2=m/\¬w < m)) ?_ ?_
 ·grind [isP_brd,jM,wI]
 rintro⟨i0,j0⟩ Y;dsimp only at Y;refine isP_cut _ (aB5 ah ah fun i j F B P=>isP_ob ah (isP_lt fun u o=> ?_)) ?_
 ·dsimp only at o⊢;rw[half ah ah,show wrp .i64 (v - 1)=v - 1 from wI ah ah,wI ah ah]at o;refine isP_ix ah ah (isP_ob ah (isP_lt fun x N=> ?_));rw[half ah ah]at N;refine isP_ix ah ah (isP_ob ah (isP_ob (C _ (t ah) _ (t ah)) (isP_lt fun _ _=>isP_br (fun _=>isP_ret (.inl ?_)) (fun _=>isP_ret (.inr ?_)))))
  ·rw[wI ah ah,N]
  ·rw[N]
 rintro s ⟨F,B⟩;refine isP_cut (fun z=>z.Perm M) ?_ fun T E=> ?_
 ·refine isP_brd (fun K=>isP_lt fun u o=> ?_) (fun _=>jM (.refl _));rw[wI ah ah]at o;refine isP_brd (fun X=> ?_) (fun _=>jM (.refl _));have k:roQ s m u M.length:=⟨by omega,K,X,by omega,J⟩;exact isP_ob k (jM (W k))
 have e1:=E.length_eq;refine isP_cut (fun z=>z.Perm M) ?_ fun V D=> ?_
 ·refine isP_brd (fun L=>isP_brd (fun p=> ?_) (fun _=>jM E)) (fun _=>jM E);have k:UH q G a s w T:=⟨tY ⟨J,C⟩ E,h1,L,p,by omega,by omega⟩;exact isP_ob (O _ _ _ _ k) (jM ((R _ _ _ _ k).trans E))
 have e2:=D.length_eq;refine isP_lt fun u o=> ?_;rw[wI ah ah]at o;refine isP_brd (fun L=>isP_brd (fun p=> ?_) (fun _=>isP_ret D)) (fun _=>isP_ret D);have k:UH q G w u b V:=⟨tY ⟨J,C⟩ D,by omega,L,p,by omega,by omega⟩;exact isP_ob (O _ _ _ _ k) (isP_ret ((R _ _ _ _ k).trans D))
def Vj (g:A->A)(c:A->A->Int)(q:A->A->Prop)(d:A)(o:Int->Int->Int->List A->List A)(n:Int)(l:List A):Pg (List A):=
 .cut
  (fun(i:Int×List A)=>
   .ob (inQ q i.fst n i.snd)
    (.wh (n.toNat+1) default
     (fun(e:Int×List A)=>
      .br (decide (e.fst < n))
       (.cut
        (fun(f:Int×List A)=>
         .lt (wrp .i64 (f.fst+e.fst)) fun(h:Int)=>
          .lt (wrp .i64 (e.fst*2)) fun(j:Int)=>
           .br (decide (h < n))
            (.ob (UH q ((n - f.fst).toNat+1) f.fst h n f.snd) (.ret (.inl (j,o f.fst h n f.snd))))
            (.ret (.inl (j,f.snd))))
        (.lt (wrp .i64 (2*e.fst)) fun(k:Int)=>
         .wh (n.toNat+1) default
          (fun(a:Int×Int×List A)=>
           .br (decide (a.snd.fst<=n))
            (.lt (wrp .i64 (a.fst+e.fst)) fun(m:Int)=>
             .ob (UH q ((a.snd.fst - a.fst).toNat+1) a.fst m a.snd.fst a.snd.snd)
              (.ret (.inl (a.snd.fst,wrp .i64 (a.snd.fst+k),o a.fst m a.snd.fst a.snd.snd))))
            (.ret (.inr (.inl (a.fst,a.snd.snd)))))
          (0,k,e.snd)))
       (.ret (.inr e.snd)))
     (20,aEA g c q d i.fst n i.snd)))
  (.wh (n.toNat+1) default
   (fun(b:Int×Int×List A)=>
    .br (decide (b.snd.fst<=n))
     (.ob (inQ q b.fst b.snd.fst b.snd.snd)
      (.ret (.inl (b.snd.fst,wrp .i64 (b.snd.fst+20),aEA g c q d b.fst b.snd.fst b.snd.snd))))
     (.ret (.inr (.inl (b.fst,b.snd.snd)))))
   (0,20,l))
theorem xn (H:∀a,g a=a){MK:Int->Int->Int->List A->List A}(D:∀a m b l,UH q ((b - a).toNat+1) a m b l->(MK a m b l).Perm l){n:Int}{l:List A}(o:stQ q n l):IsP (Vj g c q d MK n l) (fun r=>r.Perm l):=by
 obtain⟨o,rfl⟩:=o;have I:=o.1;have t:∀{x y:Int} {r:List A},inQ q x y r->(aEA g c q d x y r).Perm r:=fun h=>(Jo H h).2
 refine isP_cut (fun y=>0<=y.1/\y.1<=(l.length:Int)/\y.2.Perm l) ?_ ?_
 ·refine isP_wh (fun s=>0<=s.1/\s.1<=(l.length:Int)/\s.2.1=s.1+20/\s.2.2.Perm l) (fun s=>((l.length:Int) - s.1).toNat) ⟨AA _,by omega,rfl, .refl l⟩ ah ?_;rintro⟨x,y,r⟩ ⟨i,j,B,f⟩;dsimp only at i j B f⊢;have e:=f.length_eq;refine isP_brd (fun h=> ?_) (fun h=>tN (show 0<=x/\x<=(l.length:Int)/\r.Perm l from⟨i,j,f⟩));have w:inQ q x y r:=⟨tY o f,i,by omega,by omega⟩;exact isP_ob w (jM ⟨⟨by omega,by omega,wI ah ah,(t w).trans f⟩,by omega⟩)
 rintro⟨x,r⟩ ⟨i,j,f⟩;dsimp only at i j f⊢;have e:=f.length_eq;have w:inQ q x l.length r:=⟨tY o f,i,j,by omega⟩;refine isP_ob w ?_;refine isP_wh (fun s=>0 < s.1/\s.1<=2199023255552/\s.2.Perm l) (fun s=>((l.length:Int) - s.1).toNat) ⟨by omega,by omega,(t w).trans f⟩ ah ?_;rintro⟨k,r⟩ ⟨b1,F,p⟩;dsimp only at b1 F p⊢;refine isP_brd (fun h=> ?_) (fun _=>tN p);refine isP_cut (fun y=>0<=y.1/\y.1<=(l.length:Int)/\y.2.Perm l) ?_ ?_
 ·refine isP_lt fun v z=> ?_;rw[wI ah ah]at z;refine isP_wh (fun s=>0<=s.1/\s.1<=(l.length:Int)/\s.2.1=s.1+v/\s.2.2.Perm l) (fun s=>((l.length:Int) - s.1).toNat) ⟨AA _,by omega,by grind,p⟩ ah ?_;rintro⟨x,y,r⟩ ⟨i,j,B,f⟩;dsimp only at i j B f⊢;have e:=f.length_eq;refine isP_brd (fun h=>isP_lt fun u C=> ?_) (fun _=>tN (show 0<=x/\x<=(l.length:Int)/\r.Perm l from⟨i,j,f⟩));rw[wI ah ah]at C;have w:UH q ((y - x).toNat+1) x u y r:=⟨tY o f,i,by omega,by omega,by omega,by omega⟩;exact isP_ob w (jM ⟨⟨by omega,by omega,wI ah ah,(D _ _ _ _ w).trans f⟩,by omega⟩)
 rintro⟨x,r⟩ ⟨i,j,f⟩;dsimp only at i j f⊢;have e:=f.length_eq;refine isP_lt fun u C=>isP_lt fun v z=> ?_;rw[wI ah ah]at C;rw[wI ah ah]at z;have E:∀{r:List A},r.Perm l->(0 < (v,r).1/\(v,r).1<=2199023255552/\(v,r).2.Perm l)/\((l.length:Int) - (v,r).1).toNat < ((l.length:Int) - k).toNat:=fun p=>⟨⟨by omega,by omega,p⟩,by omega⟩
 refine isP_brd (fun G=> ?_) (fun _=>jM (E f));have w:UH q (((l.length:Int) - x).toNat+1) x u l.length r:=⟨tY o f,i,by omega,G,by omega,by omega⟩;exact isP_ob w (jM (E ((D _ _ _ _ w).trans f)))
end
end Go.Vc
