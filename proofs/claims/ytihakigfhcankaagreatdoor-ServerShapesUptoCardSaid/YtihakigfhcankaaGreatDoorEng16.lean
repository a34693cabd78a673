/- Own engine: Ver. -/
import Derived.Test.YtihakigfhcankaaGreatDoorEng15
set_option linter.unusedVariables false
set_option linter.unusedSimpArgs false
namespace Go.Vc
section
variable {A:Type}
theorem lg {X R:Type}{Q1:X->Prop}{Q:R->Prop}{z:X}(h:Q1 z):jP (.ret (.inl z)) (Sum.elim Q1 Q):=⟨aT,h⟩
theorem vP {X R:Type}{Q1:X->Prop}{Q:R->Prop}{z:R}(h:Q z):jP (.ret (.inr z)) (Sum.elim Q1 Q):=⟨aT,h⟩
def rU (q:A->A->Prop)(l:List A):Prop:=l.length<=1099511627776/\∀x∈l,∀y∈l,q x y
def swQ (a b n:Int)(k:Nat):Prop:=0<=a/\0<=n/\a+n<=b/\b+n<=(k:Int)/\k<=1099511627776
def roQ (a m b:Int)(k:Nat):Prop:=0<=a/\a < m/\m < b/\b<=(k:Int)/\k<=1099511627776
def Gq (q:A->A->Prop)(a b:Int)(l:List A):Prop:=rU q l/\0<=a/\a<=b/\b<=(l.length:Int)
def Wl (q:A->A->Prop)(fu:Nat)(a m b:Int)(l:List A):Prop:=rU q l/\0<=a/\a < m/\m < b/\b<=(l.length:Int)/\(b - a).toNat < fu
def stQ (q:A->A->Prop)(n:Int)(l:List A):Prop:=rU q l/\n=(l.length:Int)
variable {c:A->A->Int}{q:A->A->Prop}{d:A}{g:A->A}
theorem v_ {l r:List A}(h:rU q l)(p:r.Perm l):rU q r:=⟨by rw[p.length_eq];exact h.1,fun x hx y hy=>h.2 x (p.mem_iff.1 hx) y (p.mem_iff.1 hy)⟩
theorem FY {a m b:Int}{l:List A}{B:Prop}(h:Wl q 0 a m b l):B:=absurd h.2.2.2.2.2 (Nat.not_lt_zero _)
theorem wI {v:Int}(h0: -4398046511104<=v)(h:v<=4398046511104):dD .i64 v=v:=fO (k:= .i64) zO
theorem half {x:Int}(h0:0<=x)(h:x<=4398046511104):dD .i64 (Aq .u64 (dD .u64 (dD .i64 x)) 1)=x / 2:=by
 obtain⟨x,rfl⟩:=Int.eq_ofNat_of_zero_le h0;have e1:dD .i64 (x:Int)=x:=wI au au;rw[e1,MJ (k:= .u64) rfl (show x < _ from Qeh (show x<=4398046511104 by omega) lY),show Aq .u64 (x:Int) 1=((x / 2:Nat):Int)from acE (k:= .u64) x 1 lY,wI au au];omega
theorem E_ {X:List A}{x:A}(h:x∈X):∃i,i < X.length/\X.getD i d=x:=by
 obtain⟨i,hi,rfl⟩:=Qdu h;exact⟨i,hi,by simp[List.getD,hi]⟩
theorem swp {r:List A}{i j:Nat}(hi:i < r.length)(hj:j < r.length):((r.set i (r.getD j d)).set j (r.getD i d)).Perm r:=by
 have e:∀{k},(h:k < r.length)->r.getD k d=r[k]:=fun h=>by simp[List.getD,h]
 rw[e hi,e hj];exact List.set_set_perm hi hj
def SY (g:A->A)(d:A)(a b n:Int)(l:List A):Pg (List A):=
 .cnt qw 0 n
  (fun(i1:Int) (y2:List A)=>
   .lt (dD .i64 (b+i1)) fun(v3:Int)=>
    .ix v3 y2.length
     (.ob (v3.toNat < y2.length)
      (.lt (dD .i64 (a+i1)) fun(v4:Int)=>
       .ix v4 y2.length
        (.ob (v4.toNat < y2.length)
         (.ix v4 y2.length
          (.ob (v4.toNat < y2.length)
           (.ix v3 (y2.set v4.toNat (g (y2.getD v3.toNat d))).length
            (.ob (v3.toNat < (y2.set v4.toNat (g (y2.getD v3.toNat d))).length)
             (.ret (.inl ((y2.set v4.toNat (g (y2.getD v3.toNat d))).set v3.toNat (g (y2.getD v4.toNat d)))))))))))))
  (fun(i1:Int) (y2:List A)=> .ret y2) l
def ayo (g:A->A)(d:A)(a b n:Int)(l:List A):List A:=(SY g d a b n l).val
theorem Mc (hg:∀a,g a=a){a b n:Int}{l:List A}(h:swQ a b n l.length):jP (SY g d a b n l) (fun r=>r.Perm l):=by
 obtain rfl:g=fun a=>a:=funext hg
 obtain⟨h1,h2,h3,h4,h5⟩:=h;refine vO (fun i r=>r.Perm l) (.refl l) au au (fun i r h0 hi hr=> ?_) (fun i r h0 hi hr=>ah hr);have e:=hr.length_eq;refine aC fun v3 e3=> ?_;rw[wI au au]at e3;refine bi au au (ak au (aC fun v4 e4=> ?_));rw[wI au au]at e4;exact bi au au (ak au (bi au au (ak au (bi au qcd (ak qcd (lg ((swp au au).trans hr)))))))
def Tc (g:A->A)(d:A)(a m b:Int)(l:List A):Pg (List A):=
 .lt (dD .i64 (m - a)) fun(v4:Int)=>
  .lt (dD .i64 (b - m)) fun(v5:Int)=>
   .wh ((b - a).toNat+1) default
    (fun(x3:Int×Int×List A)=>
     .lt (dD .i64 (m - x3.fst)) fun(v6:Int)=>
      .br (x3.fst !=x3.snd.fst)
       (.br (decide (x3.snd.fst < x3.fst))
        (.ob (swQ v6 m x3.snd.fst x3.snd.snd.length) (.ret (.inl (dD .i64 (x3.fst - x3.snd.fst),x3.snd.fst,ayo g d v6 m x3.snd.fst x3.snd.snd))))
        (.lt (dD .i64 (dD .i64 (m+x3.snd.fst) - x3.fst)) fun(v7:Int)=>
         .ob (swQ v6 v7 x3.fst x3.snd.snd.length) (.ret (.inl (x3.fst,dD .i64 (x3.snd.fst - x3.fst),ayo g d v6 v7 x3.fst x3.snd.snd)))))
       (.ob (swQ v6 m x3.fst x3.snd.snd.length) (.ret (.inr (ayo g d v6 m x3.fst x3.snd.snd)))))
    (v4,v5,l)
def aEX (g:A->A)(d:A)(a m b:Int)(l:List A):List A:=(Tc g d a m b l).val
theorem LM (hg:∀a,g a=a){a m b:Int}{l:List A}(h:roQ a m b l.length):jP (Tc g d a m b l) (fun r=>r.Perm l):=by
 obtain⟨h1,h2,h3,h4,h5⟩:=h;refine aC fun v4 e4=>aC fun v5 e5=> ?_;rw[wI au au]at e4;rw[wI au au]at e5;refine wX (fun s=>0 < s.1/\s.1<=m - a/\0 < s.2.1/\s.2.1<=b - m/\s.2.2.Perm l) (fun s=>(s.1+s.2.1).toNat) ⟨by show 0 < v4;omega,by show v4<=_;omega,by show 0 < v5;omega,by show v5<=_;omega, .refl l⟩ (by show(v4+v5).toNat < _;omega) ?_;rintro⟨i,j,r⟩ ⟨k1,k2,k3,k4,k5⟩;dsimp only at k1 k2 k3 k4 k5⊢;have e:=k5.length_eq;have sw:∀{x y n:Int},swQ x y n r.length->(ayo g d x y n r).Perm l:=fun h=>(Mc hg h).2.trans k5
 refine aC fun v6 e6=> ?_;rw[wI au au]at e6;refine dw (fun hne=>bV (fun hlt=> ?_) (fun hge=>aC fun v7 e7=> ?_)) (fun heq=> ?_)
 ·have w:swQ v6 m j r.length:=⟨by omega,by omega,by omega,by omega,by omega⟩;refine ak w (lg ⟨⟨?_,?_,k3,k4,sw w⟩,?_⟩);all_goals (dsimp only;rw[wI au au];omega)
 ·rw[show dD .i64 (m+j)=m+j from wI au au,wI au au]at e7;have w:swQ v6 v7 i r.length:=⟨by omega,by omega,by omega,by omega,by omega⟩;refine ak w (lg ⟨⟨k1,k2,?_,?_,sw w⟩,?_⟩);all_goals (dsimp only;rw[wI au au];omega)
 ·have w:swQ v6 m i r.length:=⟨by omega,by omega,by omega,by omega,by omega⟩;exact ak w (vP (sw w))
def SH (g:A->A)(c:A->A->Int)(q:A->A->Prop)(d:A)(a b:Int)(l:List A):Pg (List A):=
 .lt (dD .i64 (a+1)) fun(v6:Int)=>
  .cnt qw v6 b
   (fun(i1:Int) (y2:List A)=>
    .wh ((b - a).toNat+1) default
     (fun(x5:Int×List A)=>
      .br (decide (a < x5.fst))
       (.ix x5.fst x5.snd.length
        (.ob (x5.fst.toNat < x5.snd.length)
         (.lt (dD .i64 (x5.fst - 1)) fun(v7:Int)=>
          .ix v7 x5.snd.length
           (.ob (v7.toNat < x5.snd.length)
            (.ob (q (g (x5.snd.getD x5.fst.toNat d)) (g (x5.snd.getD v7.toNat d)))
             (.lt (c (g (x5.snd.getD x5.fst.toNat d)) (g (x5.snd.getD v7.toNat d))) fun(v8:Int)=>
              .br (decide (v8 < 0))
               (.ix v7 x5.snd.length
                (.ob (v7.toNat < x5.snd.length)
                 (.ix x5.fst x5.snd.length
                  (.ob (x5.fst.toNat < x5.snd.length)
                   (.ix x5.fst x5.snd.length
                    (.ob (x5.fst.toNat < x5.snd.length)
                     (.lt (x5.snd.set x5.fst.toNat (g (x5.snd.getD v7.toNat d))) fun(v9:List A)=>
                      .ix v7 v9.length (.ob (v7.toNat < v9.length) (.ret (.inl (v7,v9.set v7.toNat (g (x5.snd.getD x5.fst.toNat d)))))))))))))
               (.ret (.inr (.inl x5.snd)))))))))
       (.ret (.inr (.inl x5.snd))))
     (i1,y2))
   (fun(i1:Int) (y2:List A)=> .ret y2) l
def aBe (g:A->A)(c:A->A->Int)(q:A->A->Prop)(d:A)(a b:Int)(l:List A):List A:=(SH g c q d a b l).val
theorem L6 (hg:∀a,g a=a){a b:Int}{l:List A}(h:Gq q a b l):jP (SH g c q d a b l) (fun r=>r.Perm l):=by
 obtain rfl:g=fun a=>a:=funext hg
 obtain⟨⟨hl,hq⟩,h1,h2,h3⟩:=h;refine aC fun v6 e6=> ?_;rw[wI au au]at e6;refine vO (fun i r=>r.Perm l) (.refl l) au au (fun i r h0 hi hr=> ?_) (fun i r h0 hi hr=>ah hr);refine wX (fun s=>a<=s.1/\s.1<=i/\s.2.Perm l) (fun s=>(s.1 - a).toNat) ⟨by show a<=i;omega,PE _,hr⟩ (by show(i - a).toNat < _;omega) ?_;rintro⟨j,r⟩ ⟨k1,k2,k3⟩;dsimp only at k1 k2 k3⊢;have e:=k3.length_eq;have mm:∀{n:Nat},n < r.length->r.getD n d∈l:=fun h=>k3.mem_iff.1 (getD_mem h)
 refine bV (fun hlt=> ?_) (fun hge=>vP k3);refine bi au au (ak au (aC fun v7 e7=> ?_));rw[wI au au]at e7;refine bi au au (ak au (ak (hq _ (mm au) _ (mm au)) (aC fun v8 _=>bV (fun _=> ?_) (fun _=>vP k3))));refine bi au au (ak au (bi au au (ak au (bi au au (ak au (aC fun v9 e9=>bi au qck (ak qck (lg ?_))))))));rw[e9];exact⟨⟨by show a<=v7;omega,by show v7<=i;omega,(swp au au).trans k3⟩,by show(v7 - a).toNat < (j - a).toNat;omega⟩
theorem aBf {R:Type}{n:Nat}{r0:Int⊕R}{K:Int×Int->Pg ((Int×Int)⊕(Int⊕R))}{Q:R->Prop}{lo hi:Int}(hlh:lo<=hi)(hn:(hi - lo).toNat < n)
  (h1:∀i j:Int,lo<=i->i < j->j<=hi->jP (K (i,j)) fun s=>s= .inl ((i+j) / 2+1,j)\/s= .inl (i,(i+j) / 2)):
  jP (.wh n r0 (fun x=> .br (decide (x.fst < x.snd)) (K x) (.ret (.inr (.inl x.fst)))) (lo,hi)) (Sum.elim (fun y=>lo<=y/\y<=hi) Q):=by
 refine wX (fun x=>lo<=x.1/\x.1<=x.2/\x.2<=hi) (fun x=>(x.2 - x.1).toNat) ⟨PE _,hlh,PE _⟩ hn ?_;rintro⟨i,j⟩ ⟨k1,k2,k3⟩;dsimp only at k1 k2 k3⊢;refine bV (fun hij=> ?_) (fun hij=>vP (show lo<=i/\i<=hi from⟨k1,by omega⟩));obtain⟨p1,p2⟩:=h1 i j k1 hij k3;refine⟨p1,?_⟩;rcases p2 with p2 | p2<;>rw[p2]
 ·exact And.intro ⟨by show lo<=(i+j) / 2+1;omega,by show(i+j) / 2+1<=j;omega,k3⟩ (by show(j - ((i+j) / 2+1)).toNat < (j - i).toNat;omega)
 ·exact And.intro ⟨k1,by show i<=(i+j) / 2;omega,by show(i+j) / 2<=hi;omega⟩ (by show((i+j) / 2 - i).toNat < (j - i).toNat;omega)
def XZ (g:A->A)(c:A->A->Int)(q:A->A->Prop)(d:A)(O4:Int->Int->Int->List A->List A)(Xe:Int->Int->Int->List A->Prop)(a m b:Int)(l:List A):Pg (List A):=
 .cut
  (fun(y7:List A)=>
   .cut
    (fun(V_:List A)=>
     .ob ((0:Int)<=1)
      (.lt (dD .i64 (dD .i64 (Aq .u64 (dD .u64 (dD .i64 (a+b))) 1)+m)) fun(v21:Int)=>
       .lt (dD .i64 (Aq .u64 (dD .u64 (dD .i64 (a+b))) 1)) fun(v22:Int)=>
        .cut
         (fun(y16:Int×Int)=>
          .cut
           (fun(We:Int)=>
            .cut
             (fun(y19:List A)=>
              .cut
               (fun(y20:List A)=>
                .lt (dD .i64 (v21 - We)) fun(v23:Int)=>
                 .br (decide (v22 < v23)) (.br (decide (v23 < b)) (.ob (Xe v22 v23 b y20) (.ret (O4 v22 v23 b y20))) (.ret y20)) (.ret y20))
               (.br (decide (a < We)) (.br (decide (We < v22)) (.ob (Xe a We v22 y19) (.ret (.inl (O4 a We v22 y19)))) (.ret (.inl y19)))
                (.ret (.inl y19))))
             (.br (decide (We < m))
              (.lt (dD .i64 (v21 - We)) fun(v24:Int)=>
               .br (decide (m < v24)) (.ob (roQ We m v24 V_.length) (.ret (.inl (aEX g d We m v24 V_)))) (.ret (.inl V_)))
              (.ret (.inl V_))))
           (.wh ((b - a).toNat+1) default
            (fun(x17:Int×Int)=>
             .br (decide (x17.fst < x17.snd))
              (.ob ((0:Int)<=1)
               (.lt
                (dD .i64
                 (dD .i64 (v21 - 1) - dD .i64 (Aq .u64 (dD .u64 (dD .i64 (x17.fst+x17.snd))) 1)))
                fun(v25:Int)=>
                .ix v25 V_.length
                 (.ob (v25.toNat < V_.length)
                  (.lt (dD .i64 (Aq .u64 (dD .u64 (dD .i64 (x17.fst+x17.snd))) 1)) fun(v26:Int)=>
                   .ix v26 V_.length
                    (.ob (v26.toNat < V_.length)
                     (.ob (q (g (V_.getD v25.toNat d)) (g (V_.getD v26.toNat d)))
                      (.lt (c (g (V_.getD v25.toNat d)) (g (V_.getD v26.toNat d))) fun(v27:Int)=>
                       .br (!decide (v27 < 0)) (.ret (.inl (dD .i64 (v26+1),x17.snd)))
                        (.ret (.inl (x17.fst,v26))))))))))
              (.ret (.inr (.inl x17.fst))))
            y16))
         (.br (decide (v22 < m)) (.ret (.inl (dD .i64 (v21 - b),v22))) (.ret (.inl (a,m))))))
    (.lt (dD .i64 (b - m)) fun(v28:Int)=>
     .br (v28==1)
      (.cut
       (fun(y11:Int)=>
        .wh ((b - a).toNat+1) default
         (fun(x14:Int×List A)=>
          .br (decide (y11 < x14.fst))
           (.lt (dD .i64 (x14.fst - 1)) fun(v29:Int)=>
            .ix v29 x14.snd.length
             (.ob (v29.toNat < x14.snd.length)
              (.ix x14.fst x14.snd.length
               (.ob (x14.fst.toNat < x14.snd.length)
                (.ix x14.fst x14.snd.length
                 (.ob (x14.fst.toNat < x14.snd.length)
                  (.lt (x14.snd.set x14.fst.toNat (g (x14.snd.getD v29.toNat d))) fun(v30:List A)=>
                   .ix v29 v30.length (.ob (v29.toNat < v30.length) (.ret (.inl (v29,v30.set v29.toNat (g (x14.snd.getD x14.fst.toNat d)))))))))))))
           (.ret (.inr (.inr x14.snd))))
         (m,y7))
       (.wh ((b - a).toNat+1) default
        (fun(x10:Int×Int)=>
         .br (decide (x10.fst < x10.snd))
          (.ob ((0:Int)<=1)
           (.ix m y7.length
            (.ob (m.toNat < y7.length)
             (.lt (dD .i64 (Aq .u64 (dD .u64 (dD .i64 (x10.fst+x10.snd))) 1)) fun(v31:Int)=>
              .ix v31 y7.length
               (.ob (v31.toNat < y7.length)
                (.ob (q (g (y7.getD m.toNat d)) (g (y7.getD v31.toNat d)))
                 (.lt (c (g (y7.getD m.toNat d)) (g (y7.getD v31.toNat d))) fun(v32:Int)=>
                  .br (!decide (v32 < 0)) (.ret (.inl (dD .i64 (v31+1),x10.snd))) (.ret (.inl (x10.fst,v31))))))))))
          (.ret (.inr (.inl x10.fst))))
        (a,m)))
      (.ret (.inl y7))))
  (.lt (dD .i64 (m - a)) fun(v33:Int)=>
   .br (v33==1)
    (.cut
     (fun(y4:Int)=>
      .lt (dD .i64 (y4 - 1)) fun(v34:Int)=>
       .cnt qw a v34
        (fun(i5:Int) (y6:List A)=>
         .lt (dD .i64 (i5+1)) fun(v35:Int)=>
          .ix v35 y6.length
           (.ob (v35.toNat < y6.length)
            (.ix i5 y6.length
             (.ob (i5.toNat < y6.length)
              (.ix i5 y6.length
               (.ob (i5.toNat < y6.length)
                (.ix v35 (y6.set i5.toNat (g (y6.getD v35.toNat d))).length
                 (.ob (v35.toNat < (y6.set i5.toNat (g (y6.getD v35.toNat d))).length)
                  (.ret (.inl ((y6.set i5.toNat (g (y6.getD v35.toNat d))).set v35.toNat (g (y6.getD i5.toNat d)))))))))))))
        (fun(i5:Int) (y6:List A)=> .ret (.inr y6)) l)
     (.wh ((b - a).toNat+1) default
      (fun(x3:Int×Int)=>
       .br (decide (x3.fst < x3.snd))
        (.ob ((0:Int)<=1)
         (.lt (dD .i64 (Aq .u64 (dD .u64 (dD .i64 (x3.fst+x3.snd))) 1)) fun(v36:Int)=>
          .ix v36 l.length
           (.ob (v36.toNat < l.length)
            (.ix a l.length
             (.ob (a.toNat < l.length)
              (.ob (q (g (l.getD v36.toNat d)) (g (l.getD a.toNat d)))
               (.lt (c (g (l.getD v36.toNat d)) (g (l.getD a.toNat d))) fun(v37:Int)=>
                .br (decide (v37 < 0)) (.ret (.inl (dD .i64 (v36+1),x3.snd))) (.ret (.inl (x3.fst,v36))))))))))
        (.ret (.inr (.inl x3.fst))))
      (m,b)))
    (.ret (.inl l)))
theorem yN (hg:∀a,g a=a){O4:Int->Int->Int->List A->List A}{Xe:Int->Int->Int->List A->Prop}{fu:Nat}(hQ:∀a m b l,Wl q fu a m b l->Xe a m b l)(hR:∀a m b l,Wl q fu a m b l->(O4 a m b l).Perm l){a m b:Int}{l:List A}(h:Wl q (fu+1) a m b l):jP (XZ g c q d O4 Xe a m b l) (fun r=>r.Perm l):=by
 obtain⟨hs,h1,h2,h3,h4,h5⟩:=h;obtain⟨hl,hq⟩:=hs;have ro:∀{x y z:Int},roQ x y z l.length->(aEX g d x y z l).Perm l:=fun h=>(LM hg h).2
 obtain rfl:g=fun a=>a:=funext hg
 have mm:∀{n:Nat},n < l.length->l.getD n d∈l:=fun h=>getD_mem h
 refine dh (fun y=>y=l/\m - a≠1) ?_ ?_
 ·refine aC fun v e=> ?_;rw[wI au au]at e;refine dO (fun hb=> ?_) (fun hb=>lg ⟨rfl,by omega⟩);refine dh _ (aBf au au fun i j k1 k2 k3=>ak au (aC fun w ew=> ?_)) ?_
  ·dsimp only at ew⊢;rw[half au au]at ew;refine bi au au (ak au (bi au au (ak au (ak (hq _ (mm au) _ (mm au)) (aC fun _ _=>dR (fun _=>ah (.inl ?_)) (fun _=>ah (.inr ?_)))))))
   ·rw[wI au au,ew]
   ·rw[ew]
  ·rintro y ⟨k1,k2⟩;refine aC fun w ew=> ?_;rw[wI au au]at ew;refine vO (fun i r=>r.Perm l) (.refl l) au au (fun i r h0 hi hr=> ?_) (fun i r _ _ hr=>vP hr);have e:=hr.length_eq;refine aC fun u eu=> ?_;rw[wI au au]at eu;exact bi au au (ak au (bi au au (ak au (bi au au (ak au (bi au qcd (ak qcd (lg ((swp au au).trans hr)))))))))
 rintro y ⟨rfl,n1⟩;refine dh (fun z=>z=y/\b - m≠1) ?_ ?_
 ·refine aC fun v e=> ?_;rw[wI au au]at e;refine dO (fun hb=> ?_) (fun hb=>lg ⟨rfl,by omega⟩);refine dh _ (aBf au au fun i j k1 k2 k3=>ak au (bi au au (ak au (aC fun w ew=> ?_)))) ?_
  ·dsimp only at ew⊢;rw[half au au]at ew;refine bi au au (ak au (ak (hq _ (mm au) _ (mm au)) (aC fun _ _=>dR (fun _=>ah (.inl ?_)) (fun _=>ah (.inr ?_)))))
   ·rw[wI au au,ew]
   ·rw[ew]
  ·rintro y' ⟨k1,k2⟩;refine wX (fun s=>y'<=s.1/\s.1<=m/\s.2.Perm y) (fun s=>(s.1 - y').toNat) ⟨k2,PE _, .refl y⟩ (by show(m - y').toNat < _;omega) ?_;rintro⟨j,r⟩ ⟨i1,i2,i3⟩;dsimp only at i1 i2 i3⊢;have e:=i3.length_eq;refine bV (fun hlt=>aC fun u eu=> ?_) (fun _=>vP (show(Sum.elim (fun z=>z=y/\b - m≠1) (fun r:List A=>r.Perm y)) (.inr r)from i3));rw[wI au au]at eu;refine bi au au (ak au (bi au au (ak au (bi au au (ak au (aC fun v9 e9=>bi au qck (ak qck (lg ?_))))))));rw[e9];exact⟨⟨by show y'<=u;omega,by show u<=m;omega,(swp au au).trans i3⟩,by show(u - y').toNat < (j - y').toNat;omega⟩
 rintro z0 ⟨rfl,n2⟩;refine ak au (aC fun v e=>aC fun w ew=> ?_);rw[half au au]at ew;rw[half au au,wI au au]at e;refine dh (fun z=>(z.1=v - b/\z.2=w/\w < m)\/(z.1=a/\z.2=m/\¬w < m)) ?_ ?_
 ·refine bV (fun h=>lg (.inl ⟨?_,rfl,h⟩)) (fun h=>lg (.inr ⟨rfl,rfl,h⟩));exact wI au au
 rintro⟨i0,j0⟩ hy;dsimp only at hy;refine dh _ (aBf au au fun i j k1 k2 k3=>ak au (aC fun u eu=> ?_)) ?_
 ·dsimp only at eu⊢;rw[half au au,show dD .i64 (v - 1)=v - 1 from wI au au,wI au au]at eu;refine bi au au (ak au (aC fun x ex=> ?_));rw[half au au]at ex;refine bi au au (ak au (ak (hq _ (mm au) _ (mm au)) (aC fun _ _=>dR (fun _=>ah (.inl ?_)) (fun _=>ah (.inr ?_)))))
  ·rw[wI au au,ex]
  ·rw[ex]
 rintro s ⟨k1,k2⟩;refine dh (fun z=>z.Perm z0) ?_ fun y1 p1=> ?_
 ·refine bV (fun hs=>aC fun u eu=> ?_) (fun _=>lg (.refl _));rw[wI au au]at eu;refine bV (fun hm=> ?_) (fun _=>lg (.refl _));have k:roQ s m u z0.length:=⟨by omega,hs,hm,by omega,hl⟩;exact ak k (lg (ro k))
 have e1:=p1.length_eq;refine dh (fun z=>z.Perm z0) ?_ fun y2 p2=> ?_
 ·refine bV (fun ha=>bV (fun hb=> ?_) (fun _=>lg p1)) (fun _=>lg p1);have k:Wl q fu a s w y1:=⟨v_ ⟨hl,hq⟩ p1,h1,ha,hb,by omega,by omega⟩;exact ak (hQ _ _ _ _ k) (lg ((hR _ _ _ _ k).trans p1))
 have e2:=p2.length_eq;refine aC fun u eu=> ?_;rw[wI au au]at eu;refine bV (fun ha=>bV (fun hb=> ?_) (fun _=>ah p2)) (fun _=>ah p2);have k:Wl q fu w u b y2:=⟨v_ ⟨hl,hq⟩ p2,by omega,ha,hb,by omega,by omega⟩;exact ak (hQ _ _ _ _ k) (ah ((hR _ _ _ _ k).trans p2))
def Xu (g:A->A)(c:A->A->Int)(q:A->A->Prop)(d:A)(O4:Int->Int->Int->List A->List A)(n:Int)(l:List A):Pg (List A):=
 .cut
  (fun(y4:Int×List A)=>
   .ob (Gq q y4.fst n y4.snd)
    (.wh (n.toNat+1) default
     (fun(x11:Int×List A)=>
      .br (decide (x11.fst < n))
       (.cut
        (fun(V_:Int×List A)=>
         .lt (dD .i64 (V_.fst+x11.fst)) fun(v16:Int)=>
          .lt (dD .i64 (x11.fst*2)) fun(v17:Int)=>
           .br (decide (v16 < n))
            (.ob (Wl q ((n - V_.fst).toNat+1) V_.fst v16 n V_.snd) (.ret (.inl (v17,O4 V_.fst v16 n V_.snd))))
            (.ret (.inl (v17,V_.snd))))
        (.lt (dD .i64 (2*x11.fst)) fun(v18:Int)=>
         .wh (n.toNat+1) default
          (fun(x14:Int×Int×List A)=>
           .br (decide (x14.snd.fst<=n))
            (.lt (dD .i64 (x14.fst+x11.fst)) fun(v19:Int)=>
             .ob (Wl q ((x14.snd.fst - x14.fst).toNat+1) x14.fst v19 x14.snd.fst x14.snd.snd)
              (.ret (.inl (x14.snd.fst,dD .i64 (x14.snd.fst+v18),O4 x14.fst v19 x14.snd.fst x14.snd.snd))))
            (.ret (.inr (.inl (x14.fst,x14.snd.snd)))))
          (0,v18,x11.snd)))
       (.ret (.inr x11.snd)))
     (20,aBe g c q d y4.fst n y4.snd)))
  (.wh (n.toNat+1) default
   (fun(x3:Int×Int×List A)=>
    .br (decide (x3.snd.fst<=n))
     (.ob (Gq q x3.fst x3.snd.fst x3.snd.snd)
      (.ret (.inl (x3.snd.fst,dD .i64 (x3.snd.fst+20),aBe g c q d x3.fst x3.snd.fst x3.snd.snd))))
     (.ret (.inr (.inl (x3.fst,x3.snd.snd)))))
   (0,20,l))
theorem yM (hg:∀a,g a=a){O4:Int->Int->Int->List A->List A}(hR:∀a m b l,Wl q ((b - a).toNat+1) a m b l->(O4 a m b l).Perm l){n:Int}{l:List A}(hq:stQ q n l):jP (Xu g c q d O4 n l) (fun r=>r.Perm l):=by
 obtain⟨hq,rfl⟩:=hq;have hl:=hq.1;have inn:∀{x y:Int} {r:List A},Gq q x y r->(aBe g c q d x y r).Perm r:=fun h=>(L6 hg h).2
 refine dh (fun y=>0<=y.1/\y.1<=(l.length:Int)/\y.2.Perm l) ?_ ?_
 ·refine wX (fun s=>0<=s.1/\s.1<=(l.length:Int)/\s.2.1=s.1+20/\s.2.2.Perm l) (fun s=>((l.length:Int) - s.1).toNat) ⟨PE _,by show(0:Int)<=_;omega,rfl, .refl l⟩ (by show((l.length:Int) - 0).toNat < _;omega) ?_;rintro⟨x,y,r⟩ ⟨k1,k2,k3,k4⟩;dsimp only at k1 k2 k3 k4⊢;have e:=k4.length_eq;refine bV (fun h=> ?_) (fun h=>vP (show 0<=x/\x<=(l.length:Int)/\r.Perm l from⟨k1,k2,k4⟩));have w:Gq q x y r:=⟨v_ hq k4,k1,by omega,by omega⟩;exact ak w (lg ⟨⟨by show 0<=y;omega,by show y<=_;omega,wI au au,(inn w).trans k4⟩,by show((l.length:Int) - y).toNat < ((l.length:Int) - x).toNat;omega⟩)
 rintro⟨x,r⟩ ⟨k1,k2,k4⟩;dsimp only at k1 k2 k4⊢;have e:=k4.length_eq;have w:Gq q x l.length r:=⟨v_ hq k4,k1,k2,by omega⟩;refine ak w ?_;refine wX (fun s=>0 < s.1/\s.1<=2199023255552/\s.2.Perm l) (fun s=>((l.length:Int) - s.1).toNat) ⟨by show(0:Int) < 20;decide,by show(20:Int)<=_;decide,(inn w).trans k4⟩ (by show((l.length:Int) - 20).toNat < _;omega) ?_;rintro⟨k,r⟩ ⟨b1,b2,p⟩;dsimp only at b1 b2 p⊢;refine bV (fun h=> ?_) (fun _=>vP p);refine dh (fun y=>0<=y.1/\y.1<=(l.length:Int)/\y.2.Perm l) ?_ ?_
 ·refine aC fun v ev=> ?_;rw[wI au au]at ev;refine wX (fun s=>0<=s.1/\s.1<=(l.length:Int)/\s.2.1=s.1+v/\s.2.2.Perm l) (fun s=>((l.length:Int) - s.1).toNat) ⟨PE _,by show(0:Int)<=_;omega,by show v=0+v;omega,p⟩ (by show((l.length:Int) - 0).toNat < _;omega) ?_;rintro⟨x,y,r⟩ ⟨k1,k2,k3,k4⟩;dsimp only at k1 k2 k3 k4⊢;have e:=k4.length_eq;refine bV (fun h=>aC fun u eu=> ?_) (fun _=>vP (show 0<=x/\x<=(l.length:Int)/\r.Perm l from⟨k1,k2,k4⟩));rw[wI au au]at eu;have w:Wl q ((y - x).toNat+1) x u y r:=⟨v_ hq k4,k1,by omega,by omega,by omega,by omega⟩;exact ak w (lg ⟨⟨by show 0<=y;omega,by show y<=_;omega,wI au au,(hR _ _ _ _ w).trans k4⟩,by show((l.length:Int) - y).toNat < ((l.length:Int) - x).toNat;omega⟩)
 rintro⟨x,r⟩ ⟨k1,k2,k4⟩;dsimp only at k1 k2 k4⊢;have e:=k4.length_eq;refine aC fun u eu=>aC fun v ev=> ?_;rw[wI au au]at eu;rw[wI au au]at ev;have go:∀{r:List A},r.Perm l->(0 < (v,r).1/\(v,r).1<=2199023255552/\(v,r).2.Perm l)/\((l.length:Int) - (v,r).1).toNat < ((l.length:Int) - k).toNat:=fun p=>⟨⟨by show 0 < v;omega,by show v<=_;omega,p⟩,by show((l.length:Int) - v).toNat < _;omega⟩
 refine bV (fun hm=> ?_) (fun _=>lg (go k4));have w:Wl q (((l.length:Int) - x).toNat+1) x u l.length r:=⟨v_ hq k4,k1,by omega,hm,by omega,by omega⟩;exact ak w (lg (go ((hR _ _ _ _ w).trans k4)))
end
end Go.Vc
