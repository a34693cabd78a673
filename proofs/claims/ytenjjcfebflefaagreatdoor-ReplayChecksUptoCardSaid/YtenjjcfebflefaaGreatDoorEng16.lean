/- Own engine: Veo. -/
import Derived.Test.YtenjjcfebflefaaGreatDoorEng15
set_option linter.unusedVariables false
set_option linter.unusedSimpArgs false
namespace Go.Vc
section
variable {A:Type}
structure zT (lt:A->A->Bool):Prop where
 asym:∀{a b},lt a b=true->lt b a=false
 trn:∀{a b c},lt b a=false->lt c b=false->lt c a=false
def BB (a:A->A->Bool)(x y:A):Bool:= !a x y && !a y x
def BR (c:A->A->Bool)(l:List A):Prop:=l.Pairwise fun a b=>c b a=false
def qO (a:A->A->Bool)(l b:List A):Prop:=∀x,b.filter (BB a x)=l.filter (BB a x)
variable {lt:A->A->Bool}
theorem zT.irr (h:zT lt)(a:A):lt a a=false:=by
 cases e:lt a a with
 | false=>rfl
 | true=>have:=h.asym e;rw[e]at this;exact this
theorem zT.rfl' (h:zT lt)(a:A):BB lt a a=true:=by unfold BB;rw[h.irr a];rfl
theorem NY {x y:A}:BB lt x y=true ↔ lt x y=false/\lt y x=false:=by
 unfold BB;cases lt x y<;>cases lt y x<;>simp
theorem qO.refl (l:List A):qO lt l l:=fun _=>rfl
theorem qO.trans {l m n:List A}(b:qO lt l m)(a:qO lt m n):qO lt l n:=fun x=>(a x).trans (b x)
theorem qO.symm {l m:List A}(a:qO lt l m):qO lt m l:=fun x=>(a x).symm
theorem qO.app {l m a b:List A}(d:qO lt l m)(c:qO lt a b):qO lt (l++a) (m++b):=fun x=>by
 rw[Qcq,Qcq,d x,c x]
theorem qO.mem {l m:List A}(b:zT lt)(h:qO lt l m){x:A}:x∈m ↔ x∈l:=by
 have e:=h x;constructor
 ·intro a;have:x∈m.filter (BB lt x):=ZT.2 ⟨a,b.rfl' x⟩;rw[e]at this;exact(ZT.1 this).1
 ·intro a;have:x∈l.filter (BB lt x):=ZT.2 ⟨a,b.rfl' x⟩;rw[<-e]at this;exact(ZT.1 this).1
theorem aiF (c:zT lt):∀{l m:List A},BR lt l->BR lt m->qO lt l m->l=m
 | [],m,_,_,h=>by
  cases m with
  | nil=>rfl
  | cons b u=>exact absurd ((h.mem c).1 (Qbl)) kM
 | a::t,m,n,j,h=>by
  cases m with
  | nil=>exact absurd ((h.mem c).2 (Qbl)) kM
  | cons b u=>
   have g:=Qbh.1 n;have f:=Qbh.1 j;have k:lt a b=false:=by
    rcases zN.1 ((h.mem c).2 (Qbl (a:=a) (l:=t)))with e | e
    ·rw[e];exact c.irr b
    ·exact f.1 a e
   have i:lt b a=false:=by
    rcases zN.1 ((h.mem c).1 (Qbl (a:=b) (l:=u)))with e | e
    ·rw[e];exact c.irr a
    ·exact g.1 b e
   have e:=h a;rw[Qcg (c.rfl' a),Qcg (NY.2 ⟨k,i⟩)]at e;injection e with o p
   subst o;congr 1;refine aiF c g.2 f.2 fun x=> ?_;have:=h x;cases d:BB lt x b with
   | true=>
    rw[Qcg d,Qcg d]at this;injection this
   | false=>
    rw[List.filter_cons_of_neg (by simp[d]),List.filter_cons_of_neg (by simp[d])]at this;exact this
theorem ars (a:zT lt){u v x:A}(h:lt v u=true)(c:BB lt x u=true)(b:BB lt x v=true):False:=by
 have:=a.trn (NY.1 c).1 (NY.1 b).2;rw[h]at this;cases this
theorem WO (e:zT lt){U V:List A}(h:∀u∈U,∀v∈V,lt v u=true):qO lt (U++V) (V++U):=fun x=>by
 rw[Qcq,Qcq];by_cases a:U.filter (BB lt x)=[]
 ·rw[a,Qbk,Qbs]
 ·have b:V.filter (BB lt x)=[]:=by
   obtain⟨u,a⟩:=List.exists_mem_of_ne_nil _ a;obtain⟨c,d⟩:=ZT.1 a;refine List.filter_eq_nil_iff.2 fun v b f=> ?_;exact ars e (h u c v b) d f
  rw[b,Qbk,Qbs]
theorem nN {l m:List A}:BR lt (l++m) ↔ BR lt l/\BR lt m/\∀a∈l,∀b∈m,lt b a=false:=List.pairwise_append
theorem Yt (e:zT lt){A1 U V R C1 C2:List A}(g:BR lt (A1++U))(k:BR lt (V++R))(f:∀u∈U,∀v∈V,lt v u=true)(h:∀x∈A1,∀r∈R,lt r x=false)
  (j:BR lt C1) (t1:qO lt (A1++V) C1) (i:BR lt C2) (t2:qO lt (U++R) C2):BR lt (C1++C2)/\qO lt ((A1++U)++(V++R)) (C1++C2):=by
 refine⟨nN.2 ⟨j,i,fun a d b c=> ?_⟩,?_⟩
 ·have d:=(t1.mem e).1 d;have c:=(t2.mem e).1 c;rcases vN.1 d with d | d<;>rcases vN.1 c with c | c
  ·exact(nN.1 g).2.2 a d b c
  ·exact h a d b c
  ·exact e.asym (f b c a d)
  ·exact(nN.1 k).2.2 a d b c
 ·have:qO lt ((A1++U)++(V++R)) ((A1++V)++(U++R)):=by
   rw[Qa2,Qa2];refine(qO.refl A1).app ?_;rw[<-Qa2,<-Qa2];exact(WO e f).app (qO.refl R)
  exact this.trans (t1.app t2)
theorem lI {X R:Type}{a:X->Prop}{Q:R->Prop}{z:X}(h:a z):kw (.ret (.inl z)) (Sum.elim a Q):=⟨aZ,h⟩
theorem AV {X R:Type}{a:X->Prop}{Q:R->Prop}{z:R}(h:Q z):kw (.ret (.inr z)) (Sum.elim a Q):=⟨aZ,h⟩
def yP (q:A->A->Prop)(l:List A):Prop:=l.length<=1099511627776/\∀x∈l,∀y∈l,q x y
def swQ (a b n:Int)(k:Nat):Prop:=0<=a/\0<=n/\a+n<=b/\b+n<=(k:Int)/\k<=1099511627776
def roQ (a m b:Int)(k:Nat):Prop:=0<=a/\a < m/\m < b/\b<=(k:Int)/\k<=1099511627776
def inQ (q:A->A->Prop)(a b:Int)(l:List A):Prop:=yP q l/\0<=a/\a<=b/\b<=(l.length:Int)
def ltOf (c:A->A->Int)(x y:A):Bool:=decide (c x y < 0)
def Z4 (c:A->A->Int)(q:A->A->Prop)(d:Nat)(a m b:Int)(l:List A):Prop:=yP q l/\∃P X Y S:List A,l=P++((X++Y)++S)/\a=(P.length:Int)/\m=((P.length+X.length:Nat):Int)/\b=((P.length+X.length+Y.length:Nat):Int)/\BR (ltOf c) X/\BR (ltOf c) Y/\X≠[]/\Y≠[]/\X.length+Y.length < d
def stQ (q:A->A->Prop)(n:Int)(l:List A):Prop:=yP q l/\n=(l.length:Int)
variable {c:A->A->Int}{q:A->A->Prop}{d:A}
def aiP (g:A->A)(d:A)(a b n:Int)(l:List A):Pg (List A):=
 .cnt rP 0 n
  (fun(h:Int) (c:List A)=>
   .lt (bJ .i64 (b+h)) fun(f:Int)=>
    .ix f c.length
     (.ob (f.toNat < c.length)
      (.lt (bJ .i64 (a+h)) fun(e:Int)=>
       .ix e c.length
        (.ob (e.toNat < c.length)
         (.ix e c.length
          (.ob (e.toNat < c.length)
           (.ix f (c.set e.toNat (g (c.getD f.toNat d))).length
            (.ob (f.toNat < (c.set e.toNat (g (c.getD f.toNat d))).length)
             (.ret (.inl ((c.set e.toNat (g (c.getD f.toNat d))).set f.toNat (g (c.getD e.toNat d)))))))))))))
  (fun(h:Int) (c:List A)=> .ret c) l
abbrev apQ (d:A)(a b n:Int)(l:List A):Pg (List A):=aiP (fun a=>a) d a b n l
def aBK (g:A->A)(d:A)(a b n:Int)(l:List A):List A:=(aiP g d a b n l).val
abbrev swV (d:A)(a b n:Int)(l:List A):List A:=aBK (fun a=>a) d a b n l
def ai2 (g:A->A)(d:A)(a m b:Int)(l:List A):Pg (List A):=
 .lt (bJ .i64 (m - a)) fun(h:Int)=>
  .lt (bJ .i64 (b - m)) fun(i:Int)=>
   .wh ((b - a).toNat+1) default
    (fun(c:Int×Int×List A)=>
     .lt (bJ .i64 (m - c.fst)) fun(e:Int)=>
      .br (c.fst !=c.snd.fst)
       (.br (decide (c.snd.fst < c.fst))
        (.ob (swQ e m c.snd.fst c.snd.snd.length) (.ret (.inl (bJ .i64 (c.fst - c.snd.fst),c.snd.fst,aBK g d e m c.snd.fst c.snd.snd))))
        (.lt (bJ .i64 (bJ .i64 (m+c.snd.fst) - c.fst)) fun(f:Int)=>
         .ob (swQ e f c.fst c.snd.snd.length) (.ret (.inl (c.fst,bJ .i64 (c.snd.fst - c.fst),aBK g d e f c.fst c.snd.snd)))))
       (.ob (swQ e m c.fst c.snd.snd.length) (.ret (.inr (aBK g d e m c.fst c.snd.snd)))))
    (h,i,l)
abbrev aFt (d:A)(a m b:Int)(l:List A):Pg (List A):=ai2 (fun a=>a) d a m b l
def aHs (g:A->A)(d:A)(a m b:Int)(l:List A):List A:=(ai2 g d a m b l).val
abbrev roV (d:A)(a m b:Int)(l:List A):List A:=aHs (fun a=>a) d a m b l
def agP (g:A->A)(c:A->A->Int)(q:A->A->Prop)(d:A)(a b:Int)(l:List A):Pg (List A):=
 .lt (bJ .i64 (a+1)) fun(k:Int)=>
  .cnt rP k b
   (fun(j:Int) (i:List A)=>
    .wh ((b - a).toNat+1) default
     (fun(e:Int×List A)=>
      .br (decide (a < e.fst))
       (.ix e.fst e.snd.length
        (.ob (e.fst.toNat < e.snd.length)
         (.lt (bJ .i64 (e.fst - 1)) fun(f:Int)=>
          .ix f e.snd.length
           (.ob (f.toNat < e.snd.length)
            (.ob (q (g (e.snd.getD e.fst.toNat d)) (g (e.snd.getD f.toNat d)))
             (.lt (c (g (e.snd.getD e.fst.toNat d)) (g (e.snd.getD f.toNat d))) fun(m:Int)=>
              .br (decide (m < 0))
               (.ix f e.snd.length
                (.ob (f.toNat < e.snd.length)
                 (.ix e.fst e.snd.length
                  (.ob (e.fst.toNat < e.snd.length)
                   (.ix e.fst e.snd.length
                    (.ob (e.fst.toNat < e.snd.length)
                     (.lt (e.snd.set e.fst.toNat (g (e.snd.getD f.toNat d))) fun(h:List A)=>
                      .ix f h.length (.ob (f.toNat < h.length) (.ret (.inl (f,h.set f.toNat (g (e.snd.getD e.fst.toNat d)))))))))))))
               (.ret (.inr (.inl e.snd)))))))))
       (.ret (.inr (.inl e.snd))))
     (j,i))
   (fun(j:Int) (i:List A)=> .ret i) l
abbrev aFA (c:A->A->Int)(q:A->A->Prop)(d:A)(a b:Int)(l:List A):Pg (List A):=agP (fun a=>a) c q d a b l
theorem get_at {P S:List A}{u d:A}{k:Nat}(h:k=P.length):(P++u::S).getD k d=u:=by subst h;simp[List.getD]
theorem aev {P S:List A}{u v:A}{k:Nat}(h:k=P.length):(P++u::S).set k v=P++v::S:=by subst h;simp
theorem UV {P M S:List A}{u v d:A}{i j:Nat}(a:i=P.length)(c:j=P.length+1+M.length):
  (P++u::(M++v::S)).getD i d=u/\(P++u::(M++v::S)).getD j d=v/\((P++u::(M++v::S)).set i v).set j u=P++v::(M++u::S)/\((P++u::(M++v::S)).set j u).set i v=P++v::(M++u::S):=by
 have e:∀w z:A,P++w::(M++z::S)=(P++w::M)++z::S:=fun w z=>by simp
 have b:∀w:A,j=(P++w::M).length:=fun w=>by simp;omega
 refine⟨get_at a,?_,?_,?_⟩
 ·rw[e];exact get_at (b u)
 ·rw[aev a,e,aev (b v),<-e]
 ·rw[e,aev (b u),<-e,aev a]
theorem w64 {n:Nat}(h:n<=4398046511104):bJ .i64 (n:Int)=(n:Int):=bY (k:= .i64) p_
theorem qW {i:Int}{n:Nat}(e:i=(n:Int))(h:n<=4398046511104):bJ .i64 i=(n:Int):=by rw[e];exact w64 h
theorem afu (d:A)(x U w V y:List A)(h:U.length=V.length)(D:x.length+U.length+w.length+V.length<=1099511627776){a b n:Int}(H:a=(x.length:Int))(q:b=((x.length+U.length+w.length:Nat):Int))(J:n=(U.length:Int)):
  kw (apQ d a b n (x++(U++(w++(V++y))))) (fun r=>r=x++(V++(w++(U++y)))):=by
 subst H q J;refine yl (fun i r=>∃c f k g:List A,U=c++f/\V=k++g/\i=(c.length:Int)/\c.length=k.length/\r=x++(k++(f++(w++(c++(g++y)))))) ⟨[],U,[],V,rfl,rfl,rfl,rfl,rfl⟩ au au ?_ ?_
 ·rintro i r G l ⟨c,f,k,g,rfl,rfl,rfl,e,rfl⟩;cases f with
  | nil=>simp at l
  | cons u f=>
   cases g with
   | nil=>simp at h;omega
   | cons v g=>
    simp only[tK,zx]at h D l⊢;have E:x++(k++((u::f)++(w++(c++((v::g)++y)))))=(x++k)++u::((f++(w++c))++v::(g++y)):=by simp
    rw[E];have s:bJ .i64 (((x.length+(c.length+(f.length+1))+w.length:Nat):Int)+(c.length:Int))=((x.length+(c.length+(f.length+1))+w.length+c.length:Nat):Int):=qW au au;have t:bJ .i64 ((x.length:Int)+(c.length:Int))=((x.length+c.length:Nat):Int):=qW au au;obtain⟨z,p,I,K⟩:=UV (P:=x++k) (M:=f++(w++c)) (S:=g++y) (u:=u) (v:=v) (d:=d) (i:=x.length+c.length) (j:=x.length+(c.length+(f.length+1))+w.length+c.length) xI xI;have F:((x++k)++u::((f++(w++c))++v::(g++y))).length=x.length+k.length+1+f.length+w.length+c.length+1+g.length+y.length:=by simp;omega
    generalize (x++k)++u::((f++(w++c))++v::(g++y))=r at*;refine aI fun L m=> ?_;rw[s]at m;subst m;refine aX au au (aj au (aI fun N o=> ?_));rw[t]at o;subst o;refine aX au au (aj au (aX au au (aj au (aX au qb6 (aj qb6 (lI ?_))))));rw[uZ,uZ,z,p,I];exact⟨c++[u],f,k++[v],g,by simp,by simp,by simp,by simp[e],by simp⟩
 ·rintro i r G l ⟨c,f,k,g,rfl,rfl,rfl,e,rfl⟩;simp only[tK]at h l;have B:f=[]:=Qau au;have C:g=[]:=Qau au;subst B C;exact ai kM
theorem ayq (d:A)(x U V y:List A)(L:U≠[])(M:V≠[])(W:x.length+U.length+V.length+y.length<=1099511627776){a m b:Int}(I:a=(x.length:Int))(O:m=((x.length+U.length:Nat):Int))(H:b=((x.length+U.length+V.length:Nat):Int)):
  kw (aFt d a m b (x++(U++(V++y)))) (fun r=>r=x++(V++(U++y))):=by
 subst I O H;have J:=Qc9.2 L;have N:=Qc9.2 M;refine aI fun T u=>aI fun R w=> ?_;rw[qW (n:=U.length) au au]at u;rw[qW (n:=V.length) au au]at w;subst u w;refine qJ (fun s=>∃f e c g:List A,s=((e.length:Int),(c.length:Int),f++(e++(c++g)))/\0 < e.length/\0 < c.length/\f.length+e.length=x.length+U.length/\f.length+e.length+c.length+g.length=x.length+U.length+V.length+y.length/\f++(c++(e++g))=x++(V++(U++y)))
  (fun s=>(s.1+s.2.1).toNat) ⟨x,U,V,y,rfl,J,N,rfl,rfl,rfl⟩ (by show((U.length:Int)+(V.length:Int)).toNat < _;omega) ?_
 rintro s ⟨f,e,c,g,rfl,P,K,D,C,z⟩;refine aI fun S p=> ?_;dsimp only at p⊢;rw[qW (n:=f.length) au au]at p;subst p;refine dY (fun q=>bQ (fun B=> ?_) (fun E=> ?_)) (fun v=> ?_)
 ·
  obtain⟨o,l,rfl,F⟩:∃o l,e=o++l/\o.length=c.length:=⟨e.take c.length,e.drop c.length,by simp,by simp;omega⟩;simp only[tK]at P D C B q⊢;have k:(apQ d (f.length:Int) ((x.length+U.length:Nat):Int) (c.length:Int) (f++(o++(l++(c++g))))).val=f++(c++(l++(o++g))):=(afu d f o l c g F au (a:=(f.length:Int)) (b:=((x.length+U.length:Nat):Int)) (n:=(c.length:Int)) rfl au au).2;refine aj ⟨by omega,by omega,by omega,by first | omega | (simp;omega),by first | omega | (simp;omega)⟩ (lI ⟨⟨f++c,l,o,g,?_,by omega,by omega,by first | omega | (simp;omega),by first | omega | (simp;omega),by rw[<-z];simp⟩,?_⟩)
  ·refine Qdu ?_ (Qdu ?_ ?_)
   ·exact qW (n:=l.length) (by first | omega | (simp;omega)) au
   ·show(c.length:Int)=(o.length:Int);omega
   ·show swV d _ _ _ _=_
    have:(o++l)++(c++g)=o++(l++(c++g)):=by simp
    rw[this];refine Qcf k ?_;simp
  ·show(bJ .i64 (((o.length+l.length:Nat):Int) - (c.length:Int))+(c.length:Int)).toNat < (((o.length+l.length:Nat):Int)+(c.length:Int)).toNat
   rw[qW (n:=l.length) au au];omega
 ·obtain⟨h,j,rfl,Q⟩:∃h j,c=h++j/\j.length=e.length:=⟨c.take (c.length - e.length),c.drop (c.length - e.length),by simp,by simp;omega⟩;simp only[tK]at K D C E q⊢;refine aI fun X t=> ?_;rw[qW (i:=((x.length+U.length:Nat):Int)+((h.length+j.length:Nat):Int)) (n:=x.length+U.length+h.length+j.length) au au,qW (n:=x.length+U.length+h.length) au au]at t;subst t;have k:(apQ d (f.length:Int) ((x.length+U.length+h.length:Nat):Int) (e.length:Int) (f++(e++(h++(j++g))))).val=f++(j++(h++(e++g))):=(afu d f e h j g au au (a:=(f.length:Int)) (b:=((x.length+U.length+h.length:Nat):Int)) (n:=(e.length:Int)) rfl au rfl).2;refine aj ⟨by omega,by omega,by omega,by first | omega | (simp;omega),by first | omega | (simp;omega)⟩ (lI ⟨⟨f,j,h,e++g,?_,by omega,by omega,by omega,by first | omega | (simp;omega),by rw[<-z];simp⟩,?_⟩)
  ·refine Qdu ?_ (Qdu ?_ ?_)
   ·show(e.length:Int)=(j.length:Int);omega
   ·exact qW (n:=h.length) (by first | omega | (simp;omega)) au
   ·show swV d _ _ _ _=_
    have:(h++j)++g=h++(j++g):=by simp
    rw[this];refine Qcf k ?_;rfl
  ·show((e.length:Int)+bJ .i64 (((h.length+j.length:Nat):Int) - (e.length:Int))).toNat < ((e.length:Int)+((h.length+j.length:Nat):Int)).toNat
   rw[qW (n:=h.length) au au];omega
 ·have v:e.length=c.length:=by omega
  have k:=(afu d f e [] c g v xI (a:=(f.length:Int)) (b:=((x.length+U.length:Nat):Int)) (n:=(e.length:Int)) rfl xI rfl).2;refine aj ⟨by omega,by omega,by omega,by first | omega | (simp;omega),by first | omega | (simp;omega)⟩ (AV ?_);show swV d _ _ _ _=_
  have G:(apQ d (f.length:Int) ((x.length+U.length:Nat):Int) (e.length:Int) (f++(e++(c++g)))).val=f++(c++(e++g)):=k;refine Qcf G ?_;rw[z]
theorem axl (f:zT lt){e a c:List A}{y:A}(o:BR lt (a++c))(l:qO lt e (a++c))(i:∀z∈c,lt y z=true)(m:∀M z,a=M++[z]->lt y z=false):BR lt (a++y::c)/\qO lt (e++[y]) (a++y::c):=by
 obtain⟨h,j,p⟩:=nN.1 o;refine⟨nN.2 ⟨h,Qbh.2 ⟨fun w d=>f.asym (i w d),j⟩,fun x b w d=> ?_⟩,?_⟩
 ·rcases zN.1 d with rfl | d
  ·rcases Qd7 a with rfl | ⟨M,z,rfl⟩
   ·simp at b
   ·rw[Qd6]at*;have g:=m M z rfl;rcases vN.1 b with b | b
    ·exact f.trn ((nN.1 h).2.2 x b z kM) g
    ·obtain rfl:x=z:=by simpa using b
     exact g
  ·exact p x b w d
 ·have:qO lt (e++[y]) (a++(c++[y])):=by
   rw[<-Qa2];exact l.app (qO.refl _)
  refine this.trans ((qO.refl a).app ?_);exact WO f (V:=[y]) fun u n v k=>by
   obtain rfl:v=y:=by simpa using k
   exact i u n
theorem amz (hs:zT (ltOf c))(P D S:List A)(K:yP q (P++(D++S))){a b:Int}(ha:a=(P.length:Int))(hb:b=((P.length+D.length:Nat):Int)):
  kw (aFA c q d a b (P++(D++S))) (fun r=>∃M,r=P++(M++S)/\BR (ltOf c) M/\qO (ltOf c) D M/\M.length=D.length):=by
 subst ha hb;obtain⟨R,K⟩:=K;simp only[tK]at R;refine aI fun v6 I=> ?_;rw[qW (n:=P.length+1) au au]at I;subst I;cases D with
 | nil=>
  refine yl (fun i r=>r=P++([]++S)) rfl au xI (fun i y h1 Z h3=> ?_) (fun i y h1 Z h3=>ai ⟨[],h3,List.Pairwise.nil,qO.refl _,rfl⟩);simp at Z;omega
 | cons x D=>
  refine yl (fun i r=>∃h f M:List A,x::D=h++f/\i=((P.length+h.length:Nat):Int)/\M.length=h.length/\BR (ltOf c) M/\qO (ltOf c) h M/\r=P++(M++(f++S))) ⟨[x],D,[x],rfl,by simp,rfl,Qda _ _,qO.refl _,rfl⟩ au (by simp at R⊢;omega) ?_ ?_
  ·rintro i r h0 W ⟨h,f,M,k,rfl,t,X,C,rfl⟩;have Q:D.length+1=h.length+f.length:=by rw[<-tK,<-k];rfl
   cases f with
   | nil=>simp at W Q;omega
   | cons y f=>
    simp only[zx]at R W Q;refine qJ (fun s=>∃l g:List A,M=l++g/\s=(((P.length+l.length:Nat):Int),P++(l++(y::(g++(f++S)))))/\∀z∈g,ltOf c y z=true) (fun s=>(s.1 - (P.length:Int)).toNat) ⟨M,[],by simp,by simp[t],by simp⟩ (by show(((P.length+h.length:Nat):Int) - (P.length:Int)).toNat < _;simp only[zx];omega) ?_;rintro s ⟨l,g,rfl,rfl,G⟩;have o:(∀M z,l=M++[z]->ltOf c y z=false)->∃m J M':List A,x::D=m++J/\((P.length+h.length:Nat):Int)+1=((P.length+m.length:Nat):Int)/\M'.length=m.length/\BR (ltOf c) M'/\qO (ltOf c) m M'/\P++(l++(y::(g++(f++S))))=P++(M'++(J++S)):=fun h4=>by
     obtain⟨q1,q2⟩:=axl hs X C G h4;simp only[tK]at t;exact⟨h++[y],f,l++y::g,by rw[k];simp,by simp;omega,by simp;omega,q1,q2,by simp⟩
    refine bQ (fun F=> ?_) (fun aa=>AV ?_)
    ·rcases Qd7 l with rfl | ⟨N,z,rfl⟩
     ·simp at F
     ·rw[Qd6]at*;simp only[tK,zx,BP]at t F⊢;have er:P++((N++[z])++(y::(g++(f++S))))=(P++N)++z::([]++y::(g++(f++S))):=by simp
      obtain⟨E,B,k3,Y⟩:=UV (P:=P++N) (M:=[]) (S:=g++(f++S)) (u:=z) (v:=y) (d:=d) (i:=P.length+N.length) (j:=P.length+(N.length+(0+1))) kM xI;have U:((P++N)++z::([]++y::(g++(f++S)))).length=P.length+N.length+1+1+g.length+f.length+S.length:=by simp;omega
      have L:q y z:=K y (by rw[k];simp) z (by
       have:z∈h:=(C.mem hs).1 kM;rw[k];simp[this])
      rw[er]at o⊢;generalize (P++N)++z::([]++y::(g++(f++S)))=r at E B k3 Y U o⊢;refine aX au au (aj au (aI fun v7 H=> ?_));rw[qW (n:=P.length+N.length) au au]at H;subst H;refine aX au au (aj au (aj ?_ (aI fun v8 O=> ?_)))
      ·rw[uZ,uZ,E,B];exact L
      ·rw[uZ,uZ,E,B]at O;refine bQ (fun V=>aX au au (aj au (aX au au (aj au (aX au au (aj au (aI fun v9 p=>aX au (by rw[p,Qcl];omega) (aj (by rw[p,Qcl];omega) (lI ?_))))))))) (fun V=>AV ?_)
       ·rw[p,uZ,uZ,E,B,Y];refine⟨⟨N,z::g,by simp,by simp,fun w T=> ?_⟩,?_⟩
        ·rcases zN.1 T with rfl | T
         ·exact jK (by rw[<-O];exact V)
         ·exact G w T
        ·show(((P.length+N.length:Nat):Int) - (P.length:Int)).toNat < (((P.length+(N.length+(0+1)):Nat):Int) - (P.length:Int)).toNat
         omega
       ·refine o fun M z' e=> ?_;obtain⟨_,e⟩:=List.append_inj' e rfl;injection e with e
        subst e;exact jF (by rw[<-O];exact V)
    ·refine o fun M z e=> ?_;subst e;simp at aa;omega
  ·rintro i r h0 W ⟨h,f,M,k,rfl,t,X,C,rfl⟩;have Q:(x::D).length=h.length+f.length:=by rw[<-tK,<-k]
   have:f=[]:=Qau au;subst this;rw[Qbk]at k;refine ai ⟨M,by simp,X,by rw[k];exact C,by rw[t,k]⟩
def anR (g:A->A)(c:A->A->Int)(q:A->A->Prop)(d:A)(L:Int->Int->Int->List A->List A)(G:Int->Int->Int->List A->Prop)(a m b:Int)(l:List A):Pg (List A):=
 .cut
  (fun(r:List A)=>
   .cut
    (fun(k:List A)=>
     .ob ((0:Int)<=1)
      (.lt (bJ .i64 (bJ .i64 (BD .u64 (bJ .u64 (bJ .i64 (a+b))) 1)+m)) fun(x:Int)=>
       .lt (bJ .i64 (BD .u64 (bJ .u64 (bJ .i64 (a+b))) 1)) fun(j:Int)=>
        .cut
         (fun(J:Int×Int)=>
          .cut
           (fun(v:Int)=>
            .cut
             (fun(C:List A)=>
              .cut
               (fun(z:List A)=>
                .lt (bJ .i64 (x - v)) fun(B:Int)=>
                 .br (decide (j < B)) (.br (decide (B < b)) (.ob (G j B b z) (.ret (L j B b z))) (.ret z)) (.ret z))
               (.br (decide (a < v)) (.br (decide (v < j)) (.ob (G a v j C) (.ret (.inl (L a v j C)))) (.ret (.inl C)))
                (.ret (.inl C))))
             (.br (decide (v < m))
              (.lt (bJ .i64 (x - v)) fun(D:Int)=>
               .br (decide (m < D)) (.ob (roQ v m D k.length) (.ret (.inl (aHs g d v m D k)))) (.ret (.inl k)))
              (.ret (.inl k))))
           (.wh ((b - a).toNat+1) default
            (fun(h:Int×Int)=>
             .br (decide (h.fst < h.snd))
              (.ob ((0:Int)<=1)
               (.lt
                (bJ .i64
                 (bJ .i64 (x - 1) - bJ .i64 (BD .u64 (bJ .u64 (bJ .i64 (h.fst+h.snd))) 1)))
                fun(y:Int)=>
                .ix y k.length
                 (.ob (y.toNat < k.length)
                  (.lt (bJ .i64 (BD .u64 (bJ .u64 (bJ .i64 (h.fst+h.snd))) 1)) fun(t:Int)=>
                   .ix t k.length
                    (.ob (t.toNat < k.length)
                     (.ob (q (g (k.getD y.toNat d)) (g (k.getD t.toNat d)))
                      (.lt (c (g (k.getD y.toNat d)) (g (k.getD t.toNat d))) fun(K:Int)=>
                       .br (!decide (K < 0)) (.ret (.inl (bJ .i64 (t+1),h.snd)))
                        (.ret (.inl (h.fst,t))))))))))
              (.ret (.inr (.inl h.fst))))
            J))
         (.br (decide (j < m)) (.ret (.inl (bJ .i64 (x - b),j))) (.ret (.inl (a,m))))))
    (.lt (bJ .i64 (b - m)) fun(N:Int)=>
     .br (N==1)
      (.cut
       (fun(O:Int)=>
        .wh ((b - a).toNat+1) default
         (fun(e:Int×List A)=>
          .br (decide (O < e.fst))
           (.lt (bJ .i64 (e.fst - 1)) fun(n:Int)=>
            .ix n e.snd.length
             (.ob (n.toNat < e.snd.length)
              (.ix e.fst e.snd.length
               (.ob (e.fst.toNat < e.snd.length)
                (.ix e.fst e.snd.length
                 (.ob (e.fst.toNat < e.snd.length)
                  (.lt (e.snd.set e.fst.toNat (g (e.snd.getD n.toNat d))) fun(E:List A)=>
                   .ix n E.length (.ob (n.toNat < E.length) (.ret (.inl (n,E.set n.toNat (g (e.snd.getD e.fst.toNat d)))))))))))))
           (.ret (.inr (.inr e.snd))))
         (m,r))
       (.wh ((b - a).toNat+1) default
        (fun(o:Int×Int)=>
         .br (decide (o.fst < o.snd))
          (.ob ((0:Int)<=1)
           (.ix m r.length
            (.ob (m.toNat < r.length)
             (.lt (bJ .i64 (BD .u64 (bJ .u64 (bJ .i64 (o.fst+o.snd))) 1)) fun(s:Int)=>
              .ix s r.length
               (.ob (s.toNat < r.length)
                (.ob (q (g (r.getD m.toNat d)) (g (r.getD s.toNat d)))
                 (.lt (c (g (r.getD m.toNat d)) (g (r.getD s.toNat d))) fun(M:Int)=>
                  .br (!decide (M < 0)) (.ret (.inl (bJ .i64 (s+1),o.snd))) (.ret (.inl (o.fst,s))))))))))
          (.ret (.inr (.inl o.fst))))
        (a,m)))
      (.ret (.inl r))))
  (.lt (bJ .i64 (m - a)) fun(I:Int)=>
   .br (I==1)
    (.cut
     (fun(P:Int)=>
      .lt (bJ .i64 (P - 1)) fun(H:Int)=>
       .cnt rP a H
        (fun(p:Int) (f:List A)=>
         .lt (bJ .i64 (p+1)) fun(i:Int)=>
          .ix i f.length
           (.ob (i.toNat < f.length)
            (.ix p f.length
             (.ob (p.toNat < f.length)
              (.ix p f.length
               (.ob (p.toNat < f.length)
                (.ix i (f.set p.toNat (g (f.getD i.toNat d))).length
                 (.ob (i.toNat < (f.set p.toNat (g (f.getD i.toNat d))).length)
                  (.ret (.inl ((f.set p.toNat (g (f.getD i.toNat d))).set i.toNat (g (f.getD p.toNat d)))))))))))))
        (fun(p:Int) (f:List A)=> .ret (.inr f)) l)
     (.wh ((b - a).toNat+1) default
      (fun(w:Int×Int)=>
       .br (decide (w.fst < w.snd))
        (.ob ((0:Int)<=1)
         (.lt (bJ .i64 (BD .u64 (bJ .u64 (bJ .i64 (w.fst+w.snd))) 1)) fun(u:Int)=>
          .ix u l.length
           (.ob (u.toNat < l.length)
            (.ix a l.length
             (.ob (a.toNat < l.length)
              (.ob (q (g (l.getD u.toNat d)) (g (l.getD a.toNat d)))
               (.lt (c (g (l.getD u.toNat d)) (g (l.getD a.toNat d))) fun(F:Int)=>
                .br (decide (F < 0)) (.ret (.inl (bJ .i64 (u+1),w.snd))) (.ret (.inl (w.fst,u))))))))))
        (.ret (.inr (.inl w.fst))))
      (m,b)))
    (.ret (.inl l)))
abbrev az2 (c:A->A->Int)(q:A->A->Prop)(d:A)(e:Int->Int->Int->List A->List A)(f:Int->Int->Int->List A->Prop)(a m b:Int)(l:List A):Pg (List A):=anR (fun a=>a) c q d e f a m b l
theorem Hq {i j:Nat}(h:i+j<=4398046511104):bJ .i64 (BD .u64 (bJ .u64 (bJ .i64 ((i:Int)+(j:Int)))) 1)=(((i+j) / 2:Nat):Int):=by
 have a:bJ .i64 ((i:Int)+(j:Int))=((i+j:Nat):Int):=qW au h;rw[a,yO (k:= .u64) rfl (Nat.lt_of_le_of_lt h jy),show BD .u64 ((i+j:Nat):Int) 1=(((i+j) / 2:Nat):Int)from XV (k:= .u64) (i+j) 1 jy];exact w64 au
theorem Yc {R:Type}{n:Nat}{z:Int⊕R}{step:Int×Int->Pg ((Int×Int)⊕(Int⊕R))}{Q:R->Prop}(p:Nat->Bool)(c d:Nat)(v:c<=d)(B:d - c < n)
  (w:∀i j,c<=i->i<=j->j < d->p j=true->p i=true)
  (o:∀i j:Nat,c<=i->i < j->j<=d->kw (step ((i:Int),(j:Int))) fun s=>s= .inl (if p ((i+j) / 2)=true then((((i+j) / 2+1:Nat):Int),(j:Int))else((i:Int),(((i+j) / 2:Nat):Int))))
  (g:∀i:Nat,kw (step ((i:Int),(i:Int))) fun s=>s= .inr (.inl (i:Int))):
  kw (.wh n z step ((c:Int),(d:Int))) (Sum.elim (fun y=>∃k:Nat,y=(k:Int)/\c<=k/\k<=d/\(∀i,c<=i->i < k->p i=true)/\∀i,k<=i->i < d->p i=false) Q):=by
 refine qJ (fun x=>∃i j:Nat,x=((i:Int),(j:Int))/\c<=i/\i<=j/\j<=d/\(∀k,c<=k->k < i->p k=true)/\∀k,j<=k->k < d->p k=false) (fun x=>(x.2 - x.1).toNat) ⟨c,d,rfl,rC _,v,rC _,fun k o g=>by omega,fun k o g=>by omega⟩ (by show((d:Int) - (c:Int)).toNat < n;omega) ?_;rintro x ⟨i,j,rfl,h,A,q,r,u⟩;by_cases t:i < j
 ·obtain⟨l,m⟩:=o i j h t q;refine⟨l,?_⟩;rw[m];by_cases f:p ((i+j) / 2)=true
  ·rw[nI f];refine And.intro ⟨(i+j) / 2+1,j,rfl,by omega,by omega,q,fun k a b=>w k ((i+j) / 2) a au au f,u⟩ ?_;show((j:Int) - (((i+j) / 2+1:Nat):Int)).toNat < ((j:Int) - (i:Int)).toNat
   omega
  ·rw[kT f];refine And.intro ⟨i,(i+j) / 2,rfl,h,by omega,by omega,r,fun k a b=> ?_⟩ ?_
   ·cases e:p k with
    | false=>rfl
    | true=>exact absurd (w ((i+j) / 2) k au a b e) f
   ·show((((i+j) / 2:Nat):Int) - (i:Int)).toNat < ((j:Int) - (i:Int)).toNat
    omega
 ·obtain rfl:i=j:=by omega
  obtain⟨l,m⟩:=g i;refine⟨l,?_⟩;rw[m];exact Exists.intro i ⟨rfl,h,q,r,u⟩
theorem Aq (c:zT lt){X:List A}(h:BR lt X){i j:Nat}(a:i<=j)(b:j < X.length):lt (X.getD j d) (X.getD i d)=false:=by
 rcases Nat.lt_or_eq_of_le a with a | rfl
 ·have:=Qco.1 h i j au b a;simpa[List.getD,b,show i < X.length by omega]using this
 ·exact c.irr _
theorem zW {X:List A}{x:A}(h:x∈X):∃i,i < X.length/\X.getD i d=x:=by
 obtain⟨i,a,rfl⟩:=Qds h;exact⟨i,a,by simp[List.getD,a]⟩
theorem LJ {P X S:List A}{i k:Nat}(b:k=P.length+i)(a:i < X.length):(P++(X++S)).getD k d=X.getD i d:=by
 subst b;have:¬P.length+i < P.length:=by omega
 simp[List.getD,List.getElem?_append,a,this]
theorem NQ {X:List A}{t:Nat}{x:A}(h:x∈X.take t):∃i,i < t/\i < X.length/\X.getD i d=x:=by
 obtain⟨i,a,e⟩:=zW (d:=d) h;rw[C9]at a;refine⟨i,by omega,by omega,?_⟩;rw[<-e];simp[List.getD,Qcr,show i < t by omega]
theorem Nl {X:List A}{t:Nat}{x:A}(h:x∈X.drop t):∃i,t<=i/\i < X.length/\X.getD i d=x:=by
 obtain⟨i,a,e⟩:=zW (d:=d) h;rw[Qbe]at a;refine⟨t+i,by omega,by omega,?_⟩;rw[<-e];simp[List.getD,Qc3]
def aiO (c:A->A->Int)(P S X r:List A):Prop:=∃M,r=P++(M++S)/\BR (ltOf c) M/\qO (ltOf c) X M/\M.length=X.length
def mrg (c:A->A->Int)(a b:Int)(l r:List A):Prop:=∀P D S,l=P++(D++S)->a=(P.length:Int)->b=((P.length+D.length:Nat):Int)->aiO c P S D r
theorem aFG {P D S r:List A}{a b:Int}(l:a=(P.length:Int))(k:b=((P.length+D.length:Nat):Int))(h:aiO c P S D r):mrg c a b (P++(D++S)) r:=by
 intro m j i e f g;obtain⟨rfl,d⟩:=List.append_inj e au;obtain⟨rfl,rfl⟩:=List.append_inj d au;exact h
theorem aAs (Z:zT (ltOf c)){P Y S:List A}{x:A}(J:BR (ltOf c) Y)(hl:P.length+1+Y.length+S.length<=1099511627776)(hq:∀x'∈P++(([x]++Y)++S),∀y∈P++(([x]++Y)++S),q x' y){R:Type}{a m b:Int}(ha:a=(P.length:Int))(hm:m=((P.length+1:Nat):Int))(hb:b=((P.length+1+Y.length:Nat):Int)){l:List A}(C:l=P++(([x]++Y)++S)){Q1:R->Prop}:
  kw (.cut
     (fun(y4:Int)=>
      .lt (bJ .i64 (y4 - 1)) fun(N:Int)=>
       .cnt rP a N
        (fun(z:Int) (g:List A)=>
         .lt (bJ .i64 (z+1)) fun(o:Int)=>
          .ix o g.length
           (.ob (o.toNat < g.length)
            (.ix z g.length
             (.ob (z.toNat < g.length)
              (.ix z g.length
               (.ob (z.toNat < g.length)
                (.ix o (g.set z.toNat (g.getD o.toNat d)).length
                 (.ob (o.toNat < (g.set z.toNat (g.getD o.toNat d)).length)
                  (.ret (.inl ((g.set z.toNat (g.getD o.toNat d)).set o.toNat (g.getD z.toNat d))))))))))))
        (fun(z:Int) (g:List A)=> .ret (.inr g)) l)
     (.wh ((b - a).toNat+1) default
      (fun(B:Int×Int)=>
       .br (decide (B.fst < B.snd))
        (.ob ((0:Int)<=1)
         (.lt (bJ .i64 (BD .u64 (bJ .u64 (bJ .i64 (B.fst+B.snd))) 1)) fun(s:Int)=>
          .ix s l.length
           (.ob (s.toNat < l.length)
            (.ix a l.length
             (.ob (a.toNat < l.length)
              (.ob (q (l.getD s.toNat d) (l.getD a.toNat d))
               (.lt (c (l.getD s.toNat d) (l.getD a.toNat d)) fun(L:Int)=>
                .br (decide (L < 0)) (.ret (.inl (bJ .i64 (s+1),B.snd))) (.ret (.inl (B.fst,s))))))))))
        (.ret (.inr (.inl B.fst))))
      (m,b)):Pg (R⊕List A)) (Sum.elim Q1 (aiO c P S ([x]++Y))):=by
 subst ha hm hb;have hll:l.length=P.length+1+Y.length+S.length:=by rw[C];simp;omega
 have gx:l.getD P.length d=x:=by rw[C];exact get_at rfl
 have I:∀i,i < Y.length->l.getD (P.length+1+i) d=Y.getD i d:=fun i K=>by
  rw[C,show P++(([x]++Y)++S)=(P++[x])++(Y++S) by simp];exact LJ kM K
 refine bP _ (Yc (fun h=>ltOf c (l.getD h d) x) (P.length+1) (P.length+1+Y.length) au au (fun i j X E h3 T=> ?_) (fun i j X E h3=> ?_) (fun i=> ?_)) ?_
 ·obtain⟨i,rfl⟩:∃u,i=P.length+1+u:=⟨i - (P.length+1),by omega⟩;obtain⟨j,rfl⟩:∃u,j=P.length+1+u:=⟨j - (P.length+1),by omega⟩;rw[I j au]at T;rw[I i au];cases e:ltOf c (Y.getD i d) x with
  | true=>rfl
  | false=>
   have:=Z.trn e (Aq (d:=d) Z J (show i<=j by omega) au);rw[this]at T;cases T
 ·refine bQ (fun _=>aj au (aI fun s H=> ?_)) (fun h=>by exfalso;dsimp only at h;omega);dsimp only at H⊢;rw[Hq au]at H;subst H;refine aX au au (aj au (aX au au (aj au (aj ?_ (aI fun L F=> ?_)))))
  ·refine hq _ ?_ _ ?_
   ·rw[<-C];exact getD_mem au
   ·rw[<-C];exact getD_mem au
  ·rw[uZ,uZ,gx]at F;refine bQ (fun hc=>ai ?_) (fun hc=>ai ?_)
   ·have Q:ltOf c (l.getD ((i+j) / 2) d) x=true:=jK (by rw[<-F];exact hc);rw[nI Q,qW (n:=(i+j) / 2+1) au au]
   ·have Q:¬ltOf c (l.getD ((i+j) / 2) d) x=true:=by rw[Qc0];exact jF (by rw[<-F];exact hc)
    rw[kT Q]
 ·exact bQ (fun h=>absurd h (Qem _)) (fun _=>ai rfl)
 ·rintro y4 ⟨k,rfl,k1,k2,k3,k4⟩;obtain⟨t,rfl⟩:∃t,k=P.length+1+t:=⟨k - (P.length+1),by omega⟩;have hV:∀v∈Y.take t,ltOf c v x=true:=fun v D=>by
   obtain⟨i,X,E,rfl⟩:=NQ (d:=d) D;have:=k3 (P.length+1+i) au au;try dsimp only at this
   rwa [I i E]at this
  have hR:∀v∈Y.drop t,ltOf c v x=false:=fun v D=>by
   obtain⟨i,X,E,rfl⟩:=Nl (d:=d) D;have:=k4 (P.length+1+i) au au;try dsimp only at this
   rwa [I i E]at this
  have eY:Y=Y.take t++Y.drop t:=(Qbf t Y).symm;have lV:(Y.take t).length=t:=by rw[C9];omega
  have lR:t+(Y.drop t).length=Y.length:=by rw[Qbe];omega
  generalize Y.take t=V at*;generalize Y.drop t=W at*;subst eY;refine aI fun N G=> ?_;rw[qW (n:=P.length+t) au au]at G;subst G;refine yl (fun i r=>∃f p:List A,V=f++p/\i=((P.length+f.length:Nat):Int)/\r=P++(f++(x::(p++(W++S))))) ⟨[],V,rfl,by simp,by rw[C];simp⟩ au au ?_ ?_
  ·rintro i r h0 K ⟨f,p,rfl,rfl,rfl⟩;cases p with
   | nil=>simp at lV;omega
   | cons v p=>
    simp only[tK,zx]at lV K hl hll;have er:P++(f++(x::((v::p)++(W++S))))=(P++f)++x::([]++v::(p++(W++S))):=by simp
    rw[er];obtain⟨q1,q2,q3,q4⟩:=UV (P:=P++f) (M:=[]) (S:=p++(W++S)) (u:=x) (v:=v) (d:=d) (i:=P.length+f.length) (j:=P.length+f.length+1) kM kM;have hlen:((P++f)++x::([]++v::(p++(W++S)))).length=P.length+f.length+1+1+p.length+W.length+S.length:=by simp;omega
    generalize (P++f)++x::([]++v::(p++(W++S)))=r at*;refine aI fun o O=> ?_;rw[qW (n:=P.length+f.length+1) au au]at O;subst O;refine aX au au (aj au (aX au au (aj au (aX au au (aj au (aX au qb6 (aj qb6 (lI ?_))))))));rw[uZ,uZ,q1,q2,q3];exact⟨f++[v],p,by simp,by simp;omega,by simp⟩
  ·rintro i r h0 K ⟨f,p,rfl,rfl,rfl⟩;simp only[tK]at lV;have:p=[]:=Qau au;subst this;rw[Qbk]at*;refine AV ⟨f++(x::W),by simp,?_⟩;have k:=Yt Z (A1:=[]) (U:=[x]) (V:=f) (R:=W) (C1:=f) (C2:=x::W) (Qda _ _) J (fun u hu v D=>by
    obtain rfl:u=x:=by simpa using hu
    exact hV v D) (fun _ h=>by simp at h) (nN.1 J).1 (qO.refl _) (Qbh.2 ⟨fun w hw=>hR w hw,(nN.1 J).2.1⟩) (qO.refl _)
   exact⟨k.1,k.2,by simp;omega⟩
theorem atD (Z:zT (ltOf c)){P X S:List A}{y:A}(T:BR (ltOf c) X)(hl:P.length+X.length+1+S.length<=1099511627776)(hq:∀x'∈P++((X++[y])++S),∀y'∈P++((X++[y])++S),q x' y'){R:Type}{a m b:Int}(ha:a=(P.length:Int))(hm:m=((P.length+X.length:Nat):Int))(hb:b=((P.length+X.length+1:Nat):Int)){l:List A}(G:l=P++((X++[y])++S)){Q1:R->Prop}:
  kw (.cut
       (fun(ZW:Int)=>
        .wh ((b - a).toNat+1) default
         (fun(f:Int×List A)=>
          .br (decide (ZW < f.fst))
           (.lt (bJ .i64 (f.fst - 1)) fun(o:Int)=>
            .ix o f.snd.length
             (.ob (o.toNat < f.snd.length)
              (.ix f.fst f.snd.length
               (.ob (f.fst.toNat < f.snd.length)
                (.ix f.fst f.snd.length
                 (.ob (f.fst.toNat < f.snd.length)
                  (.lt (f.snd.set f.fst.toNat (f.snd.getD o.toNat d)) fun(F:List A)=>
                   .ix o F.length (.ob (o.toNat < F.length) (.ret (.inl (o,F.set o.toNat (f.snd.getD f.fst.toNat d))))))))))))
           (.ret (.inr (.inr f.snd))))
         (m,l))
       (.wh ((b - a).toNat+1) default
        (fun(C:Int×Int)=>
         .br (decide (C.fst < C.snd))
          (.ob ((0:Int)<=1)
           (.ix m l.length
            (.ob (m.toNat < l.length)
             (.lt (bJ .i64 (BD .u64 (bJ .u64 (bJ .i64 (C.fst+C.snd))) 1)) fun(p:Int)=>
              .ix p l.length
               (.ob (p.toNat < l.length)
                (.ob (q (l.getD m.toNat d) (l.getD p.toNat d))
                 (.lt (c (l.getD m.toNat d) (l.getD p.toNat d)) fun(v32:Int)=>
                  .br (!decide (v32 < 0)) (.ret (.inl (bJ .i64 (p+1),C.snd))) (.ret (.inl (C.fst,p))))))))))
          (.ret (.inr (.inl C.fst))))
        (a,m)):Pg (R⊕List A)) (Sum.elim Q1 (aiO c P S (X++[y]))):=by
 subst ha hm hb;have aa:l.length=P.length+X.length+1+S.length:=by rw[G];simp;omega
 have gy:l.getD (P.length+X.length) d=y:=by
  rw[G,show P++((X++[y])++S)=(P++X)++y::S by simp];exact get_at kM
 have Q:∀i,i < X.length->l.getD (P.length+i) d=X.getD i d:=fun i hi=>by
  rw[G,show P++((X++[y])++S)=P++(X++([y]++S)) by simp];exact LJ rfl hi
 refine bP _ (Yc (fun h=> !ltOf c y (l.getD h d)) P.length (P.length+X.length) au au (fun i j Y I h3 h4=> ?_) (fun i j Y I h3=> ?_) (fun i=> ?_)) ?_
 ·obtain⟨i,rfl⟩:∃u,i=P.length+u:=⟨i - P.length,by omega⟩;obtain⟨j,rfl⟩:∃u,j=P.length+u:=⟨j - P.length,by omega⟩;rw[Q j au]at h4;rw[Q i au];have:=Z.trn (Aq (d:=d) Z T (show i<=j by omega) au) (show ltOf c y (X.getD j d)=false by simpa using h4);rw[this];rfl
 ·refine bQ (fun _=>aj au (aX au au (aj au (aI fun p E=> ?_)))) (fun h=>by exfalso;dsimp only at h;omega);dsimp only at E⊢;rw[Hq au]at E;subst E;refine aX au au (aj au (aj ?_ (aI fun v37 J=> ?_)))
  ·refine hq _ ?_ _ ?_
   ·rw[<-G];exact getD_mem au
   ·rw[<-G];exact getD_mem au
  ·rw[uZ,uZ,gy]at J;refine dL (fun O=>ai ?_) (fun O=>ai ?_)
   ·rw[J]at O;rw[nI (show(!ltOf c y (l.getD ((i+j) / 2) d))=true from O),qW (n:=(i+j) / 2+1) au au]
   ·rw[J]at O;rw[kT (by rw[Qc0];exact O)]
 ·exact bQ (fun h=>absurd h (Qem _)) (fun _=>ai rfl)
 ·rintro y4 ⟨k,rfl,k1,k2,k3,k4⟩;obtain⟨t,rfl⟩:∃t,k=P.length+t:=⟨k - P.length,by omega⟩;have hA:∀v∈X.take t,ltOf c y v=false:=fun v H=>by
   obtain⟨i,Y,I,rfl⟩:=NQ (d:=d) H;have:=k3 (P.length+i) au au;try dsimp only at this
   rw[Q i I]at this;simpa using this
  have hU:∀v∈X.drop t,ltOf c y v=true:=fun v H=>by
   obtain⟨i,Y,I,rfl⟩:=Nl (d:=d) H;have:=k4 (P.length+i) au au;try dsimp only at this
   rw[Q i I]at this;simpa using this
  have eX:X=X.take t++X.drop t:=(Qbf t X).symm;have lA:(X.take t).length=t:=by rw[C9];omega
  have lU:t+(X.drop t).length=X.length:=by rw[Qbe];omega
  generalize X.take t=B at*;generalize X.drop t=U at*;subst eX;refine qJ (fun s=>∃D g:List A,U=D++g/\s=(((P.length+B.length+D.length:Nat):Int),P++(B++(D++(y::(g++S)))))) (fun s=>(s.1 - ((P.length:Nat):Int)).toNat) ⟨U,[],by simp,by rw[G];simp;omega⟩ (by show(((P.length+(B++U).length:Nat):Int) - ((P.length:Nat):Int)).toNat < _;omega) ?_;rintro s ⟨D,g,rfl,rfl⟩;refine bQ (fun W=> ?_) (fun hge=>AV ?_)
  ·rcases Qd7 D with rfl | ⟨N,z,rfl⟩
   ·simp at W;omega
   ·rw[Qd6]at*;simp only[tK,zx,BP]at W lU hl aa⊢;have er:P++(B++((N++[z])++(y::(g++S))))=(P++(B++N))++z::([]++y::(g++S)):=by simp
    rw[er];obtain⟨q1,q2,q3,q4⟩:=UV (P:=P++(B++N)) (M:=[]) (S:=g++S) (u:=z) (v:=y) (d:=d) (i:=P.length+B.length+N.length) (j:=P.length+B.length+(N.length+(0+1))) xI xI;have hlen:((P++(B++N))++z::([]++y::(g++S))).length=P.length+B.length+N.length+1+1+g.length+S.length:=by simp;omega
    generalize (P++(B++N))++z::([]++y::(g++S))=r at*;refine aI fun o K=> ?_;rw[qW (n:=P.length+B.length+N.length) au au]at K;subst K;refine aX au au (aj au (aX au au (aj au (aX au au (aj au (aI fun F L=>aX au (by rw[L,Qcl];omega) (aj (by rw[L,Qcl];omega) (lI ?_))))))));rw[L,uZ,uZ,q1,q2,q4];refine⟨⟨N,z::g,by simp,by simp⟩,?_⟩;show(((P.length+B.length+N.length:Nat):Int) - ((P.length:Nat):Int)).toNat < (((P.length+B.length+(N.length+(0+1)):Nat):Int) - ((P.length:Nat):Int)).toNat
    omega
  ·show aiO c P S (B++(D++g)++[y]) (P++(B++(D++(y::(g++S)))))
   simp only[tK]at lU hge;have:D=[]:=Qau au;subst this;rw[Qbs]at*;refine⟨B++(y::g),by simp,?_⟩;have k:=Yt Z (A1:=B) (U:=g) (V:=[y]) (R:=[]) (C1:=B++[y]) (C2:=g) T (by simp[BR]) (fun u hu v H=>by
    obtain rfl:v=y:=by simpa using H
    exact hU u hu) (fun _ _ _ h=>by simp at h) (nN.2 ⟨(nN.1 T).1,Qda _ _,fun x hx w hw=>by
    obtain rfl:w=y:=by simpa using hw
    exact hA x hx⟩) (qO.refl _) (nN.1 T).2.1 (by rw[Qbk];exact qO.refl _)
   have e:B++(y::g)=(B++[y])++g:=by simp
   rw[e];exact⟨k.1,by simpa using k.2,by simp<;>omega⟩
theorem aj0 (o:zT (ltOf c)){JL:Int->Int->Int->List A->List A}{PE:Int->Int->Int->List A->Prop}{R:Nat}(hQ:∀a m b l,Z4 c q R a m b l->PE a m b l)(hR:∀a m b l,Z4 c q R a m b l->mrg c a b l (JL a m b l)){a m b:Int}{l:List A}(h:Z4 c q (R+1) a m b l):
  kw (az2 c q d JL PE a m b l) (mrg c a b l):=by
 obtain⟨⟨hl,hq⟩,P,X,Y,S,rfl,rfl,rfl,rfl,w,F,nX,nY,hfu⟩:=h;have pX:=Qc9.2 nX;have pY:=Qc9.2 nY;simp only[tK]at hl
 suffices k:kw (az2 c q d JL PE (P.length:Int) ((P.length+X.length:Nat):Int) ((P.length+X.length+Y.length:Nat):Int) (P++((X++Y)++S))) (aiO c P S (X++Y))from⟨k.1,aFG rfl xI k.2⟩
 unfold az2;refine bP (fun y=>y=P++((X++Y)++S)/\X.length≠1) ?_ ?_
 ·refine aI fun v33 aIv=> ?_;rw[qW (n:=X.length) au au]at aIv;subst aIv;refine dR (fun h1=> ?_) (fun h1=>lI ⟨rfl,by omega⟩);obtain⟨x,rfl⟩:∃x,X=[x]:=Qd1.1 au;simp only[Qbx]at hl;exact aAs o F au hq rfl kM kM rfl
 rintro y7 ⟨rfl,h1⟩;refine bP (fun y=>y=P++((X++Y)++S)/\Y.length≠1) ?_ ?_
 ·refine aI fun v28 Q=> ?_;rw[qW (n:=Y.length) au au]at Q;subst Q;refine dR (fun h1=> ?_) (fun h1=>lI ⟨rfl,by omega⟩);obtain⟨y,rfl⟩:∃y,Y=[y]:=Qd1.1 au;simp only[Qbx]at hl;exact atD o w au hq rfl rfl kM rfl
 rintro JM ⟨rfl,h2⟩;have H:(P++((X++Y)++S)).length=P.length+X.length+Y.length+S.length:=by simp;omega
 have Z:∀i,i < X.length->(P++((X++Y)++S)).getD (P.length+i) d=X.getD i d:=fun i hi=>by
  rw[Qa2 X];exact LJ rfl hi
 have T:∀i,i < Y.length->(P++((X++Y)++S)).getD (P.length+X.length+i) d=Y.getD i d:=fun i hi=>by
  rw[show P++((X++Y)++S)=(P++X)++(Y++S) by simp];exact LJ kM hi
 obtain⟨f,K⟩:∃f,f=(P.length+(P.length+X.length+Y.length)) / 2:=⟨_,rfl⟩;refine aj au (aI fun v21 QU=>aI fun v22 aap=> ?_);rw[Hq au,<-K]at QU aap;rw[qW (n:=f+P.length+X.length) au au]at QU;subst QU aap;refine bP (fun y=>∃s0 s:Nat,y=((s0:Int),(s:Int))/\s0<=s/\P.length<=s0/\s<=P.length+X.length/\s<=f/\f<=s0+Y.length/\(s=P.length+X.length\/s=f)/\(s0=P.length\/s0+Y.length=f)) ?_ ?_
 ·refine bQ (fun hlt=>lI ?_) (fun hge=>lI ?_)
  ·rw[qW (n:=f - Y.length) au au];exact⟨f - Y.length,f,rfl,by omega,by omega,by omega,by omega,by omega, .inr rfl, .inr au⟩
  ·exact⟨P.length,P.length+X.length,rfl,by omega,by omega,by omega,by omega,by omega, .inl rfl, .inl rfl⟩
 rintro y16 ⟨s0,s,rfl,g1,g2,g3,g4,g5,g6,g7⟩;refine bP _ (Yc (fun k=> !ltOf c ((P++((X++Y)++S)).getD (f+P.length+X.length - 1 - k) d) ((P++((X++Y)++S)).getD k d)) s0 s g1 au (fun i j k1 k2 k3 O=> ?_) (fun i j k1 k2 k3=> ?_) (fun i=> ?_)) ?_
 ·obtain⟨i,rfl⟩:∃u,i=P.length+u:=⟨i - P.length,by omega⟩;obtain⟨j,rfl⟩:∃u,j=P.length+u:=⟨j - P.length,by omega⟩;have ei:f+P.length+X.length - 1 - (P.length+i)=P.length+X.length+(f - 1 - (P.length+i)):=by omega
  have ej:f+P.length+X.length - 1 - (P.length+j)=P.length+X.length+(f - 1 - (P.length+j)):=by omega
  rw[ej,Z j au,T _ au]at O;rw[ei,Z i au,T _ au];have p:=o.trn (Aq (d:=d) o w (show i<=j by omega) au) (show ltOf c (Y.getD (f - 1 - (P.length+j)) d) (X.getD j d)=false by simpa using O);have E:=o.trn p (Aq (d:=d) o F (show f - 1 - (P.length+j)<=f - 1 - (P.length+i) by omega) au);rw[E];rfl
 ·refine bQ (fun _=>aj au (aI fun v25 G=> ?_)) (fun h=>by exfalso;dsimp only at h;omega);try dsimp only at G⊢
  rw[Hq au,qW (i:=((f+P.length+X.length:Nat):Int) - 1) (n:=f+P.length+X.length - 1) au au,qW (i:=((f+P.length+X.length - 1:Nat):Int) - (((i+j) / 2:Nat):Int)) (n:=f+P.length+X.length - 1 - (i+j) / 2) au au]at G;subst G;refine aX au au (aj au (aI fun v26 aCa=> ?_));rw[Hq au]at aCa;subst aCa;refine aX au au (aj au (aj (hq _ (getD_mem au) _ (getD_mem au)) (aI fun v27 D=> ?_)));rw[uZ,uZ]at D;refine dL (fun M=>ai ?_) (fun M=>ai ?_)
  ·rw[D]at M;rw[nI (show(!ltOf c ((P++((X++Y)++S)).getD (f+P.length+X.length - 1 - (i+j) / 2) d) ((P++((X++Y)++S)).getD ((i+j) / 2) d))=true from M),qW (n:=(i+j) / 2+1) au au]
  ·rw[D]at M;rw[kT (show ¬(!ltOf c ((P++((X++Y)++S)).getD (f+P.length+X.length - 1 - (i+j) / 2) d) ((P++((X++Y)++S)).getD ((i+j) / 2) d))=true by rw[Qc0];exact M)]
 ·exact bQ (fun h=>absurd h (Qem _)) (fun _=>ai rfl)
 rintro ZQ ⟨k,rfl,k1,k2,k3,O⟩;obtain⟨t,rfl⟩:∃t,k=P.length+t:=⟨k - P.length,by omega⟩;have H1:∀u∈X.drop t,∀v∈Y.take (f - (P.length+t)),ltOf c v u=true:=fun u hu v hv=>by
  obtain⟨i,i1,i2,rfl⟩:=Nl (d:=d) hu;obtain⟨j,j1,j2,rfl⟩:=NQ (d:=d) hv;have:=O (P.length+t) au au;rw[show f+P.length+X.length - 1 - (P.length+t)=P.length+X.length+(f - 1 - (P.length+t)) by omega,Z t au,T _ au]at this;have e:ltOf c (Y.getD (f - 1 - (P.length+t)) d) (X.getD t d)=true:=by simpa using this
  cases e2:ltOf c (Y.getD j d) (X.getD i d)with
  | true=>rfl
  | false=>
   have p:=o.trn (Aq (d:=d) o w i1 i2) e2;have E:=o.trn p (Aq (d:=d) o F (show j<=f - 1 - (P.length+t) by omega) au);rw[E]at e;cases e
 have H2:∀x∈X.take t,∀r∈Y.drop (f - (P.length+t)),ltOf c r x=false:=fun x hx r hr=>by
  obtain⟨i,i1,i2,rfl⟩:=NQ (d:=d) hx;obtain⟨j,j1,j2,rfl⟩:=Nl (d:=d) hr;have:=k3 (P.length+t - 1) au au;rw[show f+P.length+X.length - 1 - (P.length+t - 1)=P.length+X.length+(f - (P.length+t)) by omega,show P.length+t - 1=P.length+(t - 1) by omega,Z (t - 1) au,T _ au]at this;have e:ltOf c (Y.getD (f - (P.length+t)) d) (X.getD (t - 1) d)=false:=by simpa using this
  have p:=o.trn (Aq (d:=d) o w (show i<=t - 1 by omega) au) e;exact o.trn p (Aq (d:=d) o F j1 j2)
 have lA:(X.take t).length=t:=by rw[C9];omega
 have lU:t+(X.drop t).length=X.length:=by rw[Qbe];omega
 have lV:P.length+t+(Y.take (f - (P.length+t))).length=f:=by rw[C9];omega
 have lW:(Y.take (f - (P.length+t))).length+(Y.drop (f - (P.length+t))).length=Y.length:=by rw[C9,Qbe];omega
 have eX:X=X.take t++X.drop t:=(Qbf t X).symm;have eY:Y=Y.take (f - (P.length+t))++Y.drop (f - (P.length+t)):=(Qbf _ Y).symm;clear Z T k3 O;generalize X.take t=B at*;generalize X.drop t=U at*;generalize Y.take (f - (P.length+t))=V at*;generalize Y.drop (f - (P.length+t))=W at*;subst eX eY;have eBU:(B++U).length=B.length+U.length:=tK;have eVW:(V++W).length=V.length+W.length:=tK;clear H;have H:(P++(((B++U)++(V++W))++S)).length=P.length+B.length+U.length+V.length+W.length+S.length:=by simp;omega
 simp only[tK]at hl lU lW g3 g5 g6 g7 h1 h2 hfu pX pY K;have hq':∀N:List A,(∀z∈N,z∈P++(((B++U)++(V++W))++S))->∀x∈N,∀y∈N,q x y:=fun N hN x hx y hy=>hq x (hN x hx) y (hN y hy)
 refine bP (fun y=>y=P++(B++(V++(U++(W++S))))) ?_ ?_
 ·have e0:U=[]\/V=[]->P++(((B++U)++(V++W))++S)=P++(B++(V++(U++(W++S)))):=by
   rintro(rfl | rfl)<;>simp
  refine bQ (fun C=>aI fun v24 I=> ?_) (fun C=>lI (e0 (.inl (Qau au))));rw[qW (n:=f+U.length) au au]at I;subst I;refine bQ (fun hv=>aj ⟨by omega,by omega,by omega,by rw[H];omega,by rw[H];omega⟩ (lI ?_)) (fun hv=>lI (e0 (.inr (Qau au))));have:=(ayq d (P++B) U V (W++S) (fun e=>by subst e;simp at C lU;omega) (fun e=>by subst e;simp at hv lV;omega) xI (a:=((P.length+t:Nat):Int)) (m:=((P.length+(B++U).length:Nat):Int)) (b:=((f+U.length:Nat):Int)) xI xI xI).2;show roV d _ _ _ _=_
  unfold roV;rw[show P++(((B++U)++(V++W))++S)=(P++B)++(U++(V++(W++S))) by simp];exact Qcf this kM
 rintro y19 rfl;have sB:=(nN.1 w).1;have sU:=(nN.1 w).2.1;have sV:=(nN.1 F).1;have sW:=(nN.1 F).2.1;refine bP (fun y=>∃g,y=P++(g++(U++(W++S)))/\BR (ltOf c) g/\qO (ltOf c) (B++V) g/\g.length=B.length+V.length) ?_ ?_
 ·have e1:B=[]\/V=[]->∃g,P++(B++(V++(U++(W++S))))=P++(g++(U++(W++S)))/\BR (ltOf c) g/\qO (ltOf c) (B++V) g/\g.length=B.length+V.length:=by
   rintro(rfl | rfl)
   ·exact⟨V,rfl,sV,qO.refl _,by simp⟩
   ·exact⟨B,rfl,sB,by rw[Qbk];exact qO.refl _,by simp⟩
  refine bQ (fun C=>bQ (fun hm=> ?_) (fun hm=>lI (e1 (.inr (Qau au))))) (fun C=>lI (e1 (.inl (Qau au))));have k:Z4 c q R (P.length:Int) ((P.length+t:Nat):Int) (f:Int) (P++(B++(V++(U++(W++S))))):=by
   refine⟨⟨by simp;omega,hq' _ fun z J=> ?_⟩,P,B,V,U++(W++S),by simp,rfl,by omega,by omega,sB,sV,?_,?_,by omega⟩
   ·simp only[vN]at J⊢;rcases J with h | h | h | h | h | h<;>simp[h]
   ·rintro rfl;simp at lA;omega
   ·rintro rfl;simp at lV;omega
  refine aj (hQ _ _ _ _ k) (lI ?_);obtain⟨g,p,E,q3,q4⟩:=hR _ _ _ _ k P (B++V) (U++(W++S)) kM rfl xI;exact⟨g,p,E,q3,by rw[q4,tK]⟩
 rintro y20 ⟨g,rfl,sC,tC,lC⟩;refine aI fun v23 afK=> ?_;rw[qW (n:=f+U.length) au au]at afK;subst afK;have L:∀{C2 r:List A},r=P++(g++(C2++S))->BR (ltOf c) C2->qO (ltOf c) (U++W) C2->C2.length=U.length+W.length->aiO c P S ((B++U)++(V++W)) r:=fun{C2 r} e s2 t2 l2=>by
  have:=Yt o w F H1 H2 sC tC s2 t2;exact⟨g++C2,by rw[e];simp,this.1,this.2,by simp;omega⟩
 have e2:U=[]\/W=[]->aiO c P S ((B++U)++(V++W)) (P++(g++(U++(W++S)))):=by
  rintro(rfl | rfl)
  ·exact L (C2:=W) rfl sW (qO.refl _) kM
  ·exact L (C2:=U) rfl sU (by rw[Qbk];exact qO.refl _) kM
 refine bQ (fun C=>bQ (fun hm=> ?_) (fun hm=>ai (e2 (.inr (Qau au))))) (fun C=>ai (e2 (.inl (Qau au))));have k:Z4 c q R (f:Int) ((f+U.length:Nat):Int) ((P.length+(B++U).length+(V++W).length:Nat):Int) (P++(g++(U++(W++S)))):=by
  refine⟨⟨by simp;omega,hq' _ fun z J=> ?_⟩,P++g,U,W,S,by simp,by simp;omega,by simp;omega,by simp;omega,sU,sW,?_,?_,by omega⟩
  ·simp only[vN]at J⊢;rcases J with h | h | h | h | h
   ·simp[h]
   ·have:=(tC.mem o).1 h;rcases vN.1 this with h | h<;>simp[h]
   ·simp[h]
   ·simp[h]
   ·simp[h]
  ·rintro rfl;simp at C
  ·rintro rfl;simp at lW hm;omega
 refine aj (hQ _ _ _ _ k) (ai ?_);obtain⟨C2,p,E,q3,q4⟩:=hR _ _ _ _ k (P++g) (U++W) S kM xI xI;exact L (by rw[p];simp) E q3 (by rw[q4,tK])
theorem abW {a m b:Int}{l:List A}{B:Prop}(h:Z4 c q 0 a m b l):B:=by
 obtain⟨_,_,_,_,_,_,_,_,_,_,_,_,_,h⟩:=h;exact absurd h (Nat.not_lt_zero _)
inductive Runs (lt:A->A->Bool) (k:Nat):List A->Prop where
 | last {l:List A}:BR lt l->l.length<=k->Runs lt k l
 | cons {x l:List A}:BR lt x->x.length=k->Runs lt k l->Runs lt k (x++l)
theorem ata {k:Nat}{l:List A}(g:0 < k)(h:Runs lt k l)(c:2*k<=l.length):∃x y t,l=x++(y++t)/\BR lt x/\BR lt y/\x.length=k/\y.length=k/\Runs lt k t:=by
 cases h with
 | last s d=>omega
 | @cons x l s e r=>
  rw[tK]at c;cases r with
  | last a d=>exact⟨x,l,[],by simp,s,a,e,by omega, .last List.Pairwise.nil (Jd _)⟩
  | @cons y t a b f=>exact⟨x,y,t,rfl,s,a,e,b,f⟩
theorem auf {k:Nat}{l:List A}(h:Runs lt k l)(c:k < l.length)(a:l.length < 2*k):∃x y,l=x++y/\BR lt x/\BR lt y/\x.length=k/\0 < y.length:=by
 cases h with
 | last s d=>omega
 | @cons x l s e r=>
  rw[tK]at c a;cases r with
  | last b d=>exact⟨x,l,rfl,s,b,e,by omega⟩
  | @cons y t b f g=>rw[tK]at a;omega
theorem Wh {k:Nat}{l:List A}(h:Runs lt k l)(a:l.length<=k):BR lt l:=by
 cases h with
 | last s b=>exact s
 | @cons x l s e r=>
  rw[tK]at a;have:l=[]:=Qau au;subst this;rw[Qbk];exact s
def aFl (g:A->A)(c:A->A->Int)(q:A->A->Prop)(d:A)(a b:Int)(l:List A):List A:=(agP g c q d a b l).val
abbrev inV (c:A->A->Int)(q:A->A->Prop)(d:A)(a b:Int)(l:List A):List A:=aFl (fun a=>a) c q d a b l
def ao3 (g:A->A)(c:A->A->Int)(q:A->A->Prop)(d:A)(o:Int->Int->Int->List A->List A)(n:Int)(l:List A):Pg (List A):=
 .cut
  (fun(i:Int×List A)=>
   .ob (inQ q i.fst n i.snd)
    (.wh (n.toNat+1) default
     (fun(b:Int×List A)=>
      .br (decide (b.fst < n))
       (.cut
        (fun(f:Int×List A)=>
         .lt (bJ .i64 (f.fst+b.fst)) fun(h:Int)=>
          .lt (bJ .i64 (b.fst*2)) fun(m:Int)=>
           .br (decide (h < n))
            (.ob (Z4 c q ((n - f.fst).toNat+1) f.fst h n f.snd) (.ret (.inl (m,o f.fst h n f.snd))))
            (.ret (.inl (m,f.snd))))
        (.lt (bJ .i64 (2*b.fst)) fun(j:Int)=>
         .wh (n.toNat+1) default
          (fun(a:Int×Int×List A)=>
           .br (decide (a.snd.fst<=n))
            (.lt (bJ .i64 (a.fst+b.fst)) fun(k:Int)=>
             .ob (Z4 c q ((a.snd.fst - a.fst).toNat+1) a.fst k a.snd.fst a.snd.snd)
              (.ret (.inl (a.snd.fst,bJ .i64 (a.snd.fst+j),o a.fst k a.snd.fst a.snd.snd))))
            (.ret (.inr (.inl (a.fst,a.snd.snd)))))
          (0,j,b.snd)))
       (.ret (.inr b.snd)))
     (20,aFl g c q d i.fst n i.snd)))
  (.wh (n.toNat+1) default
   (fun(e:Int×Int×List A)=>
    .br (decide (e.snd.fst<=n))
     (.ob (inQ q e.fst e.snd.fst e.snd.snd)
      (.ret (.inl (e.snd.fst,bJ .i64 (e.snd.fst+20),aFl g c q d e.fst e.snd.fst e.snd.snd))))
     (.ret (.inr (.inl (e.fst,e.snd.snd)))))
   (0,20,l))
abbrev aHe (c:A->A->Int)(q:A->A->Prop)(d:A)(b:Int->Int->Int->List A->List A)(n:Int)(l:List A):Pg (List A):=ao3 (fun a=>a) c q d b n l
def Sorted (c:A->A->Int)(l r:List A):Prop:=BR (ltOf c) r/\qO (ltOf c) l r/\r.length=l.length
theorem ajT (I:zT (ltOf c)){JL:Int->Int->Int->List A->List A}(W:∀a m b l,Z4 c q ((b - a).toNat+1) a m b l->mrg c a b l (JL a m b l)){n:Int}{l:List A}(O:stQ q n l):kw (aHe c q d JL n l) (Sorted c l):=by
 obtain⟨⟨hl,O⟩,rfl⟩:=O;have G:∀r,qO (ltOf c) l r->r.length=l.length->yP q r:=fun r h e=>⟨by omega,fun x hx y hy=>O x ((h.mem I).1 hx) y ((h.mem I).1 hy)⟩
 refine bP (fun y=>∃R1 f:List A,y=((R1.length:Int),R1++f)/\(∀T,Runs (ltOf c) 20 T->Runs (ltOf c) 20 (R1++T))/\qO (ltOf c) l (R1++f)/\(R1++f).length=l.length/\f.length < 20) ?_ ?_
 ·refine qJ (fun s=>∃R1 f:List A,s=((R1.length:Int),((R1.length+20:Nat):Int),R1++f)/\(∀T,Runs (ltOf c) 20 T->Runs (ltOf c) 20 (R1++T))/\qO (ltOf c) l (R1++f)/\(R1++f).length=l.length) (fun s=>((l.length:Int) - s.1).toNat) ⟨[],l,rfl,fun T h=>h,qO.refl _,rfl⟩ (by show((l.length:Int) - 0).toNat < _;omega) ?_;rintro s ⟨R1,f,rfl,g,j,i⟩;rw[tK]at i;refine bQ (fun C=> ?_) (fun B=>AV ?_)
  ·dsimp only at C⊢;obtain⟨D,F,rfl,lD⟩:∃D F,f=D++F/\D.length=20:=⟨f.take 20,f.drop 20,by simp,by simp;omega⟩;rw[tK]at i;have p:=G _ j xI;obtain⟨M,e,w,v,z⟩:=(amz (d:=d) I R1 D F p (a:=(R1.length:Int)) (b:=((R1.length+20:Nat):Int)) rfl au).2;refine aj ⟨p,by omega,by omega,by simp;omega⟩ (lI ⟨⟨R1++M,F,?_,fun T h=> ?_,j.trans ?_,by simp;omega⟩,?_⟩)
   ·refine Qdu xI (Qdu ?_ ?_)
    ·exact qW xI xI
    ·show inV _ _ _ _ _ _=_
     refine Qcf e ?_;simp
   ·rw[Qa2];exact g _ (.cons w au h)
   ·rw[Qa2];exact(qO.refl R1).app (v.app (qO.refl F))
   ·show((l.length:Int) - ((R1.length+20:Nat):Int)).toNat < ((l.length:Int) - (R1.length:Int)).toNat
    omega
  ·dsimp only at B;exact(⟨R1,f,rfl,g,j,by simp;omega,by omega⟩:∃R1 f:List A,_=((R1.length:Int),R1++f)/\(∀T,Runs (ltOf c) 20 T->Runs (ltOf c) 20 (R1++T))/\qO (ltOf c) l (R1++f)/\(R1++f).length=l.length/\f.length < 20)
 rintro y ⟨R1,f,rfl,g,j,i,H⟩;have p:=G _ j i;have k:=(amz (d:=d) I R1 f [] (by rw[Qbk];exact p) (a:=(R1.length:Int)) (b:=(l.length:Int)) rfl (by rw[<-i,tK])).2;rw[Qbk]at k;obtain⟨M,e,w,v,z⟩:=k;rw[Qbk]at e;have o:=i;rw[tK]at o;refine aj ⟨p,by omega,by omega,by rw[i];omega⟩ ?_;refine qJ (fun s=>∃(k:Nat) (r:List A),s=((k:Int),r)/\0 < k/\k<=2199023255552/\Runs (ltOf c) k r/\qO (ltOf c) l r/\r.length=l.length) (fun s=>((l.length:Int) - s.1).toNat) ⟨20,R1++M,?_,by decide,by decide,g _ (.last w au),j.trans ((qO.refl R1).app v),by simp;omega⟩ (by show((l.length:Int) - 20).toNat < _;omega) ?_
 ·refine Qdu rfl ?_;show inV _ _ _ _ _ _=_
  unfold inV;exact e
 clear e w v z i o p g j H;rintro s ⟨k,r,rfl,k0,kb,Z,X,V⟩;refine bQ (fun J=> ?_) (fun Y=>AV ⟨Wh Z (by dsimp only at Y⊢;omega),X,V⟩);refine bP (fun y=>∃R1 f:List A,y=((R1.length:Int),R1++f)/\(∀T,Runs (ltOf c) (2*k) T->Runs (ltOf c) (2*k) (R1++T))/\Runs (ltOf c) k f/\qO (ltOf c) l (R1++f)/\(R1++f).length=l.length/\f.length < 2*k) ?_ ?_
 ·refine aI fun v18 Q=> ?_;dsimp only at Q J;rw[qW (n:=2*k) au au]at Q;subst Q;refine qJ (fun s=>∃R1 f:List A,s=((R1.length:Int),((R1.length+2*k:Nat):Int),R1++f)/\(∀T,Runs (ltOf c) (2*k) T->Runs (ltOf c) (2*k) (R1++T))/\Runs (ltOf c) k f/\qO (ltOf c) l (R1++f)/\(R1++f).length=l.length) (fun s=>((l.length:Int) - s.1).toNat) ⟨[],r,by simp,fun T h=>h,Z,X,V⟩ (by show((l.length:Int) - 0).toNat < _;omega) ?_;rintro s ⟨R1,f,rfl,g,E,j,i⟩;have o:=i;rw[tK]at o;refine bQ (fun C=>aI fun v19 S=> ?_) (fun B=>AV ?_)
  ·dsimp only at C;obtain⟨x,y,t,rfl,U,R,P,N,rt⟩:=ata k0 E au;rw[tK,tK]at o;dsimp only at S⊢;rw[qW (n:=R1.length+k) au au]at S;subst S;have u:Z4 c q ((((R1.length+2*k:Nat):Int) - (R1.length:Int)).toNat+1) (R1.length:Int) ((R1.length+k:Nat):Int) ((R1.length+2*k:Nat):Int) (R1++(x++(y++t))):=
    ⟨G _ j i,R1,x,y,t,by simp,rfl,by omega,by omega,U,R,by rintro rfl;simp at P;omega,by rintro rfl;simp at N;omega,by omega⟩
   obtain⟨M,e,w,v,z⟩:=W _ _ _ _ u R1 (x++y) t kM rfl xI;rw[tK]at z;refine aj u (lI ⟨⟨R1++M,t,?_,fun T h=> ?_,rt,j.trans ?_,by simp;omega⟩,?_⟩)
   ·refine Qdu xI (Qdu ?_ ?_)
    ·exact qW xI xI
    ·show JL _ _ _ _=_
     rw[e];simp
   ·rw[Qa2];exact g _ (.cons w au h)
   ·rw[Qa2,<-Qa2 x];exact(qO.refl R1).app (v.app (qO.refl t))
   ·show((l.length:Int) - ((R1.length+2*k:Nat):Int)).toNat < ((l.length:Int) - (R1.length:Int)).toNat
    omega
  ·exact(⟨R1,f,rfl,g,E,j,i,by dsimp only at B;omega⟩:∃R1 f:List A,_=((R1.length:Int),R1++f)/\(∀T,Runs (ltOf c) (2*k) T->Runs (ltOf c) (2*k) (R1++T))/\Runs (ltOf c) k f/\qO (ltOf c) l (R1++f)/\(R1++f).length=l.length/\f.length < 2*k)
 rintro JM ⟨R1,f,rfl,g,E,j,i,H⟩;have o:=i;rw[tK]at o;dsimp only at J⊢;refine aI fun v16 K=>aI fun v17 L=> ?_;rw[qW (n:=R1.length+k) au au]at K;rw[qW (n:=2*k) au au]at L;subst K L;refine bQ (fun hm=> ?_) (fun hm=>lI ⟨⟨2*k,R1++f,rfl,by omega,by omega,g _ (.last (Wh E au) au),j,i⟩,?_⟩)
 ·obtain⟨x,y,rfl,U,R,P,N⟩:=auf E au H;rw[tK]at o H;have u:Z4 c q (((l.length:Int) - (R1.length:Int)).toNat+1) (R1.length:Int) ((R1.length+k:Nat):Int) (l.length:Int) (R1++(x++y)):=
   ⟨G _ j i,R1,x,y,[],by simp,rfl,by omega,by omega,U,R,by rintro rfl;simp at P;omega,by rintro rfl;simp at N,by omega⟩
  obtain⟨M,e,w,v,z⟩:=W _ _ _ _ u R1 (x++y) [] kM rfl xI;rw[tK]at z;rw[Qbk]at e;refine aj u (lI ⟨⟨2*k,R1++M,?_,by omega,by omega,g _ (.last w au),j.trans ((qO.refl R1).app v),by simp;omega⟩,?_⟩)
  ·exact Qdu rfl e
  ·show((l.length:Int) - ((2*k:Nat):Int)).toNat < ((l.length:Int) - (k:Int)).toNat
   omega
 ·show((l.length:Int) - ((2*k:Nat):Int)).toNat < ((l.length:Int) - (k:Int)).toNat
  omega
theorem afk (l:List A){i j:Nat}(h:i<=j):l.take i++((l.drop i).take (j - i)++l.drop j)=l:=by
 have:l.drop j=(l.drop i).drop (j - i):=by rw[List.drop_drop];congr 1;omega
 rw[this,Qbf,Qbf]
theorem aCr {a b n:Int}{l:List A}(h:swQ a b n l.length):Is (apQ d a b n l):=by
 obtain⟨g,e,j,i,m⟩:=h;obtain⟨a,rfl⟩:=Qa8 g;obtain⟨n,rfl⟩:=Qa8 e;obtain⟨b,rfl⟩:=Qa8 (show 0<=b by omega);have c:=afk l (show a<=a+n by omega);have f:=afk (l.drop (a+n)) (show b - (a+n)<=b - (a+n)+n by omega);rw[<-f]at c;have k:=(afu d (l.take a) ((l.drop a).take (a+n - a)) ((l.drop (a+n)).take (b - (a+n))) (((l.drop (a+n)).drop (b - (a+n))).take (b - (a+n)+n - (b - (a+n)))) ((l.drop (a+n)).drop (b - (a+n)+n)) xI xI (a:=(a:Int)) (b:=(b:Int)) (n:=(n:Int)) xI xI xI).1;rw[c]at k;exact k
theorem aCZ {a m b:Int}{l:List A}(h:roQ a m b l.length):Is (aFt d a m b l):=by
 obtain⟨g,n,j,i,o⟩:=h;obtain⟨a,rfl⟩:=Qa8 g;obtain⟨m,rfl⟩:=Qa8 (show 0<=m by omega);obtain⟨b,rfl⟩:=Qa8 (show 0<=b by omega);have c:=afk l (show a<=m by omega);have f:(l.drop m).take (b - m)++(l.drop m).drop (b - m)=l.drop m:=Qbf _ _;rw[<-f]at c;have k:=(ayq d (l.take a) ((l.drop a).take (m - a)) ((l.drop m).take (b - m)) ((l.drop m).drop (b - m)) (fun e=>by have:=Ll List.length e;simp at this;omega) (fun e=>by have:=Ll List.length e;simp at this;omega) xI (a:=(a:Int)) (m:=(m:Int)) (b:=(b:Int)) xI xI xI).1;rw[c]at k;exact k
theorem aCx (g:zT (ltOf c)){a b:Int}{l:List A}(h:inQ q a b l):Is (aFA c q d a b l):=by
 obtain⟨e,i,j,m⟩:=h;have n:=e.1;obtain⟨a,rfl⟩:=Qa8 i;obtain⟨b,rfl⟩:=Qa8 (show 0<=b by omega);have f:=afk l (show a<=b by omega);have k:=(amz (d:=d) g (l.take a) ((l.drop a).take (b - a)) (l.drop b) (by rw[f];exact e) (a:=(a:Int)) (b:=(b:Int)) xI xI).1;rw[f]at k;exact k
theorem ane (f:A->Int)(h:∀a b,ltOf c a b=decide (f a < f b)):zT (ltOf c):=by
 constructor
 ·intro a b d;rw[h]at d⊢;have:=EU d;exact jF au
 ·intro a b e i g;rw[h]at i g⊢;have:=Qbm i;have:=Qbm g;exact jF au
end
end Go.Vc
