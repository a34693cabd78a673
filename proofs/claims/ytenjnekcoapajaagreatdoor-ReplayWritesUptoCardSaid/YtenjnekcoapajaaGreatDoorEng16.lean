/- Own engine: Veo. -/
import Derived.Test.YtenjnekcoapajaaGreatDoorEng15
set_option linter.unusedVariables false
set_option linter.unusedSimpArgs false
namespace Go.Vc
section
variable {A:Type}
structure yg (lt:A->A->Bool):Prop where
 asym:∀{a b},lt a b=true->lt b a=false
 trn:∀{a b c},lt b a=false->lt c b=false->lt c a=false
def A7 (a:A->A->Bool)(x y:A):Bool:= !a x y && !a y x
def Aa (c:A->A->Bool)(l:List A):Prop:=l.Pairwise fun a b=>c b a=false
def o_ (a:A->A->Bool)(l b:List A):Prop:=∀x,b.filter (A7 a x)=l.filter (A7 a x)
variable {lt:A->A->Bool}
theorem yg.irr (h:yg lt)(a:A):lt a a=false:=by
 cases e:lt a a with
 | false=>rfl
 | true=>have:=h.asym e;grind
theorem yg.rfl' (h:yg lt)(a:A):A7 lt a a=true:=by unfold A7;rw[h.irr a];rfl
theorem Jb {x y:A}:A7 lt x y=true ↔ lt x y=false/\lt y x=false:=by
 unfold A7
 grind
theorem o_.refl (l:List A):o_ lt l l:=fun _=>rfl
theorem o_.trans {l m n:List A}(a:o_ lt l m)(b:o_ lt m n):o_ lt l n:=fun x=>(b x).trans (a x)
theorem o_.symm {l m:List A}(a:o_ lt l m):o_ lt m l:=fun x=>(a x).symm
theorem o_.app {l m a b:List A}(c:o_ lt l m)(d:o_ lt a b):o_ lt (l++a) (m++b):=fun x=>by
 rw[Qco,Qco,c x,d x]
theorem o_.mem {l m:List A}(b:yg lt)(h:o_ lt l m){x:A}:x∈m ↔ x∈l:=by
 have e:=h x;constructor
 ·intro a;have:x∈m.filter (A7 lt x):=Qbb.2 ⟨a,b.rfl' x⟩
  grind
 ·intro a;have:x∈l.filter (A7 lt x):=Qbb.2 ⟨a,b.rfl' x⟩
  grind
theorem adg (c:yg lt):∀{l m:List A},Aa lt l->Aa lt m->o_ lt l m->l=m
 | [],m,_,_,h=>by
  cases m with
  | nil=>rfl
  | cons b u=>exact absurd ((h.mem c).1 (Qba)) jQ
 | a::t,m,i,k,h=>by
  cases m with
  | nil=>exact absurd ((h.mem c).2 (Qba)) jQ
  | cons b u=>
   have d:=Qa6.1 i;have f:=Qa6.1 k;have g:lt a b=false:=by
    rcases yw.1 ((h.mem c).2 (Qba (a:=a) (l:=t)))with e | e
    ·rw[e];exact c.irr b
    grind
   have n:lt b a=false:=by
    rcases yw.1 ((h.mem c).1 (Qba (a:=b) (l:=u)))with e | e
    ·rw[e];exact c.irr a
    ·exact d.1 b e
   have e:=h a;rw[Qdq (c.rfl' a),Qdq (Jb.2 ⟨g,n⟩)]at e;injection e with j o
   subst j;congr 1;refine adg c d.2 f.2 fun x=> ?_;have:=h x
   grind
theorem anD (b:yg lt){u v x:A}(h:lt v u=true)(a:A7 lt x u=true)(c:A7 lt x v=true):False:=by
 have:=b.trn (Jb.1 a).1 (Jb.1 c).2
 grind
theorem Vg (d:yg lt){U V:List A}(h:∀u∈U,∀v∈V,lt v u=true):o_ lt (U++V) (V++U):=fun x=>by
 rw[Qco,Qco];by_cases a:U.filter (A7 lt x)=[]
 ·grind
 ·have b:V.filter (A7 lt x)=[]:=by
   obtain⟨u,a⟩:=List.exists_mem_of_ne_nil _ a;obtain⟨e,c⟩:=Qbb.1 a;refine List.filter_eq_nil_iff.2 fun v b f=> ?_;exact anD d (h u e v b) c f
  grind
theorem kW {l m:List A}:Aa lt (l++m) ↔ Aa lt l/\Aa lt m/\∀a∈l,∀b∈m,lt b a=false:=List.pairwise_append
theorem Vt (e:yg lt){A1 U V R C1 C2:List A}(i:Aa lt (A1++U))(j:Aa lt (V++R))(f:∀u∈U,∀v∈V,lt v u=true)(k:∀x∈A1,∀r∈R,lt r x=false)
  (g:Aa lt C1) (t1:o_ lt (A1++V) C1) (h:Aa lt C2) (t2:o_ lt (U++R) C2):Aa lt (C1++C2)/\o_ lt ((A1++U)++(V++R)) (C1++C2):=by
 refine⟨kW.2 ⟨g,h,fun a c b d=> ?_⟩,?_⟩
 ·have c:=(t1.mem e).1 c;have d:=(t2.mem e).1 d;rcases vO.1 c with c | c<;>rcases vO.1 d with d | d
  ·exact(kW.1 i).2.2 a c b d
  ·grind
  ·exact e.asym (f b d a c)
  ·exact(kW.1 j).2.2 a c b d
 ·have:o_ lt ((A1++U)++(V++R)) ((A1++V)++(U++R)):=by
   grind [o_.app,o_.refl,Vg]
  exact this.trans (t1.app t2)
theorem jF {X R:Type}{a:X->Prop}{Q:R->Prop}{z:X}(h:a z):gU (.ret (.inl z)) (Sum.elim a Q):=⟨is_ret,h⟩
theorem yz {X R:Type}{a:X->Prop}{Q:R->Prop}{z:R}(h:Q z):gU (.ret (.inr z)) (Sum.elim a Q):=⟨is_ret,h⟩
def srtQ (q:A->A->Prop)(l:List A):Prop:=l.length<=1099511627776/\∀x∈l,∀y∈l,q x y
def swQ (a b n:Int)(k:Nat):Prop:=0<=a/\0<=n/\a+n<=b/\b+n<=(k:Int)/\k<=1099511627776
def roQ (a m b:Int)(k:Nat):Prop:=0<=a/\a < m/\m < b/\b<=(k:Int)/\k<=1099511627776
def inQ (q:A->A->Prop)(a b:Int)(l:List A):Prop:=srtQ q l/\0<=a/\a<=b/\b<=(l.length:Int)
def ltOf (c:A->A->Int)(x y:A):Bool:=decide (c x y < 0)
def XH (c:A->A->Int)(q:A->A->Prop)(d:Nat)(a m b:Int)(l:List A):Prop:=srtQ q l/\∃P X Y S:List A,l=P++((X++Y)++S)/\a=(P.length:Int)/\m=((P.length+X.length:Nat):Int)/\b=((P.length+X.length+Y.length:Nat):Int)/\Aa (ltOf c) X/\Aa (ltOf c) Y/\X≠[]/\Y≠[]/\X.length+Y.length < d
def stQ (q:A->A->Prop)(n:Int)(l:List A):Prop:=srtQ q l/\n=(l.length:Int)
variable {c:A->A->Int}{q:A->A->Prop}{d:A}
def af_ (g:A->A)(d:A)(a b n:Int)(l:List A):Pg (List A):=
 .cnt mg 0 n
  (fun(h:Int) (c:List A)=>
   .lt (aQ .i64 (b+h)) fun(f:Int)=>
    .ix f c.length
     (.ob (f.toNat < c.length)
      (.lt (aQ .i64 (a+h)) fun(e:Int)=>
       .ix e c.length
        (.ob (e.toNat < c.length)
         (.ix e c.length
          (.ob (e.toNat < c.length)
           (.ix f (c.set e.toNat (g (c.getD f.toNat d))).length
            (.ob (f.toNat < (c.set e.toNat (g (c.getD f.toNat d))).length)
             (.ret (.inl ((c.set e.toNat (g (c.getD f.toNat d))).set f.toNat (g (c.getD e.toNat d)))))))))))))
  (fun(h:Int) (c:List A)=> .ret c) l
abbrev apM (d:A)(a b n:Int)(l:List A):Pg (List A):=af_ (fun a=>a) d a b n l
def axX (g:A->A)(d:A)(a b n:Int)(l:List A):List A:=(af_ g d a b n l).val
abbrev swV (d:A)(a b n:Int)(l:List A):List A:=axX (fun a=>a) d a b n l
def afF (g:A->A)(d:A)(a m b:Int)(l:List A):Pg (List A):=
 .lt (aQ .i64 (m - a)) fun(i:Int)=>
  .lt (aQ .i64 (b - m)) fun(h:Int)=>
   .wh ((b - a).toNat+1) default
    (fun(c:Int×Int×List A)=>
     .lt (aQ .i64 (m - c.fst)) fun(e:Int)=>
      .br (c.fst !=c.snd.fst)
       (.br (decide (c.snd.fst < c.fst))
        (.ob (swQ e m c.snd.fst c.snd.snd.length) (.ret (.inl (aQ .i64 (c.fst - c.snd.fst),c.snd.fst,axX g d e m c.snd.fst c.snd.snd))))
        (.lt (aQ .i64 (aQ .i64 (m+c.snd.fst) - c.fst)) fun(f:Int)=>
         .ob (swQ e f c.fst c.snd.snd.length) (.ret (.inl (c.fst,aQ .i64 (c.snd.fst - c.fst),axX g d e f c.fst c.snd.snd)))))
       (.ob (swQ e m c.fst c.snd.snd.length) (.ret (.inr (axX g d e m c.fst c.snd.snd)))))
    (i,h,l)
abbrev aD_ (d:A)(a m b:Int)(l:List A):Pg (List A):=afF (fun a=>a) d a m b l
def aH5 (g:A->A)(d:A)(a m b:Int)(l:List A):List A:=(afF g d a m b l).val
abbrev roV (d:A)(a m b:Int)(l:List A):List A:=aH5 (fun a=>a) d a m b l
def aeT (g:A->A)(c:A->A->Int)(q:A->A->Prop)(d:A)(a b:Int)(l:List A):Pg (List A):=
 .lt (aQ .i64 (a+1)) fun(k:Int)=>
  .cnt mg k b
   (fun(j:Int) (i:List A)=>
    .wh ((b - a).toNat+1) default
     (fun(e:Int×List A)=>
      .br (decide (a < e.fst))
       (.ix e.fst e.snd.length
        (.ob (e.fst.toNat < e.snd.length)
         (.lt (aQ .i64 (e.fst - 1)) fun(f:Int)=>
          .ix f e.snd.length
           (.ob (f.toNat < e.snd.length)
            (.ob (q (g (e.snd.getD e.fst.toNat d)) (g (e.snd.getD f.toNat d)))
             (.lt (c (g (e.snd.getD e.fst.toNat d)) (g (e.snd.getD f.toNat d))) fun(m:Int)=>
              .br (decide (m < 0))
               (.ix f e.snd.length
                (.ob (f.toNat < e.snd.length)
                 (.ix e.fst e.snd.length
                  (.ob (e.fst.toNat < e.snd.length)
                   (.ix e.fst e.snd.length
                    (.ob (e.fst.toNat < e.snd.length)
                     (.lt (e.snd.set e.fst.toNat (g (e.snd.getD f.toNat d))) fun(h:List A)=>
                      .ix f h.length (.ob (f.toNat < h.length) (.ret (.inl (f,h.set f.toNat (g (e.snd.getD e.fst.toNat d)))))))))))))
               (.ret (.inr (.inl e.snd)))))))))
       (.ret (.inr (.inl e.snd))))
     (j,i))
   (fun(j:Int) (i:List A)=> .ret i) l
abbrev aEt (c:A->A->Int)(q:A->A->Prop)(d:A)(a b:Int)(l:List A):Pg (List A):=aeT (fun a=>a) c q d a b l
theorem get_at {P S:List A}{u d:A}{k:Nat}(h:k=P.length):(P++u::S).getD k d=u:=by grind
theorem aD1 {P S:List A}{u v:A}{k:Nat}(h:k=P.length):(P++u::S).set k v=P++v::S:=by subst h;simp
theorem Q4 {P M S:List A}{u v d:A}{i j:Nat}(b:i=P.length)(a:j=P.length+1+M.length):
  (P++u::(M++v::S)).getD i d=u/\(P++u::(M++v::S)).getD j d=v/\((P++u::(M++v::S)).set i v).set j u=P++v::(M++u::S)/\((P++u::(M++v::S)).set j u).set i v=P++v::(M++u::S):=by
 grind [get_at,aD1]
theorem w64 {n:Nat}(h:n<=4398046511104):aQ .i64 (n:Int)=(n:Int):=bn (k:= .i64) kM
theorem oH {i:Int}{n:Nat}(e:i=(n:Int))(h:n<=4398046511104):aQ .i64 i=(n:Int):=by rw[e];exact w64 h
theorem aby (d:A)(x U w V y:List A)(h:U.length=V.length)(z:x.length+U.length+w.length+V.length<=1099511627776){a b n:Int}(I:a=(x.length:Int))(G:b=((x.length+U.length+w.length:Nat):Int))(F:n=(U.length:Int)):
  gU (apM d a b n (x++(U++(w++(V++y))))) (fun r=>r=x++(V++(w++(U++y)))):=by
 subst I G F;refine rO (fun i r=>∃c f k g:List A,U=c++f/\V=k++g/\i=(c.length:Int)/\c.length=k.length/\r=x++(k++(f++(w++(c++(g++y)))))) ⟨[],U,[],V,rfl,rfl,rfl,rfl,rfl⟩ aj aj ?_ ?_
 ·rintro i r t l ⟨c,f,k,g,rfl,rfl,rfl,e,rfl⟩;cases f with
  | nil=>simp at l
  | cons u f=>
   cases g with
   | nil=>grind
   | cons v g=>
    simp only[uX,JV]at h z l⊢;have D:x++(k++((u::f)++(w++(c++((v::g)++y)))))=(x++k)++u::((f++(w++c))++v::(g++y)):=by simp
    rw[D];have C:aQ .i64 (((x.length+(c.length+(f.length+1))+w.length:Nat):Int)+(c.length:Int))=((x.length+(c.length+(f.length+1))+w.length+c.length:Nat):Int):=oH aj aj;have q:aQ .i64 ((x.length:Int)+(c.length:Int))=((x.length+c.length:Nat):Int):=oH aj aj;obtain⟨J,H,p,K⟩:=Q4 (P:=x++k) (M:=f++(w++c)) (S:=g++y) (u:=u) (v:=v) (d:=d) (i:=x.length+c.length) (j:=x.length+(c.length+(f.length+1))+w.length+c.length) vH vH;have B:((x++k)++u::((f++(w++c))++v::(g++y))).length=x.length+k.length+1+f.length+w.length+c.length+1+g.length+y.length:=by simp;omega
    generalize (x++k)++u::((f++(w++c))++v::(g++y))=r at*;refine au fun N o=> ?_;rw[C]at o;subst o;refine aH aj aj (ah aj (au fun L m=> ?_));rw[q]at m;subst m;refine aH aj aj (ah aj (aH aj aj (ah aj (aH aj dm (ah (by rw[Qdl];omega) (jF ?_))))));rw[qA,qA,J,H,p];exact⟨c++[u],f,k++[v],g,by simp,by simp,by simp,by simp[e],by simp⟩
 ·rintro i r t l ⟨c,f,k,g,rfl,rfl,rfl,e,rfl⟩;simp only[uX]at h l;have s:f=[]:=Qan aj;have E:g=[]:=Qan aj;subst s E;exact af jQ
theorem aw7 (d:A)(x U V y:List A)(F:U≠[])(J:V≠[])(X:x.length+U.length+V.length+y.length<=1099511627776){a m b:Int}(N:a=(x.length:Int))(O:m=((x.length+U.length:Nat):Int))(K:b=((x.length+U.length+V.length:Nat):Int)):
  gU (aD_ d a m b (x++(U++(V++y)))) (fun r=>r=x++(V++(U++y))):=by
 subst N O K;have P:=Qcj.2 F;have G:=Qcj.2 J;refine au fun W t=>au fun T q=> ?_;rw[oH (n:=U.length) aj aj]at t;rw[oH (n:=V.length) aj aj]at q;subst t q;refine kQ (fun s=>∃f e c g:List A,s=((e.length:Int),(c.length:Int),f++(e++(c++g)))/\0 < e.length/\0 < c.length/\f.length+e.length=x.length+U.length/\f.length+e.length+c.length+g.length=x.length+U.length+V.length+y.length/\f++(c++(e++g))=x++(V++(U++y)))
  (fun s=>(s.1+s.2.1).toNat) ⟨x,U,V,y,rfl,P,G,rfl,rfl,rfl⟩ dm ?_
 rintro s ⟨f,e,c,g,rfl,M,H,B,E,I⟩;refine au fun R p=> ?_;dsimp only at p⊢;rw[oH (n:=f.length) aj aj]at p;subst p;refine bu (fun v=>aU (fun C=> ?_) (fun D=> ?_)) (fun u=> ?_)
 ·
  obtain⟨l,o,rfl,z⟩:∃l o,e=l++o/\l.length=c.length:=⟨e.take c.length,e.drop c.length,by simp,by simp;omega⟩;simp only[uX]at M B E C v⊢;have k:(apM d (f.length:Int) ((x.length+U.length:Nat):Int) (c.length:Int) (f++(l++(o++(c++g))))).val=f++(c++(o++(l++g))):=(aby d f l o c g z aj (a:=(f.length:Int)) (b:=((x.length+U.length:Nat):Int)) (n:=(c.length:Int)) rfl aj aj).2;refine ah ⟨by omega,by omega,by omega,by omega,by omega⟩ (jF ⟨⟨f++c,o,l,g,?_,by omega,by omega,by grind,by grind,by grind⟩,?_⟩)
  ·refine Qcr ?_ (Qcr ?_ ?_)
   ·grind [oH]
   ·grind
   ·show swV d _ _ _ _=_
    have:(l++o)++(c++g)=l++(o++(c++g)):=by simp
    rw[this];refine Qb7 k ?_;simp
  grind [oH]
 ·obtain⟨h,j,rfl,Q⟩:∃h j,c=h++j/\j.length=e.length:=⟨c.take (c.length - e.length),c.drop (c.length - e.length),by simp,by simp;omega⟩;simp only[uX]at H B E D v⊢;refine au fun S w=> ?_;rw[oH (i:=((x.length+U.length:Nat):Int)+((h.length+j.length:Nat):Int)) (n:=x.length+U.length+h.length+j.length) aj aj,oH (n:=x.length+U.length+h.length) aj aj]at w;subst w;have k:(apM d (f.length:Int) ((x.length+U.length+h.length:Nat):Int) (e.length:Int) (f++(e++(h++(j++g))))).val=f++(j++(h++(e++g))):=(aby d f e h j g aj aj (a:=(f.length:Int)) (b:=((x.length+U.length+h.length:Nat):Int)) (n:=(e.length:Int)) rfl aj rfl).2;refine ah ⟨by omega,by omega,by omega,by omega,by omega⟩ (jF ⟨⟨f,j,h,e++g,?_,by omega,by omega,by omega,by grind,by grind⟩,?_⟩)
  ·refine Qcr ?_ (Qcr ?_ ?_)
   ·omega
   ·grind [oH]
   ·show swV d _ _ _ _=_
    have:(h++j)++g=h++(j++g):=by simp
    rw[this];refine Qb7 k ?_;rfl
  grind [oH]
 ·have u:e.length=c.length:=by omega
  have k:=(aby d f e [] c g u vH (a:=(f.length:Int)) (b:=((x.length+U.length:Nat):Int)) (n:=(e.length:Int)) rfl vH rfl).2;refine ah ⟨by omega,by omega,by omega,by grind,by grind⟩ (yz ?_);show swV d _ _ _ _=_
  have L:(apM d (f.length:Int) ((x.length+U.length:Nat):Int) (e.length:Int) (f++(e++(c++g)))).val=f++(c++(e++g)):=k;refine Qb7 L ?_;rw[I]
theorem avp (f:yg lt){e a b:List A}{y:A}(i:Aa lt (a++b))(k:o_ lt e (a++b))(l:∀z∈b,lt y z=true)(j:∀M z,a=M++[z]->lt y z=false):Aa lt (a++y::b)/\o_ lt (e++[y]) (a++y::b):=by
 obtain⟨g,m,n⟩:=kW.1 i;refine⟨kW.2 ⟨g,Qa6.2 ⟨fun w d=>f.asym (l w d),m⟩,fun x c w d=> ?_⟩,?_⟩
 ·rcases yw.1 d with rfl | d
  ·rcases Qdy a with rfl | ⟨M,z,rfl⟩
   ·simp at c
   ·rw[Qdx]at*;have h:=j M z rfl;rcases vO.1 c with c | c
    ·exact f.trn ((kW.1 g).2.2 x c z jQ) h
    grind
  grind
 ·have:o_ lt (e++[y]) (a++(b++[y])):=by
   rw[<-Yt];exact k.app (o_.refl _)
  refine this.trans ((o_.refl a).app ?_);exact Vg f (V:=[y]) fun u o v p=>by
   grind
theorem ahn (W:yg (ltOf c))(P D S:List A)(H:srtQ q (P++(D++S))){a b:Int}(ha:a=(P.length:Int))(hb:b=((P.length+D.length:Nat):Int)):
  gU (aEt c q d a b (P++(D++S))) (fun r=>∃M,r=P++(M++S)/\Aa (ltOf c) M/\o_ (ltOf c) D M/\M.length=D.length):=by
 subst ha hb;obtain⟨T,H⟩:=H;simp only[uX]at T;refine au fun v6 E=> ?_;rw[oH (n:=P.length+1) aj aj]at E;subst E;cases D with
 | nil=>
  refine rO (fun i r=>r=P++([]++S)) rfl aj vH (fun i y h1 h2 X=> ?_) (fun i y h1 h2 X=>af ⟨[],X,List.Pairwise.nil,o_.refl _,rfl⟩)
  grind
 | cons x D=>
  refine rO (fun i r=>∃h f M:List A,x::D=h++f/\i=((P.length+h.length:Nat):Int)/\M.length=h.length/\Aa (ltOf c) M/\o_ (ltOf c) h M/\r=P++(M++(f++S))) ⟨[x],D,[x],rfl,by simp,rfl,Qc2 _ _,o_.refl _,rfl⟩ aj aj ?_ ?_
  ·rintro i r h0 Y ⟨h,f,M,J,rfl,p,R,I,rfl⟩;have U:D.length+1=h.length+f.length:=by grind
   cases f with
   | nil=>grind
   | cons y f=>
    simp only[JV]at T Y U;refine kQ (fun s=>∃k g:List A,M=k++g/\s=(((P.length+k.length:Nat):Int),P++(k++(y::(g++(f++S)))))/\∀z∈g,ltOf c y z=true) (fun s=>(s.1 - (P.length:Int)).toNat) ⟨M,[],by simp,by simp[p],by simp⟩ dm ?_;rintro s ⟨k,g,rfl,rfl,V⟩;have l:(∀M z,k=M++[z]->ltOf c y z=false)->∃m G M':List A,x::D=m++G/\((P.length+h.length:Nat):Int)+1=((P.length+m.length:Nat):Int)/\M'.length=m.length/\Aa (ltOf c) M'/\o_ (ltOf c) m M'/\P++(k++(y::(g++(f++S))))=P++(M'++(G++S)):=fun h4=>by
     obtain⟨q1,q2⟩:=avp W R I V h4;simp only[uX]at p;exact⟨h++[y],f,k++y::g,by rw[J];simp,by simp;omega,by simp;omega,q1,q2,by simp⟩
    refine aU (fun B=> ?_) (fun hge=>yz ?_)
    ·rcases Qdy k with rfl | ⟨N,z,rfl⟩
     ·simp at B
     ·rw[Qdx]at*;simp only[uX,JV,Qa7]at p B⊢;have er:P++((N++[z])++(y::(g++(f++S))))=(P++N)++z::([]++y::(g++(f++S))):=by simp
      obtain⟨o,t,Z,O⟩:=Q4 (P:=P++N) (M:=[]) (S:=g++(f++S)) (u:=z) (v:=y) (d:=d) (i:=P.length+N.length) (j:=P.length+(N.length+(0+1))) jQ vH;have L:((P++N)++z::([]++y::(g++(f++S)))).length=P.length+N.length+1+1+g.length+f.length+S.length:=by simp;omega
      have K:q y z:=H y (by rw[J];simp) z (by
       have:z∈h:=(I.mem W).1 jQ
       grind)
      rw[er]at l⊢;generalize (P++N)++z::([]++y::(g++(f++S)))=r at o t Z O L l⊢;refine aH aj aj (ah aj (au fun v7 F=> ?_));rw[oH (n:=P.length+N.length) aj aj]at F;subst F;refine aH aj aj (ah aj (ah ?_ (au fun v8 X_=> ?_)))
      ·rw[qA,qA,o,t];exact K
      ·rw[qA,qA,o,t]at X_;refine aU (fun hc=>aH aj aj (ah aj (aH aj aj (ah aj (aH aj aj (ah aj (au fun v9 C=>aH aj dm (ah (by rw[C,Qdl];omega) (jF ?_))))))))) (fun hc=>yz ?_)
       ·rw[C,qA,qA,o,t,O];refine⟨⟨N,z::g,by simp,by simp,fun w Q=> ?_⟩,?_⟩
        ·rcases yw.1 Q with rfl | Q
         ·exact wz aj
         grind
        omega
       ·refine l fun M z' e=> ?_;obtain⟨_,e⟩:=List.append_inj' e rfl;injection e with e
        subst e;exact pO aj
    ·refine l fun M z e=> ?_
     grind
  ·rintro i r h0 Y ⟨h,f,M,J,rfl,p,R,I,rfl⟩;have U:(x::D).length=h.length+f.length:=by grind
   have:f=[]:=Qan aj
   grind [af]
def alQ (g:A->A)(c:A->A->Int)(q:A->A->Prop)(d:A)(J:Int->Int->Int->List A->List A)(O:Int->Int->Int->List A->Prop)(a m b:Int)(l:List A):Pg (List A):=
 .cut
  (fun(p:List A)=>
   .cut
    (fun(k:List A)=>
     .ob ((0:Int)<=1)
      (.lt (aQ .i64 (aQ .i64 (lN .u64 (aQ .u64 (aQ .i64 (a+b))) 1)+m)) fun(x:Int)=>
       .lt (aQ .i64 (lN .u64 (aQ .u64 (aQ .i64 (a+b))) 1)) fun(j:Int)=>
        .cut
         (fun(I:Int×Int)=>
          .cut
           (fun(v:Int)=>
            .cut
             (fun(y:List A)=>
              .cut
               (fun(z:List A)=>
                .lt (aQ .i64 (x - v)) fun(C:Int)=>
                 .br (decide (j < C)) (.br (decide (C < b)) (.ob (O j C b z) (.ret (J j C b z))) (.ret z)) (.ret z))
               (.br (decide (a < v)) (.br (decide (v < j)) (.ob (O a v j y) (.ret (.inl (J a v j y)))) (.ret (.inl y)))
                (.ret (.inl y))))
             (.br (decide (v < m))
              (.lt (aQ .i64 (x - v)) fun(E:Int)=>
               .br (decide (m < E)) (.ob (roQ v m E k.length) (.ret (.inl (aH5 g d v m E k)))) (.ret (.inl k)))
              (.ret (.inl k))))
           (.wh ((b - a).toNat+1) default
            (fun(h:Int×Int)=>
             .br (decide (h.fst < h.snd))
              (.ob ((0:Int)<=1)
               (.lt
                (aQ .i64
                 (aQ .i64 (x - 1) - aQ .i64 (lN .u64 (aQ .u64 (aQ .i64 (h.fst+h.snd))) 1)))
                fun(B:Int)=>
                .ix B k.length
                 (.ob (B.toNat < k.length)
                  (.lt (aQ .i64 (lN .u64 (aQ .u64 (aQ .i64 (h.fst+h.snd))) 1)) fun(s:Int)=>
                   .ix s k.length
                    (.ob (s.toNat < k.length)
                     (.ob (q (g (k.getD B.toNat d)) (g (k.getD s.toNat d)))
                      (.lt (c (g (k.getD B.toNat d)) (g (k.getD s.toNat d))) fun(F:Int)=>
                       .br (!decide (F < 0)) (.ret (.inl (aQ .i64 (s+1),h.snd)))
                        (.ret (.inl (h.fst,s))))))))))
              (.ret (.inr (.inl h.fst))))
            I))
         (.br (decide (j < m)) (.ret (.inl (aQ .i64 (x - b),j))) (.ret (.inl (a,m))))))
    (.lt (aQ .i64 (b - m)) fun(G:Int)=>
     .br (G==1)
      (.cut
       (fun(L:Int)=>
        .wh ((b - a).toNat+1) default
         (fun(e:Int×List A)=>
          .br (decide (L < e.fst))
           (.lt (aQ .i64 (e.fst - 1)) fun(o:Int)=>
            .ix o e.snd.length
             (.ob (o.toNat < e.snd.length)
              (.ix e.fst e.snd.length
               (.ob (e.fst.toNat < e.snd.length)
                (.ix e.fst e.snd.length
                 (.ob (e.fst.toNat < e.snd.length)
                  (.lt (e.snd.set e.fst.toNat (g (e.snd.getD o.toNat d))) fun(D:List A)=>
                   .ix o D.length (.ob (o.toNat < D.length) (.ret (.inl (o,D.set o.toNat (g (e.snd.getD e.fst.toNat d)))))))))))))
           (.ret (.inr (.inr e.snd))))
         (m,p))
       (.wh ((b - a).toNat+1) default
        (fun(n:Int×Int)=>
         .br (decide (n.fst < n.snd))
          (.ob ((0:Int)<=1)
           (.ix m p.length
            (.ob (m.toNat < p.length)
             (.lt (aQ .i64 (lN .u64 (aQ .u64 (aQ .i64 (n.fst+n.snd))) 1)) fun(t:Int)=>
              .ix t p.length
               (.ob (t.toNat < p.length)
                (.ob (q (g (p.getD m.toNat d)) (g (p.getD t.toNat d)))
                 (.lt (c (g (p.getD m.toNat d)) (g (p.getD t.toNat d))) fun(H:Int)=>
                  .br (!decide (H < 0)) (.ret (.inl (aQ .i64 (t+1),n.snd))) (.ret (.inl (n.fst,t))))))))))
          (.ret (.inr (.inl n.fst))))
        (a,m)))
      (.ret (.inl p))))
  (.lt (aQ .i64 (m - a)) fun(M:Int)=>
   .br (M==1)
    (.cut
     (fun(P:Int)=>
      .lt (aQ .i64 (P - 1)) fun(N:Int)=>
       .cnt mg a N
        (fun(r:Int) (f:List A)=>
         .lt (aQ .i64 (r+1)) fun(i:Int)=>
          .ix i f.length
           (.ob (i.toNat < f.length)
            (.ix r f.length
             (.ob (r.toNat < f.length)
              (.ix r f.length
               (.ob (r.toNat < f.length)
                (.ix i (f.set r.toNat (g (f.getD i.toNat d))).length
                 (.ob (i.toNat < (f.set r.toNat (g (f.getD i.toNat d))).length)
                  (.ret (.inl ((f.set r.toNat (g (f.getD i.toNat d))).set i.toNat (g (f.getD r.toNat d)))))))))))))
        (fun(r:Int) (f:List A)=> .ret (.inr f)) l)
     (.wh ((b - a).toNat+1) default
      (fun(w:Int×Int)=>
       .br (decide (w.fst < w.snd))
        (.ob ((0:Int)<=1)
         (.lt (aQ .i64 (lN .u64 (aQ .u64 (aQ .i64 (w.fst+w.snd))) 1)) fun(u:Int)=>
          .ix u l.length
           (.ob (u.toNat < l.length)
            (.ix a l.length
             (.ob (a.toNat < l.length)
              (.ob (q (g (l.getD u.toNat d)) (g (l.getD a.toNat d)))
               (.lt (c (g (l.getD u.toNat d)) (g (l.getD a.toNat d))) fun(K:Int)=>
                .br (decide (K < 0)) (.ret (.inl (aQ .i64 (u+1),w.snd))) (.ret (.inl (w.fst,u))))))))))
        (.ret (.inr (.inl w.fst))))
      (m,b)))
    (.ret (.inl l)))
abbrev axB (c:A->A->Int)(q:A->A->Prop)(d:A)(e:Int->Int->Int->List A->List A)(f:Int->Int->Int->List A->Prop)(a m b:Int)(l:List A):Pg (List A):=alQ (fun a=>a) c q d e f a m b l
theorem uT {i j:Nat}(h:i+j<=4398046511104):aQ .i64 (lN .u64 (aQ .u64 (aQ .i64 ((i:Int)+(j:Int)))) 1)=(((i+j) / 2:Nat):Int):=by
 have a:aQ .i64 ((i:Int)+(j:Int))=((i+j:Nat):Int):=oH aj h;rw[a,kE (k:= .u64) rfl (Qcq h dH),show lN .u64 ((i+j:Nat):Int) 1=(((i+j) / 2:Nat):Int)from EJ (k:= .u64) (i+j) 1 dH];exact w64 aj
theorem Un {R:Type}{n:Nat}{v:Int⊕R}{step:Int×Int->Pg ((Int×Int)⊕(Int⊕R))}{Q:R->Prop}(p:Nat->Bool)(c d:Nat)(m:c<=d)(z:d - c < n)
  (w:∀i j,c<=i->i<=j->j < d->p j=true->p i=true)
  (e:∀i j:Nat,c<=i->i < j->j<=d->gU (step ((i:Int),(j:Int))) fun s=>s= .inl (if p ((i+j) / 2)=true then((((i+j) / 2+1:Nat):Int),(j:Int))else((i:Int),(((i+j) / 2:Nat):Int))))
  (g:∀i:Nat,gU (step ((i:Int),(i:Int))) fun s=>s= .inr (.inl (i:Int))):
  gU (.wh n v step ((c:Int),(d:Int))) (Sum.elim (fun y=>∃k:Nat,y=(k:Int)/\c<=k/\k<=d/\(∀i,c<=i->i < k->p i=true)/\∀i,k<=i->i < d->p i=false) Q):=by
 refine kQ (fun x=>∃i j:Nat,x=((i:Int),(j:Int))/\c<=i/\i<=j/\j<=d/\(∀k,c<=k->k < i->p k=true)/\∀k,j<=k->k < d->p k=false) (fun x=>(x.2 - x.1).toNat) ⟨c,d,rfl,pJ _,m,pJ _,fun k e g=>by omega,fun k e g=>by omega⟩ aj ?_;rintro x ⟨i,j,rfl,r,A,l,t,u⟩;by_cases q:i < j
 ·obtain⟨h,o⟩:=e i j r q l;refine⟨h,?_⟩;rw[o];by_cases f:p ((i+j) / 2)=true
  ·rw[vJ f];refine And.intro ⟨(i+j) / 2+1,j,rfl,by omega,by omega,l,fun k a b=>w k ((i+j) / 2) a aj aj f,u⟩ ?_;omega
  ·rw[uU f];refine And.intro ⟨i,(i+j) / 2,rfl,r,by omega,by omega,t,fun k a b=> ?_⟩ ?_
   ·grind
   omega
 ·obtain rfl:i=j:=by omega
  obtain⟨h,o⟩:=g i;refine⟨h,?_⟩
  grind
theorem y_ (b:yg lt){X:List A}(h:Aa lt X){i j:Nat}(a:i<=j)(c:j < X.length):lt (X.getD j d) (X.getD i d)=false:=by
 rcases Nat.lt_or_eq_of_le a with a | rfl
 ·have:=Qb6.1 h i j aj c a
  grind
 ·exact b.irr _
theorem uH {X:List A}{x:A}(h:x∈X):∃i,i < X.length/\X.getD i d=x:=by
 obtain⟨i,a,rfl⟩:=List.getElem_of_mem h;exact⟨i,a,by grind⟩
theorem Uh {P X S:List A}{i k:Nat}(a:k=P.length+i)(b:i < X.length):(P++(X++S)).getD k d=X.getD i d:=by
 grind
theorem JH {X:List A}{t:Nat}{x:A}(h:x∈X.take t):∃i,i < t/\i < X.length/\X.getD i d=x:=by
 obtain⟨i,a,e⟩:=uH (d:=d) h
 grind
theorem Lt {X:List A}{t:Nat}{x:A}(h:x∈X.drop t):∃i,t<=i/\i < X.length/\X.getD i d=x:=by
 obtain⟨i,a,e⟩:=uH (d:=d) h
 grind
def ae1 (c:A->A->Int)(P S X r:List A):Prop:=∃M,r=P++(M++S)/\Aa (ltOf c) M/\o_ (ltOf c) X M/\M.length=X.length
def mrg (c:A->A->Int)(a b:Int)(l r:List A):Prop:=∀P D S,l=P++(D++S)->a=(P.length:Int)->b=((P.length+D.length:Nat):Int)->ae1 c P S D r
theorem aFd {P D S r:List A}{a b:Int}(k:a=(P.length:Int))(m:b=((P.length+D.length:Nat):Int))(h:ae1 c P S D r):mrg c a b (P++(D++S)) r:=by
 intro j i l e g f;obtain⟨rfl,d⟩:=List.append_inj e aj;obtain⟨rfl,rfl⟩:=List.append_inj d aj;exact h
theorem axZ (N:yg (ltOf c)){P Y S:List A}{x:A}(F:Aa (ltOf c) Y)(hl:P.length+1+Y.length+S.length<=1099511627776)(hq:∀x'∈P++(([x]++Y)++S),∀y∈P++(([x]++Y)++S),q x' y){R:Type}{a m b:Int}(ha:a=(P.length:Int))(hm:m=((P.length+1:Nat):Int))(hb:b=((P.length+1+Y.length:Nat):Int)){l:List A}(el:l=P++(([x]++Y)++S)){Q1:R->Prop}:
  gU (.cut
     (fun(X:Int)=>
      .lt (aQ .i64 (X - 1)) fun(I:Int)=>
       .cnt mg a I
        (fun(z:Int) (g:List A)=>
         .lt (aQ .i64 (z+1)) fun(o:Int)=>
          .ix o g.length
           (.ob (o.toNat < g.length)
            (.ix z g.length
             (.ob (z.toNat < g.length)
              (.ix z g.length
               (.ob (z.toNat < g.length)
                (.ix o (g.set z.toNat (g.getD o.toNat d)).length
                 (.ob (o.toNat < (g.set z.toNat (g.getD o.toNat d)).length)
                  (.ret (.inl ((g.set z.toNat (g.getD o.toNat d)).set o.toNat (g.getD z.toNat d))))))))))))
        (fun(z:Int) (g:List A)=> .ret (.inr g)) l)
     (.wh ((b - a).toNat+1) default
      (fun(B:Int×Int)=>
       .br (decide (B.fst < B.snd))
        (.ob ((0:Int)<=1)
         (.lt (aQ .i64 (lN .u64 (aQ .u64 (aQ .i64 (B.fst+B.snd))) 1)) fun(s:Int)=>
          .ix s l.length
           (.ob (s.toNat < l.length)
            (.ix a l.length
             (.ob (a.toNat < l.length)
              (.ob (q (l.getD s.toNat d) (l.getD a.toNat d))
               (.lt (c (l.getD s.toNat d) (l.getD a.toNat d)) fun(H:Int)=>
                .br (decide (H < 0)) (.ret (.inl (aQ .i64 (s+1),B.snd))) (.ret (.inl (B.fst,s))))))))))
        (.ret (.inr (.inl B.fst))))
      (m,b)):Pg (R⊕List A)) (Sum.elim Q1 (ae1 c P S ([x]++Y))):=by
 subst ha hm hb;have Q:l.length=P.length+1+Y.length+S.length:=by grind
 have gx:l.getD P.length d=x:=by grind
 have gY:∀i,i < Y.length->l.getD (P.length+1+i) d=Y.getD i d:=fun i O=>by
  grind [Uh]
 refine bg _ (Un (fun h=>ltOf c (l.getD h d) x) (P.length+1) (P.length+1+Y.length) aj aj (fun i j J L h3 h4=> ?_) (fun i j J L h3=> ?_) (fun i=> ?_)) ?_
 ·obtain⟨i,rfl⟩:∃u,i=P.length+1+u:=⟨i - (P.length+1),by omega⟩;obtain⟨j,rfl⟩:∃u,j=P.length+1+u:=⟨j - (P.length+1),by omega⟩;rw[gY j aj]at h4;rw[gY i aj];cases e:ltOf c (Y.getD i d) x with
  | true=>rfl
  | false=>
   have:=N.trn e (y_ (d:=d) N F (show i<=j by omega) aj)
   grind
 ·refine aU (fun _=>ah aj (au fun s D=> ?_)) (fun h=>by omega);dsimp only at D⊢;rw[uT aj]at D;subst D;refine aH aj aj (ah aj (aH aj aj (ah aj (ah ?_ (au fun H Z=> ?_)))))
  ·refine hq _ ?_ _ ?_
   ·grind
   simp_all
  ·rw[qA,qA,gx]at Z;refine aU (fun hc=>af ?_) (fun hc=>af ?_)
   ·have K:ltOf c (l.getD ((i+j) / 2) d) x=true:=wz aj;rw[vJ K,oH (n:=(i+j) / 2+1) aj aj]
   ·have K:¬ltOf c (l.getD ((i+j) / 2) d) x=true:=by rw[Qc0];exact pO aj
    rw[uU K]
 ·grind [aU,af]
 ·rintro X ⟨k,rfl,k1,k2,k3,k4⟩;obtain⟨t,rfl⟩:∃t,k=P.length+1+t:=⟨k - (P.length+1),by omega⟩;have hV:∀v∈Y.take t,ltOf c v x=true:=fun v E=>by
   obtain⟨i,J,L,rfl⟩:=JH (d:=d) E
   grind
  have hR:∀v∈Y.drop t,ltOf c v x=false:=fun v E=>by
   obtain⟨i,J,L,rfl⟩:=Lt (d:=d) E
   grind
  have eY:Y=Y.take t++Y.drop t:=(Qa3 t Y).symm;have T:(Y.take t).length=t:=by grind
  have lR:t+(Y.drop t).length=Y.length:=by grind
  generalize Y.take t=V at*;generalize Y.drop t=W at*;subst eY;refine au fun I C=> ?_;rw[oH (n:=P.length+t) aj aj]at C;subst C;refine rO (fun i r=>∃f p:List A,V=f++p/\i=((P.length+f.length:Nat):Int)/\r=P++(f++(x::(p++(W++S))))) ⟨[],V,rfl,by simp,by rw[el];simp⟩ aj aj ?_ ?_
  ·rintro i r h0 O ⟨f,p,rfl,rfl,rfl⟩;cases p with
   | nil=>grind
   | cons v p=>
    simp only[uX,JV]at T O hl Q;have er:P++(f++(x::((v::p)++(W++S))))=(P++f)++x::([]++v::(p++(W++S))):=by simp
    rw[er];obtain⟨q1,q2,q3,q4⟩:=Q4 (P:=P++f) (M:=[]) (S:=p++(W++S)) (u:=x) (v:=v) (d:=d) (i:=P.length+f.length) (j:=P.length+f.length+1) jQ jQ;have hlen:((P++f)++x::([]++v::(p++(W++S)))).length=P.length+f.length+1+1+p.length+W.length+S.length:=by simp;omega
    generalize (P++f)++x::([]++v::(p++(W++S)))=r at*;refine au fun o G=> ?_;rw[oH (n:=P.length+f.length+1) aj aj]at G;subst G;refine aH aj aj (ah aj (aH aj aj (ah aj (aH aj aj (ah aj (aH aj dm (ah (by rw[Qdl];omega) (jF ?_))))))));rw[qA,qA,q1,q2,q3];exact⟨f++[v],p,by simp,by simp;omega,by simp⟩
  ·rintro i r h0 O ⟨f,p,rfl,rfl,rfl⟩;simp only[uX]at T;have:p=[]:=Qan aj;subst this;rw[Qa5]at*;refine yz ⟨f++(x::W),by simp,?_⟩;have k:=Vt N (A1:=[]) (U:=[x]) (V:=f) (R:=W) (C1:=f) (C2:=x::W) (Qc2 _ _) F (fun u hu v E=>by
    grind) (fun _ h=>by simp at h) (kW.1 F).1 (o_.refl _) (Qa6.2 ⟨fun w hw=>hR w hw,(kW.1 F).2.1⟩) (o_.refl _)
   grind
theorem ave (T:yg (ltOf c)){P X S:List A}{y:A}(I:Aa (ltOf c) X)(hl:P.length+X.length+1+S.length<=1099511627776)(hq:∀x'∈P++((X++[y])++S),∀y'∈P++((X++[y])++S),q x' y'){R:Type}{a m b:Int}(ha:a=(P.length:Int))(hm:m=((P.length+X.length:Nat):Int))(hb:b=((P.length+X.length+1:Nat):Int)){f:List A}(L:f=P++((X++[y])++S)){Q1:R->Prop}:
  gU (.cut
       (fun(y11:Int)=>
        .wh ((b - a).toNat+1) default
         (fun(e:Int×List A)=>
          .br (decide (y11 < e.fst))
           (.lt (aQ .i64 (e.fst - 1)) fun(l:Int)=>
            .ix l e.snd.length
             (.ob (l.toNat < e.snd.length)
              (.ix e.fst e.snd.length
               (.ob (e.fst.toNat < e.snd.length)
                (.ix e.fst e.snd.length
                 (.ob (e.fst.toNat < e.snd.length)
                  (.lt (e.snd.set e.fst.toNat (e.snd.getD l.toNat d)) fun(E:List A)=>
                   .ix l E.length (.ob (l.toNat < E.length) (.ret (.inl (l,E.set l.toNat (e.snd.getD e.fst.toNat d))))))))))))
           (.ret (.inr (.inr e.snd))))
         (m,f))
       (.wh ((b - a).toNat+1) default
        (fun(p:Int×Int)=>
         .br (decide (p.fst < p.snd))
          (.ob ((0:Int)<=1)
           (.ix m f.length
            (.ob (m.toNat < f.length)
             (.lt (aQ .i64 (lN .u64 (aQ .u64 (aQ .i64 (p.fst+p.snd))) 1)) fun(o:Int)=>
              .ix o f.length
               (.ob (o.toNat < f.length)
                (.ob (q (f.getD m.toNat d) (f.getD o.toNat d))
                 (.lt (c (f.getD m.toNat d) (f.getD o.toNat d)) fun(Y:Int)=>
                  .br (!decide (Y < 0)) (.ret (.inl (aQ .i64 (o+1),p.snd))) (.ret (.inl (p.fst,o))))))))))
          (.ret (.inr (.inl p.fst))))
        (a,m)):Pg (R⊕List A)) (Sum.elim Q1 (ae1 c P S (X++[y]))):=by
 subst ha hm hb;have W:f.length=P.length+X.length+1+S.length:=by grind
 have gy:f.getD (P.length+X.length) d=y:=by
  grind
 have gX:∀i,i < X.length->f.getD (P.length+i) d=X.getD i d:=fun i hi=>by
  grind [Uh]
 refine bg _ (Un (fun h=> !ltOf c y (f.getD h d)) P.length (P.length+X.length) aj aj (fun i j O Q h3 Z=> ?_) (fun i j O Q h3=> ?_) (fun i=> ?_)) ?_
 ·obtain⟨i,rfl⟩:∃u,i=P.length+u:=⟨i - P.length,by omega⟩;obtain⟨j,rfl⟩:∃u,j=P.length+u:=⟨j - P.length,by omega⟩;rw[gX j aj]at Z;rw[gX i aj];have:=T.trn (y_ (d:=d) T I (show i<=j by omega) aj) (show ltOf c y (X.getD j d)=false by simpa using Z);rw[this];rfl
 ·refine aU (fun _=>ah aj (aH aj aj (ah aj (au fun o D=> ?_)))) (fun h=>by omega);dsimp only at D⊢;rw[uT aj]at D;subst D;refine aH aj aj (ah aj (ah ?_ (au fun v37 G=> ?_)))
  ·refine hq _ ?_ _ ?_
   ·rw[<-L];exact getD_mem aj
   ·rw[<-L];exact getD_mem aj
  ·rw[qA,qA,gy]at G;refine bH (fun H=>af ?_) (fun H=>af ?_)
   ·rw[G]at H;rw[vJ (show(!ltOf c y (f.getD ((i+j) / 2) d))=true from H),oH (n:=(i+j) / 2+1) aj aj]
   ·rw[G]at H;rw[uU (by rw[Qc0];exact H)]
 ·grind [aU,af]
 ·rintro y4 ⟨k,rfl,k1,k2,k3,k4⟩;obtain⟨t,rfl⟩:∃t,k=P.length+t:=⟨k - P.length,by omega⟩;have hA:∀v∈X.take t,ltOf c y v=false:=fun v J=>by
   obtain⟨i,O,Q,rfl⟩:=JH (d:=d) J
   grind
  have hU:∀v∈X.drop t,ltOf c y v=true:=fun v J=>by
   obtain⟨i,O,Q,rfl⟩:=Lt (d:=d) J
   grind
  have eX:X=X.take t++X.drop t:=(Qa3 t X).symm;have lA:(X.take t).length=t:=by grind
  have lU:t+(X.drop t).length=X.length:=by grind
  generalize X.take t=B at*;generalize X.drop t=U at*;subst eX;refine kQ (fun s=>∃C g:List A,U=C++g/\s=(((P.length+B.length+C.length:Nat):Int),P++(B++(C++(y::(g++S)))))) (fun s=>(s.1 - ((P.length:Nat):Int)).toNat) ⟨U,[],by simp,by rw[L];simp;omega⟩ aj ?_;rintro s ⟨C,g,rfl,rfl⟩;refine aU (fun hlt=> ?_) (fun hge=>yz ?_)
  ·rcases Qdy C with rfl | ⟨N,z,rfl⟩
   ·grind
   ·rw[Qdx]at*;simp only[uX,JV,Qa7]at hlt lU hl W⊢;have er:P++(B++((N++[z])++(y::(g++S))))=(P++(B++N))++z::([]++y::(g++S)):=by simp
    rw[er];obtain⟨q1,q2,q3,q4⟩:=Q4 (P:=P++(B++N)) (M:=[]) (S:=g++S) (u:=z) (v:=y) (d:=d) (i:=P.length+B.length+N.length) (j:=P.length+B.length+(N.length+(0+1))) vH vH;have hlen:((P++(B++N))++z::([]++y::(g++S))).length=P.length+B.length+N.length+1+1+g.length+S.length:=by simp;omega
    generalize (P++(B++N))++z::([]++y::(g++S))=r at*;refine au fun l F=> ?_;rw[oH (n:=P.length+B.length+N.length) aj aj]at F;subst F;refine aH aj aj (ah aj (aH aj aj (ah aj (aH aj aj (ah aj (au fun E K=>aH aj dm (ah (by rw[K,Qdl];omega) (jF ?_))))))));rw[K,qA,qA,q1,q2,q4];refine⟨⟨N,z::g,by simp,by simp⟩,?_⟩;omega
  ·show ae1 c P S (B++(C++g)++[y]) (P++(B++(C++(y::(g++S)))))
   simp only[uX]at lU hge;have:C=[]:=Qan aj;subst this;rw[Qd]at*;refine⟨B++(y::g),by simp,?_⟩;have k:=Vt T (A1:=B) (U:=g) (V:=[y]) (R:=[]) (C1:=B++[y]) (C2:=g) I (by simp[Aa]) (fun u hu v J=>by
    grind) (fun _ _ _ h=>by simp at h) (kW.2 ⟨(kW.1 I).1,Qc2 _ _,fun x hx w hw=>by
    grind⟩) (o_.refl _) (kW.1 I).2.1 (by rw[Qa5];exact o_.refl _)
   grind
theorem aiW (o:yg (ltOf c)){IW:Int->Int->Int->List A->List A}{MJ:Int->Int->Int->List A->Prop}{H:Nat}(hQ:∀a m b l,XH c q H a m b l->MJ a m b l)(hR:∀a m b l,XH c q H a m b l->mrg c a b l (IW a m b l)){a m b:Int}{l:List A}(h:XH c q (H+1) a m b l):
  gU (axB c q d IW MJ a m b l) (mrg c a b l):=by
 obtain⟨⟨hl,hq⟩,P,X,Y,S,rfl,rfl,rfl,rfl,w,E,nX,nY,hfu⟩:=h;have pX:=Qcj.2 nX;have pY:=Qcj.2 nY;simp only[uX]at hl
 suffices k:gU (axB c q d IW MJ (P.length:Int) ((P.length+X.length:Nat):Int) ((P.length+X.length+Y.length:Nat):Int) (P++((X++Y)++S))) (ae1 c P S (X++Y))from⟨k.1,aFd rfl vH k.2⟩
 unfold axB;refine bg (fun y=>y=P++((X++Y)++S)/\X.length≠1) ?_ ?_
 ·refine au fun v33 aIp=> ?_;rw[oH (n:=X.length) aj aj]at aIp;subst aIp;refine bI (fun Q=> ?_) (fun Q=>jF ⟨rfl,by omega⟩);obtain⟨x,rfl⟩:∃x,X=[x]:=List.length_eq_one_iff.1 aj;simp only[Qb8]at hl;exact axZ o E aj hq rfl jQ jQ rfl
 rintro y7 ⟨rfl,Q⟩;refine bg (fun y=>y=P++((X++Y)++S)/\Y.length≠1) ?_ ?_
 ·refine au fun v28 T=> ?_;rw[oH (n:=Y.length) aj aj]at T;subst T;refine bI (fun Q=> ?_) (fun Q=>jF ⟨rfl,by omega⟩);obtain⟨y,rfl⟩:∃y,Y=[y]:=List.length_eq_one_iff.1 aj;simp only[Qb8]at hl;exact ave o w aj hq rfl rfl jQ rfl
 rintro IX ⟨rfl,h2⟩;have F:(P++((X++Y)++S)).length=P.length+X.length+Y.length+S.length:=by simp;omega
 have R:∀i,i < X.length->(P++((X++Y)++S)).getD (P.length+i) d=X.getD i d:=fun i hi=>by
  grind
 have K:∀i,i < Y.length->(P++((X++Y)++S)).getD (P.length+X.length+i) d=Y.getD i d:=fun i hi=>by
  grind [Uh]
 obtain⟨f,J⟩:∃f,f=(P.length+(P.length+X.length+Y.length)) / 2:=⟨_,rfl⟩;refine ah aj (au fun v21 Oy=>au fun v22 X9=> ?_);rw[uT aj,<-J]at Oy X9;rw[oH (n:=f+P.length+X.length) aj aj]at Oy;subst Oy X9;refine bg (fun y=>∃s0 p:Nat,y=((s0:Int),(p:Int))/\s0<=p/\P.length<=s0/\p<=P.length+X.length/\p<=f/\f<=s0+Y.length/\(p=P.length+X.length\/p=f)/\(s0=P.length\/s0+Y.length=f)) ?_ ?_
 ·refine aU (fun hlt=>jF ?_) (fun hge=>jF ?_)
  ·rw[oH (n:=f - Y.length) aj aj];exact⟨f - Y.length,f,rfl,by omega,by omega,by omega,by omega,by omega, .inr rfl, .inr aj⟩
  ·exact⟨P.length,P.length+X.length,rfl,by omega,by omega,by omega,by omega,by omega, .inl rfl, .inl rfl⟩
 rintro y16 ⟨s0,p,rfl,g1,g2,g3,g4,g5,g6,g7⟩;refine bg _ (Un (fun k=> !ltOf c ((P++((X++Y)++S)).getD (f+P.length+X.length - 1 - k) d) ((P++((X++Y)++S)).getD k d)) s0 p g1 aj (fun i j k1 k2 Z O=> ?_) (fun i j k1 k2 Z=> ?_) (fun i=> ?_)) ?_
 ·obtain⟨i,rfl⟩:∃u,i=P.length+u:=⟨i - P.length,by omega⟩;obtain⟨j,rfl⟩:∃u,j=P.length+u:=⟨j - P.length,by omega⟩;have ei:f+P.length+X.length - 1 - (P.length+i)=P.length+X.length+(f - 1 - (P.length+i)):=by omega
  have ej:f+P.length+X.length - 1 - (P.length+j)=P.length+X.length+(f - 1 - (P.length+j)):=by omega
  rw[ej,R j aj,K _ aj]at O;rw[ei,R i aj,K _ aj];have C:=o.trn (y_ (d:=d) o w (show i<=j by omega) aj) (show ltOf c (Y.getD (f - 1 - (P.length+j)) d) (X.getD j d)=false by simpa using O);have q2:=o.trn C (y_ (d:=d) o E (show f - 1 - (P.length+j)<=f - 1 - (P.length+i) by omega) aj);rw[q2];rfl
 ·refine aU (fun _=>ah aj (au fun v25 s=> ?_)) (fun h=>by omega);try dsimp only at s⊢
  rw[uT aj,oH (i:=((f+P.length+X.length:Nat):Int) - 1) (n:=f+P.length+X.length - 1) aj aj,oH (i:=((f+P.length+X.length - 1:Nat):Int) - (((i+j) / 2:Nat):Int)) (n:=f+P.length+X.length - 1 - (i+j) / 2) aj aj]at s;subst s;refine aH aj aj (ah aj (au fun v26 aBi=> ?_));rw[uT aj]at aBi;subst aBi;refine aH aj aj (ah aj (ah (hq _ (getD_mem aj) _ (getD_mem aj)) (au fun v27 D=> ?_)));rw[qA,qA]at D;refine bH (fun L=>af ?_) (fun L=>af ?_)
  ·rw[D]at L;rw[vJ (show(!ltOf c ((P++((X++Y)++S)).getD (f+P.length+X.length - 1 - (i+j) / 2) d) ((P++((X++Y)++S)).getD ((i+j) / 2) d))=true from L),oH (n:=(i+j) / 2+1) aj aj]
  ·rw[D]at L;rw[uU (show ¬(!ltOf c ((P++((X++Y)++S)).getD (f+P.length+X.length - 1 - (i+j) / 2) d) ((P++((X++Y)++S)).getD ((i+j) / 2) d))=true by rw[Qc0];exact L)]
 ·grind [aU,af]
 rintro XB ⟨k,rfl,k1,k2,Z,O⟩;obtain⟨t,rfl⟩:∃t,k=P.length+t:=⟨k - P.length,by omega⟩;have H1:∀u∈X.drop t,∀v∈Y.take (f - (P.length+t)),ltOf c v u=true:=fun u hu v hv=>by
  obtain⟨i,i1,i2,rfl⟩:=Lt (d:=d) hu;obtain⟨j,j1,j2,rfl⟩:=JH (d:=d) hv;have:=O (P.length+t) aj aj;rw[show f+P.length+X.length - 1 - (P.length+t)=P.length+X.length+(f - 1 - (P.length+t)) by omega,R t aj,K _ aj]at this;have e:ltOf c (Y.getD (f - 1 - (P.length+t)) d) (X.getD t d)=true:=by grind
  cases e2:ltOf c (Y.getD j d) (X.getD i d)with
  | true=>rfl
  | false=>
   have C:=o.trn (y_ (d:=d) o w i1 i2) e2;have q2:=o.trn C (y_ (d:=d) o E (show j<=f - 1 - (P.length+t) by omega) aj)
   grind
 have H2:∀x∈X.take t,∀r∈Y.drop (f - (P.length+t)),ltOf c r x=false:=fun x hx r hr=>by
  obtain⟨i,i1,i2,rfl⟩:=JH (d:=d) hx;obtain⟨j,j1,j2,rfl⟩:=Lt (d:=d) hr;have:=Z (P.length+t - 1) aj aj;rw[show f+P.length+X.length - 1 - (P.length+t - 1)=P.length+X.length+(f - (P.length+t)) by omega,show P.length+t - 1=P.length+(t - 1) by omega,R (t - 1) aj,K _ aj]at this;have e:ltOf c (Y.getD (f - (P.length+t)) d) (X.getD (t - 1) d)=false:=by grind
  have C:=o.trn (y_ (d:=d) o w (show i<=t - 1 by omega) aj) e;exact o.trn C (y_ (d:=d) o E j1 j2)
 have lA:(X.take t).length=t:=by rw[Iq];omega
 have lU:t+(X.drop t).length=X.length:=by rw[Qca];omega
 have lV:P.length+t+(Y.take (f - (P.length+t))).length=f:=by rw[Iq];omega
 have lW:(Y.take (f - (P.length+t))).length+(Y.drop (f - (P.length+t))).length=Y.length:=by rw[Iq,Qca];omega
 have eX:X=X.take t++X.drop t:=(Qa3 t X).symm;have eY:Y=Y.take (f - (P.length+t))++Y.drop (f - (P.length+t)):=(Qa3 _ Y).symm;clear R K Z O;generalize X.take t=B at*;generalize X.drop t=U at*;generalize Y.take (f - (P.length+t))=V at*;generalize Y.drop (f - (P.length+t))=W at*;subst eX eY;have eBU:(B++U).length=B.length+U.length:=uX;have eVW:(V++W).length=V.length+W.length:=uX;clear F;have F:(P++(((B++U)++(V++W))++S)).length=P.length+B.length+U.length+V.length+W.length+S.length:=by simp;omega
 simp only[uX]at hl lU lW g3 g5 g6 g7 Q h2 hfu pX pY J;have hq':∀N:List A,(∀z∈N,z∈P++(((B++U)++(V++W))++S))->∀x∈N,∀y∈N,q x y:=fun N hN x hx y hy=>hq x (hN x hx) y (hN y hy)
 refine bg (fun y=>y=P++(B++(V++(U++(W++S))))) ?_ ?_
 ·have e0:U=[]\/V=[]->P++(((B++U)++(V++W))++S)=P++(B++(V++(U++(W++S)))):=by
   grind
  refine aU (fun G=>au fun v24 M=> ?_) (fun G=>jF (e0 (.inl (Qan aj))));rw[oH (n:=f+U.length) aj aj]at M;subst M;refine aU (fun hv=>ah ⟨by omega,by omega,by omega,by rw[F];omega,by rw[F];omega⟩ (jF ?_)) (fun hv=>jF (e0 (.inr (Qan aj))));have:=(aw7 d (P++B) U V (W++S) (fun e=>by grind) (fun e=>by grind) vH (a:=((P.length+t:Nat):Int)) (m:=((P.length+(B++U).length:Nat):Int)) (b:=((f+U.length:Nat):Int)) vH vH vH).2;show roV d _ _ _ _=_
  unfold roV;rw[show P++(((B++U)++(V++W))++S)=(P++B)++(U++(V++(W++S))) by simp];exact Qb7 this jQ
 rintro y19 rfl;have sB:=(kW.1 w).1;have sU:=(kW.1 w).2.1;have sV:=(kW.1 E).1;have sW:=(kW.1 E).2.1;refine bg (fun y=>∃g,y=P++(g++(U++(W++S)))/\Aa (ltOf c) g/\o_ (ltOf c) (B++V) g/\g.length=B.length+V.length) ?_ ?_
 ·have e1:B=[]\/V=[]->∃g,P++(B++(V++(U++(W++S))))=P++(g++(U++(W++S)))/\Aa (ltOf c) g/\o_ (ltOf c) (B++V) g/\g.length=B.length+V.length:=by
   rintro(rfl | rfl)
   ·exact⟨V,rfl,sV,o_.refl _,by simp⟩
   ·exact⟨B,rfl,sB,by rw[Qa5];exact o_.refl _,by simp⟩
  refine aU (fun G=>aU (fun hm=> ?_) (fun hm=>jF (e1 (.inr (Qan aj))))) (fun G=>jF (e1 (.inl (Qan aj))));have k:XH c q H (P.length:Int) ((P.length+t:Nat):Int) (f:Int) (P++(B++(V++(U++(W++S))))):=by
   refine⟨⟨by simp;omega,hq' _ fun z I=> ?_⟩,P,B,V,U++(W++S),by simp,rfl,by omega,by omega,sB,sV,?_,?_,by omega⟩
   ·simp only[vO]at I⊢;rcases I with h | h | h | h | h | h<;>simp[h]
   ·rintro rfl;simp at lA;omega
   ·rintro rfl;simp at lV;omega
  refine ah (hQ _ _ _ _ k) (jF ?_);obtain⟨g,C,q2,q3,q4⟩:=hR _ _ _ _ k P (B++V) (U++(W++S)) jQ rfl vH
  grind
 rintro y20 ⟨g,rfl,sC,tC,lC⟩;refine au fun v23 ac_=> ?_;rw[oH (n:=f+U.length) aj aj]at ac_;subst ac_;have fin:∀{C2 r:List A},r=P++(g++(C2++S))->Aa (ltOf c) C2->o_ (ltOf c) (U++W) C2->C2.length=U.length+W.length->ae1 c P S ((B++U)++(V++W)) r:=fun{C2 r} e s2 t2 l2=>by
  have:=Vt o w E H1 H2 sC tC s2 t2;exact⟨g++C2,by rw[e];simp,this.1,this.2,by simp;omega⟩
 have e2:U=[]\/W=[]->ae1 c P S ((B++U)++(V++W)) (P++(g++(U++(W++S)))):=by
  rintro(rfl | rfl)
  ·exact fin (C2:=W) rfl sW (o_.refl _) jQ
  grind [o_.refl]
 refine aU (fun G=>aU (fun hm=> ?_) (fun hm=>af (e2 (.inr (Qan aj))))) (fun G=>af (e2 (.inl (Qan aj))));have k:XH c q H (f:Int) ((f+U.length:Nat):Int) ((P.length+(B++U).length+(V++W).length:Nat):Int) (P++(g++(U++(W++S)))):=by
  refine⟨⟨by simp;omega,hq' _ fun z I=> ?_⟩,P++g,U,W,S,by simp,by simp;omega,by simp;omega,by simp;omega,sU,sW,?_,?_,by omega⟩
  ·simp only[vO]at I⊢;rcases I with h | h | h | h | h
   ·simp[h]
   ·have:=(tC.mem o).1 h
    grind
   ·simp[h]
   ·simp[h]
   ·simp[h]
  ·rintro rfl;simp at G
  ·rintro rfl;simp at lW hm;omega
 refine ah (hQ _ _ _ _ k) (af ?_);obtain⟨C2,C,q2,q3,q4⟩:=hR _ _ _ _ k (P++g) (U++W) S jQ vH vH
 grind
theorem Y8 {a m b:Int}{l:List A}{B:Prop}(h:XH c q 0 a m b l):B:=by
 obtain⟨_,_,_,_,_,_,_,_,_,_,_,_,_,h⟩:=h;omega
inductive Runs (lt:A->A->Bool) (k:Nat):List A->Prop where
 | last {l:List A}:Aa lt l->l.length<=k->Runs lt k l
 | cons {x l:List A}:Aa lt x->x.length=k->Runs lt k l->Runs lt k (x++l)
theorem asw {k:Nat}{l:List A}(d:0 < k)(h:Runs lt k l)(b:2*k<=l.length):∃x y t,l=x++(y++t)/\Aa lt x/\Aa lt y/\x.length=k/\y.length=k/\Runs lt k t:=by
 cases h with
 | last s c=>omega
 | @cons x l s e r=>
  rw[uX]at b;cases r with
  | last a c=>exact⟨x,l,[],by simp,s,a,e,by omega, .last List.Pairwise.nil (Gw _)⟩
  | @cons y t a g f=>grind
theorem awZ {k:Nat}{l:List A}(h:Runs lt k l)(a:k < l.length)(d:l.length < 2*k):∃x y,l=x++y/\Aa lt x/\Aa lt y/\x.length=k/\0 < y.length:=by
 cases h with
 | last s c=>omega
 | @cons x l s e r=>
  rw[uX]at a d;cases r with
  | last b c=>grind
  | @cons y t b g f=>grind
theorem WZ {k:Nat}{l:List A}(h:Runs lt k l)(a:l.length<=k):Aa lt l:=by
 cases h with
 | last s b=>exact s
 | @cons x l s e r=>
  rw[uX]at a;have:l=[]:=Qan aj
  grind
def aD2 (g:A->A)(c:A->A->Int)(q:A->A->Prop)(d:A)(a b:Int)(l:List A):List A:=(aeT g c q d a b l).val
abbrev inV (c:A->A->Int)(q:A->A->Prop)(d:A)(a b:Int)(l:List A):List A:=aD2 (fun a=>a) c q d a b l
def amM (g:A->A)(c:A->A->Int)(q:A->A->Prop)(d:A)(o:Int->Int->Int->List A->List A)(n:Int)(l:List A):Pg (List A):=
 .cut
  (fun(i:Int×List A)=>
   .ob (inQ q i.fst n i.snd)
    (.wh (n.toNat+1) default
     (fun(e:Int×List A)=>
      .br (decide (e.fst < n))
       (.cut
        (fun(f:Int×List A)=>
         .lt (aQ .i64 (f.fst+e.fst)) fun(h:Int)=>
          .lt (aQ .i64 (e.fst*2)) fun(m:Int)=>
           .br (decide (h < n))
            (.ob (XH c q ((n - f.fst).toNat+1) f.fst h n f.snd) (.ret (.inl (m,o f.fst h n f.snd))))
            (.ret (.inl (m,f.snd))))
        (.lt (aQ .i64 (2*e.fst)) fun(j:Int)=>
         .wh (n.toNat+1) default
          (fun(a:Int×Int×List A)=>
           .br (decide (a.snd.fst<=n))
            (.lt (aQ .i64 (a.fst+e.fst)) fun(k:Int)=>
             .ob (XH c q ((a.snd.fst - a.fst).toNat+1) a.fst k a.snd.fst a.snd.snd)
              (.ret (.inl (a.snd.fst,aQ .i64 (a.snd.fst+j),o a.fst k a.snd.fst a.snd.snd))))
            (.ret (.inr (.inl (a.fst,a.snd.snd)))))
          (0,j,e.snd)))
       (.ret (.inr e.snd)))
     (20,aD2 g c q d i.fst n i.snd)))
  (.wh (n.toNat+1) default
   (fun(b:Int×Int×List A)=>
    .br (decide (b.snd.fst<=n))
     (.ob (inQ q b.fst b.snd.fst b.snd.snd)
      (.ret (.inl (b.snd.fst,aQ .i64 (b.snd.fst+20),aD2 g c q d b.fst b.snd.fst b.snd.snd))))
     (.ret (.inr (.inl (b.fst,b.snd.snd)))))
   (0,20,l))
abbrev aGG (c:A->A->Int)(q:A->A->Prop)(d:A)(b:Int->Int->Int->List A->List A)(n:Int)(l:List A):Pg (List A):=amM (fun a=>a) c q d b n l
def Sorted (c:A->A->Int)(l r:List A):Prop:=Aa (ltOf c) r/\o_ (ltOf c) l r/\r.length=l.length
theorem ajb (G:yg (ltOf c)){IW:Int->Int->Int->List A->List A}(S:∀a m b l,XH c q ((b - a).toNat+1) a m b l->mrg c a b l (IW a m b l)){n:Int}{l:List A}(N:stQ q n l):gU (aGG c q d IW n l) (Sorted c l):=by
 obtain⟨⟨hl,N⟩,rfl⟩:=N;have E:∀r,o_ (ltOf c) l r->r.length=l.length->srtQ q r:=fun r h e=>⟨by omega,fun x hx y X=>N x ((h.mem G).1 hx) y ((h.mem G).1 X)⟩
 refine bg (fun y=>∃R1 f:List A,y=((R1.length:Int),R1++f)/\(∀T,Runs (ltOf c) 20 T->Runs (ltOf c) 20 (R1++T))/\o_ (ltOf c) l (R1++f)/\(R1++f).length=l.length/\f.length < 20) ?_ ?_
 ·refine kQ (fun s=>∃R1 f:List A,s=((R1.length:Int),((R1.length+20:Nat):Int),R1++f)/\(∀T,Runs (ltOf c) 20 T->Runs (ltOf c) 20 (R1++T))/\o_ (ltOf c) l (R1++f)/\(R1++f).length=l.length) (fun s=>((l.length:Int) - s.1).toNat) ⟨[],l,rfl,fun T h=>h,o_.refl _,rfl⟩ aj ?_;rintro s ⟨R1,f,rfl,g,j,i⟩;rw[uX]at i;refine aU (fun C=> ?_) (fun R=>yz ?_)
  ·dsimp only at C⊢;obtain⟨D,B,rfl,lD⟩:∃D B,f=D++B/\D.length=20:=⟨f.take 20,f.drop 20,by simp,by simp;omega⟩;rw[uX]at i;have p:=E _ j vH;obtain⟨M,e,v,w,z⟩:=(ahn (d:=d) G R1 D B p (a:=(R1.length:Int)) (b:=((R1.length+20:Nat):Int)) rfl aj).2;refine ah ⟨p,by omega,by omega,by simp;omega⟩ (jF ⟨⟨R1++M,B,?_,fun T h=> ?_,j.trans ?_,by simp;omega⟩,?_⟩)
   ·refine Qcr vH (Qcr ?_ ?_)
    ·exact oH vH vH
    ·show inV _ _ _ _ _ _=_
     refine Qb7 e ?_;simp
   ·rw[Yt];exact g _ (.cons v aj h)
   ·rw[Yt];exact(o_.refl R1).app (w.app (o_.refl B))
   ·show((l.length:Int) - ((R1.length+20:Nat):Int)).toNat < ((l.length:Int) - (R1.length:Int)).toNat
    omega
  grind
 rintro y ⟨R1,f,rfl,g,j,i,H⟩;have p:=E _ j i;have k:=(ahn (d:=d) G R1 f [] (by rw[Qa5];exact p) (a:=(R1.length:Int)) (b:=(l.length:Int)) rfl dm).2;rw[Qa5]at k;obtain⟨M,e,v,w,z⟩:=k;rw[Qa5]at e;have o:=i;rw[uX]at o;refine ah ⟨p,by omega,by omega,by rw[i];omega⟩ ?_;refine kQ (fun s=>∃(k:Nat) (r:List A),s=((k:Int),r)/\0 < k/\k<=2199023255552/\Runs (ltOf c) k r/\o_ (ltOf c) l r/\r.length=l.length) (fun s=>((l.length:Int) - s.1).toNat) ⟨20,R1++M,?_,by decide,by decide,g _ (.last v aj),j.trans ((o_.refl R1).app w),by simp;omega⟩ aj ?_
 ·refine Qcr rfl ?_;show inV _ _ _ _ _ _=_
  unfold inV;exact e
 clear e v w z i o p g j H;rintro s ⟨k,r,rfl,k0,kb,U,W,Q⟩;refine aU (fun J=> ?_) (fun hge=>yz ⟨WZ U dm,W,Q⟩);refine bg (fun y=>∃R1 f:List A,y=((R1.length:Int),R1++f)/\(∀T,Runs (ltOf c) (2*k) T->Runs (ltOf c) (2*k) (R1++T))/\Runs (ltOf c) k f/\o_ (ltOf c) l (R1++f)/\(R1++f).length=l.length/\f.length < 2*k) ?_ ?_
 ·refine au fun v18 P=> ?_;dsimp only at P J;rw[oH (n:=2*k) aj aj]at P;subst P;refine kQ (fun s=>∃R1 f:List A,s=((R1.length:Int),((R1.length+2*k:Nat):Int),R1++f)/\(∀T,Runs (ltOf c) (2*k) T->Runs (ltOf c) (2*k) (R1++T))/\Runs (ltOf c) k f/\o_ (ltOf c) l (R1++f)/\(R1++f).length=l.length) (fun s=>((l.length:Int) - s.1).toNat) ⟨[],r,by simp,fun T h=>h,U,W,Q⟩ aj ?_;rintro s ⟨R1,f,rfl,g,F,j,i⟩;have o:=i;rw[uX]at o;refine aU (fun C=>au fun v19 L=> ?_) (fun R=>yz ?_)
  ·dsimp only at C;obtain⟨x,y,t,rfl,K,O,lx,Z,Y⟩:=asw k0 F aj;rw[uX,uX]at o;dsimp only at L⊢;rw[oH (n:=R1.length+k) aj aj]at L;subst L;have u:XH c q ((((R1.length+2*k:Nat):Int) - (R1.length:Int)).toNat+1) (R1.length:Int) ((R1.length+k:Nat):Int) ((R1.length+2*k:Nat):Int) (R1++(x++(y++t))):=
    ⟨E _ j i,R1,x,y,t,by simp,rfl,by omega,by omega,K,O,by grind,by grind,by omega⟩
   obtain⟨M,e,v,w,z⟩:=S _ _ _ _ u R1 (x++y) t jQ rfl vH;rw[uX]at z;refine ah u (jF ⟨⟨R1++M,t,?_,fun T h=> ?_,Y,j.trans ?_,by simp;omega⟩,?_⟩)
   ·refine Qcr vH (Qcr ?_ ?_)
    ·exact oH vH vH
    grind
   ·rw[Yt];exact g _ (.cons v aj h)
   ·grind [o_.app,o_.refl]
   omega
  grind
 rintro IX ⟨R1,f,rfl,g,F,j,i,H⟩;have o:=i;rw[uX]at o;dsimp only at J⊢;refine au fun v16 I=>au fun v17 V=> ?_;rw[oH (n:=R1.length+k) aj aj]at I;rw[oH (n:=2*k) aj aj]at V;subst I V;refine aU (fun hm=> ?_) (fun hm=>jF ⟨⟨2*k,R1++f,rfl,by omega,by omega,g _ (.last (WZ F aj) aj),j,i⟩,?_⟩)
 ·obtain⟨x,y,rfl,K,O,lx,Z⟩:=awZ F aj H;rw[uX]at o H;have u:XH c q (((l.length:Int) - (R1.length:Int)).toNat+1) (R1.length:Int) ((R1.length+k:Nat):Int) (l.length:Int) (R1++(x++y)):=
   ⟨E _ j i,R1,x,y,[],by simp,rfl,by omega,by omega,K,O,by grind,by grind,by omega⟩
  obtain⟨M,e,v,w,z⟩:=S _ _ _ _ u R1 (x++y) [] jQ rfl vH;rw[uX]at z;rw[Qa5]at e;refine ah u (jF ⟨⟨2*k,R1++M,?_,by omega,by omega,g _ (.last v aj),j.trans ((o_.refl R1).app w),by simp;omega⟩,?_⟩)
  ·exact Qcr rfl e
  ·show((l.length:Int) - ((2*k:Nat):Int)).toNat < ((l.length:Int) - (k:Int)).toNat
   omega
 omega
theorem aaX (l:List A){i j:Nat}(h:i<=j):l.take i++((l.drop i).take (j - i)++l.drop j)=l:=by
 have:l.drop j=(l.drop i).drop (j - i):=by simp_all
 rw[this,Qa3,Qa3]
theorem aBT {a b n:Int}{l:List A}(h:swQ a b n l.length):Is (apM d a b n l):=by
 obtain⟨c,g,m,j,i⟩:=h;obtain⟨a,rfl⟩:=Qa0 c;obtain⟨n,rfl⟩:=Qa0 g;obtain⟨b,rfl⟩:=Qa0 (show 0<=b by omega);have e:=aaX l (show a<=a+n by omega);have f:=aaX (l.drop (a+n)) (show b - (a+n)<=b - (a+n)+n by omega);rw[<-f]at e;have k:=(aby d (l.take a) ((l.drop a).take (a+n - a)) ((l.drop (a+n)).take (b - (a+n))) (((l.drop (a+n)).drop (b - (a+n))).take (b - (a+n)+n - (b - (a+n)))) ((l.drop (a+n)).drop (b - (a+n)+n)) vH vH (a:=(a:Int)) (b:=(b:Int)) (n:=(n:Int)) vH vH vH).1
 grind
theorem aCn {a m b:Int}{l:List A}(h:roQ a m b l.length):Is (aD_ d a m b l):=by
 obtain⟨c,n,o,j,i⟩:=h;obtain⟨a,rfl⟩:=Qa0 c;obtain⟨m,rfl⟩:=Qa0 (show 0<=m by omega);obtain⟨b,rfl⟩:=Qa0 (show 0<=b by omega);have f:=aaX l (show a<=m by omega);have g:(l.drop m).take (b - m)++(l.drop m).drop (b - m)=l.drop m:=Qa3 _ _;rw[<-g]at f;have k:=(aw7 d (l.take a) ((l.drop a).take (m - a)) ((l.drop m).take (b - m)) ((l.drop m).drop (b - m)) (fun e=>by grind) (fun e=>by have:=II List.length e;simp at this;omega) vH (a:=(a:Int)) (m:=(m:Int)) (b:=(b:Int)) vH vH vH).1
 grind
theorem aBP (g:yg (ltOf c)){a b:Int}{l:List A}(h:inQ q a b l):Is (aEt c q d a b l):=by
 obtain⟨e,f,m,n⟩:=h;have j:=e.1;obtain⟨a,rfl⟩:=Qa0 f;obtain⟨b,rfl⟩:=Qa0 (show 0<=b by omega);have i:=aaX l (show a<=b by omega);have k:=(ahn (d:=d) g (l.take a) ((l.drop a).take (b - a)) (l.drop b) (by rw[i];exact e) (a:=(a:Int)) (b:=(b:Int)) vH vH).1
 grind
theorem amn (f:A->Int)(h:∀a b,ltOf c a b=decide (f a < f b)):yg (ltOf c):=by
 constructor
 ·intro a b d;rw[h]at d⊢;have:=Dt d;exact pO aj
 ·intro a b e g i;rw[h]at g i⊢;have:=Qbr g;have:=Qbr i;exact pO aj
end
end Go.Vc
