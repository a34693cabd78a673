/- Own engine: Veo. -/
import Derived.Test.YtmadgoehmjmlmaaGreatDoorEng15
set_option linter.unusedVariables false
set_option linter.unusedSimpArgs false
namespace Go.Vc
section
variable {A:Type}
structure FO (lt:A->A->Bool):Prop where
 asym:∀{a b},lt a b=true->lt b a=false
 trn:∀{a b c},lt b a=false->lt c b=false->lt c a=false
def eqv (lt:A->A->Bool)(x y:A):Bool:= !lt x y && !lt y x
def Iy (lt:A->A->Bool)(l:List A):Prop:=l.Pairwise fun a b=>lt b a=false
def tu (lt:A->A->Bool)(l l':List A):Prop:=∀x,l'.filter (eqv lt x)=l.filter (eqv lt x)
variable {lt:A->A->Bool}
theorem FO.irr (h:FO lt)(a:A):lt a a=false:=by
 cases e:lt a a with
 | false=>rfl
 | true=>have:=h.asym e;rw[e]at this;exact this
theorem FO.rfl' (h:FO lt)(a:A):eqv lt a a=true:=by unfold eqv;rw[h.irr a];rfl
theorem ama {x y:A}:eqv lt x y=true ↔ lt x y=false/\lt y x=false:=by
 unfold eqv;cases lt x y<;>cases lt y x<;>simp
theorem tu.refl (l:List A):tu lt l l:=fun _=>rfl
theorem tu.trans {l m n:List A}(h1:tu lt l m)(h2:tu lt m n):tu lt l n:=fun x=>(h2 x).trans (h1 x)
theorem tu.symm {l m:List A}(h1:tu lt l m):tu lt m l:=fun x=>(h1 x).symm
theorem tu.app {l m l' m':List A}(h1:tu lt l m)(h2:tu lt l' m'):tu lt (l++l') (m++m'):=fun x=>by
 rw[Qbf,Qbf,h1 x,h2 x]
theorem tu.mem {l m:List A}(hs:FO lt)(h:tu lt l m){x:A}:x∈m ↔ x∈l:=by
 have e:=h x;constructor
 ·intro hx;have:x∈m.filter (eqv lt x):=R_.2 ⟨hx,hs.rfl' x⟩;rw[e]at this;exact(R_.1 this).1
 ·intro hx;have:x∈l.filter (eqv lt x):=R_.2 ⟨hx,hs.rfl' x⟩;rw[<-e]at this;exact(R_.1 this).1
theorem an8 (hs:FO lt){u v x:A}(h:lt v u=true)(h1:eqv lt x u=true)(h2:eqv lt x v=true):False:=by
 have:=hs.trn (ama.1 h1).1 (ama.1 h2).2;rw[h]at this;cases this
theorem ade (hs:FO lt){U V:List A}(h:∀u∈U,∀v∈V,lt v u=true):tu lt (U++V) (V++U):=fun x=>by
 rw[Qbf,Qbf];by_cases hu:U.filter (eqv lt x)=[]
 ·rw[hu,Qbi,Qci]
 ·have hv:V.filter (eqv lt x)=[]:=by
   obtain⟨u,hu⟩:=List.exists_mem_of_ne_nil _ hu;obtain⟨q1,q2⟩:=R_.1 hu;refine Qd8.2 fun v hv hx=> ?_;exact an8 hs (h u q1 v hv) q2 hx
  rw[hv,Qbi,Qci]
theorem oC {l m:List A}:Iy lt (l++m) ↔ Iy lt l/\Iy lt m/\∀a∈l,∀b∈m,lt b a=false:=List.pairwise_append
theorem Ub (hs:FO lt){A1 U V R C1 C2:List A}(hA:Iy lt (A1++U))(hB:Iy lt (V++R))(h1:∀u∈U,∀v∈V,lt v u=true)(h2:∀x∈A1,∀r∈R,lt r x=false)
  (s1:Iy lt C1) (t1:tu lt (A1++V) C1) (s2:Iy lt C2) (t2:tu lt (U++R) C2):Iy lt (C1++C2)/\tu lt ((A1++U)++(V++R)) (C1++C2):=by
 refine⟨oC.2 ⟨s1,s2,fun a ha b hb=> ?_⟩,?_⟩
 ·have ha:=(t1.mem hs).1 ha;have hb:=(t2.mem hs).1 hb;rcases rW.1 ha with ha | ha<;>rcases rW.1 hb with hb | hb
  ·exact(oC.1 hA).2.2 a ha b hb
  ·exact h2 a ha b hb
  ·exact hs.asym (h1 b hb a ha)
  ·exact(oC.1 hB).2.2 a ha b hb
 ·have:tu lt ((A1++U)++(V++R)) ((A1++V)++(U++R)):=by
   rw[Oy,Oy];refine(tu.refl A1).app ?_;rw[<-Oy,<-Oy];exact(ade hs h1).app (tu.refl R)
  exact this.trans (t1.app t2)
theorem kQ {X R:Type}{Q1:X->Prop}{Q:R->Prop}{z:X}(h:Q1 z):jF (.ret (.inl z)) (Sum.elim Q1 Q):=⟨aU,h⟩
theorem zJ {X R:Type}{Q1:X->Prop}{Q:R->Prop}{z:R}(h:Q z):jF (.ret (.inr z)) (Sum.elim Q1 Q):=⟨aU,h⟩
def sZ (q:A->A->Prop)(l:List A):Prop:=l.length<=1099511627776/\∀x∈l,∀y∈l,q x y
def swQ (a b n:Int)(k:Nat):Prop:=0<=a/\0<=n/\a+n<=b/\b+n<=(k:Int)/\k<=1099511627776
def roQ (a m b:Int)(k:Nat):Prop:=0<=a/\a < m/\m < b/\b<=(k:Int)/\k<=1099511627776
def JC (q:A->A->Prop)(a b:Int)(l:List A):Prop:=sZ q l/\0<=a/\a<=b/\b<=(l.length:Int)
def ltOf (c:A->A->Int)(x y:A):Bool:=decide (c x y < 0)
def Ql (c:A->A->Int)(q:A->A->Prop)(fu:Nat)(a m b:Int)(l:List A):Prop:=sZ q l/\∃P X Y S:List A,l=P++((X++Y)++S)/\a=(P.length:Int)/\m=((P.length+X.length:Nat):Int)/\b=((P.length+X.length+Y.length:Nat):Int)/\Iy (ltOf c) X/\Iy (ltOf c) Y/\X≠[]/\Y≠[]/\X.length+Y.length < fu
def stQ (q:A->A->Prop)(n:Int)(l:List A):Prop:=sZ q l/\n=(l.length:Int)
variable {c:A->A->Int}{q:A->A->Prop}{d:A}
def Zq (g:A->A)(d:A)(a b n:Int)(l:List A):Pg (List A):=
 .cnt qi 0 n
  (fun(i1:Int) (y2:List A)=>
   .lt (dB .i64 (b+i1)) fun(v3:Int)=>
    .ix v3 y2.length
     (.ob (v3.toNat < y2.length)
      (.lt (dB .i64 (a+i1)) fun(v4:Int)=>
       .ix v4 y2.length
        (.ob (v4.toNat < y2.length)
         (.ix v4 y2.length
          (.ob (v4.toNat < y2.length)
           (.ix v3 (y2.set v4.toNat (g (y2.getD v3.toNat d))).length
            (.ob (v3.toNat < (y2.set v4.toNat (g (y2.getD v3.toNat d))).length)
             (.ret (.inl ((y2.set v4.toNat (g (y2.getD v3.toNat d))).set v3.toNat (g (y2.getD v4.toNat d)))))))))))))
  (fun(i1:Int) (y2:List A)=> .ret y2) l
abbrev ah_ (d:A)(a b n:Int)(l:List A):Pg (List A):=Zq (fun a=>a) d a b n l
def ax7 (g:A->A)(d:A)(a b n:Int)(l:List A):List A:=(Zq g d a b n l).val
abbrev swV (d:A)(a b n:Int)(l:List A):List A:=ax7 (fun a=>a) d a b n l
def X4 (g:A->A)(d:A)(a m b:Int)(l:List A):Pg (List A):=
 .lt (dB .i64 (m - a)) fun(v4:Int)=>
  .lt (dB .i64 (b - m)) fun(v5:Int)=>
   .wh ((b - a).toNat+1) default
    (fun(x3:Int×Int×List A)=>
     .lt (dB .i64 (m - x3.fst)) fun(v6:Int)=>
      .br (x3.fst !=x3.snd.fst)
       (.br (decide (x3.snd.fst < x3.fst))
        (.ob (swQ v6 m x3.snd.fst x3.snd.snd.length) (.ret (.inl (dB .i64 (x3.fst - x3.snd.fst),x3.snd.fst,ax7 g d v6 m x3.snd.fst x3.snd.snd))))
        (.lt (dB .i64 (dB .i64 (m+x3.snd.fst) - x3.fst)) fun(v7:Int)=>
         .ob (swQ v6 v7 x3.fst x3.snd.snd.length) (.ret (.inl (x3.fst,dB .i64 (x3.snd.fst - x3.fst),ax7 g d v6 v7 x3.fst x3.snd.snd)))))
       (.ob (swQ v6 m x3.fst x3.snd.snd.length) (.ret (.inr (ax7 g d v6 m x3.fst x3.snd.snd)))))
    (v4,v5,l)
abbrev axo (d:A)(a m b:Int)(l:List A):Pg (List A):=X4 (fun a=>a) d a m b l
def aGL (g:A->A)(d:A)(a m b:Int)(l:List A):List A:=(X4 g d a m b l).val
abbrev roV (d:A)(a m b:Int)(l:List A):List A:=aGL (fun a=>a) d a m b l
def Zz (g:A->A)(c:A->A->Int)(q:A->A->Prop)(d:A)(a b:Int)(l:List A):Pg (List A):=
 .lt (dB .i64 (a+1)) fun(v6:Int)=>
  .cnt qi v6 b
   (fun(i1:Int) (y2:List A)=>
    .wh ((b - a).toNat+1) default
     (fun(x5:Int×List A)=>
      .br (decide (a < x5.fst))
       (.ix x5.fst x5.snd.length
        (.ob (x5.fst.toNat < x5.snd.length)
         (.lt (dB .i64 (x5.fst - 1)) fun(v7:Int)=>
          .ix v7 x5.snd.length
           (.ob (v7.toNat < x5.snd.length)
            (.ob (q (g (x5.snd.getD x5.fst.toNat d)) (g (x5.snd.getD v7.toNat d)))
             (.lt (c (g (x5.snd.getD x5.fst.toNat d)) (g (x5.snd.getD v7.toNat d))) fun(v8:Int)=>
              .br (decide (v8 < 0))
               (.ix v7 x5.snd.length
                (.ob (v7.toNat < x5.snd.length)
                 (.ix x5.fst x5.snd.length
                  (.ob (x5.fst.toNat < x5.snd.length)
                   (.ix x5.fst x5.snd.length
                    (.ob (x5.fst.toNat < x5.snd.length)
                     (.lt (x5.snd.set x5.fst.toNat (g (x5.snd.getD v7.toNat d))) fun(v9:List A)=>
                      .ix v7 v9.length (.ob (v7.toNat < v9.length) (.ret (.inl (v7,v9.set v7.toNat (g (x5.snd.getD x5.fst.toNat d)))))))))))))
               (.ret (.inr (.inl x5.snd)))))))))
       (.ret (.inr (.inl x5.snd))))
     (i1,y2))
   (fun(i1:Int) (y2:List A)=> .ret y2) l
abbrev awe (c:A->A->Int)(q:A->A->Prop)(d:A)(a b:Int)(l:List A):Pg (List A):=Zz (fun a=>a) c q d a b l
theorem get_at {P S:List A}{u d:A}{k:Nat}(h:k=P.length):(P++u::S).getD k d=u:=by subst h;simp[List.getD]
theorem abh {P S:List A}{u v:A}{k:Nat}(h:k=P.length):(P++u::S).set k v=P++v::S:=by subst h;simp
theorem Rw {P M S:List A}{u v d:A}{i j:Nat}(hi:i=P.length)(hj:j=P.length+1+M.length):
  (P++u::(M++v::S)).getD i d=u/\(P++u::(M++v::S)).getD j d=v/\((P++u::(M++v::S)).set i v).set j u=P++v::(M++u::S)/\((P++u::(M++v::S)).set j u).set i v=P++v::(M++u::S):=by
 have e:∀w z:A,P++w::(M++z::S)=(P++w::M)++z::S:=fun w z=>by simp
 have hl:∀w:A,j=(P++w::M).length:=fun w=>by simp;omega
 refine⟨get_at hi,?_,?_,?_⟩
 ·rw[e];exact get_at (hl u)
 ·rw[abh hi,e,abh (hl v),<-e]
 ·rw[e,abh (hl u),<-e,abh hi]
theorem w64 {n:Nat}(h:n<=4398046511104):dB .i64 (n:Int)=(n:Int):=gz (k:= .i64) BZ
theorem qB {i:Int}{n:Nat}(e:i=(n:Int))(h:n<=4398046511104):dB .i64 i=(n:Int):=by rw[e];exact w64 h
theorem Z_ (d:A)(x U w V y:List A)(h:U.length=V.length)(hl:x.length+U.length+w.length+V.length<=1099511627776){a b n:Int}(ha:a=(x.length:Int))(hb:b=((x.length+U.length+w.length:Nat):Int))(hn:n=(U.length:Int)):
  jF (ah_ d a b n (x++(U++(w++(V++y))))) (fun r=>r=x++(V++(w++(U++y)))):=by
 subst ha hb hn;refine vk (fun i r=>∃U1 U2 V1 V2:List A,U=U1++U2/\V=V1++V2/\i=(U1.length:Int)/\U1.length=V1.length/\r=x++(V1++(U2++(w++(U1++(V2++y)))))) ⟨[],U,[],V,rfl,rfl,rfl,rfl,rfl⟩ au au ?_ ?_
 ·rintro i r h0 hi ⟨U1,U2,V1,V2,rfl,rfl,rfl,e,rfl⟩;cases U2 with
  | nil=>simp at hi
  | cons u U2=>
   cases V2 with
   | nil=>simp at h;omega
   | cons v V2=>
    simp only[kT,yF]at h hl hi⊢;have er:x++(V1++((u::U2)++(w++(U1++((v::V2)++y)))))=(x++V1)++u::((U2++(w++U1))++v::(V2++y)):=by simp
    rw[er];have e3:dB .i64 (((x.length+(U1.length+(U2.length+1))+w.length:Nat):Int)+(U1.length:Int))=((x.length+(U1.length+(U2.length+1))+w.length+U1.length:Nat):Int):=qB au au;have e4:dB .i64 ((x.length:Int)+(U1.length:Int))=((x.length+U1.length:Nat):Int):=qB au au;obtain⟨k1,k2,k3,k4⟩:=Rw (P:=x++V1) (M:=U2++(w++U1)) (S:=V2++y) (u:=u) (v:=v) (d:=d) (i:=x.length+U1.length) (j:=x.length+(U1.length+(U2.length+1))+w.length+U1.length) uZ uZ;have hlen:((x++V1)++u::((U2++(w++U1))++v::(V2++y))).length=x.length+V1.length+1+U2.length+w.length+U1.length+1+V2.length+y.length:=by simp;omega
    generalize (x++V1)++u::((U2++(w++U1))++v::(V2++y))=r at*;refine aC fun v3 hv3=> ?_;rw[e3]at hv3;subst hv3;refine aZ au au (ak au (aC fun v4 hv4=> ?_));rw[e4]at hv4;subst hv4;refine aZ au au (ak au (aZ au au (ak au (aZ au qcd (ak qcd (kQ ?_))))));rw[ww,ww,k1,k2,k3];exact⟨U1++[u],U2,V1++[v],V2,by simp,by simp,by simp,by simp[e],by simp⟩
 ·rintro i r h0 hi ⟨U1,U2,V1,V2,rfl,rfl,rfl,e,rfl⟩;simp only[kT]at h hi;have hU:U2=[]:=Qa0 au;have hV:V2=[]:=Qa0 au;subst hU hV;exact ah qa2
theorem aqo (d:A)(x U V y:List A)(hU:U≠[])(hV:V≠[])(hl:x.length+U.length+V.length+y.length<=1099511627776){a m b:Int}(ha:a=(x.length:Int))(hm:m=((x.length+U.length:Nat):Int))(hb:b=((x.length+U.length+V.length:Nat):Int)):
  jF (axo d a m b (x++(U++(V++y)))) (fun r=>r=x++(V++(U++y))):=by
 subst ha hm hb;have pU:=Qdx.2 hU;have pV:=Qdx.2 hV;refine aC fun v4 hv4=>aC fun v5 hv5=> ?_;rw[qB (n:=U.length) au au]at hv4;rw[qB (n:=V.length) au au]at hv5;subst hv4 hv5;refine x_ (fun s=>∃x' U' V' y':List A,s=((U'.length:Int),(V'.length:Int),x'++(U'++(V'++y')))/\0 < U'.length/\0 < V'.length/\x'.length+U'.length=x.length+U.length/\x'.length+U'.length+V'.length+y'.length=x.length+U.length+V.length+y.length/\x'++(V'++(U'++y'))=x++(V++(U++y)))
  (fun s=>(s.1+s.2.1).toNat) ⟨x,U,V,y,rfl,pU,pV,rfl,rfl,rfl⟩ (by show((U.length:Int)+(V.length:Int)).toNat < _;omega) ?_
 rintro s ⟨x',U',V',y',rfl,p1,p2,e1,e2,e3⟩;refine aC fun v6 hv6=> ?_;dsimp only at hv6⊢;rw[qB (n:=x'.length) au au]at hv6;subst hv6;refine dC (fun hne=>bT (fun hlt=> ?_) (fun hge=> ?_)) (fun heq=> ?_)
 ·
  obtain⟨U1,U2,rfl,hU1⟩:∃U1 U2,U'=U1++U2/\U1.length=V'.length:=⟨U'.take V'.length,U'.drop V'.length,by simp,by simp;omega⟩;simp only[kT]at p1 e1 e2 hlt hne⊢;have k:(ah_ d (x'.length:Int) ((x.length+U.length:Nat):Int) (V'.length:Int) (x'++(U1++(U2++(V'++y'))))).val=x'++(V'++(U2++(U1++y'))):=(Z_ d x' U1 U2 V' y' hU1 au (a:=(x'.length:Int)) (b:=((x.length+U.length:Nat):Int)) (n:=(V'.length:Int)) rfl au au).2;refine ak ⟨by omega,by omega,by omega,by first | omega | (simp;omega),by first | omega | (simp;omega)⟩ (kQ ⟨⟨x'++V',U2,U1,y',?_,by omega,by omega,by first | omega | (simp;omega),by first | omega | (simp;omega),by rw[<-e3];simp⟩,?_⟩)
  ·refine Qd1 ?_ (Qd1 ?_ ?_)
   ·exact qB (n:=U2.length) (by first | omega | (simp;omega)) au
   ·show(V'.length:Int)=(U1.length:Int);omega
   ·show swV d _ _ _ _=_
    have:(U1++U2)++(V'++y')=U1++(U2++(V'++y')):=by simp
    rw[this];refine Eq.trans k ?_;simp
  ·show(dB .i64 (((U1.length+U2.length:Nat):Int) - (V'.length:Int))+(V'.length:Int)).toNat < (((U1.length+U2.length:Nat):Int)+(V'.length:Int)).toNat
   rw[qB (n:=U2.length) au au];omega
 ·obtain⟨V1,V2,rfl,hV2⟩:∃V1 V2,V'=V1++V2/\V2.length=U'.length:=⟨V'.take (V'.length - U'.length),V'.drop (V'.length - U'.length),by simp,by simp;omega⟩;simp only[kT]at p2 e1 e2 hge hne⊢;refine aC fun v7 hv7=> ?_;rw[qB (i:=((x.length+U.length:Nat):Int)+((V1.length+V2.length:Nat):Int)) (n:=x.length+U.length+V1.length+V2.length) au au,qB (n:=x.length+U.length+V1.length) au au]at hv7;subst hv7;have k:(ah_ d (x'.length:Int) ((x.length+U.length+V1.length:Nat):Int) (U'.length:Int) (x'++(U'++(V1++(V2++y'))))).val=x'++(V2++(V1++(U'++y'))):=(Z_ d x' U' V1 V2 y' au au (a:=(x'.length:Int)) (b:=((x.length+U.length+V1.length:Nat):Int)) (n:=(U'.length:Int)) rfl au rfl).2;refine ak ⟨by omega,by omega,by omega,by first | omega | (simp;omega),by first | omega | (simp;omega)⟩ (kQ ⟨⟨x',V2,V1,U'++y',?_,by omega,by omega,by omega,by first | omega | (simp;omega),by rw[<-e3];simp⟩,?_⟩)
  ·refine Qd1 ?_ (Qd1 ?_ ?_)
   ·show(U'.length:Int)=(V2.length:Int);omega
   ·exact qB (n:=V1.length) (by first | omega | (simp;omega)) au
   ·show swV d _ _ _ _=_
    have:(V1++V2)++y'=V1++(V2++y'):=by simp
    rw[this];refine Eq.trans k ?_;rfl
  ·show((U'.length:Int)+dB .i64 (((V1.length+V2.length:Nat):Int) - (U'.length:Int))).toNat < ((U'.length:Int)+((V1.length+V2.length:Nat):Int)).toNat
   rw[qB (n:=V1.length) au au];omega
 ·have heq:U'.length=V'.length:=by omega
  have k:=(Z_ d x' U' [] V' y' heq uZ (a:=(x'.length:Int)) (b:=((x.length+U.length:Nat):Int)) (n:=(U'.length:Int)) rfl uZ rfl).2;refine ak ⟨by omega,by omega,by omega,by first | omega | (simp;omega),by first | omega | (simp;omega)⟩ (zJ ?_);show swV d _ _ _ _=_
  have k2:(ah_ d (x'.length:Int) ((x.length+U.length:Nat):Int) (U'.length:Int) (x'++(U'++(V'++y')))).val=x'++(V'++(U'++y')):=k;refine Eq.trans k2 ?_;rw[e3]
theorem apo (hs:FO lt){D1 M1 M2:List A}{y:A}(h1:Iy lt (M1++M2))(h2:tu lt D1 (M1++M2))(h3:∀z∈M2,lt y z=true)(h4:∀M z,M1=M++[z]->lt y z=false):Iy lt (M1++y::M2)/\tu lt (D1++[y]) (M1++y::M2):=by
 obtain⟨k1,k2,k3⟩:=oC.1 h1;refine⟨oC.2 ⟨k1,List.pairwise_cons.2 ⟨fun w hw=>hs.asym (h3 w hw),k2⟩,fun x hx w hw=> ?_⟩,?_⟩
 ·rcases xI.1 hw with rfl | hw
  ·rcases Qec M1 with rfl | ⟨M,z,rfl⟩
   ·simp at hx
   ·rw[Qeb]at*;have hz:=h4 M z rfl;rcases rW.1 hx with hx | hx
    ·exact hs.trn ((oC.1 k1).2.2 x hx z qa2) hz
    ·obtain rfl:x=z:=by simpa using hx
     exact hz
  ·exact k3 x hx w hw
 ·have:tu lt (D1++[y]) (M1++(M2++[y])):=by
   rw[<-Oy];exact h2.app (tu.refl _)
  refine this.trans ((tu.refl M1).app ?_);exact ade hs (V:=[y]) fun u hu v hv=>by
   obtain rfl:v=y:=by simpa using hv
   exact h3 u hu
theorem ahZ (hs:FO (ltOf c))(P D S:List A)(hq:sZ q (P++(D++S))){a b:Int}(ha:a=(P.length:Int))(hb:b=((P.length+D.length:Nat):Int)):
  jF (awe c q d a b (P++(D++S))) (fun r=>∃M,r=P++(M++S)/\Iy (ltOf c) M/\tu (ltOf c) D M/\M.length=D.length):=by
 subst ha hb;obtain⟨hl,hq⟩:=hq;simp only[kT]at hl;refine aC fun v6 hv6=> ?_;rw[qB (n:=P.length+1) au au]at hv6;subst hv6;cases D with
 | nil=>
  refine vk (fun i r=>r=P++([]++S)) rfl au uZ (fun i y h1 h2 h3=> ?_) (fun i y h1 h2 h3=>ah ⟨[],h3,List.Pairwise.nil,tu.refl _,rfl⟩);simp at h2;omega
 | cons x D=>
  refine vk (fun i r=>∃D1 D2 M:List A,x::D=D1++D2/\i=((P.length+D1.length:Nat):Int)/\M.length=D1.length/\Iy (ltOf c) M/\tu (ltOf c) D1 M/\r=P++(M++(D2++S))) ⟨[x],D,[x],rfl,by simp,rfl,Qd4 _ _,tu.refl _,rfl⟩ au (by simp at hl⊢;omega) ?_ ?_
  ·rintro i r h0 hi ⟨D1,D2,M,eD,rfl,eM,sM,tM,rfl⟩;have eL:D.length+1=D1.length+D2.length:=by rw[<-kT,<-eD];rfl
   cases D2 with
   | nil=>simp at hi eL;omega
   | cons y D2=>
    simp only[yF]at hl hi eL;refine x_ (fun s=>∃M1 M2:List A,M=M1++M2/\s=(((P.length+M1.length:Nat):Int),P++(M1++(y::(M2++(D2++S)))))/\∀z∈M2,ltOf c y z=true) (fun s=>(s.1 - (P.length:Int)).toNat) ⟨M,[],by simp,by simp[eM],by simp⟩ (by show(((P.length+D1.length:Nat):Int) - (P.length:Int)).toNat < _;simp only[yF];omega) ?_;rintro s ⟨M1,M2,rfl,rfl,hM2⟩;have fin:(∀M z,M1=M++[z]->ltOf c y z=false)->∃D1' D2' M':List A,x::D=D1'++D2'/\((P.length+D1.length:Nat):Int)+1=((P.length+D1'.length:Nat):Int)/\M'.length=D1'.length/\Iy (ltOf c) M'/\tu (ltOf c) D1' M'/\P++(M1++(y::(M2++(D2++S))))=P++(M'++(D2'++S)):=fun h4=>by
     obtain⟨q1,q2⟩:=apo hs sM tM hM2 h4;simp only[kT]at eM;exact⟨D1++[y],D2,M1++y::M2,by rw[eD];simp,by simp;omega,by simp;omega,q1,q2,by simp⟩
    refine bT (fun hlt=> ?_) (fun hge=>zJ ?_)
    ·rcases Qec M1 with rfl | ⟨N,z,rfl⟩
     ·simp at hlt
     ·rw[Qeb]at*;simp only[kT,yF,BM]at eM hlt⊢;have er:P++((N++[z])++(y::(M2++(D2++S))))=(P++N)++z::([]++y::(M2++(D2++S))):=by simp
      obtain⟨k1,k2,k3,k4⟩:=Rw (P:=P++N) (M:=[]) (S:=M2++(D2++S)) (u:=z) (v:=y) (d:=d) (i:=P.length+N.length) (j:=P.length+(N.length+(0+1))) qa2 uZ;have hlen:((P++N)++z::([]++y::(M2++(D2++S)))).length=P.length+N.length+1+1+M2.length+D2.length+S.length:=by simp;omega
      have hmem:q y z:=hq y (by rw[eD];simp) z (by
       have:z∈D1:=(tM.mem hs).1 qa2;rw[eD];simp[this])
      rw[er]at fin⊢;generalize (P++N)++z::([]++y::(M2++(D2++S)))=r at k1 k2 k3 k4 hlen fin⊢;refine aZ au au (ak au (aC fun v7 hv7=> ?_));rw[qB (n:=P.length+N.length) au au]at hv7;subst hv7;refine aZ au au (ak au (ak ?_ (aC fun v8 Nl=> ?_)))
      ·rw[ww,ww,k1,k2];exact hmem
      ·rw[ww,ww,k1,k2]at Nl;refine bT (fun hc=>aZ au au (ak au (aZ au au (ak au (aZ au au (ak au (aC fun v9 hv9=>aZ au (by rw[hv9,Qbm];omega) (ak (by rw[hv9,Qbm];omega) (kQ ?_))))))))) (fun hc=>zJ ?_)
       ·rw[hv9,ww,ww,k1,k2,k4];refine⟨⟨N,z::M2,by simp,by simp,fun w hw=> ?_⟩,?_⟩
        ·rcases xI.1 hw with rfl | hw
         ·exact uu (by rw[<-Nl];exact hc)
         ·exact hM2 w hw
        ·show(((P.length+N.length:Nat):Int) - (P.length:Int)).toNat < (((P.length+(N.length+(0+1)):Nat):Int) - (P.length:Int)).toNat
         omega
       ·refine fin fun M z' e=> ?_;obtain⟨_,e⟩:=List.append_inj' e rfl;injection e with e
        subst e;exact qy (by rw[<-Nl];exact hc)
    ·refine fin fun M z e=> ?_;subst e;simp at hge;omega
  ·rintro i r h0 hi ⟨D1,D2,M,eD,rfl,eM,sM,tM,rfl⟩;have eL:(x::D).length=D1.length+D2.length:=by rw[<-kT,<-eD]
   have:D2=[]:=Qa0 au;subst this;rw[Qbi]at eD;refine ah ⟨M,by simp,sM,by rw[eD];exact tM,by rw[eM,eD]⟩
def aeD (g:A->A)(c:A->A->Int)(q:A->A->Prop)(d:A)(DI:Int->Int->Int->List A->List A)(Hr:Int->Int->Int->List A->Prop)(a m b:Int)(l:List A):Pg (List A):=
 .cut
  (fun(y7:List A)=>
   .cut
    (fun(SH:List A)=>
     .ob ((0:Int)<=1)
      (.lt (dB .i64 (dB .i64 (zV .u64 (dB .u64 (dB .i64 (a+b))) 1)+m)) fun(v21:Int)=>
       .lt (dB .i64 (zV .u64 (dB .u64 (dB .i64 (a+b))) 1)) fun(v22:Int)=>
        .cut
         (fun(y16:Int×Int)=>
          .cut
           (fun(Qy:Int)=>
            .cut
             (fun(y19:List A)=>
              .cut
               (fun(y20:List A)=>
                .lt (dB .i64 (v21 - Qy)) fun(v23:Int)=>
                 .br (decide (v22 < v23)) (.br (decide (v23 < b)) (.ob (Hr v22 v23 b y20) (.ret (DI v22 v23 b y20))) (.ret y20)) (.ret y20))
               (.br (decide (a < Qy)) (.br (decide (Qy < v22)) (.ob (Hr a Qy v22 y19) (.ret (.inl (DI a Qy v22 y19)))) (.ret (.inl y19)))
                (.ret (.inl y19))))
             (.br (decide (Qy < m))
              (.lt (dB .i64 (v21 - Qy)) fun(v24:Int)=>
               .br (decide (m < v24)) (.ob (roQ Qy m v24 SH.length) (.ret (.inl (aGL g d Qy m v24 SH)))) (.ret (.inl SH)))
              (.ret (.inl SH))))
           (.wh ((b - a).toNat+1) default
            (fun(x17:Int×Int)=>
             .br (decide (x17.fst < x17.snd))
              (.ob ((0:Int)<=1)
               (.lt
                (dB .i64
                 (dB .i64 (v21 - 1) - dB .i64 (zV .u64 (dB .u64 (dB .i64 (x17.fst+x17.snd))) 1)))
                fun(v25:Int)=>
                .ix v25 SH.length
                 (.ob (v25.toNat < SH.length)
                  (.lt (dB .i64 (zV .u64 (dB .u64 (dB .i64 (x17.fst+x17.snd))) 1)) fun(v26:Int)=>
                   .ix v26 SH.length
                    (.ob (v26.toNat < SH.length)
                     (.ob (q (g (SH.getD v25.toNat d)) (g (SH.getD v26.toNat d)))
                      (.lt (c (g (SH.getD v25.toNat d)) (g (SH.getD v26.toNat d))) fun(v27:Int)=>
                       .br (!decide (v27 < 0)) (.ret (.inl (dB .i64 (v26+1),x17.snd)))
                        (.ret (.inl (x17.fst,v26))))))))))
              (.ret (.inr (.inl x17.fst))))
            y16))
         (.br (decide (v22 < m)) (.ret (.inl (dB .i64 (v21 - b),v22))) (.ret (.inl (a,m))))))
    (.lt (dB .i64 (b - m)) fun(v28:Int)=>
     .br (v28==1)
      (.cut
       (fun(y11:Int)=>
        .wh ((b - a).toNat+1) default
         (fun(x14:Int×List A)=>
          .br (decide (y11 < x14.fst))
           (.lt (dB .i64 (x14.fst - 1)) fun(v29:Int)=>
            .ix v29 x14.snd.length
             (.ob (v29.toNat < x14.snd.length)
              (.ix x14.fst x14.snd.length
               (.ob (x14.fst.toNat < x14.snd.length)
                (.ix x14.fst x14.snd.length
                 (.ob (x14.fst.toNat < x14.snd.length)
                  (.lt (x14.snd.set x14.fst.toNat (g (x14.snd.getD v29.toNat d))) fun(v30:List A)=>
                   .ix v29 v30.length (.ob (v29.toNat < v30.length) (.ret (.inl (v29,v30.set v29.toNat (g (x14.snd.getD x14.fst.toNat d)))))))))))))
           (.ret (.inr (.inr x14.snd))))
         (m,y7))
       (.wh ((b - a).toNat+1) default
        (fun(x10:Int×Int)=>
         .br (decide (x10.fst < x10.snd))
          (.ob ((0:Int)<=1)
           (.ix m y7.length
            (.ob (m.toNat < y7.length)
             (.lt (dB .i64 (zV .u64 (dB .u64 (dB .i64 (x10.fst+x10.snd))) 1)) fun(v31:Int)=>
              .ix v31 y7.length
               (.ob (v31.toNat < y7.length)
                (.ob (q (g (y7.getD m.toNat d)) (g (y7.getD v31.toNat d)))
                 (.lt (c (g (y7.getD m.toNat d)) (g (y7.getD v31.toNat d))) fun(v32:Int)=>
                  .br (!decide (v32 < 0)) (.ret (.inl (dB .i64 (v31+1),x10.snd))) (.ret (.inl (x10.fst,v31))))))))))
          (.ret (.inr (.inl x10.fst))))
        (a,m)))
      (.ret (.inl y7))))
  (.lt (dB .i64 (m - a)) fun(v33:Int)=>
   .br (v33==1)
    (.cut
     (fun(y4:Int)=>
      .lt (dB .i64 (y4 - 1)) fun(v34:Int)=>
       .cnt qi a v34
        (fun(i5:Int) (y6:List A)=>
         .lt (dB .i64 (i5+1)) fun(v35:Int)=>
          .ix v35 y6.length
           (.ob (v35.toNat < y6.length)
            (.ix i5 y6.length
             (.ob (i5.toNat < y6.length)
              (.ix i5 y6.length
               (.ob (i5.toNat < y6.length)
                (.ix v35 (y6.set i5.toNat (g (y6.getD v35.toNat d))).length
                 (.ob (v35.toNat < (y6.set i5.toNat (g (y6.getD v35.toNat d))).length)
                  (.ret (.inl ((y6.set i5.toNat (g (y6.getD v35.toNat d))).set v35.toNat (g (y6.getD i5.toNat d)))))))))))))
        (fun(i5:Int) (y6:List A)=> .ret (.inr y6)) l)
     (.wh ((b - a).toNat+1) default
      (fun(x3:Int×Int)=>
       .br (decide (x3.fst < x3.snd))
        (.ob ((0:Int)<=1)
         (.lt (dB .i64 (zV .u64 (dB .u64 (dB .i64 (x3.fst+x3.snd))) 1)) fun(v36:Int)=>
          .ix v36 l.length
           (.ob (v36.toNat < l.length)
            (.ix a l.length
             (.ob (a.toNat < l.length)
              (.ob (q (g (l.getD v36.toNat d)) (g (l.getD a.toNat d)))
               (.lt (c (g (l.getD v36.toNat d)) (g (l.getD a.toNat d))) fun(v37:Int)=>
                .br (decide (v37 < 0)) (.ret (.inl (dB .i64 (v36+1),x3.snd))) (.ret (.inl (x3.fst,v36))))))))))
        (.ret (.inr (.inl x3.fst))))
      (m,b)))
    (.ret (.inl l)))
abbrev asq (c:A->A->Int)(q:A->A->Prop)(d:A)(DI:Int->Int->Int->List A->List A)(Hr:Int->Int->Int->List A->Prop)(a m b:Int)(l:List A):Pg (List A):=aeD (fun a=>a) c q d DI Hr a m b l
theorem D6 {i j:Nat}(h:i+j<=4398046511104):dB .i64 (zV .u64 (dB .u64 (dB .i64 ((i:Int)+(j:Int)))) 1)=(((i+j) / 2:Nat):Int):=by
 have e1:dB .i64 ((i:Int)+(j:Int))=((i+j:Nat):Int):=qB au h;rw[e1,NT (k:= .u64) rfl (Qes h nG),show zV .u64 ((i+j:Nat):Int) 1=(((i+j) / 2:Nat):Int)from ae9 (k:= .u64) (i+j) 1 nG];exact w64 au
theorem VO {R:Type}{n:Nat}{r0:Int⊕R}{step:Int×Int->Pg ((Int×Int)⊕(Int⊕R))}{Q:R->Prop}(p:Nat->Bool)(lo hi:Nat)(hlh:lo<=hi)(hn:hi - lo < n)
  (hm:∀i j,lo<=i->i<=j->j < hi->p j=true->p i=true)
  (h1:∀i j:Nat,lo<=i->i < j->j<=hi->jF (step ((i:Int),(j:Int))) fun s=>s= .inl (if p ((i+j) / 2)=true then((((i+j) / 2+1:Nat):Int),(j:Int))else((i:Int),(((i+j) / 2:Nat):Int))))
  (h2:∀i:Nat,jF (step ((i:Int),(i:Int))) fun s=>s= .inr (.inl (i:Int))):
  jF (.wh n r0 step ((lo:Int),(hi:Int))) (Sum.elim (fun y=>∃k:Nat,y=(k:Int)/\lo<=k/\k<=hi/\(∀i,lo<=i->i < k->p i=true)/\∀i,k<=i->i < hi->p i=false) Q):=by
 refine x_ (fun x=>∃i j:Nat,x=((i:Int),(j:Int))/\lo<=i/\i<=j/\j<=hi/\(∀k,lo<=k->k < i->p k=true)/\∀k,j<=k->k < hi->p k=false) (fun x=>(x.2 - x.1).toNat) ⟨lo,hi,rfl,l9 _,hlh,l9 _,fun k h1 h2=>by omega,fun k h1 h2=>by omega⟩ (by show((hi:Int) - (lo:Int)).toNat < n;omega) ?_;rintro x ⟨i,j,rfl,k1,k2,k3,k4,k5⟩;by_cases hij:i < j
 ·obtain⟨q1,q2⟩:=h1 i j k1 hij k3;refine⟨q1,?_⟩;rw[q2];by_cases hp:p ((i+j) / 2)=true
  ·rw[mi hp];refine And.intro ⟨(i+j) / 2+1,j,rfl,by omega,by omega,k3,fun k a b=>hm k ((i+j) / 2) a au au hp,k5⟩ ?_;show((j:Int) - (((i+j) / 2+1:Nat):Int)).toNat < ((j:Int) - (i:Int)).toNat
   omega
  ·rw[lL hp];refine And.intro ⟨i,(i+j) / 2,rfl,k1,by omega,by omega,k4,fun k a b=> ?_⟩ ?_
   ·cases e:p k with
    | false=>rfl
    | true=>exact absurd (hm ((i+j) / 2) k au a b e) hp
   ·show((((i+j) / 2:Nat):Int) - (i:Int)).toNat < ((j:Int) - (i:Int)).toNat
    omega
 ·obtain rfl:i=j:=by omega
  obtain⟨q1,q2⟩:=h2 i;refine⟨q1,?_⟩;rw[q2];exact Exists.intro i ⟨rfl,k1,k3,k4,k5⟩
theorem yU (hs:FO lt){X:List A}(h:Iy lt X){i j:Nat}(hij:i<=j)(hj:j < X.length):lt (X.getD j d) (X.getD i d)=false:=by
 rcases Nat.lt_or_eq_of_le hij with hij | rfl
 ·have:=List.pairwise_iff_getElem.1 h i j au hj hij;simpa[List.getD,hj,show i < X.length by omega]using this
 ·exact hs.irr _
theorem Df {X:List A}{x:A}(h:x∈X):∃i,i < X.length/\X.getD i d=x:=by
 obtain⟨i,hi,rfl⟩:=Qdw h;exact⟨i,hi,by simp[List.getD,hi]⟩
theorem LK {P X S:List A}{i k:Nat}(hk:k=P.length+i)(hi:i < X.length):(P++(X++S)).getD k d=X.getD i d:=by
 subst hk;have:¬P.length+i < P.length:=by omega
 simp[List.getD,Qdo,hi,this]
theorem JQ {X:List A}{t:Nat}{x:A}(h:x∈X.take t):∃i,i < t/\i < X.length/\X.getD i d=x:=by
 obtain⟨i,hi,e⟩:=Df (d:=d) h;rw[uw]at hi;refine⟨i,by omega,by omega,?_⟩;rw[<-e];simp[List.getD,Nj,show i < t by omega]
theorem Ko {X:List A}{t:Nat}{x:A}(h:x∈X.drop t):∃i,t<=i/\i < X.length/\X.getD i d=x:=by
 obtain⟨i,hi,e⟩:=Df (d:=d) h;rw[Nk]at hi;refine⟨t+i,by omega,by omega,?_⟩;rw[<-e];simp[List.getD,Qbp]
def adW (c:A->A->Int)(P S X r:List A):Prop:=∃M,r=P++(M++S)/\Iy (ltOf c) M/\tu (ltOf c) X M/\M.length=X.length
def mrg (c:A->A->Int)(a b:Int)(l r:List A):Prop:=∀P D S,l=P++(D++S)->a=(P.length:Int)->b=((P.length+D.length:Nat):Int)->adW c P S D r
theorem aB7 {P D S r:List A}{a b:Int}(ha:a=(P.length:Int))(hb:b=((P.length+D.length:Nat):Int))(h:adW c P S D r):mrg c a b (P++(D++S)) r:=by
 intro P' D' S' e ha' hb';obtain⟨rfl,e2⟩:=List.append_inj e au;obtain⟨rfl,rfl⟩:=List.append_inj e2 au;exact h
theorem av_ (hs:FO (ltOf c)){P Y S:List A}{x:A}(hY:Iy (ltOf c) Y)(hl:P.length+1+Y.length+S.length<=1099511627776)(hq:∀x'∈P++(([x]++Y)++S),∀y∈P++(([x]++Y)++S),q x' y){R:Type}{a m b:Int}(ha:a=(P.length:Int))(hm:m=((P.length+1:Nat):Int))(hb:b=((P.length+1+Y.length:Nat):Int)){l:List A}(el:l=P++(([x]++Y)++S)){Q1:R->Prop}:
  jF (.cut
     (fun(y4:Int)=>
      .lt (dB .i64 (y4 - 1)) fun(v34:Int)=>
       .cnt qi a v34
        (fun(i5:Int) (y6:List A)=>
         .lt (dB .i64 (i5+1)) fun(v35:Int)=>
          .ix v35 y6.length
           (.ob (v35.toNat < y6.length)
            (.ix i5 y6.length
             (.ob (i5.toNat < y6.length)
              (.ix i5 y6.length
               (.ob (i5.toNat < y6.length)
                (.ix v35 (y6.set i5.toNat (y6.getD v35.toNat d)).length
                 (.ob (v35.toNat < (y6.set i5.toNat (y6.getD v35.toNat d)).length)
                  (.ret (.inl ((y6.set i5.toNat (y6.getD v35.toNat d)).set v35.toNat (y6.getD i5.toNat d))))))))))))
        (fun(i5:Int) (y6:List A)=> .ret (.inr y6)) l)
     (.wh ((b - a).toNat+1) default
      (fun(x3:Int×Int)=>
       .br (decide (x3.fst < x3.snd))
        (.ob ((0:Int)<=1)
         (.lt (dB .i64 (zV .u64 (dB .u64 (dB .i64 (x3.fst+x3.snd))) 1)) fun(v36:Int)=>
          .ix v36 l.length
           (.ob (v36.toNat < l.length)
            (.ix a l.length
             (.ob (a.toNat < l.length)
              (.ob (q (l.getD v36.toNat d) (l.getD a.toNat d))
               (.lt (c (l.getD v36.toNat d) (l.getD a.toNat d)) fun(v37:Int)=>
                .br (decide (v37 < 0)) (.ret (.inl (dB .i64 (v36+1),x3.snd))) (.ret (.inl (x3.fst,v36))))))))))
        (.ret (.inr (.inl x3.fst))))
      (m,b)):Pg (R⊕List A)) (Sum.elim Q1 (adW c P S ([x]++Y))):=by
 subst ha hm hb;have hll:l.length=P.length+1+Y.length+S.length:=by rw[el];simp;omega
 have gx:l.getD P.length d=x:=by rw[el];exact get_at rfl
 have gY:∀i,i < Y.length->l.getD (P.length+1+i) d=Y.getD i d:=fun i hi=>by
  rw[el,show P++(([x]++Y)++S)=(P++[x])++(Y++S) by simp];exact LK qa2 hi
 refine df _ (VO (fun h=>ltOf c (l.getD h d) x) (P.length+1) (P.length+1+Y.length) au au (fun i j h1 h2 h3 h4=> ?_) (fun i j h1 h2 h3=> ?_) (fun i=> ?_)) ?_
 ·obtain⟨i,rfl⟩:∃u,i=P.length+1+u:=⟨i - (P.length+1),by omega⟩;obtain⟨j,rfl⟩:∃u,j=P.length+1+u:=⟨j - (P.length+1),by omega⟩;rw[gY j au]at h4;rw[gY i au];cases e:ltOf c (Y.getD i d) x with
  | true=>rfl
  | false=>
   have:=hs.trn e (yU (d:=d) hs hY (show i<=j by omega) au);rw[this]at h4;cases h4
 ·refine bT (fun _=>ak au (aC fun v36 aFK=> ?_)) (fun h=>by exfalso;dsimp only at h;omega);dsimp only at aFK⊢;rw[D6 au]at aFK;subst aFK;refine aZ au au (ak au (aZ au au (ak au (ak ?_ (aC fun v37 ai_=> ?_)))))
  ·refine hq _ ?_ _ ?_
   ·rw[<-el];exact getD_mem au
   ·rw[<-el];exact getD_mem au
  ·rw[ww,ww,gx]at ai_;refine bT (fun hc=>ah ?_) (fun hc=>ah ?_)
   ·have hp:ltOf c (l.getD ((i+j) / 2) d) x=true:=uu (by rw[<-ai_];exact hc);rw[mi hp,qB (n:=(i+j) / 2+1) au au]
   ·have hp:¬ltOf c (l.getD ((i+j) / 2) d) x=true:=by rw[Qc8];exact qy (by rw[<-ai_];exact hc)
    rw[lL hp]
 ·exact bT (fun h=>absurd h (Qey _)) (fun _=>ah rfl)
 ·rintro y4 ⟨k,rfl,k1,k2,k3,k4⟩;obtain⟨t,rfl⟩:∃t,k=P.length+1+t:=⟨k - (P.length+1),by omega⟩;have hV:∀v∈Y.take t,ltOf c v x=true:=fun v hv=>by
   obtain⟨i,h1,h2,rfl⟩:=JQ (d:=d) hv;have:=k3 (P.length+1+i) au au;try dsimp only at this
   rwa [gY i h2]at this
  have hR:∀v∈Y.drop t,ltOf c v x=false:=fun v hv=>by
   obtain⟨i,h1,h2,rfl⟩:=Ko (d:=d) hv;have:=k4 (P.length+1+i) au au;try dsimp only at this
   rwa [gY i h2]at this
  have eY:Y=Y.take t++Y.drop t:=(Qbk t Y).symm;have lV:(Y.take t).length=t:=by rw[uw];omega
  have lR:t+(Y.drop t).length=Y.length:=by rw[Nk];omega
  generalize Y.take t=V at*;generalize Y.drop t=W at*;subst eY;refine aC fun v34 hv34=> ?_;rw[qB (n:=P.length+t) au au]at hv34;subst hv34;refine vk (fun i r=>∃V1 V2:List A,V=V1++V2/\i=((P.length+V1.length:Nat):Int)/\r=P++(V1++(x::(V2++(W++S))))) ⟨[],V,rfl,by simp,by rw[el];simp⟩ au au ?_ ?_
  ·rintro i r h0 hi ⟨V1,V2,rfl,rfl,rfl⟩;cases V2 with
   | nil=>simp at lV;omega
   | cons v V2=>
    simp only[kT,yF]at lV hi hl hll;have er:P++(V1++(x::((v::V2)++(W++S))))=(P++V1)++x::([]++v::(V2++(W++S))):=by simp
    rw[er];obtain⟨q1,q2,q3,q4⟩:=Rw (P:=P++V1) (M:=[]) (S:=V2++(W++S)) (u:=x) (v:=v) (d:=d) (i:=P.length+V1.length) (j:=P.length+V1.length+1) qa2 qa2;have hlen:((P++V1)++x::([]++v::(V2++(W++S)))).length=P.length+V1.length+1+1+V2.length+W.length+S.length:=by simp;omega
    generalize (P++V1)++x::([]++v::(V2++(W++S)))=r at*;refine aC fun v35 aIY=> ?_;rw[qB (n:=P.length+V1.length+1) au au]at aIY;subst aIY;refine aZ au au (ak au (aZ au au (ak au (aZ au au (ak au (aZ au qcd (ak qcd (kQ ?_))))))));rw[ww,ww,q1,q2,q3];exact⟨V1++[v],V2,by simp,by simp;omega,by simp⟩
  ·rintro i r h0 hi ⟨V1,V2,rfl,rfl,rfl⟩;simp only[kT]at lV;have:V2=[]:=Qa0 au;subst this;rw[Qbi]at*;refine zJ ⟨V1++(x::W),by simp,?_⟩;have k:=Ub hs (A1:=[]) (U:=[x]) (V:=V1) (R:=W) (C1:=V1) (C2:=x::W) (Qd4 _ _) hY (fun u hu v hv=>by
    obtain rfl:u=x:=by simpa using hu
    exact hV v hv) (fun _ h=>by simp at h) (oC.1 hY).1 (tu.refl _) (List.pairwise_cons.2 ⟨fun w hw=>hR w hw,(oC.1 hY).2.1⟩) (tu.refl _)
   exact⟨k.1,k.2,by simp;omega⟩
theorem apc (hs:FO (ltOf c)){P X S:List A}{y:A}(hX:Iy (ltOf c) X)(hl:P.length+X.length+1+S.length<=1099511627776)(hq:∀x'∈P++((X++[y])++S),∀y'∈P++((X++[y])++S),q x' y'){R:Type}{a m b:Int}(ha:a=(P.length:Int))(hm:m=((P.length+X.length:Nat):Int))(hb:b=((P.length+X.length+1:Nat):Int)){y7:List A}(el:y7=P++((X++[y])++S)){Q1:R->Prop}:
  jF (.cut
       (fun(y11:Int)=>
        .wh ((b - a).toNat+1) default
         (fun(x14:Int×List A)=>
          .br (decide (y11 < x14.fst))
           (.lt (dB .i64 (x14.fst - 1)) fun(v29:Int)=>
            .ix v29 x14.snd.length
             (.ob (v29.toNat < x14.snd.length)
              (.ix x14.fst x14.snd.length
               (.ob (x14.fst.toNat < x14.snd.length)
                (.ix x14.fst x14.snd.length
                 (.ob (x14.fst.toNat < x14.snd.length)
                  (.lt (x14.snd.set x14.fst.toNat (x14.snd.getD v29.toNat d)) fun(v30:List A)=>
                   .ix v29 v30.length (.ob (v29.toNat < v30.length) (.ret (.inl (v29,v30.set v29.toNat (x14.snd.getD x14.fst.toNat d))))))))))))
           (.ret (.inr (.inr x14.snd))))
         (m,y7))
       (.wh ((b - a).toNat+1) default
        (fun(x10:Int×Int)=>
         .br (decide (x10.fst < x10.snd))
          (.ob ((0:Int)<=1)
           (.ix m y7.length
            (.ob (m.toNat < y7.length)
             (.lt (dB .i64 (zV .u64 (dB .u64 (dB .i64 (x10.fst+x10.snd))) 1)) fun(v31:Int)=>
              .ix v31 y7.length
               (.ob (v31.toNat < y7.length)
                (.ob (q (y7.getD m.toNat d) (y7.getD v31.toNat d))
                 (.lt (c (y7.getD m.toNat d) (y7.getD v31.toNat d)) fun(v32:Int)=>
                  .br (!decide (v32 < 0)) (.ret (.inl (dB .i64 (v31+1),x10.snd))) (.ret (.inl (x10.fst,v31))))))))))
          (.ret (.inr (.inl x10.fst))))
        (a,m)):Pg (R⊕List A)) (Sum.elim Q1 (adW c P S (X++[y]))):=by
 subst ha hm hb;have hll:y7.length=P.length+X.length+1+S.length:=by rw[el];simp;omega
 have gy:y7.getD (P.length+X.length) d=y:=by
  rw[el,show P++((X++[y])++S)=(P++X)++y::S by simp];exact get_at qa2
 have gX:∀i,i < X.length->y7.getD (P.length+i) d=X.getD i d:=fun i hi=>by
  rw[el,show P++((X++[y])++S)=P++(X++([y]++S)) by simp];exact LK rfl hi
 refine df _ (VO (fun h=> !ltOf c y (y7.getD h d)) P.length (P.length+X.length) au au (fun i j h1 h2 h3 h4=> ?_) (fun i j h1 h2 h3=> ?_) (fun i=> ?_)) ?_
 ·obtain⟨i,rfl⟩:∃u,i=P.length+u:=⟨i - P.length,by omega⟩;obtain⟨j,rfl⟩:∃u,j=P.length+u:=⟨j - P.length,by omega⟩;rw[gX j au]at h4;rw[gX i au];have:=hs.trn (yU (d:=d) hs hX (show i<=j by omega) au) (show ltOf c y (X.getD j d)=false by simpa using h4);rw[this];rfl
 ·refine bT (fun _=>ak au (aZ au au (ak au (aC fun v31 hv31=> ?_)))) (fun h=>by exfalso;dsimp only at h;omega);dsimp only at hv31⊢;rw[D6 au]at hv31;subst hv31;refine aZ au au (ak au (ak ?_ (aC fun v37 ai_=> ?_)))
  ·refine hq _ ?_ _ ?_
   ·rw[<-el];exact getD_mem au
   ·rw[<-el];exact getD_mem au
  ·rw[ww,ww,gy]at ai_;refine dH (fun hc=>ah ?_) (fun hc=>ah ?_)
   ·rw[ai_]at hc;rw[mi (show(!ltOf c y (y7.getD ((i+j) / 2) d))=true from hc),qB (n:=(i+j) / 2+1) au au]
   ·rw[ai_]at hc;rw[lL (by rw[Qc8];exact hc)]
 ·exact bT (fun h=>absurd h (Qey _)) (fun _=>ah rfl)
 ·rintro y4 ⟨k,rfl,k1,k2,k3,k4⟩;obtain⟨t,rfl⟩:∃t,k=P.length+t:=⟨k - P.length,by omega⟩;have hA:∀v∈X.take t,ltOf c y v=false:=fun v hv=>by
   obtain⟨i,h1,h2,rfl⟩:=JQ (d:=d) hv;have:=k3 (P.length+i) au au;try dsimp only at this
   rw[gX i h2]at this;simpa using this
  have hU:∀v∈X.drop t,ltOf c y v=true:=fun v hv=>by
   obtain⟨i,h1,h2,rfl⟩:=Ko (d:=d) hv;have:=k4 (P.length+i) au au;try dsimp only at this
   rw[gX i h2]at this;simpa using this
  have eX:X=X.take t++X.drop t:=(Qbk t X).symm;have lA:(X.take t).length=t:=by rw[uw];omega
  have lU:t+(X.drop t).length=X.length:=by rw[Nk];omega
  generalize X.take t=B at*;generalize X.drop t=U at*;subst eX;refine x_ (fun s=>∃U1 U2:List A,U=U1++U2/\s=(((P.length+B.length+U1.length:Nat):Int),P++(B++(U1++(y::(U2++S)))))) (fun s=>(s.1 - ((P.length:Nat):Int)).toNat) ⟨U,[],by simp,by rw[el];simp;omega⟩ (by show(((P.length+(B++U).length:Nat):Int) - ((P.length:Nat):Int)).toNat < _;omega) ?_;rintro s ⟨U1,U2,rfl,rfl⟩;refine bT (fun hlt=> ?_) (fun hge=>zJ ?_)
  ·rcases Qec U1 with rfl | ⟨N,z,rfl⟩
   ·simp at hlt;omega
   ·rw[Qeb]at*;simp only[kT,yF,BM]at hlt lU hl hll⊢;have er:P++(B++((N++[z])++(y::(U2++S))))=(P++(B++N))++z::([]++y::(U2++S)):=by simp
    rw[er];obtain⟨q1,q2,q3,q4⟩:=Rw (P:=P++(B++N)) (M:=[]) (S:=U2++S) (u:=z) (v:=y) (d:=d) (i:=P.length+B.length+N.length) (j:=P.length+B.length+(N.length+(0+1))) uZ uZ;have hlen:((P++(B++N))++z::([]++y::(U2++S))).length=P.length+B.length+N.length+1+1+U2.length+S.length:=by simp;omega
    generalize (P++(B++N))++z::([]++y::(U2++S))=r at*;refine aC fun v29 hv29=> ?_;rw[qB (n:=P.length+B.length+N.length) au au]at hv29;subst hv29;refine aZ au au (ak au (aZ au au (ak au (aZ au au (ak au (aC fun v30 aFJ=>aZ au (by rw[aFJ,Qbm];omega) (ak (by rw[aFJ,Qbm];omega) (kQ ?_))))))));rw[aFJ,ww,ww,q1,q2,q4];refine⟨⟨N,z::U2,by simp,by simp⟩,?_⟩;show(((P.length+B.length+N.length:Nat):Int) - ((P.length:Nat):Int)).toNat < (((P.length+B.length+(N.length+(0+1)):Nat):Int) - ((P.length:Nat):Int)).toNat
    omega
  ·show adW c P S (B++(U1++U2)++[y]) (P++(B++(U1++(y::(U2++S)))))
   simp only[kT]at lU hge;have:U1=[]:=Qa0 au;subst this;rw[Qci]at*;refine⟨B++(y::U2),by simp,?_⟩;have k:=Ub hs (A1:=B) (U:=U2) (V:=[y]) (R:=[]) (C1:=B++[y]) (C2:=U2) hX (by simp[Iy]) (fun u hu v hv=>by
    obtain rfl:v=y:=by simpa using hv
    exact hU u hu) (fun _ _ _ h=>by simp at h) (oC.2 ⟨(oC.1 hX).1,Qd4 _ _,fun x hx w hw=>by
    obtain rfl:w=y:=by simpa using hw
    exact hA x hx⟩) (tu.refl _) (oC.1 hX).2.1 (by rw[Qbi];exact tu.refl _)
   have e:B++(y::U2)=(B++[y])++U2:=by simp
   rw[e];exact⟨k.1,by simpa using k.2,by simp<;>omega⟩
theorem TJ (hs:FO (ltOf c)){DI:Int->Int->Int->List A->List A}{Hr:Int->Int->Int->List A->Prop}{fu:Nat}(hQ:∀a m b l,Ql c q fu a m b l->Hr a m b l)(hR:∀a m b l,Ql c q fu a m b l->mrg c a b l (DI a m b l)){a m b:Int}{l:List A}(h:Ql c q (fu+1) a m b l):
  jF (asq c q d DI Hr a m b l) (mrg c a b l):=by
 obtain⟨⟨hl,hq⟩,P,X,Y,S,rfl,rfl,rfl,rfl,hX,hY,nX,nY,hfu⟩:=h;have pX:=Qdx.2 nX;have pY:=Qdx.2 nY;simp only[kT]at hl
 suffices k:jF (asq c q d DI Hr (P.length:Int) ((P.length+X.length:Nat):Int) ((P.length+X.length+Y.length:Nat):Int) (P++((X++Y)++S))) (adW c P S (X++Y))from⟨k.1,aB7 rfl uZ k.2⟩
 unfold asq;refine df (fun y=>y=P++((X++Y)++S)/\X.length≠1) ?_ ?_
 ·refine aC fun v33 aIX=> ?_;rw[qB (n:=X.length) au au]at aIX;subst aIX;refine dI (fun h1=> ?_) (fun h1=>kQ ⟨rfl,by omega⟩);obtain⟨x,rfl⟩:∃x,X=[x]:=Qd9.1 au;simp only[Qcg]at hl;exact av_ hs hY au hq rfl qa2 qa2 rfl
 rintro y7 ⟨rfl,h1⟩;refine df (fun y=>y=P++((X++Y)++S)/\Y.length≠1) ?_ ?_
 ·refine aC fun v28 hv28=> ?_;rw[qB (n:=Y.length) au au]at hv28;subst hv28;refine dI (fun h1=> ?_) (fun h1=>kQ ⟨rfl,by omega⟩);obtain⟨y,rfl⟩:∃y,Y=[y]:=Qd9.1 au;simp only[Qcg]at hl;exact apc hs hX au hq rfl rfl qa2 rfl
 rintro SH ⟨rfl,h2⟩;have hll:(P++((X++Y)++S)).length=P.length+X.length+Y.length+S.length:=by simp;omega
 have gX:∀i,i < X.length->(P++((X++Y)++S)).getD (P.length+i) d=X.getD i d:=fun i hi=>by
  rw[Oy X];exact LK rfl hi
 have gY:∀i,i < Y.length->(P++((X++Y)++S)).getD (P.length+X.length+i) d=Y.getD i d:=fun i hi=>by
  rw[show P++((X++Y)++S)=(P++X)++(Y++S) by simp];exact LK qa2 hi
 obtain⟨mid,hmid⟩:∃mid,mid=(P.length+(P.length+X.length+Y.length)) / 2:=⟨_,rfl⟩;refine ak au (aC fun v21 acU=>aC fun v22 aoC=> ?_);rw[D6 au,<-hmid]at acU aoC;rw[qB (n:=mid+P.length+X.length) au au]at acU;subst acU aoC;refine df (fun y=>∃s0 r0:Nat,y=((s0:Int),(r0:Int))/\s0<=r0/\P.length<=s0/\r0<=P.length+X.length/\r0<=mid/\mid<=s0+Y.length/\(r0=P.length+X.length\/r0=mid)/\(s0=P.length\/s0+Y.length=mid)) ?_ ?_
 ·refine bT (fun hlt=>kQ ?_) (fun hge=>kQ ?_)
  ·rw[qB (n:=mid - Y.length) au au];exact⟨mid - Y.length,mid,rfl,by omega,by omega,by omega,by omega,by omega, .inr rfl, .inr au⟩
  ·exact⟨P.length,P.length+X.length,rfl,by omega,by omega,by omega,by omega,by omega, .inl rfl, .inl rfl⟩
 rintro y16 ⟨s0,r0,rfl,g1,g2,g3,g4,g5,g6,g7⟩;refine df _ (VO (fun k=> !ltOf c ((P++((X++Y)++S)).getD (mid+P.length+X.length - 1 - k) d) ((P++((X++Y)++S)).getD k d)) s0 r0 g1 au (fun i j k1 k2 k3 k4=> ?_) (fun i j k1 k2 k3=> ?_) (fun i=> ?_)) ?_
 ·obtain⟨i,rfl⟩:∃u,i=P.length+u:=⟨i - P.length,by omega⟩;obtain⟨j,rfl⟩:∃u,j=P.length+u:=⟨j - P.length,by omega⟩;have ei:mid+P.length+X.length - 1 - (P.length+i)=P.length+X.length+(mid - 1 - (P.length+i)):=by omega
  have ej:mid+P.length+X.length - 1 - (P.length+j)=P.length+X.length+(mid - 1 - (P.length+j)):=by omega
  rw[ej,gX j au,gY _ au]at k4;rw[ei,gX i au,gY _ au];have q1:=hs.trn (yU (d:=d) hs hX (show i<=j by omega) au) (show ltOf c (Y.getD (mid - 1 - (P.length+j)) d) (X.getD j d)=false by simpa using k4);have q2:=hs.trn q1 (yU (d:=d) hs hY (show mid - 1 - (P.length+j)<=mid - 1 - (P.length+i) by omega) au);rw[q2];rfl
 ·refine bT (fun _=>ak au (aC fun v25 hv25=> ?_)) (fun h=>by exfalso;dsimp only at h;omega);try dsimp only at hv25⊢
  rw[D6 au,qB (i:=((mid+P.length+X.length:Nat):Int) - 1) (n:=mid+P.length+X.length - 1) au au,qB (i:=((mid+P.length+X.length - 1:Nat):Int) - (((i+j) / 2:Nat):Int)) (n:=mid+P.length+X.length - 1 - (i+j) / 2) au au]at hv25;subst hv25;refine aZ au au (ak au (aC fun v26 aIW=> ?_));rw[D6 au]at aIW;subst aIW;refine aZ au au (ak au (ak (hq _ (getD_mem au) _ (getD_mem au)) (aC fun v27 hv27=> ?_)));rw[ww,ww]at hv27;refine dH (fun hc=>ah ?_) (fun hc=>ah ?_)
  ·rw[hv27]at hc;rw[mi (show(!ltOf c ((P++((X++Y)++S)).getD (mid+P.length+X.length - 1 - (i+j) / 2) d) ((P++((X++Y)++S)).getD ((i+j) / 2) d))=true from hc),qB (n:=(i+j) / 2+1) au au]
  ·rw[hv27]at hc;rw[lL (show ¬(!ltOf c ((P++((X++Y)++S)).getD (mid+P.length+X.length - 1 - (i+j) / 2) d) ((P++((X++Y)++S)).getD ((i+j) / 2) d))=true by rw[Qc8];exact hc)]
 ·exact bT (fun h=>absurd h (Qey _)) (fun _=>ah rfl)
 rintro Qy ⟨k,rfl,k1,k2,k3,k4⟩;obtain⟨t,rfl⟩:∃t,k=P.length+t:=⟨k - P.length,by omega⟩;have H1:∀u∈X.drop t,∀v∈Y.take (mid - (P.length+t)),ltOf c v u=true:=fun u hu v hv=>by
  obtain⟨i,i1,i2,rfl⟩:=Ko (d:=d) hu;obtain⟨j,j1,j2,rfl⟩:=JQ (d:=d) hv;have:=k4 (P.length+t) au au;rw[show mid+P.length+X.length - 1 - (P.length+t)=P.length+X.length+(mid - 1 - (P.length+t)) by omega,gX t au,gY _ au]at this;have e:ltOf c (Y.getD (mid - 1 - (P.length+t)) d) (X.getD t d)=true:=by simpa using this
  cases e2:ltOf c (Y.getD j d) (X.getD i d)with
  | true=>rfl
  | false=>
   have q1:=hs.trn (yU (d:=d) hs hX i1 i2) e2;have q2:=hs.trn q1 (yU (d:=d) hs hY (show j<=mid - 1 - (P.length+t) by omega) au);rw[q2]at e;cases e
 have H2:∀x∈X.take t,∀r∈Y.drop (mid - (P.length+t)),ltOf c r x=false:=fun x hx r hr=>by
  obtain⟨i,i1,i2,rfl⟩:=JQ (d:=d) hx;obtain⟨j,j1,j2,rfl⟩:=Ko (d:=d) hr;have:=k3 (P.length+t - 1) au au;rw[show mid+P.length+X.length - 1 - (P.length+t - 1)=P.length+X.length+(mid - (P.length+t)) by omega,show P.length+t - 1=P.length+(t - 1) by omega,gX (t - 1) au,gY _ au]at this;have e:ltOf c (Y.getD (mid - (P.length+t)) d) (X.getD (t - 1) d)=false:=by simpa using this
  have q1:=hs.trn (yU (d:=d) hs hX (show i<=t - 1 by omega) au) e;exact hs.trn q1 (yU (d:=d) hs hY j1 j2)
 have lA:(X.take t).length=t:=by rw[uw];omega
 have lU:t+(X.drop t).length=X.length:=by rw[Nk];omega
 have lV:P.length+t+(Y.take (mid - (P.length+t))).length=mid:=by rw[uw];omega
 have lW:(Y.take (mid - (P.length+t))).length+(Y.drop (mid - (P.length+t))).length=Y.length:=by rw[uw,Nk];omega
 have eX:X=X.take t++X.drop t:=(Qbk t X).symm;have eY:Y=Y.take (mid - (P.length+t))++Y.drop (mid - (P.length+t)):=(Qbk _ Y).symm;clear gX gY k3 k4;generalize X.take t=B at*;generalize X.drop t=U at*;generalize Y.take (mid - (P.length+t))=V at*;generalize Y.drop (mid - (P.length+t))=W at*;subst eX eY;have eBU:(B++U).length=B.length+U.length:=kT;have eVW:(V++W).length=V.length+W.length:=kT;clear hll;have hll:(P++(((B++U)++(V++W))++S)).length=P.length+B.length+U.length+V.length+W.length+S.length:=by simp;omega
 simp only[kT]at hl lU lW g3 g5 g6 g7 h1 h2 hfu pX pY hmid;have hq':∀N:List A,(∀z∈N,z∈P++(((B++U)++(V++W))++S))->∀x∈N,∀y∈N,q x y:=fun N hN x hx y hy=>hq x (hN x hx) y (hN y hy)
 refine df (fun y=>y=P++(B++(V++(U++(W++S))))) ?_ ?_
 ·have e0:U=[]\/V=[]->P++(((B++U)++(V++W))++S)=P++(B++(V++(U++(W++S)))):=by
   rintro(rfl | rfl)<;>simp
  refine bT (fun hk=>aC fun v24 hv24=> ?_) (fun hk=>kQ (e0 (.inl (Qa0 au))));rw[qB (n:=mid+U.length) au au]at hv24;subst hv24;refine bT (fun hv=>ak ⟨by omega,by omega,by omega,by rw[hll];omega,by rw[hll];omega⟩ (kQ ?_)) (fun hv=>kQ (e0 (.inr (Qa0 au))));have:=(aqo d (P++B) U V (W++S) (fun e=>by subst e;simp at hk lU;omega) (fun e=>by subst e;simp at hv lV;omega) uZ (a:=((P.length+t:Nat):Int)) (m:=((P.length+(B++U).length:Nat):Int)) (b:=((mid+U.length:Nat):Int)) uZ uZ uZ).2;show roV d _ _ _ _=_
  unfold roV;rw[show P++(((B++U)++(V++W))++S)=(P++B)++(U++(V++(W++S))) by simp];exact Eq.trans this qa2
 rintro y19 rfl;have sB:=(oC.1 hX).1;have sU:=(oC.1 hX).2.1;have sV:=(oC.1 hY).1;have sW:=(oC.1 hY).2.1;refine df (fun y=>∃C1,y=P++(C1++(U++(W++S)))/\Iy (ltOf c) C1/\tu (ltOf c) (B++V) C1/\C1.length=B.length+V.length) ?_ ?_
 ·have e1:B=[]\/V=[]->∃C1,P++(B++(V++(U++(W++S))))=P++(C1++(U++(W++S)))/\Iy (ltOf c) C1/\tu (ltOf c) (B++V) C1/\C1.length=B.length+V.length:=by
   rintro(rfl | rfl)
   ·exact⟨V,rfl,sV,tu.refl _,by simp⟩
   ·exact⟨B,rfl,sB,by rw[Qbi];exact tu.refl _,by simp⟩
  refine bT (fun hk=>bT (fun hm=> ?_) (fun hm=>kQ (e1 (.inr (Qa0 au))))) (fun hk=>kQ (e1 (.inl (Qa0 au))));have k:Ql c q fu (P.length:Int) ((P.length+t:Nat):Int) (mid:Int) (P++(B++(V++(U++(W++S))))):=by
   refine⟨⟨by simp;omega,hq' _ fun z hz=> ?_⟩,P,B,V,U++(W++S),by simp,rfl,by omega,by omega,sB,sV,?_,?_,by omega⟩
   ·simp only[rW]at hz⊢;rcases hz with h | h | h | h | h | h<;>simp[h]
   ·rintro rfl;simp at lA;omega
   ·rintro rfl;simp at lV;omega
  refine ak (hQ _ _ _ _ k) (kQ ?_);obtain⟨C1,q1,q2,q3,q4⟩:=hR _ _ _ _ k P (B++V) (U++(W++S)) qa2 rfl uZ;exact⟨C1,q1,q2,q3,by rw[q4,kT]⟩
 rintro y20 ⟨C1,rfl,sC,tC,lC⟩;refine aC fun v23 aoD=> ?_;rw[qB (n:=mid+U.length) au au]at aoD;subst aoD;have fin:∀{C2 r:List A},r=P++(C1++(C2++S))->Iy (ltOf c) C2->tu (ltOf c) (U++W) C2->C2.length=U.length+W.length->adW c P S ((B++U)++(V++W)) r:=fun{C2 r} e s2 t2 l2=>by
  have:=Ub hs hX hY H1 H2 sC tC s2 t2;exact⟨C1++C2,by rw[e];simp,this.1,this.2,by simp;omega⟩
 have e2:U=[]\/W=[]->adW c P S ((B++U)++(V++W)) (P++(C1++(U++(W++S)))):=by
  rintro(rfl | rfl)
  ·exact fin (C2:=W) rfl sW (tu.refl _) qa2
  ·exact fin (C2:=U) rfl sU (by rw[Qbi];exact tu.refl _) qa2
 refine bT (fun hk=>bT (fun hm=> ?_) (fun hm=>ah (e2 (.inr (Qa0 au))))) (fun hk=>ah (e2 (.inl (Qa0 au))));have k:Ql c q fu (mid:Int) ((mid+U.length:Nat):Int) ((P.length+(B++U).length+(V++W).length:Nat):Int) (P++(C1++(U++(W++S)))):=by
  refine⟨⟨by simp;omega,hq' _ fun z hz=> ?_⟩,P++C1,U,W,S,by simp,by simp;omega,by simp;omega,by simp;omega,sU,sW,?_,?_,by omega⟩
  ·simp only[rW]at hz⊢;rcases hz with h | h | h | h | h
   ·simp[h]
   ·have:=(tC.mem hs).1 h;rcases rW.1 this with h | h<;>simp[h]
   ·simp[h]
   ·simp[h]
   ·simp[h]
  ·rintro rfl;simp at hk
  ·rintro rfl;simp at lW hm;omega
 refine ak (hQ _ _ _ _ k) (ah ?_);obtain⟨C2,q1,q2,q3,q4⟩:=hR _ _ _ _ k (P++C1) (U++W) S qa2 uZ uZ;exact fin (by rw[q1];simp) q2 q3 (by rw[q4,kT])
theorem Ht {a m b:Int}{l:List A}{B:Prop}(h:Ql c q 0 a m b l):B:=by
 obtain⟨_,_,_,_,_,_,_,_,_,_,_,_,_,h⟩:=h;exact absurd h (Nat.not_lt_zero _)
inductive Runs (lt:A->A->Bool) (k:Nat):List A->Prop where
 | last {l:List A}:Iy lt l->l.length<=k->Runs lt k l
 | cons {x l:List A}:Iy lt x->x.length=k->Runs lt k l->Runs lt k (x++l)
theorem asr {k:Nat}{l:List A}(hk:0 < k)(h:Runs lt k l)(hl:2*k<=l.length):∃x y t,l=x++(y++t)/\Iy lt x/\Iy lt y/\x.length=k/\y.length=k/\Runs lt k t:=by
 cases h with
 | last s le=>omega
 | @cons x l s e r=>
  rw[kT]at hl;cases r with
  | last s2 le=>exact⟨x,l,[],by simp,s,s2,e,by omega, .last List.Pairwise.nil (vg _)⟩
  | @cons y t s2 e2 r2=>exact⟨x,y,t,rfl,s,s2,e,e2,r2⟩
theorem aqn {k:Nat}{l:List A}(h:Runs lt k l)(h1:k < l.length)(h2:l.length < 2*k):∃x y,l=x++y/\Iy lt x/\Iy lt y/\x.length=k/\0 < y.length:=by
 cases h with
 | last s le=>omega
 | @cons x l s e r=>
  rw[kT]at h1 h2;cases r with
  | last s2 le=>exact⟨x,l,rfl,s,s2,e,by omega⟩
  | @cons y t s2 e2 r2=>rw[kT]at h2;omega
theorem Vo {k:Nat}{l:List A}(h:Runs lt k l)(h1:l.length<=k):Iy lt l:=by
 cases h with
 | last s le=>exact s
 | @cons x l s e r=>
  rw[kT]at h1;have:l=[]:=Qa0 au;subst this;rw[Qbi];exact s
def aEA (g:A->A)(c:A->A->Int)(q:A->A->Prop)(d:A)(a b:Int)(l:List A):List A:=(Zz g c q d a b l).val
abbrev inV (c:A->A->Int)(q:A->A->Prop)(d:A)(a b:Int)(l:List A):List A:=aEA (fun a=>a) c q d a b l
def afu (g:A->A)(c:A->A->Int)(q:A->A->Prop)(d:A)(DI:Int->Int->Int->List A->List A)(n:Int)(l:List A):Pg (List A):=
 .cut
  (fun(y4:Int×List A)=>
   .ob (JC q y4.fst n y4.snd)
    (.wh (n.toNat+1) default
     (fun(x11:Int×List A)=>
      .br (decide (x11.fst < n))
       (.cut
        (fun(SH:Int×List A)=>
         .lt (dB .i64 (SH.fst+x11.fst)) fun(v16:Int)=>
          .lt (dB .i64 (x11.fst*2)) fun(v17:Int)=>
           .br (decide (v16 < n))
            (.ob (Ql c q ((n - SH.fst).toNat+1) SH.fst v16 n SH.snd) (.ret (.inl (v17,DI SH.fst v16 n SH.snd))))
            (.ret (.inl (v17,SH.snd))))
        (.lt (dB .i64 (2*x11.fst)) fun(v18:Int)=>
         .wh (n.toNat+1) default
          (fun(x14:Int×Int×List A)=>
           .br (decide (x14.snd.fst<=n))
            (.lt (dB .i64 (x14.fst+x11.fst)) fun(v19:Int)=>
             .ob (Ql c q ((x14.snd.fst - x14.fst).toNat+1) x14.fst v19 x14.snd.fst x14.snd.snd)
              (.ret (.inl (x14.snd.fst,dB .i64 (x14.snd.fst+v18),DI x14.fst v19 x14.snd.fst x14.snd.snd))))
            (.ret (.inr (.inl (x14.fst,x14.snd.snd)))))
          (0,v18,x11.snd)))
       (.ret (.inr x11.snd)))
     (20,aEA g c q d y4.fst n y4.snd)))
  (.wh (n.toNat+1) default
   (fun(x3:Int×Int×List A)=>
    .br (decide (x3.snd.fst<=n))
     (.ob (JC q x3.fst x3.snd.fst x3.snd.snd)
      (.ret (.inl (x3.snd.fst,dB .i64 (x3.snd.fst+20),aEA g c q d x3.fst x3.snd.fst x3.snd.snd))))
     (.ret (.inr (.inl (x3.fst,x3.snd.snd)))))
   (0,20,l))
abbrev aCJ (c:A->A->Int)(q:A->A->Prop)(d:A)(DI:Int->Int->Int->List A->List A)(n:Int)(l:List A):Pg (List A):=afu (fun a=>a) c q d DI n l
def Sorted (c:A->A->Int)(l r:List A):Prop:=Iy (ltOf c) r/\tu (ltOf c) l r/\r.length=l.length
theorem Tm (hs:FO (ltOf c)){DI:Int->Int->Int->List A->List A}(hR:∀a m b l,Ql c q ((b - a).toNat+1) a m b l->mrg c a b l (DI a m b l)){n:Int}{l:List A}(hq:stQ q n l):jF (aCJ c q d DI n l) (Sorted c l):=by
 obtain⟨⟨hl,hq⟩,rfl⟩:=hq;have sq:∀r,tu (ltOf c) l r->r.length=l.length->sZ q r:=fun r h e=>⟨by omega,fun x hx y hy=>hq x ((h.mem hs).1 hx) y ((h.mem hs).1 hy)⟩
 refine df (fun y=>∃R1 R2:List A,y=((R1.length:Int),R1++R2)/\(∀T,Runs (ltOf c) 20 T->Runs (ltOf c) 20 (R1++T))/\tu (ltOf c) l (R1++R2)/\(R1++R2).length=l.length/\R2.length < 20) ?_ ?_
 ·refine x_ (fun s=>∃R1 R2:List A,s=((R1.length:Int),((R1.length+20:Nat):Int),R1++R2)/\(∀T,Runs (ltOf c) 20 T->Runs (ltOf c) 20 (R1++T))/\tu (ltOf c) l (R1++R2)/\(R1++R2).length=l.length) (fun s=>((l.length:Int) - s.1).toNat) ⟨[],l,rfl,fun T h=>h,tu.refl _,rfl⟩ (by show((l.length:Int) - 0).toNat < _;omega) ?_;rintro s ⟨R1,R2,rfl,pre,tR,lR⟩;rw[kT]at lR;refine bT (fun hle=> ?_) (fun hgt=>zJ ?_)
  ·dsimp only at hle⊢;obtain⟨D,R3,rfl,lD⟩:∃D R3,R2=D++R3/\D.length=20:=⟨R2.take 20,R2.drop 20,by simp,by simp;omega⟩;rw[kT]at lR;have hsq:=sq _ tR uZ;obtain⟨M,e,sM,tM,lM⟩:=(ahZ (d:=d) hs R1 D R3 hsq (a:=(R1.length:Int)) (b:=((R1.length+20:Nat):Int)) rfl au).2;refine ak ⟨hsq,by omega,by omega,by simp;omega⟩ (kQ ⟨⟨R1++M,R3,?_,fun T h=> ?_,tR.trans ?_,by simp;omega⟩,?_⟩)
   ·refine Qd1 uZ (Qd1 ?_ ?_)
    ·exact qB uZ uZ
    ·show inV _ _ _ _ _ _=_
     refine Eq.trans e ?_;simp
   ·rw[Oy];exact pre _ (.cons sM au h)
   ·rw[Oy];exact(tu.refl R1).app (tM.app (tu.refl R3))
   ·show((l.length:Int) - ((R1.length+20:Nat):Int)).toNat < ((l.length:Int) - (R1.length:Int)).toNat
    omega
  ·dsimp only at hgt;exact(⟨R1,R2,rfl,pre,tR,by simp;omega,by omega⟩:∃R1 R2:List A,_=((R1.length:Int),R1++R2)/\(∀T,Runs (ltOf c) 20 T->Runs (ltOf c) 20 (R1++T))/\tu (ltOf c) l (R1++R2)/\(R1++R2).length=l.length/\R2.length < 20)
 rintro y ⟨R1,R2,rfl,pre,tR,lR,l2⟩;have hsq:=sq _ tR lR;have k:=(ahZ (d:=d) hs R1 R2 [] (by rw[Qbi];exact hsq) (a:=(R1.length:Int)) (b:=(l.length:Int)) rfl (by rw[<-lR,kT])).2;rw[Qbi]at k;obtain⟨M,e,sM,tM,lM⟩:=k;rw[Qbi]at e;have lR':=lR;rw[kT]at lR';refine ak ⟨hsq,by omega,by omega,by rw[lR];omega⟩ ?_;refine x_ (fun s=>∃(k:Nat) (r:List A),s=((k:Int),r)/\0 < k/\k<=2199023255552/\Runs (ltOf c) k r/\tu (ltOf c) l r/\r.length=l.length) (fun s=>((l.length:Int) - s.1).toNat) ⟨20,R1++M,?_,by decide,by decide,pre _ (.last sM au),tR.trans ((tu.refl R1).app tM),by simp;omega⟩ (by show((l.length:Int) - 20).toNat < _;omega) ?_
 ·refine Qd1 rfl ?_;show inV _ _ _ _ _ _=_
  unfold inV;exact e
 clear e sM tM lM lR lR' hsq pre tR l2;rintro s ⟨k,r,rfl,k0,kb,rr,tr,lr⟩;refine bT (fun hlt=> ?_) (fun hge=>zJ ⟨Vo rr (by dsimp only at hge⊢;omega),tr,lr⟩);refine df (fun y=>∃R1 R2:List A,y=((R1.length:Int),R1++R2)/\(∀T,Runs (ltOf c) (2*k) T->Runs (ltOf c) (2*k) (R1++T))/\Runs (ltOf c) k R2/\tu (ltOf c) l (R1++R2)/\(R1++R2).length=l.length/\R2.length < 2*k) ?_ ?_
 ·refine aC fun v18 avP=> ?_;dsimp only at avP hlt;rw[qB (n:=2*k) au au]at avP;subst avP;refine x_ (fun s=>∃R1 R2:List A,s=((R1.length:Int),((R1.length+2*k:Nat):Int),R1++R2)/\(∀T,Runs (ltOf c) (2*k) T->Runs (ltOf c) (2*k) (R1++T))/\Runs (ltOf c) k R2/\tu (ltOf c) l (R1++R2)/\(R1++R2).length=l.length) (fun s=>((l.length:Int) - s.1).toNat) ⟨[],r,by simp,fun T h=>h,rr,tr,lr⟩ (by show((l.length:Int) - 0).toNat < _;omega) ?_;rintro s ⟨R1,R2,rfl,pre,r2,tR,lR⟩;have lR':=lR;rw[kT]at lR';refine bT (fun hle=>aC fun v19 aoB=> ?_) (fun hgt=>zJ ?_)
  ·dsimp only at hle;obtain⟨x,y,t,rfl,sx,sy,lx,ly,rt⟩:=asr k0 r2 au;rw[kT,kT]at lR';dsimp only at aoB⊢;rw[qB (n:=R1.length+k) au au]at aoB;subst aoB;have hsm:Ql c q ((((R1.length+2*k:Nat):Int) - (R1.length:Int)).toNat+1) (R1.length:Int) ((R1.length+k:Nat):Int) ((R1.length+2*k:Nat):Int) (R1++(x++(y++t))):=
    ⟨sq _ tR lR,R1,x,y,t,by simp,rfl,by omega,by omega,sx,sy,by rintro rfl;simp at lx;omega,by rintro rfl;simp at ly;omega,by omega⟩
   obtain⟨M,e,sM,tM,lM⟩:=hR _ _ _ _ hsm R1 (x++y) t qa2 rfl uZ;rw[kT]at lM;refine ak hsm (kQ ⟨⟨R1++M,t,?_,fun T h=> ?_,rt,tR.trans ?_,by simp;omega⟩,?_⟩)
   ·refine Qd1 uZ (Qd1 ?_ ?_)
    ·exact qB uZ uZ
    ·show DI _ _ _ _=_
     rw[e];simp
   ·rw[Oy];exact pre _ (.cons sM au h)
   ·rw[Oy,<-Oy x];exact(tu.refl R1).app (tM.app (tu.refl t))
   ·show((l.length:Int) - ((R1.length+2*k:Nat):Int)).toNat < ((l.length:Int) - (R1.length:Int)).toNat
    omega
  ·exact(⟨R1,R2,rfl,pre,r2,tR,lR,by dsimp only at hgt;omega⟩:∃R1 R2:List A,_=((R1.length:Int),R1++R2)/\(∀T,Runs (ltOf c) (2*k) T->Runs (ltOf c) (2*k) (R1++T))/\Runs (ltOf c) k R2/\tu (ltOf c) l (R1++R2)/\(R1++R2).length=l.length/\R2.length < 2*k)
 rintro SH ⟨R1,R2,rfl,pre,r2,tR,lR,l2⟩;have lR':=lR;rw[kT]at lR';dsimp only at hlt⊢;refine aC fun v16 aAd=>aC fun v17 aAe=> ?_;rw[qB (n:=R1.length+k) au au]at aAd;rw[qB (n:=2*k) au au]at aAe;subst aAd aAe;refine bT (fun hm=> ?_) (fun hm=>kQ ⟨⟨2*k,R1++R2,rfl,by omega,by omega,pre _ (.last (Vo r2 au) au),tR,lR⟩,?_⟩)
 ·obtain⟨x,y,rfl,sx,sy,lx,ly⟩:=aqn r2 au l2;rw[kT]at lR' l2;have hsm:Ql c q (((l.length:Int) - (R1.length:Int)).toNat+1) (R1.length:Int) ((R1.length+k:Nat):Int) (l.length:Int) (R1++(x++y)):=
   ⟨sq _ tR lR,R1,x,y,[],by simp,rfl,by omega,by omega,sx,sy,by rintro rfl;simp at lx;omega,by rintro rfl;simp at ly,by omega⟩
  obtain⟨M,e,sM,tM,lM⟩:=hR _ _ _ _ hsm R1 (x++y) [] qa2 rfl uZ;rw[kT]at lM;rw[Qbi]at e;refine ak hsm (kQ ⟨⟨2*k,R1++M,?_,by omega,by omega,pre _ (.last sM au),tR.trans ((tu.refl R1).app tM),by simp;omega⟩,?_⟩)
  ·exact Qd1 rfl e
  ·show((l.length:Int) - ((2*k:Nat):Int)).toNat < ((l.length:Int) - (k:Int)).toNat
   omega
 ·show((l.length:Int) - ((2*k:Nat):Int)).toNat < ((l.length:Int) - (k:Int)).toNat
  omega
theorem aaF (l:List A){i j:Nat}(h:i<=j):l.take i++((l.drop i).take (j - i)++l.drop j)=l:=by
 have:l.drop j=(l.drop i).drop (j - i):=by rw[List.drop_drop];congr 1;omega
 rw[this,Qbk,Qbk]
theorem avj {a b n:Int}{l:List A}(h:swQ a b n l.length):Is (ah_ d a b n l):=by
 obtain⟨h1,h2,h3,h4,h5⟩:=h;obtain⟨a,rfl⟩:=Qb1 h1;obtain⟨n,rfl⟩:=Qb1 h2;obtain⟨b,rfl⟩:=Qb1 (show 0<=b by omega);have e1:=aaF l (show a<=a+n by omega);have e2:=aaF (l.drop (a+n)) (show b - (a+n)<=b - (a+n)+n by omega);rw[<-e2]at e1;have k:=(Z_ d (l.take a) ((l.drop a).take (a+n - a)) ((l.drop (a+n)).take (b - (a+n))) (((l.drop (a+n)).drop (b - (a+n))).take (b - (a+n)+n - (b - (a+n)))) ((l.drop (a+n)).drop (b - (a+n)+n)) uZ uZ (a:=(a:Int)) (b:=(b:Int)) (n:=(n:Int)) uZ uZ uZ).1;rw[e1]at k;exact k
theorem aqA {a m b:Int}{l:List A}(h:roQ a m b l.length):Is (axo d a m b l):=by
 obtain⟨h1,h2,h3,h4,h5⟩:=h;obtain⟨a,rfl⟩:=Qb1 h1;obtain⟨m,rfl⟩:=Qb1 (show 0<=m by omega);obtain⟨b,rfl⟩:=Qb1 (show 0<=b by omega);have e1:=aaF l (show a<=m by omega);have e2:(l.drop m).take (b - m)++(l.drop m).drop (b - m)=l.drop m:=Qbk _ _;rw[<-e2]at e1;have k:=(aqo d (l.take a) ((l.drop a).take (m - a)) ((l.drop m).take (b - m)) ((l.drop m).drop (b - m)) (fun e=>by have:=Qc5 List.length e;simp at this;omega) (fun e=>by have:=Qc5 List.length e;simp at this;omega) uZ (a:=(a:Int)) (m:=(m:Int)) (b:=(b:Int)) uZ uZ uZ).1;rw[e1]at k;exact k
theorem auj (hs:FO (ltOf c)){a b:Int}{l:List A}(h:JC q a b l):Is (awe c q d a b l):=by
 obtain⟨h0,h1,h2,h3⟩:=h;have hl:=h0.1;obtain⟨a,rfl⟩:=Qb1 h1;obtain⟨b,rfl⟩:=Qb1 (show 0<=b by omega);have e1:=aaF l (show a<=b by omega);have k:=(ahZ (d:=d) hs (l.take a) ((l.drop a).take (b - a)) (l.drop b) (by rw[e1];exact h0) (a:=(a:Int)) (b:=(b:Int)) uZ uZ).1;rw[e1]at k;exact k
theorem QB (key:A->Int)(h:∀a b,ltOf c a b=decide (key a < key b)):FO (ltOf c):=by
 constructor
 ·intro a b hab;rw[h]at hab⊢;have:=DK hab;exact qy au
 ·intro a b e h1 h2;rw[h]at h1 h2⊢;have:=Qbz h1;have:=Qbz h2;exact qy au
end
end Go.Vc
