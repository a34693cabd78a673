/- Codecs: what is in order, as a value. -/
import Derived.Test.YtenjnekcoapajaaGreatDoorP4
namespace Go.Proofs.YtenjnekcoapajaaGreatDoor
noncomputable section
open Go.RowKit Go.Vc
open Tryz
set_option linter.unusedVariables false
set_option linter.unusedSimpArgs false
set_option maxRecDepth 100000
section
variable {A:Type}{lt:A->A->Bool}
def ajQ (c:A->A->Bool)(l:List A):Prop:=l.Pairwise fun a b=>c a b=true
theorem N_ (f:yg lt):∀{l m:List A},ajQ lt l->ajQ lt m->(∀x,x∈l ↔ x∈m)->l=m
 | [],[],_,_,_=>rfl
 | [],b::u,_,_,h=>absurd ((h b).2 (Qba)) jQ
 | a::t,[],_,_,h=>absurd ((h a).1 (Qba)) jQ
 | a::t,b::u,j,k,h=>by
  have c:=Qa6.1 j;have g:=Qa6.1 k;have e:a=b:=by
   rcases yw.1 ((h a).1 (Qba))with e | e
   ·exact e
   ·rcases yw.1 ((h b).2 (Qba))with i | i
    ·exact i.symm
    ·have:=f.asym (c.1 b i);grind
  subst e;congr 1;refine N_ f c.2 g.2 fun x=>⟨fun d=> ?_,fun d=> ?_⟩
  ·rcases yw.1 ((h x).1 (Qax _ d))with e | e
   ·have:=c.1 x d;rw[e,f.irr a]at this;cases this
   ·exact e
  ·rcases yw.1 ((h x).2 (Qax _ d))with e | e
   ·have:=g.1 x d;rw[e,f.irr a]at this;cases this
   ·exact e
def isLast (a:A->A->Bool)(l:List A)(x:A):Prop:=∃u w,l=u++x::w/\∀y∈w,A7 a x y=false
theorem WE (b:yg lt){l:List A}{x:A}:isLast lt l x ↔ ∃s,l.filter (A7 lt x)=s++[x]:=by
 constructor
 ·rintro⟨u,w,rfl,f⟩;refine⟨u.filter (A7 lt x),?_⟩;rw[Qco,Qdq (b.rfl' x),(List.filter_eq_nil_iff (l:=w)).2 fun y a=>by grind]
 ·rintro⟨s,h⟩;obtain⟨l1,g,rfl,_,e⟩:=List.filter_eq_append_iff.1 h;obtain⟨c,d,rfl,_,_,i⟩:=List.filter_eq_cons_iff.1 e;refine⟨l1++c,d,by simp,fun y a=> ?_⟩;simp_all
theorem aiL (a:yg lt){l v:List A}(h:o_ lt l v)(x:A):isLast lt v x ↔ isLast lt l x:=by
 rw[WE a,WE a,h x]
def hd1 (c:A->A->Bool)(a:A):List A->Bool
 | []=>true
 | b::_=> !A7 c a b
def kl (b:A->A->Bool):List A->List A
 | []=>[]
 | a::l=>bif hd1 b a l then a::kl b l else kl b l
theorem aiy:∀(l:List A),∀x∈kl lt l,x∈l
 | [],x,h=>h
 | a::l,x,h=>by
  unfold kl at h;cases e:hd1 lt a l with
  | true=>
   rw[e]at h;rcases yw.1 h with h | h
   ·grind
   ·exact Qax _ (aiy l x h)
  | false=>rw[e]at h;exact Qax _ (aiy l x h)
theorem ayM (i:yg lt){a:A}{l:List A}(h:Aa lt (a::l))(e:hd1 lt a l=true):∀y∈l,lt a y=true:=by
 cases l with
 | nil=>grind
 | cons b l=>
  have d:=Qa6.1 h;have j:=Qa6.1 d.2;have f:=d.1 b (Qba);have m:lt a b=true:=by
   cases k:lt a b with
   | true=>rfl
   | false=>
    have:A7 lt a b=true:=Jb.2 ⟨k,f⟩;have e:(!A7 lt a b)=true:=e
    grind
  intro y c;rcases yw.1 c with c | c
  ·grind
  ·have g:=j.1 y c;cases k:lt a y with
   | true=>rfl
   | false=>have:=i.trn g k;grind
theorem aBU (j:yg lt):∀(l:List A),Aa lt l->ajQ lt (kl lt l)/\∀x,x∈kl lt l ↔ isLast lt l x
 | [],_=>⟨List.Pairwise.nil,fun x=>⟨fun h=>absurd h (by simp[kl]),fun⟨u,w,h,_⟩=>absurd (II List.length h) jQ⟩⟩
 | a::l,h=>by
  obtain⟨i,g⟩:=aBU j l (Qa6.1 h).2;have f:∀x,isLast lt (a::l) x ↔ (x=a/\∀y∈l,A7 lt a y=false)\/isLast lt l x:=fun x=>by
   constructor
   ·rintro⟨u,w,e,d⟩;cases u with
    | nil=>grind
    | cons c u=>injection e with p o;exact .inr ⟨u,w,o,d⟩
   ·rintro(⟨rfl,d⟩ | ⟨u,w,e,d⟩)
    ·exact⟨[],l,rfl,d⟩
    ·exact⟨a::u,w,by rw[e];rfl,d⟩
  unfold kl;cases e:hd1 lt a l with
  | true=>
   have n:=ayM j h e;refine⟨Qa6.2 ⟨fun y m=>n y (aiy l y m),i⟩,fun x=> ?_⟩;rw[f,cond_true,yw,g];refine or_congr ⟨fun k=>⟨k,fun y m=> ?_⟩,fun k=>k.1⟩ Iff.rfl;unfold A7
   grind
  | false=>
   refine⟨i,fun x=> ?_⟩;rw[f,lL,g];refine⟨.inr,fun k=>k.resolve_left fun k=> ?_⟩;cases l with
   | nil=>cases e
   | cons b l=>have:=k.2 b (Qba);simp[hd1,this]at e
def insL (b:A->A->Bool)(x:A)(a:List A):List A:=a.takeWhile (fun y=>b y x)++x::a.dropWhile (fun y=>b y x)
theorem Vb {x y:A}{a:List A}:y∈insL lt x a ↔ y=x\/y∈a:=by
 conv=>rhs;rw[<-List.takeWhile_append_dropWhile (p:=fun y=>lt y x) (l:=a)]
 unfold insL
 grind
theorem Zt (d:yg lt){x:A}:∀{b:List A},ajQ lt b->(∀y∈b,A7 lt y x=false)->ajQ lt (insL lt x b)
 | [],_,_=>Qc2 _ _
 | a::b,h,i=>by
  have g:=Qa6.1 h;cases e:lt a x with
  | true=>
   have j:=Zt d (x:=x) g.2 fun y c=>i y (Qax _ c)
   have f:insL lt x (a::b)=a::insL lt x b:=by
    unfold insL;simp_all
   rw[f];refine Qa6.2 ⟨fun y c=> ?_,j⟩
   grind [Vb]
  | false=>
   have f:insL lt x (a::b)=x::a::b:=by
    unfold insL;simp_all
   rw[f];have l:lt x a=true:=by
    cases k:lt x a with
    | true=>rfl
    | false=>have:=i a (Qba);rw[Jb.2 ⟨e,k⟩]at this;cases this
   refine Qa6.2 ⟨fun y c=> ?_,h⟩;rcases yw.1 c with k | k
   ·grind
   ·cases q:lt x y with
    | true=>rfl
    | false=>have:=d.trn (d.asym (g.1 y k)) q;grind
def rX (b:A->A->Bool):List A->List A->List A
 | a,[]=>a
 | a,x::w=>rX b (bif w.any (A7 b x)then a else insL b x a) w
theorem Cm (f:yg lt):∀(l a:List A),ajQ lt a->(∀y∈a,∀z∈l,A7 lt y z=false)->ajQ lt (rX lt a l)/\∀y,y∈rX lt a l ↔ y∈a\/isLast lt l y
 | [],a,h,_=>⟨h,fun y=>⟨.inl,fun k=>k.resolve_right fun⟨u,w,h,_⟩=>absurd (II List.length h) jQ⟩⟩
 | x::w,a,h,i=>by
  have o:∀y,isLast lt (x::w) y ↔ (y=x/\∀z∈w,A7 lt x z=false)\/isLast lt w y:=fun y=>by
   constructor
   ·rintro⟨u,v,e,b⟩;cases u with
    | nil=>grind
    | cons c u=>injection e with p n;exact .inr ⟨u,v,n,b⟩
   ·rintro(⟨rfl,b⟩ | ⟨u,v,e,b⟩)
    ·exact⟨[],w,rfl,b⟩
    ·exact⟨x::u,v,by rw[e];rfl,b⟩
  unfold rX;cases e:w.any (A7 lt x)with
  | true=>
   obtain⟨j,m⟩:=Cm f w a h fun y d z g=>i y d z (Qax _ g)
   grind
  | false=>
   have b:∀z∈w,A7 lt x z=false:=fun z g=>by
    grind
   obtain⟨j,m⟩:=Cm f w (insL lt x a) (Zt f h fun y d=>i y d x (Qba)) fun y d z g=>by
    grind [Vb]
   grind [Vb]
theorem akJ (a:yg lt){l v:List A}(b:Aa lt v)(e:o_ lt l v):kl lt v=rX lt [] l:=by
 obtain⟨a1,a2⟩:=aBU a v b;obtain⟨b1,d⟩:=Cm a l [] List.Pairwise.nil fun y c=>absurd c jQ
 grind [aiL,N_]
theorem aFb (d:yg lt){P S:List A}{x:A}(l:∀p∈P,lt x p=false)(f:∀s∈S,lt x s=true)(h:Aa lt (P++S)):Aa lt (P++x::S)/\o_ lt ((P++S)++[x]) (P++x::S):=by
 obtain⟨e,g,n⟩:=kW.1 h;refine⟨kW.2 ⟨e,Qa6.2 ⟨fun s c=>d.asym (f s c),g⟩,fun a k b m=> ?_⟩,?_⟩
 ·grind
 ·rw[Yt];exact(o_.refl P).app (Vg d (U:=S) (V:=[x]) fun u i v j=>by grind)
theorem ah4 (f:yg lt){a:List A}{x d:A}{n:Nat}(h:Aa lt a)(g:n < a.length)(b:lt x (a.getD n d)=false):∀p∈a.take (n+1),lt x p=false:=by
 intro p j;obtain⟨i,c,rfl⟩:=Qbu.1 j;rw[Iq]at c;rw[List.getElem_take];have e:a.getD n d=a[n]:=by grind
 rw[e]at b;rcases Nat.lt_or_eq_of_le (show i<=n by omega)with k | k
 ·exact f.trn (Qb6.1 h i n aj g k) b
 grind
theorem aey {B:Type}{f g:A->Option B}:∀{l:List A},(∀x∈l,f x=g x)->l.filterMap f=l.filterMap g
 | [],_=>rfl
 | a::l,h=>by rw[Qdj,Qdj,h a (Qba),aey fun x b=>h x (Qax _ b)]
theorem aFh {B C:Type}{num:A->Int}{c:List B}{adb:B->Int}{d S:List A}(r:S.Pairwise fun a b=>num a < num b)(w:∀x,x∈S ↔ x∈d)(t:d.Pairwise fun a b=>num a≠num b)(j:c.Pairwise fun a b=>adb a < adb b)(p:∀x∈d,∃o∈c,adb o=num x)
  (g:A->Option C) (f:B->A->Option C) (D:∀o∈c,∀x∈d,num x=adb o->g x=f o x):S.filterMap g=c.flatMap fun o=>(d.filter fun x=>num x==adb o).filterMap (f o):=by
 have e:S=c.flatMap fun o=>d.filter fun x=>num x==adb o:=by
  have q:∀{l m:List A},l.Pairwise (fun a b=>num a < num b)->m.Pairwise (fun a b=>num a < num b)->(∀x,x∈l ↔ x∈m)->l=m:=fun k n v=>by
   have u:yg (fun a b:A=>decide (num a < num b)):=⟨fun h=>pO dm,fun k n=>pO dm⟩;exact N_ u (k.imp fun h=>wz h) (n.imp fun h=>wz h) v
  refine q r (List.pairwise_flatMap.2 ⟨fun o _=> ?_,j.imp fun{a b} h x i y s=> ?_⟩) fun x=> ?_
  ·refine(t.filter _).imp_of_mem fun{a b} p E h=>absurd ?_ h
   grind
  ·have k:=eq_of_beq (Qbb.1 i).2;have n:=eq_of_beq (Qbb.1 s).2;omega
  ·rw[w,Qa1];constructor
   ·intro i;obtain⟨o,j,e⟩:=p x i;exact⟨o,j,Qbb.2 ⟨i,by rw[e];exact beq_self_eq_true _⟩⟩
   ·rintro⟨o,_,h⟩;exact(Qbb.1 h).1
 rw[e,List.filterMap_flatMap];have:∀l:List B,(∀o∈l,o∈c)->l.flatMap (fun o=>(d.filter fun x=>num x==adb o).filterMap g)=l.flatMap fun o=>(d.filter fun x=>num x==adb o).filterMap (f o):=fun l=>by
  induction l with
  | nil=>grind
  | cons o l z=>
   grind [aey]
 grind
end
def UY {A:Type}(c:A->A->Int):Prop:=∀a b,(c a b=0/\c b a=0)\/(c a b < 0/\0 < c b a)\/(0 < c a b/\c b a < 0)
theorem arT:∀a b:Str,Op.bytesLess a b=false->Op.bytesLess b a=false->a=b
 | [],[],_,_=>rfl
 | [],_::_,h,_=>absurd h qbz
 | _::_,[],_,h=>absurd h qbz
 | x::a,y::b,c,d=>by
  have f:=arT a b;simp only[Op.bytesLess,Qcc,Qdb,decide_eq_false_iff_not,Qcz,Qdz]at c d;have e:x=y:=Qb5.1 aj
  grind
theorem Fg:UY GI:=fun a b=>by rw[Bz,Bz];omega
theorem Z7:UY Y0:=fun a b=>by rw[LK,LK];omega
theorem ade (x y:Str):Yw x y=bif Op.bytesLess x y then -1 else bif x==y then 0 else 1:=by
 unfold Yw ayV Sj abt;simp only[aT,aF,ay,bne_self_eq_false,lL]
 grind
theorem apJ:UY Yw:=fun a b=>by
 grind [aao,arT,ade]
theorem anw:UY qR:=fun a b=>by
 unfold qR aiH;simp only[aF,aT,ay];by_cases e:a.Kind=b.Kind
 ·rw[show(a.Kind !=b.Kind)=false by grind,show(b.Kind !=a.Kind)=false by grind,<-e];cases sIsP a.Kind with
  | false=>grind
  | true=>cases EZ a.Kind with
   | true=>exact apJ _ _
   | false=>cases a.Kind==2 with
    | true=>exact Fg _ _
    | false=>cases a.Kind==3 with
     | true=>exact Fg _ _
     | false=>cases a.Kind==6 with
      | true=>exact Z7 _ _
      | false=>exact Z7 _ _
 ·rw[show(a.Kind !=b.Kind)=true from bne_iff_ne.2 e,show(b.Kind !=a.Kind)=true from bne_iff_ne.2 fun k=>e k.symm];exact Fg _ _
theorem MO {A:Type}{c:A->A->Int}(h:UY c)(a b:A):A7 (ltOf c) a b=(c a b==0):=by
 unfold A7 ltOf;rcases h a b with⟨e,d⟩ | ⟨f,d⟩ | ⟨f,d⟩
 ·rw[e,d];rfl
 ·rw[wz f,show(c a b==0)=false from beq_false_of_ne aj];rfl
 ·rw[wz d,show(c a b==0)=false from beq_false_of_ne aj];simp
theorem ak0 {A:Type}{a:A->A->Bool}{v:List A}{d:A}{i:Nat}{y:List A}(g:i < v.length)(b:y++kl a (v.drop i)=kl a v):(i+1=v.length->(y++[v.getD i d])++kl a (v.drop (i+1))=kl a v)/\(i+1 < v.length->A7 a (v.getD i d) (v.getD (i+1) d)=false->(y++[v.getD i d])++kl a (v.drop (i+1))=kl a v)/\(i+1 < v.length->A7 a (v.getD i d) (v.getD (i+1) d)=true->y++kl a (v.drop (i+1))=kl a v):=by
 have e:v.drop i=v.getD i d::v.drop (i+1):=by
  simp_all
 have c:i+1 < v.length->v.drop (i+1)=v.getD (i+1) d::v.drop (i+2):=fun h=>by
  rw[Qbq h];grind
 rw[e]at b;have k:kl a (v.getD i d::v.drop (i+1))=bif hd1 a (v.getD i d) (v.drop (i+1))then v.getD i d::kl a (v.drop (i+1))else kl a (v.drop (i+1)):=rfl
 rw[k]at b;refine⟨fun h=> ?_,fun h q=> ?_,fun h q=> ?_⟩
 ·rw[List.drop_eq_nil_of_le aj]at b⊢;rw[<-b];simp[hd1,kl]
 ·rw[c h]at b⊢;have f:hd1 a (v.getD i d) (v.getD (i+1) d::v.drop (i+2))=true:=by show(!A7 _ _ _)=true;rw[q];rfl
  grind
 ·rw[c h]at b⊢;have f:hd1 a (v.getD i d) (v.getD (i+1) d::v.drop (i+2))=false:=by show(!A7 _ _ _)=false;rw[q];rfl
  grind
theorem auk {A:Type}{a:A->A->Bool}{v y:List A}(b:y++kl a (v.drop v.length)=kl a v):y=kl a v:=by
 rw[Qc,show kl a ([]:List A)=[]from rfl,Qa5]at b;exact b
theorem awG:UY Gu:=fun a b=>Fg a.Num b.Num
theorem ag6 (a b:Slot):A7 (ltOf Gu) a b=(a.Num==b.Num):=by
 rw[MO awG];show(GI a.Num b.Num==0)=_
 grind [Bz]
theorem ahd {l:List Slot}(h:l.length<=1048576):oQ l=kl (ltOf Gu) (J3 l):=by
 have k:VP (oSlots l) (fun r=>r=kl (ltOf Gu) (J3 l)):=by
  unfold oSlots;simp only[ae.bJ,Slot.eta];refine bf (bf (dG fun b f=>iG (gB (fun i y=>y++kl (ltOf Gu) (b.drop i)=kl (ltOf Gu) b) rfl (fun i y j e=> ?_) (fun y e=>aI (by rw[auk e,f])))));have s:b.length<=1048576:=by rw[f,(IY h).length_eq];exact h
  obtain⟨p,o,m⟩:=ak0 (d:=gZ) j e;have w:aQ .i64 ((i:Int)+1)=((i+1:Nat):Int):=h_ aj;rw[w];refine iY (bf (dG fun q g=>dG fun t n=>dI (fun c=>iG (bf (aI ?_))) (fun c=>iY (bf (iG (dI (fun a=>bf (aI ?_)) (fun a=>aI ?_)))))));all_goals subst g n
  ·exact p (by have:=eq_of_beq c;omega)
  ·refine o qbn ?_;rw[ag6];simpa[bne]using a
  ·refine m qbn ?_;rw[ag6];simpa[bne]using a
 exact k
theorem VI (a b:Pair):oP a b=qR a.Key b.Key:=by
 unfold oP opC;simp only[aV,ay,ae.bJ];exact aaU _ _
theorem agy:UY oP:=fun a b=>by rw[VI,VI];exact anw _ _
theorem as7 (a b:Pair):A7 (ltOf oP) a b=aat a.Key b.Key:=by
 rw[MO agy,VI];unfold aat aiX;simp only[aV,ay,ae.bJ];rw[aaU]
theorem ajA {l:List Pair}(h:pairsQ l):jl l=kl (ltOf oP) (KP l):=by
 have k:VP (oPairs l) (fun r=>r=kl (ltOf oP) (KP l)):=by
  unfold oPairs;simp only[ae.bJ,Pair.eta];refine bf (bf (dG fun b f=>iG (gB (fun i y=>y++kl (ltOf oP) (b.drop i)=kl (ltOf oP) b) rfl (fun i y j e=> ?_) (fun y e=>aI (by rw[auk e,f])))));have s:b.length<=1048576:=by rw[f,(wJ (kD h)).length_eq];exact h.1
  obtain⟨p,o,m⟩:=ak0 (d:=dV) j e;have w:aQ .i64 ((i:Int)+1)=((i+1:Nat):Int):=h_ aj;rw[w];refine iY (bf (dG fun q g=>dG fun t n=>dI (fun c=>iG (bf (aI ?_))) (fun c=>iY (bf (bf (iG (dI (fun a=>bf (aI ?_)) (fun a=>aI ?_))))))));all_goals subst g n
  ·exact p (by have:=eq_of_beq c;omega)
  ·refine o qbn ?_;rw[as7];simpa using a
  ·refine m qbn ?_;rw[as7];simpa using a
 exact k
theorem afo {l:List Slot}(h:l.length<=1048576):oQ l=rX (ltOf Gu) [] l:=by
 rw[ahd h];have k:=OZ l ⟨by omega,fun _ _ _ _=>trivial⟩;exact akJ Ez k.1 k.2.1
theorem agp {l:List Pair}(h:pairsQ l):jl l=rX (ltOf oP) [] l:=by
 rw[ajA h];have k:=Pe l (kD h);exact akJ Ip k.1 k.2.1
noncomputable def C_ (F:aC->Op->ae->ae)(p:aC)(g:aX)(s:Slot):Option Slot:=
 bif ((pz g s.Num).1.Card==3 || (pz g s.Num).1.Card==4 || (pz g s.Num).1.Card==5) && Gg (F p (pz g s.Num).1 s.Val)then none else some (Slot.mk s.Num (F p (pz g s.Num).1 s.Val))
theorem ayK {A B:Type}{f:A->Option B}{l:List A}{i:Nat}{d:A}(a:i < l.length):(l.take (i+1)).filterMap f=(l.take i).filterMap f++(f (l.getD i d)).toList:=by
 grind [take_snoc]
theorem adp (a:Nat){p:aC}{prog:Int}{v:ae}(D:0<=prog)(E:prog < p.Progs.length):(qY (a+1)).1 p prog v=ae.mk 10 0 [] [] [] ((oQ v.Slots).filterMap (C_ (qY a).2.1 p (p.Progs.getD prog.toNat aO))) (lm v.Raws):=by
 have k:VP (Ji a p prog v) (fun r=>r=ae.mk 10 0 [] [] [] ((oQ v.Slots).filterMap (C_ (qY a).2.1 p (p.Progs.getD prog.toNat aO))) (lm v.Raws)):=by
  unfold Ji arK;simp only[ae.bJ];refine bf (dG fun g u=>dI (fun c=>absurd (Dt c) aj) fun _=>iG (dI (fun c=>absurd (Dt c) aj) fun _=>bf (dG fun e C=>iG (gB (fun i y=>y=ae.mk 10 0 [] [] [] ((e.take i).filterMap (C_ (qY a).2.1 p (p.Progs.getD prog.toNat aO))) g) rfl (fun i y z l=> ?_) (fun y l=>bf (aI ?_))))))
  ·rw[ayK (d:=gZ) z];unfold C_;generalize e.getD i gZ=s;subst l;refine iY (iY (dG fun t o=>dG fun w q=>dG fun j m=> ?_));have q:w=Gg ((qY a).2.1 p j.1 s.Val):=by rw[q,m]
   rw[<-m,<-q];have o:t=List.filterMap (C_ (qY a).2.1 p (p.Progs.getD prog.toNat aO)) (e.take i)++[Slot.mk s.Num ((qY a).2.1 p j.1 s.Val)]:=by rw[o,m];rfl
   have f:∀{b:Bool},b=false->ae.mk 10 0 [] [] [] t g=ae.mk 10 0 [] [] [] (List.filterMap (C_ (qY a).2.1 p (p.Progs.getD prog.toNat aO)) (e.take i)++(bif b then none else some (Slot.mk s.Num ((qY a).2.1 p j.1 s.Val))).toList) g:=fun h=>by rw[h,o];rfl
   have n:∀{b:Bool},b=true->ae.mk 10 0 [] [] [] (List.filterMap (C_ (qY a).2.1 p (p.Progs.getD prog.toNat aO)) (e.take i)) g=ae.mk 10 0 [] [] [] (List.filterMap (C_ (qY a).2.1 p (p.Progs.getD prog.toNat aO)) (e.take i)++(bif b then none else some (Slot.mk s.Num ((qY a).2.1 p j.1 s.Val))).toList) g:=fun h=>by rw[h];simp
   refine dI (fun x=>bf (dI (fun c=>bf (aI (f ?_))) (fun c=>aI (n ?_)))) (fun x=>dI (fun A=>bf (dI (fun c=>bf (aI (f ?_))) (fun c=>aI (n ?_)))) (fun A=>bf (dI (fun B=>bf (aI (f ?_))) (fun B=>dI (fun c=>bf (aI (f ?_))) (fun c=>aI (n ?_))))));all_goals grind
  ·subst l;show ae.mk 10 0 [] [] [] (List.filterMap _ (e.take e.length)) (lm g)=_
   rw[Gv,C,u];cases v;rfl
 exact k
theorem ai7 (a:Nat){p:aC}{o:Op}{v:ae}(h:o.Card=4):(qY (a+1)).2.1 p o v=ae.mk 11 0 [] (v.List.map ((qY a).2.2 p o)) [] [] []:=by
 have k:VP (rG a p o v) (fun r=>r=ae.mk 11 0 [] (v.List.map ((qY a).2.2 p o)) [] [] []):=by
  unfold rG Ue;simp only[ae.bJ];refine dI (fun _=>iG (gB (fun i y=>y=ae.mk 11 0 [] ((v.List.take i).map ((qY a).2.2 p o)) [] [] []) rfl (fun i y e b=>iY (bf (bf (aI ?_)))) (fun y b=>aI dm))) (fun c=>absurd (beq_iff_eq.2 h) (by rw[c];decide));rw[fZ (d:=jP) e,b];rfl
 exact k
theorem aqn (a:Nat){p:aC}{o:Op}{v:ae}(h:o.Card=5):(qY (a+1)).2.1 p o v=ae.mk 12 0 [] [] ((jl v.Pairs).map fun x=>Pair.mk (jo x.Key) ((qY a).2.2 p o x.Val)) [] []:=by
 have k:VP (rG a p o v) (fun r=>r=ae.mk 12 0 [] [] ((jl v.Pairs).map fun x=>Pair.mk (jo x.Key) ((qY a).2.2 p o x.Val)) [] []):=by
  unfold rG Ue;simp only[ae.bJ];refine dI (fun c=>absurd (eq_of_beq c) aj) (fun _=>dI (fun _=>bf (dG fun f g=>iG (gB (fun i y=>y=ae.mk 12 0 [] [] ((f.take i).map fun x=>Pair.mk (jo x.Key) ((qY a).2.2 p o x.Val)) [] []) rfl (fun i y e b=>iY (bf (bf (aI ?_)))) (fun y b=>aI dm)))) (fun c=>absurd (beq_iff_eq.2 h) (by rw[c];decide)));rw[fZ (d:=dV) e,b];rfl
 exact k
theorem aoq (a:Nat){p:aC}{o:Op}{v:ae}(c:o.Card≠4)(b:o.Card≠5):(qY (a+1)).2.1 p o v=(qY a).2.2 p o v:=by
 have k:VP (rG a p o v) (fun r=>r=(qY a).2.2 p o v):=by
  unfold rG Ue
  grind [ae.bJ,dI,bf,aI]
 exact k
theorem Zx (a:Nat){p:aC}{o:Op}{v:ae}:(qY (a+1)).2.2 p o v=bif o.Kind==10 then(qY a).1 p o.Target v else jo v:=by
 show(aa4 _ _ _ _ _ _ p o v).val=_
 (first | unfold SN aa4 | unfold aa4);simp_all
theorem JP {A R:Type}{p:A->Bool}{f:Nat->Unit->R}{r:R}{b:Nat->A->Unit->Unit⊕R}(d:∀k a,p a=true->b k a ()= .inl ())(e:∀k a,p a=false->b k a ()= .inr r):∀(l:List A) (k:Nat),iH b f l k ()=bif l.all p then f (k+l.length) ()else r
 | [],k=>rfl
 | a::l,k=>by
  unfold iH;rw[Qcm];cases c:p a with
  | true=>
   rw[d k a c];have g:=JP (f:=f) d e l (k+1)
   grind
  | false=>grind
theorem abz (b:Nat)(p:aC)(prog:Int)(v:ae):(YX (b+1)) p prog v=(p.Progs.getD prog.toNat aO).Ops.all fun o=>bif (tFindP v o.Num).2 then(o.Kind !=10 || (uB (tFindP v o.Num).1).all ((YX b) p o.Target))else o.Card !=1:=by
 show(uK b p prog v).val=_
 unfold uK Fa;simp only[di,dW,dN,aT,aF,aV,ay,ae.bJ];refine(JP (p:=fun o=>bif (tFindP v o.Num).2 then(o.Kind !=10 || (uB (tFindP v o.Num).1).all ((YX b) p o.Target))else o.Card !=1) (r:=false) (fun k o h=> ?_) (fun k o h=> ?_) _ 0).trans ?_
 ·cases e:(tFindP v o.Num).2 with
  | false=>
   grind
  | true=>
   rw[e]at h;have h:(o.Kind !=10 || (uB (tFindP v o.Num).1).all ((YX b) p o.Target))=true:=h;cases c:o.Kind !=10 with
   | true=>rfl
   | false=>
    rw[c]at h;rw[JP (p:=(YX b) p o.Target) (r:= .inr false) (fun k a h=>by rw[h];rfl) (fun k a h=>by rw[h];rfl)]
    grind
 ·cases e:(tFindP v o.Num).2 with
  | false=>
   grind
  | true=>
   rw[e]at h;have h:(o.Kind !=10 || (uB (tFindP v o.Num).1).all ((YX b) p o.Target))=false:=h;obtain⟨c,h⟩:=Qcc.1 h;rw[c];rw[JP (p:=(YX b) p o.Target) (r:= .inr false) (fun k a h=>by rw[h];rfl) (fun k a h=>by rw[h];rfl),h];rfl
 grind
def r4signed (k:Int):Pg Bool:=.br (k==2) (.ret true) (.ret (k==3))
def sO (k:Int):=(r4signed k).val
def ahF:bi Z:=E0 [] [] hh5 hh2 [] func581 1 r4signed
def r4rank (v:ae):Pg Int:=.lt (aQ .u64 (v.Bits+9223372036854775808)) fun a=> .br (sO v.Kind) (.ret a) (.br (v.Kind !=6) (.ret v.Bits) (.br (Aw v.Bits==0) (.ret 18446744073709551615) (.br (decide (9223372036854775808<=v.Bits)) (.ret (aQ .u64 (18446744073709551615 - v.Bits))) (.ret a))))
def Jg (v:ae):=(r4rank v).val
def aqU:bi Z:=E0 [Zi,ahF] [] hh9 aky [] func577 1 r4rank
def r4cmp (a:ae)(b:ae):Pg Int:=.br (decide (a.Kind < b.Kind)) (.ret (-1)) (.br (decide (b.Kind < a.Kind)) (.ret 1) (.br (!G6 a.Kind) (.ret 0) (.lt (xC a.Kind) fun e=> .lt (Jg a.re) fun c=> .lt (Jg b.re) fun d=> .br e (.br (Op.bytesLess a.Text b.Text) (.ret (-1)) (.br e (.br (!(Op.bytesLess a.Text b.Text || a.Text==b.Text)) (.ret 1) (.br e (.ret 0) (.br (decide (c < d)) (.ret (-1)) (.br (decide (d < c)) (.ret 1) (.ret 0))))) (.br e (.ret 0) (.br (decide (c < d)) (.ret (-1)) (.br (decide (d < c)) (.ret 1) (.ret 0)))))) (.br e (.br (!(Op.bytesLess a.Text b.Text || a.Text==b.Text)) (.ret 1) (.br e (.ret 0) (.br (decide (c < d)) (.ret (-1)) (.br (decide (d < c)) (.ret 1) (.ret 0))))) (.br e (.ret 0) (.br (decide (c < d)) (.ret (-1)) (.br (decide (d < c)) (.ret 1) (.ret 0))))))))
def ajv (a:ae)(b:ae):=(r4cmp a b).val
def ay8:bi Z:=E0 [acU,Zl,aqU] [] aiT jE [] func569 1 (u2 r4cmp)
def r16num (a:Int)(b:Int):Pg Int:=.br (decide (a < b)) (.ret (-1)) (.br (decide (b < a)) (.ret 1) (.ret 0))
def amu (a:Int)(b:Int):=(r16num a b).val
def av5:bi Z:=E0 [] [] abf jE [] func564 1 (u2 r16num)
def Vz (a:ae)(b:ae):Pg Int:=.br (a.Kind !=b.Kind) (.ret (amu a.Kind b.Kind)) (.br (a.Kind==11) (.no default) (.br (a.Kind==12) (.no default) (.br (a.Kind==10) (.no default) (.ret (ajv a.re b.re)))))
def azH (a:ae)(b:ae):=(Vz a b).val
theorem axH (n:Nat)(h:n < 2 ^ 64):(18446744073709551615 ^^^ n:Nat)=18446744073709551615 - n:=by
 have e:(BitVec.allOnes 64 ^^^ BitVec.ofNat 64 n)= ~~~ (BitVec.ofNat 64 n):=BitVec.allOnes_xor;have a:=II BitVec.toNat e
 grind
theorem aAa (n:Nat)(h:n < 2 ^ 64):(n &&& 9223372036854775808=0 ↔ n < 9223372036854775808):=by
 have t:n.testBit 63=decide (n / 2 ^ 63 % 2=1):=Nat.testBit_eq_decide_div_mod_eq;have e:(n &&& 2 ^ 63).testBit 63=n.testBit 63:=by grind
 constructor
 ·grind
 ·intro k;show n &&& 2 ^ 63=0
  refine Qd2 fun i=> ?_;rw[Nat.testBit_and,Nat.zero_testBit,Nat.testBit_two_pow]
  grind
theorem aeY {k b:Int}(c:0<=b)(d:b < 18446744073709551616){t:Str}{l:List ae}{q:List Pair}{s:List Slot}{r:List Raw}:A8 b=Jg (ae.mk 6 b t l q s r):=by
 unfold A8 aiC Jg r4rank;simp only[aF,ay,aT,ae.Bits,<-aew b c d];show _=bif sO 6 then aQ .u64 (b+9223372036854775808)else bif (6:Int) !=6 then b else bif EY b==0 then 18446744073709551615 else bif decide (9223372036854775808<=b)then aQ .u64 (18446744073709551615 - b)else aQ .u64 (b+9223372036854775808)
 rw[show sO 6=false from rfl,show((6:Int) !=6)=false from rfl];simp only[lL];cases EY b==0 with
 | true=>rfl
 | false=>
  simp only[lL];obtain⟨n,rfl⟩:=Qa0 c;have a:n < 2 ^ 64:=by omega
  rw[show((9223372036854775808:Int))=((9223372036854775808:Nat):Int)from rfl,Am (k:= .u64) rfl a dH,Ry (k:= .u64) rfl a dH];rw[show(if IntKind.u64.signed=true then(-1:Int)else IntKind.u64.max)=((18446744073709551615:Nat):Int)from rfl,Tu (k:= .u64) rfl dH a,axH n a];have f:=aAa n a;by_cases k:n < 9223372036854775808
  ·rw[show(((n &&& 9223372036854775808:Nat):Int) !=0)=false by grind,pO aj];simp only[lL];have e:=Qcl (i:=63) (b:=n) aj 1;rw[Qd3]at e;rw[Nat.or_comm,show(9223372036854775808:Nat)=2 ^ 63 from rfl,<-e];rw[bn (k:= .u64) kM];omega
  ·rw[show(((n &&& 9223372036854775808:Nat):Int) !=0)=true from bne_iff_ne.2 fun e=>k (f.1 aj),wz aj];simp only[cond_true];rw[bn (k:= .u64) kM];omega
theorem agE {x:Int}(a:0<=x)(b:x < 18446744073709551616):aQ .u64 (x+9223372036854775808)=aQ .i64 x+9223372036854775808:=by
 by_cases k:x < 9223372036854775808
 ·rw[bn (k:= .i64) kM,bn (k:= .u64) kM]
 ·have c:aQ .i64 x=x - 18446744073709551616:=by
   unfold aQ IntKind.wrap;simp only[IntKind.signed,IntKind.bits,if_true]
   grind
  have d:aQ .u64 (x+9223372036854775808)=x - 9223372036854775808:=by
   obtain⟨n,rfl⟩:=Qa0 a;rw[show((n:Int)+9223372036854775808)=((n+9223372036854775808:Nat):Int) by omega,ab7 (k:= .u64) rfl];show(((n+9223372036854775808) % 2 ^ 64:Nat):Int)=_
   omega
  omega
theorem aw4 {a b:ae}(c:isU64 a.Bits)(d:isU64 b.Bits):ajv a b=qR a b:=by
 have g:∀v:ae,Jg v=bif sO v.Kind then aQ .u64 (v.Bits+9223372036854775808)else bif v.Kind !=6 then v.Bits else bif Aw v.Bits==0 then 18446744073709551615 else bif decide (9223372036854775808<=v.Bits)then aQ .u64 (18446744073709551615 - v.Bits)else aQ .u64 (v.Bits+9223372036854775808):=fun v=>by
  rfl
 unfold ajv r4cmp qR aiH;simp only[aF,aT,ay,ae.bJ];by_cases e:a.Kind=b.Kind
 ·rw[pO (show ¬a.Kind < b.Kind by omega),pO (show ¬b.Kind < a.Kind by omega),show(a.Kind !=b.Kind)=false by grind,ac1,aer];simp only[lL];cases G6 a.Kind with
  | false=>rfl
  | true=>
   cases xC a.Kind with
   | true=>
    grind [ade]
   | false=>
    simp only[Qbv,lL];have j:∀x y:Int,(bif decide (x < y)then(-1:Int)else bif decide (y < x)then 1 else 0)=if x < y then -1 else if y < x then 1 else 0:=fun x y=>by
     grind
    rw[j,Bz];by_cases k:a.Kind=2\/a.Kind=3
    ·have i:sO a.Kind=true:=by rcases k with k | k<;>rw[k]<;>rfl
     rw[g a,g b,<-e,i,cond_true,cond_true,agE c.1 c.2,agE d.1 d.2]
     grind
    ·have n:a.Kind≠2:=fun h=>k (.inl h)
     have m:a.Kind≠3:=fun h=>k (.inr h)
     have i:sO a.Kind=false:=by
      unfold sO r4signed;simp_all
     rw[beq_false_of_ne n,beq_false_of_ne m,lL,lL,LK,LK];by_cases f:a.Kind=6
     ·have p:=aeY (k:=6) c.1 c.2 (t:=a.Text) (l:=a.List) (q:=a.Pairs) (s:=a.Slots) (r:=a.Raws);have w:=aeY (k:=6) d.1 d.2 (t:=b.Text) (l:=b.List) (q:=b.Pairs) (s:=b.Slots) (r:=b.Raws);have u:ae.mk 6 a.Bits a.Text a.List a.Pairs a.Slots a.Raws=a:=by cases a;cases f;rfl
      have o:ae.mk 6 b.Bits b.Text b.List b.Pairs b.Slots b.Raws=b:=by have:=e.symm.trans f;cases b;cases this;rfl
      grind
     grind
 grind [Bz]
theorem Ud {a b:ae}(h:sIsP a.Kind=true/\sIsP b.Kind=true)(f:isU64 a.Bits)(g:isU64 b.Bits):gU (Vz a b) (fun y=>y=qR a b):=by
 have d:∀n:Int,a.Kind=n->sIsP n=false->False:=fun n e k=>by grind
 unfold Vz;simp only[ae.bJ];refine bu (fun c=>af ?_) (fun c=>bI (fun k=>(d 11 k rfl).elim) fun _=>bI (fun k=>(d 12 k rfl).elim) fun _=>bI (fun k=>(d 10 k rfl).elim) fun _=>af (aw4 f g));unfold amu r16num qR aiH;simp only[aF,aT,ay,ae.bJ]
 grind [Bz]
theorem anM (a b:ae)(h:(sIsP a.Kind=true/\sIsP b.Kind=true)/\isU64 a.Bits/\isU64 b.Bits):azH a b=qR a b:=(Ud h.1 h.2.1 h.2.2).2
def afq (l:List Pair):Prop:=pairsQ l/\∀x∈l,isU64 x.Key.Bits
theorem apG (a:ae)(b:ae)(h:(sIsP a.Kind=true/\sIsP b.Kind=true)/\isU64 a.Bits/\isU64 b.Bits):Is (Vz a b):=
 (Ud h.1 h.2.1 h.2.2).1
def aux:bi Z:=E2 [av5,ay8] [] aiT jE [] func535 1 (u2 Vz) (fun a=>some ((sIsP a.1.Kind=true/\sIsP a.2.Kind=true)/\isU64 a.1.Bits/\isU64 a.2.Bits)) (fun a=>qR a.1 a.2) fun a h=>⟨apG a.1 a.2 h,anM a.1 a.2 h⟩
noncomputable def DN (l:List Pair):Pg (List Pair):=.each true mg l dV (fun f b (a:List Pair)=> .lt (sIsP b.Key.re.Kind) fun h=> .cut (fun(n:Bool)=> .br n (.cut (fun(c:Int)=> .ix f l.length (.ob (0<=c/\c<=(↑a.length:Int)/\(↑a.length:Int)<=(↑a.length:Int)) (.ob (bG (1+(List.drop c.toNat (List.take a.length a)).length) 256) (.ob ((0:Int)<=0/\0<=c/\c<=(↑a.length:Int)) (.ob (bG (0+(List.take c.toNat a).length) 256) (.lt ([Pair.mk b.Key.re b.Val.re]++List.drop c.toNat (List.take a.length a)) fun(g:List Pair)=> .ob (bG ((List.take c.toNat a).length+g.length) 256) (rl (List.take c.toNat a++g)))))))) (.each false yc a dV (fun d i (o:Unit)=> .ix d a.length (.ob (d.toNat < a.length) (.ix f l.length (.ob ((sIsP i.Key.re.Kind=true/\h=true)/\isU64 i.Key.re.Bits/\isU64 b.Key.re.Bits) (aL a (.lt (qR i.Key.re b.Key.re) fun m=> .br (decide (m < 0)) (rl ()) (.ret (.inr (.inl d))))))))) (fun d (o:Unit)=> aL a (rl d)) ())) (rl a)) (.lt (aQ .i64 (f+1)) fun k=> .Ov [] (some (l.length<=9223372036854775807)) mg k (↑l.length:Int) (fun e (j:Bool)=> .br j (.ix f l.length (.ix e l.length (.ob ((h=true/\sIsP (l.getD e.toNat dV).Key.re.Kind=true)/\isU64 b.Key.re.Bits/\isU64 (l.getD e.toNat dV).Key.re.Bits) (rl (qR b.Key.re (l.getD e.toNat dV).Key.re !=0))))) (rl false)) (fun e (j:Bool)=> rl j) true)) (fun f (a:List Pair)=> .ret a) []
noncomputable def aqz (l:List Pair):List Pair:=(DN l).val
theorem aes {X Y R:Type}{Q:R->Prop}{m:List Prop}{q:Option Prop}{s:Ix X Y}{a b:Int}{c:Int->Y->Pg (Y⊕R)}{f:Int->Y->Pg R}{y:Y}(I:Int->Y->Prop)(j:I a y)(p:aeE m)(n: -9223372036854775808<=a)(o:b<=9223372036854775807)
  (g:∀(i:Int) (y:Y),a<=i->i < b->I i y->gU (c i y) (Sum.elim (I (i+1)) Q)) (k:∀i y,a<=i->b<=i->I i y->gU (f i y) Q):gU (.Ov m q s a b c f y) Q:=by
 have:=rO (s:=s) I j n o g k;refine⟨af4 I j p n (fun _=>o) (fun i y d e _ l=>⟨(g i y d e l).1,fun r t=> ?_⟩) (fun i y d e h=>(k i y d e h).1),this.2⟩;have:=(g i y d e l).2
 grind
theorem aw5 {A:Type}{p:A->Bool}{d:A}:∀(l:List A) (k:Nat),k<=l.length->(∀j,j < k->p (l.getD j d)=true)->(k < l.length->p (l.getD k d)=false)->l.take k=l.takeWhile p/\l.drop k=l.dropWhile p
 | [],k,h,_,_=>by simp
 | a::l,0,_,_,h=>by
  simp_all
 | a::l,k+1,h1,b,e=>by
  have g:p a=true:=b 0 aj;obtain⟨m,f⟩:=aw5 (p:=p) (d:=d) l k qbt (fun j i=>b (j+1) aj) (fun c=>e (by simpa using c));simp_all
theorem Kq {l:List Pair}(h:afq l):gU (DN l) (fun y=>y=jl l):=by
 have Y:l.length<=1048576:=h.1.1;have I:∀z,z∈l->sIsP z.Key.Kind=true/\isU64 z.Key.Bits:=fun z e=>⟨h.1.2 z e,h.2 z e⟩
 have T:∀a b:Pair,A7 (ltOf oP) a b=(qR a.Key b.Key==0):=fun a b=>by rw[MO agy,VI]
 have Q:∀a b:Pair,ltOf oP a b=decide (qR a.Key b.Key < 0):=fun a b=>by unfold ltOf;rw[VI]
 rw[agp h.1];unfold DN;simp only[ae.bJ,Pair.eta];refine bC (fun i y=>rX (ltOf oP) y (l.drop i)=rX (ltOf oP) [] l/\y.length<=i/\∀z∈y,z∈l) ⟨rfl,Gw _,fun z e=>by cases e⟩ aj (fun i y K t=> ?_) (fun y t=>af (by have:=t.1;rw[Qc]at this;exact this));obtain⟨f,P,o⟩:=t;have n:=getD_mem (d:=dV) K;have G:l.drop i=l.getD i dV::l.drop (i+1):=by simp_all
 rw[G]at f;generalize l.getD i dV=a at*;obtain⟨ha,u⟩:=I a n;have M:rX (ltOf oP) y (a::l.drop (i+1))=rX (ltOf oP) (bif (l.drop (i+1)).any (A7 (ltOf oP) a)then y else insL (ltOf oP) a y) (l.drop (i+1)):=rfl;rw[M]at f;refine au fun O N=>bg (fun b=>b= !((l.drop (i+1)).any (A7 (ltOf oP) a))) (au fun v g=> ?_) fun X x=> ?_
 ·have g:v=((i+1:Nat):Int):=by rw[g,h_ aj]
  subst g;refine aes (fun j b=>b= !(((l.drop (i+1)).take (j.toNat - (i+1))).any (A7 (ltOf oP) a))) jQ trivial aj aj (fun j b F H u=> ?_) (fun j b F H u=>af ?_)
  ·have L:j.toNat < l.length:=by omega
   have hn:j.toNat - (i+1) < (l.drop (i+1)).length:=by grind
   have W:(j+1).toNat - (i+1)=(j.toNat - (i+1))+1:=by omega
   have Z:(l.drop (i+1)).getD (j.toNat - (i+1)) dV=l.getD j.toNat dV:=by
    grind
   grind [take_snoc,getD_mem,bH,aH,ah,af]
  ·show b=_
   rw[u,Qb2 dm]
 ·refine bH (fun c=> ?_) (fun c=>af ⟨?_,by omega,o⟩)
  ·refine bg (fun(k:Int)=>0<=k/\k<=y.length/\y.take k.toNat=y.takeWhile (fun z=>ltOf oP z a)/\y.drop k.toNat=y.dropWhile (fun z=>ltOf oP z a)) ?_ fun k w=> ?_
   ·refine bC (fun j _=>∀m,m < j->ltOf oP (y.getD m dV) a=true) (fun m n=>absurd n aj) aj (fun j _ L s=>aH aj aj (ah aj (aH aj aj (ah ?_ (bZ (au fun S R=>aU (fun J=>af fun m n=> ?_) (fun J=>af ?_))))))) (fun _ s=>bZ (af ?_))
    ·grind
    ·grind
    ·obtain⟨t1,t2⟩:=aw5 (p:=fun z=>ltOf oP z a) (d:=dV) y j aj s (fun _=>by grind)
     grind
    ·obtain⟨t1,t2⟩:=aw5 (p:=fun z=>ltOf oP z a) (d:=dV) y y.length (pJ _) s (fun q=>absurd q aj)
     grind
   ·obtain⟨C,B,E,D⟩:=w;have l1:(List.take k.toNat y).length<=y.length:=by grind
    have l2:(List.drop k.toNat (List.take y.length y)).length<=y.length:=by grind
    have U:(List.take k.toNat y).length+(List.drop k.toNat (List.take y.length y)).length=y.length:=by grind
    refine aH aj aj (ah ⟨C,B,N8 _⟩ (ah (room_of aj aj) (ah ⟨N8 _,C,B⟩ (ah (room_of aj aj) (au fun A r=> ?_)))));have V:A.length=1+(List.drop k.toNat (List.take y.length y)).length:=by grind
    refine ah (room_of aj aj) (af ⟨?_,?_,fun z e=> ?_⟩)
    ·rw[c]at x;rw[show(l.drop (i+1)).any (A7 (ltOf oP) a)=false by grind]at f;rw[r,Gv,E,D];exact f
    ·rw[uX];omega
    ·rw[r,Gv]at e;rcases vO.1 e with q | q
     ·exact o z (Qcw q)
     ·rcases vO.1 q with q | q
      ·rw[QZ.1 q];exact n
      ·exact o z (List.mem_of_mem_drop q)
  grind
theorem af8 (l:List Pair)(h:afq l):aqz l=jl l:=(Kq h).2
theorem afD (l:List Pair)(h:afq l):Is (DN l):=
 (Kq h).1
noncomputable def Wn:bi Z:=E2 [aux] [jS 3 (bD (fun b=>[s0 4, .slot 3 false [some 341]]) WV),jS 7 (bD (fun b=>[s0 6, s0 5]) QA),jS 12 (bD (fun b=>[s0 7]) iL),jS 100010 (bD (fun b=>Ap) oK),jS 100014 (bD (fun b=>[s0 7]) iL)] (a1 (aLf cd_LPair)) (R1 cd_LPair) [] func473 1 DN (fun a=>some (afq a)) (fun a=>jl a) fun a h=>⟨afD a h,af8 a h⟩
theorem BA {R c d:Type}{Q:R->c->Prop}{a:Pg R}{b:Pg (d⊕c)}{k:d->Pg c}(I:d->Prop)(h:gU b (Sum.elim I (Q a.val)))(e:∀y,I y->jK a (k y) Q):jK a (.cut k b) Q:=bg I h e
theorem ahN {g:aX}{n:Int}(h:(pz g n).2=true):(pz g n).1∈g.Ops/\(pz g n).1.Num=n:=by
 grind [DI]
theorem YO {o:Op}(h:Eu o=true):o.Card=4/\o.Kind≠10:=by
 unfold Eu acG at h;simp only[aF,ay,aT,Z8,Xh,Qbw,Qdp]at h
 grind
theorem ads {F:aX->ae->Op->Int->tagdec_reader->ae×Int×tagdec_reader}{g:aX}{v:ae}{r:tagdec_reader}(h:((dJ r.c).2.2.2 !=0)=true):stepT F g v r=(v,(dJ r.c).2.2.2,r):=by
 unfold stepT;grind
theorem step_none {F:aX->ae->Op->Int->tagdec_reader->ae×Int×tagdec_reader}{g:aX}{v:ae}{r:tagdec_reader}(h:((dJ r.c).2.2.2 !=0)=false)(a:(pz g (dJ r.c).1).2=false):stepT F g v r=bif (j_ r.c).2.2 !=0 then(v,(j_ r.c).2.2,r)else(uy v (j_ r.c).1,0,tagdec_reader.mk r.p (j_ r.c).2.1):=by
 rw[DI]at a;unfold stepT;grind
theorem step_some {F:aX->ae->Op->Int->tagdec_reader->ae×Int×tagdec_reader}{g:aX}{v:ae}{r:tagdec_reader}(h:((dJ r.c).2.2.2 !=0)=false)(a:(pz g (dJ r.c).1).2=true):stepT F g v r=F g v (pz g (dJ r.c).1).1 (dJ r.c).2.1 (tagdec_reader.mk r.p (dJ r.c).2.2.1):=by
 rw[DI]at a⊢;unfold stepT;grind
theorem awY {v:ae}{r:tagdec_reader}(h:inD v r)(e:(dJ r.c).2.2.2=0):inD v (tagdec_reader.mk r.p (dJ r.c).2.2.1)/\(dJ r.c).2.2.1.Depth=r.c.Depth:=by
 obtain⟨a,u2⟩:=nV h.1 e;have c:=a.2.2.1;have b:=a.2.2.2.2.2.2;refine⟨⟨a.1,h.2.1,h.2.2.1,?_⟩,a.2.2.2.1⟩;have:=h.2.2.2
 grind
theorem as1 (a:Nat){g:aX}{v:ae}{r:tagdec_reader}(h:inD v r)(j:∀o∈g.Ops,ao4 r.p o)(m:5*r.c.Depth+4<=(a:Int)):Dk 1 0 v r (stepT (iF a).2.1 g v r):=by
 intro e;cases c:(dJ r.c).2.2.2 !=0 with
 | true=>grind [ads]
 | false=>
  have f:=bU.1 c;obtain⟨i,u2⟩:=nV h.1 f;have p:=i.2.2.2.2.2.2;cases d:(pz g (dJ r.c).1).2 with
  | true=>
   rw[step_some c d]at e⊢;obtain⟨t1,t2⟩:=awY h f;obtain⟨f1,f2,f3,f4⟩:=(ng a).2.1 _ _ _ _ _ (⟨t1,j _ (ahN d).1,by grind⟩:iJ a g v (pz g (dJ r.c).1).1 (dJ r.c).2.1 (tagdec_reader.mk r.p (dJ r.c).2.2.1)) e;generalize (iF a).2.1 g v (pz g (dJ r.c).1).1 (dJ r.c).2.1 (tagdec_reader.mk r.p (dJ r.c).2.2.1)=w at*;have f4:(tV w.1:Int)+0<=tV v+8*(w.2.2.c.At - (dJ r.c).2.2.1.At):=f4;exact⟨f1,fM (f_ i f2) dH,f3,by omega⟩
  | false=>
   rw[step_none c d]at e⊢;cases l:(j_ r.c).2.2 !=0 with
   | true=>grind
   | false=>
    have b:=bU.1 l;have k:=ZN h.1 b;have n:=Y9 h.1 b;refine⟨rfl,fM k dH,TD h.2.2.1 (amE h.1 b),?_⟩
    grind [Us]
def avR (p:aC)(o:Op)(x:Pair)(a:Int)(s:ae×Int×tagdec_reader)(y:Pair×ai×Int):Prop:=y.2.2=s.2.1/\(s.2.1=0->y.2.1=s.2.2.c/\y.1=(bif a==1 then Pair.mk s.1 x.Val else Pair.mk x.Key s.1)/\(¬a=1->o.Kind=10->wV p s.1 (p.Progs.getD o.Target.toNat aO)))
def aq6 (F:aX->ae->Op->Int->tagdec_reader->ae×Int×tagdec_reader)(g:aX)(r:tagdec_reader)(v:ae):Pg (ae×Int×tagdec_reader):=.wh ((r.c.End - r.c.At).toNat+1) default (fun(x:tagdec_reader×ae)=> .br (decide (0 < m_ x.1.c)) (.br ((stepT F g x.2 x.1).2.1 !=0) (.ret (.inr (stepT F g x.2 x.1))) (rl ((stepT F g x.2 x.1).2.2,(stepT F g x.2 x.1).1))) (.ret (.inr (x.2,0,x.1)))) (r,v)
theorem ani (a:Nat)(prog:Int)(v:ae)(r:tagdec_reader):(iF (a+1)).1 prog v r=(aq6 (iF a).2.1 (r.p.Progs.getD prog.toNat aO) r v).val:=by
 rw[aex];rfl
def aDD (i:aC->Int->ae->ai->ae×ai×Int)(nN:aC->Int->ae->ai->Prop)(b:aC->aX->ae->ai->ae×ai×Int)(iW:aC->aX->ae->ai->Prop)(g:aC->Op->ae->Int->ai->ae×ai×Int)(gW:aC->Op->ae->Int->ai->Prop)(f:aC->aX->ae->Op->ai->ae×ai×Int)(dZ:aC->aX->ae->Op->ai->Prop)(h:aC->aX->ae->Op->ai->ae×ai×Int)(iV:aC->aX->ae->Op->ai->Prop)(e:aC->Op->Pair->Int->Int->ai->Pair×ai×Int)(vK:aC->Op->Pair->Int->Int->ai->Prop)(p:aC)(prog:Int)(v:ae)(c:ai):Pg (ae×ai×Int):=.wh ((c.End - c.At).toNat+1) default (fun(a:ae×ai)=> .ob (okC a.2) (.lt (yP a.2) fun d=> .br (decide (0 < d)) (.ix prog p.Progs.length (.ob (iW p (p.Progs.getD prog.toNat aO) a.1.re a.2) (.br ((b p (p.Progs.getD prog.toNat aO) a.1.re a.2).2.2 !=0) (.ret (.inr (a.1.re,a.2,(b p (p.Progs.getD prog.toNat aO) a.1.re a.2).2.2))) (rl ((b p (p.Progs.getD prog.toNat aO) a.1.re a.2).1.re,(b p (p.Progs.getD prog.toNat aO) a.1.re a.2).2.1))))) (.ret (.inr (a.1.re,a.2,0))))) (v.re,c)
def aiz (o:aC->Int->ae->ai->ae×ai×Int)(nN:aC->Int->ae->ai->Prop)(l:aC->aX->ae->ai->ae×ai×Int)(iW:aC->aX->ae->ai->Prop)(n:aC->Op->ae->Int->ai->ae×ai×Int)(gW:aC->Op->ae->Int->ai->Prop)(e:aC->aX->ae->Op->ai->ae×ai×Int)(dZ:aC->aX->ae->Op->ai->Prop)(k:aC->aX->ae->Op->ai->ae×ai×Int)(iV:aC->aX->ae->Op->ai->Prop)(m:aC->Op->Pair->Int->Int->ai->Pair×ai×Int)(vK:aC->Op->Pair->Int->Int->ai->Prop)(p:aC)(g:aX)(v:ae)(c:ai):Pg (ae×ai×Int):=.ob (okC c) (.lt (Lc c) fun b=> .br (b.2.2.2 !=0) (.ret (v.re,c,b.2.2.2)) (.lt (ah9 g b.1) fun a=> .br (!a.2) (.ob (okC c) (.lt (Ur c) fun h=> .br (h.2.2 !=0) (.ret (v.re,c,h.2.2)) (.ob (v.re.Raws.length<=1048576) (.ret ((Oc v.re h.1).re,h.2.1,0))))) (.lt (awc p g v.re a.1 b.2.2.1) fun f=> .lt (WT p g v.re a.1 b.2.2.1) fun d=> .lt (Ho a.1) fun j=> .lt (Ad a.1) fun i=> .br (a.1.Card==5) (.br (b.2.1==6) (.ob (iV p g v.re a.1 b.2.2.1) (.ret ((k p g v.re a.1 b.2.2.1).1.re,(k p g v.re a.1 b.2.2.1).2))) (.br j (.br (b.2.1==5) (.ob (pG p/\ inD v.re (tagdec_reader.mk p b.2.2.1)/\ (g∈p.Progs/\a.1∈g.Ops/\a.1.Kind≠10/\1<=a.1.Num/\a.1.Num<=65535)/\wV p v.re g) (.ret (f.1.re,f.2))) (.br (a.1.Card==5) (.ret (v.re,c,13)) (.br (b.2.1 !=i) (.ret (v.re,c,13)) (.br (a.1.Kind==10) (.ob (dZ p g v.re a.1 b.2.2.1) (.ret ((e p g v.re a.1 b.2.2.1).1.re,(e p g v.re a.1 b.2.2.1).2))) (.ob (inD v.re (tagdec_reader.mk p b.2.2.1)/\setQ g v.re a.1/\accOk p) (.ret (d.1.re,d.2))))))) (.br (a.1.Card==5) (.ret (v.re,c,13)) (.br (b.2.1 !=i) (.ret (v.re,c,13)) (.br (a.1.Kind==10) (.ob (dZ p g v.re a.1 b.2.2.1) (.ret ((e p g v.re a.1 b.2.2.1).1.re,(e p g v.re a.1 b.2.2.1).2))) (.ob (inD v.re (tagdec_reader.mk p b.2.2.1)/\setQ g v.re a.1/\accOk p) (.ret (d.1.re,d.2)))))))) (.br j (.br (b.2.1==5) (.ob (pG p/\ inD v.re (tagdec_reader.mk p b.2.2.1)/\ (g∈p.Progs/\a.1∈g.Ops/\a.1.Kind≠10/\1<=a.1.Num/\a.1.Num<=65535)/\wV p v.re g) (.ret (f.1.re,f.2))) (.br (a.1.Card==5) (.ret (v.re,c,13)) (.br (b.2.1 !=i) (.ret (v.re,c,13)) (.br (a.1.Kind==10) (.ob (dZ p g v.re a.1 b.2.2.1) (.ret ((e p g v.re a.1 b.2.2.1).1.re,(e p g v.re a.1 b.2.2.1).2))) (.ob (inD v.re (tagdec_reader.mk p b.2.2.1)/\setQ g v.re a.1/\accOk p) (.ret (d.1.re,d.2))))))) (.br (a.1.Card==5) (.ret (v.re,c,13)) (.br (b.2.1 !=i) (.ret (v.re,c,13)) (.br (a.1.Kind==10) (.ob (dZ p g v.re a.1 b.2.2.1) (.ret ((e p g v.re a.1 b.2.2.1).1.re,(e p g v.re a.1 b.2.2.1).2))) (.ob (inD v.re (tagdec_reader.mk p b.2.2.1)/\setQ g v.re a.1/\accOk p) (.ret (d.1.re,d.2))))))))))
def ajV (e:aC->Int->ae->ai->ae×ai×Int)(nN:aC->Int->ae->ai->Prop)(i:aC->aX->ae->ai->ae×ai×Int)(iW:aC->aX->ae->ai->Prop)(l:aC->Op->ae->Int->ai->ae×ai×Int)(gW:aC->Op->ae->Int->ai->Prop)(k:aC->aX->ae->Op->ai->ae×ai×Int)(dZ:aC->aX->ae->Op->ai->Prop)(h:aC->aX->ae->Op->ai->ae×ai×Int)(iV:aC->aX->ae->Op->ai->Prop)(j:aC->Op->Pair->Int->Int->ai->Pair×ai×Int)(vK:aC->Op->Pair->Int->Int->ai->Prop)(p:aC)(o:Op)(a:ae)(f:Int)(c:ai):Pg (ae×ai×Int):=.ob (okC c) (.lt (FY c) fun d=> .br (d.2.2 !=0) (.ret (a.re,c,d.2.2)) (.ob (okC d.2.1) (.lt (SX d.2.1 d.1) fun g=> .br (g.2 !=0) (.ret (a.re,c,g.2)) (.lt (uZ g.1 f) fun b=> .br (b.2 !=0) (.ret (a.re,c,b.2)) (.ob (nN p o.Target a.re b.1) (.br ((e p o.Target a.re b.1).2.2 !=0) (.ret (a.re,c,(e p o.Target a.re b.1).2.2)) (.ret ((e p o.Target a.re b.1).1.re,afM d.2.1 (e p o.Target a.re b.1).2.1,0))))))))
def aaV (k:aC->Int->ae->ai->ae×ai×Int)(nN:aC->Int->ae->ai->Prop)(h:aC->aX->ae->ai->ae×ai×Int)(iW:aC->aX->ae->ai->Prop)(d:aC->Op->ae->Int->ai->ae×ai×Int)(gW:aC->Op->ae->Int->ai->Prop)(j:aC->aX->ae->Op->ai->ae×ai×Int)(dZ:aC->aX->ae->Op->ai->Prop)(f:aC->aX->ae->Op->ai->ae×ai×Int)(iV:aC->aX->ae->Op->ai->Prop)(i:aC->Op->Pair->Int->Int->ai->Pair×ai×Int)(vK:aC->Op->Pair->Int->Int->ai->Prop)(p:aC)(g:aX)(v:ae)(o:Op)(c:ai):Pg (ae×ai×Int):=.lt (Bg v.re o.Num) fun e=> .cut (fun(a:Int)=> .cut (fun(b:ae)=> .ob (gW p o b.re a c) (.br ((d p o b.re a c).2.2 !=0) (.ret (v.re,(d p o b.re a c).2)) (.br (o.Card==4) (.ob (setQ g v.re o/\(tFindP v.re o.Num).1.List.length<=1048576) (.ret ((Kz g v.re o (d p o b.re a c).1.re).re,(d p o b.re a c).2.1,0))) (.ob (setQ g v.re o) (.ret ((FH g v.re o (d p o b.re a c).1.re).re,(d p o b.re a c).2.1,0)))))) (.br (o.Card !=4) (.br e.2 (rl e.1.re) (rl (ae.mk 10 0 [] [] [] [] []))) (rl (ae.mk 10 0 [] [] [] [] [])))) (.br (o.Card==4) (.br (!e.2) (rl 2) (rl 1)) (rl 1))
def ahz (q:aC->Int->ae->ai->ae×ai×Int)(nN:aC->Int->ae->ai->Prop)(l:aC->aX->ae->ai->ae×ai×Int)(iW:aC->aX->ae->ai->Prop)(n:aC->Op->ae->Int->ai->ae×ai×Int)(gW:aC->Op->ae->Int->ai->Prop)(m:aC->aX->ae->Op->ai->ae×ai×Int)(dZ:aC->aX->ae->Op->ai->Prop)(r:aC->aX->ae->Op->ai->ae×ai×Int)(iV:aC->aX->ae->Op->ai->Prop)(d:aC->Op->Pair->Int->Int->ai->Pair×ai×Int)(vK:aC->Op->Pair->Int->Int->ai->Prop)(p:aC)(g:aX)(v:ae)(o:Op)(c:ai):Pg (ae×ai×Int):=.ob (okC c) (.lt (FY c) fun e=> .br (e.2.2 !=0) (.ret (v.re,c,e.2.2)) (.lt (Bg v.re o.Num) fun f=> .cut (fun(j:Int)=> .lt (uZ (WI e.2.1 e.1) j) fun h=> .br (h.2 !=0) (.ret (v.re,c,h.2)) (.wh ((c.End - c.At).toNat+1) default (fun(b:List Bool×Pair×ai)=> .ob (okC b.2.2) (.lt (yP b.2.2) fun k=> .br (decide (0 < k)) (.ob (okC b.2.2) (.lt (Lc b.2.2) fun a=> .cut (fun(s:Unit)=> .ix a.1 b.1.length (.ob (a.1.toNat < b.1.length) (.ob (vK p o (Pair.mk b.2.1.Key.re b.2.1.Val.re) a.1 a.2.1 a.2.2.1) (.br ((d p o (Pair.mk b.2.1.Key.re b.2.1.Val.re) a.1 a.2.1 a.2.2.1).2.2 !=0) (.ret (.inr (v.re,c,(d p o (Pair.mk b.2.1.Key.re b.2.1.Val.re) a.1 a.2.1 a.2.2.1).2.2))) (rl (b.1.set a.1.toNat true, Pair.mk (d p o (Pair.mk b.2.1.Key.re b.2.1.Val.re) a.1 a.2.1 a.2.2.1).1.Key.re (d p o (Pair.mk b.2.1.Key.re b.2.1.Val.re) a.1 a.2.1 a.2.2.1).1.Val.re, (d p o (Pair.mk b.2.1.Key.re b.2.1.Val.re) a.1 a.2.1 a.2.2.1).2.1)))))) (.br (a.2.2.2 !=0) (.ret (.inr (.inr (v.re,c,a.2.2.2)))) (.br (a.1 !=1) (.br (a.1 !=2) (.ret (.inr (.inr (v.re,c,18)))) (.ix a.1 b.1.length (.ob (a.1.toNat < b.1.length) (.br (b.1.getD a.1.toNat false) (.ret (.inr (.inr (v.re,c,9)))) (rl ()))))) (.ix a.1 b.1.length (.ob (a.1.toNat < b.1.length) (.br (b.1.getD a.1.toNat false) (.ret (.inr (.inr (v.re,c,9)))) (rl ())))))))) (.ob (bG (0+f.1.Pairs.length) 256) (.ob (bG (f.1.Pairs.length+1) 256) (.lt (f.1.Pairs++[Pair.mk b.2.1.Key.re b.2.1.Val.re]) fun(i:List Pair)=> .ob (afq i) (.ob (setQ g v.re o) (.ret (.inr ((FH g v.re o (ae.mk 12 0 [] [] (jl i) [] [])).re,W_ e.2.1 b.2.2,0))))))))) ([false,false,false],Pair.mk (ae.mk o.Key 0 [] [] [] [] []) (afi o).re,h.1))) (.br f.2 (rl 2) (rl 3))))
def rEF (m:aC->Int->ae->ai->ae×ai×Int)(nN:aC->Int->ae->ai->Prop)(j:aC->aX->ae->ai->ae×ai×Int)(iW:aC->aX->ae->ai->Prop)(h:aC->Op->ae->Int->ai->ae×ai×Int)(gW:aC->Op->ae->Int->ai->Prop)(l:aC->aX->ae->Op->ai->ae×ai×Int)(dZ:aC->aX->ae->Op->ai->Prop)(i:aC->aX->ae->Op->ai->ae×ai×Int)(iV:aC->aX->ae->Op->ai->Prop)(k:aC->Op->Pair->Int->Int->ai->Pair×ai×Int)(vK:aC->Op->Pair->Int->Int->ai->Prop)(p:aC)(o:Op)(x:Pair)(b:Int)(d:Int)(c:ai):Pg (Pair×ai×Int):=.cut (fun(g:Op)=> .br (d !=Ad g) (.ret (Pair.mk x.Key.re x.Val.re,c,13)) (.cut (fun(n:Unit)=> .ob (okC c) (.lt (LM d c) fun a=> .br (a.2.2 !=0) (.ret (Pair.mk x.Key.re x.Val.re,c,a.2.2)) (.ob (List.length a.1.Data<=1048576) (.lt (BM p g a.1) fun e=> .br (b==1) (.ret (Pair.mk e.1.re x.Val.re,a.2.1,e.2)) (.ret (Pair.mk x.Key.re e.1.re,a.2.1,e.2)))))) (.br (b==2) (.br (o.Kind==10) (.lt (afi o) fun f=> .ob (gW p o f.re 0 c) (.ret (.inr (Pair.mk x.Key.re (h p o f.re 0 c).1.re,(h p o f.re 0 c).2)))) (rl ())) (rl ())))) (.br (b==1) (rl (Op.mk 0 [] [] 2 0 o.Key (-1) (-1))) (rl (Ib o)))
def nN (a:Nat)(p:aC)(prog:Int)(v:ae)(c:ai):Prop:=pG p/\inD v (tagdec_reader.mk p c)/\(0<=prog/\prog < p.Progs.length)/\wV p v (p.Progs.getD prog.toNat aO)/\5*c.Depth+5<=a
def iW (a:Nat)(p:aC)(g:aX)(v:ae)(c:ai):Prop:=pG p/\inD v (tagdec_reader.mk p c)/\g∈p.Progs/\wV p v g/\5*c.Depth+4<=a
def gW (b:Nat)(p:aC)(o:Op)(a:ae)(d:Int)(c:ai):Prop:=pG p/\inD a (tagdec_reader.mk p c)/\(0<=o.Target/\o.Target < p.Progs.length)/\wV p a (p.Progs.getD o.Target.toNat aO)/\5*c.Depth+1<=b
def dZ (a:Nat)(p:aC)(g:aX)(v:ae)(o:Op)(c:ai):Prop:=pG p/\inD v (tagdec_reader.mk p c)/\(g∈p.Progs/\o∈g.Ops/\o.Kind=10/\o.Card≠5)/\wV p v g/\5*c.Depth+2<=a
def iV (a:Nat)(p:aC)(g:aX)(v:ae)(o:Op)(c:ai):Prop:=pG p/\inD v (tagdec_reader.mk p c)/\(g∈p.Progs/\o∈g.Ops/\o.Card=5)/\wV p v g/\5*c.Depth+3<=a
def vK (b:Nat)(p:aC)(o:Op)(x:Pair)(a:Int)(d:Int)(c:ai):Prop:=pG p/\inD (ae.mk 10 0 [] [] [] [] []) (tagdec_reader.mk p c)/\(ao4 p o/\o.Card=5)/\(a=1\/a=2)/\5*c.Depth+2<=b
def kw:Nat->(aC->Int->ae->ai->(ae×ai×Int))×(aC->aX->ae->ai->(ae×ai×Int))×(aC->Op->ae->Int->ai->(ae×ai×Int))×(aC->aX->ae->Op->ai->(ae×ai×Int))×(aC->aX->ae->Op->ai->(ae×ai×Int))×(aC->Op->Pair->Int->Int->ai->(Pair×ai×Int))
 | 0=>(fun _ _ _ _=>default,fun _ _ _ _=>default,fun _ _ _ _ _=>default,fun _ _ _ _ _=>default,fun _ _ _ _ _=>default,fun _ _ _ _ _ _=>default)
 | a+1=>(fun p prog v c=>(aDD ((kw a).1) (nN a) ((kw a).2.1) (iW a) ((kw a).2.2.1) (gW a) ((kw a).2.2.2.1) (dZ a) ((kw a).2.2.2.2.1) (iV a) ((kw a).2.2.2.2.2) (vK a) p prog v c).val,fun p g v c=>(aiz ((kw a).1) (nN a) ((kw a).2.1) (iW a) ((kw a).2.2.1) (gW a) ((kw a).2.2.2.1) (dZ a) ((kw a).2.2.2.2.1) (iV a) ((kw a).2.2.2.2.2) (vK a) p g v c).val,fun p o d e c=>(ajV ((kw a).1) (nN a) ((kw a).2.1) (iW a) ((kw a).2.2.1) (gW a) ((kw a).2.2.2.1) (dZ a) ((kw a).2.2.2.2.1) (iV a) ((kw a).2.2.2.2.2) (vK a) p o d e c).val,fun p g v o c=>(aaV ((kw a).1) (nN a) ((kw a).2.1) (iW a) ((kw a).2.2.1) (gW a) ((kw a).2.2.2.1) (dZ a) ((kw a).2.2.2.2.1) (iV a) ((kw a).2.2.2.2.2) (vK a) p g v o c).val,fun p g v o c=>(ahz ((kw a).1) (nN a) ((kw a).2.1) (iW a) ((kw a).2.2.1) (gW a) ((kw a).2.2.2.1) (dZ a) ((kw a).2.2.2.2.1) (iV a) ((kw a).2.2.2.2.2) (vK a) p g v o c).val,fun p o x f b c=>(rEF ((kw a).1) (nN a) ((kw a).2.1) (iW a) ((kw a).2.2.1) (gW a) ((kw a).2.2.2.1) (dZ a) ((kw a).2.2.2.2.1) (iV a) ((kw a).2.2.2.2.2) (vK a) p o x f b c).val)
def arn (p:aC)(prog:Int)(v:ae)(c:ai):ae×ai×Int:=(kw ((5*c.Depth+5).toNat)).1 p prog v c
def Il (a:Nat):Prop:=(∀(p:aC) (prog:Int) (v:ae) (c:ai),nN a p prog v c->(fun y=>∀q,rp p q->xH p (p.Progs.getD prog.toNat aO) ((iF a).1 prog v (tagdec_reader.mk q c)) y) ((kw a).1 p prog v c))/\(∀(p:aC) (g:aX) (v:ae) (c:ai),iW a p g v c->(fun y=>∀q,rp p q->xH p g (stepT (iF a).2.1 g v (tagdec_reader.mk q c)) y) ((kw a).2.1 p g v c))/\(∀(p:aC) (o:Op) (d:ae) (e:Int) (c:ai),gW a p o d e c->(fun y=>∀q,rp p q->xH p (p.Progs.getD o.Target.toNat aO) ((iF a).2.2.1 o.Target d e (tagdec_reader.mk q c)) y) ((kw a).2.2.1 p o d e c))/\(∀(p:aC) (g:aX) (v:ae) (o:Op) (c:ai),dZ a p g v o c->(fun y=>∀q,rp p q->xH p g ((iF a).2.2.2.1 g v o (tagdec_reader.mk q c)) y) ((kw a).2.2.2.1 p g v o c))/\(∀(p:aC) (g:aX) (v:ae) (o:Op) (c:ai),iV a p g v o c->(fun y=>∀q,rp p q->xH p g ((iF a).2.2.2.2.1 g v o (tagdec_reader.mk q c)) y) ((kw a).2.2.2.2.1 p g v o c))/\(∀(p:aC) (o:Op) (x:Pair) (f:Int) (b:Int) (c:ai),vK a p o x f b c->(fun y=>∀q,rp p q->avR p o x f ((iF a).2.2.2.2.2 (bif f==1 then Op.mk 0 [] [] 0 0 o.Key (-1) 0 else o) b (tagdec_reader.mk q c)) y) ((kw a).2.2.2.2.2 p o x f b c))
abbrev abj (a:Nat):=aDD ((kw a).1) (nN a) ((kw a).2.1) (iW a) ((kw a).2.2.1) (gW a) ((kw a).2.2.2.1) (dZ a) ((kw a).2.2.2.2.1) (iV a) ((kw a).2.2.2.2.2) (vK a)
theorem adN (a:Nat)(J:Il a)(p:aC)(prog:Int)(v:ae)(c:ai)(h:nN (a+1) p prog v c):gU (abj a p prog v c) (fun y=>∀q,rp p q->xH p (p.Progs.getD prog.toNat aO) ((iF (a+1)).1 prog v (tagdec_reader.mk q c)) y):=
 by
 obtain⟨B,j,C,F,X⟩:=h;have n:p.Progs.getD prog.toNat aO∈p.Progs:=getD_mem aj;have hops:=(B.1 _ n).2;have U:=j.1.1.1;have t:∀q,rp p q->jK (aq6 (iF a).2.1 (p.Progs.getD prog.toNat aO) (tagdec_reader.mk q c) v) (abj a p prog v c) (xH p (p.Progs.getD prog.toNat aO)):=fun q d=>by
  have T:=Ep j d;(first | unfold aq6 abj aDD | unfold aq6 aDD);simp only[ae.bJ];generalize p.Progs.getD prog.toNat aO=g at*;refine al8 (fun x y=>y=(x.2,x.1.c)/\x.1.p=q/\yu 0 c x.1.c/\kV x.2/\(tV x.2:Int)<=tV v+8*(x.1.c.At - c.At)/\wV p x.2 g) (fun y=>(y.2.End - y.2.At).toNat) ⟨rfl,rfl,afx j.1,j.2.2.1,by grind,F⟩ (Qcn _) (Qcn _) fun x y K=> ?_;obtain⟨rfl,D,e,z,N,w⟩:=K;obtain⟨⟨l,b⟩,i⟩:=x;dsimp only at D e z N w⊢;subst D;have V:=e.2.2.1;have Y:=e.2.2.2.1;have s:inD i (tagdec_reader.mk p b):=⟨e.1,j.2.1,z,by have:=j.2.2.2;grind⟩;have u:inD i (tagdec_reader.mk l b):=Ep s d;refine cO e.1 (dL fun S f7=> ?_);have H:S=m_ b:=by rw[f7];exact uh e.1
  subst H;have E:iW a p g i b:=⟨B,s,n,w,by omega⟩;refine fG rfl (fun M=>BX C.1 C.2 (cO E ?_)) (fun M=>bF ⟨⟨rfl,fun _=>⟨rfl,rfl⟩⟩,fun _=>w⟩);have k:=J.2.1 p g i b E l d;have f:=as1 a (g:=g) (v:=i) (r:=tagdec_reader.mk l b) u (fun o I=>by
   obtain⟨a1,a2⟩:=hops o I;refine⟨fun L=> ?_,a2⟩;show 0<=o.Target/\o.Target < l.Progs.length
   rw[d.1];exact a1 L) dm
  obtain⟨⟨k1,P⟩,G⟩:=k;generalize stepT (iF a).2.1 g i (tagdec_reader.mk l b)=W at*;generalize (kw a).2.1 p g i b=A at*;refine fG qb1 (fun m=>bF (gG k1 m)) fun m=> ?_;obtain⟨a1,a2⟩:=P (bU.1 m);obtain⟨f1,f2,f3,f4⟩:=f (bU.1 m);have O:=f2.2.2.1;have Q:=f2.2.2.2.2.2.2;have R:=f2.1.1.2.1;refine bF ⟨⟨by rw[a1,a2],f1,fM (f_ e f2) dH,f3,?_,G (bU.1 m)⟩,?_⟩
  ·dsimp only at f4⊢;omega
  ·show(A.2.1.End - A.2.1.At).toNat < (b.End - b.At).toNat
   rw[a2];dsimp only at O Q R;omega
 refine⟨(t p (HY p)).1,fun q d=> ?_⟩;rw[ani];have k:=(t q d).2;rw[<-d.1]at k⊢;exact k
abbrev Jq (a:Nat):=aiz ((kw a).1) (nN a) ((kw a).2.1) (iW a) ((kw a).2.2.1) (gW a) ((kw a).2.2.2.1) (dZ a) ((kw a).2.2.2.2.1) (iV a) ((kw a).2.2.2.2.2) (vK a)
theorem TZ (d:Nat)(S:Il d)(p:aC)(g:aX)(v:ae)(c:ai)(h:iW (d+1) p g v c):gU (Jq d p g v c) (fun y=>∀q,rp p q->xH p g (stepT (iF (d+1)).2.1 g v (tagdec_reader.mk q c)) y):=
 by
 obtain⟨l,I,w,t,h3⟩:=h;have u:okC c:=I.1;have K:=qi I;refine LH (a:=fun q=>Pg.ret (stepT (iF (d+1)).2.1 g v (tagdec_reader.mk q c))) (Q:=xH p g) fun q A=> ?_;(first | unfold Jq aiz | unfold aiz);simp only[ae.bJ];refine cO u (dL fun V B=> ?_);rw[zJ u]at B;refine gJ (fun b=>bF ?_) (fun b=>dL fun v2 D=> ?_)
 ·grind [gG,ads]
 rw[afC]at D;have e7:V.2.2.2=0:=bU.1 b;have x:((dJ c).2.2.2 !=0)=false:=by grind
 refine gJ (fun W=>cO u (dL fun v3 U=> ?_)) (fun W=> ?_)
 ·rw[aiM u]at U;have s:(pz g (dJ c).1).2=false:=by grind
  rw[step_none (r:=tagdec_reader.mk q c) x s];dsimp only;rw[<-U];refine gJ (fun E=>bF ?_) (fun E=>cO K.1 (bF ?_))
  ·rw[E,cond_true];exact gG rfl E
  ·rw[E,lL];exact⟨⟨rfl,fun _=>⟨Py _ _,rfl⟩⟩,fun _=>aej t⟩
 ·have s:(pz g (dJ c).1).2=true:=by grind
  rw[step_some (r:=tagdec_reader.mk q c) x s];dsimp only;obtain⟨f,z⟩:=ahN s;obtain⟨i,J⟩:=awY (r:=tagdec_reader.mk p c) I dm;dsimp only at i J;rw[<-B,<-D]at f z;rw[<-B]at i J;rw[<-B,<-D];clear D W b x s;obtain⟨n1,C,b,er⟩:=V;dsimp only at i J z f⊢;clear B e7;generalize v2.1=o at*;have F:ao4 p o:=(l.1 g w).2 o f;have O:=Ep i A;have M:=L8 l w f K.2.1 t;change jK (AP d g v o C (tagdec_reader.mk q b)) _ (xH p g);(first | unfold AP aaH | unfold aaH);simp only[ae.bJ];refine dL fun v4 Z=>dL fun R e5=>dL fun N X=>dL fun v7 f7=> ?_;have k7:v7=pg o:=f7;subst k7;have T:xH p g (v,(13:Int),tagdec_reader.mk q b) (v,c,(13:Int)):=gG rfl rfl;by_cases j:o.Card=5
  ·have Y:N=false:=by
    cases k:N with
    | false=>rfl
    | true=>rw[X]at k;have:=(YO (o:=o) k).1;omega
   subst Y;refine ik (fun _=>gJ (fun _=> ?_) (fun k=>absurd (beq_iff_eq.2 j) qbj)) (fun k=>absurd (beq_iff_eq.2 j) qbj);by_cases hw6:C=6
   ·refine ik (fun k=>absurd k dm) (fun _=>gJ (fun _=> ?_) (fun k=>absurd k dm));have m:iV d p g v o b:=⟨l,i,⟨w,f,j⟩,t,by omega⟩;exact dB (cO m (bF (S.2.2.2.2.1 p g v o b m q A)))
   grind [ik,gJ,bF]
  ·have L:∀{P:Prop},(o.Card==5)=true->P:=fun k=>absurd (eq_of_beq k) j
   have one:∀n:o.Kind≠10,xH p g (yH g v o (tagdec_reader.mk q b)) (WT p g v o b):=fun n=>⟨(SL O M l.2.1 A.2).2,fun _=>aBQ K.2.1 t f n⟩
   have H:jK (Pg.br (C !=pg o) (.ret (v,13,tagdec_reader.mk q b)) (.br (o.Kind==10) (.ob (fO d g v o (tagdec_reader.mk q b)) (.ret (((iF d).2.2.2.1 g v o (tagdec_reader.mk q b)).1,((iF d).2.2.2.1 g v o (tagdec_reader.mk q b)).2))) (.ob (inD v (tagdec_reader.mk q b)/\1<=o.Num/\o.Num<=65535) (.ret ((yH g v o (tagdec_reader.mk q b)).1,(yH g v o (tagdec_reader.mk q b)).2)))))
     (Pg.br (o.Card==5) (.ret (v,c,13)) (.br (C !=pg o) (.ret (v,c,13)) (.br (o.Kind==10) (.ob (dZ d p g v o b) (.ret (((kw d).2.2.2.1 p g v o b).1,((kw d).2.2.2.1 p g v o b).2))) (.ob (inD v (tagdec_reader.mk p b)/\setQ g v o/\accOk p) (.ret (R.1,R.2)))))) (xH p g):=by
    refine gJ L fun _=>fG rfl (fun _=>bF T) fun _=>fG rfl (fun k=> ?_) (fun k=> ?_)
    ·have n:o.Kind=10:=eq_of_beq k;have m:dZ d p g v o b:=⟨l,i,⟨w,f,n,j⟩,t,by omega⟩;exact dB (cO m (bF (S.2.2.2.1 p g v o b m q A)))
    ·have n:o.Kind≠10:=fun e=>by grind
     refine dB (cO ⟨i,M,l.2.1⟩ (bF ?_))
     grind
   refine ik L fun _=>gJ L fun _=>dP fun u1 g1=>dP fun u2 g2=> ?_;subst g1 g2;by_cases G:C=5
   ·refine ik (fun _=> ?_) (fun k=>absurd (beq_iff_eq.2 G) qbj);refine fG (by rw[X,abm]) (fun k=>gJ (fun _=> ?_) (fun k=>absurd (beq_iff_eq.2 G) qbj)) (fun k=>H);obtain⟨_,n⟩:=YO k;refine dB (cO ⟨l,i,⟨w,f,n,F.2.2⟩,t⟩ (dP fun u3 g3=>bF ?_));rw[g3,Z];exact(afR l A i w f n F.2.2 t).2
   grind [ik,gJ]
abbrev UG (a:Nat):=ajV ((kw a).1) (nN a) ((kw a).2.1) (iW a) ((kw a).2.2.1) (gW a) ((kw a).2.2.2.1) (dZ a) ((kw a).2.2.2.2.1) (iV a) ((kw a).2.2.2.2.2) (vK a)
theorem Tm (g:Nat)(P:Il g)(p:aC)(o:Op)(b:ae)(e:Int)(c:ai)(h:gW (g+1) p o b e c):gU (UG g p o b e c) (fun y=>∀q,rp p q->xH p (p.Progs.getD o.Target.toNat aO) ((iF (g+1)).2.2.1 o.Target b e (tagdec_reader.mk q c)) y):=
 by
 obtain⟨S,j,U,J,h3⟩:=h;have i:okC c:=j.1;refine LH (a:=fun q=>wC g o.Target b e (tagdec_reader.mk q c)) (Q:=xH p (p.Progs.getD o.Target.toNat aO)) fun q K=> ?_;(first | unfold wC RX UG ajV | unfold wC RX ajV);simp only[ae.bJ];refine dB (cO i (dP fun l v=>dL fun O f1=> ?_));have k1:O=(l.1,l.2.2.c,l.2.1):=by rw[f1,Aq i q,v]
 subst k1;clear f1;refine fG rfl (fun F=>bF (gG rfl F)) fun F=> ?_;obtain⟨l1,G,u,B,H⟩:=jW (r:=tagdec_reader.mk q c) i dm;rw[<-v]at l1 G u B H;clear v;obtain⟨w,er1,z,d⟩:=l;dsimp only at l1 G u B H⊢;subst u;have l7:=l1.2.2.2.2.2.2;have le:=l1.2.2.1;have ld:=l1.2.2.2.1;refine cO l1.1 (dP fun v2 A=>dL fun X f2=> ?_);have x:X=v2:=by rw[f2,A,aiQ l1.1]
 subst x;clear f2;refine fG rfl (fun E=>bF (gG rfl E)) fun E=> ?_;obtain⟨Y,x2,x3,x4⟩:=UA l1.1 (n:=w) dm;rw[Y]at A;subst A;dsimp only;have Z:okC (ai.mk d.Data d.At (d.At+w) (d.Depth - 1) d.Nodes d.Text):=by
  obtain⟨⟨W,q2,q3,L⟩,q5,N⟩:=l1.1;exact⟨⟨W,by grind,by grind,L⟩,⟨by grind,by grind⟩,N⟩
 refine dP fun R T=>dL fun f f3=> ?_;have t:R=(f.2,tagdec_reader.mk z f.1):=by rw[T,f3,gK];rfl
 subst t;refine fG rfl (fun D=>bF (gG rfl D)) fun D=> ?_;have s:=jJ Z (n:=e) (by rw[<-gK,<-f3];grind);rw[<-gK,<-f3]at s;have sE:f.1.End=d.At+w:=s.1.2.2.1;have sD:f.1.Depth=d.Depth - 1:=s.1.2.2.2.1;have sA:f.1.At=d.At:=s.2.2.1;have C:inD b (tagdec_reader.mk p f.1):=⟨s.1.1,j.2.1,j.2.2.1,by have:=j.2.2.2;grind⟩;have I:nN g p o.Target b f.1:=⟨S,C,U,J,by omega⟩;have k:=P.1 p o.Target b f.1 I z K;obtain⟨⟨k1,x⟩,t⟩:=k;refine dB (cO I ?_);generalize (iF g).1 o.Target b (tagdec_reader.mk z f.1)=V at*;generalize (kw g).1 p o.Target b f.1=M at*;refine fG qb1 (fun m=>bF (gG k1 m)) fun m=>bF ?_;obtain⟨a1,a2⟩:=x (bU.1 m);exact⟨⟨rfl,fun _=>⟨a1,by show afM d M.2.1=ER d V.2.2.c;rw[a2];rfl⟩⟩,fun _=>t (bU.1 m)⟩
abbrev NW (a:Nat):=aaV ((kw a).1) (nN a) ((kw a).2.1) (iW a) ((kw a).2.2.1) (gW a) ((kw a).2.2.2.1) (dZ a) ((kw a).2.2.2.2.1) (iV a) ((kw a).2.2.2.2.2) (vK a)
theorem P7 (b:Nat)(E:Il b)(p:aC)(g:aX)(v:ae)(o:Op)(c:ai)(h:dZ (b+1) p g v o c):gU (NW b p g v o c) (fun y=>∀q,rp p q->xH p g ((iF (b+1)).2.2.2.1 g v o (tagdec_reader.mk q c)) y):=
 by
 obtain⟨n,d,⟨B,m,G,U⟩,s,W⟩:=h;have T:okC c:=d.1;have A:=qi d;have M:=Ac d o.Num;have J:=(n.1 g B).2 o m;have H:=J.1 G;have l:=L8 n B m A.2.1 s;have K:inD (ae.mk 10 0 [] [] [] [] []) (tagdec_reader.mk p c):=alm d;have F:=fun e=>ab3 (p:=p) (g:=g) (v:=v) (o:=o) s (n.2.2 g B).1 m G e
 refine LH (a:=fun q=>wL b g v o (tagdec_reader.mk q c)) (Q:=xH p g) fun q D=> ?_;(first | unfold wL Rn NW aaV | unfold wL Rn aaV);simp only[ae.bJ];refine dP fun O w=>dL fun R f3=> ?_;have t:R=O:=by rw[f3,w,sS]
 subst t;clear f3;have t5:=uM v o.Num;rw[<-w]at t5 F;refine ik (fun z=> ?_) (fun z=> ?_)
 ·have j:o.Card=4:=eq_of_beq z;refine WH (fun x y=>x=y) (gJ (fun _=>fG rfl (fun _=>bF rfl) (fun _=>bF rfl)) (fun k=>absurd (z.symm.trans k) dH)) fun x y r=> ?_;subst r;refine BA (fun y=>y=ae.mk 10 0 [] [] [] [] []) (bu (fun k=>absurd j k) (fun _=>af rfl)) fun y u=> ?_;subst u;have f:gW b p o (ae.mk 10 0 [] [] [] [] []) x c:=⟨n,K,H,SQ,by omega⟩;obtain⟨⟨k1,C⟩,t⟩:=E.2.2.1 p o _ x c f q D;refine dB (cO f ?_);generalize (iF b).2.2.1 o.Target (ae.mk 10 0 [] [] [] [] []) x (tagdec_reader.mk q c)=P at*;generalize (kw b).2.2.1 p o (ae.mk 10 0 [] [] [] [] []) x c=N at*;refine fG qb1 (fun i=>bF (gG k1 i)) fun i=> ?_;obtain⟨a1,a2⟩:=C (bU.1 i);refine dB (dB (gJ (fun _=>cO ⟨l,M.1⟩ (bF ⟨⟨rfl,fun _=>⟨by rw[Wh l,a1,w],a2⟩⟩,fun _=>V5 A.2.1 s m fun _=> ?_⟩)) (fun k=>absurd (z.symm.trans k) dH)));rw[j];refine aqF (fun y u=> ?_) (t (bU.1 i));rcases t5 with⟨e,_⟩ | ⟨_,e⟩
  ·grind [uj]
  ·rw[e]at u;cases u
 ·have j:o.Card≠4:=fun k=>by grind
  refine BA (fun y=>y=(1:Int)) (bI (fun k=>absurd k j) (fun _=>af rfl)) fun V I=> ?_;subst I;refine WH (fun x y=>x=y/\inD x (tagdec_reader.mk p c)/\wV p x (p.Progs.getD o.Target.toNat aO)) (gJ (fun _=> ?_) (fun k=>absurd k dm)) fun x y r=> ?_
  ·refine ik (fun e=>gJ (fun k=>absurd (by simpa using e) qbj) (fun _=>bF ⟨rfl,K,SQ⟩)) (fun e=>gJ (fun k=>bF ⟨rfl,?_,?_⟩) (fun k=>absurd e qbj))
   ·rw[w];exact⟨d.1,d.2.1,yG d.2.2.1,by have:=d.2.2.2;have:=(FM (v:=v) (num:=o.Num)).1;omega⟩
   grind [uj]
  ·obtain⟨rfl,S,L⟩:=r;have f:gW b p o x 1 c:=⟨n,S,H,L,by omega⟩;obtain⟨⟨k1,C⟩,t⟩:=E.2.2.1 p o x 1 c f q D;refine dB (cO f ?_);generalize (iF b).2.2.1 o.Target x 1 (tagdec_reader.mk q c)=P at*;generalize (kw b).2.2.1 p o x 1 c=N at*;refine fG qb1 (fun i=>bF (gG k1 i)) fun i=> ?_;obtain⟨a1,a2⟩:=C (bU.1 i);refine dB (gJ (fun k=>absurd k dm) (fun _=>cO l (bF ⟨⟨rfl,fun _=>⟨by rw[zY l.1 l.2.1 l.2.2,a1],a2⟩⟩,fun _=>V5 A.2.1 s m fun _=> ?_⟩)));rw[uj]
   grind
abbrev Wp (a:Nat):=ahz ((kw a).1) (nN a) ((kw a).2.1) (iW a) ((kw a).2.2.1) (gW a) ((kw a).2.2.2.1) (dZ a) ((kw a).2.2.2.2.1) (iV a) ((kw a).2.2.2.2.2) (vK a)
theorem VD (m:Nat)(ih:Il m)(p:aC)(g:aX)(v:ae)(o:Op)(c:ai)(h:iV (m+1) p g v o c):gU (Wp m p g v o c) (fun y=>∀q,rp p q->xH p g ((iF (m+1)).2.2.2.2.1 g v o (tagdec_reader.mk q c)) y):=
 by
 obtain⟨U,K,⟨hg,ho,L⟩,hw,h3⟩:=h;have N:okC c:=K.1;have hl:=qi K;have hf:=Ac K o.Num;have M:=(U.1 g hg).2 o ho;have z:=M.2.1 L;have sq:=L8 U hg ho hl.2.1 hw;have h0:=N.1.1;have hb:=K.2.2.2;have V:=ng m;refine LH (a:=fun q=>Au m g v o (tagdec_reader.mk q c)) (Q:=xH p g) fun q O=> ?_;have h':=Ep K O;(first | unfold Au abD Wp ahz | unfold Au abD ahz);simp only[ae.bJ,Pair.eta];refine dB (cO N (dP fun W e4=>dL fun w4 f4=> ?_));have k4:w4=(W.1,W.2.2.c,W.2.1):=by rw[f4,Aq N q,e4]
 subst k4;clear f4;refine fG rfl (fun w=>bF (gG rfl w)) fun w=> ?_;obtain⟨l1,l2,l3,S,T⟩:=jW (r:=tagdec_reader.mk q c) N dm;rw[<-e4]at l1 l2 l3 S T;clear e4;obtain⟨H,er4,Z,b⟩:=W;dsimp only at l1 l2 l3 S T hb⊢;subst l3;have l7:=l1.2.2.2.2.2.2;have le:=l1.2.2.1;have ld:=l1.2.2.2.1;have hc:=JK l1.1 S T;have aa:WI b H=lK b H:=II (fun x:ai×tagdec_reader=>x.2.c) (AU (r:=tagdec_reader.mk Z b) l1.1 S T);rw[AU (r:=tagdec_reader.mk Z b) l1.1 S T,aa];refine dP fun v5 Y=>dL fun B f5=> ?_;have k5:B=v5:=by rw[f5,Y,sS]
 subst k5;clear f5;refine WH (fun x y=>x=y) ?_ fun y1 y1' hy1=> ?_
 ·exact ik (fun k=>gJ (fun D=>absurd k (by rw[D];decide)) (fun _=>bF rfl)) (fun k=>gJ (fun _=>bF rfl) (fun D=>absurd k (by rw[D];decide)))
 subst hy1;refine dP fun v6 e6=>dL fun w6 f6=> ?_;have k6:v6=(w6.2,tagdec_reader.mk Z w6.1):=by rw[e6,f6,gK];rfl
 subst k6;refine fG rfl (fun c6=>bF (gG rfl c6)) fun c6=> ?_;have s:=jJ hc (n:=y1) (by rw[<-gK,<-f6];grind);rw[<-gK,<-f6]at s;clear e6 f6;have eAt:(lK b H).At=b.At:=rfl;have ac7:(lK b H).End=b.At+H:=rfl;have eD:(lK b H).Depth=b.Depth:=rfl;have sE:=s.1.2.2.1;have sA:=s.2.2.1;rw[ac7]at sE;rw[eAt]at sA;have k1:=(jb o.Kind 0 [] u0).2;have D:=(jb o.Key 0 [] u0).2;simp only[Qa7]at k1 D;refine al8 (fun x y=>y=([false,x.1,x.2.1],x.2.2.2,x.2.2.1.c)/\x.2.2.1.p=Z/\yu 0 (lK b H) x.2.2.1.c/\(sIsP x.2.2.2.Key.Kind=true/\kV x.2.2.2.Key)/\kV x.2.2.2.Val/\(tV x.2.2.2.Key:Int)+tV x.2.2.2.Val<=2+8*(x.2.2.1.c.At - b.At)/\(o.Kind=10->wV p x.2.2.2.Val (p.Progs.getD o.Target.toNat aO))) (fun y=>(y.2.2.End - y.2.2.At).toNat) ⟨rfl,rfl,s.1,⟨z,(jb o.Key 0 [] u0).1⟩,(jb o.Kind 0 [] u0).1,by show(tV (ae.mk o.Key 0 [] [] [] [] []):Int)+tV (ae.mk o.Kind 0 [] [] [] [] [])<=2+8*(w6.1.At - b.At);omega,fun I=>by show wV p (ae.mk o.Kind 0 [] [] [] [] []) _;rw[I];exact SQ⟩ dm dm fun x y hx=> ?_;obtain⟨rfl,x1,A,x3,x4,x5,x6⟩:=hx;obtain⟨ky,vl,⟨C,xc⟩,j⟩:=x;dsimp only at x1 A x3 x4 x5 x6⊢;subst x1;have xE:=A.2.2.1;have xA:=A.2.2.2.2.2.2;have xD:=A.2.2.2.1;rw[ac7]at xE;rw[eAt]at xA;rw[eD]at xD;refine dP fun v7 e7=>cO A.1 (dL fun w7 f7=> ?_);have k7:w7=v7:=by rw[f7,e7];exact uh A.1
 subst k7;refine fG rfl (fun c7=>dB (cO A.1 (dP fun v8 e8=>dL fun w8 f8=> ?_))) (fun c7=> ?_)
 ·have k8:w8=v8:=by rw[f8,e8,zJ A.1]
  subst k8;clear f8;obtain⟨num,t,i,er⟩:=w8;dsimp only;refine WH (fun _ _=>er=0/\(num=1/\ky=false\/num=2/\vl=false)) ?_ fun _ _ E=> ?_
  ·refine fG rfl (fun i=>bF (gG rfl i)) fun i=> ?_;have ez:=bU.1 i;by_cases n1:num=1
   ·subst n1;refine ik (fun k=>absurd k dH) fun _=>gJ (fun k=>absurd k dH) fun _=>BX dH jQ (cO jQ (ik (fun _=>fG rfl (fun _=>bF (gG rfl rfl)) (fun I=>ik (fun k=>absurd k dH) fun _=>bF ⟨ez, .inl ⟨rfl,I⟩⟩)) (fun k=>absurd k dH)))
   ·by_cases n2:num=2
    ·subst n2;refine ik (fun _=>ik (fun k=>absurd k dH) fun _=>ik (fun k=>absurd k dH) fun _=>ik (fun _=> ?_) (fun k=>absurd k dH)) (fun k=>absurd k dH);exact gJ (fun _=>gJ (fun k=>absurd k dH) fun _=>BX dH jQ (cO jQ (fG rfl (fun _=>bF (gG rfl rfl)) (fun I=>bF ⟨ez, .inr ⟨rfl,I⟩⟩)))) (fun k=>absurd k dH)
    ·have b1:(num !=1)=true:=bne_iff_ne.2 n1;have b2:(num !=2)=true:=bne_iff_ne.2 n2;exact ik (fun _=>ik (fun _=>gJ (fun _=>gJ (fun _=>bF (gG rfl rfl)) (fun k=>absurd b2 qbj)) (fun k=>absurd b1 qbj)) (fun k=>absurd b2 qbj)) (fun k=>absurd b1 qbj)
  ·obtain⟨he,E⟩:=E;subst he;have u:=nV A.1 (by rw[<-e8]);rw[<-e8]at u;have P:=u.1;dsimp only at P;have uD:=P.2.2.2.1;have uE:=P.2.2.1;have uA:=P.2.2.2.2.2.2;have X:inD (ae.mk 10 0 [] [] [] [] []) (tagdec_reader.mk p i):=⟨P.1,K.2.1,(jb 10 0 [] u0).1,by grind [GL,BD]⟩;have fin:∀(d:ai) (kk vv:ae),yu 0 i d->(tV kk:Int)+tV vv<=2+8*(d.At - b.At)->yu 0 (lK b H) d/\(d.End - d.At).toNat < (xc.End - xc.At).toNat:=fun d kk vv a2 a5=>by
    have ha:yu 1 xc d:=fM (f_ P a2) dH;have aE:=ha.2.2.1;have aA:=ha.2.2.2.2.2.2;have aL:=ha.1.1.2.1;exact⟨fM (f_ A ha) dH,by omega⟩
   rcases E with⟨rfl,rfl⟩ | ⟨rfl,rfl⟩
   ·have F:vK m p o j 1 t i:=⟨U,X,⟨M,L⟩, .inl rfl,by omega⟩;have k:=ih.2.2.2.2.2 p o j 1 t i F C O;have f:=V.2.2.2.2.2 (Op.mk 0 [] [] 0 0 o.Key (-1) 0) t (tagdec_reader.mk C i) ⟨Ep X O,fun J=>(by
     have G:o.Key=10:=J;rw[G]at z;exact absurd z dH),by grind⟩
    have k:avR p o j 1 ((iF m).2.2.2.2.2 (Op.mk 0 [] [] 0 0 o.Key (-1) 0) t (tagdec_reader.mk C i)) ((kw m).2.2.2.2.2 p o j 1 t i):=k;refine ik (fun _=>dB (BX dH jQ (cO jQ (cO F ?_)))) (fun k=>absurd k dH);generalize (iF m).2.2.2.2.2 (Op.mk 0 [] [] 0 0 o.Key (-1) 0) t (tagdec_reader.mk C i)=l at*;generalize (kw m).2.2.2.2.2 p o j 1 t i=uu at*;obtain⟨k1,D⟩:=k;refine fG qb1 (fun w=>bF (gG k1 w)) fun w=> ?_;obtain⟨a1,a2,a3⟩:=D (bU.1 w);obtain⟨f1,f2,f3,f4,f5⟩:=f (bU.1 w);have f4:(tV l.1:Int)<=8*(l.2.2.c.At - i.At):=f4;have f7:i.At+0<=l.2.2.c.At:=f2.2.2.2.2.2.2;have bnd:(tV l.1:Int)+tV j.Val<=2+8*(l.2.2.c.At - b.At):=by omega
    obtain⟨g1,g2⟩:=fin l.2.2.c l.1 j.Val f2 bnd;have e1:uu.1=Pair.mk l.1 j.Val:=a2;refine bF ⟨⟨?_,f1,g1,⟨f5 fun G=> ?_,f3⟩,x4,bnd,x6⟩,by grind⟩
    ·grind
    ·have G:o.Key=10:=G;rw[G]at z;exact absurd z dH
   ·have F:vK m p o j 2 t i:=⟨U,X,⟨M,L⟩, .inr rfl,by omega⟩;have k:=ih.2.2.2.2.2 p o j 2 t i F C O;have f:=V.2.2.2.2.2 o t (tagdec_reader.mk C i) ⟨Ep X O,fun J=>by show 0<=o.Target/\o.Target < C.Progs.length;rw[O.1];exact M.1 J,by grind⟩;have k:avR p o j 2 ((iF m).2.2.2.2.2 o t (tagdec_reader.mk C i)) ((kw m).2.2.2.2.2 p o j 2 t i):=k;refine ik (fun k=>absurd k dH) (fun _=>dB (BX dH jQ (cO jQ (cO F ?_))));generalize (iF m).2.2.2.2.2 o t (tagdec_reader.mk C i)=l at*;generalize (kw m).2.2.2.2.2 p o j 2 t i=uu at*;obtain⟨k1,D⟩:=k;refine fG qb1 (fun w=>bF (gG k1 w)) fun w=> ?_;obtain⟨a1,a2,a3⟩:=D (bU.1 w);obtain⟨f1,f2,f3,f4,f5⟩:=f (bU.1 w);have f4:(tV l.1:Int)<=8*(l.2.2.c.At - i.At):=f4;have f7:i.At+0<=l.2.2.c.At:=f2.2.2.2.2.2.2;have bnd:(tV j.Key:Int)+tV l.1<=2+8*(l.2.2.c.At - b.At):=by omega
    obtain⟨g1,g2⟩:=fin l.2.2.c j.Key l.1 f2 bnd;have e1:uu.1=Pair.mk j.Key l.1:=a2;refine bF ⟨⟨?_,f1,g1,x3,f3,bnd,a3 dH⟩,by grind⟩
    grind
 ·have hpl:=acY B.1.Pairs;have ht:=lh B.1;rw[<-Y]at hf;have hold:kV B.1/\(tV B.1:Int)<=tV v:=by
   rw[Y];exact⟨yG K.2.2.1,by have:=(FM (v:=v) (num:=o.Num)).1;omega⟩
  have R:pairsQ (B.1.Pairs++[j]):=⟨by grind,fun y E=>(vO.1 E).elim (hf.2.2 y) fun e=>by grind⟩;have hkv:=((jm B.1).1 hold.1).2.2.1;have hkq:afq (B.1.Pairs++[j]):=⟨R,fun y E=>by
   grind [jm]⟩
  refine asB (dB (dP fun v9 e9=>dB (dP fun v10 e10=> ?_)));have k10:v10=B.1.Pairs++[j]:=by grind
  subst k10;have hlen:=R.1;simp only[uX,JV,Qa7]at hlen;refine cO (room_of aj aj) (cO (room_of aj aj) (dL fun w9 f9=> ?_));subst f9;refine dB (dB (cO hkq (cO sq (bF ⟨⟨rfl,fun _=>⟨by rw[zY sq.1 sq.2.1 sq.2.2],rfl⟩⟩,fun _=>V5 hl.2.1 hw ho fun I=> ?_⟩))));rw[L];refine aus fun y E=> ?_;rcases vO.1 (BC R E)with e | e
  ·rcases uM v o.Num with⟨q1,_⟩ | ⟨_,q1⟩
   ·have:=ab3 hw (U.2.2 g hg).1 ho I q1
    grind [uj]
   ·rw[Y,q1]at e;cases e
  grind
abbrev atn (a:Nat):=rEF ((kw a).1) (nN a) ((kw a).2.1) (iW a) ((kw a).2.2.1) (gW a) ((kw a).2.2.2.1) (dZ a) ((kw a).2.2.2.2.1) (iV a) ((kw a).2.2.2.2.2) (vK a)
theorem al5 (i:Nat)(T:Il i)(p:aC)(o:Op)(x:Pair)(b:Int)(wire:Int)(c:ai)(h:vK (i+1) p o x b wire c):gU (atn i p o x b wire c) (fun y=>∀q,rp p q->avR p o x b ((iF (i+1)).2.2.2.2.2 (bif b==1 then Op.mk 0 [] [] 0 0 o.Key (-1) 0 else o) wire (tagdec_reader.mk q c)) y):=
 by
 obtain⟨D,L,⟨v,M⟩,U,X⟩:=h;have d:okC c:=L.1;have m:=v.2.1 M;have K:o.Key≠10:=fun k=>by rw[k]at m;exact absurd m dH
 refine LH (a:=fun q=>FQ i (bif b==1 then Op.mk 0 [] [] 0 0 o.Key (-1) 0 else o) wire (tagdec_reader.mk q c)) (Q:=avR p o x b) fun q z=> ?_;have j:=UW d q wire;have t:=uF (r:=tagdec_reader.mk q c) (wire:=wire) d;have s:=yS (r:=tagdec_reader.mk q c) (wire:=wire) d;(first | unfold FQ aly atn rEF | unfold FQ aly rEF);simp only[ae.bJ];rcases U with rfl | rfl
 ·refine BA (fun y=>y=Op.mk 0 [] [] 2 0 o.Key (-1) (-1)) (bH (fun _=>af rfl) (fun k=>absurd k dH)) fun y A=> ?_;subst A;refine fG rfl (fun _=>bF ⟨rfl,fun k=>absurd (show(13:Int)=0 from k) dH⟩) fun _=>ik (fun k=>absurd (eq_of_beq k) K) fun _=>BA (fun _=>True) (bH (fun k=>absurd k dH) (fun _=>af trivial)) fun _ _=>dB (cO d (dP fun F C=>dL fun R f1=> ?_));rw[<-C]at j t s;rw[<-f1]at j;obtain⟨l,B⟩:=j;refine fG (by rw[l]) (fun g=>bF ⟨l,fun k=>absurd k dm⟩) fun g=> ?_;obtain⟨E,w⟩:=B (bU.1 g);obtain⟨a1,a2,O,H,_⟩:=t (bU.1 g);have a2:F.2.2.p=q:=a2;rw[E,w,a2];refine dB (cO H (dP fun I J=>dL fun G f2=> ?_));have n:G=I:=by rw[f2,J,Bf D.2.1 z.2 _ _ s];rfl
  subst n;exact gJ (fun _=>bF ⟨rfl,fun _=>⟨rfl,rfl,fun k=>absurd rfl k⟩⟩) (fun k=>absurd k dH)
 ·refine BA (fun y=>y=Ib o) (bH (fun k=>absurd k dH) (fun _=>af rfl)) fun y A=> ?_;subst A;refine fG rfl (fun _=>bF ⟨rfl,fun k=>absurd (show(13:Int)=0 from k) dH⟩) fun _=> ?_;by_cases f:o.Kind=10
  ·refine ik (fun _=>dB (BA (fun _=>False) (bH (fun _=>bI (fun _=>au fun S V=> ?_) (fun k=>absurd f k)) (fun k=>absurd k dH)) fun _ k=>k.elim)) (fun k=>absurd (show(o.Kind==10)=true from beq_iff_eq.2 f) dm);have N:S=ae.mk 10 0 [] [] [] [] []:=by rw[V,<-f];rfl
   subst N;have u:gW i p o (ae.mk 10 0 [] [] [] [] []) 0 c:=⟨D,L,v.1 f,SQ,by omega⟩;obtain⟨⟨W,n⟩,P⟩:=T.2.2.1 p o _ 0 c u q z;refine ah u (af ⟨W,fun e=>⟨(n e).2,?_,fun _ _=>P e⟩⟩);simp_all
  ·refine ik (fun k=>absurd (eq_of_beq k) f) fun _=>BA (fun _=>True) (bH (fun _=>bI (fun k=>absurd k f) (fun _=>af trivial)) (fun k=>absurd k dH)) fun _ _=>dB (cO d (dP fun F C=>dL fun R f1=> ?_));rw[<-C]at j t s;rw[<-f1]at j;obtain⟨l,B⟩:=j;refine fG (by rw[l]) (fun g=>bF ⟨l,fun k=>absurd k dm⟩) fun g=> ?_;obtain⟨E,w⟩:=B (bU.1 g);obtain⟨a1,a2,O,H,_⟩:=t (bU.1 g);have a2:F.2.2.p=q:=a2;rw[E,w,a2];refine dB (cO H (dP fun I J=>dL fun G f2=> ?_));have n:G=I:=by rw[f2,J,Bf D.2.1 z.2 _ _ s];rfl
   subst n;exact gJ (fun k=>absurd k dH) (fun _=>bF ⟨rfl,fun _=>⟨rfl,rfl,fun _ k=>absurd k f⟩⟩)
theorem oJ:∀a,Il a
 | 0=>⟨fun p prog v c h=>False.elim qa0,
  fun p g v c h=>False.elim qa0,
  fun p o d f c h=>False.elim qa0,
  fun p g v o c h=>False.elim qa0,
  fun p g v o c h=>False.elim qa0,
  fun p o x i b c h=>False.elim qa0⟩
 | a+1=>⟨fun p prog v c h=>(adN a (oJ a) p prog v c h).2,
  fun p g v c h=>(TZ a (oJ a) p g v c h).2,
  fun p o d f c h=>(Tm a (oJ a) p o d f c h).2,
  fun p g v o c h=>(P7 a (oJ a) p g v o c h).2,
  fun p g v o c h=>(VD a (oJ a) p g v o c h).2,
  fun p o x i b c h=>(al5 a (oJ a) p o x i b c h).2⟩
theorem azy (a:Nat)(p:aC)(prog:Int)(v:ae)(c:ai)(h:nN (a+1) p prog v c):Is (abj a p prog v c):=(adN a (oJ a) p prog v c h).1
theorem aoR (a:Nat)(p:aC)(g:aX)(v:ae)(c:ai)(h:iW (a+1) p g v c):Is (Jq a p g v c):=(TZ a (oJ a) p g v c h).1
theorem anh (d:Nat)(p:aC)(o:Op)(a:ae)(b:Int)(c:ai)(h:gW (d+1) p o a b c):Is (UG d p o a b c):=(Tm d (oJ d) p o a b c h).1
theorem ag8 (a:Nat)(p:aC)(g:aX)(v:ae)(o:Op)(c:ai)(h:dZ (a+1) p g v o c):Is (NW a p g v o c):=(P7 a (oJ a) p g v o c h).1
theorem aou (a:Nat)(p:aC)(g:aX)(v:ae)(o:Op)(c:ai)(h:iV (a+1) p g v o c):Is (Wp a p g v o c):=(VD a (oJ a) p g v o c h).1
theorem aD9 (d:Nat)(p:aC)(o:Op)(x:Pair)(b:Int)(a:Int)(c:ai)(h:vK (d+1) p o x b a c):Is (atn d p o x b a c):=(al5 d (oJ d) p o x b a c h).1
theorem ajU (p:aC)(prog:Int)(v:ae)(c:ai)(h:pG p/\inD v (tagdec_reader.mk p c)/\(0<=prog/\prog < p.Progs.length)/\wV p v (p.Progs.getD prog.toNat aO)):(fun y=>∀q,rp p q->xH p (p.Progs.getD prog.toNat aO) ((iF ((5*c.Depth+5).toNat)).1 prog v (tagdec_reader.mk q c)) y) (arn p prog v c):=(oJ ((5*c.Depth+5).toNat)).1 p prog v c (⟨h.1,h.2.1,h.2.2.1,h.2.2.2,by omega⟩)
theorem aCk:∀b,CtOk Z.P Z.S 269 (qQ (args (aCons (aAgg cd_Plan) (aCons (aLf cI) (aCons (aAgg cd_AVal) (a1 (aAgg cd_Cursor)))))) (shr [.slot 0 true (nn 7), .slot 1 true (nn 6), s0 2] (aJ cd_AVal (aJ cd_Cursor (l1 cI)))) 3 [] (fun a=>some (nN b (a.1) (a.2.1) (a.2.2.1) (a.2.2.2))) (fun a=>(kw b).1 (a.1) (a.2.1) (a.2.2.1) (a.2.2.2)))/\CtOk Z.P Z.S 358 (qQ (args (aCons (aAgg cd_Plan) (aCons (aAgg cd_Prog) (aCons (aAgg cd_AVal) (a1 (aAgg cd_Cursor)))))) (shr [.slot 0 true (nn 7), .slot 1 true (nn 6), s0 2] (aJ cd_AVal (aJ cd_Cursor (l1 cI)))) 3 [] (fun a=>some (iW b (a.1) (a.2.1) (a.2.2.1) (a.2.2.2))) (fun a=>(kw b).2.1 (a.1) (a.2.1) (a.2.2.1) (a.2.2.2)))/\CtOk Z.P Z.S 531 (qQ (args (aCons (aAgg cd_Plan) (aCons (aAgg cd_Op) (aCons (aAgg cd_AVal) (aCons (aLf cI) (a1 (aAgg cd_Cursor))))))) (shr [.slot 0 true (nn 7), .slot 1 true (nn 6), s0 2] (aJ cd_AVal (aJ cd_Cursor (l1 cI)))) 3 [] (fun a=>some (gW b (a.1) (a.2.1) (a.2.2.1) (a.2.2.2.1) (a.2.2.2.2))) (fun a=>(kw b).2.2.1 (a.1) (a.2.1) (a.2.2.1) (a.2.2.2.1) (a.2.2.2.2)))/\CtOk Z.P Z.S 470 (qQ (args (aCons (aAgg cd_Plan) (aCons (aAgg cd_Prog) (aCons (aAgg cd_AVal) (aCons (aAgg cd_Op) (a1 (aAgg cd_Cursor))))))) (shr [.slot 0 true (nn 7), .slot 1 true (nn 6), s0 2] (aJ cd_AVal (aJ cd_Cursor (l1 cI)))) 3 [] (fun a=>some (dZ b (a.1) (a.2.1) (a.2.2.1) (a.2.2.2.1) (a.2.2.2.2))) (fun a=>(kw b).2.2.2.1 (a.1) (a.2.1) (a.2.2.1) (a.2.2.2.1) (a.2.2.2.2)))/\CtOk Z.P Z.S 466 (qQ (args (aCons (aAgg cd_Plan) (aCons (aAgg cd_Prog) (aCons (aAgg cd_AVal) (aCons (aAgg cd_Op) (a1 (aAgg cd_Cursor))))))) (shr [.slot 0 true (nn 7), .slot 1 true (nn 6), s0 2] (aJ cd_AVal (aJ cd_Cursor (l1 cI)))) 3 [] (fun a=>some (iV b (a.1) (a.2.1) (a.2.2.1) (a.2.2.2.1) (a.2.2.2.2))) (fun a=>(kw b).2.2.2.2.1 (a.1) (a.2.1) (a.2.2.1) (a.2.2.2.1) (a.2.2.2.2)))/\CtOk Z.P Z.S 525 (qQ (args (aCons (aAgg cd_Plan) (aCons (aAgg cd_Op) (aCons (aAgg vZ) (aCons (aLf cI) (aCons (aLf cI) (a1 (aAgg cd_Cursor)))))))) (shr [.slot 0 true (nn 14), .slot 1 true (nn 6), s0 2] (aJ vZ (aJ cd_Cursor (l1 cI)))) 3 [] (fun a=>some (vK b (a.1) (a.2.1) (a.2.2.1) (a.2.2.2.1) (a.2.2.2.2.1) (a.2.2.2.2.2))) (fun a=>(kw b).2.2.2.2.2 (a.1) (a.2.1) (a.2.2.1) (a.2.2.2.1) (a.2.2.2.2.1) (a.2.2.2.2.2)))
 | 0=>⟨iy func269 dM (fun a h=>by have k:0<=(a.2.2.2).Depth:=h.2.1.1.2.1.1;have e:=h.2.2.2.2;omega),
  iy func358 dM (fun a h=>by have k:0<=(a.2.2.2).Depth:=h.2.1.1.2.1.1;have e:=h.2.2.2.2;omega),
  iy func531 dM (fun a h=>by have k:0<=(a.2.2.2.2).Depth:=h.2.1.1.2.1.1;have e:=h.2.2.2.2;omega),
  iy func470 dM (fun a h=>by have k:0<=(a.2.2.2.2).Depth:=h.2.1.1.2.1.1;have e:=h.2.2.2.2;omega),
  iy func466 dM (fun a h=>by have k:0<=(a.2.2.2.2).Depth:=h.2.1.1.2.1.1;have e:=h.2.2.2.2;omega),
  iy func525 dM (fun a h=>by have k:0<=(a.2.2.2.2.2).Depth:=h.2.1.1.2.1.1;have e:=h.2.2.2.2;omega)⟩
 | b+1=>by
  obtain⟨j,d,i,l,g,f⟩:=aCk b;exact⟨Rk [zS,⟨269,_,j⟩,⟨358,_,d⟩,⟨531,_,i⟩,⟨470,_,l⟩,⟨466,_,g⟩,⟨525,_,f⟩] [jS 1 (bD (fun c=>[.cells (pid (c 6)) (nn 7), .cells (pid (c 7)) (nn 6)]) (aJ cd_AVal (l1 cd_Cursor)))] func269 ntmps269 (fun a=>abj b a.1 a.2.1 a.2.2.1 a.2.2.2) (fun a h=>⟨azy b a.1 a.2.1 a.2.2.1 a.2.2.2 h,rfl⟩) (l_ (n:=39) rfl),
   Rk [VZ,amK,apz,Vh,Pn,anR,zM,Zd,⟨269,_,j⟩,⟨358,_,d⟩,⟨531,_,i⟩,⟨470,_,l⟩,⟨466,_,g⟩,⟨525,_,f⟩] [] func358 ntmps358 (fun a=>Jq b a.1 a.2.1 a.2.2.1 a.2.2.2) (fun a h=>⟨aoR b a.1 a.2.1 a.2.2.1 a.2.2.2 h,rfl⟩) (l_ (n:=123) rfl),
   Rk [wK,LD,anC,api,⟨269,_,j⟩,⟨358,_,d⟩,⟨531,_,i⟩,⟨470,_,l⟩,⟨466,_,g⟩,⟨525,_,f⟩] [] func531 ntmps531 (fun a=>UG b a.1 a.2.1 a.2.2.1 a.2.2.2.1 a.2.2.2.2) (fun a h=>⟨anh b a.1 a.2.1 a.2.2.1 a.2.2.2.1 a.2.2.2.2 h,rfl⟩) (l_ (n:=70) rfl),
   Rk [AQ,DD,Z9,⟨269,_,j⟩,⟨358,_,d⟩,⟨531,_,i⟩,⟨470,_,l⟩,⟨466,_,g⟩,⟨525,_,f⟩] [jS 100005 (bD (fun c=>[s0 16]) (l1 cI)),jS 100007 (bD (fun c=>[.cells (pid (c 15)) (nn 7)]) (l1 cd_AVal))] func470 ntmps470 (fun a=>NW b a.1 a.2.1 a.2.2.1 a.2.2.2.1 a.2.2.2.2) (fun a h=>⟨ag8 b a.1 a.2.1 a.2.2.1 a.2.2.2.1 a.2.2.2.2 h,rfl⟩) (l_ (n:=71) rfl),
   Rk [wK,AQ,zS,VZ,Wn,LD,Zv,Yi,DD,P_,⟨269,_,j⟩,⟨358,_,d⟩,⟨531,_,i⟩,⟨470,_,l⟩,⟨466,_,g⟩,⟨525,_,f⟩] [jS 13 (bD (fun c=>[.row (pid (c 21)) 4, .cells (pid (c 20)) (nn 14), .cells (pid (c 19)) (nn 6)]) (aJ cd_Lbool (aJ vZ (l1 cd_Cursor)))),jS 100008 (bD (fun c=>[s0 18]) (l1 cI)),jS 100021 (bD (fun c=>[]) l0)] func466 ntmps466 (fun a=>Wp b a.1 a.2.1 a.2.2.1 a.2.2.2.1 a.2.2.2.2) (fun a h=>⟨aou b a.1 a.2.1 a.2.2.1 a.2.2.2.1 a.2.2.2.2 h,rfl⟩) (l_ (n:=134) rfl),
   Rk [zM,Yi,O_,ZI,PT,⟨269,_,j⟩,⟨358,_,d⟩,⟨531,_,i⟩,⟨470,_,l⟩,⟨466,_,g⟩,⟨525,_,f⟩] [jS 100004 (bD (fun c=>[.cells (pid (c 15)) (nn 8)]) (l1 cd_Op)),jS 100010 (bD (fun c=>[]) l0)] func525 ntmps525 (fun a=>atn b a.1 a.2.1 a.2.2.1 a.2.2.2.1 a.2.2.2.2.1 a.2.2.2.2.2) (fun a h=>⟨aD9 b a.1 a.2.1 a.2.2.1 a.2.2.2.1 a.2.2.2.2.1 a.2.2.2.2.2 h,rfl⟩) (l_ (n:=86) rfl)⟩
def aEd:bi Z:=⟨269,qQ (args (aCons (aAgg cd_Plan) (aCons (aLf cI) (aCons (aAgg cd_AVal) XC)))) aFM 3 [] (fun a=>some (pG (a.1)/\inD (a.2.2.1) (tagdec_reader.mk (a.1) (a.2.2.2))/\(0<=(a.2.1)/\(a.2.1) < (a.1).Progs.length)/\wV (a.1) (a.2.2.1) ((a.1).Progs.getD (a.2.1).toNat aO))) (fun a=>arn (a.1) (a.2.1) (a.2.2.1) (a.2.2.2)),oh (fun n=>((aCk n).1)) _ _ (fun a h=>⟨(5*(a.2.2.2).Depth+5).toNat,⟨h.1,h.2.1,h.2.2.1,h.2.2.2,by omega⟩,rfl⟩)⟩
def r4zero (v:ae):Pg Bool:=.br (G6 v.Kind) (.br (v.Bits==0) (.br (v.Text==[]) (.ret (vY v.re)) (.ret false)) (.ret false)) (.ret false)
def LC (v:ae):=(r4zero v).val
def auj:bi Z:=E0 [acU,af0] [] hh9 hh2 [] func474 1 r4zero
def r22empty (v:ae):Pg Bool:=.br (v.Kind==11) (.ret ((↑v.List.length:Int)==0)) (.br (v.Kind==12) (.ret ((↑v.Pairs.length:Int)==0)) (.ret (LC v.re)))
def wR (v:ae):=(r22empty v).val
def ai0:bi Z:=E0 [auj] [] hh9 hh2 [] func361 1 r22empty
def LX (l:List Raw):Pg (List Raw):=.each true mg l zf (fun e g (a:List Raw)=> aL a (.cut (fun(b:Int)=> .ix e l.length (.ob (0<=b/\b<=(↑a.length:Int)/\(↑a.length:Int)<=(↑a.length:Int)) (.ob (bG (1+(List.drop b.toNat (List.take a.length a)).length) 40) (.ob ((0:Int)<=0/\0<=b/\b<=(↑a.length:Int)) (.ob (bG (0+(List.take b.toNat a).length) 40) (.lt ([g]++List.drop b.toNat (List.take a.length a)) fun(f:List Raw)=> .ob (bG ((List.take b.toNat a).length+f.length) 40) (rl (List.take b.toNat a++f)))))))) (.wh (l.length+1) default (fun(d:Int)=> .br (decide (0 < d)) (.lt (aQ .i64 (d - 1)) fun c=> .ix c a.length (.ob (c.toNat < a.length) (.ix e l.length (.br (decide (g.Num < (a.getD c.toNat zf).Num)) (rl c) (.ret (.inr (.inl d))))))) (.ret (.inr (.inl d)))) (↑a.length:Int)))) (fun e (a:List Raw)=> .ret a) []
def arj (l:List Raw):=(LX l).val
theorem auB (v:ae)(h:vN v):Vm v=LC v:=by
 unfold Vm aaT LC r4zero;simp only[aF,ay,ae.bJ,ak5 v h,ac1];cases G6 v.Kind<;>cases vY v<;>cases xC v.Kind<;>cases v.Bits==0<;>cases v.Text==[]<;>rfl
theorem avx (v:ae)(h:vN v):Gg v=wR v:=by
 have b:∀n:Int,v.Kind=n->G6 n=false->LC v=false:=fun n e k=>by
  unfold LC r4zero;simp only[aF,ay];rw[e,k];rfl
 unfold Gg aj1 wR r22empty;simp only[aF,aT,ay,ae.bJ,auB v h];by_cases k:v.Kind=11
 ·rw[b 11 k rfl,k];cases((v.List.length:Int)==0)<;>rfl
 ·rw[beq_false_of_ne k];by_cases a:v.Kind=12
  ·rw[b 12 a rfl,a];cases((v.Pairs.length:Int)==0)<;>rfl
  ·rw[beq_false_of_ne a];rfl
theorem O9 {l:List Raw}(h:l.length<=1048576):gU (LX l) (fun y=>y=lm l):=by
 have m:∀a b:Raw,ltOf Gs a b=decide (a.Num < b.Num):=fun a b=>I5 a.Num b.Num
 have z:∀y,Aa (ltOf Gs) y->o_ (ltOf Gs) l y->y=lm l:=fun y G I=>by
  have k:=PH l ⟨by omega,fun _ _ _ _=>trivial⟩;exact adg Bi G k.1 (I.symm.trans k.2.1)
 unfold LX;refine bC (fun i y=>Aa (ltOf Gs) y/\o_ (ltOf Gs) (l.take i) y/\y.length=i) ⟨List.Pairwise.nil,o_.refl _,rfl⟩ aj (fun i y L e=> ?_) (fun y e=>af (z y e.1 (by have:=e.2.1;rw[Gv]at this;exact this)));obtain⟨n,v,P⟩:=e;have O:l.take (i+1)=l.take i++[l.getD i zf]:=take_snoc L;rw[O];generalize l.getD i zf=a at*;refine bZ (bg (fun(k:Int)=>0<=k/\k<=y.length/\(∀p∈y.take k.toNat,ltOf Gs a p=false)/\∀s∈y.drop k.toNat,ltOf Gs a s=true) (kQ (fun(x:Int)=>0<=x/\x<=y.length/\∀s∈y.drop x.toNat,ltOf Gs a s=true) (fun x=>x.toNat) ⟨by omega,N8 _,fun s d=>by rw[qA,Qc]at d;cases d⟩ aj fun x H=> ?_) fun k J=> ?_)
 ·obtain⟨B,u,o⟩:=H;refine aU (fun c=>au fun K r=> ?_) (fun c=>af ⟨B,u,fun p A=> ?_,o⟩)
  ·have r:K=x - 1:=by rw[r,bn (k:= .i64) kM]
   subst r;have g:(x - 1).toNat < y.length:=by omega
   have t:x.toNat=(x - 1).toNat+1:=by omega
   refine aH aj aj (ah g (aH aj aj (aU (fun j=>af ⟨⟨by omega,by omega,fun s d=> ?_⟩,by omega⟩) (fun j=>af ⟨B,u,?_,o⟩))))
   ·rw[Qbq g]at d;rcases yw.1 d with q | q
    ·rw[q,m];simp only[List.getD,Qas g,Qdg]at j;exact wz j
    ·exact o s (by rw[t];exact q)
   ·rw[t];exact ah4 Bi n g (by rw[m];exact pO j)
  ·rw[show x.toNat=0 by omega]at A;cases A
 ·obtain⟨D,C,F,E⟩:=J;have Q:(List.take k.toNat y).length+(List.drop k.toNat (List.take y.length y)).length=y.length:=by rw[Qca,Iq,Iq];omega
  refine aH aj aj (ah ⟨D,C,N8 _⟩ (ah (room_of aj aj) (ah ⟨N8 _,D,C⟩ (ah (room_of aj aj) (au fun N f=> ?_)))));have R:N.length=1+(List.drop k.toNat (List.take y.length y)).length:=by rw[f];simp[Qdt]
  rw[Gv]at f;obtain⟨M,w⟩:=aFb Bi F E (by rw[Qa3];exact n);rw[Qa3]at w;refine ah (room_of aj aj) (af ⟨?_,?_,?_⟩)
  ·rw[f];exact M
  ·rw[f];exact(v.app (o_.refl [a])).trans w
  ·rw[uX];omega
def asz:List Raw->List Raw
 | []=>lm []
 | a::l=>lm (a::l)
theorem av1 (l:List Raw):asz l=lm l:=by cases l<;>rfl
theorem aiK (l:List Raw)(h:l.length<=1048576):arj l=asz l:=(O9 h).2.trans (av1 l).symm
theorem ahj (l:List Raw)(h:l.length<=1048576):Is (LX l):=
 (O9 h).1
def apR:bi Z:=E2 [] [jS 3 (bD (fun b=>[s0 4, .slot 3 false [some 316]]) XR),jS 6 (bD (fun b=>Ap) iL),jS 100008 (bD (fun b=>Ap) iL)] (a1 (aLf mQ)) aCf [] func359 1 LX (fun a=>some (a.length<=1048576)) (fun a=>asz a) fun a h=>⟨ahj a h,aiK a h⟩
theorem aaI {v:ae}(h:gV v):vN v:=by
 have b:=((jm v).1 h.1).1.1;have a:=rU h;have d:=lh v;have c:=h.2;exact⟨b.1,b.2,by omega,a.2.2.1,a.2.2.2.1,a.2.1,a.1⟩
theorem av3 (n:Int):∀{l:List Slot},(l.map Slot.Num).Nodup->(l.filter fun s=>s.Num==n).length<=1
 | [],_=>by simp
 | a::l,h=>by
  rw[Qp,List.nodup_cons]at h;have b:=av3 n h.2;cases e:a.Num==n with
  | false=>grind
  | true=>
   simp_all
theorem aB2 {A B:Type}{f:A->Option B}{l:List A}:(l.filterMap f).length<=l.length:=by
 grind
theorem aqv {l:List Slot}(h:l.length<=1048576)(g:(l.map Slot.Num).Nodup):(oQ l).Pairwise (fun a b=>a.Num < b.Num)/\∀x,x∈oQ l ↔ x∈l:=by
 have f:∀a b:Slot,ltOf Gu a b=decide (a.Num < b.Num):=fun a b=>I5 a.Num b.Num
 rw[afo h];obtain⟨b1,d⟩:=Cm Ez l [] List.Pairwise.nil fun y c=>absurd c jQ
 refine⟨b1.imp fun{a b} k=>by grind,fun x=> ?_⟩;rw[d];refine⟨fun k=> ?_,fun k=> .inr ?_⟩
 ·rcases k with k | ⟨u,w,e,_⟩
  ·cases k
  ·rw[e];simp
 ·obtain⟨u,w,e⟩:=List.append_of_mem k;refine⟨u,w,e,fun y c=> ?_⟩
  grind [ag6]
theorem ayR {c:List Op}(h:c.Pairwise fun a b=>a.Num < b.Num):∀{i:Nat} {F:Op->List Slot},(∀o,(F o).length<=1)->((c.take i).flatMap F).length<=i:=by
 intro i F e;clear h;induction c generalizing i with
 | nil=>simp
 | cons a l d=>cases i with
  | zero=>simp
  | succ i=>
   grind
def arQ (j:aC->Int->ae->ae)(qy:aC->Int->ae->Prop)(g:aC->Op->ae->ae)(kG:aC->Op->ae->Prop)(k:aC->Op->ae->ae)(jd:aC->Op->ae->Prop)(p:aC)(prog:Int)(v:ae):Pg ae:=.br (decide (prog < 0)) (.ret (ae.mk 0 0 [] [] [] [] [])) (aL p.Progs (.br (decide ((↑p.Progs.length:Int)<=prog)) (.ret (ae.mk 0 0 [] [] [] [] [])) (.ob (v.Raws.length<=1048576) (.EK [0<=prog/\prog < (↑p.Progs.length:Int)] true mg (p.Progs.getD prog.toNat aO).Ops Gt (fun h c (f:ae)=> .ix prog p.Progs.length (.ix h (p.Progs.getD prog.toNat aO).Ops.length (.each true mg v.Slots gZ (fun e d (b:ae)=> .ix e v.Slots.length (.br (d.Num !=c.Num) (rl b.re) (.ix e v.Slots.length (.ob (kG p c d.Val.re) (.lt (b.Slots++[Slot.mk c.Num (g p c d.Val.re).re]) fun(i:List Slot)=> .br (decide (c.Card < 3)) (.ob (bG (b.Slots.length+1) 136) (rl (ae.mk b.Kind b.Bits b.Text b.List b.Pairs i b.Raws))) (.br (!wR (g p c d.Val.re).re) (.ob (bG (b.Slots.length+1) 136) (rl (ae.mk b.Kind b.Bits b.Text b.List b.Pairs i b.Raws))) (rl b.re))))))) (fun e (b:ae)=> rl b.re) f.re))) (fun h (f:ae)=> .ret f.re) (ae.mk (Int.ofNat (nat_lit 10)) (Int.ofNat (nat_lit 0)) [] [] [] [] (match v.Raws with | []=>lm [] | a::l=>lm (a::l)))))))
def aaY (i:aC->Int->ae->ae)(qy:aC->Int->ae->Prop)(j:aC->Op->ae->ae)(kG:aC->Op->ae->Prop)(d:aC->Op->ae->ae)(jd:aC->Op->ae->Prop)(p:aC)(o:Op)(v:ae):Pg ae:=.br (o.Card==4) (.each true mg v.List jP (fun h (g a:ae)=> .ix h v.List.length (.ob (jd p o g.re) (.ob (bG (a.List.length+1) 128) (rl (ae.mk a.Kind a.Bits a.Text (a.List++[(d p o g.re).re]) a.Pairs a.Slots a.Raws))))) (fun h (a:ae)=> .ret a.re) (ae.mk (Int.ofNat (nat_lit 11)) (Int.ofNat (nat_lit 0)) [] [] [] [] [])) (.br (o.Card==5) (.ob (afq v.Pairs) (.lt (jl v.Pairs) fun f=> .each true mg f dV (fun c e (b:ae)=> .ix c f.length (.ix c f.length (.ob (jd p o e.Val.re) (.ob (bG (b.Pairs.length+1) 256) (rl (ae.mk b.Kind b.Bits b.Text b.List (b.Pairs++[Pair.mk (jU e.Key.re).re (d p o e.Val.re).re]) b.Slots b.Raws)))))) (fun c (b:ae)=> .ret b.re) (ae.mk (Int.ofNat (nat_lit 12)) (Int.ofNat (nat_lit 0)) [] [] [] [] []))) (.ob (jd p o v.re) (.ret (d p o v.re).re)))
def aaq (a:aC->Int->ae->ae)(qy:aC->Int->ae->Prop)(b:aC->Op->ae->ae)(kG:aC->Op->ae->Prop)(c:aC->Op->ae->ae)(jd:aC->Op->ae->Prop)(p:aC)(o:Op)(v:ae):Pg ae:=.br (o.Kind==10) (.ob (qy p o.Target v.re) (.ret (a p o.Target v.re).re)) (.ret (jU v.re).re)
def qy (a:Nat)(p:aC)(prog:Int)(v:ae):Prop:=pG p/\(0<=prog/\prog < p.Progs.length)/\wV p v (p.Progs.getD prog.toNat aO)/\sF 0 a v
def kG (a:Nat)(p:aC)(o:Op)(v:ae):Prop:=pG p/\(1<=o.Card/\o.Card<=5)/\(o.Kind=10->(0<=o.Target/\o.Target < p.Progs.length)/\wE p v (p.Progs.getD o.Target.toNat aO) o.Card)/\sF 2 a v
def jd (a:Nat)(p:aC)(o:Op)(v:ae):Prop:=pG p/\True/\(o.Kind=10->(0<=o.Target/\o.Target < p.Progs.length)/\wV p v (p.Progs.getD o.Target.toNat aO))/\sF 1 a v
def G7:Nat->(aC->Int->ae->ae)×(aC->Op->ae->ae)×(aC->Op->ae->ae)
 | 0=>(fun _ _ _=>default,fun _ _ _=>default,fun _ _ _=>default)
 | a+1=>(fun p prog v=>(arQ ((G7 a).1) (qy a) ((G7 a).2.1) (kG a) ((G7 a).2.2) (jd a) p prog v).val,fun p o v=>(aaY ((G7 a).1) (qy a) ((G7 a).2.1) (kG a) ((G7 a).2.2) (jd a) p o v).val,fun p o v=>(aaq ((G7 a).1) (qy a) ((G7 a).2.1) (kG a) ((G7 a).2.2) (jd a) p o v).val)
def ab5 (p:aC)(prog:Int)(v:ae):ae:=(G7 (3*tV v+0)).1 p prog v
def abT (a:Nat):Prop:=(∀(p:aC) (prog:Int) (v:ae),qy a p prog v->(fun y=>(∀q,rp p q->y=(qY a).1 q prog v)/\wV p y (p.Progs.getD prog.toNat aO)) ((G7 a).1 p prog v))/\(∀(p:aC) (o:Op) (v:ae),kG a p o v->(fun y=>(∀q,rp p q->y=(qY a).2.1 q o v)/\(o.Kind=10->wE p y (p.Progs.getD o.Target.toNat aO) o.Card)) ((G7 a).2.1 p o v))/\(∀(p:aC) (o:Op) (v:ae),jd a p o v->(fun y=>(∀q,rp p q->y=(qY a).2.2 q o v)/\(o.Kind=10->wV p y (p.Progs.getD o.Target.toNat aO))) ((G7 a).2.2 p o v))
abbrev RQ (a:Nat):=arQ ((G7 a).1) (qy a) ((G7 a).2.1) (kG a) ((G7 a).2.2) (jd a)
theorem aag (m:Nat)(ih:abT m)(p:aC)(prog:Int)(v:ae)(h:qy (m+1) p prog v):gU (RQ m p prog v) (fun y=>(∀q,rp p q->y=(qY (m+1)).1 q prog v)/\wV p y (p.Progs.getD prog.toNat aO)):=
 by
 obtain⟨M,w,W,O⟩:=h;have I:p.Progs.getD prog.toNat aO∈p.Progs:=getD_mem aj;have S:=rU O.1;obtain⟨hw1,H,A⟩:=zt.1 W;have C:=M.2.2 _ I;have J:=M.1 _ I;have er:(match v.Raws with | []=>lm [] | a::l=>lm (a::l))=lm v.Raws:=by grind
 have B:∀o∈(p.Progs.getD prog.toNat aO).Ops,∀s∈v.Slots,s.Num=o.Num->kG m p o s.Val:=fun o j s r e=>by
  obtain⟨q,P,q2,q3⟩:=H s r;have Y:q=o:=abR C.1 P j (q2.trans e);subst Y;obtain⟨g1,g2⟩:=RV O.1 r;exact⟨M,(C.2 q P).2,fun E=>⟨(J.2 q P).1 E,q3 E⟩,g1,by have:=O.2;omega⟩
 obtain⟨R,X⟩:=aqv S.2.1 A;have U:=yC m;have L:=fun(o:Op) (j:o∈(p.Progs.getD prog.toNat aO).Ops) (s:Slot) (r:s∈v.Slots) (e:s.Num=o.Num)=>ih.2.1 p o s.Val (B o j s r e)
 have hok:∀(o:Op) (j:o∈(p.Progs.getD prog.toNat aO).Ops) (s:Slot) (r:s∈v.Slots) (e:s.Num=o.Num),vN ((G7 m).2.1 p o s.Val):=fun o j s r e=>by
  rw[(L o j s r e).1 p (HY p)];have k:=U.2.1 p o s.Val (B o j s r e).2.2.2;exact aaI ⟨k.1,by have:=(B o j s r e).2.2.2.1.2;omega⟩
 let f:Op->Slot->Option Slot:=fun o s=>bif decide (o.Card < 3) || !wR ((G7 m).2.1 p o s.Val)then some (Slot.mk o.Num ((G7 m).2.1 p o s.Val))else none
 let F:Op->List Slot:=fun o=>(v.Slots.filter fun s=>s.Num==o.Num).filterMap (f o)
 have Z:∀o,(F o).length<=1:=fun o=>Du aB2 (av3 o.Num A)
 have D:∀q,rp p q->ae.mk 10 0 [] [] [] ((p.Progs.getD prog.toNat aO).Ops.flatMap F) (lm v.Raws)=(qY (m+1)).1 q prog v:=fun q Q=>by
  rw[adp m w.1 (by rw[Q.1];exact w.2),Q.1];congr 1;refine(aFh (num:=Slot.Num) (adb:=Op.Num) R X (List.pairwise_map.1 A) C.1 (fun x t=> ?_) _ f (fun o j x t e=> ?_)).symm
  ·obtain⟨o,o1,o2,_⟩:=H x t
   grind
  ·obtain⟨p1,p2⟩:=ahN (g:=p.Progs.getD prog.toNat aO) (n:=x.Num) (by rw[e];exact afd j);have eo:(pz (p.Progs.getD prog.toNat aO) x.Num).1=o:=abR C.1 p1 j (p2.trans e);have hc:=(C.2 o j).2;show C_ _ q _ x=f o x
   unfold C_
   grind [avx]
 unfold RQ arQ;simp only[ae.bJ];refine aU (fun k=>absurd k aj) fun _=>bZ (aU (fun k=>absurd k aj) fun _=>ah S.1 (Na (fun i y=>y=ae.mk 10 0 [] [] [] (((p.Progs.getD prog.toNat aO).Ops.take i).flatMap F) (lm v.Raws)) (by rw[er];rfl) ⟨w,trivial⟩ aj (fun i y hi G=> ?_) (fun y G=>af ?_)))
 ·have j:=getD_mem (d:=Gt) hi;have et:(((p.Progs.getD prog.toNat aO).Ops.take (i+1)).flatMap F)=(((p.Progs.getD prog.toNat aO).Ops.take i).flatMap F)++F ((p.Progs.getD prog.toNat aO).Ops.getD i Gt):=by
   grind [take_snoc]
  have hlen:(((p.Progs.getD prog.toNat aO).Ops.take i).flatMap F).length<=i:=ayR C.1 Z;generalize ((p.Progs.getD prog.toNat aO).Ops.take i).flatMap F=u at*;rw[et];generalize (p.Progs.getD prog.toNat aO).Ops.getD i Gt=o at*;subst G;have hil:=J.1;refine aH w.1 w.2 (aH aj aj (bC (fun k y=>y=ae.mk 10 0 [] [] [] (u++((v.Slots.take k).filter fun s=>s.Num==o.Num).filterMap (f o)) (lm v.Raws)) dm aj (fun k y E V=> ?_) (fun y V=>af ?_)))
  ·have r:=getD_mem (d:=gZ) E;have ek:v.Slots.take (k+1)=v.Slots.take k++[v.Slots.getD k gZ]:=take_snoc E;have hk1:(((v.Slots.take k).filter fun s=>s.Num==o.Num).filterMap (f o)).length<=1:=Du aB2 (av3 o.Num (A.sublist ((List.take_sublist k _).map _)));rw[ek,Qco,List.filterMap_append];generalize (List.filterMap (f o) (List.filter (fun s=>s.Num==o.Num) (List.take k v.Slots)))=z at*;generalize v.Slots.getD k gZ=s at*;subst V;have skip:s.Num≠o.Num->ae.mk 10 0 [] [] [] (u++z) (lm v.Raws)=ae.mk 10 0 [] [] [] (u++(z++List.filterMap (f o) (List.filter (fun s=>s.Num==o.Num) [s]))) (lm v.Raws):=fun e=>by
    grind
   refine aH aj aj (bu (fun e=>af (skip e)) (fun e=>aH aj aj (ah (B o j s r e) (au fun v7 e7=> ?_))));have ef:List.filterMap (f o) (List.filter (fun s=>s.Num==o.Num) [s])=(f o s).toList:=by
    grind
   have K:(decide (o.Card < 3) || !wR ((G7 m).2.1 p o s.Val))=true->ae.mk 10 0 [] [] [] v7 (lm v.Raws)=ae.mk 10 0 [] [] [] (u++(z++List.filterMap (f o) (List.filter (fun s=>s.Num==o.Num) [s]))) (lm v.Raws):=fun c=>by
    rw[ef,e7];simp only[f,c,cond_true,Qd7];rw[<-Yt];rfl
   have T:bG ((u++z).length+1) 136:=by
    rw[uX];exact room_of aj aj
   refine aU (fun c=>ah T (af (K dm))) (fun c=>bH (fun c2=>ah T (af (K dm))) (fun c2=>af ?_))
   grind
  grind
 ·rw[Gv]at G;rw[G];refine⟨D,zt.2 ⟨rfl,fun x t=> ?_,?_⟩⟩
  ·obtain⟨o,j,t⟩:=Qa1.1 t;obtain⟨s,r,e⟩:=Qc6.1 t;obtain⟨r,N⟩:=Qbb.1 r;have N:=eq_of_beq N;simp only[f]at e;cases c:(decide (o.Card < 3) || !wR ((G7 m).2.1 p o s.Val))with
   | false=>grind
   | true=>
    rw[c]at e;injection e with e
    rw[<-e];exact⟨o,j,rfl,(L o j s r N).2⟩
  ·have k:=D p (HY p);rw[adp m w.1 w.2]at k;injection k with _ _ _ _ _ k _
   show(List.map Slot.Num ((p.Progs.getD prog.toNat aO).Ops.flatMap F)).Nodup
   rw[k];refine List.pairwise_map.2 (List.pairwise_filterMap.2 (R.imp fun{a b} hab x t y hy=> ?_));have n1:∀{a x},C_ (qY m).2.1 p (p.Progs.getD prog.toNat aO) a=some x->x.Num=a.Num:=fun{a x} t=>by
    unfold C_ at t;revert t;cases((pz (p.Progs.getD prog.toNat aO) a.Num).1.Card==3 || (pz (p.Progs.getD prog.toNat aO) a.Num).1.Card==4 || (pz (p.Progs.getD prog.toNat aO) a.Num).1.Card==5) && Gg ((qY m).2.1 p (pz (p.Progs.getD prog.toNat aO) a.Num).1 a.Val)with
    | true=>grind
    | false=>intro t;injection t with t;rw[<-t];rfl
   grind
abbrev EW (a:Nat):=aaY ((G7 a).1) (qy a) ((G7 a).2.1) (kG a) ((G7 a).2.2) (jd a)
theorem PZ (b:Nat)(m:abT b)(p:aC)(o:Op)(v:ae)(h:kG (b+1) p o v):gU (EW b p o v) (fun y=>(∀q,rp p q->y=(qY (b+1)).2.1 q o v)/\(o.Kind=10->wE p y (p.Progs.getD o.Target.toNat aO) o.Card)):=
 by
 obtain⟨B,K,t,j⟩:=h;have A:=rU j.1;(first | unfold EW aaY | unfold aaY);simp only[ae.bJ];refine bI (fun r=> ?_) (fun r=>bI (fun u=> ?_) (fun u=> ?_))
 ·have f:∀x∈v.List,jd b p o x:=fun x a=>by
   obtain⟨i,l,e⟩:=uH (d:=jP) a;refine⟨B,trivial,fun c=>⟨(t c).1,?_⟩,by rw[<-e];exact aso j l⟩
   grind [uj]
  refine bC (fun i y=>y=ae.mk 11 0 [] ((v.List.take i).map ((G7 b).2.2 p o)) [] [] []) rfl aj (fun i y l g=> ?_) (fun y g=>af ?_)
  ·subst g;have a:=getD_mem (d:=jP) l;refine aH aj aj (ah (f _ a) (ah (room_of (by show(List.map _ _).length+1<=_;grind) (by show((List.map _ _).length+1)*128<=_;grind)) (af ?_)));show _=_
   rw[fZ (d:=jP) l];rfl
  ·rw[Gv]at g;subst g;refine⟨fun q n=> ?_,fun c=>uj.2 ⟨fun _=>⟨rfl,rfl,fun x a=> ?_⟩,fun k=>absurd (r.symm.trans k) dH,fun k=>absurd r k⟩⟩
   ·rw[ai7 b r];congr 1;exact Qbl fun x a=>(m.2.2 p o x (f x a)).1 q n
   ·obtain⟨z,w,e⟩:=QH.1 a;rw[<-e];exact(m.2.2 p o z (f z w)).2 c
 ·have D:afq v.Pairs:=⟨A.2.2.2,fun x a=>((jm _).1 (aiF j.1 a)).1.1⟩;have f:∀x∈v.Pairs,jd b p o x.Val:=fun x a=>by
   obtain⟨F,H,_⟩:=FT j.1 a;refine⟨B,trivial,fun c=>⟨(t c).1,?_⟩,F,by have:=j.2;omega⟩
   grind [uj]
  refine ah D (au fun C E=> ?_);have s:∀x∈C,x∈v.Pairs:=fun x a=>BC A.2.2.2 dm
  have G:=uk A.2.2.2 E;refine bC (fun i y=>y=ae.mk 12 0 [] [] ((C.take i).map fun x=>Pair.mk (jU x.Key) ((G7 b).2.2 p o x.Val)) [] []) rfl aj (fun i y l g=> ?_) (fun y g=>af ?_)
  ·subst g;have a:=getD_mem (d:=dV) l;refine aH aj aj (aH aj aj (ah (f _ (s _ a)) (ah (room_of (by show(List.map _ _).length+1<=_;grind) (by show((List.map _ _).length+1)*256<=_;grind)) (af ?_))));show _=_
   rw[fZ (d:=dV) l];rfl
  ·rw[Gv]at g;subst g;refine⟨fun q n=> ?_,fun c=>by
    rw[u];refine aus fun x a=> ?_;obtain⟨z,w,e⟩:=QH.1 a;rw[<-e];exact(m.2.2 p o z.Val (f z (s z w))).2 c⟩
   rw[aqn b u,<-E];congr 1;refine Qbl fun x a=> ?_;obtain⟨_,_,_,I⟩:=FT j.1 (s x a);rw[(m.2.2 p o x.Val (f x (s x a))).1 q n,Q9 _ (aaI ⟨aiF j.1 (s x a),by have:=j.1.2;omega⟩)]
 ·have f:jd b p o v:=⟨B,trivial,fun c=>⟨(t c).1,(uj.1 (t c).2).2.2 r u⟩,yK j⟩;obtain⟨L,J⟩:=m.2.2 p o v f
  grind [aoq,uj,ah,af]
abbrev FC (a:Nat):=aaq ((G7 a).1) (qy a) ((G7 a).2.1) (kG a) ((G7 a).2.2) (jd a)
theorem OY (a:Nat)(f:abT a)(p:aC)(o:Op)(v:ae)(h:jd (a+1) p o v):gU (FC a p o v) (fun y=>(∀q,rp p q->y=(qY (a+1)).2.2 q o v)/\(o.Kind=10->wV p y (p.Progs.getD o.Target.toNat aO))):=
 by
 obtain⟨g,_,c,d⟩:=h;(first | unfold FC aaq | unfold aaq);simp only[ae.bJ];refine bI (fun b=> ?_) (fun b=>af ⟨fun q e=> ?_,fun k=>absurd k b⟩)
 ·have e:qy a p o.Target v:=⟨g,(c b).1,(c b).2,yK d⟩;obtain⟨j,i⟩:=f.1 p o.Target v e
  grind [Zx,ah,af]
 ·rw[Zx,beq_false_of_ne b,lL];exact(Q9 _ (aaI d.1)).symm
theorem Bd:∀a,abT a
 | 0=>⟨fun p prog v h=>False.elim (vF h.2.2.2),
  fun p o v h=>False.elim (vF h.2.2.2),
  fun p o v h=>False.elim (vF h.2.2.2)⟩
 | a+1=>⟨fun p prog v h=>(aag a (Bd a) p prog v h).2,
  fun p o v h=>(PZ a (Bd a) p o v h).2,
  fun p o v h=>(OY a (Bd a) p o v h).2⟩
theorem au8 (a:Nat)(p:aC)(prog:Int)(v:ae)(h:qy (a+1) p prog v):Is (RQ a p prog v):=(aag a (Bd a) p prog v h).1
theorem aho (a:Nat)(p:aC)(o:Op)(v:ae)(h:kG (a+1) p o v):Is (EW a p o v):=(PZ a (Bd a) p o v h).1
theorem ahE (a:Nat)(p:aC)(o:Op)(v:ae)(h:jd (a+1) p o v):Is (FC a p o v):=(OY a (Bd a) p o v h).1
theorem adH (p:aC)(prog:Int)(v:ae)(h:pG p/\(0<=prog/\prog < p.Progs.length)/\wV p v (p.Progs.getD prog.toNat aO)/\gV v):(fun y=>(∀q,rp p q->y=(qY (3*tV v+0)).1 q prog v)/\wV p y (p.Progs.getD prog.toNat aO)) (ab5 p prog v):=(Bd (3*tV v+0)).1 p prog v (⟨h.1,h.2.1,h.2.2.1,h.2.2.2,pJ _⟩)
theorem aCC:∀b,CtOk Z.P Z.S 270 (qQ (args (aCons (aAgg cd_Plan) (aCons (aLf cI) (a1 (aAgg cd_AVal))))) (shr [.slot 0 true (nn 7)] (l1 cd_AVal)) 1 [] (fun a=>some (qy b (a.1) (a.2.1) (a.2.2))) (fun a=>(G7 b).1 (a.1) (a.2.1) (a.2.2)))/\CtOk Z.P Z.S 360 (qQ (args (aCons (aAgg cd_Plan) (aCons (aAgg cd_Op) (a1 (aAgg cd_AVal))))) (shr [.slot 0 true (nn 7)] (l1 cd_AVal)) 1 [] (fun a=>some (kG b (a.1) (a.2.1) (a.2.2))) (fun a=>(G7 b).2.1 (a.1) (a.2.1) (a.2.2)))/\CtOk Z.P Z.S 472 (qQ (args (aCons (aAgg cd_Plan) (aCons (aAgg cd_Op) (a1 (aAgg cd_AVal))))) (shr [.slot 0 true (nn 7)] (l1 cd_AVal)) 1 [] (fun a=>some (jd b (a.1) (a.2.1) (a.2.2))) (fun a=>(G7 b).2.2 (a.1) (a.2.1) (a.2.2)))
 | 0=>⟨iy func270 dM (fun a h=>vF h.2.2.2),
  iy func360 dM (fun a h=>vF h.2.2.2),
  iy func472 dM (fun a h=>vF h.2.2.2)⟩
 | b+1=>by
  obtain⟨f,d,g⟩:=aCC b;exact⟨Rk [apR,ai0,⟨270,_,f⟩,⟨360,_,d⟩,⟨472,_,g⟩] [jS 5 (bD (fun c=>[s0 8, .cells (pid (c 7)) [none,none,none,none,none,some 309,some 316]]) (aJ cI (l1 cd_AVal))),jS 9 (bD (fun c=>[s0 10, .cells (pid (c 7)) [none,none,none,none,none,some 309,some 316]]) (aJ cI (l1 cd_AVal))),jS 800003 (bD (fun c=>[.cells (pid (c 7)) [none,none,none,none,none,some 309,some 316]]) (l1 cd_AVal))] func270 ntmps270 (fun a=>RQ b a.1 a.2.1 a.2.2) (fun a h=>⟨au8 b a.1 a.2.1 a.2.2 h,rfl⟩) (l_ (n:=89) rfl),
   Rk [JS,Wn,⟨270,_,f⟩,⟨360,_,d⟩,⟨472,_,g⟩] [jS 5 (bD (fun c=>[s0 8, .cells (pid (c 7)) [none,none,none,some 73,none,none,none]]) (aJ cI (l1 cd_AVal))),jS 13 (bD (fun c=>[s0 11, .cells (pid (c 9)) [none,none,none,none,some 341,none,none]]) (aJ cI (l1 cd_AVal))),jS 800003 (bD (fun c=>[.cells (pid (c 7)) [none,none,none,some 73,none,none,none]]) (l1 cd_AVal)),jS 800010 (bD (fun c=>[.cells (pid (c 9)) [none,none,none,none,some 341,none,none]]) (l1 cd_AVal))] func360 ntmps360 (fun a=>EW b a.1 a.2.1 a.2.2) (fun a h=>⟨aho b a.1 a.2.1 a.2.2 h,rfl⟩) (l_ (n:=75) rfl),
   Rk [JS,⟨270,_,f⟩,⟨360,_,d⟩,⟨472,_,g⟩] [] func472 ntmps472 (fun a=>FC b a.1 a.2.1 a.2.2) (fun a h=>⟨ahE b a.1 a.2.1 a.2.2 h,rfl⟩) (l_ (n:=17) rfl)⟩
def ax1:bi Z:=⟨270,qQ (args aAk) hh12 1 [] (fun a=>some (pG (a.1)/\(0<=(a.2.1)/\(a.2.1) < (a.1).Progs.length)/\wV (a.1) (a.2.2) ((a.1).Progs.getD (a.2.1).toNat aO)/\gV (a.2.2))) (fun a=>ab5 (a.1) (a.2.1) (a.2.2)),oh (fun n=>((aCC n).1)) _ _ (fun a h=>⟨3*tV (a.2.2)+0,⟨h.1,h.2.1,h.2.2.1,h.2.2.2,pJ _⟩,rfl⟩)⟩
theorem MK (v:ae):uB v=bif v.Kind==11 then v.List else bif v.Kind==12 then v.Pairs.map Pair.Val else[v]:=by
 have k:VP (tElems v) (fun r=>r=bif v.Kind==11 then v.List else bif v.Kind==12 then v.Pairs.map Pair.Val else[v]):=by
  unfold tElems;simp only[ae.bJ];refine dI (fun c=>aI (by rw[c];rfl)) (fun c=>dI (fun b=>iG (gB (fun i y=>y=(v.Pairs.take i).map Pair.Val) rfl (fun i y e a=>iY (bf (aI ?_))) (fun y a=>aI ?_))) (fun b=> ?_))
  ·show _=_
   rw[a,fZ (d:=dV) e]
  ·rw[Gv]at a;rw[c,b,a];rfl
  ·rw[c,b];repeat' first
    | exact aI rfl
    | refine bf ?_
    | (refine dG fun _ _=> ?_;subst_vars)
 exact k
theorem amD {A:Type}(l:List A)(C:A->Bool):(!l.all C)=l.any fun x=> !C x:=by
 grind
theorem azT {A:Type}{l:List A}{B:A->Bool}{d:A}{i:Nat}(a:i < l.length)(h:B (l.getD i d)=true):l.any B=true:=Qbs.2 ⟨_,getD_mem a,h⟩
theorem Tf {A:Type}{l:List A}{B:A->Bool}{d:A}(h:∀j,j < l.length->B (l.getD j d)=false):l.any B=false:=by
 refine List.any_eq_false.2 fun x a=> ?_;obtain⟨i,b,e⟩:=uH (d:=d) a
 grind
def ajW (f:aC->Int->ae->Bool)(qm:aC->Int->ae->Prop)(c:aC->Op->ae->Bool)(iP:aC->Op->ae->Prop)(p:aC)(prog:Int)(v:ae):Pg Bool:=.EK [0<=prog/\prog < (↑p.Progs.length:Int)] true yc (p.Progs.getD prog.toNat aO).Ops Gt (fun d b (e:Unit)=> .ix prog p.Progs.length (.ix d (p.Progs.getD prog.toNat aO).Ops.length (.lt (Bg v.re b.Num) fun a=> .br (!a.2) (.br (b.Card==1) (.ret (.inr true)) (.br a.2 (.ob (iP p b a.1.re) (.br (c p b a.1.re) (.ret (.inr true)) (rl ()))) (rl ()))) (.br a.2 (.ob (iP p b a.1.re) (.br (c p b a.1.re) (.ret (.inr true)) (rl ()))) (rl ()))))) (fun d (e:Unit)=> .ret false) ()
def TK (e:aC->Int->ae->Bool)(qm:aC->Int->ae->Prop)(a:aC->Op->ae->Bool)(iP:aC->Op->ae->Prop)(p:aC)(o:Op)(v:ae):Pg Bool:=.br (o.Kind !=10) (.ret false) (.br (v.Kind==10) (.ob (qm p o.Target v.re) (.ret (e p o.Target v.re))) (.cut (fun(i:Unit)=> .each true yc v.Pairs dV (fun c d (g:Unit)=> .ix c v.Pairs.length (.ob (iP p o d.Val.re) (.br (a p o d.Val.re) (.ret (.inr true)) (rl ())))) (fun c (g:Unit)=> .ret false) ()) (.each true yc v.List jP (fun f b (h:Unit)=> .ix f v.List.length (.ob (iP p o b.re) (.br (a p o b.re) (.ret (.inr (.inr true))) (rl ())))) (fun f (h:Unit)=> rl ()) ())))
def qm (a:Nat)(p:aC)(prog:Int)(v:ae):Prop:=pG p/\(0<=prog/\prog < p.Progs.length)/\(wV p v (p.Progs.getD prog.toNat aO)/\gV v)/\2*tV v<=a
def iP (b:Nat)(p:aC)(o:Op)(v:ae):Prop:=pG p/\True/\((o.Kind=10->(0<=o.Target/\o.Target < p.Progs.length)/\∃a,wE p v (p.Progs.getD o.Target.toNat aO) a)/\gV v)/\2*tV v+1<=b
def XZ:Nat->(aC->Int->ae->Bool)×(aC->Op->ae->Bool)
 | 0=>(fun _ _ _=>default,fun _ _ _=>default)
 | a+1=>(fun p prog v=>(ajW ((XZ a).1) (qm a) ((XZ a).2) (iP a) p prog v).val,fun p o v=>(TK ((XZ a).1) (qm a) ((XZ a).2) (iP a) p o v).val)
def Rf (p:aC)(prog:Int)(v:ae):Bool:=(XZ (2*tV v+0)).1 p prog v
def akc (a:Nat):Prop:=(∀(p:aC) (prog:Int) (v:ae),qm a p prog v->(fun y=>∀q k,rp p q->tV v<=k->y= !(YX k) q prog v) ((XZ a).1 p prog v))/\(∀(p:aC) (o:Op) (v:ae),iP a p o v->(fun y=>∀q k,rp p q->tV v<=k->y=bif o.Kind==10 then !(uB v).all ((YX k) q o.Target)else false) ((XZ a).2 p o v))
abbrev Jc (a:Nat):=ajW ((XZ a).1) (qm a) ((XZ a).2) (iP a)
theorem V3 (a:Nat)(C:akc a)(p:aC)(prog:Int)(v:ae)(h:qm (a+1) p prog v):gU (Jc a p prog v) (fun y=>∀q k,rp p q->tV v<=k->y= !(YX k) q prog v):=
 by
 obtain⟨m,r,⟨A,D⟩,K⟩:=h;have g:p.Progs.getD prog.toNat aO∈p.Progs:=getD_mem aj;have u:=m.1 _ g;have hops:=(m.2.2 _ g).1;have E:∀o∈(p.Progs.getD prog.toNat aO).Ops,(tFindP v o.Num).2=true->iP a p o (tFindP v o.Num).1/\tV (tFindP v o.Num).1 < tV v:=fun o f e=>by
  rcases uM v o.Num with⟨_,s,F,H,z⟩ | ⟨M,_⟩
  ·obtain⟨x,t⟩:=RV D F;rw[z]at x t;exact⟨⟨m,trivial,⟨fun b=>⟨(u.2 o f).1 b,o.Card,ab3 A hops f b e⟩,x⟩,by omega⟩,t⟩
  grind
 let B:Op->Bool:=fun o=>bif (tFindP v o.Num).2 then(XZ a).2 p o (tFindP v o.Num).1 else o.Card==1
 have l:∀q k,rp p q->tV v<=k->(p.Progs.getD prog.toNat aO).Ops.any B= !(YX k) q prog v:=fun q k d b=>by
  obtain⟨k,rfl⟩:∃n,k=n+1:=⟨k - 1,by have:=BD v;omega⟩;rw[abz,d.1,amD];rw[Qc9,Qbs,Qbs];have e:∀o∈(p.Progs.getD prog.toNat aO).Ops,B o= !(bif (tFindP v o.Num).2 then(o.Kind !=10 || (uB (tFindP v o.Num).1).all ((YX k) q o.Target))else o.Card !=1):=fun o f=>by
   simp only[B];cases c:(tFindP v o.Num).2 with
   | false=>grind
   | true=>
    obtain⟨a1,a2⟩:=E o f c;simp only[cond_true];rw[C.2 p o _ a1 q k d aj]
    grind
  grind
 unfold Jc ajW;simp only[ae.bJ];refine Na (fun i _=>∀j,j < i->B ((p.Progs.getD prog.toNat aO).Ops.getD j Gt)=false) (fun j G=>absurd G aj) ⟨r,trivial⟩ aj (fun i _ L w=>aH r.1 r.2 (aH aj aj (au fun J I=> ?_))) (fun _ w=>af fun q k d b=> ?_)
 ·grind [azT,sS,getD_mem,bH,ah,af]
 ·rw[<-l q k d b,Tf w]
abbrev CJ (a:Nat):=TK ((XZ a).1) (qm a) ((XZ a).2) (iP a)
theorem KC (a:Nat)(A:akc a)(p:aC)(o:Op)(v:ae)(h:iP (a+1) p o v):gU (CJ a p o v) (fun y=>∀q k,rp p q->tV v<=k->y=bif o.Kind==10 then !(uB v).all ((YX k) q o.Target)else false):=
 by
 obtain⟨C,_,⟨K,l⟩,Q⟩:=h;have N:=rU l;(first | unfold CJ TK | unfold TK);simp only[ae.bJ];refine bu (fun s=>af fun q k d b=>by grind) (fun s=> ?_);obtain⟨I,n,H⟩:=K s;rw[uj]at H;rw[show(o.Kind==10)=true from beq_iff_eq.2 s];simp only[cond_true];refine bI (fun G=> ?_) (fun G=> ?_)
 ·have F:wV p v (p.Progs.getD o.Target.toNat aO):=H.2.2 (fun e=>by omega) (fun e=>by omega);have g:qm a p o.Target v:=⟨C,I,⟨F,l⟩,by omega⟩;refine ah g (af fun q k d b=> ?_);rw[A.1 p o.Target v g q k d b,MK,G];simp
 ·have R:n=4\/n=5:=by
   grind [zt]
  have D:∀x,gV x->tV x < tV v->wV p x (p.Progs.getD o.Target.toNat aO)->iP a p o x/\∀q k,rp p q->tV v<=k->(XZ a).2 p o x= !(YX k) q o.Target x:=fun x O P w=>by
   have g:iP a p o x:=⟨C,trivial,⟨fun _=>⟨I,0,uj.2 ⟨fun e=>absurd e dH,fun e=>absurd e dH,fun _ _=>w⟩⟩,O⟩,by omega⟩;refine⟨g,fun q k d b=> ?_⟩;rw[A.2 p o x g q k d aj,MK,(zt.1 w).1,beq_iff_eq.2 s];simp
  have E:∀x∈v.List,wV p x (p.Progs.getD o.Target.toNat aO):=fun x f=>by
   grind
  have J:∀x∈v.Pairs,wV p x.Val (p.Progs.getD o.Target.toNat aO):=fun x f=>by
   grind
  have L:=fun(x:ae) (f:x∈v.List)=>D x (Rz l f).1 (Rz l f).2 (E x f)
  have z:=fun(x:Pair) (f:x∈v.Pairs)=>D x.Val (FT l f).1 (FT l f).2.1 (J x f)
  have t:∀q k,rp p q->tV v<=k->(!(uB v).all ((YX k) q o.Target))=(v.List.any ((XZ a).2 p o) || v.Pairs.any fun x=>(XZ a).2 p o x.Val):=fun q k d b=>by
   grind [MK,amD]
  refine bg (fun _=>v.List.any ((XZ a).2 p o)=false) (bC (fun i _=>∀j,j < i->(XZ a).2 p o (v.List.getD j jP)=false) (fun j r=>absurd r aj) aj (fun i _ u m=>aH aj aj (ah (L _ (getD_mem u)).1 (bH (fun c=>af fun q k d b=> ?_) (fun c=>af fun j r=> ?_)))) (fun _ m=>af (Tf m))) fun _ M=>bC (fun i _=>∀j,j < i->(XZ a).2 p o (v.Pairs.getD j dV).Val=false) (fun j r=>absurd r aj) (by have:=N.2.2.2.1;omega) (fun i _ u m=>aH aj aj (ah (z _ (getD_mem u)).1 (bH (fun c=>af fun q k d b=> ?_) (fun c=>af fun j r=> ?_)))) (fun _ m=>af fun q k d b=> ?_)
  ·grind
  ·grind
  ·grind
  ·grind
  ·rw[t q k d b,M,Tf (B:=fun x:Pair=>(XZ a).2 p o x.Val) m];rfl
theorem KW:∀a,akc a
 | 0=>⟨fun p prog v h=>False.elim (by have k:=h.2.2.2;have:=BD v;omega),
  fun p o v h=>False.elim (by have k:=h.2.2.2;omega)⟩
 | a+1=>⟨fun p prog v h=>(V3 a (KW a) p prog v h).2,
  fun p o v h=>(KC a (KW a) p o v h).2⟩
theorem ap_ (a:Nat)(p:aC)(prog:Int)(v:ae)(h:qm (a+1) p prog v):Is (Jc a p prog v):=(V3 a (KW a) p prog v h).1
theorem adJ (a:Nat)(p:aC)(o:Op)(v:ae)(h:iP (a+1) p o v):Is (CJ a p o v):=(KC a (KW a) p o v h).1
theorem abO (p:aC)(prog:Int)(v:ae)(h:pG p/\(0<=prog/\prog < p.Progs.length)/\(wV p v (p.Progs.getD prog.toNat aO)/\gV v)):(fun y=>∀q k,rp p q->tV v<=k->y= !(YX k) q prog v) (Rf p prog v):=(KW (2*tV v+0)).1 p prog v (⟨h.1,h.2.1,h.2.2,pJ _⟩)
theorem aBA:∀b,CtOk Z.P Z.S 205 (qQ (args (aCons (aAgg cd_Plan) (aCons (aLf cI) (a1 (aAgg cd_AVal))))) (R1 cBool) 1 [] (fun a=>some (qm b (a.1) (a.2.1) (a.2.2))) (fun a=>(XZ b).1 (a.1) (a.2.1) (a.2.2)))/\CtOk Z.P Z.S 272 (qQ (args (aCons (aAgg cd_Plan) (aCons (aAgg cd_Op) (a1 (aAgg cd_AVal))))) (R1 cBool) 1 [] (fun a=>some (iP b (a.1) (a.2.1) (a.2.2))) (fun a=>(XZ b).2 (a.1) (a.2.1) (a.2.2)))
 | 0=>⟨iy func205 dM (fun a h=>by have k:=h.2.2.2;have:=BD (a.2.2);omega),
  iy func272 dM (fun a h=>by have k:=h.2.2.2;omega)⟩
 | b+1=>by
  obtain⟨f,d⟩:=aBA b;exact⟨Rk [AQ,⟨205,_,f⟩,⟨272,_,d⟩] [jS 2 (bD (fun c=>[s0 7]) (l1 cI))] func205 ntmps205 (fun a=>Jc b a.1 a.2.1 a.2.2) (fun a h=>⟨ap_ b a.1 a.2.1 a.2.2 h,rfl⟩) (l_ (n:=54) rfl),
   Rk [⟨205,_,f⟩,⟨272,_,d⟩] [jS 6 (bD (fun c=>[s0 7]) (l1 cI)),jS 11 (bD (fun c=>[s0 8]) (l1 cI)),jS 100010 (bD (fun c=>[]) l0)] func272 ntmps272 (fun a=>CJ b a.1 a.2.1 a.2.2) (fun a h=>⟨adJ b a.1 a.2.1 a.2.2 h,rfl⟩) (l_ (n:=51) rfl)⟩
def avZ:bi Z:=⟨205,qQ (args aAk) hh2 1 [] (fun a=>some (pG (a.1)/\(0<=(a.2.1)/\(a.2.1) < (a.1).Progs.length)/\(wV (a.1) (a.2.2) ((a.1).Progs.getD (a.2.1).toNat aO)/\gV (a.2.2)))) (fun a=>Rf (a.1) (a.2.1) (a.2.2)),oh (fun n=>((aBA n).1)) _ _ (fun a h=>⟨2*tV (a.2.2)+0,⟨h.1,h.2.1,h.2.2,pJ _⟩,rfl⟩)⟩
end
end Go.Proofs.YtenjnekcoapajaaGreatDoor
