/- Server: merging. -/
import Derived.Test.YtebmficbjhcohaaGreatDoorP5
namespace Go.Proofs.YtebmficbjhcohaaGreatDoor
noncomputable section
open Go.RowKit Go.Vc
open Tryz
set_option linter.unusedVariables false
set_option linter.unusedSimpArgs false
set_option maxRecDepth 100000
theorem aEQ {s:aH}{a:Str}(h:okS s):(Lj s a).1.Fields.length<=1048576:=by
 have k:VP (fsM s.Messages a) (fun r=>r.1.Fields.length<=1048576):=by
  unfold fsM;exact CO (yh (fun _ _=>True) trivial (fun k y b _=>D9 (jK (fun _=>di (h.2.2.2.1 _ (getD_mem (d:=f_) b)).1) fun _=>di trivial)) fun y _=>di (vP _))
 exact k
theorem al5 (l:List Slot)(n:Int):Vf l n < l.length:=by
 unfold Vf abx;rw[bu];exact(oM _ _).1
theorem acF {A:Type}{f:A->Nat}{d r:A}:∀{l:List A} {i:Nat},i < l.length->kD f (l.set i r)+f (l.getD i d)=kD f l+f r
 | a::l,0,_=>by
  show f r+kD f l+f a=f a+kD f l+f r
  omega
 | a::l,i+1,hi=>by
  have:=acF (f:=f) (d:=d) (r:=r) (l:=l) (i:=i) qct;show f a+kD f (l.set i r)+f (l.getD i d)=f a+kD f l+f r
  omega
theorem aIU {a b:List af}(h:a.length+b.length<=2097152):([a,b].flatten.length<=2097152/\(2:Nat)<=2097152)/\aAD [a,b]=a++b:=by
 have q:[a,b].flatten.length<=2097152/\(2:Nat)<=2097152:=⟨by simp only[List.flatten_cons,List.flatten_nil,Qd1,qO];omega,by decide⟩;exact⟨q,((adL [a,b] q).2).trans oI⟩
theorem aIH {a b:List Pair}(h:a.length+b.length<=2097152):([a,b].flatten.length<=2097152/\(2:Nat)<=2097152)/\aBF [a,b]=a++b:=by
 have q:[a,b].flatten.length<=2097152/\(2:Nat)<=2097152:=⟨by simp only[List.flatten_cons,List.flatten_nil,Qd1,qO];omega,by decide⟩;exact⟨q,((adr [a,b] q).2).trans oI⟩
theorem arU (k b:Int)(t:Str)(l:List af)(p:List Pair)(a:List Slot)(r:List Raw):tV (af.mk k b t l p a r)=1+t.length+tVs l+tPs p+tSs a+WI r:=iV _
theorem auy {A:Type}{P:A->Prop}{r:A}{l:List A}{i:Nat}(h:∀x∈l,P x)(c:P r):∀x∈l.set i r,P x:=fun x b=>by
 rcases List.mem_or_eq_of_mem_set b with a | rfl
 ·exact h x a
 ·exact c
theorem akJ:lK 0:=⟨by decide,by decide⟩
theorem aCY {y:List Slot}{i:Nat}{n:Int}{r:af}{B:Nat}(a:i < y.length)(b:tV r<=tV (y.getD i bP).Val+B):kD tS (y.set i (Slot.mk n r))<=kD tS y+B:=by
 have e:=acF (f:=tS) (d:=bP) (r:=Slot.mk n r) a;rw[Ai,Ai]at e;have e:kD tS (y.set i (Slot.mk n r))+(1+tV (y.getD i bP).Val)=kD tS y+(1+tV r):=e;omega
def aur (e:aH->aP->af->af->af)(wX:aH->aP->af->af->Prop)(d:aH->Str->af->af->af)(rW:aH->Str->af->af->Prop)(s:aH)(f:aP)(a:af)(b:af):Pg af:=.br (f.Card==4) (.ob ([a.List,b.List].flatten.length<=2097152/\2<=2097152) (.ret (af.mk 11 0 [] (aAD [a.List,b.List]) [] [] []))) (.br (f.Card==5) (.ob ([a.Pairs,b.Pairs].flatten.length<=2097152/\2<=2097152) (.lt (aBF [a.Pairs,b.Pairs]) fun c=> .ob (nV c) (.ret (af.mk 12 0 [] [] (nX c) [] [])))) (.br (f.dS.Kind==10) (.ob (rW s f.dS.Name a.re b.re) (.ret (d s f.dS.Name a.re b.re).re)) (.ret b.re)))
def ahF (k:aH->aP->af->af->af)(wX:aH->aP->af->af->Prop)(m:aH->Str->af->af->af)(rW:aH->Str->af->af->Prop)(s:aH)(h:Str)(a:af)(b:af):Pg af:=.ob ((↑a.Slots.length:Int)=(↑a.Slots.length:Int)/\ 0<=(↑a.Slots.length:Int)/\(↑a.Slots.length:Int)*(136:Int)<=281474976710656/\(↑a.Slots.length:Int)<=1099511627776) (aL a.Slots (.lt (List.take (min a.Slots.length (List.replicate a.Slots.length (Slot.mk 0 (af.mk 0 0 [] [] [] [] []))).length) a.Slots++ List.drop (min a.Slots.length (List.replicate a.Slots.length (Slot.mk 0 (af.mk 0 0 [] [] [] [] []))).length) (List.take (List.replicate a.Slots.length (Slot.mk 0 (af.mk 0 0 [] [] [] [] []))).length (List.replicate a.Slots.length (Slot.mk 0 (af.mk 0 0 [] [] [] [] []))))) fun i=> .lt (Lj s h) fun g=> .ob (g.1.Fields.length<=1048576/\i.length<=1048576) (aL b.Slots (.each false oG b.Slots bP (fun j f (d:List Slot)=> .ix j b.Slots.length (.lt (Vf d f.Num) fun e=> .br (decide (0<=e)) (.ix e d.length (.ob (e.toNat < d.length) (.lt (aat g.1 f.Num) fun c=> .ob (wX s (aP.mk c.1.Num c.1.Name c.1.Card c.1.Key c.1.dS c.1.Union c.1.dK c.1.Default.re c.1.Notes) (d.getD e.toNat bP).Val.re f.Val.re) (.ix e d.length (.ob (e.toNat < d.length) (rl (d.set e.toNat (Slot.mk (d.getD e.toNat bP).Num (k s (aP.mk c.1.Num c.1.Name c.1.Card c.1.Key c.1.dS c.1.Union c.1.dK c.1.Default.re c.1.Notes) (d.getD e.toNat bP).Val.re f.Val.re).re)))))))) (.ob (dE (d.length+1) 136) (rl (d++[Slot.mk f.Num f.Val.re]))))) (fun j (d:List Slot)=> .ob (rE (fun(x l:Slot)=>True) d) (.ob (a.bT.length+b.bT.length<=1048576) (.ret (af.mk 10 0 [] [] [] (aBq d) (ash a.bT b.bT))))) (List.filter (fun(x:Slot)=> !LV x g.1 b.re) i)))))
def wX (c:Nat)(s:aH)(f:aP)(a:af)(b:af):Prop:=okS s/\(kV a/\kV b/\tV a+tV b<=1048576)/\2*tV b+1<=c
def rW (d:Nat)(s:aH)(c:Str)(a:af)(b:af):Prop:=okS s/\(kV a/\kV b/\tV a+tV b<=1048576)/\2*tV b<=d
def mmV:Nat->(aH->aP->af->af->af)×(aH->Str->af->af->af)
 | 0=>(fun _ _ _ _=>default,fun _ _ _ _=>default)
 | c+1=>(fun s f a b=>(aur ((mmV c).1) (wX c) ((mmV c).2) (rW c) s f a b).val,fun s d a b=>(ahF ((mmV c).1) (wX c) ((mmV c).2) (rW c) s d a b).val)
def ZJ (s:aH)(c:Str)(a:af)(b:af):af:=(mmV (2*tV b)).2 s c a b
def afI (d:Nat):Prop:=(∀(s:aH) (f:aP) (a:af) (b:af),wX d s f a b->(fun r=>kV r/\tV r<=tV a+tV b) ((mmV d).1 s f a b))/\(∀(s:aH) (c:Str) (a:af) (b:af),rW d s c a b->(fun r=>kV r/\tV r<=tV a+tV b) ((mmV d).2 s c a b))
abbrev Qx (a:Nat):=aur ((mmV a).1) (wX a) ((mmV a).2) (rW a)
theorem YC (g:Nat)(p:afI g)(s:aH)(f:aP)(a:af)(b:af)(h:wX (g+1) s f a b):jG (Qx g s f a b) (fun r=>kV r/\tV r<=tV a+tV b):=
 by
 obtain⟨n,⟨l,d,m⟩,B⟩:=h;have y:=iV a;have w:=iV b;have l1:=Il a.List;have A:=Il b.List;have E:=Kw a.Pairs;have C:=Kw b.Pairs;obtain⟨a1,a2,u,F⟩:=(iW a).1 l;obtain⟨b1,v,t,D⟩:=(iW b).1 d;unfold Qx aur;simp only[af.dO];refine dZ (fun _=> ?_) (fun _=>dZ (fun _=> ?_) (fun _=>dZ (fun _=>aj ⟨n,⟨l,d,m⟩,by omega⟩ (ah (p.2 _ _ _ _ ⟨n,⟨l,d,m⟩,by omega⟩))) (fun _=>ah ⟨d,by omega⟩)))
 ·obtain⟨q,e⟩:=aIU (a:=a.List) (b:=b.List) au;refine aj q (ah ?_);rw[e];refine⟨(iW _).2 ⟨⟨akJ,fun r i=>by cases i⟩,pU a2 v,fun x hx=>qcy,fun x hx=>qcy⟩,?_⟩;rw[arU,zl,oL,<-zl,<-zl];show 1+0+(tVs a.List+tVs b.List)+0+0+0<=_
  omega
 ·obtain⟨q,e⟩:=aIH (a:=a.Pairs) (b:=b.Pairs) au;have c:=pU u t;have j:nV (a.Pairs++b.Pairs):=⟨by rw[qO];omega,fun x hx=>(c x hx).1.1⟩;refine aj q (aC fun z o=> ?_);rw[o,e];refine aj j (ah ⟨(iW _).2 ⟨⟨akJ,fun r i=>by cases i⟩,fun x hx=>qcy,fun x hx=>c x (He j hx),fun x hx=>qcy⟩,?_⟩);have k:=Ue j;rw[oL,<-yT,<-yT,<-yT]at k;rw[arU];show 1+0+0+tPs (nX (a.Pairs++b.Pairs))+0+0<=_
  omega
abbrev Ih (a:Nat):=ahF ((mmV a).1) (wX a) ((mmV a).2) (rW a)
theorem VE (o:Nat)(H:afI o)(s:aH)(j:Str)(a:af)(b:af)(h:rW (o+1) s j a b):jG (Ih o s j a b) (fun r=>kV r/\tV r<=tV a+tV b):=
 by
 obtain⟨D,⟨T,Q,Y⟩,h2⟩:=h;have ea:=iV a;have W:=iV b;have l1:=PW a.Slots;have l2:=PW b.Slots;have l3:=JR a.bT;have l4:=JR b.bT;have s1:=yU a.Slots;have X:=yU b.Slots;obtain⟨a1,a2,a3,S⟩:=(iW a).1 T;obtain⟨b1,b2,Z,N⟩:=(iW b).1 Q;unfold Ih ahF;simp only[af.dO];refine aj ⟨trivial,by omega,by omega,by omega⟩ (dw (aC fun J B=>aC fun z G=> ?_));have L:J=a.Slots:=by
  rw[B];simp
 rw[L];have P:z.1.Fields.length<=1048576:=by rw[G];exact aEQ D
 have f:(List.filter (fun(x:Slot)=> !LV x z.1 b) a.Slots).Sublist a.Slots:=List.filter_sublist;refine aj ⟨P,by omega⟩ (dw (bY (fun k (y:List Slot)=>y.length<=a.Slots.length+k/\(∀x∈y,kV x.Val)/\kD tS y<=kD tS a.Slots+kD tS (b.Slots.take k)) ⟨f.length_le,fun x hx=>S x (f.subset hx),uq f⟩ au (fun k y C t=> ?_) (fun y t=> ?_)))
 ·obtain⟨K,g,E⟩:=t;have e:kD tS (b.Slots.take (k+1))=kD tS (b.Slots.take k)+tS (b.Slots.getD k bP):=qw C;have U:kD tS (b.Slots.take (k+1))<=kD tS b.Slots:=uq (Qc3 _ _);have e2:=Ai (b.Slots.getD k bP);have q:=N _ (getD_mem (d:=bP) C);refine aU au au (aC fun m v=>bK (fun O=> ?_) (fun O=>aj (dI au au) (ah ⟨by simp only[qO,AB,yz];omega,pU g (kF q),?_⟩)))
  ·have w:=al5 y (b.Slots.getD k bP).Num;rw[<-v]at w;have F:=getD_mem (d:=bP) (l:=y) (i:=m.toNat) au;have M:=g _ F;have ty:tS (y.getD m.toNat bP)<=kD tS y:=FM F;have e3:=Ai (y.getD m.toNat bP);have n:okS s/\(kV (y.getD m.toNat bP).Val/\kV (b.Slots.getD k bP).Val/\tV (y.getD m.toNat bP).Val+tV (b.Slots.getD k bP).Val<=1048576)/\2*tV (b.Slots.getD k bP).Val+1<=o:=⟨D,⟨M,q,by omega⟩,by omega⟩;refine aU au au (aj au (aC fun c V=>aj n (aU au au (aj au (ah ?_)))));obtain⟨I,R⟩:=H.1 s (aP.mk c.1.Num c.1.Name c.1.Card c.1.Key c.1.dS c.1.Union c.1.dK c.1.Default c.1.Notes) _ _ n;exact⟨by rw[Qb6];omega,auy g I,EZ (aCY au R) au⟩
  ·rw[oL];show kD tS y+(tS (Slot.mk (b.Slots.getD k bP).Num (b.Slots.getD k bP).Val)+0)<=_
   rw[Ai];show kD tS y+(1+tV (b.Slots.getD k bP).Val+0)<=_
   omega
 ·obtain⟨K,g,E⟩:=t;rw[Lc]at E;have n:rE (fun(_ _:Slot)=>True) y:=⟨by omega,fun _ _ _ _=>trivial⟩;have p:a.bT.length+b.bT.length<=1048576:=by omega
  refine aj n (aj p (ah ?_));have A:=(ane n).symm;have u:(ash a.bT b.bT).Perm (a.bT++b.bT):=(Xv a.bT b.bT p).2;refine⟨(iW _).2 ⟨⟨akJ,fun r p=> ?_⟩,fun x hx=>qcy,fun x hx=>qcy,fun x hx=>g x (A.mem_iff.2 hx)⟩,?_⟩
  ·rcases u_.1 (u.mem_iff.1 p)with e | e
   ·exact a1.2 r e
   ·exact b1.2 r e
  ·rw[arU,yU,<-DW A,D6,DW u,oL,<-D6,<-D6];show 1+0+0+0+kD tS y+(WI a.bT+WI b.bT)<=_
   omega
theorem JA:∀c,afI c
 | 0=>⟨fun s f a b h=>False.elim (by have k:=h.2.2;omega),
  fun s d a b h=>False.elim (by have k:=h.2.2;have:=kZ b;omega)⟩
 | c+1=>⟨fun s f a b h=>(YC c (JA c) s f a b h).2,
  fun s d a b h=>(VE c (JA c) s d a b h).2⟩
theorem auB (c:Nat)(s:aH)(f:aP)(a:af)(b:af)(h:wX (c+1) s f a b):Is (Qx c s f a b):=(YC c (JA c) s f a b h).1
theorem anc (d:Nat)(s:aH)(c:Str)(a:af)(b:af)(h:rW (d+1) s c a b):Is (Ih d s c a b):=(VE d (JA d) s c a b h).1
theorem abM (s:aH)(c:Str)(a:af)(b:af)(h:okS s/\(kV a/\kV b/\tV a+tV b<=1048576)):(fun r=>kV r/\tV r<=tV a+tV b) (ZJ s c a b):=(JA (2*tV b)).2 s c a b (⟨h.1,h.2,oC _⟩)
theorem aAj:∀b,dJ Z.P Z.S 314 (mi (args (ak (aI bn) (ak (aI dY) (ak (aI aK) (a1 (aI aK)))))) (shr [.slot 0 true (nn 7)] (l1 aK)) 1 [] (fun a=>some (wX b (a.1) (a.2.1) (a.2.2.1) (a.2.2.2))) (fun a=>(mmV b).1 (a.1) (a.2.1) (a.2.2.1) (a.2.2.2)))/\dJ Z.P Z.S 244 (mi (args (ak (aI bn) (ak (bz cStr) (ak (aI aK) (a1 (aI aK)))))) (shr [.slot 0 true (nn 7)] (l1 aK)) 1 [] (fun a=>some (rW b (a.1) (a.2.1) (a.2.2.1) (a.2.2.2))) (fun a=>(mmV b).2 (a.1) (a.2.1) (a.2.2.1) (a.2.2.2)))
 | 0=>⟨gp func314 eF (fun a h=>by have k:=h.2.2;omega),
  gp func244 eF (fun a h=>by have k:=h.2.2;have:=kZ (a.2.2.2);omega)⟩
 | b+1=>by
  obtain⟨d,c⟩:=aAj b;exact⟨zD [UE,aEp,aFf,⟨314,_,d⟩,⟨244,_,c⟩] [] func314 ntmps314 (fun a=>Qx b a.1 a.2.1 a.2.2.1 a.2.2.2) (fun a h=>⟨auB b a.1 a.2.1 a.2.2.1 a.2.2.2 h,rfl⟩) (jr (n:=45) rfl),
   zD [Rx,SS,asr,aFi,aGU,asM,amd,Uy,aw4,⟨314,_,d⟩,⟨244,_,c⟩] [jS 6 (bJ (fun f=>[s0 37, .slot 11 false [some 279]]) (ay cI (l1 bH)))] func244 ntmps244 (fun a=>Ih b a.1 a.2.1 a.2.2.1 a.2.2.2) (fun a h=>⟨anc b a.1 a.2.1 a.2.2.1 a.2.2.2 h,rfl⟩) (jr (n:=82) rfl)⟩
def asf:aY Z:=⟨244,mi (args (ak (aI bn) (ak (bz cStr) (ak (aI aK) (a1 (aI aK)))))) (shr [.slot 0 true (nn 7)] (l1 aK)) 1 [] (fun a=>some (okS (a.1)/\(kV (a.2.2.1)/\kV (a.2.2.2)/\tV (a.2.2.1)+tV (a.2.2.2)<=1048576))) (fun a=>ZJ (a.1) (a.2.1) (a.2.2.1) (a.2.2.2)),jH (fun n=>((aAj n).2)) _ _ (fun a h=>⟨2*tV (a.2.2.2),⟨h.1,h.2,oC _⟩,rfl⟩)⟩
def avT (s:aH)(c:Str)(l:List af):Pg af:=aL l (.each false oG l fJ (fun d (b a:af)=> .ix d l.length (.br (d==0) (rl b.re) (.ob (okS s/\kV a.re/\kV b.re/\tV a.re+tV b.re<=1048576) (rl (ZJ s c a.re b.re).re)))) (fun d (a:af)=> .ret a.re) (af.mk 10 0 [] [] [] [] []))
def aH1 (s:aH)(a:Str)(l:List af):=(avT s a l).val
theorem UH (s:aH)(b:Str)(l:List af)(h:okS s/\(∀v∈l,kV v)/\kD (fun v=>1+tV v) l<=1048576):jG (avT s b l) (fun r=>kV r/\tV r<=1048576):=
 by
 obtain⟨o,n,p⟩:=h;have t:l.length<=1048576:=EZ (yA fun x=>by omega) p;unfold avT;simp only[af.dO];refine dw (bY (fun k (y:af)=>kV y/\tV y<=1+kD (fun v=>1+tV v) (l.take k)/\(0 < k->tV y+1<=1+kD (fun v=>1+tV v) (l.take k))) ⟨(jU 10 0 [] ⟨by decide,by decide⟩).1,by rw[(jU 10 0 [] ⟨by decide,by decide⟩).2];exact Nat.add_le_add_left (vP _) 1,fun e=>absurd e qp⟩ au (fun k y i a=> ?_) (fun y a=>ah ⟨a.1,?_⟩))
 ·have e:=qw (f:=fun v=>1+tV v) (d:=fJ) i;have e:kD (fun v=>1+tV v) (l.take (k+1))=kD (fun v=>1+tV v) (l.take k)+(1+tV (l.getD k fJ)):=e;have q:kD (fun v=>1+tV v) (l.take (k+1))<=kD (fun v=>1+tV v) l:=uq (Qc3 _ l);have c:=n _ (getD_mem (d:=fJ) i);refine aU au au (dZ (fun g=>ah ⟨c,by omega,fun _=>by omega⟩) (fun g=> ?_));have j:okS s/\(kV y/\kV (l.getD k fJ)/\tV y+tV (l.getD k fJ)<=1048576):=⟨o,a.1,c,by have:=a.2.2 au;omega⟩;obtain⟨m,u⟩:=abM s b y (l.getD k fJ) j;exact aj j (ah ⟨m,by have:=a.2.1;omega,fun _=>by have:=a.2.2 au;omega⟩)
 ·rw[Lc]at a;by_cases g:l.length=0
  ·have:l=[]:=List.length_eq_zero_iff.1 g;subst this;have:=a.2.1;simp only[kD]at this;omega
  ·have:=a.2.2 au;omega
def aB6:aY Z:=E1 [asf] [jS 3 (bJ (fun b=>[s0 13, .cells (pid (b 7)) (nn 7)]) (ay cI (l1 aK)))] (ak (aI bn) (ak (bz cStr) (a1 (bz iD)))) (shr [.slot 0 true (nn 7)] (l1 aK)) [] func175 1 (u3 avT) (fun a=>okS a.1/\(∀v∈a.2.2,kV v)/\kD (fun v=>1+tV v) a.2.2<=1048576) fun a h=>(UH a.1 a.2.1 a.2.2 h).1
theorem ada {x:bZ}(h:aa4 x=true):(x.Kind=5->1<=x.Num)/\(x.Kind=4->x.Num<=64)/\(x.Kind=1\/x.Kind=2\/x.Kind=3\/x.Kind=4\/x.Kind=5):=by
 have k:VP (ranged x) (fun r=>r=true->(x.Kind=5->1<=x.Num)/\(x.Kind=4->x.Num<=64)/\(x.Kind=1\/x.Kind=2\/x.Kind=3\/x.Kind=4\/x.Kind=5)):=by
  unfold ranged;have a:∀{p:Prop},(false=true->p):=fun e=>by cases e
  refine jK (fun _=>di a) fun _=>jK (fun _=>di a) fun _=>lZ (fun y=>y=true->x.Kind=1\/x.Kind=2) (jK (fun e=>di fun _=> .inl (eq_of_beq e)) fun _=>di fun e=> .inr (eq_of_beq e)) fun y b=>jK (fun e=>di fun _=> ?_) fun _=>jK (fun e=> ?_) fun _=>jK (fun e=> ?_) fun _=>jK (fun e=> ?_) fun _=>di a
  ·rcases b e with k | k<;>refine⟨fun q=> ?_,fun q=> ?_,by omega⟩<;>omega
  ·have e:=eq_of_beq e;exact jK (fun _=>di fun _=>⟨fun q=>by omega,fun q=>by omega,by omega⟩) fun _=>di a
  ·have e:=eq_of_beq e;exact jK (fun _=>di fun c=>⟨fun q=>by omega,fun _=>Fa c,by omega⟩) fun _=>di a
  ·have e:=eq_of_beq e;exact jK (fun d=>di fun _=>⟨fun _=>Fa d,fun q=>by omega,by omega⟩) fun _=>di a
 exact k h
theorem Nk {s:aH}{x:bZ}(h:aiI s x=true):(x.Kind=5->1<=x.Num)/\(x.Kind=4->x.Num<=64/\(pV (Bg s x.Method).1.Shape).2=true)/\(x.Kind=1\/x.Kind=2\/x.Kind=3\/x.Kind=4\/x.Kind=5):=by
 have k:VP (fits s x) (fun r=>r=true->(x.Kind=5->1<=x.Num)/\(x.Kind=4->x.Num<=64/\(pV (Bg s x.Method).1.Shape).2=true)/\(x.Kind=1\/x.Kind=2\/x.Kind=3\/x.Kind=4\/x.Kind=5)):=by
  unfold fits;have c:∀{p:Prop},(false=true->p):=fun e=>by cases e
  refine jg (zY fun m l=>jK (fun _=>di c) fun _=>jK (fun _=>di c) fun i=>zY fun n j=> ?_);have i:aa4 (bZ.mk x.Method x.Kind x.Num 0)=true:=by simpa using i
  obtain⟨f,d,g⟩:=ada i;have f:x.Kind=5->1<=x.Num:=f;have d:x.Kind=4->x.Num<=64:=d;have g:x.Kind=1\/x.Kind=2\/x.Kind=3\/x.Kind=4\/x.Kind=5:=g;have a:∀{b:Bool},(x.Kind=4->(pV (Bg s x.Method).1.Shape).2=true)->(b=true->(x.Kind=5->1<=x.Num)/\(x.Kind=4->x.Num<=64/\(pV (Bg s x.Method).1.Shape).2=true)/\(x.Kind=1\/x.Kind=2\/x.Kind=3\/x.Kind=4\/x.Kind=5)):=fun k _=>⟨f,fun q=>⟨d q,k q⟩,g⟩
  refine jK (fun e=>di (a fun q=> ?_)) fun _=>jK (fun e=>jK (fun _=>di (a fun q=> ?_)) fun _=>di c) fun _=>jK (fun _=>jK (fun e=>di (a fun _=> ?_)) fun _=>di c) fun e=>di (a fun q=> ?_)
  ·have e:=eq_of_beq e;omega
  ·have e:=eq_of_beq e;omega
  ·rw[j,l]at e;exact e
  ·rw[q]at e;cases e
 exact k h
def Hg (l:List Str):Prop:=kD (fun d=>2+8*d.length) l<=1048576
def wOk (w:dL):Prop:=(∀v∈w.C9,kV v)/\kD (fun v=>1+tV v) w.C9<=1048576
def YV (w:dL)(r:List af):Prop:=(∀v∈r,gV v)/\r.length<=67108864/\(w.one=true->w.h.Kind≠4->r.length=1)
theorem ao6 {w:dL}(h:wOk w):∀v∈w.C9,gV v:=fun v a=>⟨h.1 v a,by
 have k:1+tV v<=kD (fun v=>1+tV v) w.C9:=FM (f:=fun v=>1+tV v) a;have:=h.2;omega⟩
theorem aiQ {w:dL}(h:wOk w):w.C9.length<=1048576:=EZ (yA fun x=>by omega) h.2
theorem ayV (k b:Int)(a:lK b):gV (af.mk k b [] [] [] [] []):=⟨(jU k b [] a).1,by rw[(jU k b [] a).2];decide⟩
theorem ayJ {l:List Str}(h:Hg l):l.length<=1048576:=EZ (yA fun x=>by omega) h
theorem aut {l:List Str}(h:Hg l)(k:Nat):kD (fun d:Str=>2+8*d.length) (l.take k)<=1048576:=EZ (uq (Qc3 k l)) h
def ad9 (s:aH)(x:bZ)(r:List Str×Status):Prop:=(∀d∈r.1,d.length<=65536)/\(r.2.Code≠0->r.1=[])/\(r.2.Code=0->(pV (Bg s x.Method).1.Shape).2=false->r.1.length=1)/\r.1.length<=67108864
theorem Js {s:aH}{x:bZ}{c:Int}(h:c≠0):ad9 s x ([],Status.mk c []):=⟨fun d a=>(by cases a),fun _=>rfl,fun e=>absurd e h,vP _⟩
def akP (w:dL):Pg (List af):=.br (!w.one) (.ret w.C9) (aL w.C9 (.br (decide (0 < (↑w.C9.length:Int))) (.lt (dA .i64 ((↑w.C9.length:Int) - 1)) fun a=> .ob (0<=a/\a<=(↑w.C9.length:Int)/\(↑w.C9.length:Int)<=(↑w.C9.length:Int)) (.ret (List.drop a.toNat (List.take w.C9.length w.C9)))) (.ret [af.mk 10 0 [] [] [] [] []])))
def aDJ (w:dL):=(akP w).val
theorem XN (w:dL)(h:wOk w):jG (akP w) (fun r=>YV w r):=
 by
 have g:=aiQ h;unfold akP;refine dX (fun a=>ah ⟨ao6 h,by omega,fun e=>by rw[e]at a;cases a⟩) (fun a=>dw (bK (fun f=>lU fun d c i=>aj ⟨by omega,by omega,H8 _⟩ (ah ⟨fun v b=>ao6 h v ?_,?_,fun _ _=> ?_⟩)) (fun _=>ah ⟨kF (ayV 10 0 ⟨by decide,by decide⟩),by decide,fun _ _=>rfl⟩)))
 ·rw[Lc]at b;exact List.mem_of_mem_drop b
 ·rw[Qbe,Lc];omega
 ·rw[Qbe,Lc];omega
def azt:aY Z:=E1 [] [] (a1 (aI eU)) (R1 iD) [] func113 1 akP (fun a=>wOk a) fun a h=>(XN a h).1
def Z7 (w:dL):Pg (List af):=aL w.C9 (.lt (acu w.s w.m.Out w.h.Num) fun a=> .ret [af.mk 10 0 [] [] [] [Slot.mk a.1.Num (af.mk a.1.dS.Kind (dA .u64 (↑w.C9.length:Int)) [] [] [] [] [])] []])
def avW (w:dL):=(Z7 w).val
theorem TC (w:dL)(h:wOk w):jG (Z7 w) (fun r=>YV w r):=
 by
 unfold Z7;refine dw (aC fun a c=>ah ⟨kF ⟨?_,?_⟩,by show 1<=67108864;decide,fun _ _=>rfl⟩)
 ·have k:=(jU a.1.dS.Kind (dA .u64 (w.C9.length:Int)) [] (NT _)).1;exact(iW _).2 ⟨⟨akJ,fun r b=>(by cases b)⟩,fun x hx=>qcy,fun x hx=>qcy,kF k⟩
 ·have k:=(jU a.1.dS.Kind (dA .u64 (w.C9.length:Int)) [] (NT _)).2;rw[iV];show 1+0+0+0+(tS _+0)+0<=_
  rw[Ai];show 1+0+0+0+(1+tV (af.mk a.1.dS.Kind (dA .u64 (w.C9.length:Int)) [] [] [] [] [])+0)+0<=_
  rw[k];decide
def aou:aY Z:=E1 [YA] [] (a1 (aI eU)) (R1 iD) [] func115 1 Z7 (fun a=>wOk a) fun a h=>(TC a h).1
def QC (w:dL):Pg (List af):=aL w.C9 (.each false oG w.C9 fJ (fun c e (b:List af)=> .ix c w.C9.length (.cnt oG 0 w.h.Num (fun d (a:List af)=> .ob (dE (a.length+1) 128) (rl (a++[e.re]))) (fun d (a:List af)=> rl a) b)) (fun c (b:List af)=> .ret b) [])
def auW (w:dL):=(QC w).val
theorem OQ (w:dL)(h:wOk w/\w.h.Num<=64/\w.h.Kind=4):jG (QC w) (fun r=>YV w r):=
 by
 obtain⟨h,n,g⟩:=h;have o:=aiQ h;unfold QC;simp only[af.dO];refine dw (bY (fun k (y:List af)=>(∀v∈y,gV v)/\y.length<=64*k) ⟨fun v f=>(by cases f),oC _⟩ au (fun k y c a=> ?_) (fun y a=>ah ⟨a.1,by have:=a.2;omega,fun _ e=>absurd g e⟩));have j:=ao6 h _ (getD_mem (d:=fJ) c);exact aU au au (rM (fun i (z:List af)=>(∀v∈z,gV v)/\(z.length:Int)<=64*k+i/\i<=64) ⟨a.1,by have:=a.2;omega,by decide⟩ qp au (fun i z l m b=>aj (dI au au) (ah ⟨pU b.1 (kF j),by simp only[qO,AB,yz];omega,by omega⟩)) (fun i z _ _ b=>ah ⟨b.1,by omega⟩))
def amC:aY Z:=E1 [] [jS 3 (bJ (fun b=>[s0 9, .slot 3 false [some 61]]) (ay cI (l1 iD))),jS 6 (bJ (fun b=>[s0 16, .slot 3 false [some 61]]) (ay cI (l1 iD)))] (a1 (aI eU)) (R1 iD) [] func116 1 QC (fun a=>wOk a/\a.h.Num<=64/\a.h.Kind=4) fun a h=>(OQ a h).1
def P9 (w:dL):Pg (List af):=.ob (okS w.s/\(∀(v:af),v∈w.C9->kV v)/\kD (fun(v:af)=>1+tV v) w.C9<=1048576) (.ret [(aH1 w.s w.m.Out w.C9).re])
def arB (w:dL):=(P9 w).val
theorem O0 (w:dL)(h:wOk w/\okS w.s):jG (P9 w) (fun r=>YV w r):=
 by
 have q:okS w.s/\(∀v∈w.C9,kV v)/\kD (fun v=>1+tV v) w.C9<=1048576:=⟨h.2,h.1.1,h.1.2⟩;unfold P9;simp only[af.dO];exact aj q (ah ⟨kF ⟨(UH w.s w.m.Out w.C9 q).2.1,(UH w.s w.m.Out w.C9 q).2.2⟩,by show 1<=67108864;decide,fun _ _=>rfl⟩)
def ant:aY Z:=E1 [aB6] [] (a1 (aI eU)) (R1 iD) [] func114 1 P9 (fun a=>wOk a/\okS a.s) fun a h=>(O0 a h).1
def aDN:aY Z:=Am Z [] 65 [true] func65 eF
def aEX:aY Z:=Am Z [] 65 [false,true] func65 eF
def aDT:aY Z:=Am Z [] 65 [false,false,true] func65 eF
def aE9:aY Z:=Am Z [] 65 [false,false,false] func65 eF
def anL (c:bZ->Prop)(q:dL->Prop)(W:dL->List af)(s:aH)(x:bZ)(l:List Str):Pg (List Str×Status):=.ob (okS s) (.lt (lH s) fun b=> .br (b.2 !=0) (.ret ([],Status.mk 11 [])) (.ob (List.length x.Method<=1048576) (.br (!aiI s x) (.ret ([],Status.mk 11 [])) (.br (x.Kind==5) (.ret ([],Status.mk x.Num [])) (.ob (List.length x.Method<=1048576) (.lt (Bg s x.Method) fun f=> .cut (fun(i:dL)=> .ob (c i.h) (.ob (q i) (.lt (W i) fun d=> aL d (.each false oG d fJ (fun j k (e:List Str)=> .ix j d.length (.ob (J4 b.1/\dR b.1/\gV k.re) (.lt (asv b.1 f.1.Out k.re) fun g=> .br (g.2 !=0) (.ret (.inr ([],Status.mk 11 []))) (.ob (dE (e.length+1) 16) (rl (e++[g.1])))))) (fun j (e:List Str)=> .ret (e,Status.mk 0 [])) [])))) (aL l (.each false oG l [] (fun m n (a:dL)=> .ix m l.length (.ob (dR b.1/\okL pK) (.lt (wS b.1 f.1.Out n pK) fun h=> .br (h.2 !=0) (.ret (.inr (.inr ([],Status.mk 11 [])))) (.ob (dE (a.C9.length+1) 128) (rl (dL.mk a.s a.h a.m (a.C9++[h.1.re]) a.one)))))) (fun m (a:dL)=> rl a) (dL.mk s x f.1 [] !(pV f.1.Shape).2)))))))))
theorem Ic {c:bZ->Prop}{q:dL->Prop}{W:dL->List af}{s:aH}{x:bZ}{l:List Str}(h:okS s/\okN s/\x.Method.length<=1048576/\Hg l)(hc:c x)(X:aiI s x=true->¬x.Kind=5->∀y:dL,y.s=s->y.h=x->wOk y->q y)(S:∀y,q y->YV y (W y)):jG (anL c q W s x l) (fun r=>ad9 s x r):=by
 obtain⟨u,R,I,E⟩:=h;have K:=ayJ E;unfold anL;simp only[af.dO];refine aj u (aC fun v8 Y=>dW (fun _=>ah (Js qp)) (fun w=>aj I (dX (fun _=>ah (Js qp)) (fun m=> ?_))));have m:aiI s x=true:=by simpa using m
 obtain⟨f1,f2,f3⟩:=Nk m;rw[Y]at w⊢;have o:=aEJ u R w;have g:=akw u w;refine dZ (fun e=>ah (Js (by have:=f1 e;omega))) (fun L=>aj I (aC fun b B=> ?_));refine bQ (fun y=>y.s=s/\y.h=x/\y.one= !(pV b.1.Shape).2/\wOk y) (dw (bY (fun k y=>(y.s=s/\y.h=x/\y.one= !(pV b.1.Shape).2)/\(∀v∈y.C9,kV v)/\kD (fun v=>1+tV v) y.C9<=kD (fun d:Str=>2+8*d.length) (l.take k)/\y.C9.length=k) ⟨⟨rfl,rfl,rfl⟩,fun v V=>(by cases V),vP _,rfl⟩ au (fun k y i a=> ?_) (fun y a=>ah ⟨a.1.1,a.1.2.1,a.1.2.2,a.2.1,?_⟩))) (fun j F=> ?_)
 ·have n:(wS (lH s).1 b.1.Out (l.getD k []) pK).2=0->kV (wS (lH s).1 b.1.Out (l.getD k []) pK).1/\tV (wS (lH s).1 b.1.Out (l.getD k []) pK).1<=1+8*(l.getD k []).length:=(NK (lH s).1 b.1.Out (l.getD k []) pK ⟨g,JD⟩).2;obtain⟨⟨U,M,i3⟩,Q,j2,j3⟩:=a;have e:kD (fun d:Str=>2+8*d.length) (l.take (k+1))=kD (fun d:Str=>2+8*d.length) (l.take k)+(2+8*(l.getD k []).length):=qw (f:=fun d:Str=>2+8*d.length) (d:=[]) i;refine aU au au (aj ⟨g,JD⟩ (aC fun v12 D=>dW (fun _=>ah (show ad9 s x ([],Status.mk 11 [])from Js qp)) (fun t=> ?_)));rw[<-D]at n;obtain⟨d1,d2⟩:=n t;refine aj (dI au au) (ah ⟨⟨U,M,i3⟩,pU Q (kF d1),?_,?_⟩)
  ·show kD (fun v=>1+tV v) (y.C9++[_])<=_
   rw[oL,e];show _+(1+tV _+0)<=_
   omega
  ·show(y.C9++[_]).length=_
   rw[qO,j3];rfl
 ·have:=a.2.2.1;have t:=aut E l.length;exact EZ this t
 ·obtain⟨Z,p,N,T⟩:=F;have z:q j:=X m L j Z p T;have A:YV j (W j):=S j z;refine aj (by rw[p];exact hc) (aj z (aC fun G Cb=> ?_));rw[<-Cb]at A;obtain⟨O,w2,w3⟩:=A;refine dw (bY (fun k (y:List Str)=>(∀d∈y,d.length<=65536)/\y.length=k) ⟨fun d n=>(by cases n),rfl⟩ au (fun k y i a=> ?_) (fun y a=>ah ⟨a.1,fun e=>absurd rfl e,fun _ C=> ?_,by have:=a.2;show y.length<=_;omega⟩))
  ·have H:=O _ (getD_mem (d:=fJ) i);have J:=(NU (lH s).1 b.1.Out (G.getD k fJ) ⟨o,g,H⟩).2;exact aU au au (aj ⟨o,g,H⟩ (aC fun v11 P=>dW (fun _=>ah (show ad9 s x ([],Status.mk 11 [])from Js qp)) (fun _=>aj (dI (by have:=a.2;omega) (by have:=a.2;omega)) (ah ⟨pU a.1 (kF (by rw[P];exact J)),by have:=a.2;simp only[qO,AB,yz];omega⟩))))
  ·show y.length=1
   have:=a.2;rw[this];refine w3 ?_ ?_
   ·rw[N,B,C];rfl
   ·rw[p];intro e;have:=(f2 e).2;rw[C]at this;cases this
def arD (s:aH)(x:bZ)(l:List Str):Pg (List Str×Status):=anL (fun h=>(h.Kind==1)=true/\True) wOk aDJ s x l
def arP (s:aH)(x:bZ)(l:List Str):=(arD s x l).val
theorem anN (s:aH)(x:bZ)(l:List Str)(h:okS s/\okN s/\x.Method.length<=1048576/\Hg l/\x.Kind=1):jG (arD s x l) (fun r=>ad9 s x r):=
 by
 obtain⟨e,a,d,b,c⟩:=h;have h:=And.intro e (And.intro a (And.intro d b));exact Ic h ⟨beq_iff_eq.2 c,trivial⟩ (fun _ _ y _ _ k=>k) fun y k=>(XN y k).2
def azM:aY Z:=E1 [Jm,FK,vY,z_,aa9,wG,aDN,EN,azt] [jS 11 (bJ (fun b=>[s0 68, .cells (pid (b 15)) [none,none,none,none,none,none,none,none,none,none,none,none,some 61,none]]) (ay cI (l1 eU))),jS 21 (bJ (fun b=>[s0 96, .slot 21 false [some 9]]) (ay cI (l1 bF))),jS 100018 (bJ (fun b=>[.cells (pid (b 15)) [none,none,none,none,none,none,none,none,none,none,none,none,some 61,none]]) (l1 eU)),jS 800009 (bJ (fun b=>[.cells (pid (b 15)) [none,none,none,none,none,none,none,none,none,none,none,none,some 61,none]]) (l1 eU))] (ak (aI bn) (ak (aI jc) (a1 (bz bF)))) (shr [s0 0, .slot 1 true [none,none]] (ay bF (l1 lu))) [] func29 2 (u3 arD) (fun a=>okS a.1/\okN a.1/\a.2.1.Method.length<=1048576/\Hg a.2.2/\a.2.1.Kind=1) fun a h=>(anN a.1 a.2.1 a.2.2 h).1
def atT (s:aH)(x:bZ)(l:List Str):Pg (List Str×Status):=anL (fun h=>(h.Kind==1)=false/\(h.Kind==2)=true/\True) (fun y=>wOk y/\okS y.s) arB s x l
def avd (s:aH)(x:bZ)(l:List Str):=(atT s x l).val
theorem amm (s:aH)(x:bZ)(l:List Str)(h:okS s/\okN s/\x.Method.length<=1048576/\Hg l/\x.Kind=2):jG (atT s x l) (fun r=>ad9 s x r):=
 by
 obtain⟨f,b,d,c,a⟩:=h;have h:=And.intro f (And.intro b (And.intro d c));exact Ic h ⟨by rw[a];rfl,by rw[a];rfl,trivial⟩ (fun _ _ y e _ k=>⟨k,by rw[e];exact h.1⟩) fun y k=>(O0 y k).2
def azN:aY Z:=E1 [Jm,FK,vY,z_,aa9,wG,aEX,EN,ant] [jS 11 (bJ (fun b=>[s0 68, .cells (pid (b 15)) [none,none,none,none,none,none,none,none,none,none,none,none,some 61,none]]) (ay cI (l1 eU))),jS 21 (bJ (fun b=>[s0 96, .slot 21 false [some 9]]) (ay cI (l1 bF))),jS 100018 (bJ (fun b=>[.cells (pid (b 15)) [none,none,none,none,none,none,none,none,none,none,none,none,some 61,none]]) (l1 eU)),jS 800009 (bJ (fun b=>[.cells (pid (b 15)) [none,none,none,none,none,none,none,none,none,none,none,none,some 61,none]]) (l1 eU))] (ak (aI bn) (ak (aI jc) (a1 (bz bF)))) (shr [s0 0, .slot 1 true [none,none]] (ay bF (l1 lu))) [] func29 2 (u3 atT) (fun a=>okS a.1/\okN a.1/\a.2.1.Method.length<=1048576/\Hg a.2.2/\a.2.1.Kind=2) fun a h=>(amm a.1 a.2.1 a.2.2 h).1
def aot (s:aH)(x:bZ)(l:List Str):Pg (List Str×Status):=anL (fun h=>(h.Kind==1)=false/\(h.Kind==2)=false/\(h.Kind==3)=true/\True) wOk avW s x l
def aoK (s:aH)(x:bZ)(l:List Str):=(aot s x l).val
theorem an9 (s:aH)(x:bZ)(l:List Str)(h:okS s/\okN s/\x.Method.length<=1048576/\Hg l/\x.Kind=3):jG (aot s x l) (fun r=>ad9 s x r):=
 by
 obtain⟨e,b,d,c,a⟩:=h;have h:=And.intro e (And.intro b (And.intro d c));exact Ic h ⟨by rw[a];rfl,by rw[a];rfl,by rw[a];rfl,trivial⟩ (fun _ _ y _ _ k=>k) fun y k=>(TC y k).2
def azL:aY Z:=E1 [Jm,FK,vY,z_,aa9,wG,aDT,EN,aou] [jS 11 (bJ (fun b=>[s0 68, .cells (pid (b 15)) [none,none,none,none,none,none,none,none,none,none,none,none,some 61,none]]) (ay cI (l1 eU))),jS 21 (bJ (fun b=>[s0 96, .slot 21 false [some 9]]) (ay cI (l1 bF))),jS 100018 (bJ (fun b=>[.cells (pid (b 15)) [none,none,none,none,none,none,none,none,none,none,none,none,some 61,none]]) (l1 eU)),jS 800009 (bJ (fun b=>[.cells (pid (b 15)) [none,none,none,none,none,none,none,none,none,none,none,none,some 61,none]]) (l1 eU))] (ak (aI bn) (ak (aI jc) (a1 (bz bF)))) (shr [s0 0, .slot 1 true [none,none]] (ay bF (l1 lu))) [] func29 2 (u3 aot) (fun a=>okS a.1/\okN a.1/\a.2.1.Method.length<=1048576/\Hg a.2.2/\a.2.1.Kind=3) fun a h=>(an9 a.1 a.2.1 a.2.2 h).1
def asQ (s:aH)(x:bZ)(l:List Str):Pg (List Str×Status):=anL (fun h=>(h.Kind==1)=false/\(h.Kind==2)=false/\(h.Kind==3)=false/\True) (fun y=>wOk y/\y.h.Num<=64/\y.h.Kind=4) auW s x l
def apa (s:aH)(x:bZ)(l:List Str):=(asQ s x l).val
theorem anl (s:aH)(x:bZ)(l:List Str)(h:okS s/\okN s/\x.Method.length<=1048576/\Hg l/\(x.Kind≠1/\x.Kind≠2/\x.Kind≠3)):jG (asQ s x l) (fun r=>ad9 s x r):=
 by
 obtain⟨d,f,i,g,a⟩:=h;have h:=And.intro d (And.intro f (And.intro i g));exact Ic h ⟨beq_eq_false_iff_ne.2 a.1,beq_eq_false_iff_ne.2 a.2.1,beq_eq_false_iff_ne.2 a.2.2,trivial⟩ (fun c j y _ e k=>by have b:x.Kind=4:=(by have:=(Nk c).2.2;omega);rw[e];exact⟨k,((Nk c).2.1 b).1,b⟩) fun y k=>(OQ y k).2
def azO:aY Z:=E1 [Jm,FK,vY,z_,aa9,wG,aE9,EN,amC] [jS 11 (bJ (fun b=>[s0 68, .cells (pid (b 15)) [none,none,none,none,none,none,none,none,none,none,none,none,some 61,none]]) (ay cI (l1 eU))),jS 21 (bJ (fun b=>[s0 96, .slot 21 false [some 9]]) (ay cI (l1 bF))),jS 100018 (bJ (fun b=>[.cells (pid (b 15)) [none,none,none,none,none,none,none,none,none,none,none,none,some 61,none]]) (l1 eU)),jS 800009 (bJ (fun b=>[.cells (pid (b 15)) [none,none,none,none,none,none,none,none,none,none,none,none,some 61,none]]) (l1 eU))] (ak (aI bn) (ak (aI jc) (a1 (bz bF)))) (shr [s0 0, .slot 1 true [none,none]] (ay bF (l1 lu))) [] func29 2 (u3 asQ) (fun a=>okS a.1/\okN a.1/\a.2.1.Method.length<=1048576/\Hg a.2.2/\(a.2.1.Kind≠1/\a.2.1.Kind≠2/\a.2.1.Kind≠3)) fun a h=>(anl a.1 a.2.1 a.2.2 h).1
def anP (s:aH)(x:bZ)(l:List Str):Prop:=okS s/\okN s/\x.Method.length<=1048576/\Hg l
def YI (s:aH)(x:bZ)(l:List Str):List Str×Status:=bif x.Kind==1 then arP s x l else bif x.Kind==2 then avd s x l else bif x.Kind==3 then aoK s x l else apa s x l
def aif:aY Z:=⟨29,mi (args (ak (aI bn) (ak (aI jc) (a1 (bz bF))))) (shr [s0 0, .slot 1 true [none,none]] (ay bF (l1 lu))) 2 [] (fun a=>some (anP a.1 a.2.1 a.2.2)) (fun a=>YI a.1 a.2.1 a.2.2),by
  have e:dJ Z.P Z.S 29 (mi (args (ak (aI bn) (ak (aI jc) (a1 (bz bF))))) (shr [s0 0, .slot 1 true [none,none]] (ay bF (l1 lu))) 2 [] (fun a=>some ((a.2.1.Kind==1)=true/\anP a.1 a.2.1 a.2.2)) (fun a=>arP a.1 a.2.1 a.2.2)):=jH (fun _=>azM.ok) _ _ (fun a h=>⟨0,⟨h.2.1,h.2.2.1,h.2.2.2.1,h.2.2.2.2,eq_of_beq h.1⟩,rfl⟩);have b:dJ Z.P Z.S 29 (mi (args (ak (aI bn) (ak (aI jc) (a1 (bz bF))))) (shr [s0 0, .slot 1 true [none,none]] (ay bF (l1 lu))) 2 [] (fun a=>some ((a.2.1.Kind==2)=true/\((a.2.1.Kind==1)=false/\anP a.1 a.2.1 a.2.2))) (fun a=>avd a.1 a.2.1 a.2.2)):=jH (fun _=>azN.ok) _ _ (fun a h=>⟨0,⟨h.2.2.1,h.2.2.2.1,h.2.2.2.2.1,h.2.2.2.2.2,eq_of_beq h.1⟩,rfl⟩);have d:dJ Z.P Z.S 29 (mi (args (ak (aI bn) (ak (aI jc) (a1 (bz bF))))) (shr [s0 0, .slot 1 true [none,none]] (ay bF (l1 lu))) 2 [] (fun a=>some ((a.2.1.Kind==3)=true/\((a.2.1.Kind==2)=false/\((a.2.1.Kind==1)=false/\anP a.1 a.2.1 a.2.2)))) (fun a=>aoK a.1 a.2.1 a.2.2)):=jH (fun _=>azL.ok) _ _ (fun a h=>⟨0,⟨h.2.2.2.1,h.2.2.2.2.1,h.2.2.2.2.2.1,h.2.2.2.2.2.2,eq_of_beq h.1⟩,rfl⟩);have c:dJ Z.P Z.S 29 (mi (args (ak (aI bn) (ak (aI jc) (a1 (bz bF))))) (shr [s0 0, .slot 1 true [none,none]] (ay bF (l1 lu))) 2 [] (fun a=>some ((a.2.1.Kind==3)=false/\((a.2.1.Kind==2)=false/\((a.2.1.Kind==1)=false/\anP a.1 a.2.1 a.2.2)))) (fun a=>apa a.1 a.2.1 a.2.2)):=jH (fun _=>azO.ok) _ _ (fun a h=>⟨0,⟨h.2.2.2.1,h.2.2.2.2.1,h.2.2.2.2.2.1,h.2.2.2.2.2.2,beq_eq_false_iff_ne.1 h.2.2.1,beq_eq_false_iff_ne.1 h.2.1,beq_eq_false_iff_ne.1 h.1⟩,rfl⟩);exact wK e (wK b (wK d c))⟩
def aq9:aY Z:=Am Z [F8] 182 [false,true] func182 eF
def atX:aY Z:=Am Z [F8] 182 [false,false,true] func182 eF
def apQ:aY Z:=Am Z [F8] 182 [false,false,false,true] func182 eF
def aqG:aY Z:=Am Z [F8] 182 [false,false,false,false] func182 eF
def aux (l:List Int):Pg Int:=aL l (.each false um l 0 (fun(b a:Int) (c:Unit)=> .ix b l.length (.br (a !=0) (.ret (.inr a)) (rl ()))) (fun b (c:Unit)=> .ret 0) ())
def aam (l:List Int):=(aux l).val
theorem asJ (l:List Int):Is (aux l):=
 eH fun _=>fU (.inr au) (fun b a _ _=>bW au au (eX iR iR)) (fun a _=>aO)
def xR:aY Z:=E0 [] [jS 3 (bJ (fun b=>[s0 8]) (l1 cI))] (a1 (bz abk)) (R1 cI) [] func187 1 aux fun a=>asJ a
def aal (a:Raw)(b:Raw):Pg Int:=.ret (aam [wY a.Num b.Num,wY a.eY b.eY,auC a.Bits b.Bits,aAO a.Data b.Data])
def apR (a:Raw)(b:Raw):=(aal a b).val
theorem ahs (a:Raw)(b:Raw):Is (aal a b):=
 aO
def vZ:aY Z:=E0 [uh,xR,apk,arN] [] (ak (aI mQ) (a1 (aI mQ))) (R1 cI) [] func191 1 (u2 aal) fun a=>ahs a.1 a.2
def cfR (l:List Raw)(m:List Raw):Pg Int:=.cut (fun(e:Unit)=> aL l (aL m (.br (decide ((↑l.length:Int) < (↑m.length:Int))) (.ret (-1)) (.ret 0)))) (aL l (.each false um l nH (fun a d (c:Unit)=> .ix a l.length (aL m (.br (decide ((↑m.length:Int)<=a)) (.ret (.inr (.inr 1))) (.ix a m.length (.lt (apR d (m.getD a.toNat nH)) fun b=> .br (b !=0) (.ret (.inr (.inr b))) (rl ())))))) (fun a (c:Unit)=> rl ()) ()))
def aJX (l:List Raw)(m:List Raw):=(cfR l m).val
theorem aEw (l:List Raw)(m:List Raw):Is (cfR l m):=
 kL (eH fun _=>fU (.inr au) (fun f a _ _=>bW au au (eH fun _=>cZ iR (fun _=>bW au au (dC fun d c=>eX iR iR)))) (fun a _=>aO)) (fun e b=>eH fun _=>eH fun _=>cZ iR iR)
def adN:aY Z:=E0 [vZ] [jS 2 (bJ (fun b=>[s0 13]) (l1 cI)),jS 100011 (bJ (fun b=>[]) l0)] (ak (bz bG) (ak (bz bG) (a1 (jP 191 [])))) (R1 cI) [] func190 1 (fun a=>cfR a.1 a.2.1) fun a=>aEw a.1 a.2.1
def aAH (g:af->af->Int)(fV:af->af->Prop)(f:List af->List af->Int)(qi:List af->List af->Prop)(c:List Pair->List Pair->Int)(p_:List Pair->List Pair->Prop)(h:List Slot->List Slot->Int)(qf:List Slot->List Slot->Prop)(d:Pair->Pair->Int)(jb:Pair->Pair->Prop)(e:Slot->Slot->Int)(jd:Slot->Slot->Prop)(a:af)(b:af):Pg Int:=.br (a.Kind !=b.Kind) (.ret (wY a.Kind b.Kind)) (.ob (iy b.Kind=true/\True) (.ob (iy a.Kind=true/\True) (.ret (azX a.re b.re))))
def aA2 (g:af->af->Int)(fV:af->af->Prop)(c:List af->List af->Int)(qi:List af->List af->Prop)(d:List Pair->List Pair->Int)(p_:List Pair->List Pair->Prop)(h:List Slot->List Slot->Int)(qf:List Slot->List Slot->Prop)(e:Pair->Pair->Int)(jb:Pair->Pair->Prop)(f:Slot->Slot->Int)(jd:Slot->Slot->Prop)(a:af)(b:af):Pg Int:=.br (a.Kind !=b.Kind) (.ret (wY a.Kind b.Kind)) (.ob (iy b.Kind=false/\(b.Kind==11)=true/\True) (.ob (iy a.Kind=false/\(a.Kind==11)=true/\True) (.ob (qi a.List b.List) (.ret (c a.List b.List)))))
def aoZ (g:af->af->Int)(fV:af->af->Prop)(f:List af->List af->Int)(qi:List af->List af->Prop)(c:List Pair->List Pair->Int)(p_:List Pair->List Pair->Prop)(h:List Slot->List Slot->Int)(qf:List Slot->List Slot->Prop)(d:Pair->Pair->Int)(jb:Pair->Pair->Prop)(e:Slot->Slot->Int)(jd:Slot->Slot->Prop)(a:af)(b:af):Pg Int:=.br (a.Kind !=b.Kind) (.ret (wY a.Kind b.Kind)) (.ob (iy b.Kind=false/\(b.Kind==11)=false/\(b.Kind==12)=true/\True) (.ob (iy a.Kind=false/\(a.Kind==11)=false/\(a.Kind==12)=true/\True) (.ob (p_ a.Pairs b.Pairs) (.ret (c a.Pairs b.Pairs)))))
def aAV (h:af->af->Int)(fV:af->af->Prop)(g:List af->List af->Int)(qi:List af->List af->Prop)(d:List Pair->List Pair->Int)(p_:List Pair->List Pair->Prop)(c:List Slot->List Slot->Int)(qf:List Slot->List Slot->Prop)(e:Pair->Pair->Int)(jb:Pair->Pair->Prop)(f:Slot->Slot->Int)(jd:Slot->Slot->Prop)(a:af)(b:af):Pg Int:=.br (a.Kind !=b.Kind) (.ret (wY a.Kind b.Kind)) (.ob (iy b.Kind=false/\(b.Kind==11)=false/\(b.Kind==12)=false/\(b.Kind==10)=true/\True) (.ob (iy a.Kind=false/\(a.Kind==11)=false/\(a.Kind==12)=false/\(a.Kind==10)=true/\True) (.ob (qf a.Slots b.Slots) (.ret (aam [c a.Slots b.Slots,aJX a.bT b.bT])))))
def aA7 (g:af->af->Int)(fV:af->af->Prop)(f:List af->List af->Int)(qi:List af->List af->Prop)(c:List Pair->List Pair->Int)(p_:List Pair->List Pair->Prop)(h:List Slot->List Slot->Int)(qf:List Slot->List Slot->Prop)(d:Pair->Pair->Int)(jb:Pair->Pair->Prop)(e:Slot->Slot->Int)(jd:Slot->Slot->Prop)(a:af)(b:af):Pg Int:=.br (a.Kind !=b.Kind) (.ret (wY a.Kind b.Kind)) (.ob (iy b.Kind=false/\(b.Kind==11)=false/\(b.Kind==12)=false/\(b.Kind==10)=false/\True) (.ob (iy a.Kind=false/\(a.Kind==11)=false/\(a.Kind==12)=false/\(a.Kind==10)=false/\True) (.ret 0)))
def cfL (c:af->af->Int)(fV:af->af->Prop)(i:List af->List af->Int)(qi:List af->List af->Prop)(e:List Pair->List Pair->Int)(p_:List Pair->List Pair->Prop)(j:List Slot->List Slot->Int)(qf:List Slot->List Slot->Prop)(f:Pair->Pair->Int)(jb:Pair->Pair->Prop)(g:Slot->Slot->Int)(jd:Slot->Slot->Prop)(l:List af)(m:List af):Pg Int:=.cut (fun(h:Unit)=> aL l (aL m (.br (decide ((↑l.length:Int) < (↑m.length:Int))) (.ret (-1)) (.ret 0)))) (aL l (.each false um l fJ (fun a b (d:Unit)=> .ix a l.length (aL m (.br (decide ((↑m.length:Int)<=a)) (.ret (.inr (.inr 1))) (.ix a m.length (.ob (fV b.re (m.getD a.toNat fJ).re) (.br (c b.re (m.getD a.toNat fJ).re !=0) (.ret (.inr (.inr (c b.re (m.getD a.toNat fJ).re)))) (rl ()))))))) (fun a (d:Unit)=> rl ()) ()))
def cfP (i:af->af->Int)(fV:af->af->Prop)(h:List af->List af->Int)(qi:List af->List af->Prop)(e:List Pair->List Pair->Int)(p_:List Pair->List Pair->Prop)(j:List Slot->List Slot->Int)(qf:List Slot->List Slot->Prop)(c:Pair->Pair->Int)(jb:Pair->Pair->Prop)(f:Slot->Slot->Int)(jd:Slot->Slot->Prop)(l:List Pair)(m:List Pair):Pg Int:=.cut (fun(g:Unit)=> aL l (aL m (.br (decide ((↑l.length:Int) < (↑m.length:Int))) (.ret (-1)) (.ret 0)))) (aL l (.each false um l fO (fun a b (d:Unit)=> .ix a l.length (aL m (.br (decide ((↑m.length:Int)<=a)) (.ret (.inr (.inr 1))) (.ix a m.length (.ob (jb (Pair.mk b.Key.re b.Val.re) (Pair.mk (m.getD a.toNat fO).Key.re (m.getD a.toNat fO).Val.re)) (.br (c (Pair.mk b.Key.re b.Val.re) (Pair.mk (m.getD a.toNat fO).Key.re (m.getD a.toNat fO).Val.re) !=0) (.ret (.inr (.inr (c (Pair.mk b.Key.re b.Val.re) (Pair.mk (m.getD a.toNat fO).Key.re (m.getD a.toNat fO).Val.re))))) (rl ()))))))) (fun a (d:Unit)=> rl ()) ()))
def cfS (i:af->af->Int)(fV:af->af->Prop)(h:List af->List af->Int)(qi:List af->List af->Prop)(e:List Pair->List Pair->Int)(p_:List Pair->List Pair->Prop)(j:List Slot->List Slot->Int)(qf:List Slot->List Slot->Prop)(f:Pair->Pair->Int)(jb:Pair->Pair->Prop)(c:Slot->Slot->Int)(jd:Slot->Slot->Prop)(l:List Slot)(m:List Slot):Pg Int:=.cut (fun(g:Unit)=> aL l (aL m (.br (decide ((↑l.length:Int) < (↑m.length:Int))) (.ret (-1)) (.ret 0)))) (aL l (.each false um l bP (fun a b (d:Unit)=> .ix a l.length (aL m (.br (decide ((↑m.length:Int)<=a)) (.ret (.inr (.inr 1))) (.ix a m.length (.ob (jd (Slot.mk b.Num b.Val.re) (Slot.mk (m.getD a.toNat bP).Num (m.getD a.toNat bP).Val.re)) (.br (c (Slot.mk b.Num b.Val.re) (Slot.mk (m.getD a.toNat bP).Num (m.getD a.toNat bP).Val.re) !=0) (.ret (.inr (.inr (c (Slot.mk b.Num b.Val.re) (Slot.mk (m.getD a.toNat bP).Num (m.getD a.toNat bP).Val.re))))) (rl ()))))))) (fun a (d:Unit)=> rl ()) ()))
def aBu (c:af->af->Int)(fV:af->af->Prop)(g:List af->List af->Int)(qi:List af->List af->Prop)(d:List Pair->List Pair->Int)(p_:List Pair->List Pair->Prop)(h:List Slot->List Slot->Int)(qf:List Slot->List Slot->Prop)(e:Pair->Pair->Int)(jb:Pair->Pair->Prop)(f:Slot->Slot->Int)(jd:Slot->Slot->Prop)(a:Pair)(b:Pair):Pg Int:=.ob (fV a.Key.re b.Key.re) (.ob (fV a.Val.re b.Val.re) (.ret (aam [c a.Key.re b.Key.re,c a.Val.re b.Val.re])))
def aBa (c:af->af->Int)(fV:af->af->Prop)(g:List af->List af->Int)(qi:List af->List af->Prop)(d:List Pair->List Pair->Int)(p_:List Pair->List Pair->Prop)(h:List Slot->List Slot->Int)(qf:List Slot->List Slot->Prop)(e:Pair->Pair->Int)(jb:Pair->Pair->Prop)(f:Slot->Slot->Int)(jd:Slot->Slot->Prop)(a:Slot)(b:Slot):Pg Int:=.ob (fV a.Val.re b.Val.re) (.ret (aam [wY a.Num b.Num,c a.Val.re b.Val.re]))
def fV (c:Nat)(a:af)(b:af):Prop:=3*tV a<=c
def qi (a:Nat)(l:List af)(m:List af):Prop:=0 < a/\∀x∈l,3*tV x < a
def p_ (a:Nat)(l:List Pair)(m:List Pair):Prop:=0 < a/\∀x∈l,3*tV x.Key+1 < a/\3*tV x.Val+1 < a
def qf (a:Nat)(l:List Slot)(m:List Slot):Prop:=0 < a/\∀x∈l,3*tV x.Val+1 < a
def jb (c:Nat)(a:Pair)(b:Pair):Prop:=0 < c/\3*tV a.Key < c/\3*tV a.Val < c
def jd (c:Nat)(a:Slot)(b:Slot):Prop:=0 < c/\3*tV a.Val < c
def jA:Nat->(af->af->Int)×((List af)->(List af)->Int)×((List Pair)->(List Pair)->Int)×((List Slot)->(List Slot)->Int)×(Pair->Pair->Int)×(Slot->Slot->Int)
 | 0=>(fun _ _=>default,fun _ _=>default,fun _ _=>default,fun _ _=>default,fun _ _=>default,fun _ _=>default)
 | c+1=>(fun a b=>bif iy a.Kind then(aAH ((jA c).1) (fV c) ((jA c).2.1) (qi c) ((jA c).2.2.1) (p_ c) ((jA c).2.2.2.1) (qf c) ((jA c).2.2.2.2.1) (jb c) ((jA c).2.2.2.2.2) (jd c) a b).val else bif a.Kind==11 then(aA2 ((jA c).1) (fV c) ((jA c).2.1) (qi c) ((jA c).2.2.1) (p_ c) ((jA c).2.2.2.1) (qf c) ((jA c).2.2.2.2.1) (jb c) ((jA c).2.2.2.2.2) (jd c) a b).val else bif a.Kind==12 then(aoZ ((jA c).1) (fV c) ((jA c).2.1) (qi c) ((jA c).2.2.1) (p_ c) ((jA c).2.2.2.1) (qf c) ((jA c).2.2.2.2.1) (jb c) ((jA c).2.2.2.2.2) (jd c) a b).val else bif a.Kind==10 then(aAV ((jA c).1) (fV c) ((jA c).2.1) (qi c) ((jA c).2.2.1) (p_ c) ((jA c).2.2.2.1) (qf c) ((jA c).2.2.2.2.1) (jb c) ((jA c).2.2.2.2.2) (jd c) a b).val else(aA7 ((jA c).1) (fV c) ((jA c).2.1) (qi c) ((jA c).2.2.1) (p_ c) ((jA c).2.2.2.1) (qf c) ((jA c).2.2.2.2.1) (jb c) ((jA c).2.2.2.2.2) (jd c) a b).val,fun l m=>(cfL ((jA c).1) (fV c) ((jA c).2.1) (qi c) ((jA c).2.2.1) (p_ c) ((jA c).2.2.2.1) (qf c) ((jA c).2.2.2.2.1) (jb c) ((jA c).2.2.2.2.2) (jd c) l m).val,fun l m=>(cfP ((jA c).1) (fV c) ((jA c).2.1) (qi c) ((jA c).2.2.1) (p_ c) ((jA c).2.2.2.1) (qf c) ((jA c).2.2.2.2.1) (jb c) ((jA c).2.2.2.2.2) (jd c) l m).val,fun l m=>(cfS ((jA c).1) (fV c) ((jA c).2.1) (qi c) ((jA c).2.2.1) (p_ c) ((jA c).2.2.2.1) (qf c) ((jA c).2.2.2.2.1) (jb c) ((jA c).2.2.2.2.2) (jd c) l m).val,fun a b=>(aBu ((jA c).1) (fV c) ((jA c).2.1) (qi c) ((jA c).2.2.1) (p_ c) ((jA c).2.2.2.1) (qf c) ((jA c).2.2.2.2.1) (jb c) ((jA c).2.2.2.2.2) (jd c) a b).val,fun a b=>(aBa ((jA c).1) (fV c) ((jA c).2.1) (qi c) ((jA c).2.2.1) (p_ c) ((jA c).2.2.2.1) (qf c) ((jA c).2.2.2.2.1) (jb c) ((jA c).2.2.2.2.2) (jd c) a b).val)
def apd (a:af)(b:af):Int:=(jA (3*tV a)).1 a b
abbrev aaz (a:Nat):=aAH ((jA a).1) (fV a) ((jA a).2.1) (qi a) ((jA a).2.2.1) (p_ a) ((jA a).2.2.2.1) (qf a) ((jA a).2.2.2.2.1) (jb a) ((jA a).2.2.2.2.2) (jd a)
theorem ar2 (d:Nat)(a:af)(b:af)(h:fV (d+1) a b)(c:(iy a.Kind)=true):Is (aaz d a b):=
 eX iR (fun e=>aW ⟨by rw[<-e];exact c,trivial⟩ (aW ⟨c,trivial⟩ aO))
abbrev Zr (a:Nat):=aA2 ((jA a).1) (fV a) ((jA a).2.1) (qi a) ((jA a).2.2.1) (p_ a) ((jA a).2.2.2.1) (qf a) ((jA a).2.2.2.2.1) (jb a) ((jA a).2.2.2.2.2) (jd a)
theorem ao7 (d:Nat)(a:af)(b:af)(h:fV (d+1) a b)(c:(a.Kind==11)=true/\(iy a.Kind)=false):Is (Zr d a b):=
 eX iR (fun e=>aW ⟨by rw[<-e];exact c.2,by rw[<-e];exact c.1,trivial⟩ (aW ⟨c.2,c.1,trivial⟩ (aW ⟨by have:=kZ a;have h:3*tV a<=d+1:=h;omega,fun x f=>by have:=aj3 f;have h:3*tV a<=d+1:=h;omega⟩ aO)))
abbrev U1 (a:Nat):=aoZ ((jA a).1) (fV a) ((jA a).2.1) (qi a) ((jA a).2.2.1) (p_ a) ((jA a).2.2.2.1) (qf a) ((jA a).2.2.2.2.1) (jb a) ((jA a).2.2.2.2.2) (jd a)
theorem an3 (d:Nat)(a:af)(b:af)(h:fV (d+1) a b)(c:(a.Kind==12)=true/\(a.Kind==11)=false/\(iy a.Kind)=false):Is (U1 d a b):=
 eX iR (fun e=>aW ⟨by rw[<-e];exact c.2.2,by rw[<-e];exact c.2.1,by rw[<-e];exact c.1,trivial⟩ (aW ⟨c.2.2,c.2.1,c.1,trivial⟩ (aW ⟨by have:=kZ a;have h:3*tV a<=d+1:=h;omega,fun x f=>by have:=abh f;have h:3*tV a<=d+1:=h;omega⟩ aO)))
abbrev abj (a:Nat):=aAV ((jA a).1) (fV a) ((jA a).2.1) (qi a) ((jA a).2.2.1) (p_ a) ((jA a).2.2.2.1) (qf a) ((jA a).2.2.2.2.1) (jb a) ((jA a).2.2.2.2.2) (jd a)
theorem auE (d:Nat)(a:af)(b:af)(h:fV (d+1) a b)(c:(a.Kind==10)=true/\(a.Kind==12)=false/\(a.Kind==11)=false/\(iy a.Kind)=false):Is (abj d a b):=
 eX iR (fun e=>aW ⟨by rw[<-e];exact c.2.2.2,by rw[<-e];exact c.2.2.1,by rw[<-e];exact c.2.1,by rw[<-e];exact c.1,trivial⟩ (aW ⟨c.2.2.2,c.2.2.1,c.2.1,c.1,trivial⟩ (aW ⟨by have:=kZ a;have h:3*tV a<=d+1:=h;omega,fun x f=>by have:=ak7 f;have h:3*tV a<=d+1:=h;omega⟩ aO)))
abbrev ab1 (a:Nat):=aA7 ((jA a).1) (fV a) ((jA a).2.1) (qi a) ((jA a).2.2.1) (p_ a) ((jA a).2.2.2.1) (qf a) ((jA a).2.2.2.2.1) (jb a) ((jA a).2.2.2.2.2) (jd a)
theorem ap8 (d:Nat)(a:af)(b:af)(h:fV (d+1) a b)(c:(a.Kind==10)=false/\(a.Kind==12)=false/\(a.Kind==11)=false/\(iy a.Kind)=false):Is (ab1 d a b):=
 eX iR (fun e=>aW ⟨by rw[<-e];exact c.2.2.2,by rw[<-e];exact c.2.2.1,by rw[<-e];exact c.2.1,by rw[<-e];exact c.1,trivial⟩ (aW ⟨c.2.2.2,c.2.2.1,c.2.1,c.1,trivial⟩ aO))
abbrev az1 (a:Nat):=cfL ((jA a).1) (fV a) ((jA a).2.1) (qi a) ((jA a).2.2.1) (p_ a) ((jA a).2.2.2.1) (qf a) ((jA a).2.2.2.2.1) (jb a) ((jA a).2.2.2.2.2) (jd a)
theorem aCr (a:Nat)(l:List af)(m:List af)(h:qi (a+1) l m):Is (az1 a l m):=
 kL (eH fun _=>fU (.inr au) (fun b c _ _=>bW au au (eH fun _=>cZ iR (fun _=>bW au au (aW (by simp only[af.dO];have k:=h.2 (l.getD b fJ) (getD_mem au);show 3*tV (l.getD b fJ)<=a;omega) (eX iR iR))))) (fun c _=>aO)) (fun e d=>eH fun _=>eH fun _=>cZ iR iR)
abbrev aBD (a:Nat):=cfP ((jA a).1) (fV a) ((jA a).2.1) (qi a) ((jA a).2.2.1) (p_ a) ((jA a).2.2.2.1) (qf a) ((jA a).2.2.2.2.1) (jb a) ((jA a).2.2.2.2.2) (jd a)
theorem aCu (a:Nat)(l:List Pair)(m:List Pair)(h:p_ (a+1) l m):Is (aBD a l m):=
 kL (eH fun _=>fU (.inr au) (fun b c _ _=>bW au au (eH fun _=>cZ iR (fun _=>bW au au (aW (by simp only[af.dO];have k:=h.2 (l.getD b fO) (getD_mem au);exact⟨by omega,by show 3*tV (l.getD b fO).Key < a;omega,by show 3*tV (l.getD b fO).Val < a;omega⟩) (eX iR iR))))) (fun c _=>aO)) (fun e d=>eH fun _=>eH fun _=>cZ iR iR)
abbrev aBh (a:Nat):=cfS ((jA a).1) (fV a) ((jA a).2.1) (qi a) ((jA a).2.2.1) (p_ a) ((jA a).2.2.2.1) (qf a) ((jA a).2.2.2.2.1) (jb a) ((jA a).2.2.2.2.2) (jd a)
theorem aE7 (a:Nat)(l:List Slot)(m:List Slot)(h:qf (a+1) l m):Is (aBh a l m):=
 kL (eH fun _=>fU (.inr au) (fun b c _ _=>bW au au (eH fun _=>cZ iR (fun _=>bW au au (aW (by simp only[af.dO];have k:=h.2 (l.getD b bP) (getD_mem au);exact⟨by omega,by show 3*tV (l.getD b bP).Val < a;omega⟩) (eX iR iR))))) (fun c _=>aO)) (fun e d=>eH fun _=>eH fun _=>cZ iR iR)
abbrev akU (a:Nat):=aBu ((jA a).1) (fV a) ((jA a).2.1) (qi a) ((jA a).2.2.1) (p_ a) ((jA a).2.2.2.1) (qf a) ((jA a).2.2.2.2.1) (jb a) ((jA a).2.2.2.2.2) (jd a)
theorem asR (c:Nat)(a:Pair)(b:Pair)(h:jb (c+1) a b):Is (akU c a b):=
 aW (by simp only[af.dO];show 3*tV a.Key<=c;have:=h.2.1;omega) (aW (by simp only[af.dO];show 3*tV a.Val<=c;have:=h.2.2;omega) (aO))
abbrev ajY (a:Nat):=aBa ((jA a).1) (fV a) ((jA a).2.1) (qi a) ((jA a).2.2.1) (p_ a) ((jA a).2.2.2.1) (qf a) ((jA a).2.2.2.2.1) (jb a) ((jA a).2.2.2.2.2) (jd a)
theorem atf (c:Nat)(a:Slot)(b:Slot)(h:jd (c+1) a b):Is (ajY c a b):=
 aW (by simp only[af.dO];show 3*tV a.Val<=c;have:=h.2;omega) (aO)
set_option maxHeartbeats 4000000 in
theorem aAW:∀b,dJ Z.P Z.S 120 (mi (args (ak (aI aK) (a1 (aI aK)))) (R1 cI) 1 [] (fun a=>some (fV b (a.1) (a.2))) (fun a=>(jA b).1 (a.1) (a.2)))/\dJ Z.P Z.S 184 (mi (args (ak (bz iD) (ak (bz iD) (a1 (jP 120 []))))) (R1 cI) 1 [] (fun a=>some (qi b (a.1) (a.2.1))) (fun a=>(jA b).2.1 (a.1) (a.2.1)))/\dJ Z.P Z.S 185 (mi (args (ak (bz d_) (ak (bz d_) (a1 (jP 186 []))))) (R1 cI) 1 [] (fun a=>some (p_ b (a.1) (a.2.1))) (fun a=>(jA b).2.2.1 (a.1) (a.2.1)))/\dJ Z.P Z.S 188 (mi (args (ak (bz bH) (ak (bz bH) (a1 (jP 189 []))))) (R1 cI) 1 [] (fun a=>some (qf b (a.1) (a.2.1))) (fun a=>(jA b).2.2.2.1 (a.1) (a.2.1)))/\dJ Z.P Z.S 186 (mi (args (ak (aI qF) (a1 (aI qF)))) (R1 cI) 1 [] (fun a=>some (jb b (a.1) (a.2))) (fun a=>(jA b).2.2.2.2.1 (a.1) (a.2)))/\dJ Z.P Z.S 189 (mi (args (ak (aI kY) (a1 (aI kY)))) (R1 cI) 1 [] (fun a=>some (jd b (a.1) (a.2))) (fun a=>(jA b).2.2.2.2.2 (a.1) (a.2)))
 | 0=>⟨gp func120 eF (fun a h=>by have:=kZ (a.1);have h:3*tV (a.1)<=0:=h;omega),
  gp func184 eF (fun a h=>absurd h.1 (Qdm 0)),
  gp func185 eF (fun a h=>absurd h.1 (Qdm 0)),
  gp func188 eF (fun a h=>absurd h.1 (Qdm 0)),
  gp func186 eF (fun a h=>absurd h.1 (Qdm 0)),
  gp func189 eF (fun a h=>absurd h.1 (Qdm 0))⟩
 | b+1=>by
  obtain⟨j,i,c,d,g,f⟩:=aAW b;have p:dJ Z.P Z.S 120 (mi (args (ak (aI aK) (a1 (aI aK)))) (R1 cI) 1 [] (fun a=>some ((iy (a.1).Kind)=true/\(fV (b+1) (a.1) (a.2)))) (fun a=>(aaz b (a.1) (a.2)).val)):=zD [uh,aiN,MG,xR,adN,vZ,⟨120,_,j⟩,⟨184,_,i⟩,⟨185,_,c⟩,⟨188,_,d⟩,⟨186,_,g⟩,⟨189,_,f⟩] [] func120 ntmps120 (fun a=>aaz b a.1 a.2) (fun a h=>⟨ar2 b a.1 a.2 h.2 h.1,rfl⟩) (jr (n:=62) rfl);have l:dJ Z.P Z.S 120 (mi (args (ak (aI aK) (a1 (aI aK)))) (R1 cI) 1 [] (fun a=>some (((a.1).Kind==11)=true/\((iy (a.1).Kind)=false/\(fV (b+1) (a.1) (a.2))))) (fun a=>(Zr b (a.1) (a.2)).val)):=zD [uh,aq9,MG,xR,adN,vZ,⟨120,_,j⟩,⟨184,_,i⟩,⟨185,_,c⟩,⟨188,_,d⟩,⟨186,_,g⟩,⟨189,_,f⟩] [] func120 ntmps120 (fun a=>Zr b a.1 a.2) (fun a h=>⟨ao7 b a.1 a.2 h.2.2 ⟨h.1,h.2.1⟩,rfl⟩) (jr (n:=62) rfl);have m:dJ Z.P Z.S 120 (mi (args (ak (aI aK) (a1 (aI aK)))) (R1 cI) 1 [] (fun a=>some (((a.1).Kind==12)=true/\(((a.1).Kind==11)=false/\((iy (a.1).Kind)=false/\(fV (b+1) (a.1) (a.2)))))) (fun a=>(U1 b (a.1) (a.2)).val)):=zD [uh,atX,MG,xR,adN,vZ,⟨120,_,j⟩,⟨184,_,i⟩,⟨185,_,c⟩,⟨188,_,d⟩,⟨186,_,g⟩,⟨189,_,f⟩] [] func120 ntmps120 (fun a=>U1 b a.1 a.2) (fun a h=>⟨an3 b a.1 a.2 h.2.2.2 ⟨h.1,h.2.1,h.2.2.1⟩,rfl⟩) (jr (n:=62) rfl);have q:dJ Z.P Z.S 120 (mi (args (ak (aI aK) (a1 (aI aK)))) (R1 cI) 1 [] (fun a=>some (((a.1).Kind==10)=true/\(((a.1).Kind==12)=false/\(((a.1).Kind==11)=false/\((iy (a.1).Kind)=false/\(fV (b+1) (a.1) (a.2))))))) (fun a=>(abj b (a.1) (a.2)).val)):=zD [uh,apQ,MG,xR,adN,vZ,⟨120,_,j⟩,⟨184,_,i⟩,⟨185,_,c⟩,⟨188,_,d⟩,⟨186,_,g⟩,⟨189,_,f⟩] [] func120 ntmps120 (fun a=>abj b a.1 a.2) (fun a h=>⟨auE b a.1 a.2 h.2.2.2.2 ⟨h.1,h.2.1,h.2.2.1,h.2.2.2.1⟩,rfl⟩) (jr (n:=62) rfl);have o:dJ Z.P Z.S 120 (mi (args (ak (aI aK) (a1 (aI aK)))) (R1 cI) 1 [] (fun a=>some (((a.1).Kind==10)=false/\(((a.1).Kind==12)=false/\(((a.1).Kind==11)=false/\((iy (a.1).Kind)=false/\(fV (b+1) (a.1) (a.2))))))) (fun a=>(ab1 b (a.1) (a.2)).val)):=zD [uh,aqG,MG,xR,adN,vZ,⟨120,_,j⟩,⟨184,_,i⟩,⟨185,_,c⟩,⟨188,_,d⟩,⟨186,_,g⟩,⟨189,_,f⟩] [] func120 ntmps120 (fun a=>ab1 b a.1 a.2) (fun a h=>⟨ap8 b a.1 a.2 h.2.2.2.2 ⟨h.1,h.2.1,h.2.2.1,h.2.2.2.1⟩,rfl⟩) (jr (n:=62) rfl);exact⟨wK p (wK l (wK m (wK q (o)))),
   zD [⟨120,_,j⟩,⟨184,_,i⟩,⟨185,_,c⟩,⟨188,_,d⟩,⟨186,_,g⟩,⟨189,_,f⟩] [jS 2 (bJ (fun k=>[s0 13]) (l1 cI)),jS 100011 (bJ (fun k=>[]) l0)] func184 ntmps184 (fun a=>az1 b a.1 a.2.1) (fun a h=>⟨aCr b a.1 a.2.1 h,rfl⟩) (jr (n:=39) rfl),
   zD [⟨120,_,j⟩,⟨184,_,i⟩,⟨185,_,c⟩,⟨188,_,d⟩,⟨186,_,g⟩,⟨189,_,f⟩] [jS 2 (bJ (fun k=>[s0 13]) (l1 cI)),jS 100011 (bJ (fun k=>[]) l0)] func185 ntmps185 (fun a=>aBD b a.1 a.2.1) (fun a h=>⟨aCu b a.1 a.2.1 h,rfl⟩) (jr (n:=39) rfl),
   zD [⟨120,_,j⟩,⟨184,_,i⟩,⟨185,_,c⟩,⟨188,_,d⟩,⟨186,_,g⟩,⟨189,_,f⟩] [jS 2 (bJ (fun k=>[s0 13]) (l1 cI)),jS 100011 (bJ (fun k=>[]) l0)] func188 ntmps188 (fun a=>aBh b a.1 a.2.1) (fun a h=>⟨aE7 b a.1 a.2.1 h,rfl⟩) (jr (n:=39) rfl),
   zD [xR,⟨120,_,j⟩,⟨184,_,i⟩,⟨185,_,c⟩,⟨188,_,d⟩,⟨186,_,g⟩,⟨189,_,f⟩] [] func186 ntmps186 (fun a=>akU b a.1 a.2) (fun a h=>⟨asR b a.1 a.2 h,rfl⟩) (jr (n:=17) rfl),
   zD [uh,xR,⟨120,_,j⟩,⟨184,_,i⟩,⟨185,_,c⟩,⟨188,_,d⟩,⟨186,_,g⟩,⟨189,_,f⟩] [] func189 ntmps189 (fun a=>ajY b a.1 a.2) (fun a h=>⟨atf b a.1 a.2 h,rfl⟩) (jr (n:=17) rfl)⟩
def azw:aY Z:=⟨120,mi (args (ak (aI aK) (a1 (aI aK)))) (R1 cI) 1 [] (fun a=>some (True)) (fun a=>apd (a.1) (a.2)),jH (fun n=>((aAW n).1)) _ _ (fun a h=>⟨3*tV (a.1),oC _,rfl⟩)⟩
def aE1 (a:af)(b:af):Pg Bool:=.ob True (.ret (apd a.re b.re==0))
def aHW (a:af)(b:af):=(aE1 a b).val
theorem axn (a:af)(b:af):Is (aE1 a b):=
 aW (trivial) (aO)
def aDg:aY Z:=E0 [azw] [] (ak (aI aK) (a1 (aI aK))) (R1 aG) [] func69 1 (u2 aE1) fun a=>axn a.1 a.2
def Zc (b:List bZ)(a:Str):Pg (bZ×Bool):=aL b (.each false um b MV (fun d c (e:Unit)=> .ix d b.length (.br (c.Method==a) (.ret (.inr (c,true))) (rl ()))) (fun d (e:Unit)=> .ret (bZ.mk [] 0 0 0,false)) ())
def ayU (b:List bZ)(a:Str):=(Zc b a).val
theorem UZ (b:List bZ)(a:Str)(h:b.length<=1048576):jG (Zc b a) (fun r=>(∀x∈b,x.Method.length<=1048576)->r.1.Method.length<=1048576):=
 by
 unfold Zc;exact dw (bY (fun _ _=>True) trivial au (fun k y c _=>aU au au (dZ (fun _=>ah fun q=>q _ (getD_mem c)) (fun _=>ah trivial))) (fun y _=>ah fun _=>vP _))
def as6:aY Z:=E1 [] [jS 2 (bJ (fun b=>[s0 10]) (l1 cI))] (ak (bz pF) (a1 (bz cStr))) (shr [.slot 0 true (nn 4), s0 1] (ay jc (l1 aG))) [] func27 2 (u2 Zc) (fun a=>a.1.length<=1048576) fun a h=>(UZ a.1 a.2 h).1
def ZV (p:df)(b:Str)(l:List Str):Pg (List af×Int):=aL l (.each false oG l [] (fun d e (a:List af)=> .ix d l.length (.ob (dR p/\okL pK) (.lt (wS p b e pK) fun c=> .br (c.2 !=0) (.ret (.inr ([],c.2))) (.ob (dE (a.length+1) 128) (rl (a++[c.1.re])))))) (fun d (a:List af)=> .ret (a,0)) [])
def ay3 (p:df)(a:Str)(l:List Str):=(ZV p a l).val
theorem ahS (p:df)(a:Str)(l:List Str)(h:dR p/\l.length<=1048576):jG (ZV p a l) (fun _=>True):=
 by
 unfold ZV;exact dw (bY (fun k y=>y.length<=k) (vP _) au (fun k y d b=>aU au au (aj ⟨h.1,JD⟩ (aC fun v c=>dW (fun _=>ah trivial) (fun _=>aj (dI au au) (ah (by show(y++[_]).length<=k+1;rw[qO];exact Nat.succ_le_succ b)))))) (fun y _=>ah trivial))
def atq:aY Z:=E1 [vY,z_] [jS 3 (bJ (fun b=>[s0 15, .slot 8 false [some 61]]) (ay cI (l1 iD)))] (ak (aI dN) (ak (bz cStr) (a1 (bz bF)))) (shr [s0 0, s0 1] (ay iD (l1 cI))) [] func28 2 (u3 ZV) (fun a=>dR a.1/\a.2.2.length<=1048576) fun a h=>(ahS a.1 a.2.1 a.2.2 h).1
def anC (x:Str)(y:Str)(p:df)(a:Str)(bad:Int):Pg (Bool×Int):=.ob (dR p/\okL pK) (.lt (wS p a x pK) fun b=> .br (b.2 !=0) (.ret (false,b.2)) (.ob (dR p/\okL pK) (.lt (wS p a y pK) fun c=> .br (c.2==0) (.ret (aHW b.1.re c.1.re,bad)) (.ret (false,bad)))))
def aJ_ (x:Str)(y:Str)(p:df)(a:Str)(bad:Int):=(anC x y p a bad).val
theorem aD0 (x:Str)(y:Str)(p:df)(a:Str)(bad:Int)(h:dR p):Is (anC x y p a bad):=
 aW qcp (dC fun d c=>eX iR (fun _=>aW qcp (dC fun e b=>dM iR iR)))
def aAE:aY Z:=Df [vY,z_,aDg] [] (ak (bz cStr) (ak (bz cStr) (ak (iE 0) (ak (iE 1) (a1 (iE 2)))))) (gQ (aS dN) (gQ (aS cStr) (b1 (aS cI)))) (shr [s0 0, .cells 2 [none]] (ay aG (l1 cI))) [0,1] func68 1 (fun a=>anC a.1.1 a.1.2.1 a.2.1 a.2.2.1 a.2.2.2) (fun a=>dR a.2.1) fun a h=>aD0 a.1.1 a.1.2.1 a.2.1 a.2.2.1 a.2.2.2 h
def asz (a:List Str)(b:List Str)(p:df)(e:Str)(bad:Int):Pg (Int×Int):=aL a (.each false oG a [] (fun c g (d:Int)=> .ix c a.length (.ix c b.length (.ob (dR p) (.lt (aJ_ g (b.getD c.toNat []) p e d) fun f=> .br (!f.1) (.ret (.inr (c,f.2))) (rl f.2))))) (fun(c d:Int)=> .ret ((-1),d)) bad)
def aEB (a:List Str)(b:List Str)(p:df)(c:Str)(bad:Int):=(asz a b p c bad).val
theorem arX (a:List Str)(b:List Str)(p:df)(c:Str)(bad:Int)(h:dR p/\a.length=b.length):Is (asz a b p c bad):=
 eH fun _=>fU (.inr au) (fun i d f _=>bW au au (bW au au (aW h.1 (dC fun g e=>aT iR iR)))) (fun d _=>aO)
def avU:aY Z:=Df [aAE] [jS 2 (bJ (fun b=>[s0 10, .cells 2 [none]]) (ay cI (l1 cI)))] (ak (bz bF) (ak (bz bF) (a1 (jP 68 [0,1,2])))) (gQ (aS dN) (gQ (aS cStr) (b1 (aS cI)))) (shr [s0 0, .cells 2 [none]] (ay cI (l1 cI))) [0,1] func67 1 (fun a=>asz a.1.1 a.1.2.1 a.2.1 a.2.2.1 a.2.2.2) (fun a=>dR a.2.1/\a.1.1.length=a.1.2.1.length) fun a h=>arX a.1.1 a.1.2.1 a.2.1 a.2.2.1 a.2.2.2 h
def apJ (p:df)(c:Str)(b:List Str)(a:List Str):Pg (dF×Bool):=aL a (aL b (.br ((↑a.length:Int) !=(↑b.length:Int)) (.ret (dF.mk 0 4 0,true)) (.ob (dR p/\b.length=a.length) (.lt (aEB b a p c 0) fun d=> .ret (dF.mk 0 4 d.2,decide (0<=d.1))))))
def aCH (p:df)(a:Str)(c:List Str)(b:List Str):=(apJ p a c b).val
theorem atJ (p:df)(a:Str)(c:List Str)(b:List Str)(h:dR p):Is (apJ p a c b):=
 eH fun _=>eH fun _=>eX iR (fun e=>aW ⟨h,by omega⟩ (dC fun f d=>aO))
def awM:aY Z:=E1 [avU,aAE] [] (ak (aI dN) (ak (bz cStr) (ak (bz bF) (a1 (bz bF))))) (shr [.slot 0 true (nn 3), s0 1] (ay xW (l1 aG))) [] func30 2 (u4 apJ) (fun a=>dR a.1) fun a h=>atJ a.1 a.2.1 a.2.2.1 a.2.2.2 h
theorem axE (s:aH):(lH s).2=0\/(lH s).1=df.mk [] []:=by
 have k:VP (ach s) (fun r=>r.2=0\/r.1=df.mk [] []):=by
  unfold ach;exact jg (jK (fun _=>di (.inr rfl)) fun _=>lZ (fun _=>True) (CO (yh (fun _ _=>True) trivial (fun k y a _=>D9 (jg (jg (di trivial)))) fun y _=>di trivial)) fun y _=>CO (yh (fun _ _=>True) trivial (fun k y a _=>D9 (jg (jg (di trivial)))) fun y _=>di (.inl rfl)))
 exact k
theorem auk {s:aH}(h:okS s):dR (lH s).1:=by
 rcases axE s with e | e
 ·exact akw h e
 ·rw[e];exact fun g a=>by cases a
def Dt (t:Tape):Prop:=t.Method.length<=1048576/\Hg t.In/\t.In.length<=1048576
def apK (s:aH)(p:df)(a:List bZ)(t:Tape):Prop:=okS s/\okN s/\dR p/\(a.length<=1048576/\∀x∈a,x.Method.length<=1048576)/\Dt t
def uS (f:Tape->dF×Bool):Nat->List Tape->List dF
 | _,[]=>[]
 | k,t::l=>(bif (f t).2 then[dF.mk (k:Int) (f t).1.Kind (f t).1.Err]else[])++uS f (k+1) l
theorem UG (f:Tape->dF×Bool):∀(a b:List Tape) (k:Nat),uS f k (a++b)=uS f k a++uS f (k+a.length) b
 | [],b,k=>by simp[uS]
 | t::a,b,k=>by
  simp only[Qck,uS,AB,UG f a b (k+1),Qb2];rw[show k+1+a.length=k+(a.length+1) by omega]
theorem TI (f:Tape->dF×Bool):∀(l:List Tape) (k:Nat),(uS f k l).length<=l.length
 | [],k=>oC _
 | t::l,k=>by
  have:=TI f l (k+1);simp only[uS,qO,AB];cases(f t).2<;>simp<;>omega
theorem M_ (f:Tape->dF×Bool){l:List Tape}{i:Nat}(h:i < l.length):uS f 0 (l.take (i+1))=uS f 0 (l.take i)++(bif (f (l.getD i jy)).2 then[dF.mk (i:Int) (f (l.getD i jy)).1.Kind (f (l.getD i jy)).1.Err]else[]):=by
 have e:l.take (i+1)=l.take i++[l.getD i jy]:=by
  rw[Qds];congr 1;simp[List.getD,h]
 rw[e,UG,zC,Qcg au,FQ];simp[uS]
theorem ayz (f:Tape->dF×Bool){q:List Tape}{i:Nat}(h:i < q.length)(b:(f (q.getD i jy)).2=true):(uS f 0 (q.take i)).length < (uS f 0 q).length/\(uS f 0 q).getD (uS f 0 (q.take i)).length nU=dF.mk (i:Int) (f (q.getD i jy)).1.Kind (f (q.getD i jy)).1.Err:=by
 have e:uS f 0 q=(uS f 0 (q.take i)++[dF.mk (i:Int) (f (q.getD i jy)).1.Kind (f (q.getD i jy)).1.Err])++uS f (0+(q.take (i+1)).length) (q.drop (i+1)):=by
  conv=>lhs;rw[<-Qcd (i+1) q]
  rw[UG,M_ f h,b];rfl
 generalize uS f 0 (q.take i)=a at*;rw[e];constructor
 ·simp only[qO,AB,yz];omega
 ·simp[List.getD]
theorem aqE {q:List Tape}{i:Nat}(h:i < q.length):(q.take (i+1)).drop i=[q.getD i jy]:=by
 rw[List.drop_take,show i+1 - i=1 by omega];simp[List.getD,h,List.take_one,List.head?_drop]
def aq7 (e:aH)(s:aH)(p:df)(f:List bZ)(t:Tape):Pg (dF×Bool):=.ob (List.length t.Method<=1048576) (.ob (List.length t.Method<=1048576) (.ob (f.length<=1048576) (.lt (Bg e t.Method) fun d=> .br (d.2 !=0) (.ret (dF.mk 0 2 0,true)) (.lt (Bg s t.Method) fun a=> .br (a.2 !=0) (.ret (dF.mk 0 2 0,true)) (.br (d.1.Shape !=a.1.Shape) (.ret (dF.mk 0 2 0,true)) (.lt (ayU f t.Method) fun b=> .br (!b.2) (.ret (dF.mk 0 2 0,true)) (.ob (dR p/\t.In.length<=1048576) (.lt (ay3 p a.1.In t.In) fun g=> .br (g.2 !=0) (.ret (dF.mk 0 1 g.2,true)) (.ob (anP s b.1 t.In) (.lt (YI s b.1 t.In) fun c=> .br (c.2.Code !=t.Status.Code) (.ret (dF.mk 0 3 0,true)) (.ob (dR p) (.ret (aCH p a.1.Out t.Out c.1)))))))))))))
def Ea (a:aH)(s:aH)(p:df)(b:List bZ)(t:Tape):=(aq7 a s p b t).val
theorem ao5 (c:aH)(s:aH)(p:df)(a:List bZ)(t:Tape)(h:apK s p a t):Is (aq7 c s p a t):=
 by
 obtain⟨l,i,e,⟨d,g⟩,b,k,j⟩:=h;exact aW b (aW b (aW d (dC fun q _=>eX iR fun _=>dC fun n _=>eX iR fun _=>eX iR fun _=>dC fun o f=>aT iR fun _=>aW ⟨e,j⟩ (dC fun m _=>eX iR fun _=>aW ⟨l,i,by rw[f];exact(UZ a _ d).2 g,k⟩ (dC fun r _=>eX iR fun _=>aW e aO)))))
def ay5:aY Z:=E1 [FK,as6,atq,aif,awM] [] (ak (aI bn) (ak (aI bn) (ak (aI dN) (ak (bz pF) (a1 (aI PS)))))) (shr [.slot 0 true (nn 3), s0 1] (ay xW (l1 aG))) [] func12 2 (fun a=>aq7 a.1 a.2.1 a.2.2.1 a.2.2.2.1 a.2.2.2.2) (fun a=>apK a.2.1 a.2.2.1 a.2.2.2.1 a.2.2.2.2) fun a h=>ao5 a.1 a.2.1 a.2.2.1 a.2.2.2.1 a.2.2.2.2 h
def aiT (d:aH)(s:aH)(e:List bZ)(l:List Tape):Pg (List dF):=.ob (okS s) (aL l (.each false oG l jy (fun c g (a:List dF)=> .ix c l.length (.lt (lH s) fun f=> .ob (apK s f.1 e g) (.lt (Ea d s f.1 e g) fun b=> .br b.2 (.ob (dE (a.length+1) 24) (rl (a++[dF.mk c b.1.Kind b.1.Err]))) (rl a)))) (fun c (a:List dF)=> .ret a) []))
def apF (a:aH)(s:aH)(b:List bZ)(l:List Tape):=(aiT a s b l).val
theorem Na (a:aH)(s:aH)(b:List bZ)(l:List Tape)(h:okS s/\okN s/\(b.length<=1048576/\∀x∈b,x.Method.length<=1048576)/\(∀t∈l,Dt t)/\l.length<=1048576):jG (aiT a s b l) (fun r=>r=uS (fun t=>Ea a s (lH s).1 b t) 0 l):=
 by
 obtain⟨n,q,v,u,A⟩:=h;unfold aiT;refine aj n (dw (bY (fun k y=>y=uS (fun t=>Ea a s (lH s).1 b t) 0 (l.take k)) (by rw[Qdu];rfl) au (fun k y o c=> ?_) (fun y c=>ah (by rw[c,Lc]))));have w:=getD_mem (d:=jy) o;have i:=M_ (fun t=>Ea a s (lH s).1 b t) o;have p:=TI (fun t=>Ea a s (lH s).1 b t) (l.take k) 0;rw[zC]at p;have B:y.length<=1048576:=by rw[c];omega
 refine aU au au (aC fun z f=>aj ⟨n,q,by rw[f];exact auk n,v,u _ w⟩ (aC fun g j=>dX (fun e=>aj (dI au au) (ah ?_)) (fun e=>ah ?_)))
 ·have m:g=Ea a s (lH s).1 b (l.getD k jy):=by rw[j,f]
  show y++[dF.mk (k:Int) g.1.Kind g.1.Err]=_
  rw[i,<-c,<-m,e];rfl
 ·have m:g=Ea a s (lH s).1 b (l.getD k jy):=by rw[j,f]
  show y=_
  rw[i,<-c,<-m,e];simp
def axx:aY Z:=E1 [Jm,ay5] [jS 4 (bJ (fun b=>[s0 23, .slot 11 false [some 35]]) (ay cI (l1 BL)))] (ak (aI bn) (ak (aI bn) (ak (bz pF) (a1 (bz zG))))) (R1 BL) [] func7 1 (u4 aiT) (fun a=>okS a.2.1/\okN a.2.1/\(a.2.2.1.length<=1048576/\∀x∈a.2.2.1,x.Method.length<=1048576)/\(∀t∈a.2.2.2,Dt t)/\a.2.2.2.length<=1048576) fun a h=>(Na a.1 a.2.1 a.2.2.1 a.2.2.2 h).1
def adS (s:aH):Pg Bool:=.br (decide ((↑s.Messages.length:Int)<=8)) (.br (decide ((↑s.Enums.length:Int)<=8)) (.ret (decide ((↑s.gK.length:Int)<=8))) (.ret false)) (.ret false)
def aho (s:aH):=(adS s).val
theorem aoI (s:aH):Is (adS s):=
 cZ (fun _=>cZ iR iR) iR
def ayh:aY Z:=E0 [] [] (a1 (aI bn)) (R1 aG) [] func4 1 adS fun a=>aoI a
def Iu (l:List Str):Pg Bool:=.wh (l.length+1) default (fun(a:Int×Bool)=> .br a.2 (aL l (.br (decide (a.1 < (↑l.length:Int))) (.ix a.1 l.length (rl (dA .i64 (a.1+1),decide ((↑(List.length (l.getD a.1.toNat [])):Int)<=3000)))) (.ret (.inr a.2)))) (.ret (.inr a.2))) (0,decide ((↑l.length:Int)<=30))
def adl (l:List Str):=(Iu l).val
theorem OO (l:List Str):jG (Iu l) (fun r=>r=true->l.length<=30/\∀x∈l,x.length<=3000):=
 by
 unfold Iu;refine oU (fun x=>0<=x.1/\x.1<=l.length/\(x.2=true->l.length<=30/\∀j:Nat,(j:Int) < x.1->(l.getD j []).length<=3000)) (fun x=>((l.length:Int) - x.1).toNat) ⟨by omega,by omega,fun e=>⟨by have:=Fa e;omega,fun j a=>absurd a au⟩⟩ (by simp only[Int.sub_zero,DI];omega) fun x i=>dX (fun e=>dw (bK (fun h=>aU au au (ah ?_)) (fun h=>ah ?_))) (fun e=>ah fun d=>absurd d (by rw[e];decide))
 ·obtain⟨p,o,n⟩:=i;obtain⟨c,f⟩:=n e;have b:dA .i64 (x.1+1)=x.1+1:=eQ (k:= .i64) ve;refine⟨⟨by show 0<=dA .i64 (x.1+1);rw[b];omega,by show dA .i64 (x.1+1)<=_;rw[b];omega,fun d=>⟨c,fun j a=> ?_⟩⟩,by show((l.length:Int) - dA .i64 (x.1+1)).toNat < _;rw[b];omega⟩;have a:(j:Int) < dA .i64 (x.1+1):=a;rw[b]at a;by_cases g:(j:Int) < x.1
  ·exact f j g
  ·have k:=Fa (show decide (((l.getD x.1.toNat []).length:Int)<=3000)=true from d);rw[show x.1.toNat=j by omega]at k;omega
 ·intro _;obtain⟨c,f⟩:=i.2.2 e;refine⟨c,fun y m=> ?_⟩;obtain⟨j,a,rfl⟩:=List.mem_iff_getElem.1 m;have k:=f j au;rwa [List.getD,Ph a]at k
theorem aia (l:List Str):Is (Iu l):=(OO l).1
def anu:aY Z:=E0 [] [jS 3 (bJ (fun b=>[s0 4, s0 3]) (ay cI (l1 aG)))] (a1 (bz bF)) (R1 aG) [] func9 1 Iu fun a=>aia a
def VC (t:Tape):Prop:=t.In.length<=30/\∀x∈t.In,x.length<=3000
def J3 (l:List Tape):Pg Bool:=.wh (l.length+1) default (fun(a:Int×Bool)=> .br a.2 (aL l (.br (decide (a.1 < (↑l.length:Int))) (.ix a.1 l.length (.lt (dA .i64 (a.1+1)) fun b=> .br (adl (l.getD a.1.toNat jy).In) (.ix a.1 l.length (.br (adl (l.getD a.1.toNat jy).Out) (.ix a.1 l.length (rl (b,decide ((↑(List.length (l.getD a.1.toNat jy).Status.Text):Int)<=9000)))) (rl (b,false)))) (rl (b,false)))) (.ret (.inr a.2)))) (.ret (.inr a.2))) (0,decide ((↑l.length:Int)<=20))
def ade (l:List Tape):=(J3 l).val
theorem OA (l:List Tape):jG (J3 l) (fun r=>r=true->l.length<=20/\∀t∈l,VC t):=
 by
 unfold J3;refine oU (fun x=>0<=x.1/\x.1<=l.length/\(x.2=true->l.length<=20/\∀j:Nat,(j:Int) < x.1->VC (l.getD j jy))) (fun x=>((l.length:Int) - x.1).toNat) ⟨by omega,by omega,fun e=>⟨by have:=Fa e;omega,fun j c=>absurd c au⟩⟩ (by simp only[Int.sub_zero,DI];omega) fun x n=>dX (fun e=>dw (bK (fun h=>aU au au (aC fun a m=> ?_)) (fun h=>ah ?_))) (fun e=>ah fun g=>absurd g (by rw[e];decide))
 ·obtain⟨w,v,s⟩:=n;obtain⟨f,d⟩:=s e;have u:a=x.1+1:=m.trans (eQ (k:= .i64) ve);have next:∀b:Bool,(b=true->VC (l.getD x.1.toNat jy))->(0<=a/\a<=l.length/\(b=true->l.length<=20/\∀j:Nat,(j:Int) < a->VC (l.getD j jy)))/\((l.length:Int) - a).toNat < ((l.length:Int) - x.1).toNat:=fun b q=>by
   refine⟨⟨by omega,by omega,fun g=>⟨f,fun j c=> ?_⟩⟩,by omega⟩;by_cases i:(j:Int) < x.1
   ·exact d j i
   ·have k:=q g;rwa [show x.1.toNat=j by omega]at k
  exact dX (fun p=>aU au au (dX (fun _=>aU au au (ah (next _ fun _=>(OO _).2 p))) (fun _=>ah (next _ fun e=>by cases e)))) (fun _=>ah (next _ fun e=>by cases e))
 ·intro _;obtain⟨f,d⟩:=n.2.2 e;refine⟨f,fun y o=> ?_⟩;obtain⟨j,c,rfl⟩:=List.mem_iff_getElem.1 o;have k:=d j au;rwa [List.getD,Ph c]at k
theorem ahQ (l:List Tape):Is (J3 l):=(OA l).1
def amR:aY Z:=E0 [anu] [jS 3 (bJ (fun b=>[s0 4, s0 3]) (ay cI (l1 aG)))] (a1 (bz zG)) (R1 aG) [] func5 1 J3 fun a=>ahQ a
def okB (s:aH):Prop:=(∀m∈s.Messages,okM m)/\(∀e∈s.Enums,okE e)/\∀v∈s.gK,aa_ v
def okP (a s:aH)(b:List bZ)(q:List Tape):Prop:=okB a/\okB s/\okN s/\(∀x∈b,x.Method.length<=1048576)/\∀t∈q,t.Method.length<=1048576
theorem aAL {s:aH}(h:okB s)(f:aho s=true):okS s:=by
 have k:VP (adS s) (fun r=>r=true->s.Messages.length<=8/\s.Enums.length<=8/\s.gK.length<=8):=by
  unfold adS;have c:∀{p:Prop},(false=true->p):=fun e=>by cases e
  refine jK (fun d=>jK (fun a=>di fun b=> ?_) fun _=>di c) fun _=>di c;have d:=Fa d;have a:=Fa a;have b:=Fa b;omega
 obtain⟨i,j,g⟩:=k f;exact⟨by omega,by omega,by omega,h.1,h.2.1,h.2.2⟩
theorem aDe {A:Type}{f:A->Nat}{c:Nat}{l:List A}(h:∀x∈l,f x<=c):kD f l<=c*l.length:=by
 induction l with
 | nil=>exact vP _
 | cons a l b=>
  have g:=h a oI;have e:=b fun x d=>h x (by simp[d])
  simp only[kD,AB,Nat.mul_add,Qcy];omega
theorem azg {t:Tape}(b:t.Method.length<=1048576)(h:VC t):Dt t:=by
 obtain⟨e,a⟩:=h;refine⟨b,?_,by omega⟩;have q:kD (fun d:Str=>2+8*d.length) t.In<=24002*t.In.length:=aDe fun d c=>by have:=a d c;omega
 unfold Hg;omega
theorem as8 {X Y R:Type}{Q:R->Prop}{l:List Prop}{q:Option Prop}{s:Ix X Y}{a b:Int}{c:Int->Y->Pg (Y⊕R)}{f:Int->Y->Pg R}{y:Y}(I:Int->Y->Prop)(m:I a y)(r:ah1 l)(k: -9223372036854775808<=a)(o:b<=9223372036854775807)
  (g:∀(i:Int) (y:Y),a<=i->i < b->I i y->jG (c i y) (Sum.elim (I (i+1)) Q)) (n:∀i y,a<=i->b<=i->I i y->jG (f i y) Q):jG (.Hz l q s a b c f y) Q:=by
 have:=rM (s:=s) I m k o g n;refine⟨aeC I m r k (fun _=>o) (fun i y e d _ j=>⟨(g i y e d j).1,fun t p=> ?_⟩) (fun i y e d h=>(n i y e d h).1),this.2⟩;have:=(g i y e d j).2;rw[p]at this;exact this
noncomputable def law (d:aH)(s:aH)(f:List bZ)(q:List Tape):Pg Bool:=.br (!aho d) (.ret true) (.br (!aho s) (.ret true) (.br (!ade q) (.ret true) (.br (decide (8 < (↑f.length:Int))) (.ret true) (.ob (okS d) (.br (!X8 d) (.ret true) (.ob (okS s) (.br (!X8 s) (.ret true) (.ob (okS s/\ okN s/\ (f.length<=1048576/\∀(x:bZ),x∈f->List.length x.Method<=1048576)/\ (∀(t:Tape),t∈q->Dt t)/\q.length<=1048576) (.lt (apF d s f q) fun a=> .Hz [] (some (q.length<=9223372036854775807)) oG 0 (↑q.length:Int) (fun(e b:Int)=> .lt (dA .i64 (e+1)) fun g=> .ob (0<=e/\e<=g/\g<=(↑q.length:Int)) (.ob (okS s/\ okN s/\ (f.length<=1048576/\∀(x:bZ),x∈f->List.length x.Method<=1048576)/\ (∀(t:Tape),t∈List.drop e.toNat (List.take g.toNat q)->Dt t)/\(List.drop e.toNat (List.take g.toNat q)).length<=1048576) (.lt (apF d s f (List.drop e.toNat (List.take g.toNat q))) fun c=> .br (decide (1 < (↑c.length:Int))) (.ret (.inr false)) (.br ((↑c.length:Int)==1) (.br (decide ((↑a.length:Int)<=b)) (aL a (.ret (.inr false))) (.ix b a.length (.br ((a.getD b.toNat nU).Index !=e) (aL a (.ret (.inr false))) (.ix b a.length (.ix 0 c.length (.br ((a.getD b.toNat nU).Kind !=(c.getD 0 nU).Kind) (aL a (.ret (.inr false))) (.ix b a.length (.ix 0 c.length (.br ((a.getD b.toNat nU).Err !=(c.getD 0 nU).Err) (aL a (.ret (.inr false))) (.ix 0 c.length (aL a (.br ((c.getD 0 nU).Index !=0) (.ret (.inr false)) (rl (dA .i64 (b+1))))))))))))))) (rl b))))) (fun(e b:Int)=> .br (b==(↑a.length:Int)) (aL a (.ret true)) (aL a (.ret false))) 0)))))))))
theorem aje (a:aH)(s:aH)(c:List bZ)(q:List Tape)(h:okP a s c q):jG (law a s c q) (fun r=>r=true):=
 by
 obtain⟨J,p,C,K,N⟩:=h;unfold law;refine dX (fun _=>ah rfl) fun f1=>dX (fun _=>ah rfl) fun f2=>dX (fun _=>ah rfl) fun f3=>bK (fun _=>ah rfl) fun f4=> ?_;have G:okS a:=aAL J (by simpa using f1);have o:okS s:=aAL p (by simpa using f2);obtain⟨t1,t2⟩:=(OA q).2 (show ade q=true by simpa using f3);have z:∀t∈q,Dt t:=fun t h=>azg (N t h) (t2 t h)
 have u:c.length<=1048576/\∀x∈c,x.Method.length<=1048576:=⟨by omega,K⟩;have B:=And.intro o (And.intro C (And.intro u (And.intro z (show q.length<=1048576 by omega))));refine aj G (dX (fun _=>ah rfl) fun _=>aj o (dX (fun _=>ah rfl) fun _=>aj B (aC fun I F=> ?_)));have n:=F.trans (Na a s c q B).2;generalize S:(fun t=>Ea a s (lH s).1 c t)=f at n;refine as8 (fun i y=>∃k:Nat,i=(k:Int)/\k<=q.length/\y=((uS f 0 (q.take k)).length:Int)) ⟨0,rfl,vP _,by simp[uS]⟩ trivial qp au (fun i y Q O l=> ?_) (fun i y Q O l=> ?_)
 ·obtain⟨k,rfl,g,e⟩:=l;have g:k < q.length:=by omega
  refine lU fun A U P=> ?_;have L:A=(k:Int)+1:=P ⟨by omega,by omega⟩;have R:List.drop (k:Int).toNat (List.take A.toNat q)=[q.getD k jy]:=by
   rw[L,DI,show((k:Int)+1).toNat=k+1 by omega];exact aqE g
  rw[R];have v:∀t∈[q.getD k jy],Dt t:=fun t h=>by rw[BH.1 h];exact z _ (getD_mem g)
  have j:=And.intro o (And.intro C (And.intro u (And.intro v (show[q.getD k jy].length<=1048576 from by rw[Qbx];decide))));refine aj ⟨by omega,by omega,by omega⟩ (aj j (aC fun M E=> ?_));have b:=E.trans (Na a s c _ j).2;rw[S]at b;have b:M=bif (f (q.getD k jy)).2 then[dF.mk 0 (f (q.getD k jy)).1.Kind (f (q.getD k jy)).1.Err]else[]:=by rw[b];simp[uS]
  have d:=M_ f g;have w:=TI f (q.take (k+1)) 0;rw[zC]at w;cases m:(f (q.getD k jy)).2 with
  | false=>
   rw[m,qH]at b d;subst b;exact bK (fun h=>absurd h oI) (fun _=>dZ (fun h=>absurd h oI) (fun _=>ah ⟨k+1,by omega,by omega,by rw[d,Qd1];exact e⟩))
  | true=>
   rw[m,AC]at b d;subst b;obtain⟨a1,a2⟩:=ayz f g m;rw[<-n]at a1 a2;have T:I.getD y.toNat nU=dF.mk (k:Int) (f (q.getD k jy)).1.Kind (f (q.getD k jy)).1.Err:=by rw[e,DI];exact a2
   rw[T];have D:y+1=((uS f 0 (q.take (k+1))).length:Int):=by rw[d,qO,Qbx,e];omega
   have H:dA .i64 (y+1)=y+1:=eQ (k:= .i64) ve;refine bK (fun h=>absurd h (Int.lt_irrefl 1)) (fun _=> ?_);refine dZ (fun _=> ?_) (fun h=>absurd rfl h);refine bK (fun h=>absurd h au) (fun _=> ?_);refine aU au au (dW (fun h=>absurd rfl h) (fun _=> ?_));refine aU au au (aU (H8 0) Int.zero_lt_one (dW (fun h=>absurd rfl h) (fun _=> ?_)));refine aU au au (aU (H8 0) Int.zero_lt_one (dW (fun h=>absurd rfl h) (fun _=> ?_)));refine aU (H8 0) Int.zero_lt_one (dw (dW (fun h=>absurd rfl h) (fun _=>ah ⟨k+1,by omega,by omega,?_⟩)));show dA .i64 (y+1)=_
   rw[H];exact D
 ·obtain⟨k,rfl,g,e⟩:=l;rw[show k=q.length by omega,Lc,<-n]at e;exact dZ (fun _=>dw (ah rfl)) (fun h=>absurd e h)
theorem aCg (a:aH)(s:aH)(b:List bZ)(q:List Tape)(h:okP a s b q):Is (law a s b q):=(aje a s b q h).1
noncomputable def aI2:aY Z:=E2 [ayh,amR,afu,axx,azq] [jS 6 (bJ (fun d=>[s0 11, s0 10]) (ay cI (l1 cI)))] (ak (aI bn) (ak (aI bn) (ak (bz pF) (a1 (bz zG))))) (R1 aG) [] func3 1 (u4 law) (fun a=>some (okP a.1 a.2.1 a.2.2.1 a.2.2.2)) (fun a=>true) fun a h=>⟨aCg a.1 a.2.1 a.2.2.1 a.2.2.2 h,(fun b s c q h=>(aje b s c q h).2) a.1 a.2.1 a.2.2.1 a.2.2.2 h⟩
end
end Go.Proofs.YtebmficbjhcohaaGreatDoor
