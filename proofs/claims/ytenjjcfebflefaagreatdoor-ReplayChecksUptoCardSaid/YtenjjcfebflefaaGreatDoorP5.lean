/- Codecs, the reference: required fields. -/
import Derived.Test.YtenjjcfebflefaaGreatDoorP4
namespace Go.Proofs.YtenjjcfebflefaaGreatDoor
noncomputable section
open Go.RowKit Go.Vc
open Tryz
set_option linter.unusedVariables false
set_option linter.unusedSimpArgs false
set_option maxRecDepth 100000
theorem QR (v:af):wQ v=bif v.Kind==11 then v.List else bif v.Kind==12 then v.Pairs.map Pair.Val else[v]:=by
 have k:VP (VE v) (fun r=>r=bif v.Kind==11 then v.List else bif v.Kind==12 then v.Pairs.map Pair.Val else[v]):=by
  unfold VE;simp only[af.dn];refine iU (fun c=>bz (by rw[c];rfl)) (fun c=>iU (fun b=>lY (kW (fun i y=>y=(v.Pairs.take i).map Pair.Val) rfl (fun i y e a=>lT (bI (bz ?_))) (fun y a=>bz ?_))) (fun b=> ?_))
  ·show _=_
   rw[a,iI (d:=fH) e]
  ·rw[JG]at a;rw[c,b,a];rfl
  ·rw[c,b];repeat' first
    | exact bz rfl
    | refine bI ?_
    | (refine iW fun _ _=> ?_;subst_vars)
 exact k
theorem aoN {A:Type}(l:List A)(C:A->Bool):(!l.all C)=l.any fun x=> !C x:=by
 induction l with
 | nil=>rfl
 | cons a l b=>rw[Qcj,Qct,Bool.not_and,b]
theorem acS {A:Type}{l:List A}{B:A->Bool}{d:A}{i:Nat}(a:i < l.length)(h:B (l.getD i d)=true):l.any B=true:=UD.2 ⟨_,getD_mem a,h⟩
theorem XW {A:Type}{l:List A}{B:A->Bool}{d:A}(h:∀j,j < l.length->B (l.getD j d)=false):l.any B=false:=by
 refine Qc5.2 fun x a=> ?_;obtain⟨i,b,e⟩:=zW (d:=d) a;rw[<-e,h i b];decide
def alp (f:aJ->Int->af->Bool)(sF:aJ->Int->af->Prop)(d:aJ->Op->af->Bool)(jC:aJ->Op->af->Prop)(p:aJ)(prog:Int)(v:af):Pg Bool:=.Hr [0<=prog/\prog < (↑p.aO.length:Int)] true Ec (p.aO.getD prog.toNat aU).Ops vk (fun c b (e:Unit)=> .ix prog p.aO.length (.ix c (p.aO.getD prog.toNat aU).Ops.length (.lt (EE v.re b.Num) fun a=> .br (!a.2) (.br (b.Card==1) (.ret (.inr true)) (.br a.2 (.ob (jC p b a.1.re) (.br (d p b a.1.re) (.ret (.inr true)) (rl ()))) (rl ()))) (.br a.2 (.ob (jC p b a.1.re) (.br (d p b a.1.re) (.ret (.inr true)) (rl ()))) (rl ()))))) (fun c (e:Unit)=> .ret false) ()
def VT (f:aJ->Int->af->Bool)(sF:aJ->Int->af->Prop)(d:aJ->Op->af->Bool)(jC:aJ->Op->af->Prop)(p:aJ)(o:Op)(v:af):Pg Bool:=.br (o.Kind !=10) (.ret false) (.br (v.Kind==10) (.ob (sF p o.Target v.re) (.ret (f p o.Target v.re))) (.cut (fun(i:Unit)=> .each true Ec v.Pairs fH (fun a e (h:Unit)=> .ix a v.Pairs.length (.ob (jC p o e.Val.re) (.br (d p o e.Val.re) (.ret (.inr true)) (rl ())))) (fun a (h:Unit)=> .ret false) ()) (.each true Ec v.List l_ (fun b c (g:Unit)=> .ix b v.List.length (.ob (jC p o c.re) (.br (d p o c.re) (.ret (.inr (.inr true))) (rl ())))) (fun b (g:Unit)=> rl ()) ())))
def sF (a:Nat)(p:aJ)(prog:Int)(v:af):Prop:=pG p/\(0<=prog/\prog < p.aO.length)/\(wV p v (p.aO.getD prog.toNat aU)/\gV v)/\2*tV v<=a
def jC (b:Nat)(p:aJ)(o:Op)(v:af):Prop:=pG p/\True/\((o.Kind=10->(0<=o.Target/\o.Target < p.aO.length)/\∃a,wE p v (p.aO.getD o.Target.toNat aU) a)/\gV v)/\2*tV v+1<=b
def TI:Nat->(aJ->Int->af->Bool)×(aJ->Op->af->Bool)
 | 0=>(fun _ _ _=>default,fun _ _ _=>default)
 | a+1=>(fun p prog v=>(alp ((TI a).1) (sF a) ((TI a).2) (jC a) p prog v).val,fun p o v=>(VT ((TI a).1) (sF a) ((TI a).2) (jC a) p o v).val)
def Uf (p:aJ)(prog:Int)(v:af):Bool:=(TI (2*tV v+0)).1 p prog v
def akA (a:Nat):Prop:=(∀(p:aJ) (prog:Int) (v:af),sF a p prog v->(fun y=>∀q k,rp p q->tV v<=k->y= !(UL k) q prog v) ((TI a).1 p prog v))/\(∀(p:aJ) (o:Op) (v:af),jC a p o v->(fun y=>∀q k,rp p q->tV v<=k->y=bif o.Kind==10 then !(wQ v).all ((UL k) q o.Target)else false) ((TI a).2 p o v))
abbrev NF (a:Nat):=alp ((TI a).1) (sF a) ((TI a).2) (jC a)
theorem VC (f:Nat)(U:akA f)(p:aJ)(prog:Int)(v:af)(h:sF (f+1) p prog v):kw (NF f p prog v) (fun y=>∀q k,rp p q->tV v<=k->y= !(UL k) q prog v):=
 by
 obtain⟨H,D,⟨T,S⟩,V⟩:=h;have x:p.aO.getD prog.toNat aU∈p.aO:=getD_mem au;have z:=H.1 _ x;have C:=(H.2.2 _ x).1;have M:∀o∈(p.aO.getD prog.toNat aU).Ops,(dG v o.Num).2=true->jC f p o (dG v o.Num).1/\tV (dG v o.Num).1 < tV v:=fun o a e=>by
  rcases xk v o.Num with⟨_,s,Q,W,R⟩ | ⟨K,_⟩
  ·obtain⟨N,O⟩:=Vh S Q;rw[R]at N O;exact⟨⟨H,trivial,⟨fun g=>⟨(z.2 o a).1 g,o.Card,ady T C a g e⟩,N⟩,by omega⟩,O⟩
  ·rw[e]at K;cases K
 let B:Op->Bool:=fun o=>bif (dG v o.Num).2 then(TI f).2 p o (dG v o.Num).1 else o.Card==1
 have t:∀q k,rp p q->tV v<=k->(p.aO.getD prog.toNat aU).Ops.any B= !(UL k) q prog v:=fun q k l g=>by
  obtain⟨k,rfl⟩:∃n,k=n+1:=⟨k - 1,by have:=xM v;omega⟩;rw[aeB,l.1,aoN];rw[Qba,UD,UD];have e:∀o∈(p.aO.getD prog.toNat aU).Ops,B o= !(bif (dG v o.Num).2 then(o.Kind !=10 || (wQ (dG v o.Num).1).all ((UL k) q o.Target))else o.Card !=1):=fun o a=>by
   simp only[B];cases c:(dG v o.Num).2 with
   | false=>simp only[jm];cases G:o.Card==1<;>simp[bne,G]
   | true=>
    obtain⟨a1,a2⟩:=M o a c;simp only[cond_true];rw[U.2 p o _ a1 q k l au];cases G:o.Kind==10<;>simp[bne,G]
  exact⟨fun⟨o,a,h⟩=>⟨o,a,by rw[<-e o a];exact h⟩,fun⟨o,a,h⟩=>⟨o,a,by rw[e o a];exact h⟩⟩
 unfold NF alp;simp only[af.dn];refine QN (fun i _=>∀j,j < i->B ((p.aO.getD prog.toNat aU).Ops.getD j vk)=false) (fun j I=>absurd I au) ⟨D,trivial⟩ (by have:=z.1;omega) (fun i _ P E=>aX D.1 D.2 (aX au au (aI fun m L=> ?_))) (fun _ E=>ai fun q k l g=> ?_)
 ·have a:=getD_mem (d:=vk) P;have r:B ((p.aO.getD prog.toNat aU).Ops.getD i vk)=bif m.2 then(TI f).2 p ((p.aO.getD prog.toNat aU).Ops.getD i vk) m.1 else((p.aO.getD prog.toNat aU).Ops.getD i vk).Card==1:=by
   rw[L,ug]
  have u:B ((p.aO.getD prog.toNat aU).Ops.getD i vk)=true->∀q k,rp p q->tV v<=k->true= !(UL k) q prog v:=fun A q k l g=>by
   rw[<-t q k l g,acS P A]
  have w:B ((p.aO.getD prog.toNat aU).Ops.getD i vk)=false->∀j,j < i+1->B ((p.aO.getD prog.toNat aU).Ops.getD j vk)=false:=fun A j I=>by
   rcases Qc7 j i with q | q
   ·exact E j q
   ·rw[show j=i by omega];exact A
  have J:m.2=true->jC f p ((p.aO.getD prog.toNat aU).Ops.getD i vk) m.1:=fun e=>by
   rw[L,ug]at e⊢;exact(M _ a e).1
  generalize (p.aO.getD prog.toNat aU).Ops.getD i vk=o at*;refine dL (fun c=> ?_) (fun c=> ?_)
  ·have c:m.2=false:=by simpa using c
   rw[c]at r;refine dL (fun b=>ai (u (r.trans b))) (fun b=>dL (fun F=>absurd F (by rw[c];decide)) (fun _=>ai (w (r.trans b))))
  ·have c:m.2=true:=by simpa using c
   rw[c]at r;refine dL (fun _=>aj (J c) (dL (fun b=>ai (u (r.trans b))) (fun b=>ai (w (r.trans b))))) (fun F=>absurd c (by rw[F];decide))
 ·rw[<-t q k l g,XW E]
abbrev Fb (a:Nat):=VT ((TI a).1) (sF a) ((TI a).2) (jC a)
theorem Oi (b:Nat)(O:akA b)(p:aJ)(o:Op)(v:af)(h:jC (b+1) p o v):kw (Fb b p o v) (fun y=>∀q k,rp p q->tV v<=k->y=bif o.Kind==10 then !(wQ v).all ((UL k) q o.Target)else false):=
 by
 obtain⟨M,_,⟨T,t⟩,W⟩:=h;have S:=uS t;unfold Fb VT;simp only[af.dn];refine dY (fun w=>ai fun q k d a=>by rw[beq_false_of_ne w];rfl) (fun w=> ?_);obtain⟨F,l,g⟩:=T w;rw[vV]at g;rw[show(o.Kind==10)=true from beq_iff_eq.2 w];simp only[cond_true];refine dR (fun C=> ?_) (fun C=> ?_)
 ·have N:wV p v (p.aO.getD o.Target.toNat aU):=g.2.2 (fun e=>by have:=(g.1 e).1;omega) (fun e=>by have:=(g.2.1 e).1;omega);have n:sF b p o.Target v:=⟨M,F,⟨N,t⟩,by omega⟩;refine aj n (ai fun q k d a=> ?_);rw[O.1 p o.Target v n q k d a,QR,C];simp
 ·have D:l=4\/l=5:=by
   by_cases K:l=4
   ·exact .inl K
   ·by_cases H:l=5
    ·exact .inr H
    ·exact absurd (BG.1 (g.2.2 K H)).1 C
  have J:∀x,gV x->tV x < tV v->wV p x (p.aO.getD o.Target.toNat aU)->jC b p o x/\∀q k,rp p q->tV v<=k->(TI b).2 p o x= !(UL k) q o.Target x:=fun x U V I=>by
   have n:jC b p o x:=⟨M,trivial,⟨fun _=>⟨F,0,vV.2 ⟨fun e=>absurd e jy,fun e=>absurd e jy,fun _ _=>I⟩⟩,U⟩,by omega⟩;refine⟨n,fun q k d a=> ?_⟩;rw[O.2 p o x n q k d au,QR,(BG.1 I).1,beq_iff_eq.2 w];simp
  have L:∀x∈v.List,wV p x (p.aO.getD o.Target.toNat aU):=fun x f=>by
   rcases D with e | e
   ·exact(g.1 e).2.2 x f
   ·rw[(g.2.1 e).2.1]at f;cases f
  have G:∀x∈v.Pairs,wV p x.Val (p.aO.getD o.Target.toNat aU):=fun x f=>by
   rcases D with e | e
   ·rw[(g.1 e).2.1]at f;cases f
   ·exact(g.2.1 e).2.2 x f
  have E:=fun(x:af) (f:x∈v.List)=>J x (TZ t f).1 (TZ t f).2 (L x f)
  have A:=fun(x:Pair) (f:x∈v.Pairs)=>J x.Val (HY t f).1 (HY t f).2.1 (G x f)
  have s:∀q k,rp p q->tV v<=k->(!(wQ v).all ((UL k) q o.Target))=(v.List.any ((TI b).2 p o) || v.Pairs.any fun x=>(TI b).2 p o x.Val):=fun q k d a=>by
   have R:(v.List.any ((TI b).2 p o))=v.List.any fun x=> !(UL k) q o.Target x:=by
    rw[Qba,UD,UD];exact⟨fun⟨x,m,y⟩=>⟨x,m,by rw[<-(E x m).2 q k d a];exact y⟩,fun⟨x,m,y⟩=>⟨x,m,by rw[(E x m).2 q k d a];exact y⟩⟩
   have P:(v.Pairs.any fun x=>(TI b).2 p o x.Val)=v.Pairs.any fun x=> !(UL k) q o.Target x.Val:=by
    rw[Qba,UD,UD];exact⟨fun⟨x,m,y⟩=>⟨x,m,by rw[<-(A x m).2 q k d a];exact y⟩,fun⟨x,m,y⟩=>⟨x,m,by rw[(A x m).2 q k d a];exact y⟩⟩
   rw[aoN,QR,R,P];rcases D with e | e
   ·rw[(g.1 e).1,(g.1 e).2.1];simp
   ·rw[(g.2.1 e).1,(g.2.1 e).2.1];simp[List.any_map,Function.comp_def]
  refine bP (fun _=>v.List.any ((TI b).2 p o)=false) (dA (fun i _=>∀j,j < i->(TI b).2 p o (v.List.getD j l_)=false) (fun j u=>absurd u au) au (fun i _ z r=>aX au au (aj (E _ (getD_mem z)).1 (dL (fun c=>ai fun q k d a=> ?_) (fun c=>ai fun j u=> ?_)))) (fun _ r=>ai (XW r))) fun _ Q=>dA (fun i _=>∀j,j < i->(TI b).2 p o (v.Pairs.getD j fH).Val=false) (fun j u=>absurd u au) (by have:=S.2.2.2.1;omega) (fun i _ z r=>aX au au (aj (A _ (getD_mem z)).1 (dL (fun c=>ai fun q k d a=> ?_) (fun c=>ai fun j u=> ?_)))) (fun _ r=>ai fun q k d a=> ?_)
  ·rw[s q k d a,acS z c];rfl
  ·rcases Qc7 j i with q | q
   ·exact r j q
   ·rw[show j=i by omega];exact c
  ·rw[s q k d a,acS (B:=fun x:Pair=>(TI b).2 p o x.Val) z c,Bool.or_true]
  ·rcases Qc7 j i with q | q
   ·exact r j q
   ·rw[show j=i by omega];exact c
  ·rw[s q k d a,Q,XW (B:=fun x:Pair=>(TI b).2 p o x.Val) r];rfl
theorem Oj:∀a,akA a
 | 0=>⟨fun p prog v h=>False.elim (by have k:=h.2.2.2;have:=xM v;omega),
  fun p o v h=>False.elim (by have k:=h.2.2.2;have:=xM v;omega)⟩
 | a+1=>⟨fun p prog v h=>(VC a (Oj a) p prog v h).2,
  fun p o v h=>(Oi a (Oj a) p o v h).2⟩
theorem aqI (a:Nat)(p:aJ)(prog:Int)(v:af)(h:sF (a+1) p prog v):Is (NF a p prog v):=(VC a (Oj a) p prog v h).1
theorem aiL (a:Nat)(p:aJ)(o:Op)(v:af)(h:jC (a+1) p o v):Is (Fb a p o v):=(Oi a (Oj a) p o v h).1
theorem ad_ (p:aJ)(prog:Int)(v:af)(h:pG p/\(0<=prog/\prog < p.aO.length)/\(wV p v (p.aO.getD prog.toNat aU)/\gV v)):(fun y=>∀q k,rp p q->tV v<=k->y= !(UL k) q prog v) (Uf p prog v):=(Oj (2*tV v+0)).1 p prog v (⟨h.1,h.2.1,h.2.2,rC _⟩)
theorem aCn:∀b,fK Z.P Z.S 139 (xK (args (ax (aQ dU) (ax (df cI) (a1 (aQ aH))))) (R1 aW) 1 [] (fun a=>some (sF b (a.1) (a.2.1) (a.2.2))) (fun a=>(TI b).1 (a.1) (a.2.1) (a.2.2)))/\fK Z.P Z.S 220 (xK (args (ax (aQ dU) (ax (aQ jD) (a1 (aQ aH))))) (R1 aW) 1 [] (fun a=>some (jC b (a.1) (a.2.1) (a.2.2))) (fun a=>(TI b).2 (a.1) (a.2.1) (a.2.2)))
 | 0=>⟨jU func139 fO (fun a h=>by have k:=h.2.2.2;have:=xM (a.2.2);omega),
  jU func220 fO (fun a h=>by have k:=h.2.2.2;have:=xM (a.2.2);omega)⟩
 | b+1=>by
  obtain⟨d,f⟩:=aCn b;exact⟨Um [BU,⟨139,_,d⟩,⟨220,_,f⟩] [jS 2 (dh (fun c=>[s0 7]) (l1 cI))] func139 ntmps139 (fun a=>NF b a.1 a.2.1 a.2.2) (fun a h=>⟨aqI b a.1 a.2.1 a.2.2 h,rfl⟩) (oP (n:=54) rfl),
   Um [⟨139,_,d⟩,⟨220,_,f⟩] [jS 6 (dh (fun c=>[s0 7]) (l1 cI)),jS 11 (dh (fun c=>[s0 8]) (l1 cI)),jS 100010 (dh (fun c=>[]) l0)] func220 ntmps220 (fun a=>Fb b a.1 a.2.1 a.2.2) (fun a h=>⟨aiL b a.1 a.2.1 a.2.2 h,rfl⟩) (oP (n:=51) rfl)⟩
def atV:bT Z:=⟨139,xK (args (ax (aQ dU) (ax (df cI) (a1 (aQ aH))))) (R1 aW) 1 [] (fun a=>some (pG (a.1)/\(0<=(a.2.1)/\(a.2.1) < (a.1).aO.length)/\(wV (a.1) (a.2.2) ((a.1).aO.getD (a.2.1).toNat aU)/\gV (a.2.2)))) (fun a=>Uf (a.1) (a.2.1) (a.2.2)),uM (fun n=>((aCn n).1)) _ _ (fun a h=>⟨2*tV (a.2.2)+0,⟨h.1,h.2.1,h.2.2,rC _⟩,rfl⟩)⟩
def JX (m:aK)(i:Int):Prop:=i=0\/(m.Fields.getD (bJ .i64 (i - 1)).toNat aB).Num < (m.Fields.getD i.toNat aB).Num
theorem aqD {s:aF}{m:aK}{i:Int}{x:ak}(h:(Em s m i x).out=[]):JX m i:=by
 have k:VP (field s m i x) (fun y=>y.out=[]->JX m i):=by
  unfold field;simp only[af.dn];refine lT (gZ (fun _=>True) (bz trivial) fun q _=>gZ (fun _=>True) ?_ fun o _=>gZ (fun z=>z.out=[]->JX m i) ?_ fun p u=>gZ (fun z=>z.out=[]->JX m i) ?_ fun A r=>gZ (fun z=>z.out=[]->JX m i) ?_ fun j B=>gZ (fun z=>z.out=[]->JX m i) ?_ fun e f=>gZ (fun z=>z.out=[]->JX m i) ?_ fun t g=>gZ (fun z=>z.out=[]->JX m i) ?_ fun l w=>gZ (fun z=>z.out=[]->JX m i) ?_ fun n b=> ?_)
  ·exact iU (fun _=>bI (bz trivial)) (fun _=>bI (bz trivial))
  ·refine iU (fun c=>bI (bz fun _=> .inl (eq_of_beq c))) (fun _=>iW fun v a=>lT (bI (bz fun h=> .inr ?_)));rw[a]at h;exact EU (fJ h).1
  all_goals repeat' first
   | exact bz fun h=>‹∀(_:_=[]),JX m i› (fJ h).2
   | exact bz fun h=>b (fJ (yF h)).2
   | refine bI ?_
   | refine lT ?_
   | (refine iW fun x d=> ?_;subst d)
   | refine iU (fun _=> ?_) (fun _=> ?_)
 exact k h
theorem aqN {s:aF}{m:aK}{b:List (Str×Bool)}(h:vZ s m b=[]){i:Nat}(g:i < m.Fields.length):JX m i:=by
 have k:VP (Rx s m b) (fun r=>r=[]->∀i:Nat,i < m.Fields.length->JX m i):=by
  unfold Rx;refine gZ (fun _=>True) (bI (bI (bz trivial))) fun q _=>gZ (fun _=>True) (iU (fun _=>bI (lY (lY (bz trivial)))) (fun _=>bI (bz trivial))) fun p _=>
   gZ (fun y=>y.out=[]->∀i:Nat,i < m.Fields.length->JX m i) (lY (axP (fun i y=>y.out=[]->∀j:Nat,(j:Int) < i->JX m j) (fun _ j c=>absurd c au) (fun i y l f a=>bI (bz fun h=> ?_)) (fun i y l f a=>bz fun h j c=>a h j au))) fun o n=>
   bI (lY (kW (fun _ y=>y.out=[]->∀i:Nat,i < m.Fields.length->JX m i) (fun h=>n (PO h)) (fun k y u a=>lT (bI (bI (bz fun h=>a (fJ h).2)))) (fun y a=>bI (bI (iW fun t d=>bI (bz fun h=> ?_))))))
  ·intro j c;rcases Int.lt_or_eq_of_le (show(j:Int)<=i by omega)with e | e
   ·exact a (ab6 h).1 j e
   ·rw[e];exact aqD h
  ·subst d;exact a (yF (fJ h).2)
 exact k h i g
theorem aqX {s:aF}(h:nK s=true){m:aK}(t:m∈s.Messages)(v:m.Fields.length<=1048576):m.Fields.Pairwise fun a b=>a.Num < b.Num:=by
 have e:F8 s=[]:=by
  unfold nK PW at h;simp only[bG,bF,gm,ay]at h;cases o:F8 s with
  | nil=>rfl
  | cons a l=>rw[o]at h;simp at h;omega
 have f:∀n:Nat,n+1 < m.Fields.length->(m.Fields.getD n aB).Num < (m.Fields.getD (n+1) aB).Num:=fun n c=>by
  rcases aqN (ahl e t) c with k | k
  ·exact absurd k au
  ·rw[bY (k:= .i64) p_,show(((n+1:Nat):Int) - 1).toNat=n by omega]at k;exact k
 have g:∀(d n:Nat),n+d+1 < m.Fields.length->(m.Fields.getD n aB).Num < (m.Fields.getD (n+d+1) aB).Num:=fun d=>by
  induction d with
  | zero=>exact fun n c=>f n c
  | succ d p=>exact fun n c=>Int.lt_trans (p n au) (f (n+d+1) au)
 rw[Qco];intro i j r q u;have k:=g (j - i - 1) i au;rw[show i+(j - i - 1)+1=j by omega]at k;simpa[List.getD,r,q]using k
def rJ (u:List Str)(f:bu):List Str:=if f.Union=[]then u else if f.Union∈u then u else u++[f.Union]
def dX (l:List bu):List Str:=l.foldl rJ []
noncomputable def opF (s:aF)(u:List Str)(f:bu):Op:=Op.mk f.Num f.Name (wM f.Notes) f.Card f.Key f.di.Kind (oC s f.di) (if f.Union=[]then -1 else dP (fun x=>f.Union==x) u)
theorem aw0 {A:Type}(p:A->Bool){l r:List A}(h:l.any p=true):dP p (l++r)=dP p l:=by
 rcases uk p l with⟨_,k⟩ | ⟨u,a,v,rfl,e,d,k⟩
 ·obtain⟨x,c,b⟩:=UD.1 h;rw[k x c]at b;cases b
 ·rw[k,Qa2,Qb1];exact avz p u a (v++r) d e
theorem axK (u:List Str)(f:bu):∃t,rJ u f=u++t:=by
 unfold rJ;split
 ·exact⟨[],(Qbk _).symm⟩
 ·split
  ·exact⟨[],(Qbk _).symm⟩
  ·exact⟨_,rfl⟩
theorem WL:∀(l:List bu) (u:List Str),∃t,l.foldl rJ u=u++t
 | [],u=>⟨[],(Qbk _).symm⟩
 | f::l,u=>by
  obtain⟨t,h⟩:=axK u f;obtain⟨t2,a⟩:=WL l (rJ u f);exact⟨t++t2,by rw[Qde,a,h,Qa2]⟩
theorem avS {l:List bu}{i:Nat}(a:i < l.length)(b:(l.getD i aB).Union≠[]):dP (fun x=>(l.getD i aB).Union==x) (rJ (dX (l.take i)) (l.getD i aB))=dP (fun x=>(l.getD i aB).Union==x) (dX l):=by
 have e:dX l=(l.drop (i+1)).foldl rJ (rJ (dX (l.take i)) (l.getD i aB)):=by
  conv=>lhs;rw[<-Qbf (i+1) l,take_snoc (d:=aB) a]
  unfold dX;rw[Qd0,Qd0];rfl
 obtain⟨t,h⟩:=WL (l.drop (i+1)) (rJ (dX (l.take i)) (l.getD i aB));rw[e,h];refine(aw0 _ ?_).symm;rw[UD];refine⟨_,?_,Qc2 _⟩;unfold rJ;rw[kT b];split
 ·assumption
 ·exact Qb3 _ (FY.2 rfl)
theorem abf (s:aF)(m:aK):mP s m=bC.mk m.Name (m.Fields.map (opF s (dX m.Fields))) (dX m.Fields).length:=by
 have k:VP (ahA s m) (fun g=>g=bC.mk m.Name (m.Fields.map (opF s (dX m.Fields))) (dX m.Fields).length):=by
  unfold ahA;refine lY (kW (fun i y=>y.1=dX (m.Fields.take i)/\y.2=bC.mk m.Name ((m.Fields.take i).map (opF s (dX m.Fields))) 0) ⟨rfl,rfl⟩ (fun i y q n=> ?_) (fun y n=>lY (bz ?_)))
  ·obtain⟨B,u⟩:=n;have o:=avS q;have t:(m.Fields.take (i+1)).map (opF s (dX m.Fields))=(m.Fields.take i).map (opF s (dX m.Fields))++[opF s (dX m.Fields) (m.Fields.getD i aB)]:=iI q;have w:dX (m.Fields.take (i+1))=rJ (dX (m.Fields.take i)) (m.Fields.getD i aB):=by
    rw[take_snoc (d:=aB) q];unfold dX;rw[Qd0];rfl
   have r:∀l:List Str,(l.any fun x=>(m.Fields.getD i aB).Union==x)=decide ((m.Fields.getD i aB).Union∈l):=fun l=>by
    rw[Qba,UD,Lh];exact⟨fun⟨x,j,e⟩=>by rw[eq_of_beq e];exact j,fun h=>⟨_,h,Qc2 _⟩⟩
   generalize m.Fields.getD i aB=f at*;refine lT (iW fun E v=>iW fun D C=>iU (fun c=>iU (fun p=>bI (bI (iW fun z A=>bz ?_))) (fun p=>bI (bz ?_))) (fun c=>bI (bz ?_)));all_goals show _=dX (m.Fields.take (i+1))/\_=bC.mk m.Name ((m.Fields.take (i+1)).map (opF s (dX m.Fields))) 0;rw[t,w,u,B]at*;subst v C
   ·have a:f.Union≠[]:=by simpa using c
    have j:f.Union∉dX (m.Fields.take i):=by simpa[r]using p
    have b:rJ (dX (m.Fields.take i)) f=z:=by unfold rJ;rw[kT a,kT j,A]
    rw[b]at o⊢;exact⟨rfl,by rw[o a];unfold opF;rw[kT a]⟩
   ·have a:f.Union≠[]:=by simpa using c
    have j:f.Union∈dX (m.Fields.take i):=by simpa[r]using p
    have b:rJ (dX (m.Fields.take i)) f=dX (m.Fields.take i):=by unfold rJ;rw[kT a,nI j]
    rw[b]at o⊢;exact⟨rfl,by rw[o a];unfold opF;rw[kT a]⟩
   ·have a:f.Union=[]:=by simpa using c
    have b:rJ (dX (m.Fields.take i)) f=dX (m.Fields.take i):=by unfold rJ;rw[nI a]
    rw[b];exact⟨rfl,by unfold opF;rw[nI a]⟩
  ·rw[JG]at n;rw[n.1,n.2]
 exact k
def ao_ (s:aF)(b:Str):Pg Int:=.each true Ec s.Messages b_ (fun a c (d:Unit)=> .ix a s.Messages.length (.br (c.Name==b) (.ret (.inr a)) (rl ()))) (fun a (d:Unit)=> .ret (-1)) ()
theorem aku (s:aF)(a:Str):Is (ao_ s a):=
 jG (.inl rfl) (fun c b _ _=>dJ au au (aS iR iR)) (fun b _=>aZ)
def QE:bT Z:=E2 [] [jS 2 (dh (fun c=>[s0 5]) (l1 cI))] (ax (aQ bV) (a1 (df cStr))) (R1 cI) [] func132 1 (u2 ao_) (fun a=>none) (fun a=>dP (fun(m:aK)=>m.Name==a.2) a.1.Messages) fun a h=>⟨aku a.1 a.2,(fun(s:aF) (b:Str)=>yc (fun(m:aK)=>m.Name==b) s.Messages 0) a.1 a.2⟩
def ani (s:aF)(b:Str):Pg Int:=.each true Ec s.Enums fF (fun a c (d:Unit)=> .ix a s.Enums.length (.br (c.Name==b) (.ret (.inr a)) (rl ()))) (fun a (d:Unit)=> .ret (-1)) ()
theorem ajI (s:aF)(a:Str):Is (ani s a):=
 jG (.inl rfl) (fun c b _ _=>dJ au au (aS iR iR)) (fun b _=>aZ)
def aaN:bT Z:=E2 [] [jS 2 (dh (fun c=>[s0 5]) (l1 cI))] (ax (aQ bV) (a1 (df cStr))) (R1 cI) [] func204 1 (u2 ani) (fun a=>none) (fun a=>dP (fun(m:gu)=>m.Name==a.2) a.1.Enums) fun a h=>⟨ajI a.1 a.2,(fun(s:aF) (b:Str)=>yc (fun(m:gu)=>m.Name==b) s.Enums 0) a.1 a.2⟩
def NT (s:aF)(m:aK)(a:List Bool):Pg Bool:=.each true Ec m.Fields aB (fun d b (e:Unit)=> .ix d m.Fields.length (.br (b.Card !=1) (rl ()) (.br (b.di.Kind !=10) (rl ()) (.lt (dP (fun(m:aK)=>m.Name==b.di.Name) s.Messages) fun c=> .br (decide (0<=c)) (.ix c a.length (.br (!a.getD c.toNat false) (.ret (.inr true)) (rl ()))) (rl ()))))) (fun d (e:Unit)=> .ret false) ()
def vS (s:aF)(m:aK)(a:List Bool):=(NT s m a).val
theorem agr (s:aF)(m:aK)(a:List Bool)(h:s.Messages.length<=a.length):Is (NT s m a):=
 jG (.inl rfl) (fun c d _ _=>dJ au au (gQ iR (fun _=>gQ iR (fun _=>dm fun f e=>bn (fun _=>dJ au (by have:=(kU (fun(b:aK)=>b.Name==(m.Fields.getD c aB).di.Name) s.Messages).1;omega) (aS iR iR)) iR)))) (fun d _=>aZ)
def Zn:bT Z:=E1 [QE] [jS 2 (dh (fun b=>[s0 7]) (l1 cI))] (ax (aQ bV) (ax (aQ jq) (a1 (df yX)))) (R1 aW) [] func122 1 (u3 NT) (fun a=>a.1.Messages.length<=a.2.2.length) fun a h=>agr a.1 a.2.1 a.2.2 h
def ac2 (s:aF):Pg (List Bool):=.ob ((↑s.Messages.length:Int)=(↑s.Messages.length:Int)/\ 0<=(↑s.Messages.length:Int)/\(↑s.Messages.length:Int)*(1:Int)<=281474976710656/\(↑s.Messages.length:Int)<=1099511627776) (aL s.Messages (.cnt rP 0 (↑s.Messages.length:Int) (fun d (c:Bool×List Bool)=> aL s.Messages (.br c.1 (.each true rP s.Messages b_ (fun b e (a:Bool×List Bool)=> .ix b a.2.length (.ob (b.toNat < a.2.length) (.br (!a.2.getD b.toNat false) (.ix b s.Messages.length (.ob (s.Messages.length<=a.2.length) (.br (!vS s e a.2) (.ix b a.2.length (.ob (b.toNat < a.2.length) (rl (true,a.2.set b.toNat true)))) (rl a)))) (rl a)))) (fun b (a:Bool×List Bool)=> rl a) (false,c.2)) (.ret (.inr c.2)))) (fun d (c:Bool×List Bool)=> aL s.Messages (.ret c.2)) (true,List.replicate s.Messages.length false)))
def I9 (s:aF):=(ac2 s).val
theorem YX (s:aF)(h:s.Messages.length<=1048576):kw (ac2 s) (fun r=>r.length=s.Messages.length):=
 aj (au) (fD <| yl (fun(d:Int) b=>b.2.length=s.Messages.length) kM au au (fun d b j k g=>have a:b.2.length=s.Messages.length:=g;fD <| dL (fun _=>dA (fun(f:Nat) c=>c.2.length=s.Messages.length) au au (fun f c i e=>have a:c.2.length=s.Messages.length:=e;aX au au (aj (au) (dL (fun _=>aX au au (aj (au) (dL (fun _=>aX au au (aj (au) (ai qa7))) (fun _=>ai qa7)))) (fun _=>ai qa7)))) (fun c a=>have a:c.2.length=s.Messages.length:=a;ai qa7)) (fun _=>ai qa7)) (fun d b _ l a=>have a:b.2.length=s.Messages.length:=a;fD <| ai qa7))
def axo:bT Z:=E1 [Zn] [jS 4 (dh (fun b=>[s0 5, s0 4, .row (pid (b 3)) 4]) (aC cI (aC aW (l1 yX)))),jS 8 (dh (fun b=>[s0 6, s0 4, .row (pid (b 3)) 4]) (aC cI (aC aW (l1 yX))))] (a1 (aQ bV)) (R1 yX) [] func72 1 ac2 (fun a=>a.Messages.length<=1048576) fun a h=>(YX a h).1
def adK (l:List ou)(n:Int):Pg Bool:=.each true Ec l vF (fun a b (c:Unit)=> .ix a l.length (.br (decide (b.From<=n)) (.ix a l.length (.br (decide (n<=b.To)) (.ret (.inr true)) (rl ()))) (rl ()))) (fun a (c:Unit)=> .ret false) ()
def Bf (l:List ou)(n:Int):=(adK l n).val
theorem arA (l:List ou)(n:Int):Is (adK l n):=
 jG (.inl rfl) (fun b a _ _=>dJ au au (bn (fun _=>dJ au au (bn iR iR)) iR)) (fun a _=>aZ)
def aiW:bT Z:=E0 [] [jS 2 (dh (fun b=>[s0 5]) (l1 cI))] (ax (df pW) (a1 (df cI))) (R1 aW) [] func125 1 (u2 adK) fun a=>arA a.1 a.2
def acF (bad:Bool)(a:Int)(e:Int)(p:az):Pg az:=.br bad (.ob (dE (p.l.length+1) 32) (.ret (az.mk p.qN (p.l++[dW.mk p.qN a e])))) (.ret p)
def aV (bad:Bool)(a:Int)(e:Int)(p:az):=(acF bad a e p).val
theorem ard (bad:Bool)(a:Int)(e:Int)(p:az)(h:p.l.length<=68719476736):Is (acF bad a e p):=
 aS (fun _=>bM ((dw au au)) (aZ)) iR
def Dw:bT Z:=yQ Z [] [] (lH (ax (lm 0) (ax (df aW) (ax (df cI) (a1 (df cI))))) (Z9 1 [none,some 226] bH)) (xg (jM (Ba 0) (jM (qi LY) (jM (qi (qp _)) (S9 (qi (qp _)))))) (ET (k:=1) wB (fun _=>rfl)) rfl) (shr [.cells 0 [none,some 226]] (l1 bH)) [] func69 ntmps69 fO 0 rfl (fun a=>acF (a.1.2.1) (a.1.2.2.1) (a.1.2.2.2) (a.2)) (fun a=>some ((a.2).l.length<=68719476736)) (fun a e _=>by kernel_rfl) (fun a=>aV (a.1.2.1) (a.1.2.2.1) (a.1.2.2.2) (a.2)) (fun a h=>⟨ard (a.1.2.1) (a.1.2.2.1) (a.1.2.2.2) (a.2) h,rfl⟩)
theorem qH {bad:Bool}{a e:Int}{p v:az}(h:v=aV bad a e p):v.l.length<=p.l.length+1:=by
 subst h;unfold aV acF;cases bad
 ·exact Nat.le_succ _
 ·simp[Pg.val]
theorem aCt {bad b:Bool}{d e a c:Int}{p v:az}(h:v=aV bad d e (aV b a c p)):v.l.length<=p.l.length+2:=by
 have g:=qH h;have f:=qH (rfl:aV b a c p=_);omega
theorem agl (bad:Bool)(a e:Int)(p:az):(aV bad a e p).l.length<=p.l.length+1:=qH rfl
def LU (l:List Note)(a:Int)(b:Int)(p:az):Pg az:=.ob (p.l.length<=68719476736) (.lt (O4 l a) fun c=> .ret (aV (c !=0) b c p))
def iL (l:List Note)(a:Int)(b:Int)(p:az):=(LU l a b p).val
theorem aij (l:List Note)(a:Int)(b:Int)(p:az)(h:p.l.length<=68719476736):Is (LU l a b p):=
 bM qav (dm fun d c=>aZ)
def Ko:bT Z:=yQ Z [Dw,aqC] [] (lH (ax (lm 0) (ax (df jE) (ax (df cI) (a1 (df cI))))) (Z9 1 [none,some 226] bH)) (xg (jM (Ba 0) (jM (qi Tt) (jM (qi (qp _)) (S9 (qi (qp _)))))) (ET (k:=1) wB (fun _=>rfl)) rfl) (shr [.cells 0 [none,some 226]] (l1 bH)) [] func130 ntmps130 fO 0 rfl (fun a=>LU (a.1.2.1) (a.1.2.2.1) (a.1.2.2.2) (a.2)) (fun a=>some ((a.2).l.length<=68719476736)) (fun a e _=>by kernel_rfl) (fun a=>iL (a.1.2.1) (a.1.2.2.1) (a.1.2.2.2) (a.2)) (fun a h=>⟨aij (a.1.2.1) (a.1.2.2.1) (a.1.2.2.2) (a.2) h,rfl⟩)
theorem atv {l:List Note}{a b:Int}{p v:az}(h:v=iL l a b p):v.l.length<=p.l.length+1:=by
 subst h;exact agl _ _ _ _
theorem aBJ (l:List Note)(a b:Int)(p:az):(iL l a b p).l.length<=p.l.length+1:=atv rfl
def Lm (l:List ou)(f:Int)(h:Int)(p:az):Pg az:=.each true rP l vF (fun a c (b:az)=> .ix a l.length (.lt (aV (decide (c.From<=(l.getD (bJ .i64 (a - 1)).toNat vF).To)) (-1) 11 (aV true (-1) 6 b)) fun i=> .lt (aV false (-1) 11 (aV true (-1) 6 b)) fun j=> .lt (aV true (-1) 6 b) fun d=> .lt (bJ .i64 (a - 1)) fun e=> .br (decide (c.From < f)) (.ob (b.l.length<=68719476736) (.br (decide (0 < a)) (.ix a l.length (.ix e l.length (.ob (d.l.length<=68719476736) (rl i)))) (.ob (d.l.length<=68719476736) (rl j)))) (.ix a l.length (.br (decide (h < c.To)) (.ob (b.l.length<=68719476736) (.br (decide (0 < a)) (.ix a l.length (.ix e l.length (.ob (d.l.length<=68719476736) (rl i)))) (.ob (d.l.length<=68719476736) (rl j)))) (.ix a l.length (.ix a l.length (.ob (b.l.length<=68719476736) (.lt (aV (decide (c.To < c.From)) (-1) 6 b) fun g=> .br (decide (0 < a)) (.ix a l.length (.ix e l.length (.ob (g.l.length<=68719476736) (rl (aV (decide (c.From<=(l.getD e.toNat vF).To)) (-1) 11 g))))) (.ob (g.l.length<=68719476736) (rl (aV false (-1) 11 g))))))))))) (fun a (b:az)=> .ret b) p
def yE (l:List ou)(a:Int)(b:Int)(p:az):=(Lm l a b p).val
theorem LD (l:List ou)(b:Int)(c:Int)(p:az)(h:p.l.length+2*l.length<=68719476736):kw (Lm l b c p) (fun r=>r.l.length<=p.l.length+2*l.length):=
 dA (fun(e:Nat) a=>a.l.length<=p.l.length+2*e) au au (fun e a y j=>have d:a.l.length<=p.l.length+2*e:=j;aX au au (aI fun w f=>have n:=aCt f;aI fun u i=>have m:=aCt i;aI fun v g=>have q:=qH g;sH fun x o _=>bQ (fun _=>aj (au) (bQ (fun _=>aX au au (aX au au (aj (au) (ai AQ)))) (fun _=>aj (au) (ai AQ)))) (fun _=>aX au au (bQ (fun _=>aj (au) (bQ (fun _=>aX au au (aX au au (aj (au) (ai AQ)))) (fun _=>aj (au) (ai AQ)))) (fun _=>aX au au (aX au au (aj (au) (aI fun t k=>have s:=qH k;bQ (fun _=>aX au au (aX au au (aj (au) (ai AQ)))) (fun _=>aj (au) (ai AQ)))))))))) (fun a d=>have d:a.l.length<=p.l.length+2*l.length:=d;ai AQ)
def Yx:bT Z:=yQ Z [Dw] [jS 1 (dh (fun b=>[s0 8, .cells (pid (b 0)) [none,some 226]]) (aC cI (l1 bH)))] (lH (ax (lm 0) (ax (df pW) (ax (df cI) (a1 (df cI))))) (Z9 1 [none,some 226] bH)) (xg (jM (Ba 0) (jM (qi Tu) (jM (qi (qp _)) (S9 (qi (qp _)))))) (ET (k:=1) wB (fun _=>rfl)) rfl) (shr [.cells 0 [none,some 226]] (l1 bH)) [] func131 ntmps131 fO 0 rfl (fun a=>Lm (a.1.2.1) (a.1.2.2.1) (a.1.2.2.2) (a.2)) (fun a=>some ((a.2).l.length+2*(a.1.2.1).length<=68719476736)) (fun a e _=>by kernel_rfl) (fun a=>yE (a.1.2.1) (a.1.2.2.1) (a.1.2.2.2) (a.2)) (fun a h=>⟨(LD (a.1.2.1) (a.1.2.2.1) (a.1.2.2.2) (a.2) h).1,rfl⟩)
def T_ (f:bu):Pg Bool:=.br (f.Card !=5) (.br (decide (1<=f.Card)) (.br (decide (f.Card<=4)) (.ret (f.Key==0)) (.ret false)) (.ret false)) (.br (f.Key==1) (.br (f.Key==1) (.ret true) (.ret false)) (.br (f.Key==2) (.br (f.Key==2) (.ret true) (.ret false)) (.br (f.Key==3) (.br (f.Key==3) (.ret true) (.ret false)) (.br (f.Key==4) (.br (f.Key==4) (.ret true) (.ret false)) (.br (f.Key==5) (.br (f.Key==5) (.ret true) (.ret false)) (.br (f.Key==7) (.ret true) (.ret false)))))))
def Gp (f:bu):=(T_ f).val
theorem ajz (f:bu):Is (T_ f):=
 gQ (fun _=>bn (fun _=>bn iR iR) iR) (fun _=>bK (fun _=>bK iR iR) (fun _=>bK (fun _=>bK iR iR) (fun _=>bK (fun _=>bK iR iR) (fun _=>bK (fun _=>bK iR iR) (fun _=>bK (fun _=>bK iR iR) (fun _=>bK iR iR))))))
def aq0:bT Z:=E0 [] [] (a1 (aQ iK)) (R1 aW) [] func126 1 T_ fun a=>ajz a
def adu (s:aF)(f:bu):Pg Bool:=.br (f.di.Kind==9) (.lt (dP (fun(m:gu)=>m.Name==f.di.Name) s.Enums) fun a=> .ret (decide (0<=a))) (.br (f.di.Kind==10) (.lt (dP (fun(m:aK)=>m.Name==f.di.Name) s.Messages) fun b=> .br (decide (0<=b)) (.ret (f.Card !=3)) (.ret false)) (.br (decide (1<=f.di.Kind)) (.br (decide (f.di.Kind<=8)) (.ret (f.di.Name==[])) (.ret false)) (.ret false)))
def OY (s:aF)(f:bu):=(adu s f).val
theorem asw (s:aF)(f:bu):Is (adu s f):=
 bK (fun _=>dm fun c a=>aZ) (fun _=>bK (fun _=>dm fun d b=>bn iR iR) (fun _=>bn (fun _=>bn iR iR) iR))
def axA:bT Z:=E0 [QE,aaN] [] (ax (aQ bV) (a1 (aQ iK))) (R1 aW) [] func127 1 (u2 adu) fun a=>asw a.1 a.2
def Og (m:aK)(a:Int):Pg Bool:=.ix a m.Fields.length (.br ((m.Fields.getD a.toNat aB).Union==[]) (.ret true) (.br ((m.Fields.getD a.toNat aB).Card !=2) (.ret false) (.br (!uK (m.Fields.getD a.toNat aB).Union) (.ret false) (.each true rP m.Fields aB (fun b d (c:Bool)=> .ix b m.Fields.length (.br (d.Name==(m.Fields.getD a.toNat aB).Union) (.ret (.inr false)) (.br (decide (b < a)) (.ix b m.Fields.length (.br (d.Union==(m.Fields.getD a.toNat aB).Union) (rl true) (rl c))) (rl c)))) (fun b (c:Bool)=> .br (!c) (.ret true) (.lt (bJ .i64 (a - 1)) fun e=> .ix e m.Fields.length (.ret ((m.Fields.getD e.toNat aB).Union==(m.Fields.getD a.toNat aB).Union)))) false))))
def BL (m:aK)(a:Int):=(Og m a).val
theorem agb (m:aK)(a:Int)(h:0<=a/\a < m.Fields.length):Is (Og m a):=
 by
 refine dJ au au (aS iR (fun _=>gQ iR (fun _=>aS iR (fun _=>Dc (fun _ y=>y=true->0 < a) (fun h=>by cases h) (.inl rfl) (fun i f _ _ b=>⟨dJ au au (aS iR (fun _=>bn (fun _=>dJ au au (aS iR iR)) iR)),fun l c=> ?_⟩) (fun f _ b=>aS iR (fun d=> ?_))))))
 ·revert c;simp only[dN,aN,ay,Qa7,Lh];(repeat' split)<;>intro e<;>cases e<;>first | exact b | (intro _;omega)
 ·have:=b (by simpa using d);exact mO fun k g j=>dJ au au aZ
def amw:bT Z:=E1 [Ov] [jS 8 (dh (fun b=>[s0 7, s0 6]) (aC cI (l1 aW)))] (ax (aQ jq) (a1 (df cI))) (R1 aW) [] func128 1 (u2 Og) (fun a=>0<=a.2/\a.2 < a.1.Fields.length) fun a h=>agb a.1 a.2 h
def NM (s:aF)(f:bu):Pg Bool:=.br (!f.jf) (.ret (Fe f.Default.re (af.mk 0 0 [] [] [] [] []))) (.br (f.Card !=2) (.ret false) (.br (f.Union !=[]) (.ret false) (.br (!wJ f.di.Kind f.Default.re) (.ret false) (.br (!Fe f.Default.re (lq f.Default.re).re) (.ret false) (.br (f.di.Kind !=9) (.ret true) (.lt (dP (fun(m:gu)=>m.Name==f.di.Name) s.Enums) fun a=> .br (decide (a < 0)) (.ret false) (.Hr [0<=a/\a < (↑s.Enums.length:Int)] true Ec (s.Enums.getD a.toNat fF).Items iT (fun b c (d:Unit)=> .ix a s.Enums.length (.ix b (s.Enums.getD a.toNat fF).Items.length (.lt (bJ .u64 c.Num) fun e=> .br (e==f.Default.Bits) (.ret (.inr true)) (rl ())))) (fun b (d:Unit)=> .ret false) ())))))))
def Cf (s:aF)(f:bu):=(NM s f).val
theorem agZ (s:aF)(f:bu):Is (NM s f):=
 aS iR (fun _=>gQ iR (fun _=>aS iR (fun _=>aS iR (fun _=>aS iR (fun _=>gQ iR (fun _=>dm fun g c=>bn iR (fun _=>by
 have e:=(kU (fun(m:gu)=>m.Name==f.di.Name) s.Enums).1;exact ag_ ⟨by omega,trivial⟩ (.inl rfl) (fun d a _ _=>dJ au au (dJ au au (dm fun h b=>bK iR iR))) (fun a _=>aZ))))))))
def ajo:bT Z:=E0 [aaN,awX,Xo,MN] [jS 12 (dh (fun b=>[s0 7]) (l1 cI))] (ax (aQ bV) (a1 (aQ iK))) (R1 aW) [] func129 1 (u2 NM) fun a=>agZ a.1 a.2
def amo (l:List Str):Pg Bool:=.TN [] (some (l.length<=9223372036854775807)) Ec 1 (↑l.length:Int) (fun a (c:Unit)=> .ix a l.length (.lt (bJ .i64 (a - 1)) fun b=> .ix b l.length (.br (Op.bytesLess (l.getD a.toNat []) (l.getD b.toNat []) || l.getD a.toNat []==l.getD b.toNat []) (.ret (.inr false)) (rl ())))) (fun a (c:Unit)=> .ret true) ()
def Vr (l:List Str):=(amo l).val
theorem ar_ (l:List Str):Is (amo l):=
 Vb trivial au (fun h=>by simp only[tN]at h;omega) (fun a b _ _ _=>dJ au au (mO fun d c _=>dJ au au (aS iR iR))) (fun a b _ _=>aZ)
def ax8:bT Z:=E0 [] [jS 2 (dh (fun b=>[s0 3]) (l1 cI))] (a1 (df dI)) (R1 aW) [] func70 1 amo fun a=>ar_ a
def U5 (a:List Str)(b:List Str):Pg Bool:=.each true Ec a [] (fun c d (e:Unit)=> .ix c a.length (.br (Kw b d) (.ret (.inr true)) (rl ()))) (fun c (e:Unit)=> .ret false) ()
def pK (a:List Str)(b:List Str):=(U5 a b).val
theorem alG (a:List Str)(b:List Str):Is (U5 a b):=
 jG (.inl rfl) (fun d c _ _=>dJ au au (aS iR iR)) (fun c _=>aZ)
def arX:bT Z:=E0 [ant] [jS 2 (dh (fun b=>[s0 5]) (l1 cI))] (ax (df dI) (a1 (df dI))) (R1 aW) [] func71 1 (u2 U5) fun a=>alG a.1 a.2
def CU (s:aF)(b:Int):Pg (List Str):=.cut (fun(f:List Str)=> .cut (fun(e:List Str)=> .wh (s.dC.length+1) default (fun(a:Int×List Str)=> .br (b==3) (aL s.dC (.br (decide (a.1 < (↑s.dC.length:Int))) (.ix a.1 s.dC.length (.ob (dE (a.2.length+1) 16) (rl (bJ .i64 (a.1+1),a.2++[(s.dC.getD a.1.toNat kJ).Name])))) (.ret (.inr a.2)))) (.ret (.inr a.2))) (0,e)) (.wh (s.Enums.length+1) default (fun(c:Int×List Str)=> .br (b==2) (aL s.Enums (.br (decide (c.1 < (↑s.Enums.length:Int))) (.ix c.1 s.Enums.length (.ob (dE (c.2.length+1) 16) (rl (bJ .i64 (c.1+1),c.2++[(s.Enums.getD c.1.toNat fF).Name])))) (.ret (.inr (.inl c.2))))) (.ret (.inr (.inl c.2)))) (0,f))) (.wh (s.Messages.length+1) default (fun(d:Int×List Str)=> .br (b==1) (aL s.Messages (.br (decide (d.1 < (↑s.Messages.length:Int))) (.ix d.1 s.Messages.length (.ob (dE (d.2.length+1) 16) (rl (bJ .i64 (d.1+1),d.2++[(s.Messages.getD d.1.toNat b_).Name])))) (.ret (.inr (.inl d.2))))) (.ret (.inr (.inl d.2)))) (0,[]))
def lG (s:aF)(a:Int):=(CU s a).val
theorem ah1 (s:aF)(a:Int)(h:okS s):Is (CU s a):=
 by
 obtain⟨j,i,g,_⟩:=h;have w:∀x:Int,0<=x->x < 1000->bJ .i64 (x+1)=x+1:=fun x _ _=>bY (k:= .i64) p_
 refine kw.is (Q:=fun _=>True) (bP (fun e=>e.length<=150) ?_ (fun e b=>bP (fun d=>d.length<=300) ?_ (fun d c=> ?_)))
 ·refine qJ (fun x=>0<=x.1/\x.1<=s.Messages.length/\x.2.length<=x.1.toNat) (fun x=>s.Messages.length - x.1.toNat) ⟨ZU _,by dsimp only;omega,rC _⟩ (by dsimp only;omega) (fun x f=>dR (fun _=>fD <| bQ (fun _=>aX au au (aj (dw au au) (ai ?_))) (fun _=>ai ?_)) (fun _=>ai ?_))
  ·simp only[Sum.elim_inl,tK,Qbx];rw[w _ au au];omega
  ·show x.2.length<=150;omega
  ·show x.2.length<=150;omega
 ·have b:e.length<=150:=b;refine qJ (fun x=>0<=x.1/\x.1<=s.Enums.length/\x.2.length<=150+x.1.toNat) (fun x=>s.Enums.length - x.1.toNat) ⟨ZU _,by dsimp only;omega,by dsimp only;omega⟩ (by dsimp only;omega) (fun x f=>dR (fun _=>fD <| bQ (fun _=>aX au au (aj (dw au au) (ai ?_))) (fun _=>ai ?_)) (fun _=>ai ?_))
  ·simp only[Sum.elim_inl,tK,Qbx];rw[w _ au au];omega
  ·show x.2.length<=300;omega
  ·show x.2.length<=300;omega
 ·have c:d.length<=300:=c;refine qJ (fun x=>0<=x.1/\x.1<=s.dC.length/\x.2.length<=300+x.1.toNat) (fun x=>s.dC.length - x.1.toNat) ⟨ZU _,by dsimp only;omega,by dsimp only;omega⟩ (by dsimp only;omega) (fun x f=>dR (fun _=>fD <| bQ (fun _=>aX au au (aj (dw au au) (ai ?_))) (fun _=>ai trivial)) (fun _=>ai trivial))
  ·simp only[Sum.elim_inl,tK,Qbx];rw[w _ au au];omega
def ajB:bT Z:=E1 [] [jS 3 (dh (fun b=>[s0 6, .slot 5 false [some 9]]) (aC cI (l1 dI))),jS 7 (dh (fun b=>[s0 7, .slot 5 false [some 9]]) (aC cI (l1 dI))),jS 11 (dh (fun b=>[s0 8, .slot 5 false [some 9]]) (aC cI (l1 dI))),jS 100006 (dh (fun b=>[.slot 5 false [some 9]]) (l1 dI)),jS 100010 (dh (fun b=>[.slot 5 false [some 9]]) (l1 dI))] (ax (aQ bV) (a1 (df cI))) (R1 dI) [] func68 1 (u2 CU) (fun a=>okS a.1) fun a h=>ah1 a.1 a.2 h
theorem aua {l:List ou}{a b:Int}{p v:az}(c:p.l.length+2*l.length<=68719476736)(h:v=yE l a b p):v.l.length<=p.l.length+2*l.length:=by
 subst h;exact(LD l a b p c).2
def ad8 (s:aF)(v:dQ):Pg (List dW):=.ob (List.length v.Name<=9223372036854775807) (.ob (0<=68719476736) (.lt (aV (!BN v.Name) (-1) 8 (az.mk v.Name [])) fun h=> .ob (h.l.length<=68719476736) (.each true rP v.Methods iY (fun a b (e:az)=> .ix a v.Methods.length (.ob (e.l.length<=68719476736) (.cut (fun(g:az)=> .cut (fun(f:az)=> .cut (fun(i:az)=> .ob (i.l.length<=68719476736) (rl (iL b.Notes 6 a i))) (.br (decide (b.Shape < 1)) (.ob (f.l.length<=68719476736) (rl (aV true a 1 f))) (.ob (f.l.length<=68719476736) (rl (aV (decide (4 < b.Shape)) a 1 f))))) (.lt (dP (fun(m:aK)=>m.Name==b.In) s.Messages) fun k=> .br (decide (k < 0)) (.ob (g.l.length<=68719476736) (rl (aV true a 12 g))) (.ob (g.l.length<=68719476736) (.lt (dP (fun(m:aK)=>m.Name==b.Out) s.Messages) fun j=> rl (aV (decide (j < 0)) a 12 g))))) (.lt (aV (!uK b.Name) a 8 e) fun c=> .br (decide (0 < a)) (.lt (bJ .i64 (a - 1)) fun d=> .ix d v.Methods.length (.ob (c.l.length<=68719476736) (rl (aV (Op.bytesLess b.Name (v.Methods.getD d.toNat iY).Name || b.Name==(v.Methods.getD d.toNat iY).Name) a 11 c)))) (.ob (c.l.length<=68719476736) (rl (aV false a 11 c))))))) (fun a (e:az)=> .ob (e.l.length<=68719476736) (.ret (iL v.Notes 5 (-1) e).l)) (aV (decide (64 < (↑v.Methods.length:Int))) (-1) 3 h))))
def adC (s:aF)(v:dQ):=(ad8 s v).val
theorem WU (s:aF)(v:dQ)(h:adz v):kw (ad8 s v) (fun r=>r.length<=16777216):=
 have A:v.Methods.length<=1048576:=h.1;have x:v.Name.length<=1048576:=h.2;aj (Bo) (aj (Bo) (aI fun B k=>have u:=qH k;aj (Bo) (dA (fun(a:Nat) b=>b.l.length<=2+5*a) qa5 au (fun a b C l=>have g:b.l.length<=2+5*a:=l;aX au au (aj (Bo) (bP (fun i=>i.l.length<=2+5*a+2) (aI fun q m=>have t:=qH m;bQ (fun _=>sH fun p o _=>aX au au (aj (Bo) (ai AQ))) (fun _=>aj (Bo) (ai AQ))) (fun i e=>have e:i.l.length<=2+5*a+2:=e;bP (fun j=>j.l.length<=2+5*a+3) (aI fun w y=>bQ (fun _=>aj (Bo) (ai AQ)) (fun _=>aj (Bo) (aI fun z n=>ai AQ))) (fun j c=>have c:j.l.length<=2+5*a+3:=c;bP (fun f=>f.l.length<=2+5*a+4) (bQ (fun _=>aj (Bo) (ai AQ)) (fun _=>aj (Bo) (ai AQ))) (fun f d=>have d:f.l.length<=2+5*a+4:=d;aj (Bo) (ai AQ))))))) (fun b g=>have g:b.l.length<=2+5*v.Methods.length:=g;aj (Bo) (ai AQ)))))
def ave:bT Z:=E1 [Dw,J5,Ov,Ko,QE] [jS 5 (dh (fun b=>[s0 6, .cells (pid (b 5)) [none,some 226]]) (aC cI (l1 bH))),jS 100010 (dh (fun b=>[.cells (pid (b 5)) [none,some 226]]) (l1 bH)),jS 100011 (dh (fun b=>[.cells (pid (b 5)) [none,some 226]]) (l1 bH)),jS 100012 (dh (fun b=>[.cells (pid (b 5)) [none,some 226]]) (l1 bH)),jS 800001 (dh (fun b=>[.cells (pid (b 5)) [none,some 226]]) (l1 bH))] (ax (aQ bV) (a1 (aQ o5))) (R1 kZ) [] func75 1 (u2 ad8) (fun a=>adz a.2) fun a h=>(WU a.1 a.2 h).1
def Vl (e:gu):Pg (List dW):=.cut (fun(j:az)=> .cut (fun(k:az)=> .cut (fun(F:az)=> .each true rP e.Items iT (fun h a (b:az)=> .ix h e.Items.length (.cnt rP 0 h (fun E (i:Bool)=> .ix E e.Items.length (.br ((e.Items.getD E.toNat iT).Name==a.Name) (rl true) (rl i))) (fun E (i:Bool)=> .lt (bJ .i64 (h - 1)) fun l=> .lt (Bf e.Reserved a.Num) fun g=> .lt (uK a.Name) fun f=> .br (decide (a.Num < 0)) (.ob (b.l.length<=68719476736) (.lt (aV true a.Num 6 b) fun d=> .br (decide (0 < h)) (.ix l e.Items.length (.ob (d.l.length<=68719476736) (.lt (aV (decide (a.Num<=(e.Items.getD l.toNat iT).Num)) a.Num 11 d) fun C=> .ob (C.l.length<=68719476736) (.lt (aV (!f) a.Num 8 C) fun B=> .ob (B.l.length<=68719476736) (.lt (aV i a.Num 9 B) fun o=> .ob (o.l.length<=68719476736) (.lt (aV g a.Num 21 o) fun w=> .ob (w.l.length<=68719476736) (rl (iL a.Notes 4 a.Num w)))))))) (.ob (d.l.length<=68719476736) (.lt (aV false a.Num 11 d) fun y=> .ob (y.l.length<=68719476736) (.lt (aV (!f) a.Num 8 y) fun s=> .ob (s.l.length<=68719476736) (.lt (aV i a.Num 9 s) fun t=> .ob (t.l.length<=68719476736) (.lt (aV g a.Num 21 t) fun n=> .ob (n.l.length<=68719476736) (rl (iL a.Notes 4 a.Num n))))))))) (.ob (b.l.length<=68719476736) (.lt (aV (decide (2147483647 < a.Num)) a.Num 6 b) fun c=> .br (decide (0 < h)) (.ix l e.Items.length (.ob (c.l.length<=68719476736) (.lt (aV (decide (a.Num<=(e.Items.getD l.toNat iT).Num)) a.Num 11 c) fun x=> .ob (x.l.length<=68719476736) (.lt (aV (!f) a.Num 8 x) fun z=> .ob (z.l.length<=68719476736) (.lt (aV i a.Num 9 z) fun q=> .ob (q.l.length<=68719476736) (.lt (aV g a.Num 21 q) fun p=> .ob (p.l.length<=68719476736) (rl (iL a.Notes 4 a.Num p)))))))) (.ob (c.l.length<=68719476736) (.lt (aV false a.Num 11 c) fun A=> .ob (A.l.length<=68719476736) (.lt (aV (!f) a.Num 8 A) fun v=> .ob (v.l.length<=68719476736) (.lt (aV i a.Num 9 v) fun D=> .ob (D.l.length<=68719476736) (.lt (aV g a.Num 21 D) fun u=> .ob (u.l.length<=68719476736) (rl (iL a.Notes 4 a.Num u)))))))))) false)) (fun h (b:az)=> .ob (b.l.length+2*e.Reserved.length<=68719476736) (.lt (yE e.Reserved 0 2147483647 b) fun r=> .ob (r.l.length<=68719476736) (.ret (iL e.Notes 3 (-1) r).l))) F) (.br (decide (0 < (↑e.Items.length:Int))) (.ix 0 e.Items.length (.ob (k.l.length<=68719476736) (rl (aV ((e.Items.getD 0 iT).Num !=0) (-1) 14 k)))) (.ob (k.l.length<=68719476736) (rl (aV false (-1) 14 k))))) (.lt (aV true (-1) 3 j) fun m=> .br (decide ((↑e.Items.length:Int) < 1)) (.ob (j.l.length<=68719476736) (rl m)) (.br (decide (64 < (↑e.Items.length:Int))) (.ob (j.l.length<=68719476736) (rl m)) (.ob (j.l.length<=68719476736) (rl (aV (decide (16 < (↑e.Reserved.length:Int))) (-1) 3 j)))))) (.ob (List.length e.Name<=9223372036854775807) (.ob (0<=68719476736) (rl (aV (!BN e.Name) (-1) 8 (az.mk e.Name [])))))
def Xn (e:gu):=(Vl e).val
theorem SV (e:gu)(h:okE e):kw (Vl e) (fun r=>r.length<=16777216):=
 have h1:e.Items.length<=1048576:=h.1;have h2:e.Reserved.length<=1048576:=h.2.1;have h3:e.Name.length<=1048576:=h.2.2;bP (fun p=>p.l.length<=1) (aj (Bo) (aj (Bo) (ai AQ))) (fun p c=>have c:p.l.length<=1:=c;bP (fun j=>j.l.length<=2) (aI fun U q=>have al:=qH q;bQ (fun _=>aj (Bo) (ai AQ)) (fun _=>bQ (fun _=>aj (Bo) (ai AQ)) (fun _=>aj (Bo) (ai AQ)))) (fun j f=>have f:j.l.length<=2:=f;bP (fun k=>k.l.length<=3) (bQ (fun _=>aX au au (aj (Bo) (ai AQ))) (fun _=>aj (Bo) (ai AQ))) (fun k d=>have d:k.l.length<=3:=d;dA (fun(i:Nat) b=>b.l.length<=3+6*i) qa5 au (fun i b a2 B=>have a:b.l.length<=3+6*i:=B;aX au au (yl (fun(v:Int) F=>True) (by trivial) au au (fun v F K L t=>have a:True:=t;aX au au (dL (fun _=>ai AQ) (fun _=>ai AQ))) (fun v F _ a9 a=>have a:True:=a;sH fun v9 am _=>aI fun aM Px=>aI fun aA an=>bQ (fun _=>aj (Bo) (aI fun ab w=>have T:=qH w;bQ (fun _=>aX au au (aj (Bo) (aI fun bc x=>have N:=qH x;aj (Bo) (aI fun ag u=>have Q:=qH u;aj (Bo) (aI fun V D=>have a4:=qH D;aj (Bo) (aI fun aE C=>have aD:=qH C;aj (Bo) (ai AQ))))))) (fun _=>aj (Bo) (aI fun aO s=>have S:=qH s;aj (Bo) (aI fun av I=>have O:=qH I;aj (Bo) (aI fun Y J=>have ad:=qH J;aj (Bo) (aI fun aq G=>have W:=qH G;aj (Bo) (ai AQ)))))))) (fun _=>aj (Bo) (aI fun ap H=>have Z:=qH H;bQ (fun _=>aX au au (aj (Bo) (aI fun R y=>have ao:=qH y;aj (Bo) (aI fun ba z=>have a6:=qH z;aj (Bo) (aI fun M g=>have a3:=qH g;aj (Bo) (aI fun ar o=>have ac:=qH o;aj (Bo) (ai AQ))))))) (fun _=>aj (Bo) (aI fun bb A=>have aw:=qH A;aj (Bo) (aI fun a8 m=>have aa:=qH m;aj (Bo) (aI fun bd n=>have a5:=qH n;aj (Bo) (aI fun a7 l=>have P:=qH l;aj (Bo) (ai AQ))))))))))) (fun b a=>have a:b.l.length<=3+6*e.Items.length:=a;aj (Bo) (aI fun X E=>have aR:=aua au E;aj (Bo) (ai AQ))))))
def aqc:bT Z:=E1 [Dw,J5,Ov,aiW,Ko,Yx] [jS 6 (dh (fun b=>[s0 4, .cells (pid (b 3)) [none,some 226]]) (aC cI (l1 bH))),jS 11 (dh (fun b=>[s0 7, s0 6]) (aC cI (l1 aW))),jS 100003 (dh (fun b=>[.cells (pid (b 3)) [none,some 226]]) (l1 bH)),jS 100004 (dh (fun b=>[.cells (pid (b 3)) [none,some 226]]) (l1 bH)),jS 100005 (dh (fun b=>[.cells (pid (b 3)) [none,some 226]]) (l1 bH)),jS 800001 (dh (fun b=>[.cells (pid (b 3)) [none,some 226]]) (l1 bH))] (a1 (aQ o6)) (R1 kZ) [] func74 1 Vl (fun a=>okE a) fun a h=>(SV a h).1
def aeg (s:aF)(m:aK)(r:List Bool):Pg (List dW):=.cut (fun(f:az)=> .cut (fun(z:az)=> .cut (fun(w:az)=> .ob (w.l.length+2*m.Reserved.length<=68719476736) (.each true rP m.Gone [] (fun h t (b:az)=> .ix h m.Gone.length (.ob (List.length t<=9223372036854775700) (.ob (b.l.length<=68719476736) (rl (aV (!Ie t) (-1) 7 b))))) (fun h (b:az)=> .ob (b.l.length<=68719476736) (.ob (s.Messages.length<=r.length) (.lt (iL m.Notes 1 (-1) b) fun j=> .ob (j.l.length<=68719476736) (.ret (aV (vS s m r) (-1) 19 j).l)))) (yE m.Reserved 1 65535 w))) (.each true rP m.Fields aB (fun c a (e:az)=> .ix c m.Fields.length (.cnt rP 0 c (fun v (u:Bool)=> .ix v m.Fields.length (.br ((m.Fields.getD v.toNat aB).Name==a.Name) (rl true) (rl u))) (fun v (u:Bool)=> .cut (fun(g:az)=> .cut (fun(y:az)=> .ob (y.l.length<=68719476736) (.lt (aV (!uK a.Name) a.Num 8 y) fun n=> .ob (n.l.length<=68719476736) (.cut (fun(x:az)=> .ob (x.l.length<=68719476736) (.lt (aV (!Gp (bu.mk a.Num a.Name a.Card a.Key a.di a.Union a.jf a.Default.re a.Notes)) a.Num 1 x) fun p=> .ob (p.l.length<=68719476736) (.ix c m.Fields.length (.lt (aV (!OY s (bu.mk a.Num a.Name a.Card a.Key a.di a.Union a.jf a.Default.re a.Notes)) a.Num 12 p) fun k=> .ob (k.l.length<=68719476736) (.lt (aV (!BL m c) a.Num 15 k) fun l=> .ob (l.l.length<=68719476736) (.lt (aV (!Cf s (bu.mk a.Num a.Name a.Card a.Key a.di a.Union a.jf a.Default.re a.Notes)) a.Num 1 l) fun i=> .ob (i.l.length<=68719476736) (rl (iL a.Notes 2 a.Num i)))))))) (.lt (aV u a.Num 9 n) fun d=> .br (Bf m.Reserved a.Num) (.ob (d.l.length<=68719476736) (rl (aV true a.Num 21 d))) (.ob (d.l.length<=68719476736) (rl (aV (Kw m.Gone a.Name) a.Num 21 d))))))) (.br (decide (0 < c)) (.lt (bJ .i64 (c - 1)) fun o=> .ix o m.Fields.length (.ob (g.l.length<=68719476736) (rl (aV (decide (a.Num<=(m.Fields.getD o.toNat aB).Num)) a.Num 11 g)))) (.ob (g.l.length<=68719476736) (rl (aV false a.Num 11 g))))) (.br (decide (a.Num < 1)) (.ob (e.l.length<=68719476736) (rl (aV true a.Num 6 e))) (.ob (e.l.length<=68719476736) (rl (aV (decide (65535 < a.Num)) a.Num 6 e))))) false)) (fun c (e:az)=> rl e) z)) (.lt (aV true (-1) 3 f) fun q=> .br (decide (64 < (↑m.Fields.length:Int))) (.ob (f.l.length<=68719476736) (rl q)) (.br (decide (16 < (↑m.Reserved.length:Int))) (.ob (f.l.length<=68719476736) (rl q)) (.ob (f.l.length<=68719476736) (rl (aV (decide (16 < (↑m.Gone.length:Int))) (-1) 3 f)))))) (.ob (List.length m.Name<=9223372036854775807) (.ob (0<=68719476736) (rl (aV (!BN m.Name) (-1) 8 (az.mk m.Name [])))))
def aez (s:aF)(m:aK)(a:List Bool):=(aeg s m a).val
theorem YA (s:aF)(m:aK)(n:List Bool)(h:okM m/\s.Messages.length<=n.length):kw (aeg s m n) (fun r=>r.length<=16777216):=
 have h1:m.Fields.length<=1048576:=h.1.1;have h2:m.Reserved.length<=1048576:=h.1.2.1;have h3:m.Gone.length<=1048576:=h.1.2.2.1;have h4:m.Name.length<=1048576:=h.1.2.2.2.1;bP (fun v=>v.l.length<=1) (aj (TU) (aj (TU) (ai AQ))) (fun v k=>have k:v.l.length<=1:=k;bP (fun u=>u.l.length<=2) (aI fun ad A=>have W:=qH A;bQ (fun _=>aj (TU) (ai AQ)) (fun _=>bQ (fun _=>aj (TU) (ai AQ)) (fun _=>aj (TU) (ai AQ)))) (fun u j=>have j:u.l.length<=2:=j;bP (fun p=>p.l.length<=10485762) (dA (fun(b:Nat) f=>f.l.length<=2+10*b) qa5 au (fun b f Q C=>have a:f.l.length<=2+10*b:=C;aX au au (yl (fun(D:Int) z=>True) (by trivial) au au (fun D z K Z x=>have a:True:=x;aX au au (dL (fun _=>ai AQ) (fun _=>ai AQ))) (fun D z _ ac a=>have a:True:=a;bP (fun w=>w.l.length<=2+10*b+1) (bQ (fun _=>aj (TU) (ai AQ)) (fun _=>aj (TU) (ai AQ))) (fun w o=>have o:w.l.length<=2+10*b+1:=o;bP (fun t=>t.l.length<=2+10*b+2) (bQ (fun _=>sH fun aa L _=>aX au au (aj (TU) (ai AQ))) (fun _=>aj (TU) (ai AQ))) (fun t l=>have l:t.l.length<=2+10*b+2:=l;aj (TU) (aI fun Y y=>have X:=qH y;aj (TU) (bP (fun q=>q.l.length<=2+10*b+5) (aI fun M H=>have U:=qH H;dL (fun _=>aj (TU) (ai AQ)) (fun _=>aj (TU) (ai AQ))) (fun q g=>have g:q.l.length<=2+10*b+5:=g;aj (TU) (aI fun ag B=>have ab:=qH B;aj (TU) (aX au au (aI fun T I=>have S:=qH I;aj (TU) (aI fun V J=>have al:=qH J;aj (TU) (aI fun N F=>have P:=qH F;aj (TU) (ai AQ)))))))))))))) (fun f a=>have a:f.l.length<=2+10*m.Fields.length:=a;ai AQ)) (fun p i=>have i:p.l.length<=10485762:=i;aj (TU) (dA (fun(e:Nat) c=>c.l.length<=12582914+1*e) qa5 au (fun e c aGn E=>have a:c.l.length<=12582914+1*e:=E;aX au au (aj (TU) (aj (TU) (ai AQ)))) (fun c a=>have a:c.l.length<=12582914+1*m.Gone.length:=a;aj (TU) (aj (TU) (aI fun O G=>have R:=atv G;aj (TU) (ai AQ))))))))
def avD:bT Z:=E1 [Oy,Dw,ant,Zn,J5,Ov,aiW,aq0,axA,amw,ajo,Ko,Yx] [jS 5 (dh (fun b=>[s0 8, .cells (pid (b 7)) [none,some 226]]) (aC cI (l1 bH))),jS 10 (dh (fun b=>[s0 11, s0 10]) (aC cI (l1 aW))),jS 26 (dh (fun b=>[s0 12, .cells (pid (b 7)) [none,some 226]]) (aC cI (l1 bH))),jS 100003 (dh (fun b=>[.cells (pid (b 7)) [none,some 226]]) (l1 bH)),jS 100004 (dh (fun b=>[.cells (pid (b 7)) [none,some 226]]) (l1 bH)),jS 100015 (dh (fun b=>[.cells (pid (b 7)) [none,some 226]]) (l1 bH)),jS 100016 (dh (fun b=>[.cells (pid (b 7)) [none,some 226]]) (l1 bH)),jS 100019 (dh (fun b=>[.cells (pid (b 7)) [none,some 226]]) (l1 bH)),jS 100024 (dh (fun b=>[.cells (pid (b 7)) [none,some 226]]) (l1 bH)),jS 800001 (dh (fun b=>[.cells (pid (b 7)) [none,some 226]]) (l1 bH))] (ax (aQ bV) (ax (aQ jq) (a1 (df yX)))) (R1 kZ) [] func73 1 (u3 aeg) (fun a=>okM a.2.1/\a.1.Messages.length<=a.2.2.length) fun a h=>(YA a.1 a.2.1 a.2.2 h).1
def adt (s:aF):Pg (List dW):=.cut (fun(d:az)=> .ob (okS s) (.ob (okS s) (.ob (okS s) (.cut (fun(x:az)=> .ob (s.Messages.length<=1048576) (.cut (fun(w:az)=> .cut (fun(u:az)=> .each true rP s.dC kJ (fun g o (e:az)=> .ix g s.dC.length (.ob (adz o) (.lt (adC s o) fun q=> .ob (dE (e.l.length+q.length) 32) (rl (az.mk e.qN (e.l++q)))))) (fun g (e:az)=> .ret e.l) u) (.each true rP s.Enums fF (fun n j (b:az)=> .ix n s.Enums.length (.ob (okE j) (.lt (Xn j) fun l=> .ob (dE (b.l.length+l.length) 32) (rl (az.mk b.qN (b.l++l)))))) (fun n (b:az)=> rl b) w)) (.each true rP s.Messages b_ (fun t v (c:az)=> .ix t s.Messages.length (.lt (I9 s) fun m=> .ob (okM v/\s.Messages.length<=m.length) (.lt (aez s v m) fun h=> .ob (dE (c.l.length+h.length) 32) (rl (az.mk c.qN (c.l++h)))))) (fun t (c:az)=> rl c) x))) (.lt (aV true (-1) 9 d) fun f=> .lt (lG s 1) fun p=> .lt (lG s 2) fun r=> .br (pK p r) (.ob (d.l.length<=68719476736) (rl f)) (.lt (lG s 3) fun k=> .br (pK p k) (.ob (d.l.length<=68719476736) (rl f)) (.ob (d.l.length<=68719476736) (rl (aV (pK r k) (-1) 9 d))))))))) (.wh (5) default (fun(a:Int×az)=> .br (decide (a.1<=3)) (.ob (okS s) (.ob (a.2.l.length<=68719476736) (.lt (aV (decide (64 < (↑(lG s a.1).length:Int))) (-1) 3 a.2) fun i=> .ob (i.l.length<=68719476736) (rl (bJ .i64 (a.1+1),aV (!Vr (lG s a.1)) (-1) 11 i))))) (.ret (.inr (.inl a.2)))) (1,az.mk [] []))
def adg (s:aF):=(adt s).val
theorem aro (s:aF)(h:okS s):Is (adt s):=
 by
 have i:=h;obtain⟨h1,Y,h3,N,R,K⟩:=h;refine kw.is (Q:=fun _=>True) (bP (fun D=>D.l.length<=10) ?_ (fun D t=>aj i (aj i (aj i (bP (fun A=>A.l.length<=11) ?_ (fun A u=>aj au (bP (fun B=>B.l.length<=2600000000) ?_ (fun B j=>bP (fun f=>f.l.length<=5200000000) ?_ (fun f o=> ?_)))))))))
 ·refine qJ (fun x=>1<=x.1/\x.1<=4/\x.2.l.length+2<=2*x.1.toNat) (fun x=>4 - x.1.toNat) ⟨ZU _,by decide,rC _⟩ jy (fun x Z=>bQ (fun C=>aj i (aj au (aI fun G z=>have k:=qH z;aj au (ai ?_)))) (fun _=>ai ?_))
  ·have X:=agl (!Vr (lG s x.1)) (-1) 11 G;have w:bJ .i64 (x.1+1)=x.1+1:=bY (k:= .i64) p_;simp only[Sum.elim_inl,w];omega
  ·show x.2.l.length<=10;omega
 ·have t:D.l.length<=10:=t;refine aI fun l J=>have k:=qH J;aI fun V S=>aI fun W U=>dL (fun _=>aj au (ai ?_)) (fun _=>aI fun T L=>dL (fun _=>aj au (ai ?_)) (fun _=>aj au (ai ?_)))
  ·show l.l.length<=11;omega
  ·show l.l.length<=11;omega
  ·exact KF (agl _ _ _ _) au
 ·have u:A.l.length<=11:=u;have M:(I9 s).length=s.Messages.length:=(YX s au).2;refine dA (fun k y=>y.l.length<=11+16777216*k) au au (fun F g b a=>aX au au (aI fun q P=> ?_)) (fun g a=>ai (by have a:g.l.length<=11+16777216*s.Messages.length:=a;show g.l.length<=2600000000;omega));have a:g.l.length<=11+16777216*F:=a;have c:=N _ (getD_mem (d:=b_) b);have C:s.Messages.length<=q.length:=by rw[P,M];exact rC _
  refine aj ⟨c,C⟩ (aI fun n I=> ?_);have k:n.length<=16777216:=by rw[I];exact(YA s _ q ⟨c,C⟩).2
  exact aj (dw au au) (ai (by show(g.l++n).length<=11+16777216*(F+1);rw[tK];omega))
 ·have j:B.l.length<=2600000000:=j;refine dA (fun k y=>y.l.length<=2600000000+16777216*k) au au (fun r e b a=>aX au au ?_) (fun e a=>ai (by have a:e.l.length<=2600000000+16777216*s.Enums.length:=a;show e.l.length<=5200000000;omega));have a:e.l.length<=2600000000+16777216*r:=a;have c:=R _ (getD_mem (d:=fF) b);refine aj c (aI fun p O=> ?_);have k:p.length<=16777216:=by rw[O];exact(SV _ c).2
  exact aj (dw au au) (ai (by show(e.l++p).length<=2600000000+16777216*(r+1);rw[tK];omega))
 ·have o:f.l.length<=5200000000:=o;refine dA (fun k y=>y.l.length<=5200000000+16777216*k) au au (fun m E b a=>aX au au ?_) (fun E a=>ai trivial);have a:E.l.length<=5200000000+16777216*m:=a;have c:=K _ (getD_mem (d:=kJ) b);refine aj c (aI fun v H=> ?_);have k:v.length<=16777216:=by rw[H];exact(WU s _ c).2
  exact aj (dw au au) (ai (by show(E.l++v).length<=5200000000+16777216*(m+1);rw[tK];omega))
def ayr:bT Z:=E1 [ajB,Dw,ax8,arX,axo,avD,aqc,ave] [jS 3 (dh (fun b=>[s0 4, .cells (pid (b 3)) [none,some 226]]) (aC cI (l1 bH))),jS 14 (dh (fun b=>[s0 10, .cells (pid (b 3)) [none,some 226]]) (aC cI (l1 bH))),jS 18 (dh (fun b=>[s0 11, .cells (pid (b 3)) [none,some 226]]) (aC cI (l1 bH))),jS 22 (dh (fun b=>[s0 12, .cells (pid (b 3)) [none,some 226]]) (aC cI (l1 bH))),jS 100008 (dh (fun b=>[.cells (pid (b 3)) [none,some 226]]) (l1 bH)),jS 100012 (dh (fun b=>[.cells (pid (b 3)) [none,some 226]]) (l1 bH)),jS 100017 (dh (fun b=>[.cells (pid (b 3)) [none,some 226]]) (l1 bH)),jS 100021 (dh (fun b=>[.cells (pid (b 3)) [none,some 226]]) (l1 bH)),jS 800001 (dh (fun b=>[.cells (pid (b 3)) [none,some 226]]) (l1 bH))] (a1 (aQ bV)) (R1 kZ) [] func36 1 adt (fun a=>okS a) fun a h=>aro a h
def MR (s:aF):Pg Bool:=.ob (okS s) (.ret ((↑(adg s).length:Int)==0))
def qf (s:aF):=(MR s).val
theorem aic (s:aF)(h:okS s):Is (MR s):=
 bM (h) (aZ)
def Yi:bT Z:=E1 [ayr] [] (a1 (aQ bV)) (R1 aW) [] func16 1 MR (fun a=>okS a) fun a h=>aic a h
theorem Dv {A B:Type}(c:Bool)(a b:A):(bif c then(Sum.inl a:A⊕B)else .inl b)= .inl (bif c then a else b):=by cases c<;>rfl
theorem aFz (a:Bool)(e:Int)(x:ak):gp a e x=bif a then x else⟨x.qN,x.num,x.out++[⟨x.qN,x.num,e⟩]⟩:=by cases a<;>rfl
theorem aD4 (bad:Bool)(n e:Int)(p:az):aV bad n e p=bif bad then⟨p.qN,p.l++[⟨p.qN,n,e⟩]⟩else p:=by cases bad<;>rfl
theorem Dn (c a b:Bool)(e:Int)(x:ak):(bif c then gp a e x else gp b e x)=gp (bif c then a else b) e x:=by cases c<;>rfl
theorem yK (c a:Bool)(e:Int)(x y:ak):(bif c then gp a e x else gp a e y)=gp a e (bif c then x else y):=by cases c<;>rfl
theorem Ho (c a b:Bool)(n e:Int)(x:az):(bif c then aV a n e x else aV b n e x)=aV (bif c then a else b) n e x:=by cases c<;>rfl
theorem Dz (c a:Bool)(n e:Int)(x y:az):(bif c then aV a n e x else aV a n e y)=aV a n e (bif c then x else y):=by cases c<;>rfl
def ql (n:Int)(x:ak)(p:az):Prop:=x.qN=p.qN/\x.num=n/\x.out=p.l
theorem d_ {n:Int}{x:ak}{p:az}{c bad:Bool}{e:Int}(h:ql n x p)(f:c= !bad):ql n (gp c e x) (aV bad n e p):=by
 obtain⟨b,a,d⟩:=h;rw[aFz,aD4,f];cases bad with
 | false=>exact⟨b,a,d⟩
 | true=>exact⟨b,a,by show x.out++[⟨x.qN,x.num,e⟩]=p.l++[⟨p.qN,n,e⟩];rw[b,a,d]⟩
theorem H_ {n:Int}{x:ak}{p:az}(h:ql n x p)(m:Int):ql m ⟨x.qN,m,x.out⟩ p:=⟨h.1,rfl,h.2.2⟩
theorem yC {n:Int}{x:ak}{p:az}(h:ql n x p)(l:List Note)(c:XG l)(t:Int)(b:t=1\/t=2\/t=3\/t=4\/t=5\/t=6):ql n (l9 l t x) (iL l t n p):=by
 unfold l9 apa iL LU;simp only[bG,bF,ay,avL l c t b];refine d_ h ?_;cases a:O4 l t==0<;>simp[bne,a]
theorem ru {p q:Prop}[Decidable p][Decidable q](h:p ↔ ¬q):decide p= !decide q:=by
 by_cases a:q
 ·rw[jK a,jF (fun k=>h.1 k a)];rfl
 ·rw[jF a,jK (h.2 a)];rfl
theorem aaY (l:List ou)(a b:Int){x:ak}{p:az}(h:ql (-1) x p):ql (-1) (JZ l a b x) (yE l a b p):=by
 unfold JZ spans yE Lm;simp only[gm,fM,dN,bF,aN,bG,ay];refine rU (d:=vF) (d':=vF) (fun _=>ql (-1)) (ql (-1)) l l 0 x p rfl h (fun j y z i c=> ?_) (fun y z c=>c);simp only[zM,Dv,Dn,Ho,yK,Dz];generalize l.getD j vF=s;show ql (-1) _ _
 by_cases f:a<=s.From
 ·by_cases g:s.To<=b
  ·simp only[jK f,jK g,jF (show ¬s.From < a by omega),jF (show ¬b < s.To by omega),cond_true,jm];refine d_ (d_ c (ru au)) ?_;by_cases e:j=0
   ·subst e;rfl
   ·rw[show((j:Int)==0)=false from beq_eq_false_iff_ne.2 au,jK (show(0:Int) < (j:Int) by omega)];exact ru au
  ·simp only[jK f,jF g,jF (show ¬s.From < a by omega),jK (show b < s.To by omega),cond_true,jm];refine d_ (d_ c rfl) ?_;by_cases e:j=0
   ·subst e;rfl
   ·rw[show((j:Int)==0)=false from beq_eq_false_iff_ne.2 au,jK (show(0:Int) < (j:Int) by omega)];exact ru au
 ·simp only[jF f,jK (show s.From < a by omega),cond_true,jm];refine d_ (d_ c rfl) ?_;by_cases e:j=0
  ·subst e;rfl
  ·rw[show((j:Int)==0)=false from beq_eq_false_iff_ne.2 au,jK (show(0:Int) < (j:Int) by omega)];exact ru au
theorem aHZ (c d:UInt8):((c.toNat:Int)==(d.toNat:Int))=(c==d):=by
 apply Qba.2;simp only[Vt];constructor
 ·intro h;exact Qcn.1 au
 ·rintro rfl;rfl
theorem anM (s:Str):Io s=Ir s:=by
 unfold Io isWord Ir aeJ;simp only[gz,aN,ay];cases s==[109,101,115,115,97,103,101]
 rotate_left;· rfl
 cases s==[101,110,117,109]
 rotate_left;· rfl
 cases s==[115,101,114,118,105,99,101]
 rotate_left;· rfl
 cases s==[117,110,105,111,110]
 rotate_left;· rfl
 cases s==[109,97,112]
 rotate_left;· rfl
 cases s==[108,105,115,116]
 rotate_left;· rfl
 cases s==[114,101,113,117,105,114,101,100]
 rotate_left;· rfl
 cases s==[111,112,116,105,111,110,97,108]
 rotate_left;· rfl
 cases s==[112,108,97,105,110]
 rotate_left;· rfl
 cases s==[100,101,102,97,117,108,116]
 rotate_left;· rfl
 cases s==[114,101,115,101,114,118,101,100]
 rotate_left;· rfl
 cases s==[105,109,112,111,114,116]
 rotate_left;· rfl
 cases s==[115,112,97,99,101]
 rotate_left;· rfl
 cases s==[114,112,99]
 rotate_left;· rfl
 cases s==[115,116,114,101,97,109]
 rotate_left;· rfl
 cases s==[114,101,116,117,114,110,115]
 rotate_left;· rfl
 cases s==[111,112,101,110]
 rotate_left;· rfl
 cases s==[116,114,117,101]
 rotate_left;· rfl
 cases s==[102,97,108,115,101]
 rotate_left;· rfl
 cases s==[110,97,110]
 rotate_left;· rfl
 cases s==[105,110,102]<;>rfl
theorem TW (s:Str):Gw s=uK s:=by
 unfold Gw axi uK adV;simp only[aN,ay,Ym,Ik,anM]
theorem apA (y:Str)(h:y.length<=4294967296):ann 46 y (Du y):=by
 unfold Du ML;simp only[bF,sS,aN,dN,bG,ay];have w0:bJ .i64 ((y.length:Int) - 1)=(y.length:Int) - 1:=bY (k:= .i64) p_;rw[w0];refine aA0 (fun x f d=> ?_) _ _ au;by_cases a:0<=x
 ·have e:(((y.getD x.toNat 0).toNat:Int)==46)=(y.getD x.toNat 0==46):=aHZ _ 46;have c:bJ .i64 (x+1)=x+1:=bY (k:= .i64) p_;have b:bJ .i64 (x - 1)=x - 1:=bY (k:= .i64) p_;rw[e,c,b,jK a,JG,show(x+1).toNat=x.toNat+1 by omega]
 ·rw[jF a];rfl
theorem PP (s:Str):Yd s=BN s:=by
 unfold Yd awy BN MS;simp only[bG,aN,qx,bF,ay,ahB,anM];cases a:H9 s with
 | false=>rfl
 | true=>
  have e:s.length<=120:=by
   rw[ab9,jA,Lh]at a;exact a.1
  have d:Ir []=false:=rfl;simp only[Qbj,jm,cond_true];refine Eq.symm (Gm (c:=46) (isW:=Ir) (sp:=Du) d (fun y b=>apA y au) ?_ 120 0 s e (rC _));intro i y;cases b:y==[]<;>simp[bne,b]
theorem yA {A:Type}{b:Nat->A->Unit->Unit⊕Bool}{f:Nat->Unit->Bool}{p:A->Bool}(c:∀k a,b k a ()=bif p a then .inr true else .inl ())(d:∀k,f k ()=false):∀(l:List A) (k:Nat),jZ b f l k ()=l.any p
 | [],k=>d k
 | a::l,k=>by
  unfold jZ;rw[c,Qct];cases p a with
  | true=>rfl
  | false=>exact yA c d l (k+1)
theorem XP {A R:Type}{d:A}{l:List A}{p:A->Bool}{b:Int->Bool->Bool⊕R}{f:Int->Bool->R}(a:∀k y,b k y= .inl (bif p (l.getD k.toNat d)then true else y)):∀(n i:Nat) (y:Bool),i+n<=l.length->oq b f n (i:Int) y=f ((i+n:Nat):Int) (y || ((l.drop i).take n).any p)
 | 0,i,y,_=>by simp[oq]
 | n+1,i,y,h=>by
  unfold oq;rw[a];have e:((i:Nat):Int)+1=((i+1:Nat):Int):=by omega
  dsimp only;rw[e,XP a n (i+1) _ au,show i+1+n=i+(n+1) by omega];congr 1;have c:l.drop i=l.getD i d::l.drop (i+1):=by
   rw[Qbc (show i < l.length by omega)];congr 1;simp[List.getD,show i < l.length by omega]
  rw[c,Qcb,Qct,uZ];cases p (l.getD i d)<;>cases y<;>rfl
theorem atK (l:List ou)(n:Int):yN l n=Bf l n:=by
 unfold yN P5 Bf adK;simp only[fM,dN,aN,ay];symm;refine yA (fun k a=> ?_) (fun k=>rfl) l 0;unfold anZ aF5;simp only[aN,ay];cases decide (a.From<=n)<;>rfl
theorem has_eq (l:List Str)(v:Str):(l.any fun(x:Str)=>v==x)=Kw l v:=by
 unfold Kw aoj;simp only[fM,dN,aN,ay];symm;refine yA (fun k a=> ?_) (fun k=>rfl) l 0;rw[show(v==a)=(a==v)from by rw[Qba,Vt,Vt];exact⟨Eq.symm,Eq.symm⟩]
theorem yU (s:aF)(n:Str):(gG s n).2=decide (0<=dP (fun(m:aK)=>m.Name==n) s.Messages):=by
 rw[A_];by_cases h:dP (fun(m:aK)=>m.Name==n) s.Messages < 0
 ·rw[jK h,jF au];rfl
 ·rw[jF h,jK au];rfl
theorem aiD (s:aF)(a:Str):Xk s a=bif decide (dP (fun(x:gu)=>x.Name==a) s.Enums < 0)then(gu.mk [] false [] [] [],false)else(s.Enums.getD (dP (fun(x:gu)=>x.Name==a) s.Enums).toNat fF,true):=by
 unfold Xk anf;simp only[bF,aN,dN,ay];rfl
theorem aBA (s:aF)(n:Str):(Xk s n).2=decide (0<=dP (fun(m:gu)=>m.Name==n) s.Enums):=by
 rw[aiD];by_cases h:dP (fun(m:gu)=>m.Name==n) s.Enums < 0
 ·rw[jK h,jF au];rfl
 ·rw[jF h,jK au];rfl
theorem azs (f:bu):(bif decide (1<=f.Card)then bif decide (f.Card<=5)then Ew f.Card f.Key else false else false)=Gp f:=by
 unfold Ew afr Gp T_;simp only[aN,ay];by_cases i:f.Card=5
 ·simp only[i,bne_self_eq_false,jm];by_cases b:f.Key=1
  ·simp[b]
  by_cases d:f.Key=2
  ·simp[d]
  by_cases h:f.Key=3
  ·simp[h]
  by_cases g:f.Key=4
  ·simp[g]
  by_cases e:f.Key=5
  ·simp[e]
  by_cases l:f.Key=6
  ·simp[l]
  by_cases j:f.Key=7
  ·simp[j]
  ·simp only[beq_eq_false_iff_ne.2 b,beq_eq_false_iff_ne.2 d,beq_eq_false_iff_ne.2 h,beq_eq_false_iff_ne.2 g,beq_eq_false_iff_ne.2 e,beq_eq_false_iff_ne.2 j,jm];by_cases a:1<=f.Key
   ·rw[jK a,jF (show ¬f.Key<=7 by omega)]<;>rfl
   ·rw[jF a]<;>rfl
 ·have k:(f.Card !=5)=true:=by simp[i]
  rw[k];simp only[cond_true];by_cases a:1<=f.Card
  ·by_cases c:f.Card<=4
   ·rw[jK a,jK c,jK (show f.Card<=5 by omega)]<;>rfl
   ·rw[jK a,jF c,jF (show ¬f.Card<=5 by omega)]<;>rfl
  ·rw[jF a]<;>rfl
theorem auZ (s:aF)(f:bu):H6 s f=OY s f:=by
 unfold H6 aeU OY adu;simp only[bF,aN,ay,yU,aBA];by_cases b:f.di.Kind=9
 ·simp[b]
 by_cases a:f.di.Kind=10
 ·simp[a]
 simp only[beq_eq_false_iff_ne.2 b,beq_eq_false_iff_ne.2 a,jm]
theorem azg (v:af)(h:xU v):ako v=Fe v (af.mk 0 0 [] [] [] [] []):=by
 obtain⟨_,_,_,e,d,c,b⟩:=h;have a:∀x:Int,0<=x->x<=16777216->bJ .i64 x=x:=fun x _ _=>bY (k:= .i64) p_
 unfold ako atM Fe WH;simp only[gm,aN,ay];have l0:((af.mk 0 0 [] [] [] [] []).List.length:Int)=0/\((af.mk 0 0 [] [] [] [] []).Pairs.length:Int)=0/\((af.mk 0 0 [] [] [] [] []).Slots.length:Int)=0/\((af.mk 0 0 [] [] [] [] []).dH.length:Int)=0:=⟨rfl,rfl,rfl,rfl⟩;rw[l0.1,l0.2.1,l0.2.2.1,l0.2.2.2];rw[a ((v.List.length:Int)+v.Pairs.length) au au];rw[a ((v.List.length:Int)+v.Pairs.length+v.Slots.length) au au];rw[a ((v.List.length:Int)+v.Pairs.length+v.Slots.length+v.dH.length) au au];simp only[Int.add_zero];rw[a ((v.List.length:Int)+v.Pairs.length+v.Slots.length+v.dH.length) au au];simp only[a ((v.List.length:Int)+v.Pairs.length+v.Slots.length+v.dH.length) au au];rfl
theorem alq (v:af):(lq v).Kind=v.Kind/\(lq v).Text=v.Text/\(lq v).List=v.List/\(lq v).Pairs=v.Pairs/\(lq v).Slots=v.Slots/\(lq v).dH=v.dH:=by
 unfold lq XT;simp only[aN,ay,af.dn];cases v.Kind==6<;>cases CO v.Bits==0<;>exact⟨rfl,rfl,rfl,rfl,rfl,rfl⟩
theorem apV (k:Int)(v:af)(h:wJ k v=true):wL v=true:=by
 unfold wJ P7 at h;simp only[aN,ay,af.dn]at h;cases a:wL v with
 | true=>rfl
 | false=>
  rw[a]at h;revert h;cases Gy k<;>cases v.Kind !=k<;>exact fun h=>Bool.noConfusion (show false=true from h)
theorem akF (s:aF)(f:bu)(h:xU f.Default):Hl s f=Cf s f:=by
 unfold Hl KP Cf NM;simp only[bF,aN,ay,dN,aby,af.dn,Ye _ _ h,Vg _ h,azg _ h];cases f.jf with
 | false=>rfl
 | true=>
  cases f.Card !=2 with
  | true=>rfl
  | false=>
   cases f.Union !=[]with
   | true=>rfl
   | false=>
    cases j:wJ f.di.Kind f.Default with
    | false=>rfl
    | true=>
     obtain⟨i,g,l,c,d,m⟩:=alq f.Default;have e:Fe f.Default (lq f.Default)=((lq f.Default).Bits==f.Default.Bits):=by
      rw[aHa f.Default h (lq f.Default) ⟨by rw[l],by rw[c],by rw[d],by rw[m]⟩,i,g,apV _ _ j,Qc2,Qc2];rw[Qb9,Qb9,Qeb,Qba,Vt,Vt];exact⟨Eq.symm,Eq.symm⟩
     rw[e];simp only[Qbj,jm,bne];cases(lq f.Default).Bits==f.Default.Bits with
     | false=>rfl
     | true=>
      cases n:f.di.Kind==9 with
      | false=>rfl
      | true=>
       simp only[Qbj,jm];rw[aiD];by_cases b:dP (fun(x:gu)=>x.Name==f.di.Name) s.Enums < 0
       ·rw[jK b];rfl
       ·rw[jF b];simp only[jm,cond_true];symm;refine yA (fun k a=> ?_) (fun k=>rfl) _ 0;rfl
theorem arO (m:aK)(i:Int)(h:0<=i)(o:i < m.Fields.length):Zu m i=BL m i:=by
 unfold Zu Ud BL Og;simp only[bF,aN,ay,dN,bG,fM,af.dn,TW];obtain⟨n,rfl⟩:=Qa8 h;simp only[uZ];generalize l:(m.Fields.getD n aB).Union=u;cases u==[]with
 | true=>rfl
 | false=>
  cases(m.Fields.getD n aB).Card !=2 with
  | true=>rfl
  | false=>
   cases uK u with
   | false=>rfl
   | true=>
    simp only[Qbj,jm];have e:=aa3 (R:=Bool) (b:=fun(k:Nat) (d:bu) (c:Bool)=>bif d.Name==u then(Sum.inr false:Bool⊕Bool)else bif decide ((k:Int) < (n:Int))then bif d.Union==u then .inl true else .inl c else .inl c) (f:=fun(_:Nat) (c:Bool)=>bif !c then true else(m.Fields.getD (bJ .i64 ((n:Int) - 1)).toNat aB).Union==u) (p:=fun _ a=>a.Name==u) (g:=fun j a y=>bif decide (j < n)then bif a.Union==u then true else y else y) (r:=false) m.Fields 0 false (fun j a y _=>by
     simp only[zM];have:decide ((j:Int) < (n:Int))=decide (j < n):=by rw[decide_eq_decide];omega
     rw[this];cases a.Name==u<;>cases decide (j < n)<;>cases a.Union==u<;>rfl)
    refine Qcf ?_ e.symm;rw[af_,acj,Qdt,Nat.sub_zero];rfl
theorem Rf (c:Bool)(l:List Note)(t:Int)(x y:ak):(bif c then l9 l t x else l9 l t y)=l9 l t (bif c then x else y):=by cases c<;>rfl
theorem SE (c:Bool)(l:List Note)(t n:Int)(x y:az):(bif c then iL l t n x else iL l t n y)=iL l t n (bif c then x else y):=by cases c<;>rfl
theorem YU {n:Int}{x:ak}{p:az}(h:ql n x p):ql x.num x p:=⟨h.1,rfl,h.2.2⟩
theorem ahQ {n:Int}{x:ak}{p:az}{v:ak⊕List dW}{w:az⊕List dW}(h:ql n x p)(a:v= .inl x)(b:w= .inl p):adQ (fun x p=>ql x.num x p) Eq v w:=by subst a b;exact YU h
theorem nnB (b:Bool):b= !!b:=(Bool.not_not b).symm
theorem aty (l:List bu)(n:Nat):alT l n=(l.take n).any fun a=>a.Name==(l.getD n aB).Name:=by
 unfold alT auv;simp only[bG,dN,ay,uZ];rfl
theorem aw_ (l:List Item)(n:Nat):aec l n=(l.take n).any fun a=>a.Name==(l.getD n iT).Name:=by
 unfold aec axJ;simp only[bG,dN,ay,uZ];rfl
def okF (f:bu):Prop:=xU f.Default/\XG f.Notes
def aAI (m:aK):Prop:=XG m.Notes/\∀f∈m.Fields,okF f
def aEv (e:gu):Prop:=XG e.Notes/\∀i∈e.Items,XG i.Notes
def axR (v:dQ):Prop:=XG v.Notes/\∀m∈v.Methods,XG m.Notes
def alN (s:aF):Prop:=okS s/\(∀m∈s.Messages,aAI m)/\(∀e∈s.Enums,aEv e)/\∀v∈s.dC,axR v
theorem P9 (n a b:Int):(bif decide (a<=n)then decide (n<=b)else false)= !(bif decide (n < a)then true else decide (b < n)):=by
 by_cases h:a<=n
 ·rw[jK h,jF (show ¬n < a by omega)];exact ru au
 ·rw[jF h,jK (show n < a by omega)];rfl
theorem aaE (n:Nat)(a b:Int):(bif (n:Int)==0 then true else decide (a < b))= !(bif decide ((0:Int) < (n:Int))then decide (b<=a)else false):=by
 by_cases c:n=0
 ·subst c;rfl
 ·rw[show((n:Int)==0)=false from beq_eq_false_iff_ne.2 au,jK (show(0:Int) < (n:Int) by omega)];exact ru au
theorem aqb (s:aF)(m:aK)(n:Nat)(i:n < m.Fields.length)(g:aAI m){x:ak}{p:az}(h:ql (-1) x p)(a:bu)(c:m.Fields.getD n aB=a):
  ql (-1) (Em s m n x) (iL a.Notes 2 a.Num (aV (!Cf s a) a.Num 1 (aV (!BL m n) a.Num 15 (aV (!OY s a) a.Num 12 (aV (!Gp a) a.Num 1 (aV (bif Bf m.Reserved a.Num then true else Kw m.Gone a.Name) a.Num 21 (aV ((m.Fields.take n).any fun b=>b.Name==a.Name) a.Num 9 (aV (!uK a.Name) a.Num 8 (aV (bif decide ((0:Int) < (n:Int))then decide (a.Num<=(m.Fields.getD (bJ .i64 ((n:Int) - 1)).toNat aB).Num)else false) a.Num 11 (aV (bif decide (a.Num < 1)then true else decide (65535 < a.Num)) a.Num 6 p)))))))))):=by
 have f:okF a:=c▸g.2 _ (getD_mem (d:=aB) i);have e:=aty m.Fields n;rw[c]at e;unfold Em field;simp only[dN,gz,aN,bF,bG,ay,Dv,fG,Dn,yK,uZ,af.dn,c,e];refine H_ (n:=a.Num) (yC ?_ a.Notes f.2 2 au) (-1);refine d_ (d_ (d_ (d_ (d_ (d_ (d_ (d_ (d_ (H_ h a.Num) ?_) ?_) ?_) ?_) ?_) ?_) ?_) ?_) ?_
 ·exact P9 _ _ _
 ·exact aaE _ _ _
 ·exact(TW _).trans (nnB _)
 ·rfl
 ·rw[atK,has_eq];cases Bf m.Reserved a.Num<;>rfl
 ·exact(azs a).trans (nnB _)
 ·exact(auZ s a).trans (nnB _)
 ·exact(arO m n au au).trans (nnB _)
 ·exact(akF s a f.1).trans (nnB _)
theorem aqg (a b c:Int):(bif decide (a<=64)then decide (max b c<=16)else false)= !(bif decide (64 < a)then true else bif decide (16 < b)then true else decide (16 < c)):=by
 by_cases h:a<=64
 ·rw[jK h,jF (show ¬64 < a by omega)];by_cases d:16 < b
  ·rw[jK d,jF (show ¬max b c<=16 by omega)];rfl
  ·rw[jF d];exact ru au
 ·rw[jF h,jK (show 64 < a by omega)];rfl
theorem aDL (s:aF)(m:aK)(h:List (Str×Bool))(c:List Bool)(t:aAI m)(A:CE s m h=vS s m c):vZ s m h=aez s m c:=by
 unfold vZ Rx aez aeg;simp only[gz,bF,aN,bG,gm,fM,qx,dN,ay,Dv,fG,Dn,yK,Ho,Dz];refine QG (I:=ql (-1)) (Q:=Eq) ?_ (fun y z w=> ?_)
 ·have r:((m.Fields.length:Int) - 0).toNat=m.Fields.length:=by omega
  rw[r];have e:∀X:ak,oq (fun(i:Int) (y:ak)=>(Sum.inl (Em s m i y):ak⊕(ak⊕List dW))) (fun _ y=> .inl y) m.Fields.length 0 X=jZ (fun(k:Nat) (_:bu) (y:ak)=>(Sum.inl (Em s m k y):ak⊕(ak⊕List dW))) (fun _ y=> .inl y) m.Fields 0 X:=fun X=>(ach (d:=aB) m.Fields 0 X (fun j y n=>rfl) (fun y=>rfl)).symm
  refine Eq.mpr (Ll (fun v=>adQ (ql (-1)) Eq v _) (e _)) ?_;refine rU (d:=aB) (d':=aB) (fun _=>ql (-1)) (adQ (ql (-1)) Eq) m.Fields m.Fields 0 _ _ rfl ?_ (fun j y z n g=> ?_) (fun y z g=>g)
  ·refine d_ (d_ ⟨rfl,rfl,rfl⟩ ((PP _).trans (nnB _))) ?_;exact aqg _ _ _
  ·simp only[zM];have u:((j:Int) - 0).toNat=j:=by omega
   rw[u];generalize B:m.Fields.getD j aB=a;have q:=XP (R:=az⊕(az⊕List dW)) (d:=aB) (l:=m.Fields) (p:=fun b=>b.Name==a.Name) (b:=fun(x:Int) (o:Bool)=> .inl (bif (m.Fields.getD x.toNat aB).Name==a.Name then true else o)) (f:=fun(_:Int) (o:Bool)=> .inl (iL a.Notes 2 a.Num (aV (!Cf s a) a.Num 1 (aV (!BL m j) a.Num 15 (aV (!OY s a) a.Num 12 (aV (!Gp a) a.Num 1 (aV (bif Bf m.Reserved a.Num then true else Kw m.Gone a.Name) a.Num 21 (aV o a.Num 9 (aV (!uK a.Name) a.Num 8 (aV (bif decide ((0:Int) < (j:Int))then decide (a.Num<=(m.Fields.getD (bJ .i64 ((j:Int) - 1)).toNat aB).Num)else false) a.Num 11 (aV (bif decide (a.Num < 1)then true else decide (65535 < a.Num)) a.Num 6 z))))))))))) (fun _ _=>rfl) j 0 false au;simp only[Qdt,Qdz,af.dn]at q⊢;refine Eq.mpr (Ll (fun v=>adQ (ql (-1)) (adQ (ql (-1)) Eq) _ v) q) ?_;exact aqb s m j n t g a B
 ·refine rU (d:=[]) (d':=[]) (fun _=>ql (-1)) Eq m.Gone m.Gone 0 _ _ rfl (aaY _ _ _ w) (fun j y z n g=> ?_) (fun y z g=> ?_)
  ·exact d_ g (nnB _)
  ·have q:=d_ (e:=19) (yC g m.Notes t.1 1 au) (show(!CE s m h)= !vS s m c by rw[A]);exact q.2.2
theorem apK (a b:Int):(bif decide (1<=a)then bif decide (a<=64)then decide (b<=16)else false else false)= !(bif decide (a < 1)then true else bif decide (64 < a)then true else decide (16 < b)):=by
 by_cases h:1<=a
 ·rw[jK h,jF (show ¬a < 1 by omega)];by_cases c:a<=64
  ·rw[jK c,jF (show ¬64 < a by omega)];exact ru au
  ·rw[jF c,jK (show 64 < a by omega)];rfl
 ·rw[jF h,jK (show a < 1 by omega)];rfl
theorem aA2 (e:gu)(h:aEv e):wF e=Xn e:=by
 unfold wF QB Xn Vl;simp only[gz,bF,aN,bG,gm,fM,qx,dN,ay,Dv,fG,Dn,yK,Ho,Dz,Rf,SE];refine rU (d:=iT) (d':=iT) (fun _ x p=>ql x.num x p) Eq e.Items e.Items 0 _ _ rfl ?_ (fun j y z o c=> ?_) (fun y z c=> ?_)
 ·refine YU (n:= -1) (d_ (n:= -1) (d_ (n:= -1) (d_ (n:= -1) ?_ ((PP _).trans (nnB _))) (apK _ _)) ?_)
  ·exact⟨rfl,rfl,rfl⟩
  by_cases s:e.Items.length=0
  ·rw[s];rfl
  ·rw[show((e.Items.length:Int)==0)=false from beq_eq_false_iff_ne.2 au,jK (show(0:Int) < (e.Items.length:Int) by omega)];simp only[cond_true,jm,bne,Bool.not_not]
 ·simp only[zM];have t:XG (e.Items.getD j iT).Notes:=h.2 _ (getD_mem (d:=iT) o);have m:=aw_ e.Items j;have i:((j:Int) - 0).toNat=j:=by omega
  rw[i];generalize u:e.Items.getD j iT=a at*;have q:=XP (R:=az⊕List dW) (d:=iT) (l:=e.Items) (p:=fun b=>b.Name==a.Name) (b:=fun(k:Int) (g:Bool)=> .inl (bif (e.Items.getD k.toNat iT).Name==a.Name then true else g)) (f:=fun(_:Int) (g:Bool)=> .inl (iL a.Notes 4 a.Num (aV (Bf e.Reserved a.Num) a.Num 21 (aV g a.Num 9 (aV (!uK a.Name) a.Num 8 (aV (bif decide ((0:Int) < (j:Int))then decide (a.Num<=(e.Items.getD (bJ .i64 ((j:Int) - 1)).toNat iT).Num)else false) a.Num 11 (aV (bif decide (a.Num < 0)then true else decide (2147483647 < a.Num)) a.Num 6 z))))))) (fun _ _=>rfl) j 0 false au;simp only[Qdt,Qdz]at q;have r:ql a.Num (l9 a.Notes 4 (gp (!yN e.Reserved a.Num) 21 (gp (!aec e.Items j) 9 (gp (Gw a.Name) 8 (gp (bif (j:Int)==0 then true else decide ((e.Items.getD (bJ .i64 ((j:Int) - 1)).toNat iT).Num < a.Num)) 11 (gp (bif decide (0<=a.Num)then decide (a.Num<=2147483647)else false) 6 ⟨y.qN,a.Num,y.out⟩)))))) _:=
   yC (d_ (d_ (d_ (d_ (d_ (H_ c a.Num) (P9 _ _ _)) (aaE j _ _)) ((TW _).trans (nnB _))) (Ll not m)) (Ll not (atK _ _))) a.Notes t 4 au
  exact ahQ r rfl q
 ·have q:=yC (aaY e.Reserved 0 2147483647 (H_ c (-1))) e.Notes h.1 3 au;exact q.2.2
theorem aFS (s:aF)(v:dQ)(c:axR v):am_ s v=adC s v:=by
 unfold am_ az_ adC ad8;simp only[gz,bF,aN,bG,gm,fM,qx,dN,ay,Dv,fG,Dn,yK,Ho,Dz,Rf,SE];refine rU (d:=iY) (d':=iY) (fun _ x p=>ql x.num x p) Eq v.Methods v.Methods 0 _ _ rfl ?_ (fun j y z f b=> ?_) (fun y z b=> ?_)
 ·refine YU (n:= -1) (d_ (n:= -1) (d_ (n:= -1) ?_ ((PP _).trans (nnB _))) (ru ?_))
  ·exact⟨rfl,rfl,rfl⟩
  ·omega
 ·simp only[zM];have h:XG (v.Methods.getD j iY).Notes:=c.2 _ (getD_mem (d:=iY) f);generalize i:v.Methods.getD j iY=a at*;have r:ql (j:Int) (l9 a.Notes 6 (gp (bif decide (1<=a.Shape)then decide (a.Shape<=4)else false) 1 (gp (bif (gG s a.In).2 then(gG s a.Out).2 else false) 12 (gp (bif (j:Int)==0 then true else !(Op.bytesLess a.Name (v.Methods.getD (bJ .i64 ((j:Int) - 1)).toNat iY).Name || a.Name==(v.Methods.getD (bJ .i64 ((j:Int) - 1)).toNat iY).Name)) 11 (gp (Gw a.Name) 8 ⟨y.qN,(j:Int),y.out⟩)))))
    (iL a.Notes 6 j (aV (bif decide (a.Shape < 1)then true else decide (4 < a.Shape)) j 1 (aV (bif decide (dP (fun(m:aK)=>m.Name==a.In) s.Messages < 0)then true else decide (dP (fun(m:aK)=>m.Name==a.Out) s.Messages < 0)) j 12 (aV (bif decide ((0:Int) < (j:Int))then Op.bytesLess a.Name (v.Methods.getD (bJ .i64 ((j:Int) - 1)).toNat iY).Name || a.Name==(v.Methods.getD (bJ .i64 ((j:Int) - 1)).toNat iY).Name else false) j 11 (aV (!uK a.Name) j 8 z))))):=by
   refine yC (d_ (d_ (d_ (d_ (H_ b (j:Int)) ((TW _).trans (nnB _))) ?_) ?_) (P9 _ _ _)) a.Notes h 6 au
   ·by_cases g:j=0
    ·subst g;rfl
    ·rw[show((j:Int)==0)=false from beq_eq_false_iff_ne.2 au,jK (show(0:Int) < (j:Int) by omega)];rfl
   ·rw[yU,yU];by_cases e:dP (fun(m:aK)=>m.Name==a.In) s.Messages < 0
    ·rw[jK e,jF (show ¬0<=dP (fun(m:aK)=>m.Name==a.In) s.Messages by omega)];rfl
    ·rw[jF e,jK (show 0<=dP (fun(m:aK)=>m.Name==a.In) s.Messages by omega)];exact ru au
  refine ahQ r ?_ rfl;cases(j:Int)==0<;>cases(gG s a.In).2<;>cases decide (1<=a.Shape)<;>rfl
 ·have q:=yC (H_ b (-1)) v.Notes c.1 5 au;exact q.2.2
theorem YD {A Y R:Type}{d:A}{b:Nat->A->Y->Y⊕R}{f:Nat->Y->R}{g:Y->Nat->Y}:∀(l:List A) (k:Nat) (y:Y),(∀j y,j < l.length->b (k+j) (l.getD j d) y= .inl (g y (k+j)))->jZ b f l k y=f (k+l.length) ((List.range' k l.length).foldl g y)
 | [],k,y,_=>rfl
 | a::l,k,y,h=>by
  have c:=h 0 y kM;rw[Qb]at c;have e:(a::l).getD 0 d=a:=rfl;rw[e]at c;unfold jZ;rw[c];have i:=YD (d:=d) (f:=f) (g:=g) l (k+1) (g y k) (fun j y m=>by
   have q:=h (j+1) y xI;rw[show k+(j+1)=k+1+j by omega]at q;exact q)
  dsimp only;rw[i,zx,List.range'_succ,Qde,show k+1+l.length=k+(l.length+1) by omega]
def wants (m:aK):List Str:=(m.Fields.filter fun f=>f.Card==1 && f.di.Kind==10).map fun f=>f.di.Name
theorem aa7 (m:aK):Nr m=wants m:=by
 unfold Nr aeI wants;simp only[gm,fM,dN,aN,bG,ay];have c:∀(l:List bu) (k:Nat) (y:List Str),jZ (fun(_:Nat) (a:bu) (b:List Str)=>bif a.Card==1 then bif a.di.Kind==10 then(Sum.inl (b++[a.di.Name]):List Str⊕List Str)else .inl b else .inl b) (fun _ b=>b) l k y=y++(l.filter fun f=>f.Card==1 && f.di.Kind==10).map fun f=>f.di.Name:=by
  intro l;induction l with
  | nil=>intro k y;simp[jZ]
  | cons a l e=>
   intro k y;unfold jZ;cases g:a.Card==1<;>cases d:a.di.Kind==10<;>simp only[cond_true,jm]<;>rw[e]<;>simp[g,d]
 exact c m.Fields 0 []
def oG (s:aF)(n:Str):Int:=dP (fun(m:aK)=>m.Name==n) s.Messages
def w_ (s:aF)(n:Str):Bool:=decide (0<=oG s n)
theorem Rz (s:aF)(m:aK)(b:List Bool):vS s m b=(wants m).any fun n=>w_ s n && !b.getD (oG s n).toNat false:=by
 unfold vS NT;simp only[fM,dN,aN,bF,ay];have e:∀l:List bu,(l.any fun f=>(f.Card==1 && f.di.Kind==10) && (w_ s f.di.Name && !b.getD (oG s f.di.Name).toNat false))=((l.filter fun f=>f.Card==1 && f.di.Kind==10).map fun f=>f.di.Name).any fun n=>w_ s n && !b.getD (oG s n).toNat false:=by
  intro l;induction l with
  | nil=>rfl
  | cons a l c=>
   rw[Qct,c,List.filter_cons];cases h:(a.Card==1 && a.di.Kind==10)with
   | true=>simp
   | false=>simp
 unfold wants;rw[<-e];refine yA (fun k a=> ?_) (fun k=>rfl) _ 0;unfold w_ oG bne;cases a.Card==1<;>cases a.di.Kind==10<;>cases decide (0<=dP (fun(m:aK)=>m.Name==a.di.Name) s.Messages)<;>cases b.getD (dP (fun(m:aK)=>m.Name==a.di.Name) s.Messages).toNat false<;>rfl
theorem azU (n:Str)(s:aF)(a:List (Str×Bool)):Oc n s a=(w_ s n && !mD false a n):=by
 unfold Oc aFV;simp only[aN,ay,yU];unfold w_ oG;cases decide (0<=dP (fun(m:aK)=>m.Name==n) s.Messages)<;>rfl
theorem asa (s:aF)(m:aK)(a:List (Str×Bool)):CE s m a=(wants m).any fun n=>w_ s n && !mD false a n:=by
 unfold CE afj;simp only[bG,ay,aa7];congr 1;funext n;unfold anu aD8;simp only[aN,ay,yU];unfold w_ oG;cases decide (0<=dP (fun(m:aK)=>m.Name==n) s.Messages)<;>rfl
noncomputable def aEh (s:aF):qy Str:=Qs s.Messages aK.Name wants (w_ s) (fun n=>(gG s n).1)
def Qj (s:aF):qy Nat:=KZ s.Messages.length (fun i=>s.Messages.getD i b_) wants (w_ s) (fun n=>(oG s n).toNat)
noncomputable def ahR (s:aF)(y:List (Str×Bool))(a:aK):List (Str×Bool):=bif !(wants (gG s a.Name).1).any fun n=>w_ s n && !mD false y n then qC y a.Name true else y
theorem arY (s:aF)(h:s.Messages.length<=1048576):(fun n=>mD false (oH s) n)=zk (aEh s) (s.Messages.length+1) (fun _=>false):=by
 have w:bJ .i64 ((s.Messages.length:Int)+1)=(s.Messages.length:Int)+1:=bY (k:= .i64) p_;have e:oH s=acb (fun y=>s.Messages.foldl (ahR s) y) (s.Messages.length+1) []:=by
  unfold oH U8;simp only[bF,qx,gm,fM,dN,bG,aN,ay];rw[w,show((s.Messages.length:Int)+1 - 0).toNat=s.Messages.length+1 by omega];refine Qcf (abj (g:=fun y=>s.Messages.foldl (ahR s) y) (fun i y=> ?_) _ 0 []) rfl;refine Qcf (aaS _ _ _ (fun j a y _ _=> ?_) (fun y=>rfl)) (abV (ahR s) (fun _ y=>(Sum.inl y:List (Str×Bool)⊕List (Str×Bool))) s.Messages 0 y);unfold ahR;have k:((Nr (gG s a.Name).1).any fun(x:Str)=>Oc x s y)=(wants (gG s a.Name).1).any fun n=>w_ s n && !mD false y n:=by
   rw[aa7];congr 1;funext n;exact azU n s y
  rw[k];cases(wants (gG s a.Name).1).any fun n=>w_ s n && !mD false y n<;>rfl
 rw[e];refine aim (abs:=fun(y:List (Str×Bool)) n=>mD false y n) (I:=fun _=>True) (fun y _=> ?_) _ _ trivial;refine aik (abs:=fun(y:List (Str×Bool)) n=>mD false y n) (I:=fun _=>True) (r:=fun m=>(m.Name,fun X=> !(wants (gG s m.Name).1).any fun n=>w_ s n && !X n)) s.Messages y trivial (fun a _ y _=>⟨trivial,?_⟩);unfold ahR uh;cases b:(!(wants (gG s a.Name).1).any fun n=>w_ s n && !mD false y n)with
 | true=>simp only[b,cond_true];exact aBk y a.Name
 | false=>simp only[b,jm]
def JD (s:aF)(x:Bool×List Bool)(i:Nat):Bool×List Bool:=bif !x.2.getD i false then bif !(wants (s.Messages.getD i b_)).any fun n=>w_ s n && !x.2.getD (oG s n).toNat false then(true,x.2.set i true)else x else x
theorem asE (s:aF)(h:s.Messages.length<=1048576):(fun i=>(I9 s).getD i false)=zk (Qj s) s.Messages.length (fun _=>false):=by
 unfold I9 ac2;simp only[bG,gm,qx,aN,fM,dN,ay];rw[show((s.Messages.length:Int) - 0).toNat=s.Messages.length by omega];have o:∀y:List Bool,y.length=s.Messages.length->((List.range' 0 s.Messages.length).foldl (JD s) (false,y)).2.length=s.Messages.length/\(fun i=>((List.range' 0 s.Messages.length).foldl (JD s) (false,y)).2.getD i false)=oQ (Qj s) (fun i=>y.getD i false)/\
   (((List.range' 0 s.Messages.length).foldl (JD s) (false,y)).1=false->(fun i=>((List.range' 0 s.Messages.length).foldl (JD s) (false,y)).2.getD i false)=fun i=>y.getD i false):=by
  intro y c;have q:=JB (abs:=fun(y:List Bool) i=>y.getD i false) (I:=fun y=>y.length=s.Messages.length) (g:=JD s) (r:=fun i=>(i,fun X=> !(wants (s.Messages.getD i b_)).any fun n=>w_ s n && !X (oG s n).toNat)) (List.range' 0 s.Messages.length) false y c (fun a z m y c=> ?_)
  ·refine⟨q.1,?_,fun k=>(q.2.2 k).2⟩;have e:Qj s=(List.range' 0 s.Messages.length).map fun i=>(i,fun X=> !(wants (s.Messages.getD i b_)).any fun n=>w_ s n && !X (oG s n).toNat):=by
    unfold Qj KZ;rw[List.range_eq_range']
   rw[e];exact q.2.1
  ·have A:a < s.Messages.length:=by
    have:=(List.mem_range'_1.1 z).2;omega
   unfold JD uh;cases l:y.getD a false with
   | true=>
    refine⟨c,?_,fun k=>⟨k,rfl⟩⟩;simp only[l,Qbj,jm];cases(!(wants (s.Messages.getD a b_)).any fun n=>w_ s n && !y.getD (oG s n).toNat false)with
    | true=>exact(aky (fun i=>y.getD i false) a l).symm
    | false=>rfl
   | false=>
    cases p:(!(wants (s.Messages.getD a b_)).any fun n=>w_ s n && !y.getD (oG s n).toNat false)with
    | true=>
     simp only[l,p,Bool.not_false,cond_true];exact⟨by rw[Qcl];exact c,azc y a au,fun k=>by cases k⟩
    | false=>
     simp only[l,p,Bool.not_false,cond_true,jm];refine⟨c,?_,fun k=>⟨k,?_⟩⟩<;>first | rfl | trivial
 have u:∀b:Int->Bool×List Bool->(Bool×List Bool)⊕List Bool,(∀i m y,y.length=s.Messages.length->b i (m,y)=bif m then .inl ((List.range' 0 s.Messages.length).foldl (JD s) (false,y))else .inr y)->(fun i=>(oq b (fun _ w=>w.2) s.Messages.length 0 (true,List.replicate s.Messages.length false)).getD i false)=zk (Qj s) s.Messages.length (fun _=>false):=by
  intro b v;obtain⟨D,l,C,x⟩:=ah0 (R:=List Bool) (abs:=fun(y:List Bool) i=>y.getD i false) (I:=fun y=>y.length=s.Messages.length) (g:=fun y=>(List.range' 0 s.Messages.length).foldl (JD s) (false,y)) (Rs:=Qj s) (b:=b) (f:=fun _ y=>y.2) (F:=fun y=>y) v (fun i m y=>rfl) o s.Messages.length 0 true (List.replicate s.Messages.length false) kM (fun k=>by cases k);rw[l];refine x.trans (Ll _ ?_);funext i;simp only[List.getD,List.getElem?_replicate];split<;>rfl
 refine u _ (fun i m y c=> ?_);cases m with
 | false=>rfl
 | true=>
  simp only[cond_true];refine Qcf (YD (d:=b_) (g:=JD s) s.Messages 0 (false,y) (fun j t B=> ?_)) rfl;simp only[zM,uZ,Rz];unfold JD;cases t.2.getD j false<;>cases(wants (s.Messages.getD j b_)).any fun n=>w_ s n && !t.2.getD (oG s n).toNat false<;>rfl
theorem aq2 (s:aF)(h:s.Messages.length<=1048576)(n:Str)(b:w_ s n=true):mD false (oH s) n=(I9 s).getD (oG s n).toNat false:=by
 have l:=congrFun (arY s h) n;have g:=congrFun (asE s h) (oG s n).toNat;have c:∀n,w_ s n=true->0<=oG s n:=fun n b=>EU b
 have lt:∀n,oG s n < s.Messages.length:=fun n=>(kU _ _).1
 refine l.trans (Qcf (arn s.Messages b_ aK.Name wants (w_ s) (fun n=>(oG s n).toNat) (fun n=>(gG s n).1) (fun n b=>⟨?_,?_⟩) (fun i j=> ?_) (fun n b=> ?_) _ _ (Nat.le_succ _) (rC _) n b) g.symm)
 ·have:=c n b;have:=lt n;omega
 ·have:=anN (fun(m:aK)=>m.Name==n) s.Messages b_ (c n b);exact eq_of_beq this
 ·unfold w_;refine jK ?_;rcases uk (fun(m:aK)=>m.Name==(s.Messages.getD i b_).Name) s.Messages with⟨_,f⟩ | ⟨u,a,v,_,_,_,e⟩
  ·have:=f _ (getD_mem (d:=b_) j);simp at this
  ·show 0<=dP _ _
   rw[e];omega
 ·have:=c n b;rw[A_];have k:¬dP (fun(x:aK)=>x.Name==n) s.Messages < 0:=by
   unfold oG at this;omega
  rw[jF k];rfl
theorem asf (s:aF)(h:s.Messages.length<=1048576)(m:aK):CE s m (oH s)=vS s m (I9 s):=by
 rw[asa,Rz];congr 1;funext n;cases a:w_ s n with
 | false=>rfl
 | true=>rw[aq2 s h n a]
theorem N8 {A R:Type}{l:List A}{d:A}{nm:A->Str}{F:List Str->R}{step:Int×List Str->(Int×List Str)⊕R}(f:l.length<=1048576)(b:∀x:Int×List Str,step x=bif decide (x.1 < (l.length:Int))then .inl (bJ .i64 (x.1+1),x.2++[nm (l.getD x.1.toNat d)])else .inr (F x.2))(c:R):∀(n i:Nat) (y:List Str),l.length - i < n->i<=l.length->JE step c n ((i:Int),y)=F (y++(l.drop i).map nm)
 | 0,i,y,h,_=>by omega
 | n+1,i,y,h,g=>by
  unfold JE;rw[b];by_cases a:i < l.length
  ·have d0:decide (((i:Nat):Int) < (l.length:Int))=true:=jK au;have w:bJ .i64 (((i:Nat):Int)+1)=((i+1:Nat):Int):=lX au;simp only[d0,cond_true,w,uZ];rw[N8 f b c n (i+1) _ au au];congr 1;have e:l.drop i=l.getD i d::l.drop (i+1):=by
    rw[Qbc a];congr 1;simp[List.getD,a]
   rw[e,Lj,Qa2];rfl
  ·have d0:decide (((i:Nat):Int) < (l.length:Int))=false:=jF au;simp only[d0,jm];rw[List.drop_of_length_le au];simp
def auy (s:aF):List Str:=s.Messages.map aK.Name
def atn (s:aF):List Str:=s.Enums.map gu.Name
def awi (s:aF):List Str:=s.dC.map dQ.Name
theorem aE4 (s:aF)(h:okS s):lG s 1=auy s:=by
 have a:s.Messages.length<=150:=h.1;unfold lG CU;simp only[gz,sS,aN,gm,dN,bG,ay];have e:=N8 (R:=List Str⊕List Str) (l:=s.Messages) (d:=b_) (nm:=aK.Name) (F:=fun y=> .inl y) au (fun _=>rfl) default (s.Messages.length+1) 0 [] au au;refine Qcf (Ll (fun v=>thenS v _) e) ?_;simp only[Qbs,Qdz,fG];rfl
theorem names2 (s:aF)(h:okS s):lG s 2=atn s:=by
 have a:s.Enums.length<=150:=h.2.1;unfold lG CU;simp only[gz,sS,aN,gm,dN,bG,ay];have e:=N8 (R:=List Str⊕List Str) (l:=s.Enums) (d:=fF) (nm:=gu.Name) (F:=fun y=> .inl y) au (fun _=>rfl) default (s.Enums.length+1) 0 [] au au;show thenS (JE _ (default:List Str⊕List Str) (s.Enums.length+1) ((0:Int),([]:List Str))) _=_
 refine Qcf (Ll (fun v=>thenS v _) e) ?_;simp only[Qbs,Qdz,fG];rfl
theorem aFu (s:aF)(h:okS s):lG s 3=awi s:=by
 have a:s.dC.length<=150:=h.2.2.1;unfold lG CU;simp only[gz,sS,aN,gm,dN,bG,ay];have e:=N8 (R:=List Str) (l:=s.dC) (d:=kJ) (nm:=dQ.Name) (F:=fun y=>y) au (fun _=>rfl) default (s.dC.length+1) 0 [] au au;refine Qcf (Ll (fun v=>thenS v _) (?_:_=Sum.inl [])) ?_
 ·rfl
 simp only[fG];refine Qcf (Ll (fun v=>thenS v _) (?_:_=Sum.inl [])) ?_
 ·rfl
 simp only[fG];refine Qcf e ?_;simp only[Qbs,Qdz];rfl
theorem auj (s:aF):akU s=[auy s,atn s,awi s]:=by
 unfold akU lists;simp only[gz,gm,fM,dN,bG,ay];have g:∀(l:List aK) (k:Nat) (a b c:List Str),jZ (fun(_:Nat) (m:aK) (y:List (List Str))=>(Sum.inl [y.getD 0 []++[m.Name],y.getD 1 [],y.getD 2 []]:List (List Str)⊕(List (List Str)⊕List (List Str)))) (fun _ y=> .inl [y.getD 0 [],y.getD 1 [],y.getD 2 []]) l k [a,b,c]= .inl [a++l.map aK.Name,b,c]:=by
  intro l;induction l with
  | nil=>intro k a b c;simp[jZ]
  | cons m l d=>
   intro k a b c;unfold jZ;have:=d (k+1) (a++[m.Name]) b c;simpa using this
 have e:∀(l:List gu) (k:Nat) (a b c:List Str),jZ (fun(_:Nat) (m:gu) (y:List (List Str))=>(Sum.inl [y.getD 0 [],y.getD 1 []++[m.Name],y.getD 2 []]:List (List Str)⊕(List (List Str)⊕List (List Str)))) (fun _ y=> .inl [y.getD 0 [],y.getD 1 [],y.getD 2 []]) l k [a,b,c]= .inl [a,b++l.map gu.Name,c]:=by
  intro l;induction l with
  | nil=>intro k a b c;simp[jZ]
  | cons m l d=>
   intro k a b c;unfold jZ;have:=d (k+1) a (b++[m.Name]) c;simpa using this
 have f:∀(l:List dQ) (k:Nat) (a b c:List Str),jZ (fun(_:Nat) (m:dQ) (y:List (List Str))=>(Sum.inl [y.getD 0 [],y.getD 1 [],y.getD 2 []++[m.Name]]:List (List Str)⊕List (List Str))) (fun _ y=>[y.getD 0 [],y.getD 1 [],y.getD 2 []]) l k [a,b,c]=[a,b,c++l.map dQ.Name]:=by
  intro l;induction l with
  | nil=>intro k a b c;simp[jZ]
  | cons m l d=>
   intro k a b c;unfold jZ;have:=d (k+1) a b (c++[m.Name]);simpa using this
 refine Qcf (Ll (fun v=>thenS v _) (g s.Messages 0 [] [] [])) ?_;simp only[fG,Qca,Qc];refine Qcf (Ll (fun v=>thenS v _) (e s.Enums 0 _ _ _)) ?_;simp only[fG,Qca,Qc];exact f s.dC 0 _ _ _
theorem QA (l:List Str):TY l=Vr l:=rfl
theorem aA4 (a b:List Str):pK a b=a.any fun x=>Kw b x:=by
 unfold pK U5;simp only[fM,dN,aN,ay];exact yA (fun k a=>rfl) (fun k=>rfl) a 0
theorem axF (a b:List Str):(b.any fun x=>a.any fun y=>x==y)=pK a b:=by
 rw[aA4,Qba,UD,UD];constructor
 ·rintro⟨x,c,d⟩;obtain⟨y,d,e⟩:=UD.1 d;refine⟨y,d,?_⟩;rw[<-has_eq,UD];exact⟨x,c,by rw[eq_of_beq e];exact Qc2 y⟩
 ·rintro⟨y,d,c⟩;rw[<-has_eq,UD]at c;obtain⟨x,c,e⟩:=c;exact⟨x,c,UD.2 ⟨y,d,by rw[eq_of_beq e];exact Qc2 x⟩⟩
theorem apart_eq (a b c:List Str):ajx [a,b,c]= !(bif pK a b then true else bif pK a c then true else pK b c):=by
 have e:∀x,asY x [a,b,c]=a.any fun y=>x==y:=fun x=>rfl
 have d:∀x,aze x [a,b,c]=b.any fun y=>x==y:=fun x=>rfl
 unfold ajx apart;simp only[bF,bG,aN,ay,Qca,Qc,e,d,axF];cases pK a b<;>cases pK a c<;>cases pK b c<;>rfl
theorem wh3 {X R:Type}(G:Int->X->X)(a:X)(d:X⊕R):JE (fun(x:Int×X)=>bif decide (x.1<=3)then(Sum.inl (bJ .i64 (x.1+1),G x.1 x.2):(Int×X)⊕(X⊕R))else .inr (.inl x.2)) d 5 (1,a)= .inl (G 3 (G 2 (G 1 a))):=by
 have e:bJ .i64 ((1:Int)+1)=2:=bY (k:= .i64) p_;have c:bJ .i64 ((2:Int)+1)=3:=bY (k:= .i64) p_;have b:bJ .i64 ((3:Int)+1)=4:=bY (k:= .i64) p_;have d1:decide ((1:Int)<=3)=true:=rfl;have d2:decide ((2:Int)<=3)=true:=rfl;have d3:decide ((3:Int)<=3)=true:=rfl;have d4:decide ((4:Int)<=3)=false:=rfl;simp only[JE,e,c,b,d1,d2,d3,d4,cond_true,jm]
theorem aeS {n:Int}{x:ak}{p:az}(h:ql n x p){a b:List dW}(e:a=b):ql n ⟨x.qN,x.num,x.out++a⟩ ⟨p.qN,p.l++b⟩:=⟨h.1,h.2.1,by show x.out++a=p.l++b;rw[h.2.2,e]⟩
theorem aFK (s:aF)(h:alN s):F8 s=adg s:=by
 obtain⟨e,f,i,g⟩:=h;have m:s.Messages.length<=150:=e.1;unfold F8 aiU adg adt;simp only[gz,bF,aN,bG,gm,fM,sS,dN,ay,Dv,fG,Dn,yK,Ho,Dz,auj,Qca,Qc];refine Qcf ?_ (Ll (fun v=>thenS v _) (wh3 (fun k x=>aV (!Vr (lG s k)) (-1) 11 (aV (decide (64 < ((lG s k).length:Int))) (-1) 3 x)) ⟨[],[]⟩ default)).symm;simp only[fG,aE4 s e,names2 s e,aFu s e];refine QG (I:=ql (-1)) (Q:=Eq) ?_ (fun y z b=>QG (I:=ql (-1)) (Q:=Eq) ?_ (fun y z b=> ?_))
 ·refine rU (d:=b_) (d':=b_) (fun _=>ql (-1)) (adQ (ql (-1)) Eq) s.Messages s.Messages 0 _ _ rfl ?_ (fun j y z c a=> ?_) (fun y z a=>a)
  ·refine d_ (d_ (d_ (d_ (d_ (d_ (d_ ?_ (ru ?_)) ((QA _).trans (nnB _))) (ru ?_)) ((QA _).trans (nnB _))) (ru ?_)) ((QA _).trans (nnB _))) (apart_eq _ _ _)
   ·exact⟨rfl,rfl,rfl⟩
   ·omega
   ·omega
   ·omega
  ·have l:=f _ (getD_mem (d:=b_) c);exact aeS a (aDL s _ _ _ l (asf s au _))
 ·refine rU (d:=fF) (d':=fF) (fun _=>ql (-1)) (adQ (ql (-1)) Eq) s.Enums s.Enums 0 _ _ rfl b (fun j y z c a=> ?_) (fun y z a=>a);exact aeS a (aA2 _ (i _ (getD_mem (d:=fF) c)))
 ·refine rU (d:=kJ) (d':=kJ) (fun _=>ql (-1)) Eq s.dC s.dC 0 _ _ rfl b (fun j y z c a=> ?_) (fun y z a=>a.2.2);exact aeS a (aFS s _ (g _ (getD_mem (d:=kJ) c)))
theorem valid_eq (s:aF)(h:alN s):nK s=qf s:=by
 unfold nK PW qf MR;simp only[bG,ay,aFK s h]
def aHE (x:dQ)(a:Str):Pg Bool:=.ret (x.Name==a)
def aGQ (x:dQ)(a:Str):=(aHE x a).val
def axC:bT Z:=UH [] [] (ax (aQ o5) (a1 (lm 0))) (b1 (cZ cStr)) (R1 aW) [0] func111 1 (u11 aHE)
def fsS (l:List dQ)(a:Str):Pg (dQ×Bool):=aL l (.each false Ec l kJ (fun b c (d:Unit)=> .ix b l.length (.br (aGQ c a) (.ret (.inr (c,true))) (rl ()))) (fun b (d:Unit)=> .ret (dQ.mk [] [] [],false)) ())
def aI3 (l:List dQ)(a:Str):=(fsS l a).val
def aGZ:bT Z:=UH [axC] [jS 2 (dh (fun b=>[s0 11]) (l1 cI))] (ax (df AZ) (a1 (zO 111 [0]))) (b1 (cZ cStr)) (shr [.slot 0 true (nn 3), s0 1] (aC o5 (l1 aW))) [0] func110 2 (u11 fsS)
def aG3 (x:dS)(a:Str):Pg Bool:=.ret (x.Name==a)
def aHU (x:dS)(a:Str):=(aG3 x a).val
def avA:bT Z:=UH [] [] (ax (aQ o_) (a1 (lm 0))) (b1 (cZ cStr)) (R1 aW) [0] func63 1 (u11 aG3)
def fsW (l:List dS)(a:Str):Pg (dS×Bool):=aL l (.each false Ec l iY (fun b c (d:Unit)=> .ix b l.length (.br (aHU c a) (.ret (.inr (c,true))) (rl ()))) (fun b (d:Unit)=> .ret (dS.mk [] [] [] 0 [],false)) ())
def aI_ (l:List dS)(a:Str):=(fsW l a).val
def aHP:bT Z:=UH [avA] [jS 2 (dh (fun b=>[s0 11]) (l1 cI))] (ax (df Bd) (a1 (zO 63 [0]))) (b1 (cZ cStr)) (shr [.slot 0 true (nn 5), s0 1] (aC o_ (l1 aW))) [0] func62 2 (u11 fsW)
def ahi (s:aF)(a:Str):Pg (dQ×Bool):=.ret (aI3 s.dC a)
def aaQ (s:aF)(a:Str):=(ahi s a).val
def akZ:bT Z:=E0 [aGZ,axC] [] (ax (aQ bV) (a1 (df cStr))) (shr [.slot 0 true (nn 3), s0 1] (aC o5 (l1 aW))) [] func61 2 (u2 ahi)
def nS:Str:=[47]
def aoU (s:Str):Pg Int:=.as (List.length nS<=9223372036854775807) (.br (nS==s) (.ret 0) (.ix 0 (List.length nS) (.ret (Lib.indexByte s (List.getD nS 0 0).toNat.toUInt8))))
def ae7 (s:Str):=(aoU s).val
theorem auL (s:Str):Is (aoU s):=
 jH fun _=>aS iR (fun _=>dJ jy jy aZ)
def azJ:bT Z:=yQ Z [Rj] [jS 15 (dh (fun c=>[s0 8, s0 10]) (aC cI (l1 cI)))] (args (ax (df cStr) (a1 (df cStr)))) (oP (n:=143) rfl) (R1 cI) [] func108 ntmps108 fO 1 rfl (fun a=>aoU (a.1)) (fun a=>some (a.2=nS)) (fun⟨s,p⟩ e h=>by have b:p=nS:=h;subst b;show _=_;kernel_rfl) (fun a=>ae7 (a.1)) (fun a h=>⟨auL (a.1),rfl⟩)
theorem Ph (c:UInt8):∀(s:List UInt8) (k:Nat),nZ (fun x=>x==c) s k=bif decide (Lib.indexByte s c= -1)then -1 else Lib.indexByte s c+k
 | [],k=>rfl
 | x::s,k=>by
  have b:=Ph c s (k+1);have d:=Lib.indexByte_ge s c;unfold nZ Lib.indexByte;cases e:x==c with
  | true=>simp
  | false=>
   simp only[jm,RX,if_false];rw[b];by_cases h:Lib.indexByte s c= -1
   ·simp[h]
   ·have a:(Lib.indexByte s c== -1)=false:=beq_eq_false_iff_ne.2 h;rw[a];simp only[RX,if_false];rw[jF h,jF au];simp only[jm];omega
theorem anB (s:Str):ae7 s=dP (fun x=>x==47) s:=by
 have e:Lib.indexByte s 47=dP (fun x=>x==47) s:=by
  unfold dP;rw[Ph];by_cases h:Lib.indexByte s 47= -1
  ·simp[h]
  ·rw[jF h];simp
 unfold ae7 aoU;simp only[gm,aN,dN,ay];cases h:nS==s with
 | true=>
  have:s=[47]:=(eq_of_beq h).symm;rw[this];rfl
 | false=>exact e
def an6 (s:Str):Pg (List UInt8×List UInt8×Bool):=.ob (nS=nS) (.lt (ae7 s) fun a=> .br (decide (0<=a)) (.ob ((0:Int)<=0/\0<=a/\a<=(↑(List.length s):Int)) (.lt (bJ .i64 (a+(↑(List.length nS):Int))) fun b=> .ob (0<=b/\b<=(↑(List.length s):Int)/\(↑(List.length s):Int)<=(↑(List.length s):Int)) (.as (List.length nS<=9223372036854775807) (.ret (List.take a.toNat s,List.drop b.toNat (List.take (List.length s) s),true))))) (.ret (s,[],false)))
def aj8 (s:Str):=(an6 s).val
theorem au4 (s:Str)(h:s.length<=1048576):Is (an6 s):=
 by
 refine bM rfl (dm fun c a=>bn (fun _=> ?_) iR);have f:c < s.length:=by rw[a,anB];exact(kU (fun(x:UInt8)=>x==47) s).1
 have e:(List.length nS:Int)=1:=rfl;refine bM ⟨by omega,by omega,by omega⟩ (dm fun d b=> ?_);rw[e,bY (k:= .i64) p_]at b;exact bM ⟨by omega,by omega,by omega⟩ (jH fun _=>aZ)
def aAx:bT Z:=yQ Z [azJ,anH] [] (args (ax (df cStr) (a1 (df cStr)))) (oP (n:=23) rfl) (shr [s0 0, s0 1, s0 2] (aC cStr (aC cStr (l1 aW)))) [] func58 ntmps58 fO 3 rfl (fun a=>an6 (a.1)) (fun a=>some ((a.2=nS)/\((a.1).length<=1048576))) (fun⟨s,p⟩ e h=>by have b:p=nS:=h.1;subst b;show _=_;kernel_rfl) (fun a=>aj8 (a.1)) (fun a h=>⟨au4 (a.1) h.2,rfl⟩)
def aAb (s:Str):Pg (List UInt8×List UInt8×Bool):=.ob (nS=nS/\List.length s<=1048576) (.ret (aj8 s))
def G6 (s:Str):=(aAb s).val
theorem aAX (s:Str)(h:s.length<=1048576):Is (aAb s):=
 bM ((⟨rfl,h⟩)) (aZ)
def avX:bT Z:=yQ Z [aAx] [] (args (ax (df cStr) (a1 (df cStr)))) (oP (n:=13) rfl) (shr [s0 0, s0 1, s0 2] (aC cStr (aC cStr (l1 aW)))) [] func27 ntmps27 fO 3 rfl (fun a=>aAb (a.1)) (fun a=>some ((a.2=nS)/\((a.1).length<=1048576))) (fun⟨s,p⟩ e h=>by have b:p=nS:=h.1;subst b;show _=_;kernel_rfl) (fun a=>G6 (a.1)) (fun a h=>⟨aAX (a.1) h.2,rfl⟩)
theorem acD (s:Str)(h:s.length<=1048576):G6 s=bif decide (0<=dP (fun x=>x==47) s)then(s.take (dP (fun x=>x==47) s).toNat,s.drop ((dP (fun x=>x==47) s).toNat+1),true)else(s,[],false):=by
 have b:=(kU (fun(x:UInt8)=>x==47) s).1;unfold G6 aAb aj8 an6;simp only[bG,bF,aN,gm,ay,anB];by_cases a:0<=dP (fun x=>x==47) s
 ·have e:(List.length nS:Int)=1:=rfl;rw[jK a,e,bY (k:= .i64) p_,JG];rw[show(dP (fun x=>x==47) s+1).toNat=(dP (fun x=>x==47) s).toNat+1 by omega]
 ·rw[jF a];rfl
theorem ax4 (s:Str)(h:s.length<=1048576):(G6 s).1.length<=s.length:=by
 rw[acD s h];cases decide (0<=dP (fun x=>x==47) s)
 ·exact rC _
 ·simp only[cond_true,C9];omega
def aeK (s:aF)(a:Str):Pg (dS×Bool):=.ob ([47]=nS/\List.length a<=1048576) (.lt (G6 a) fun b=> .br (!b.2.2) (.ret (dS.mk [] [] [] 0 [],false)) (.lt (aaQ s b.1) fun c=> .br (!c.2) (.ret (dS.mk [] [] [] 0 [],false)) (.ret (aI_ c.1.Methods b.2.1))))
def V3 (s:aF)(a:Str):=(aeK s a).val
def aqJ:bT Z:=E1 [avX,akZ,aHP,avA] [] (ax (aQ bV) (a1 (df cStr))) (shr [.slot 0 true (nn 5), s0 1] (aC o_ (l1 aW))) [] func30 2 (u2 aeK) fun a=>a.2.length<=1048576
def am1 (s:aF)(a:Str):Pg (dS×Int):=.ob ([47]=nS/\List.length a<=1048576) (.lt (G6 a) fun b=> .br (!b.2.2) (.ret (dS.mk [] [] [] 0 [],2)) (.ob (b.1.length<=4294967296) (.br (!adS b.1) (.ret (dS.mk [] [] [] 0 [],2)) (.br (!PV b.2.1) (.ret (dS.mk [] [] [] 0 [],2)) (.ob (List.length a<=1048576) (.lt (V3 s a) fun c=> .br (!c.2) (.ret (dS.mk [] [] [] 0 [],10)) (.ret (c.1,0))))))))
def al8 (s:aF)(a:Str):=(am1 s a).val
theorem axT (s:aF)(a:Str)(h:a.length<=1048576):Is (am1 s a):=
 bM ((⟨rfl,h⟩)) (dm fun d b=>aS iR (fun _=>bM (by have:=ax4 a h;rw[b];omega) (aS iR (fun _=>aS iR (fun _=>bM qav (dm fun e c=>aS iR iR))))))
def aAc:bT Z:=E1 [avX,aoE,adI,aqJ] [] (ax (aQ bV) (a1 (df cStr))) (shr [.slot 0 true (nn 5), s0 1] (aC o_ (l1 cI))) [] func11 2 (u2 am1) (fun a=>a.2.length<=1048576) fun a h=>axT a.1 a.2 h
def ahT (shape:Int):Pg (Bool×Bool):=.br (shape==3) (.br (shape==2) (.ret (true,true)) (.ret (true,shape==4))) (.br (shape==2) (.ret (shape==4,true)) (.ret (shape==4,shape==4)))
def aq1 (shape:Int):=(ahT shape).val
def al9:bT Z:=E0 [] [] (a1 (df cI)) (shr [s0 0, s0 1] (aC aW (l1 aW))) [] func35 2 ahT
def LH (s:Str)(c:Int):Pg (List UInt8×List UInt8×Bool):=.each true Ec s 0 (fun a d (e:Unit)=> .ix a (List.length s) (.br ((↑d.toNat:Int)==c) (.ob ((0:Int)<=0/\0<=a/\a<=(↑(List.length s):Int)) (.lt (bJ .i64 (a+1)) fun b=> .ob (0<=b/\b<=(↑(List.length s):Int)/\(↑(List.length s):Int)<=(↑(List.length s):Int)) (.ret (.inr (List.take a.toNat s,List.drop b.toNat (List.take (List.length s) s),true))))) (rl ()))) (fun a (e:Unit)=> .ret (s,[],false)) ()
def QD (s:Str)(c:Int):=(LH s c).val
theorem agC (s:Str)(c:Int):Is (LH s c):=
 jG (.inl rfl) (fun d a _ _=>dJ au au (bK (fun _=>bM au (mO fun e b _=>bM au (aZ))) iR)) (fun a _=>aZ)
def akw:bT Z:=E0 [] [jS 2 (dh (fun b=>[s0 7]) (l1 cI))] (ax (df cStr) (a1 (df (gW .u8)))) (shr [s0 0, s0 1, s0 2] (aC cStr (aC cStr (l1 aW)))) [] func78 3 (u2 LH) fun a=>agC a.1 a.2
def EW (s:aF)(b:Str):Pg (dQ×Bool):=.each true Ec s.dC kJ (fun a c (d:Unit)=> .ix a s.dC.length (.br (c.Name==b) (.ix a s.dC.length (.ret (.inr (c,true)))) (rl ()))) (fun a (d:Unit)=> .ret (dQ.mk [] [] [],false)) ()
def AB (s:aF)(a:Str):=(EW s a).val
theorem aag (s:aF)(a:Str):Is (EW s a):=
 jG (.inl rfl) (fun c b _ _=>dJ au au (aS (fun _=>dJ au au (aZ)) iR)) (fun b _=>aZ)
def ad5:bT Z:=E0 [] [jS 2 (dh (fun b=>[s0 6]) (l1 cI))] (ax (aQ bV) (a1 (df cStr))) (shr [.slot 0 true (nn 3), s0 1] (aC o5 (l1 aW))) [] func79 2 (u2 EW) fun a=>aag a.1 a.2
def Iu (s:aF)(a:Str):Pg (dS×Bool):=.lt (QD a 47) fun c=> .br (!c.2.2) (.ret (dS.mk [] [] [] 0 [],false)) (.lt (AB s c.1) fun d=> .each true Ec d.1.Methods iY (fun b e (f:Unit)=> .ix b d.1.Methods.length (.br (e.Name==c.2.1) (.ix b d.1.Methods.length (.ret (.inr (e,true)))) (rl ()))) (fun b (f:Unit)=> .ret (dS.mk [] [] [] 0 [],false)) ())
def JS (s:aF)(a:Str):=(Iu s a).val
theorem adJ (s:aF)(a:Str):Is (Iu s a):=
 dm fun f d=>aS iR (fun _=>dm fun g c=>jG (.inl rfl) (fun e b _ _=>dJ au au (aS (fun _=>dJ au au (aZ)) iR)) (fun b _=>aZ))
def agy:bT Z:=E0 [akw,ad5] [jS 6 (dh (fun b=>[s0 11]) (l1 cI))] (ax (aQ bV) (a1 (df cStr))) (shr [.slot 0 true (nn 5), s0 1] (aC o_ (l1 aW))) [] func39 2 (u2 Iu) fun a=>adJ a.1 a.2
def Ed (s:aF)(b:Str):Pg (aK×Int):=.each true Ec s.Messages b_ (fun a c (d:Unit)=> .ix a s.Messages.length (.br (c.Name==b) (.ix a s.Messages.length (.ret (.inr (c,a)))) (rl ()))) (fun a (d:Unit)=> .ret (aK.mk [] [] [] [] [],(-1))) ()
def A8 (s:aF)(a:Str):=(Ed s a).val
theorem aab (s:aF)(a:Str):Is (Ed s a):=
 jG (.inl rfl) (fun c b _ _=>dJ au au (aS (fun _=>dJ au au (aZ)) iR)) (fun b _=>aZ)
def adU:bT Z:=E0 [] [jS 2 (dh (fun b=>[s0 6]) (l1 cI))] (ax (aQ bV) (a1 (df cStr))) (shr [.slot 0 true (nn 5), s0 1] (aC jq (l1 cI))) [] func213 2 (u2 Ed) fun a=>aab a.1 a.2
theorem SL {A:Type}(p:A->Bool)(b:A):∀(l:List A) (k:Nat),nZ p (l++[b]) k=bif decide (0<=nZ p l k)then nZ p l k else bif p b then((k+l.length:Nat):Int)else -1
 | [],k=>by
  simp only[Qbs,nZ,BP,Qb];cases p b<;>rfl
 | a::l,k=>by
  rw[Qb1];unfold nZ;cases p a with
  | true=>simp
  | false=>
   simp only[jm];rw[SL p b l (k+1)];rw[show k+1+l.length=k+(a::l).length by simp only[zx];omega]
theorem am6 {c:UInt8}{s:List UInt8}{R:Type}{step:Int×Int->(Int×Int)⊕R}{F:Int->R}(b:∀x:Int×Int,-1<=x.2->x.2 < s.length->step x=bif decide (0<=x.2)then .inl (bif s.getD x.2.toNat 0==c then x.2 else x.1,x.2 - 1)else .inr (F x.1))(d:R):∀(n i:Nat) (a:Int),i<=s.length->i < n->JE step d n (a,(i:Int) - 1)=F (bif decide (0<=dP (fun x=>x==c) (s.take i))then dP (fun x=>x==c) (s.take i)else a)
 | 0,i,a,_,h=>by omega
 | n+1,0,a,f,h=>by
  unfold JE;rw[b _ (by show(-1:Int)<=((0:Nat):Int) - 1;omega) (by show((0:Nat):Int) - 1 < _;omega)];rfl
 | n+1,i+1,a,f,h=>by
  unfold JE;have k:(((i+1:Nat):Int) - 1)=(i:Int):=by omega
  rw[b _ (by show(-1:Int)<=((i+1:Nat):Int) - 1;omega) (by show((i+1:Nat):Int) - 1 < _;omega)];simp only[k,uZ];rw[jK (show(0:Int)<=(i:Int) by omega)];simp only[cond_true];rw[am6 b d n i _ au au];congr 1;have g:s.take (i+1)=s.take i++[s.getD i 0]:=by
   rw[Qdg];congr 1;simp[List.getD,show i < s.length by omega]
  rw[g];unfold dP;rw[SL];have j:((0+(s.take i).length:Nat):Int)=(i:Int):=by rw[C9];omega
  rw[j];by_cases e:0<=nZ (fun x=>x==c) (s.take i) 0
  ·simp only[jK e,cond_true]
  ·simp only[jF e,jm];cases s.getD i 0==c with
   | true=>rw[cond_true,cond_true,jK (show(0:Int)<=(i:Int) by omega)];rfl
   | false=>rfl
theorem awC (c d:UInt8):((c.toNat:Int)==(d.toNat:Int))=(c==d):=by
 apply Qba.2;simp only[Vt];constructor
 ·intro h;exact Qcn.1 au
 ·rintro rfl;rfl
theorem aoZ {a:Str}{R:Type}{F:Int->R}(h:a.length<=1048576){step:Int×Int->(Int×Int)⊕R}(e:∀x:Int×Int,step x=bif decide (0<=x.2)then bif ((a.getD x.2.toNat 0).toNat:Int)==47 then .inl (x.2,bJ .i64 (x.2 - 1))else .inl (x.1,bJ .i64 (x.2 - 1))else .inr (F x.1))(d:R):JE step d (a.length+1) (-1,bJ .i64 ((a.length:Int) - 1))=F (dP (fun x=>x==47) a):=by
 rw[bY (k:= .i64) (show FX .i64 ((a.length:Int) - 1) by simp only[FX];omega)];rw[am6 (c:=47) (F:=F) (fun x g f=> ?_) d (a.length+1) a.length (-1) (rC _) (Qdp _),JG]
 ·have:=(kU (fun(x:UInt8)=>x==47) a).2;by_cases b:0<=dP (fun x=>x==47) a
  ·rw[jK b];rfl
  ·rw[jF b,show dP (fun x=>x==47) a= -1 by omega];rfl
 ·rw[e];by_cases b:0<=x.2
  ·rw[jK b,bY (k:= .i64) (show FX .i64 (x.2 - 1) by simp only[FX];omega),show(((a.getD x.2.toNat 0).toNat:Int)==47)=(a.getD x.2.toNat 0==47)from awC _ 47];cases a.getD x.2.toNat 0==47<;>rfl
  ·rw[jF b];rfl
def Vj (s:aF)(a:Str):Pg (dS×Int):=.cut (fun(c:Int)=> .br (decide (c < 0)) (.ret (dS.mk [] [] [] 0 [],2)) (.ob ((0:Int)<=0/\0<=c/\c<=(↑(List.length a):Int)) (.br (!H9 (List.take c.toNat a)) (.ret (dS.mk [] [] [] 0 [],2)) (.lt (bJ .i64 (c+1)) fun d=> .ob (0<=d/\d<=(↑(List.length a):Int)/\(↑(List.length a):Int)<=(↑(List.length a):Int)) (.br (!wO (List.drop d.toNat (List.take (List.length a) a))) (.ret (dS.mk [] [] [] 0 [],2)) (.lt (JS s a) fun e=> .br (!e.2) (.ret (dS.mk [] [] [] 0 [],10)) (.ret (e.1,0)))))))) (.lt (bJ .i64 ((↑(List.length a):Int) - 1)) fun g=> .wh (a.length+1) default (fun(b:Int×Int)=> .br (decide (0<=b.2)) (.ix b.2 (List.length a) (.lt (bJ .i64 (b.2 - 1)) fun f=> .br ((↑(List.getD a b.2.toNat 0).toNat:Int)==47) (rl (b.2,f)) (rl (b.1,f)))) (.ret (.inr (.inl b.1)))) ((-1),g))
def Zj (s:aF)(a:Str):=(Vj s a).val
theorem akn (s:aF)(a:Str)(h:a.length<=1048576):Is (Vj s a):=
 by
 have u:=kU (fun(x:UInt8)=>x==47) a;refine lK (mO fun c g m=>L_ (fun(x:Int×Int)=> -1<=x.2/\x.2 < a.length) (fun(x:Int×Int)=>(x.2+1).toNat) ⟨by show -1<=c;omega,by show c < _;omega⟩ (by show(c+1).toNat < _;omega) (fun x n=>⟨bn (fun _=>dJ au au (dm fun l r=>bK iR iR)) iR,fun p d=> ?_⟩)) (fun f b=> ?_)
 ·revert d;simp only[dN,aN,bF,ay,Qa7,Lh];have w:0<=x.2->bJ .i64 (x.2 - 1)=x.2 - 1:=fun _=>bY (k:= .i64) p_
  (repeat' split)<;>intro e<;>cases e<;>simp only[w (by assumption)]<;>omega
 ·simp only[bF,sS,aN,dN,ay]at b;have q:f=dP (fun x=>x==47) a:=by
   rw[aoZ (F:=fun(y:Int)=>(Sum.inl y:Int⊕(dS×Int))) h]at b
   ·exact(Sum.inl.inj b).symm
   ·exact fun x=>rfl
  refine bn iR (fun _=>bM ⟨by omega,by omega,by omega⟩ (aS iR (fun _=>mO fun o j v=>bM ⟨by omega,by omega,by omega⟩ (aS iR (fun _=>dm fun t i=>aS iR iR)))))
def apM:bT Z:=E1 [agN,VJ,agy] [jS 3 (dh (fun b=>[s0 6, s0 7]) (aC cI (l1 cI))),jS 100007 (dh (fun b=>[s0 6]) (l1 cI))] (ax (aQ bV) (a1 (df cStr))) (shr [.slot 0 true (nn 5), s0 1] (aC o_ (l1 cI))) [] func17 2 (u2 Vj) (fun a=>a.2.length<=1048576) fun a h=>akn a.1 a.2 h
def KI (shape:Int):Pg (Bool×Bool):=.br (shape==3) (.br (shape==2) (.ret (true,true)) (.ret (true,shape==4))) (.br (shape==2) (.ret (shape==4,true)) (.ret (shape==4,shape==4)))
def agS (shape:Int):=(KI shape).val
theorem aah (shape:Int):Is (KI shape):=
 bK (fun _=>bK iR iR) (fun _=>bK iR iR)
def ac4:bT Z:=E0 [] [] (a1 (df cI)) (shr [s0 0, s0 1] (aC aW (l1 aW))) [] func43 2 KI fun a=>aah a
theorem axO (s:Str)(h:s.length<=1048576):QD s 47=G6 s:=by
 rw[acD s h];unfold QD LH;simp only[fM,dN,aN,bG,bF,ay];refine Ij (p:=fun x=>x==47) (g:=fun k=>(s.take k,s.drop (k+1),true)) s 0 (fun j a b=> ?_) rfl;have c:j < s.length:=(Qbn.1 b).1;simp only[zM,uZ,JG];rw[show(((a.toNat:Int))==47)=(a==47)from awC a 47,lX au,uZ]
theorem ajr (s:aF)(n:Str):AB s n=bif decide (0<=dP (fun(x:dQ)=>x.Name==n) s.dC)then(s.dC.getD (dP (fun(x:dQ)=>x.Name==n) s.dC).toNat kJ,true)else(⟨[],[],[]⟩,false):=by
 unfold AB EW;simp only[fM,dN,aN,ay];refine Ij (p:=fun(x:dQ)=>x.Name==n) (g:=fun k=>(s.dC.getD k kJ,true)) s.dC 0 (fun j a b=> ?_) rfl;have e:s.dC.getD (0+j) kJ=a:=by rw[zM];simp[List.getD,b]
 rw[e]
theorem apG (s:aF)(a:Str)(h:a.length<=1048576):V3 s a=JS s a:=by
 unfold V3 aeK JS Iu;simp only[bG,bF,aN,ay,fM,dN,axO a h];cases(G6 a).2.2 with
 | false=>rfl
 | true=>
  simp only[Qbj,jm];have c:aaQ s (G6 a).1=AB s (G6 a).1:=rfl;rw[c,ajr];by_cases b:0<=dP (fun(x:dQ)=>x.Name==(G6 a).1) s.dC
  ·rw[jK b];rfl
  ·rw[jF b];rfl
theorem aAW (s:aF)(a:Str)(h:a.length<=1048576):al8 s a=Zj s a:=by
 have c:=kU (fun(x:UInt8)=>x==47) a;unfold al8 am1 Zj Vj;simp only[gz,bG,bF,aN,ay,sS,dN];rw[aoZ (F:=fun(y:Int)=>(Sum.inl y:Int⊕(dS×Int))) h (fun x=>rfl),fG,acD a h,apG s a h];by_cases b:0<=dP (fun x=>x==47) a
 ·have w:bJ .i64 (dP (fun x=>x==47) a+1)=dP (fun x=>x==47) a+1:=bY (k:= .i64) p_;rw[jK b,jF (show ¬dP (fun x=>x==47) a < 0 by omega),w,show(dP (fun x=>x==47) a+1).toNat=(dP (fun x=>x==47) a).toNat+1 by omega,JG];simp only[cond_true,jm,ahB,Ym,Ik,Qbj]
 ·rw[jF b,jK (show dP (fun x=>x==47) a < 0 by omega)];rfl
def itR (x:Item):Prop:=0<=x.Num/\x.Num<=2147483647
theorem auw {e:gu}(h:wF e=[]){i:Nat}(d:i < e.Items.length):itR (e.Items.getD i iT):=by
 have k:VP (QB e) (fun r=>r=[]->∀i,i < e.Items.length->itR (e.Items.getD i iT)):=by
  unfold QB;refine gZ (fun _=>True) (bI (bI (bz trivial))) fun I _=>gZ (fun _=>True) ?_ fun G _=>gZ (fun _=>True) ?_ fun H _=>lY (kW (fun n y=>y.out=[]->∀i,i < n->itR (e.Items.getD i iT)) (fun _ i d=>absurd d au) (fun k y L f=>lT (gZ (fun z=>z.out=[]->y.out=[]/\itR (e.Items.getD k iT)) ?_ fun F m=>gZ (fun z=>z.out=[]->y.out=[]/\itR (e.Items.getD k iT)) ?_ fun K v=>bI (lT (iW fun J u=>bI (iW fun B p=>bI (iW fun A s=>bI (bz fun h=> ?_))))))) (fun y f=>bI (iW fun E q=>bI (bz fun h=> ?_))))
  ·exact iW fun D _=>iU (fun _=>iU (fun _=>bI (bz trivial)) (fun _=>bI (bz trivial))) (fun _=>bI (bz trivial))
  ·exact iU (fun _=>bI (bz trivial)) (fun _=>lT (bI (bz trivial)))
  ·refine iU (fun c=>bI (bz fun h=> ?_)) (fun c=>bI (bz fun h=> ?_))
   ·obtain⟨a,b⟩:=fJ h;exact⟨b,EU c,EU a⟩
   ·exact absurd (fJ h).1 jy
  ·exact iU (fun _=>bI (bz fun h=>m (fJ h).2)) (fun _=>iW fun w _=>lT (bI (bz fun h=>m (fJ h).2)))
  ·have o:=yF h;subst s;have l:=(fJ o).2;subst p;have t:=(fJ l).2;subst u;obtain⟨a,b⟩:=v (fJ t).2;intro i d;rcases Qc7 i k with g | C
   ·exact f a i g
   ·rw[show i=k by omega];exact b
  ·have j:=yF h;subst q;exact f (PO (x:=ak.mk y.qN (-1) y.out) j)
 exact k h i d
theorem ap4 {s:aF}(h:F8 s=[]){e:gu}(o:e∈s.Enums):wF e=[]:=by
 have k:VP (aiU s) (fun r=>r=[]->∀i,i < s.Enums.length->wF (s.Enums.getD i fF)=[]):=by
  unfold aiU;refine bI (iW fun t _=>gZ (fun _=>True) ?_ fun A _=>gZ (fun _=>True) (bI (bz trivial)) fun z _=>bI (gZ (fun _=>True) ?_ fun w _=>gZ (fun y=>y.out=[]->∀i,i < s.Enums.length->wF (s.Enums.getD i fF)=[]) ?_ fun u g=> ?_))
  ·repeat' first
    | exact bz trivial
    | refine bI ?_
    | refine iW fun _ _=> ?_
    | refine gZ (fun _=>True) ?_ fun _ _=> ?_
  ·exact lY (kW (fun _ _=>True) trivial (fun k y l _=>lT (bI (iW fun j c=>bI (bz trivial)))) (fun y _=>bz trivial))
  ·refine lY (kW (fun n y=>y.out=[]->∀i,i < n->wF (s.Enums.getD i fF)=[]) (fun _ i b=>absurd b au) (fun k y l a=>lT (bI (iW fun j c=>bI (bz fun h=> ?_)))) (fun y a=>bz a));intro i b;obtain⟨p,m⟩:=Qcx.1 h;rcases Qc7 i k with f | x
   ·exact a p i f
   ·rw[show i=k by omega,<-c];exact m
  ·exact lY (kW (fun _ y=>y.out=[]->∀i,i < s.Enums.length->wF (s.Enums.getD i fF)=[]) g (fun k y l a=>lT (bI (iW fun v c=>bI (bz fun h=>a (Qcx.1 h).1)))) (fun y a=>bz a))
 obtain⟨i,b,q⟩:=zW (d:=fF) o;rw[<-q];exact k h i b
theorem akj {s:aF}(h:nK s=true){e:gu}(b:e∈s.Enums){x:Item}(f:x∈e.Items):itR x:=by
 have q:F8 s=[]:=by
  unfold nK PW at h;simp only[bG,bF,gm,ay]at h;cases g:F8 s with
  | nil=>rfl
  | cons a l=>rw[g]at h;simp at h;omega
 obtain⟨i,j,c⟩:=zW (d:=iT) f;rw[<-c];exact auw (ap4 q b) j
def Gg (l:List Note):Pg (List Note):=.each true rP l qI (fun b c (a:List Note)=> .ix b l.length (.br (c.Name==[97,108,105,97,115]) (.ix b l.length (.ob (dE (a.length+1) 144) (rl (a++[Note.mk c.Name c.Val.re])))) (rl a))) (fun b (a:List Note)=> .ret a) []
def H5 (l:List Note):=(Gg l).val
def WS (l:List Str)(s:Str):Pg Bool:=.each true Ec l [] (fun a c (b:Unit)=> .ix a l.length (.br (c==s) (.ret (.inr true)) (rl ()))) (fun a (b:Unit)=> .ret false) ()
def aoX (l:List Str)(s:Str):=(WS l s).val
theorem aqP (l:List Str)(s:Str):Is (WS l s):=
 jG (.inl rfl) (fun b a _ _=>dJ au au (aS iR iR)) (fun a _=>aZ)
def axv:bT Z:=E0 [] [jS 2 (dh (fun b=>[s0 5]) (l1 cI))] (ax (df dI) (a1 (df cStr))) (R1 aW) [] func211 1 (u2 WS) fun a=>aqP a.1 a.2
def acX (s:aF)(b:Str):Pg (gu×Int):=.each true Ec s.Enums fF (fun a c (d:Unit)=> .ix a s.Enums.length (.br (c.Name==b) (.ix a s.Enums.length (.ret (.inr (c,a)))) (rl ()))) (fun a (d:Unit)=> .ret (gu.mk [] false [] [] [],(-1))) ()
def TV (s:aF)(a:Str):=(acX s a).val
theorem ap6 (s:aF)(a:Str):Is (acX s a):=
 jG (.inl rfl) (fun c b _ _=>dJ au au (aS (fun _=>dJ au au (aZ)) iR)) (fun b _=>aZ)
def awO:bT Z:=E0 [] [jS 2 (dh (fun b=>[s0 6]) (l1 cI))] (ax (aQ bV) (a1 (df cStr))) (shr [.slot 0 true (nn 5), s0 1] (aC o6 (l1 cI))) [] func214 2 (u2 acX) fun a=>ap6 a.1 a.2
def BV (l:List bu):Pg (List Str):=.each true rP l aB (fun b c (a:List Str)=> .ix b l.length (.br (c.Union !=[]) (.ix b l.length (.br (!aoX a c.Union) (.ix b l.length (.ob (dE (a.length+1) 16) (rl (a++[c.Union])))) (rl a))) (rl a))) (fun b (a:List Str)=> .ret a) []
def alO (l:List bu):=(BV l).val
theorem acO {l:List Note}(h:l.length<=1048576):kw (Gg l) (fun y=>y.length<=l.length):=by
 unfold Gg;simp only[af.dn];refine dA (fun i y=>y.length<=i) (Jd _) au (fun i y b a=>aX au au (dL (fun _=>aX au au (aj (dw au au) (ai ?_))) (fun _=>ai (by show y.length<=i+1;omega)))) (fun y a=>ai a);show(y++[_]).length<=i+1
 rw[tK,Qbx];omega
theorem agX (l:List Str)(s:Str):aoX l s=decide (s∈l):=by
 have k:VP (WS l s) (fun b=>b=decide (s∈l)):=by
  unfold WS;refine kW (fun i _=>s∉l.take i) kM (fun i y e a=>lT (iU (fun c=>bz ?_) (fun c=>bz ?_))) (fun y a=>bz ?_)
  ·show true=_
   rw[<-eq_of_beq c,jK (getD_mem e)]
  ·show s∉_
   rw[take_snoc (d:=[]) e,vN,FY];rintro(q | q)
   ·exact a q
   ·rw[q]at c;simp at c
  ·rw[JG]at a;show false=_
   rw[jF a]
 exact k
def NK:List bu->List Str
 | []=>dX []
 | a::l=>dX (a::l)
theorem Ku (l:List bu):NK l=dX l:=by cases l<;>rfl
theorem Rl (l:List bu):(dX l).length<=l.length:=by
 have b:∀(l:List bu) (u:List Str),(l.foldl rJ u).length<=u.length+l.length:=by
  intro l;induction l with
  | nil=>intro u;exact rC _
  | cons a l c=>
   intro u;have e:=c (rJ u a);have d:(rJ u a).length<=u.length+1:=by
    unfold rJ;(repeat' split)<;>simp
   simp only[Qde,zx];omega
 have:=b l [];simpa[dX]using this
theorem Jw {l:List bu}(h:l.length<=1048576):kw (BV l) (fun y=>y=dX l):=by
 unfold BV;refine dA (fun i y=>y=dX (l.take i)) rfl au (fun i y j e=> ?_) (fun y e=>ai (by rw[JG]at e;exact e));have g:dX (l.take (i+1))=rJ (dX (l.take i)) (l.getD i aB):=by
  rw[take_snoc (d:=aB) j];unfold dX;rw[Qd0];rfl
 have a:=Rl (l.take i);rw[C9]at a;rw[g,<-e];rw[<-e]at a;generalize l.getD i aB=f;refine aX au au (dY (fun c=>aX au au (dL (fun b=>aX au au (aj (dw au au) (ai ?_))) (fun b=>ai ?_))) (fun c=>ai ?_));all_goals show _=rJ y f;unfold rJ
 ·rw[agX]at b;rw[kT c,kT (by simpa using b)]
 ·rw[agX]at b;rw[kT c,nI (by simpa using b)]
 ·rw[nI c]
theorem adW (l:List bu)(h:l.length<=1048576):alO l=NK l:=(Jw h).2.trans (Ku l).symm
theorem agJ (l:List Note)(h:l.length<=1048576):Is (Gg l):=
 (acO h).1
def ak9:bT Z:=E1 [] [jS 3 (dh (fun b=>[s0 4, .slot 3 false [some 143]]) (aC cI (l1 jE)))] (a1 (df jE)) (shr [.slot 0 false [some 143]] (l1 jE)) [] func136 1 Gg (fun a=>a.length<=1048576) fun a h=>agJ a h
theorem afx (l:List bu)(h:l.length<=1048576):Is (BV l):=
 (Jw h).1
def RN:bT Z:=E2 [axv] [jS 3 (dh (fun b=>[s0 4, .slot 3 false [some 9]]) (aC cI (l1 dI)))] (a1 (df jI)) (shr [.slot 0 false [some 9]] (l1 dI)) [] func134 1 BV (fun a=>some (a.length<=1048576)) (fun a=>NK a) fun a h=>⟨afx a h,adW a h⟩
noncomputable def agi (s:aF)(l:List bu)(i:Int):Pg Op:=.ix i l.length (.cut (fun(b:Op)=> .cut (fun(c:Op)=> .cut (fun(f:Op)=> .br ((l.getD i.toNat aB).Union !=[]) (.ob (l.length<=1048576) (.lt (NK l) fun e=> .each true rP e [] (fun d h (a:Op)=> .ix d e.length (.ob (d.toNat < e.length) (.br (h==(l.getD i.toNat aB).Union) (rl (Op.mk a.Num a.Name a.Alias a.Card a.Key a.Kind a.Target d)) (rl a)))) (fun d (a:Op)=> .ret a) f)) (.ret f)) (.br ((l.getD i.toNat aB).di.Kind==9) (rl (Op.mk c.Num c.Name c.Alias c.Card c.Key c.Kind (TV s (l.getD i.toNat aB).di.Name).2 c.Union)) (rl c))) (.br ((l.getD i.toNat aB).di.Kind==10) (rl (Op.mk b.Num b.Name b.Alias b.Card b.Key b.Kind (A8 s (l.getD i.toNat aB).di.Name).2 b.Union)) (rl b))) (.lt (aeq (l.getD i.toNat aB).Notes [97,108,105,97,115]) fun g=> .br g.2 (rl (Op.mk (l.getD i.toNat aB).Num (l.getD i.toNat aB).Name g.1.Text (l.getD i.toNat aB).Card (l.getD i.toNat aB).Key (l.getD i.toNat aB).di.Kind (-1) (-1))) (rl (Op.mk (l.getD i.toNat aB).Num (l.getD i.toNat aB).Name [] (l.getD i.toNat aB).Card (l.getD i.toNat aB).Key (l.getD i.toNat aB).di.Kind (-1) (-1)))))
noncomputable def auo (s:aF)(l:List bu)(i:Int):Op:=(agi s l i).val
theorem ahk (l:List Note)(n:Str):aeq l n=acG l n:=rfl
theorem axI (s:aF)(n:Str):(A8 s n).2=dP (fun x:aK=>x.Name==n) s.Messages:=by
 have h:=kU (fun x:aK=>x.Name==n) s.Messages;have e:A8 s n=bif decide (0<=dP (fun x:aK=>x.Name==n) s.Messages)then(s.Messages.getD (dP (fun x:aK=>x.Name==n) s.Messages).toNat b_,(((dP (fun x:aK=>x.Name==n) s.Messages).toNat:Nat):Int))else(aK.mk [] [] [] [] [],-1):=by
  unfold A8 Ed;simp only[fM,dN,aN,ay];refine Ij (p:=fun x:aK=>x.Name==n) (g:=fun k=>(s.Messages.getD k b_,(k:Int))) s.Messages 0 (fun j a b=> ?_) rfl;have e:s.Messages.getD (0+j) b_=a:=by rw[zM];simp[List.getD,b]
  rw[e]
 rw[e];by_cases c:0<=dP (fun x:aK=>x.Name==n) s.Messages
 ·rw[jK c,cond_true];dsimp only;omega
 ·rw[jF c,jm];dsimp only;omega
theorem awU (s:aF)(n:Str):(TV s n).2=dP (fun x:gu=>x.Name==n) s.Enums:=by
 have h:=kU (fun x:gu=>x.Name==n) s.Enums;have e:TV s n=bif decide (0<=dP (fun x:gu=>x.Name==n) s.Enums)then(s.Enums.getD (dP (fun x:gu=>x.Name==n) s.Enums).toNat fF,(((dP (fun x:gu=>x.Name==n) s.Enums).toNat:Nat):Int))else(gu.mk [] false [] [] [],-1):=by
  unfold TV acX;simp only[fM,dN,aN,ay];refine Ij (p:=fun x:gu=>x.Name==n) (g:=fun k=>(s.Enums.getD k fF,(k:Int))) s.Enums 0 (fun j a b=> ?_) rfl;have e:s.Enums.getD (0+j) fF=a:=by rw[zM];simp[List.getD,b]
  rw[e]
 rw[e];by_cases c:0<=dP (fun x:gu=>x.Name==n) s.Enums
 ·rw[jK c,cond_true];dsimp only;omega
 ·rw[jF c,jm];dsimp only;omega
theorem Sj:∀(l:List bu) (u:List Str) (x:Str),x∈u->x∈l.foldl rJ u
 | [],_,_,h=>h
 | f::l,u,x,h=>Sj l (rJ u f) x (by unfold rJ;(repeat' split)<;>simp[h])
theorem XF:∀(l:List bu) (u:List Str) (f:bu),f∈l->f.Union≠[]->f.Union∈l.foldl rJ u
 | a::l,u,f,h,b=>by
  rcases zN.1 h with e | e
  ·subst e;refine Sj l _ _ ?_;unfold rJ;rw[kT b];split
   ·assumption
   ·simp
  ·exact XF l (rJ u a) f e b
theorem Oo:∀(l:List bu) (u:List Str),u.Nodup->(l.foldl rJ u).Nodup
 | [],_,h=>h
 | f::l,u,h=>Oo l (rJ u f) (by
  unfold rJ;split
  ·exact h
  ·split
   ·exact h
   ·rename_i c;rw[Qd2];exact⟨h,by simp,fun a g b d=>by rw[FY.1 d];exact fun e=>c (e▸g)⟩)
theorem abr {s:aF}{l:List bu}{i:Int}(J:l.length<=1048576)(C:0<=i/\i < l.length):kw (agi s l i) (fun o=>o=opF s (dX l) (l.getD i.toNat aB)):=by
 have N:l.getD i.toNat aB∈l:=getD_mem au;have g:=XF l [] _ N;have j:=Oo l [] Qdk;have r:=Rl l;unfold agi;refine aX C.1 C.2 ?_;generalize l.getD i.toNat aB=f at*;have B:oC s f.di=bif f.di.Kind==10 then dP (fun x:aK=>x.Name==f.di.Name) s.Messages else bif f.di.Kind==9 then dP (fun x:gu=>x.Name==f.di.Name) s.Enums else -1:=by
  unfold oC UB;simp only[aN,ay];rfl
 have D:wM f.Notes=(acG f.Notes [97,108,105,97,115]).1.Text:=rfl;refine bP (fun y=>y=Op.mk f.Num f.Name (wM f.Notes) f.Card f.Key f.di.Kind (-1) (-1)) (aI fun F w=>dL (fun c=>ai ?_) (fun c=>ai ?_)) fun Q I=> ?_
 ·show _=_
  rw[D,<-ahk,<-w]
 ·show _=_
  have:F.1.Text=[]:=by
   rw[w]at c⊢;unfold aeq adD at c⊢;simp only[bF,aN,dN,ay]at c⊢;cases k:decide (dP (fun(n:Note)=>n.Name==[97,108,105,97,115]) f.Notes < 0)with
   | true=>rfl
   | false=>rw[k]at c;cases c
  rw[D,<-ahk,<-w,this]
 subst I;refine bP (fun y=>y=Op.mk f.Num f.Name (wM f.Notes) f.Card f.Key f.di.Kind (bif f.di.Kind==10 then dP (fun x:aK=>x.Name==f.di.Name) s.Messages else -1) (-1)) (dL (fun c=>ai ?_) (fun c=>ai ?_)) fun O G=> ?_
 ·show _=_;rw[c,axI];rfl
 ·show _=_;rw[c];rfl
 subst G;refine bP (fun y=>y=Op.mk f.Num f.Name (wM f.Notes) f.Card f.Key f.di.Kind (oC s f.di) (-1)) (dL (fun c=>ai ?_) (fun c=>ai ?_)) fun P L=> ?_
 ·show _=_
  have E:(f.di.Kind==10)=false:=by rw[eq_of_beq c];rfl
  rw[B,c,E,awU];rfl
 ·show _=_
  rw[B,c];rfl
 subst L;unfold opF;refine dY (fun c=>aj J (aI fun b m=> ?_)) (fun c=>ai (by rw[nI c]));rw[Ku]at m;rw[kT c,<-m];have g:f.Union∈b:=by rw[m];exact g c
 have j:b.Nodup:=by rw[m];exact j
 have r:b.length<=l.length:=by rw[m];exact r
 have H:=kU (fun x=>f.Union==x) b;have M:0<=dP (fun x=>f.Union==x) b:=by
  rcases uk (fun x=>f.Union==x) b with⟨_,k⟩ | ⟨u,a,v,_,_,_,k⟩
  ·have:=k _ g;simp at this
  ·omega
 have h:=anN (fun x=>f.Union==x) b [] M;generalize dP (fun x=>f.Union==x) b=d at*;have h:f.Union=b.getD d.toNat []:=eq_of_beq h;refine dA (fun k y=>y=Op.mk f.Num f.Name (wM f.Notes) f.Card f.Key f.di.Kind (oC s f.di) (if d < k then d else -1)) (by rw[kT au]) au (fun k y z p=>aX au au (aj au (dR (fun t=>ai ?_) (fun t=>ai ?_)))) (fun y p=>ai (by rw[p,nI H.1]))
 ·have K:k=d.toNat:=by
   have e:b[k]=b[d.toNat]' au:=by
    have a1:b.getD k []=b[k]:=by simp[List.getD,z]
    have a2:b.getD d.toNat []=b[d.toNat]' au:=by simp[List.getD,show d.toNat < b.length by omega]
    rw[<-a1,<-a2,t,h]
   have A:=Qco.1 j;rcases Qd3 k d.toNat with q | q | q
   ·exact absurd e (A k d.toNat z au q)
   ·exact q
   ·exact absurd e.symm (A d.toNat k au z q)
  show _=_
  rw[nI (show d < ((k+1:Nat):Int) by omega),p];show Op.mk f.Num f.Name (wM f.Notes) f.Card f.Key f.di.Kind (oC s f.di) ↑k=_
  rw[show((k:Nat):Int)=d by omega]
 ·have K:d≠k:=fun e=>t (by rw[h,e,uZ])
  show _=_
  rw[p];by_cases q:d < k
  ·rw[nI q,nI au]
  ·rw[kT q,kT au]
theorem atZ (s:aF)(l:List bu)(i:Int)(h:l.length<=1048576/\(0<=i/\i < l.length)):Is (agi s l i):=
 (abr h.1 h.2).1
noncomputable def aAY:bT Z:=E1 [RN,axV,adU,awO] [jS 13 (dh (fun b=>[s0 12, .cells (pid (b 8)) (nn 8)]) (aC cI (l1 jD))),jS 100006 (dh (fun b=>[.cells (pid (b 8)) (nn 8)]) (l1 jD)),jS 100008 (dh (fun b=>[.cells (pid (b 8)) (nn 8)]) (l1 jD)),jS 100010 (dh (fun b=>[.cells (pid (b 8)) (nn 8)]) (l1 jD))] (ax (aQ bV) (ax (df jI) (a1 (df cI)))) (shr [.slot 0 true (nn 8)] (l1 jD)) [] func135 1 (u3 agi) (fun a=>a.2.1.length<=1048576/\(0<=a.2.2/\a.2.2 < a.2.1.length)) fun a h=>atZ a.1 a.2.1 a.2.2 h
noncomputable def NS (s:aF):Pg (aJ×Int):=.ob (okS s) (.br (!qf s) (.ret (aJ.mk [] [],1)) (.cut (fun(m:aJ)=> .each true rP s.Enums fF (fun d a (g:aJ)=> .ix d s.Enums.length (.ix d s.Enums.length (.ix d s.Enums.length (.ob (dE (0+a.Reserved.length) 16) (.Hr [0<=d/\d < (↑s.Enums.length:Int)] true rP a.Items iT (fun l e (c:gu)=> .ix d s.Enums.length (.ix l a.Items.length (.ob (e.Notes.length<=1048576) (.ob (dE (c.Items.length+1) 48) (rl (gu.mk c.Name c.Open (c.Items++[Item.mk e.Name e.Num (H5 e.Notes)]) c.Reserved c.Notes)))))) (fun l (c:gu)=> .ob (dE (g.Enums.length+1) 96) (rl (aJ.mk g.aO (g.Enums++[c])))) (gu.mk a.Name a.Open [] a.Reserved [])))))) (fun d (g:aJ)=> .ret (g,0)) m) (.each true rP s.Messages b_ (fun k b (h:aJ)=> .ix k s.Messages.length (.ix k s.Messages.length (.ob (b.Fields.length<=1048576) (.lt (NK b.Fields) fun j=> aL j (.TN [] (some (b.Fields.length<=9223372036854775807)) rP 0 (↑b.Fields.length:Int) (fun i (f:bC)=> .ob (b.Fields.length<=1048576/\0<=i/\i < (↑b.Fields.length:Int)) (.ob (dE (f.Ops.length+1) 80) (rl (bC.mk f.Name (f.Ops++[auo s b.Fields i]) f.Zw)))) (fun i (f:bC)=> .ob (dE (h.aO.length+1) 48) (rl (aJ.mk (h.aO++[f]) h.Enums))) (bC.mk b.Name [] (↑j.length:Int))))))) (fun k (h:aJ)=> rl h) (aJ.mk [] []))))
noncomputable def GX (s:aF):aJ×Int:=(NS s).val
noncomputable def zt (e:gu):gu:=gu.mk e.Name e.Open (e.Items.map fun x=>Item.mk x.Name x.Num (H5 x.Notes)) e.Reserved []
def FN (s:aF):Prop:=∀e∈s.Enums,∀x∈e.Items,x.Notes.length<=1048576
theorem Q8 {s:aF}(h:okS s)(I:FN s):kw (NS s) (fun r=>r=bif qf s then(aJ.mk (s.Messages.map (mP s)) (s.Enums.map zt),0)else(aJ.mk [] [],1)):=by
 have P:s.Messages.length<=150:=h.1;have M:s.Enums.length<=150:=h.2.1;unfold NS;refine aj h (dL (fun c=>ai ?_) (fun c=> ?_))
 ·rw[show qf s=false by simpa using c];rfl
 have A:qf s=true:=by simpa using c
 rw[A,cond_true];refine bP (fun y=>y=aJ.mk (s.Messages.map (mP s)) []) (dA (fun i y=>y=aJ.mk ((s.Messages.take i).map (mP s)) []) rfl au (fun i y f a=> ?_) (fun y a=>ai ?_)) fun L D=>dA (fun i y=>y=aJ.mk (s.Messages.map (mP s)) ((s.Enums.take i).map zt)) D au (fun i y f a=> ?_) (fun y a=>ai ?_)
 ·have p:=(h.2.2.2.1 _ (getD_mem (d:=b_) f)).1;have t:(s.Messages.take (i+1)).map (mP s)=(s.Messages.take i).map (mP s)++[mP s (s.Messages.getD i b_)]:=iI f;rw[t];have H:((s.Messages.take i).map (mP s)).length<=i:=by rw[Qby,C9];omega
  generalize s.Messages.getD i b_=m at*;generalize (s.Messages.take i).map (mP s)=b at*;subst a;refine aX au au (aX au au (aj p (aI fun J n=>fD ?_)));rw[Ku]at n;refine agU (fun j g=>g=bC.mk m.Name ((m.Fields.take j.toNat).map (opF s (dX m.Fields))) (dX m.Fields).length) (by rw[n];rfl) trivial au au (fun j g q o u=> ?_) (fun j g q o u=>aj (dw (by show b.length+1<=_;omega) (by show(b.length+1)*48<=_;omega)) (ai ?_))
  ·have C:j.toNat < m.Fields.length:=by omega
   have G:auo s m.Fields j=opF s (dX m.Fields) (m.Fields.getD j.toNat aB):=(abr (s:=s) p ⟨q,o⟩).2;have v:((m.Fields.take j.toNat).map (opF s (dX m.Fields))).length<=j.toNat:=by rw[Qby,C9];omega
   subst u;refine aj ⟨p,q,o⟩ (aj (dw (by show(List.map _ _).length+1<=_;omega) (by show((List.map _ _).length+1)*80<=_;omega)) (ai ?_));show _=_
   rw[G,show(j+1).toNat=j.toNat+1 by omega,iI (d:=aB) C]
  ·show _=_
   rw[u,Qcz au,abf]
 ·rw[JG]at a;exact a
 ·have z:=getD_mem (d:=fF) f;have F:=h.2.2.2.2.1 _ z;have B:=I _ z;have t:(s.Enums.take (i+1)).map zt=(s.Enums.take i).map zt++[zt (s.Enums.getD i fF)]:=iI f;rw[t];have H:((s.Enums.take i).map zt).length<=i:=by rw[Qby,C9];omega
  generalize s.Enums.getD i fF=e at*;generalize (s.Enums.take i).map zt=b at*;subst a;obtain⟨N,K,O⟩:=F;refine aX au au (aX au au (aX au au (aj (dw au au) ?_)));refine QN (fun k g=>g=gu.mk e.Name e.Open ((e.Items.take k).map fun x=>Item.mk x.Name x.Num (H5 x.Notes)) e.Reserved []) rfl ⟨⟨by omega,by omega⟩,trivial⟩ au (fun k g w l=> ?_) (fun g l=>aj (dw (by show b.length+1<=_;omega) (by show(b.length+1)*96<=_;omega)) (ai ?_))
  ·have E:=B _ (getD_mem (d:=iT) w);have v:((e.Items.take k).map fun x=>Item.mk x.Name x.Num (H5 x.Notes)).length<=k:=by rw[Qby,C9];omega
   subst l;refine aX au au (aX au au (aj E (aj (dw (by show(List.map _ _).length+1<=_;omega) (by show((List.map _ _).length+1)*48<=_;omega)) (ai ?_))));show _=_
   rw[iI (d:=iT) w]
  ·show _=_
   rw[JG]at l;rw[l];rfl
 ·rw[JG]at a;rw[a]
theorem alP (e:gu):(vP e).Open=e.Open/\(vP e).Items.map Item.Num=e.Items.map Item.Num:=by
 have k:VP (agT e) (fun r=>r.Open=e.Open/\r.Items.map Item.Num=e.Items.map Item.Num):=by
  unfold agT;refine bI (lY (kW (fun i y=>y.Open=e.Open/\y.Items.map Item.Num=(e.Items.take i).map Item.Num) ⟨rfl,rfl⟩ (fun i y b a=>lT (iW fun g f=>iU (fun c=>bI (bz ?_)) (fun c=>bI (bz ?_)))) (fun y a=>bz (by rw[JG]at a;exact a))));all_goals
   refine⟨a.1,?_⟩;show List.map Item.Num (y.Items++[_])=_
   rw[iI (d:=iT) b,Qef,a.2];rfl
 exact k
theorem afW (p:aJ)(e n:Int):BM p e n=bif decide (e < 0)then false else bif decide ((p.Enums.length:Int)<=e)then false else bif decide (2147483647 < n)then false else bif (p.Enums.getD e.toNat fF).Open then true else((p.Enums.getD e.toNat fF).Items.map Item.Num).any fun x=>bJ .u64 x==n:=by
 have a:∀x:Item,PL x n=(bJ .u64 x.Num==n):=fun x=>rfl
 unfold BM azy;simp only[aN,gm,dN,ay,List.any_map,Function.comp_def];rfl
theorem YL {s:aF}(h:nK s=true):(tZ s).2=0:=by
 have k:VP (aaR s) (fun r=>r.2=0):=by
  unfold aaR;refine bI (iU (fun c=>absurd h (by rw[show nK s=false by simpa using c];decide)) fun _=>gZ (fun _=>True) (lY (kW (fun _ _=>True) trivial (fun k y a _=>lT (bI (bI (bz trivial)))) fun y _=>bz trivial)) fun y _=>lY (kW (fun _ _=>True) trivial (fun k y a _=>lT (bI (bI (bz trivial)))) fun y _=>bz rfl))
 exact k
theorem auY {s:aF}(h:okS s)(H:FN s)(a:nK s=true)(l:qf s=true):rp (GX s).1 (tZ s).1/\pG (GX s).1:=by
 have A:GX s=(aJ.mk (s.Messages.map (mP s)) (s.Enums.map zt),0):=by
  have:=(Q8 h H).2;rw[l]at this;exact this
 have p:=YL a;have y:=(af2 h p).2;have c:=aeQ h p;rw[y]at c⊢;rw[A];refine⟨⟨rfl,fun e n=> ?_⟩,?_,?_,?_⟩
 ·rw[afW,afW];show(bif decide (e < 0)then false else bif decide (((s.Enums.map zt).length:Int)<=e)then false else bif decide (2147483647 < n)then false else bif ((s.Enums.map zt).getD e.toNat fF).Open then true else(((s.Enums.map zt).getD e.toNat fF).Items.map Item.Num).any fun x=>bJ .u64 x==n)=(bif decide (e < 0)then false else bif decide (((s.Enums.map vP).length:Int)<=e)then false else bif decide (2147483647 < n)then false else bif ((s.Enums.map vP).getD e.toNat fF).Open then true else(((s.Enums.map vP).getD e.toNat fF).Items.map Item.Num).any fun x=>bJ .u64 x==n)
  rw[Qby,Qby];by_cases t:e < 0
  ·rw[jK t];rfl
  by_cases C:(s.Enums.length:Int)<=e
  ·rw[jK C,jF t];rfl
  have b:e.toNat < s.Enums.length:=by omega
  have E:(s.Enums.map zt).getD e.toNat fF=zt (s.Enums[e.toNat]):=by simp[List.getD,b]
  have F:(s.Enums.map vP).getD e.toNat fF=vP (s.Enums[e.toNat]):=by simp[List.getD,b]
  obtain⟨D,v⟩:=alP (s.Enums[e.toNat]);have G:(zt (s.Enums[e.toNat])).Items.map Item.Num=(s.Enums[e.toNat]).Items.map Item.Num:=by
   unfold zt;rw[Qcy];rfl
  rw[E,F,D,v,G];rfl
 ·intro g i;obtain⟨a1,a2⟩:=c g i;refine⟨a1,fun o d=> ?_⟩;obtain⟨b1,u⟩:=a2 o d;exact⟨b1,u⟩
 ·intro e w I b;obtain⟨J,r,rfl⟩:=JC.1 w;obtain⟨x,z,rfl⟩:=JC.1 b;have q:itR x:=akj a r z;exact⟨q.1,q.2⟩
 ·intro g i;obtain⟨m,j,rfl⟩:=JC.1 i;rw[abf];constructor
  ·exact List.pairwise_map.2 (aqX a j (h.2.2.2.1 m j).1)
  ·intro o d;obtain⟨f,B,rfl⟩:=JC.1 d;have k:=abt a j B;refine⟨?_,k.2.1.1,k.2.1.2.1⟩;show(if f.Union=[]then(-1:Int)else _)= -1\/0<=(if f.Union=[]then(-1:Int)else _)
   have:=(kU (fun x=>f.Union==x) (dX m.Fields)).2;split
   ·exact .inl rfl
   ·omega
theorem ama (s:aF)(h:okS s/\FN s):Is (NS s):=
 (Q8 h.1 h.2).1
noncomputable def aqR:bT Z:=E1 [Yi,RN,aAY,ak9] [jS 5 (dh (fun b=>[s0 5, .cells (pid (b 4)) [some 86,some 90]]) (aC cI (l1 dU))),jS 10 (dh (fun b=>[s0 8, .cells (pid (b 7)) [none,some 132,none]]) (aC cI (l1 jV))),jS 15 (dh (fun b=>[s0 9, .cells (pid (b 4)) [some 86,some 90]]) (aC cI (l1 dU))),jS 19 (dh (fun b=>[s0 11, .cells (pid (b 10)) [none,none,some 139,none,none]]) (aC cI (l1 o6))),jS 100014 (dh (fun b=>[.cells (pid (b 4)) [some 86,some 90]]) (l1 dU)),jS 800003 (dh (fun b=>[.cells (pid (b 4)) [some 86,some 90]]) (l1 dU)),jS 800008 (dh (fun b=>[.cells (pid (b 7)) [none,some 132,none]]) (l1 jV)),jS 800017 (dh (fun b=>[.cells (pid (b 10)) [none,none,some 139,none,none]]) (l1 o6))] (a1 (aQ bV)) (shr [.slot 0 true [none,none], s0 1] (aC dU (l1 cI))) [] func81 2 NS (fun a=>okS a/\FN a) fun a h=>ama a h
def Zl:Pg jW:=.ret (jW.mk 65536 16 4096 4096)
def aax:jW:=(Zl).val
theorem afX:Is (Zl):=
 aZ
def amn:bT Z:=E0 [] [] a0 (shr [.slot 0 true (nn 4)] (l1 qZ)) [] func83 1 (fun a=>Zl) fun a=>afX
def Om (p:aJ)(g:Str)(c:af)(f:Str)(l:jW):Pg (af×Int):=.lt (GL p g) fun a=> .br (!a.2) (.ret (af.mk 0 0 [] [] [] [] [],10)) (.br (c.Kind !=10) (.ret (af.mk 0 0 [] [] [] [] [],12)) (.lt (aBz f l) fun b=> .br (b.2 !=0) (.ret (af.mk 0 0 [] [] [] [] [],b.2)) (.br (decide (b.1.Depth < 1)) (.ret (af.mk 0 0 [] [] [] [] [],17)) (.lt (wZ (ah.mk b.1.Data b.1.At b.1.End (bJ .i64 (b.1.Depth - 1)) b.1.Nodes b.1.Text) 1) fun e=> .br (e.2 !=0) (.ret (af.mk 0 0 [] [] [] [] [],e.2)) (.ob (pG p/\rq c.re (ae.mk p e.1)/\(0<=a.1/\a.1 < (↑p.aO.length:Int))/\wV p c.re (p.aO.getD a.1.toNat aU)) (.lt (axf p a.1 c.re e.1) fun d=> .br (d.2.2 !=0) (.ret (af.mk 0 0 [] [] [] [] [],d.2.2)) (.ob (pG p/\(0<=a.1/\a.1 < (↑p.aO.length:Int))/\wV p d.1.re (p.aO.getD a.1.toNat aU)/\gV d.1.re) (.ret ((aee p a.1 d.1.re).re,0)))))))))
def avC (p:aJ)(b:Str)(a:af)(c:Str)(l:jW):=(Om p b a c l).val
theorem arI {p q:aJ}(h:mf p)(e:rp p q):mf q:=by
 intro g a;rw[e.1]at a;obtain⟨j,d⟩:=h g a;refine⟨j,fun o f=> ?_⟩;obtain⟨b,c⟩:=d o f;refine⟨fun i=> ?_,c⟩;rw[e.1];exact b i
theorem Ja (p:aJ)(n:Str):GL p n=nU p n:=by
 have h:=kU (fun g:bC=>g.Name==n) p.aO;have e:GL p n=bif decide (0<=dP (fun g:bC=>g.Name==n) p.aO)then((((dP (fun g:bC=>g.Name==n) p.aO).toNat:Nat):Int),true)else(0,false):=by
  unfold GL Va;simp only[fM,dN,aN,ay];exact Ij (p:=fun g:bC=>g.Name==n) (g:=fun k=>((k:Int),true)) p.aO 0 (fun j a d=>rfl) rfl
 have b:nU p n=(max (dP (fun g:bC=>g.Name==n) p.aO) 0,decide (0<=dP (fun g:bC=>g.Name==n) p.aO)):=by
  unfold nU ait;simp only[bF,aN,ay];first
   | rfl
   | (by_cases c:0<=dP (fun g:bC=>g.Name==n) p.aO<;>simp[c]<;>omega)
 rw[e,b];by_cases c:0<=dP (fun g:bC=>g.Name==n) p.aO
 ·rw[jK c,cond_true,Int.toNat_of_nonneg c];congr 1;omega
 ·rw[jF c,jm];congr 1;omega
theorem acC {p q:aJ}(e:rp p q)(n:Str):nU q n=nU p n:=by
 unfold nU ait;rw[e.1]
def ahp (p:aJ)(a:Str)(b:af):Prop:=(nU p a).2=true->wV p b (p.aO.getD (nU p a).1.toNat aU)
theorem afT {p q:aJ}{name data:Str}{a:af}{l:jW}(v:pG p)(i:rp p q)(hl:okL l)(O:kV a)(hb2:tV a<=1024)(T:ahp p name a):mG (acm q name a data l) (Om p name a data l) (fun x y=>y.2=x.2/\(x.2=0->y.1=x.1/\wV p x.1 (p.aO.getD (nU p name).1.toNat aU))):=by
 have j:∀{e:Int} {z:af},(e !=0)=true->(fun x y:af×Int=>y.2=x.2/\(x.2=0->y.1=x.1/\wV p x.1 (p.aO.getD (nU p name).1.toNat aU))) (z,e) (z,e):=fun c=>⟨rfl,fun k=>absurd k (by simpa[bne]using c)⟩
 unfold acm Om;simp only[af.dn];refine fV fun L B=>fP fun b f1=> ?_;have X:b=L:=by rw[f1,B,Ja,acC i]
 subst X;rw[Ja]at f1;clear B;refine iP rfl (fun _=>bZ (j rfl)) fun c1=>iP rfl (fun _=>bZ (j rfl)) fun c2=>fV fun R t=>fP fun d f2=> ?_;have N:d=R:=by rw[f2,t];rfl
 subst N;clear f2;refine iP rfl (fun c=>bZ (j c)) fun c3=>iP rfl (fun _=>bZ (j rfl)) fun D=>fV fun V W=>fP fun f f3=> ?_;have k3:V=(f.2,ae.mk q f.1):=by rw[W,f3,jc];rfl
 subst k3;refine iP rfl (fun c=>bZ (j c)) fun Q=> ?_;have h:b.2=true:=by simpa using c1
 have m:=MC (p:=p) (name:=name) (by rw[<-f1];exact h);have H:=T (by rw[<-f1];exact h);rw[<-f1]at m H⊢;obtain⟨E,P,o3,o4⟩:=af9 hl (by rw[<-t];exact bW.1 c3);rw[<-t]at E P o3;have D:=Qbm D;have hc:ig (ah.mk d.1.Data d.1.At d.1.End (bJ .i64 (d.1.Depth - 1)) d.1.Nodes d.1.Text):=by
  obtain⟨Y,⟨q2,q3⟩,S⟩:=E;rw[bY (k:= .i64) p_];exact⟨Y,⟨by show 0<=d.1.Depth - 1;omega,by show d.1.Depth - 1<=1048576;omega⟩,S⟩
 have s:=lJ hc (n:=1) (by rw[<-jc,<-f3];exact bW.1 Q);rw[<-jc,<-f3]at s;have sE:f.1.End=d.1.End:=s.1.2.2.1;have sA:f.1.At=d.1.At:=s.2.2.1;have o:rq a (ae.mk p f.1):=⟨s.1.1,v.1,O,by dsimp only;omega⟩;have J:pG p/\rq a (ae.mk p f.1)/\(0<=b.1/\b.1 < (p.aO.length:Int))/\wV p a (p.aO.getD b.1.toNat aU):=⟨v,o,m,H⟩;refine fC (dV J (fV fun g C=>fP fun Z f4=> ?_));have k:yL p (p.aO.getD b.1.toNat aU) g Z:=by rw[C,f4];exact ak6 p b.1 a f.1 J q i
 have A:=(Jp b.1 a (ae.mk q f.1) ⟨F9 o i,by show 0<=b.1/\b.1 < (q.aO.length:Int);rw[i.1];exact m⟩).1;rw[<-C]at A;obtain⟨⟨w,r2⟩,M⟩:=k;refine iP (by rw[w]) (fun c=>bZ (by rw[w];exact j c)) fun u=> ?_;obtain⟨a1,a2⟩:=r2 (bW.1 u);obtain⟨f1',r,I,F⟩:=A (bW.1 u);have fE:=r.2.2.1;have fL:=r.1.1.2.1;have hg:gV g.1:=⟨I,by dsimp only at F fE fL;omega⟩;have K:pG p/\(0<=b.1/\b.1 < (p.aO.length:Int))/\wV p g.1 (p.aO.getD b.1.toNat aU)/\gV g.1:=⟨v,m,M (bW.1 u),hg⟩;rw[a1];obtain⟨G,U⟩:=aiT p b.1 g.1 K;refine fC (dV K (bZ ⟨rfl,fun _=>⟨G q i,?_⟩⟩));show wV p (P6 q b.1 g.1) _
 have e:aee p b.1 g.1=P6 q b.1 g.1:=G q i;rw[<-e];exact U
theorem alK (p:aJ)(b:Str)(a:af)(c:Str)(l:jW)(h:pG p/\okL l/\(kV a/\tV a<=1024)/\ahp p b a):Is (Om p b a c l):=
 (afT h.1 (Kz p) h.2.1 h.2.2.1.1 h.2.2.1.2 h.2.2.2).1
def apu:bT Z:=E1 [ab2,as7,yJ,aF3,azF] [] (ax (aQ dU) (ax (df cStr) (ax (aQ aH) (ax (df cStr) (a1 (aQ qZ)))))) (shr [.slot 0 true (nn 7), s0 1] (aC aH (l1 cI))) [] func137 2 (fun a=>Om a.1 a.2.1 a.2.2.1 a.2.2.2.1 a.2.2.2.2) (fun a=>pG a.1/\okL a.2.2.2.2/\(kV a.2.2.1/\tV a.2.2.1<=1024)/\ahp a.1 a.2.1 a.2.2.1) fun a h=>alK a.1 a.2.1 a.2.2.1 a.2.2.2.1 a.2.2.2.2 h
noncomputable def Dt (p:aJ)(a:Str)(d:Str)(l:jW):Pg (af×Int):=.ob (pG p/\ okL l/\ (kV (af.mk 10 0 [] [] [] [] [])/\tV (af.mk 10 0 [] [] [] [] [])<=1024)/\ ahp p a (af.mk 10 0 [] [] [] [] [])) (.lt (avC p a (af.mk 10 0 [] [] [] [] []) d l) fun b=> .br (b.2 !=0) (.ret (af.mk 0 0 [] [] [] [] [],b.2)) (.lt (GL p a) fun c=> .ob (pG p/\(0<=c.1/\c.1 < (↑p.aO.length:Int))/\wV p b.1.re (p.aO.getD c.1.toNat aU)/\gV b.1.re) (.br (Uf p c.1 b.1.re) (.ret (af.mk 0 0 [] [] [] [] [],14)) (.ret (b.1.re,0)))))
noncomputable def YS (p:aJ)(a:Str)(b:Str)(l:jW):af×Int:=(Dt p a b l).val
theorem anC {p q:aJ}{name data:Str}{l:jW}(d:pG p)(b:rp p q)(i:okL l):mG (IW q name data l) (Dt p name data l) (fun x y=>y=x):=by
 have f:pG p/\okL l/\(kV (af.mk 10 0 [] [] [] [] [])/\tV (af.mk 10 0 [] [] [] [] [])<=1024)/\ahp p name (af.mk 10 0 [] [] [] [] []):=⟨d,i,⟨(kE 10 0 [] u0).1,by rw[Jk];decide⟩,fun _=>Yh⟩;have k:=(afT (name:=name) (data:=data) d b i f.2.2.1.1 f.2.2.1.2 f.2.2.2).2;have h:=(PY q name (af.mk 10 0 [] [] [] [] []) data l ⟨arI d.1 b,i,f.2.2.1⟩).2;unfold IW Dt;simp only[af.dn];refine fC (dV f (fV fun a n=>fP fun m f1=> ?_));have k:m.2=a.2/\(a.2=0->m.1=a.1/\wV p a.1 (p.aO.getD (nU p name).1.toNat aU)):=by rw[n,f1];exact k
 have h:a.2=0->kV a.1/\tV a.1<=tV (af.mk 10 0 [] [] [] [] [])+8*data.length/\(nU q name).2=true/\data.length<=65536:=by rw[n];exact h
 obtain⟨k1,s⟩:=k;refine iP qcl (fun c=>bZ qcl) fun c=>fV fun u t=>fP fun g f2=> ?_;have w:g=u:=by rw[f2,t,Ja,acC b]
 subst w;rw[Ja]at f2;obtain⟨a1,a2⟩:=s (bW.1 c);obtain⟨z,v,o,A⟩:=h (bW.1 c);rw[acC b]at o;have j:=MC o;rw[<-f2]at j a2;rw[Jk]at v;have r:gV a.1:=⟨z,by omega⟩;rw[a1];refine fC (dV ⟨d,j,a2,r⟩ ?_);have e:Uf p g.1 a.1= !La q g.1 a.1:=ad_ p g.1 a.1 ⟨d,j,⟨a2,r⟩⟩ q (tV a.1) b (rC _);rw[e];exact iP rfl (fun _=>bZ rfl) (fun _=>bZ rfl)
theorem ac9 (p:aJ)(a:Str)(b:Str)(l:jW)(h:pG p/\okL l):Is (Dt p a b l):=
 (anC h.1 (Kz p) h.2).1
noncomputable def aiv:bT Z:=E1 [apu,ab2,atV] [] (ax (aQ dU) (ax (df cStr) (ax (df cStr) (a1 (aQ qZ))))) (shr [.slot 0 true (nn 7), s0 1] (aC aH (l1 cI))) [] func82 2 (u4 Dt) (fun a=>pG a.1/\okL a.2.2.2) fun a h=>ac9 a.1 a.2.1 a.2.2.1 a.2.2.2 h
end
end Go.Proofs.YtenjjcfebflefaaGreatDoor
