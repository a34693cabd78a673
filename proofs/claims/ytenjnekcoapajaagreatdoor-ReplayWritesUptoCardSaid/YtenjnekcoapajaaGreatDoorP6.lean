/- Codecs: plans: fields ascend; programs' values. -/
import Derived.Test.YtenjnekcoapajaaGreatDoorP4
namespace Go.Proofs.YtenjnekcoapajaaGreatDoor
noncomputable section
open Go.RowKit Go.Vc
open Tryz
set_option linter.unusedVariables false
set_option linter.unusedSimpArgs false
set_option maxRecDepth 100000
def H6 (m:aG)(i:Int):Prop:=i=0\/(m.Fields.getD (aQ .i64 (i - 1)).toNat aB).Num < (m.Fields.getD i.toNat aB).Num
theorem aqe {s:ax}{m:aG}{i:Int}{x:ak}(h:(BV s m i x).out=[]):H6 m i:=by
 have k:VP (field s m i x) (fun y=>y.out=[]->H6 m i):=by
  unfold field;simp only[ae.bJ];refine iY (dQ (fun _=>True) (aI trivial) fun g _=>dQ (fun _=>True) ?_ fun t _=>dQ (fun z=>z.out=[]->H6 m i) ?_ fun w u=>dQ (fun z=>z.out=[]->H6 m i) ?_ fun p o=>dQ (fun z=>z.out=[]->H6 m i) ?_ fun l e=>dQ (fun z=>z.out=[]->H6 m i) ?_ fun A r=>dQ (fun z=>z.out=[]->H6 m i) ?_ fun q n=>dQ (fun z=>z.out=[]->H6 m i) ?_ fun j f=>dQ (fun z=>z.out=[]->H6 m i) ?_ fun B a=> ?_)
  ·grind [dI,bf,aI]
  ·refine dI (fun c=>bf (aI fun _=> .inl (eq_of_beq c))) (fun _=>dG fun v d=>iY (bf (aI fun h=> .inr ?_)));rw[d]at h;exact Dt (fD h).1
  all_goals repeat' first
   | exact aI fun h=>‹∀(_:_=[]),H6 m i› (fD h).2
   | exact aI fun h=>a (fD (qI h)).2
   | refine bf ?_
   | refine iY ?_
   | (refine dG fun x b=> ?_;subst b)
   | refine dI (fun _=> ?_) (fun _=> ?_)
 exact k h
theorem aog {s:ax}{m:aG}{b:List (Str×Bool)}(h:tH s m b=[]){i:Nat}(n:i < m.Fields.length):H6 m i:=by
 have k:VP (inMsg s m b) (fun r=>r=[]->∀i:Nat,i < m.Fields.length->H6 m i):=by
  unfold inMsg;refine dQ (fun _=>True) (bf (bf (aI trivial))) fun o _=>dQ (fun _=>True) (dI (fun _=>bf (iG (iG (aI trivial)))) (fun _=>bf (aI trivial))) fun u _=>
   dQ (fun y=>y.out=[]->∀i:Nat,i < m.Fields.length->H6 m i) (iG (asU (fun i y=>y.out=[]->∀j:Nat,(j:Int) < i->H6 m j) (fun _ j c=>absurd c aj) (fun i y g l a=>bf (aI fun h=> ?_)) (fun i y g l a=>aI fun h j c=>a h j aj))) fun p f=>
   bf (iG (gB (fun _ y=>y.out=[]->∀i:Nat,i < m.Fields.length->H6 m i) (fun h=>f (ML h)) (fun k y q a=>iY (bf (bf (aI fun h=>a (fD h).2)))) (fun y a=>bf (bf (dG fun t d=>bf (aI fun h=> ?_))))))
  ·intro j c;rcases Int.lt_or_eq_of_le (show(j:Int)<=i by omega)with e | e
   ·exact a (Zo h).1 j e
   ·rw[e];exact aqe h
  ·subst d;exact a (qI (fD h).2)
 exact k h i n
theorem aqB {s:ax}(h:jT s=true){m:aG}(g:m∈s.Messages)(t:m.Fields.length<=1048576):m.Fields.Pairwise fun a b=>a.Num < b.Num:=by
 have e:GU s=[]:=by
  unfold jT H9 at h;simp_all
 have o:∀n:Nat,n+1 < m.Fields.length->(m.Fields.getD n aB).Num < (m.Fields.getD (n+1) aB).Num:=fun n f=>by
  rcases aog (aeb e g) f with k | k
  ·omega
  ·rw[bn (k:= .i64) kM,show(((n+1:Nat):Int) - 1).toNat=n by omega]at k;exact k
 have c:∀(d n:Nat),n+d+1 < m.Fields.length->(m.Fields.getD n aB).Num < (m.Fields.getD (n+d+1) aB).Num:=fun d=>by
  induction d with
  | zero=>omega
  | succ d r=>grind
 rw[Qb6];intro i j p q l;have k:=c (j - i - 1) i aj;rw[show i+(j - i - 1)+1=j by omega]at k
 grind
def pF (u:List Str)(f:aN):List Str:=if f.Union=[]then u else if f.Union∈u then u else u++[f.Union]
def dC (l:List aN):List Str:=l.foldl pF []
noncomputable def opF (s:ax)(u:List Str)(f:aN):Op:=Op.mk f.Num f.Name (vW f.Notes) f.Card f.Key f.bV.Kind (oz s f.bV) (if f.Union=[]then -1 else dO (fun x=>f.Union==x) u)
theorem asL {A:Type}(p:A->Bool){l r:List A}(h:l.any p=true):dO p (l++r)=dO p l:=by
 grind [awO,oN]
theorem awx (u:List Str)(f:aN):∃t,pF u f=u++t:=by
 unfold pF;split
 ·simp_all
 ·split
  ·exact⟨[],(Qa5 _).symm⟩
  ·exact⟨_,rfl⟩
theorem Tz:∀(l:List aN) (u:List Str),∃t,l.foldl pF u=u++t
 | [],u=>⟨[],(Qa5 _).symm⟩
 | f::l,u=>by
  obtain⟨t,h⟩:=awx u f;obtain⟨t2,a⟩:=Tz l (pF u f)
  grind
theorem atN {l:List aN}{i:Nat}(a:i < l.length)(b:(l.getD i aB).Union≠[]):dO (fun x=>(l.getD i aB).Union==x) (pF (dC (l.take i)) (l.getD i aB))=dO (fun x=>(l.getD i aB).Union==x) (dC l):=by
 have e:dC l=(l.drop (i+1)).foldl pF (pF (dC (l.take i)) (l.getD i aB)):=by
  conv=>lhs;rw[<-Qa3 (i+1) l,take_snoc (d:=aB) a]
  unfold dC
  grind
 obtain⟨t,h⟩:=Tz (l.drop (i+1)) (pF (dC (l.take i)) (l.getD i aB));rw[e,h];refine(asL _ ?_).symm;rw[Qbs];refine⟨_,?_,beq_self_eq_true _⟩;unfold pF
 grind
theorem Yz (s:ax)(m:aG):kN s m=aX.mk m.Name (m.Fields.map (opF s (dC m.Fields))) (dC m.Fields).length:=by
 have k:VP (pProg s m) (fun g=>g=aX.mk m.Name (m.Fields.map (opF s (dC m.Fields))) (dC m.Fields).length):=by
  unfold pProg;refine iG (gB (fun i y=>y.1=dC (m.Fields.take i)/\y.2=aX.mk m.Name ((m.Fields.take i).map (opF s (dC m.Fields))) 0) ⟨rfl,rfl⟩ (fun i y h j=> ?_) (fun y j=>iG (aI ?_)))
  ·obtain⟨q,u⟩:=j;have e:=atN h;have r:(m.Fields.take (i+1)).map (opF s (dC m.Fields))=(m.Fields.take i).map (opF s (dC m.Fields))++[opF s (dC m.Fields) (m.Fields.getD i aB)]:=fZ h;have o:dC (m.Fields.take (i+1))=pF (dC (m.Fields.take i)) (m.Fields.getD i aB):=by
    rw[take_snoc (d:=aB) h];unfold dC;grind
   have C:∀l:List Str,(l.any fun x=>(m.Fields.getD i aB).Union==x)=decide ((m.Fields.getD i aB).Union∈l):=fun l=>by
    grind
   generalize m.Fields.getD i aB=f at*;refine iY (dG fun A n=>dG fun z w=>dI (fun c=>dI (fun v=>bf (bf (dG fun p B=>aI ?_))) (fun v=>bf (aI ?_))) (fun c=>bf (aI ?_)));all_goals show _=dC (m.Fields.take (i+1))/\_=aX.mk m.Name ((m.Fields.take (i+1)).map (opF s (dC m.Fields))) 0;rw[r,o,u,q]at*;subst n w
   ·have a:f.Union≠[]:=by simpa using c
    have t:f.Union∉dC (m.Fields.take i):=by grind
    have b:pF (dC (m.Fields.take i)) f=p:=by unfold pF;grind
    rw[b]at e⊢;exact⟨rfl,by rw[e a];unfold opF;rw[uU a]⟩
   ·have a:f.Union≠[]:=by simpa using c
    have t:f.Union∈dC (m.Fields.take i):=by grind
    have b:pF (dC (m.Fields.take i)) f=dC (m.Fields.take i):=by unfold pF;grind
    rw[b]at e⊢;exact⟨rfl,by rw[e a];unfold opF;rw[uU a]⟩
   ·have a:f.Union=[]:=by simpa using c
    have b:pF (dC (m.Fields.take i)) f=dC (m.Fields.take i):=by unfold pF;rw[vJ a]
    rw[b];exact⟨rfl,by unfold opF;rw[vJ a]⟩
  grind
 exact k
def akL (s:ax)(a:Str):Pg Int:=.each true yc s.Messages bT (fun b c (d:Unit)=> .ix b s.Messages.length (.br (c.Name==a) (.ret (.inr b)) (rl ()))) (fun b (d:Unit)=> .ret (-1)) ()
theorem ah_ (s:ax)(a:Str):Is (akL s a):=
 is_each (.inl rfl) (fun c b _ _=>is_ix aj aj (is_br iR iR)) (fun b _=>is_ret)
def NP:bi Z:=E2 [] [jS 2 (bD (fun c=>Ap) iL)] QB jE [] func198 1 (u2 akL) (fun a=>none) (fun a=>dO (fun(m:aG)=>m.Name==a.2) a.1.Messages) fun a h=>⟨ah_ a.1 a.2,(fun(s:ax) (b:Str)=>vV (fun(m:aG)=>m.Name==b) s.Messages 0) a.1 a.2⟩
def ak7 (s:ax)(a:Str):Pg Int:=.each true yc s.Enums dR (fun b c (d:Unit)=> .ix b s.Enums.length (.br (c.Name==a) (.ret (.inr b)) (rl ()))) (fun b (d:Unit)=> .ret (-1)) ()
theorem ajy (s:ax)(a:Str):Is (ak7 s a):=
 is_each (.inl rfl) (fun c b _ _=>is_ix aj aj (is_br iR iR)) (fun b _=>is_ret)
def YK:bi Z:=E2 [] [jS 2 (bD (fun c=>Ap) iL)] QB jE [] func256 1 (u2 ak7) (fun a=>none) (fun a=>dO (fun(m:eu)=>m.Name==a.2) a.1.Enums) fun a h=>⟨ajy a.1 a.2,(fun(s:ax) (b:Str)=>vV (fun(m:eu)=>m.Name==b) s.Enums 0) a.1 a.2⟩
def c12needs (s:ax)(m:aG)(a:List Bool):Pg Bool:=.each true yc m.Fields aB (fun d b (e:Unit)=> .ix d m.Fields.length (.br (b.Card !=1) (rl ()) (.br (b.bV.Kind !=10) (rl ()) (.lt (dO (fun(m:aG)=>m.Name==b.bV.Name) s.Messages) fun c=> .br (decide (0<=c)) (.ix c a.length (.br (!a.getD c.toNat false) (.ret (.inr true)) (rl ()))) (rl ()))))) (fun d (e:Unit)=> .ret false) ()
def uf (s:ax)(m:aG)(a:List Bool):=(c12needs s m a).val
theorem adO (s:ax)(m:aG)(a:List Bool)(h:s.Messages.length<=a.length):Is (c12needs s m a):=
 is_each (.inl rfl) (fun c d _ _=>is_ix aj aj (is_bne iR (fun _=>is_bne iR (fun _=>is_lt fun f e=>is_brd (fun _=>is_ix aj (by have:=(jy (fun(b:aG)=>b.Name==(m.Fields.getD c aB).bV.Name) s.Messages).1;omega) (is_br iR iR)) iR)))) (fun d _=>is_ret)
def Tn:bi Z:=E1 [NP] [jS 2 (bD (fun b=>[s0 7]) iL)] aGJ hh2 [] func188 1 (u3 c12needs) (fun a=>a.1.Messages.length<=a.2.2.length) fun a h=>adO a.1 a.2.1 a.2.2 h
def c12fin (s:ax):Pg (List Bool):=.ob ((↑s.Messages.length:Int)=(↑s.Messages.length:Int)/\ 0<=(↑s.Messages.length:Int)/\(↑s.Messages.length:Int)*(1:Int)<=281474976710656/\(↑s.Messages.length:Int)<=1099511627776) (aL s.Messages (.cnt mg 0 (↑s.Messages.length:Int) (fun d (c:Bool×List Bool)=> aL s.Messages (.br c.1 (.each true mg s.Messages bT (fun b e (a:Bool×List Bool)=> .ix b a.2.length (.ob (b.toNat < a.2.length) (.br (!a.2.getD b.toNat false) (.ix b s.Messages.length (.ob (s.Messages.length<=a.2.length) (.br (!uf s e a.2) (.ix b a.2.length (.ob (b.toNat < a.2.length) (rl (true,a.2.set b.toNat true)))) (rl a)))) (rl a)))) (fun b (a:Bool×List Bool)=> rl a) (false,c.2)) (.ret (.inr c.2)))) (fun d (c:Bool×List Bool)=> aL s.Messages (.ret c.2)) (true,List.replicate s.Messages.length false)))
def Fe (s:ax):=(c12fin s).val
theorem VS (s:ax)(h:s.Messages.length<=1048576):gU (c12fin s) (fun r=>r.length=s.Messages.length):=
 ah (aj) (bZ <| rO (fun(e:Int) b=>b.2.length=s.Messages.length) jQ aj aj (fun e b k i g=>have a:b.2.length=s.Messages.length:=g;bZ <| bH (fun _=>bC (fun(f:Nat) c=>c.2.length=s.Messages.length) aj aj (fun f c l d=>have a:c.2.length=s.Messages.length:=d;aH aj aj (ah (aj) (bH (fun _=>aH aj aj (ah (aj) (bH (fun _=>aH aj aj (ah (aj) (af dm))) (fun _=>af dm)))) (fun _=>af dm)))) (fun c a=>have a:c.2.length=s.Messages.length:=a;af dm)) (fun _=>af dm)) (fun e b _ j a=>have a:b.2.length=s.Messages.length:=a;bZ <| af aj))
def av7:bi Z:=E1 [Tn] [jS 4 (bD (fun b=>[s0 5, s0 4, .row (pid (b 3)) 4]) (aJ cI (aJ cBool (l1 cd_Lbool)))),jS 8 (bD (fun b=>[s0 6, s0 4, .row (pid (b 3)) 4]) (aJ cI (aJ cBool (l1 cd_Lbool))))] XI (R1 cd_Lbool) [] func129 1 c12fin (fun a=>a.Messages.length<=1048576) fun a h=>(VS a h).1
def c12res (l:List ny)(n:Int):Pg Bool:=.each true yc l tJ (fun a b (c:Unit)=> .ix a l.length (.br (decide (b.From<=n)) (.ix a l.length (.br (decide (n<=b.To)) (.ret (.inr true)) (rl ()))) (rl ()))) (fun a (c:Unit)=> .ret false) ()
def BJ (l:List ny)(n:Int):=(c12res l n).val
def afZ:bi Z:=E0 [] [jS 2 (bD (fun b=>Ap) iL)] (aCons (aLf cd_LSpan) hh5) hh2 [] func191 1 (u2 c12res)
def c12add (bad:Bool)(a:Int)(e:Int)(p:az):Pg az:=.br bad (.ob (bG (p.l.length+1) 32) (.ret (az.mk p.oZ (p.l++[dw.mk p.oZ a e])))) (.ret p)
def aK (bad:Bool)(a:Int)(e:Int)(p:az):=(c12add bad a e p).val
theorem aqp (bad:Bool)(a:Int)(e:Int)(p:az)(h:p.l.length<=68719476736):Is (c12add bad a e p):=
 is_br (fun _=>is_ob ((room_of aj aj)) (is_ret)) iR
def zW:bi Z:=vP Z [] [] (jG (aCons (aPtr 0) (aCons (aLf cBool) abf)) (bOwn 1 pI cd_ref12_list)) (uN (iK (yA 0) (iK (nK JI) (iK (nK (lT _)) (OH (nK (lT _)))))) (A_ (k:=1) um (fun _=>rfl)) rfl) avH [] func126 ntmps126 dM 0 rfl (fun a=>c12add (a.1.2.1) (a.1.2.2.1) (a.1.2.2.2) (a.2)) (fun a=>some ((a.2).l.length<=68719476736)) (fun a e _=>by kernel_rfl) (fun a=>aK (a.1.2.1) (a.1.2.2.1) (a.1.2.2.2) (a.2)) (fun a h=>⟨aqp (a.1.2.1) (a.1.2.2.1) (a.1.2.2.2) (a.2) h,rfl⟩)
theorem og {bad:Bool}{a e:Int}{p v:az}(h:v=aK bad a e p):v.l.length<=p.l.length+1:=by
 subst h;unfold aK c12add;cases bad
 ·exact Nat.le_succ _
 ·simp[Pg.val]
theorem aCv {bad b:Bool}{c e a d:Int}{p v:az}(h:v=aK bad c e (aK b a d p)):v.l.length<=p.l.length+2:=by
 have f:=og h;have g:=og (rfl:aK b a d p=_);omega
theorem YF (bad:Bool)(a e:Int)(p:az):(aK bad a e p).l.length<=p.l.length+1:=og rfl
def c12notes (l:List Note)(a:Int)(b:Int)(p:az):Pg az:=.ob (p.l.length<=68719476736) (.lt (Xg l a) fun c=> .ret (aK (c !=0) b c p))
def fV (l:List Note)(a:Int)(b:Int)(p:az):=(c12notes l a b p).val
theorem aea (l:List Note)(a:Int)(b:Int)(p:az)(h:p.l.length<=68719476736):Is (c12notes l a b p):=
 is_ob aj (is_lt fun d c=>is_ret)
def Ia:bi Z:=vP Z [zW,aqg] [] (jG (aCons (aPtr 0) (aCons (aLf cd_LNote) abf)) (bOwn 1 pI cd_ref12_list)) (uN (iK (yA 0) (iK (nK Ql) (iK (nK (lT _)) (OH (nK (lT _)))))) (A_ (k:=1) um (fun _=>rfl)) rfl) avH [] func196 ntmps196 dM 0 rfl (fun a=>c12notes (a.1.2.1) (a.1.2.2.1) (a.1.2.2.2) (a.2)) (fun a=>some ((a.2).l.length<=68719476736)) (fun a e _=>by kernel_rfl) (fun a=>fV (a.1.2.1) (a.1.2.2.1) (a.1.2.2.2) (a.2)) (fun a h=>⟨aea (a.1.2.1) (a.1.2.2.1) (a.1.2.2.2) (a.2) h,rfl⟩)
theorem arY {l:List Note}{a b:Int}{p v:az}(h:v=fV l a b p):v.l.length<=p.l.length+1:=by
 subst h;exact YF _ _ _ _
theorem aAx (l:List Note)(a b:Int)(p:az):(fV l a b p).l.length<=p.l.length+1:=arY rfl
def c12spans (l:List ny)(e:Int)(h:Int)(p:az):Pg az:=.each true mg l tJ (fun a c (b:az)=> .ix a l.length (.lt (aK (decide (c.From<=(l.getD (aQ .i64 (a - 1)).toNat tJ).To)) (-1) 11 (aK true (-1) 6 b)) fun j=> .lt (aK false (-1) 11 (aK true (-1) 6 b)) fun i=> .lt (aK true (-1) 6 b) fun d=> .lt (aQ .i64 (a - 1)) fun g=> .br (decide (c.From < e)) (.ob (b.l.length<=68719476736) (.br (decide (0 < a)) (.ix a l.length (.ix g l.length (.ob (d.l.length<=68719476736) (rl j)))) (.ob (d.l.length<=68719476736) (rl i)))) (.ix a l.length (.br (decide (h < c.To)) (.ob (b.l.length<=68719476736) (.br (decide (0 < a)) (.ix a l.length (.ix g l.length (.ob (d.l.length<=68719476736) (rl j)))) (.ob (d.l.length<=68719476736) (rl i)))) (.ix a l.length (.ix a l.length (.ob (b.l.length<=68719476736) (.lt (aK (decide (c.To < c.From)) (-1) 6 b) fun f=> .br (decide (0 < a)) (.ix a l.length (.ix g l.length (.ob (f.l.length<=68719476736) (rl (aK (decide (c.From<=(l.getD g.toNat tJ).To)) (-1) 11 f))))) (.ob (f.l.length<=68719476736) (rl (aK false (-1) 11 f))))))))))) (fun a (b:az)=> .ret b) p
def wO (l:List ny)(a:Int)(b:Int)(p:az):=(c12spans l a b p).val
theorem Je (l:List ny)(b:Int)(c:Int)(p:az)(h:p.l.length+2*l.length<=68719476736):gU (c12spans l b c p) (fun r=>r.l.length<=p.l.length+2*l.length):=
 bC (fun(e:Nat) a=>a.l.length<=p.l.length+2*e) aj aj (fun e a x k=>have d:a.l.length<=p.l.length+2*e:=k;aH aj aj (au fun w f=>have m:=aCv f;au fun v g=>have o:=aCv g;au fun t i=>have n:=og i;qo fun u s _=>aU (fun _=>ah (aj) (aU (fun _=>aH aj aj (aH aj aj (ah (aj) (af dm)))) (fun _=>ah (aj) (af dm)))) (fun _=>aH aj aj (aU (fun _=>ah (aj) (aU (fun _=>aH aj aj (aH aj aj (ah (aj) (af dm)))) (fun _=>ah (aj) (af dm)))) (fun _=>aH aj aj (aH aj aj (ah (aj) (au fun y j=>have q:=og j;aU (fun _=>aH aj aj (aH aj aj (ah (aj) (af VL)))) (fun _=>ah (aj) (af VL)))))))))) (fun a d=>have d:a.l.length<=p.l.length+2*l.length:=d;af aj)
def We:bi Z:=vP Z [zW] [jS 1 (bD (fun b=>[s0 8, .cells (pid (b 0)) pI]) abQ)] (jG aCl (bOwn 1 pI cd_ref12_list)) (uN (iK (yA 0) (iK (nK Qm) (iK (nK (lT _)) (OH (nK (lT _)))))) (A_ (k:=1) um (fun _=>rfl)) rfl) avH [] func197 ntmps197 dM 0 rfl (fun a=>c12spans (a.1.2.1) (a.1.2.2.1) (a.1.2.2.2) (a.2)) (fun a=>some ((a.2).l.length+2*(a.1.2.1).length<=68719476736)) (fun a e _=>by kernel_rfl) (fun a=>wO (a.1.2.1) (a.1.2.2.1) (a.1.2.2.2) (a.2)) (fun a h=>⟨(Je (a.1.2.1) (a.1.2.2.1) (a.1.2.2.2) (a.2) h).1,rfl⟩)
def c12card (f:aN):Pg Bool:=.br (f.Card !=5) (.br (decide (1<=f.Card)) (.br (decide (f.Card<=4)) (.ret (f.Key==0)) (.ret false)) (.ret false)) (.br (f.Key==1) (.br (f.Key==1) (.ret true) (.ret false)) (.br (f.Key==2) (.br (f.Key==2) (.ret true) (.ret false)) (.br (f.Key==3) (.br (f.Key==3) (.ret true) (.ret false)) (.br (f.Key==4) (.br (f.Key==4) (.ret true) (.ret false)) (.br (f.Key==5) (.br (f.Key==5) (.ret true) (.ret false)) (.br (f.Key==7) (.ret true) (.ret false)))))))
def DC (f:aN):=(c12card f).val
def aqj:bi Z:=E0 [] [] (a1 (aAgg cd_AField)) hh2 [] func192 1 c12card
def c12typ (s:ax)(f:aN):Pg Bool:=.br (f.bV.Kind==9) (.lt (dO (fun(m:eu)=>m.Name==f.bV.Name) s.Enums) fun a=> .ret (decide (0<=a))) (.br (f.bV.Kind==10) (.lt (dO (fun(m:aG)=>m.Name==f.bV.Name) s.Messages) fun b=> .br (decide (0<=b)) (.ret (f.Card !=3)) (.ret false)) (.br (decide (1<=f.bV.Kind)) (.br (decide (f.bV.Kind<=8)) (.ret (f.bV.Name==[])) (.ret false)) (.ret false)))
def LG (s:ax)(f:aN):=(c12typ s f).val
def aro:bi Z:=E0 [NP,YK] [] azr hh2 [] func193 1 (u2 c12typ)
def c12union (m:aG)(a:Int):Pg Bool:=.ix a m.Fields.length (.br ((m.Fields.getD a.toNat aB).Union==[]) (.ret true) (.br ((m.Fields.getD a.toNat aB).Card !=2) (.ret false) (.br (!rJ (m.Fields.getD a.toNat aB).Union) (.ret false) (.each true mg m.Fields aB (fun b d (c:Bool)=> .ix b m.Fields.length (.br (d.Name==(m.Fields.getD a.toNat aB).Union) (.ret (.inr false)) (.br (decide (b < a)) (.ix b m.Fields.length (.br (d.Union==(m.Fields.getD a.toNat aB).Union) (rl true) (rl c))) (rl c)))) (fun b (c:Bool)=> .br (!c) (.ret true) (.lt (aQ .i64 (a - 1)) fun e=> .ix e m.Fields.length (.ret ((m.Fields.getD e.toNat aB).Union==(m.Fields.getD a.toNat aB).Union)))) false))))
def AL (m:aG)(a:Int):=(c12union m a).val
theorem afm (m:aG)(a:Int)(h:0<=a/\a < m.Fields.length):Is (c12union m a):=
 by
 refine is_ix aj aj (is_br iR (fun _=>is_bne iR (fun _=>is_br iR (fun _=>zO (fun _ y=>y=true->0 < a) (fun h=>by cases h) (.inl rfl) (fun f d _ _ c=>⟨is_ix aj aj (is_br iR (fun _=>is_brd (fun _=>is_ix aj aj (is_br iR iR)) iR)),fun e b=> ?_⟩) (fun d _ c=>is_br iR (fun g=> ?_))))))
 ·revert b;simp only[di,aF,ay,Z8,Xh]
  grind
 grind [is_ix,is_ltw,is_ret]
def ai1:bi Z:=E1 [KZ] [jS 8 (bD (fun b=>[s0 7, s0 6]) QA)] asD hh2 [] func194 1 (u2 c12union) (fun a=>0<=a.2/\a.2 < a.1.Fields.length) fun a h=>afm a.1 a.2 h
def c12value (s:ax)(f:aN):Pg Bool:=.br (!f.dD) (.ret (Bh f.Default.re (ae.mk 0 0 [] [] [] [] []))) (.br (f.Card !=2) (.ret false) (.br (f.Union !=[]) (.ret false) (.br (!ut f.bV.Kind f.Default.re) (.ret false) (.br (!Bh f.Default.re (jU f.Default.re).re) (.ret false) (.br (f.bV.Kind !=9) (.ret true) (.lt (dO (fun(m:eu)=>m.Name==f.bV.Name) s.Enums) fun a=> .br (decide (a < 0)) (.ret false) (.EK [0<=a/\a < (↑s.Enums.length:Int)] true yc (s.Enums.getD a.toNat dR).Items gQ (fun b c (e:Unit)=> .ix a s.Enums.length (.ix b (s.Enums.getD a.toNat dR).Items.length (.lt (aQ .u64 c.Num) fun d=> .br (d==f.Default.Bits) (.ret (.inr true)) (rl ())))) (fun b (e:Unit)=> .ret false) ())))))))
def Ae (s:ax)(f:aN):=(c12value s f).val
theorem ae9 (s:ax)(f:aN):Is (c12value s f):=
 is_br iR (fun _=>is_bne iR (fun _=>is_br iR (fun _=>is_br iR (fun _=>is_br iR (fun _=>is_bne iR (fun _=>is_lt fun e b=>is_brd iR (fun _=>by
 have g:=(jy (fun(m:eu)=>m.Name==f.bV.Name) s.Enums).1;exact adF ⟨by omega,trivial⟩ (.inl rfl) (fun h a _ _=>is_ix aj aj (is_ix aj aj (is_lt fun d c=>is_beq iR iR))) (fun a _=>is_ret))))))))
def ahx:bi Z:=E0 [YK,asc,WJ,JS] [jS 12 (bD (fun b=>[s0 7]) iL)] azr hh2 [] func195 1 (u2 c12value) fun a=>ae9 a.1 a.2
def c12asc (l:List Str):Pg Bool:=.Ov [] (some (l.length<=9223372036854775807)) yc 1 (↑l.length:Int) (fun a (c:Unit)=> .ix a l.length (.lt (aQ .i64 (a - 1)) fun b=> .ix b l.length (.br (Op.bytesLess (l.getD a.toNat []) (l.getD b.toNat []) || l.getD a.toNat []==l.getD b.toNat []) (.ret (.inr false)) (rl ())))) (fun a (c:Unit)=> .ret true) ()
def QK (l:List Str):=(c12asc l).val
theorem apW (l:List Str):Is (c12asc l):=
 JB trivial aj (fun h=>by simp only[rq]at h;omega) (fun a b _ _ _=>is_ix aj aj (is_ltw fun d c _=>is_ix aj aj (is_br iR iR))) (fun a b _ _=>is_ret)
def asr:bi Z:=E0 [] [jS 2 (bD (fun b=>[s0 3]) iL)] aib hh2 [] func127 1 c12asc fun a=>apW a
def c12meet (a:List Str)(b:List Str):Pg Bool:=.each true yc a [] (fun c e (d:Unit)=> .ix c a.length (.br (IB b e) (.ret (.inr true)) (rl ()))) (fun c (d:Unit)=> .ret false) ()
def rQ (a:List Str)(b:List Str):=(c12meet a b).val
def anj:bi Z:=E0 [amJ] [jS 2 (bD (fun b=>Ap) iL)] (aCons (aLf cd_Lstr) aib) hh2 [] func128 1 (u2 c12meet)
def c12names (s:ax)(b:Int):Pg (List Str):=.cut (fun(f:List Str)=> .cut (fun(e:List Str)=> .wh (s.bK.length+1) default (fun(a:Int×List Str)=> .br (b==3) (aL s.bK (.br (decide (a.1 < (↑s.bK.length:Int))) (.ix a.1 s.bK.length (.ob (bG (a.2.length+1) 16) (rl (aQ .i64 (a.1+1),a.2++[(s.bK.getD a.1.toNat iC).Name])))) (.ret (.inr a.2)))) (.ret (.inr a.2))) (0,e)) (.wh (s.Enums.length+1) default (fun(d:Int×List Str)=> .br (b==2) (aL s.Enums (.br (decide (d.1 < (↑s.Enums.length:Int))) (.ix d.1 s.Enums.length (.ob (bG (d.2.length+1) 16) (rl (aQ .i64 (d.1+1),d.2++[(s.Enums.getD d.1.toNat dR).Name])))) (.ret (.inr (.inl d.2))))) (.ret (.inr (.inl d.2)))) (0,f))) (.wh (s.Messages.length+1) default (fun(c:Int×List Str)=> .br (b==1) (aL s.Messages (.br (decide (c.1 < (↑s.Messages.length:Int))) (.ix c.1 s.Messages.length (.ob (bG (c.2.length+1) 16) (rl (aQ .i64 (c.1+1),c.2++[(s.Messages.getD c.1.toNat bT).Name])))) (.ret (.inr (.inl c.2))))) (.ret (.inr (.inl c.2)))) (0,[]))
def jH (s:ax)(a:Int):=(c12names s a).val
theorem agA (s:ax)(a:Int)(h:okS s):Is (c12names s a):=
 by
 obtain⟨g,i,j,_⟩:=h;have w:∀x:Int,0<=x->x < 1000->aQ .i64 (x+1)=x+1:=fun x _ _=>bn (k:= .i64) kM
 refine gU.is (Q:=fun _=>True) (bg (fun e=>e.length<=150) ?_ (fun e b=>bg (fun d=>d.length<=300) ?_ (fun d c=> ?_)))
 ·refine kQ (fun x=>0<=x.1/\x.1<=s.Messages.length/\x.2.length<=x.1.toNat) (fun x=>s.Messages.length - x.1.toNat) ⟨N8 _,by omega,pJ _⟩ aj (fun x f=>bI (fun _=>bZ <| aU (fun _=>aH aj aj (ah (room_of aj aj) (af ?_))) (fun _=>af ?_)) (fun _=>af ?_))
  ·simp only[Sum.elim_inl,uX,Qb8];rw[w _ aj aj];omega
  ·show x.2.length<=150;omega
  ·show x.2.length<=150;omega
 ·have b:e.length<=150:=b;refine kQ (fun x=>0<=x.1/\x.1<=s.Enums.length/\x.2.length<=150+x.1.toNat) (fun x=>s.Enums.length - x.1.toNat) ⟨N8 _,by omega,by grind⟩ aj (fun x f=>bI (fun _=>bZ <| aU (fun _=>aH aj aj (ah (room_of aj aj) (af ?_))) (fun _=>af ?_)) (fun _=>af ?_))
  ·simp only[Sum.elim_inl,uX,Qb8];rw[w _ aj aj];omega
  ·show x.2.length<=300;omega
  ·show x.2.length<=300;omega
 ·have c:d.length<=300:=c;refine kQ (fun x=>0<=x.1/\x.1<=s.bK.length/\x.2.length<=300+x.1.toNat) (fun x=>s.bK.length - x.1.toNat) ⟨N8 _,by omega,by grind⟩ aj (fun x f=>bI (fun _=>bZ <| aU (fun _=>aH aj aj (ah (room_of aj aj) (af ?_))) (fun _=>af trivial)) (fun _=>af trivial))
  grind
def aia:bi Z:=E1 [] [jS 3 (bD (fun b=>[s0 6, .slot 5 false [some 9]]) ao6),jS 7 (bD (fun b=>[s0 7, .slot 5 false [some 9]]) ao6),jS 11 (bD (fun b=>[s0 8, .slot 5 false [some 9]]) ao6),jS 100006 (bD (fun b=>[.slot 5 false [some 9]]) (l1 cd_Lstr)),jS 100010 (bD (fun b=>[.slot 5 false [some 9]]) (l1 cd_Lstr))] (aCons (aAgg cd_Schema) hh5) (R1 cd_Lstr) [] func125 1 (u2 c12names) (fun a=>okS a.1) fun a h=>agA a.1 a.2 h
theorem awW {l:List ny}{a b:Int}{p v:az}(c:p.l.length+2*l.length<=68719476736)(h:v=wO l a b p):v.l.length<=p.l.length+2*l.length:=by
 subst h;exact(Je l a b p c).2
def c12svc (s:ax)(v:bz):Pg (List dw):=.ob (List.length v.Name<=9223372036854775807) (.ob (0<=68719476736) (.lt (aK (!zK v.Name) (-1) 8 (az.mk v.Name [])) fun i=> .ob (i.l.length<=68719476736) (.each true mg v.Methods dA (fun a b (d:az)=> .ix a v.Methods.length (.ob (d.l.length<=68719476736) (.cut (fun(f:az)=> .cut (fun(g:az)=> .cut (fun(h:az)=> .ob (h.l.length<=68719476736) (rl (fV b.Notes 6 a h))) (.br (decide (b.Shape < 1)) (.ob (g.l.length<=68719476736) (rl (aK true a 1 g))) (.ob (g.l.length<=68719476736) (rl (aK (decide (4 < b.Shape)) a 1 g))))) (.lt (dO (fun(m:aG)=>m.Name==b.In) s.Messages) fun k=> .br (decide (k < 0)) (.ob (f.l.length<=68719476736) (rl (aK true a 12 f))) (.ob (f.l.length<=68719476736) (.lt (dO (fun(m:aG)=>m.Name==b.Out) s.Messages) fun j=> rl (aK (decide (j < 0)) a 12 f))))) (.lt (aK (!rJ b.Name) a 8 d) fun c=> .br (decide (0 < a)) (.lt (aQ .i64 (a - 1)) fun e=> .ix e v.Methods.length (.ob (c.l.length<=68719476736) (rl (aK (Op.bytesLess b.Name (v.Methods.getD e.toNat dA).Name || b.Name==(v.Methods.getD e.toNat dA).Name) a 11 c)))) (.ob (c.l.length<=68719476736) (rl (aK false a 11 c))))))) (fun a (d:az)=> .ob (d.l.length<=68719476736) (.ret (fV v.Notes 5 (-1) d).l)) (aK (decide (64 < (↑v.Methods.length:Int))) (-1) 3 i))))
def acT (s:ax)(v:bz):=(c12svc s v).val
theorem Uy (s:ax)(v:bz)(h:okSv v):gU (c12svc s v) (fun r=>r.length<=16777216):=
 have u:v.Methods.length<=1048576:=h.1;have x:v.Name.length<=1048576:=h.2;ah (aj) (ah (aj) (au fun w k=>have q:=og k;ah (dm) (bC (fun(a:Nat) b=>b.l.length<=2+5*a) VL aj (fun a b z m=>have g:b.l.length<=2+5*a:=m;aH aj aj (ah (aj) (bg (fun j=>j.l.length<=2+5*a+2) (au fun p l=>have n:=og l;aU (fun _=>qo fun o B _=>aH aj aj (ah (aj) (af VL))) (fun _=>ah (aj) (af VL))) (fun j e=>have e:j.l.length<=2+5*a+2:=e;bg (fun i=>i.l.length<=2+5*a+3) (au fun C y=>aU (fun _=>ah (aj) (af VL)) (fun _=>ah (aj) (au fun A t=>af VL))) (fun i c=>have c:i.l.length<=2+5*a+3:=c;bg (fun f=>f.l.length<=2+5*a+4) (aU (fun _=>ah (aj) (af VL)) (fun _=>ah (aj) (af VL))) (fun f d=>have d:f.l.length<=2+5*a+4:=d;ah (aj) (af qaf))))))) (fun b g=>have g:b.l.length<=2+5*v.Methods.length:=g;ah (aj) (af qaf)))))
def asu:bi Z:=E1 [zW,IQ,KZ,Ia,NP] [jS 5 (bD (fun b=>[s0 6, .cells (pid (b 5)) pI]) abQ),jS 100010 (bD (fun b=>[.cells (pid (b 5)) pI]) hh7),jS 100011 (bD (fun b=>[.cells (pid (b 5)) pI]) hh7),jS 100012 (bD (fun b=>[.cells (pid (b 5)) pI]) hh7),jS 800001 (bD (fun b=>[.cells (pid (b 5)) pI]) hh7)] aBz agx [] func132 1 (u2 c12svc) (fun a=>okSv a.2) fun a h=>(Uy a.1 a.2 h).1
def c12enum (e:eu):Pg (List dw):=.cut (fun(j:az)=> .cut (fun(l:az)=> .cut (fun(F:az)=> .each true mg e.Items gQ (fun i a (b:az)=> .ix i e.Items.length (.cnt mg 0 i (fun E (h:Bool)=> .ix E e.Items.length (.br ((e.Items.getD E.toNat gQ).Name==a.Name) (rl true) (rl h))) (fun E (h:Bool)=> .lt (aQ .i64 (i - 1)) fun k=> .lt (BJ e.Reserved a.Num) fun f=> .lt (rJ a.Name) fun d=> .br (decide (a.Num < 0)) (.ob (b.l.length<=68719476736) (.lt (aK true a.Num 6 b) fun g=> .br (decide (0 < i)) (.ix k e.Items.length (.ob (g.l.length<=68719476736) (.lt (aK (decide (a.Num<=(e.Items.getD k.toNat gQ).Num)) a.Num 11 g) fun C=> .ob (C.l.length<=68719476736) (.lt (aK (!d) a.Num 8 C) fun n=> .ob (n.l.length<=68719476736) (.lt (aK h a.Num 9 n) fun w=> .ob (w.l.length<=68719476736) (.lt (aK f a.Num 21 w) fun x=> .ob (x.l.length<=68719476736) (rl (fV a.Notes 4 a.Num x)))))))) (.ob (g.l.length<=68719476736) (.lt (aK false a.Num 11 g) fun o=> .ob (o.l.length<=68719476736) (.lt (aK (!d) a.Num 8 o) fun s=> .ob (s.l.length<=68719476736) (.lt (aK h a.Num 9 s) fun y=> .ob (y.l.length<=68719476736) (.lt (aK f a.Num 21 y) fun u=> .ob (u.l.length<=68719476736) (rl (fV a.Notes 4 a.Num u))))))))) (.ob (b.l.length<=68719476736) (.lt (aK (decide (2147483647 < a.Num)) a.Num 6 b) fun c=> .br (decide (0 < i)) (.ix k e.Items.length (.ob (c.l.length<=68719476736) (.lt (aK (decide (a.Num<=(e.Items.getD k.toNat gQ).Num)) a.Num 11 c) fun v=> .ob (v.l.length<=68719476736) (.lt (aK (!d) a.Num 8 v) fun D=> .ob (D.l.length<=68719476736) (.lt (aK h a.Num 9 D) fun A=> .ob (A.l.length<=68719476736) (.lt (aK f a.Num 21 A) fun B=> .ob (B.l.length<=68719476736) (rl (fV a.Notes 4 a.Num B)))))))) (.ob (c.l.length<=68719476736) (.lt (aK false a.Num 11 c) fun p=> .ob (p.l.length<=68719476736) (.lt (aK (!d) a.Num 8 p) fun q=> .ob (q.l.length<=68719476736) (.lt (aK h a.Num 9 q) fun r=> .ob (r.l.length<=68719476736) (.lt (aK f a.Num 21 r) fun z=> .ob (z.l.length<=68719476736) (rl (fV a.Notes 4 a.Num z)))))))))) false)) (fun i (b:az)=> .ob (b.l.length+2*e.Reserved.length<=68719476736) (.lt (wO e.Reserved 0 2147483647 b) fun m=> .ob (m.l.length<=68719476736) (.ret (fV e.Notes 3 (-1) m).l))) F) (.br (decide (0 < (↑e.Items.length:Int))) (.ix 0 e.Items.length (.ob (l.l.length<=68719476736) (rl (aK ((e.Items.getD 0 gQ).Num !=0) (-1) 14 l)))) (.ob (l.l.length<=68719476736) (rl (aK false (-1) 14 l))))) (.lt (aK true (-1) 3 j) fun t=> .br (decide ((↑e.Items.length:Int) < 1)) (.ob (j.l.length<=68719476736) (rl t)) (.br (decide (64 < (↑e.Items.length:Int))) (.ob (j.l.length<=68719476736) (rl t)) (.ob (j.l.length<=68719476736) (rl (aK (decide (16 < (↑e.Reserved.length:Int))) (-1) 3 j)))))) (.ob (List.length e.Name<=9223372036854775807) (.ob (0<=68719476736) (rl (aK (!zK e.Name) (-1) 8 (az.mk e.Name [])))))
def WA (e:eu):=(c12enum e).val
theorem O6 (e:eu)(h:okE e):gU (c12enum e) (fun r=>r.length<=16777216):=
 have h1:e.Items.length<=1048576:=h.1;have h2:e.Reserved.length<=1048576:=h.2.1;have h3:e.Name.length<=1048576:=h.2.2;bg (fun o=>o.l.length<=1) (ah (aj) (ah (aj) (af VL))) (fun o f=>have f:o.l.length<=1:=f;bg (fun m=>m.l.length<=2) (au fun P j=>have a7:=og j;aU (fun _=>ah (aj) (af dm)) (fun _=>aU (fun _=>ah (aj) (af dm)) (fun _=>ah (aj) (af VL)))) (fun m c=>have c:m.l.length<=2:=c;bg (fun k=>k.l.length<=3) (aU (fun _=>aH aj aj (ah (aj) (af VL))) (fun _=>ah (aj) (af VL))) (fun k d=>have d:k.l.length<=3:=d;bC (fun(n:Nat) b=>b.l.length<=3+6*n) aj aj (fun n b Hl s=>have a:b.l.length<=3+6*n:=s;aH aj aj (rO (fun(t:Int) B=>True) (by trivial) aj aj (fun t B aD bb E=>have a:True:=E;aH aj aj (bH (fun _=>af dm) (fun _=>af dm))) (fun t B _ ad a=>have a:True:=a;qo fun v9 aM _=>au fun T Ox=>au fun Y X6=>aU (fun _=>ah (aj) (au fun U z=>have an:=og z;aU (fun _=>aH aj aj (ah (aj) (au fun a4 v=>have a9:=og v;ah (aj) (au fun W A=>have a8:=og A;ah (aj) (au fun aR x=>have a6:=og x;ah (aj) (au fun ba w=>have ap:=og w;ah (aj) (af qaf))))))) (fun _=>ah (aj) (au fun M G=>have K:=og G;ah (aj) (au fun Z I=>have ab:=og I;ah (aj) (au fun ag F=>have V:=og F;ah (aj) (au fun S u=>have L:=og u;ah (aj) (af qaf)))))))) (fun _=>ah (aj) (au fun aq H=>have R:=og H;aU (fun _=>aH aj aj (ah (aj) (au fun ac J=>have ao:=og J;ah (aj) (au fun bc D=>have aA:=og D;ah (aj) (au fun am l=>have aw:=og l;ah (aj) (au fun a3 i=>have ar:=og i;ah (aj) (af qaf))))))) (fun _=>ah (aj) (au fun N C=>have Q:=og C;ah (aj) (au fun av p=>have a2:=og p;ah (aj) (au fun O q=>have X:=og q;ah (aj) (au fun al g=>have aa:=og g;ah (aj) (af qaf))))))))))) (fun b a=>have a:b.l.length<=3+6*e.Items.length:=a;ah (aj) (au fun a5 y=>have aE:=awW aj y;ah (aj) (af qaf))))))
def aoC:bi Z:=E1 [zW,IQ,KZ,afZ,Ia,We] [jS 6 (bD (fun b=>[s0 4, .cells (pid (b 3)) pI]) abQ),jS 11 (bD (fun b=>[s0 7, s0 6]) QA),jS 100003 (bD (fun b=>[.cells (pid (b 3)) pI]) hh7),jS 100004 (bD (fun b=>[.cells (pid (b 3)) pI]) hh7),jS 100005 (bD (fun b=>[.cells (pid (b 3)) pI]) hh7),jS 800001 (bD (fun b=>[.cells (pid (b 3)) pI]) hh7)] (a1 (aAgg cd_Enum)) agx [] func131 1 c12enum (fun a=>okE a) fun a h=>(O6 a h).1
def c12msg (s:ax)(m:aG)(j:List Bool):Pg (List dw):=.cut (fun(f:az)=> .cut (fun(z:az)=> .cut (fun(n:az)=> .ob (n.l.length+2*m.Reserved.length<=68719476736) (.each true mg m.Gone [] (fun o l (b:az)=> .ix o m.Gone.length (.ob (List.length l<=9223372036854775700) (.ob (b.l.length<=68719476736) (rl (aK (!FX l) (-1) 7 b))))) (fun o (b:az)=> .ob (b.l.length<=68719476736) (.ob (s.Messages.length<=j.length) (.lt (fV m.Notes 1 (-1) b) fun q=> .ob (q.l.length<=68719476736) (.ret (aK (uf s m j) (-1) 19 q).l)))) (wO m.Reserved 1 65535 n))) (.each true mg m.Fields aB (fun c a (e:az)=> .ix c m.Fields.length (.cnt mg 0 c (fun v (w:Bool)=> .ix v m.Fields.length (.br ((m.Fields.getD v.toNat aB).Name==a.Name) (rl true) (rl w))) (fun v (w:Bool)=> .cut (fun(g:az)=> .cut (fun(x:az)=> .ob (x.l.length<=68719476736) (.lt (aK (!rJ a.Name) a.Num 8 x) fun r=> .ob (r.l.length<=68719476736) (.cut (fun(y:az)=> .ob (y.l.length<=68719476736) (.lt (aK (!DC (aN.mk a.Num a.Name a.Card a.Key a.bV a.Union a.dD a.Default.re a.Notes)) a.Num 1 y) fun h=> .ob (h.l.length<=68719476736) (.ix c m.Fields.length (.lt (aK (!LG s (aN.mk a.Num a.Name a.Card a.Key a.bV a.Union a.dD a.Default.re a.Notes)) a.Num 12 h) fun i=> .ob (i.l.length<=68719476736) (.lt (aK (!AL m c) a.Num 15 i) fun t=> .ob (t.l.length<=68719476736) (.lt (aK (!Ae s (aN.mk a.Num a.Name a.Card a.Key a.bV a.Union a.dD a.Default.re a.Notes)) a.Num 1 t) fun k=> .ob (k.l.length<=68719476736) (rl (fV a.Notes 2 a.Num k)))))))) (.lt (aK w a.Num 9 r) fun d=> .br (BJ m.Reserved a.Num) (.ob (d.l.length<=68719476736) (rl (aK true a.Num 21 d))) (.ob (d.l.length<=68719476736) (rl (aK (IB m.Gone a.Name) a.Num 21 d))))))) (.br (decide (0 < c)) (.lt (aQ .i64 (c - 1)) fun p=> .ix p m.Fields.length (.ob (g.l.length<=68719476736) (rl (aK (decide (a.Num<=(m.Fields.getD p.toNat aB).Num)) a.Num 11 g)))) (.ob (g.l.length<=68719476736) (rl (aK false a.Num 11 g))))) (.br (decide (a.Num < 1)) (.ob (e.l.length<=68719476736) (rl (aK true a.Num 6 e))) (.ob (e.l.length<=68719476736) (rl (aK (decide (65535 < a.Num)) a.Num 6 e))))) false)) (fun c (e:az)=> rl e) z)) (.lt (aK true (-1) 3 f) fun u=> .br (decide (64 < (↑m.Fields.length:Int))) (.ob (f.l.length<=68719476736) (rl u)) (.br (decide (16 < (↑m.Reserved.length:Int))) (.ob (f.l.length<=68719476736) (rl u)) (.ob (f.l.length<=68719476736) (rl (aK (decide (16 < (↑m.Gone.length:Int))) (-1) 3 f)))))) (.ob (List.length m.Name<=9223372036854775807) (.ob (0<=68719476736) (rl (aK (!zK m.Name) (-1) 8 (az.mk m.Name [])))))
def aaM (s:ax)(m:aG)(a:List Bool):=(c12msg s m a).val
theorem VE (s:ax)(m:aG)(l:List Bool)(h:okM m/\s.Messages.length<=l.length):gU (c12msg s m l) (fun r=>r.length<=16777216):=
 have h1:m.Fields.length<=1048576:=h.1.1;have h2:m.Reserved.length<=1048576:=h.1.2.1;have h3:m.Gone.length<=1048576:=h.1.2.2.1;have h4:m.Name.length<=1048576:=h.1.2.2.2.1;bg (fun q=>q.l.length<=1) (ah (aj) (ah (aj) (af VL))) (fun q o=>have o:q.l.length<=1:=o;bg (fun v=>v.l.length<=2) (au fun R E=>have S:=og E;aU (fun _=>ah (aj) (af dm)) (fun _=>aU (fun _=>ah (aj) (af dm)) (fun _=>ah (aj) (af VL)))) (fun v p=>have p:v.l.length<=2:=p;bg (fun f=>f.l.length<=10485762) (bC (fun(b:Nat) e=>e.l.length<=2+10*b) aj aj (fun b e U B=>have a:e.l.length<=2+10*b:=B;aH aj aj (rO (fun(A:Int) F=>True) (by trivial) aj aj (fun A F ac W x=>have a:True:=x;aH aj aj (bH (fun _=>af dm) (fun _=>af dm))) (fun A F _ Z a=>have a:True:=a;bg (fun u=>u.l.length<=2+10*b+1) (aU (fun _=>ah (aj) (af VL)) (fun _=>ah (aj) (af VL))) (fun u i=>have i:u.l.length<=2+10*b+1:=i;bg (fun t=>t.l.length<=2+10*b+2) (aU (fun _=>qo fun Y X9 _=>aH aj aj (ah (aj) (af VL))) (fun _=>ah (aj) (af VL))) (fun t n=>have n:t.l.length<=2+10*b+2:=n;ah (aj) (au fun aa y=>have al:=og y;ah (aj) (bg (fun w=>w.l.length<=2+10*b+5) (au fun N H=>have T:=og H;bH (fun _=>ah (aj) (af VL)) (fun _=>ah (aj) (af VL))) (fun w j=>have j:w.l.length<=2+10*b+5:=j;ah (aj) (au fun O J=>have L:=og J;ah (aj) (aH aj aj (au fun Q K=>have X:=og K;ah (aj) (au fun ab I=>have ad:=og I;ah (aj) (au fun V z=>have M:=og z;ah (aj) (af qaf)))))))))))))) (fun e a=>have a:e.l.length<=2+10*m.Fields.length:=a;af dm)) (fun f k=>have k:f.l.length<=10485762:=k;ah (aj) (bC (fun(g:Nat) c=>c.l.length<=12582914+1*g) (by first | omega | exact Du (YF _ _ _ _) qbl | exact Du (awW aj rfl) aj) aj (fun g c C G=>have a:c.l.length<=12582914+1*g:=G;aH aj aj (ah ((by first | omega | (simp only[Qa7]at*;omega) | (have:=h.1.2.2.2.2 _ (getD_mem (d:=[]) C);omega))) (ah (aj) (af VL)))) (fun c a=>have a:c.l.length<=12582914+1*m.Gone.length:=a;ah (aj) (ah (aj) (au fun ag D=>have P:=arY D;ah (aj) (af VL))))))))
def avF:bi Z:=E1 [D8,zW,amJ,Tn,IQ,KZ,afZ,aqj,aro,ai1,ahx,Ia,We] [jS 5 (bD (fun b=>[s0 8, .cells (pid (b 7)) pI]) abQ),jS 10 (bD (fun b=>[s0 11, s0 10]) QA),jS 26 (bD (fun b=>[s0 12, .cells (pid (b 7)) pI]) abQ),jS 100003 (bD (fun b=>[.cells (pid (b 7)) pI]) hh7),jS 100004 (bD (fun b=>[.cells (pid (b 7)) pI]) hh7),jS 100015 (bD (fun b=>[.cells (pid (b 7)) pI]) hh7),jS 100016 (bD (fun b=>[.cells (pid (b 7)) pI]) hh7),jS 100019 (bD (fun b=>[.cells (pid (b 7)) pI]) hh7),jS 100024 (bD (fun b=>[.cells (pid (b 7)) pI]) hh7),jS 800001 (bD (fun b=>[.cells (pid (b 7)) pI]) hh7)] aGJ agx [] func130 1 (u3 c12msg) (fun a=>okM a.2.1/\a.1.Messages.length<=a.2.2.length) fun a h=>(VE a.1 a.2.1 a.2.2 h).1
def c12all (s:ax):Pg (List dw):=.cut (fun(d:az)=> .ob (okS s) (.ob (okS s) (.ob (okS s) (.cut (fun(w:az)=> .ob (s.Messages.length<=1048576) (.cut (fun(x:az)=> .cut (fun(v:az)=> .each true mg s.bK iC (fun l h (c:az)=> .ix l s.bK.length (.ob (okSv h) (.lt (acT s h) fun g=> .ob (bG (c.l.length+g.length) 32) (rl (az.mk c.oZ (c.l++g)))))) (fun l (c:az)=> .ret c.l) v) (.each true mg s.Enums dR (fun q j (a:az)=> .ix q s.Enums.length (.ob (okE j) (.lt (WA j) fun i=> .ob (bG (a.l.length+i.length) 32) (rl (az.mk a.oZ (a.l++i)))))) (fun q (a:az)=> rl a) x)) (.each true mg s.Messages bT (fun t u (e:az)=> .ix t s.Messages.length (.lt (Fe s) fun n=> .ob (okM u/\s.Messages.length<=n.length) (.lt (aaM s u n) fun k=> .ob (bG (e.l.length+k.length) 32) (rl (az.mk e.oZ (e.l++k)))))) (fun t (e:az)=> rl e) w))) (.lt (aK true (-1) 9 d) fun f=> .lt (jH s 1) fun m=> .lt (jH s 2) fun r=> .br (rQ m r) (.ob (d.l.length<=68719476736) (rl f)) (.lt (jH s 3) fun o=> .br (rQ m o) (.ob (d.l.length<=68719476736) (rl f)) (.ob (d.l.length<=68719476736) (rl (aK (rQ r o) (-1) 9 d))))))))) (.wh (5) default (fun(b:Int×az)=> .br (decide (b.1<=3)) (.ob (okS s) (.ob (b.2.l.length<=68719476736) (.lt (aK (decide (64 < (↑(jH s b.1).length:Int))) (-1) 3 b.2) fun p=> .ob (p.l.length<=68719476736) (rl (aQ .i64 (b.1+1),aK (!QK (jH s b.1)) (-1) 11 p))))) (.ret (.inr (.inl b.2)))) (1,az.mk [] []))
def abV (s:ax):=(c12all s).val
theorem aod (s:ax)(h:okS s):Is (c12all s):=
 by
 have f:=h;obtain⟨V,Y,Z,K,J,N⟩:=h;refine gU.is (Q:=fun _=>True) (bg (fun r=>r.l.length<=10) ?_ (fun r g=>ah f (ah f (ah f (bg (fun p=>p.l.length<=11) ?_ (fun p n=>ah aj (bg (fun u=>u.l.length<=2600000000) ?_ (fun u l=>bg (fun e=>e.l.length<=5200000000) ?_ (fun e j=> ?_)))))))))
 ·refine kQ (fun x=>1<=x.1/\x.1<=4/\x.2.l.length+2<=2*x.1.toNat) (fun x=>4 - x.1.toNat) ⟨N8 _,by decide,pJ _⟩ dH (fun x X=>aU (fun q=>ah f (ah aj (au fun F t=>have k:=og t;ah aj (af ?_)))) (fun _=>af ?_))
  ·have k2:=YF (!QK (jH s x.1)) (-1) 11 F;have w:aQ .i64 (x.1+1)=x.1+1:=bn (k:= .i64) kM
   grind
  grind
 ·have g:r.l.length<=10:=g;refine au fun i H=>have k:=og H;au fun P X9=>au fun T R=>bH (fun _=>ah aj (af ?_)) (fun _=>au fun S O=>bH (fun _=>ah aj (af ?_)) (fun _=>ah aj (af ?_)))
  ·show i.l.length<=11;omega
  ·show i.l.length<=11;omega
  ·exact Du (YF _ _ _ _) aj
 ·have n:p.l.length<=11:=n;have W:(Fe s).length=s.Messages.length:=(VS s aj).2;refine bC (fun k y=>y.l.length<=11+16777216*k) aj aj (fun I D b a=>aH aj aj (au fun o U=> ?_)) (fun D a=>af dm);have a:D.l.length<=11+16777216*I:=a;have c:=K _ (getD_mem (d:=bT) b);have q:s.Messages.length<=o.length:=by grind
  refine ah ⟨c,q⟩ (au fun C z=> ?_);have k:C.length<=16777216:=by rw[z];exact(VE s _ o ⟨c,q⟩).2
  grind [ah,af,room_of]
 ·have l:u.l.length<=2600000000:=l;refine bC (fun k y=>y.l.length<=2600000000+16777216*k) aj aj (fun G m b a=>aH aj aj ?_) (fun m a=>af dm);have a:m.l.length<=2600000000+16777216*G:=a;have c:=J _ (getD_mem (d:=dR) b);refine ah c (au fun A M=> ?_);have k:A.length<=16777216:=by rw[M];exact(O6 _ c).2
  grind [ah,af,room_of]
 ·have j:e.l.length<=5200000000:=j;refine bC (fun k y=>y.l.length<=5200000000+16777216*k) aj aj (fun E B b a=>aH aj aj ?_) (fun B a=>af trivial);have a:B.l.length<=5200000000+16777216*E:=a;have c:=N _ (getD_mem (d:=iC) b);refine ah c (au fun v L=> ?_);have k:v.length<=16777216:=by rw[L];exact(Uy s _ c).2
  grind [ah,af,room_of]
def atc:bi Z:=E1 [aia,zW,asr,anj,av7,avF,aoC,asu] [jS 3 (bD (fun b=>[s0 4, .cells (pid (b 3)) pI]) abQ),jS 14 (bD (fun b=>[s0 10, .cells (pid (b 3)) pI]) abQ),jS 18 (bD (fun b=>[s0 11, .cells (pid (b 3)) pI]) abQ),jS 22 (bD (fun b=>[s0 12, .cells (pid (b 3)) pI]) abQ),jS 100008 (bD (fun b=>[.cells (pid (b 3)) pI]) hh7),jS 100012 (bD (fun b=>[.cells (pid (b 3)) pI]) hh7),jS 100017 (bD (fun b=>[.cells (pid (b 3)) pI]) hh7),jS 100021 (bD (fun b=>[.cells (pid (b 3)) pI]) hh7),jS 800001 (bD (fun b=>[.cells (pid (b 3)) pI]) hh7)] XI agx [] func77 1 c12all (fun a=>okS a) fun a h=>aod a h
def c12valid (s:ax):Pg Bool:=.ob (okS s) (.ret ((↑(abV s).length:Int)==0))
def oO (s:ax):=(c12valid s).val
def WR:bi Z:=E1 [atc] [] XI hh2 [] func38 1 c12valid fun a=>okS a
theorem AB {A B:Type}(c:Bool)(a b:A):(bif c then(Sum.inl a:A⊕B)else .inl b)= .inl (bif c then a else b):=by cases c<;>rfl
theorem aFE (a:Bool)(e:Int)(x:ak):dY a e x=bif a then x else⟨x.oZ,x.num,x.out++[⟨x.oZ,x.num,e⟩]⟩:=by cases a<;>rfl
theorem aDx (bad:Bool)(n e:Int)(p:az):aK bad n e p=bif bad then⟨p.oZ,p.l++[⟨p.oZ,n,e⟩]⟩else p:=by rfl
theorem z_ (c a b:Bool)(e:Int)(x:ak):(bif c then dY a e x else dY b e x)=dY (bif c then a else b) e x:=by cases c<;>rfl
theorem wQ (c a:Bool)(e:Int)(x y:ak):(bif c then dY a e x else dY a e y)=dY a e (bif c then x else y):=by cases c<;>rfl
theorem DZ (c a b:Bool)(n e:Int)(x:az):(bif c then aK a n e x else aK b n e x)=aK (bif c then a else b) n e x:=by cases c<;>rfl
theorem zN (c a:Bool)(n e:Int)(x y:az):(bif c then aK a n e x else aK a n e y)=aK a n e (bif c then x else y):=by cases c<;>rfl
def nJ (n:Int)(x:ak)(p:az):Prop:=x.oZ=p.oZ/\x.num=n/\x.out=p.l
theorem dF {n:Int}{x:ak}{p:az}{b bad:Bool}{e:Int}(h:nJ n x p)(d:b= !bad):nJ n (dY b e x) (aK bad n e p):=by
 obtain⟨a,c,f⟩:=h;rw[aFE,aDx,d];cases bad with
 | false=>exact⟨a,c,f⟩
 | true=>exact⟨a,c,by grind⟩
theorem Gh {n:Int}{x:ak}{p:az}(h:nJ n x p)(m:Int):nJ m ⟨x.oZ,m,x.out⟩ p:=⟨h.1,rfl,h.2.2⟩
theorem wW {n:Int}{x:ak}{p:az}(h:nJ n x p)(l:List Note)(b:UB l)(t:Int)(a:t=1\/t=2\/t=3\/t=4\/t=5\/t=6):nJ n (jR l t x) (fV l t n p):=by
 unfold jR amq fV c12notes;simp only[aV,aT,ay,arl l b t a]
 grind [dF]
theorem KG {p q:Prop}[Decidable p][Decidable q](h:p ↔ ¬q):decide p= !decide q:=by
 grind
theorem YP (l:List ny)(a b:Int){x:ak}{p:az}(h:nJ (-1) x p):nJ (-1) (IC l a b x) (wO l a b p):=by
 unfold IC spans wO c12spans;simp only[dW,dN,di,aT,aF,aV,ay];refine qf (d:=tJ) (d':=tJ) (fun _=>nJ (-1)) (nJ (-1)) l l 0 x p rfl h (fun j y z i c=> ?_) (fun y z c=>c);simp only[Bc,AB,z_,DZ,wQ,zN];generalize l.getD j tJ=s;show nJ (-1) _ _
 by_cases f:a<=s.From
 ·by_cases g:s.To<=b
  ·simp only[wz f,wz g,pO (show ¬s.From < a by omega),pO (show ¬b < s.To by omega),cond_true,lL];refine dF (dF c (KG aj)) ?_;by_cases e:j=0
   ·subst e;rfl
   ·rw[show((j:Int)==0)=false from beq_eq_false_iff_ne.2 aj,wz (show(0:Int) < (j:Int) by omega)]
    grind
  ·simp only[wz f,pO g,pO (show ¬s.From < a by omega),wz (show b < s.To by omega),cond_true,lL];refine dF (dF c rfl) ?_;by_cases e:j=0
   ·subst e;rfl
   ·rw[show((j:Int)==0)=false from beq_eq_false_iff_ne.2 aj,wz (show(0:Int) < (j:Int) by omega)]
    grind
 ·simp only[pO f,wz (show s.From < a by omega),cond_true,lL];refine dF (dF c rfl) ?_;by_cases e:j=0
  ·subst e;rfl
  ·rw[show((j:Int)==0)=false from beq_eq_false_iff_ne.2 aj,wz (show(0:Int) < (j:Int) by omega)]
   grind
theorem aHk (c d:UInt8):((c.toNat:Int)==(d.toNat:Int))=(c==d):=by
 apply Qc9.2;simp only[Qbw];constructor
 ·intro h;exact Qb5.1 aj
 grind
theorem amX (s:Str):EU s=Fb s:=by
 unfold EU isWord Fb r6word;simp only[dn,aF,ay];cases s==[109,101,115,115,97,103,101]
 rotate_left;· rfl
 cases s==[101,110,117,109]
 rotate_left;· rfl
 cases s==[115,101,114,118,105,99,101]
 rotate_left;· rfl
 cases s==[117,110,105,111,110]
 rotate_left;· rfl
 cases s==[109,97,112]
 rotate_left;· rfl
 cases s==[108,105,115,116]
 rotate_left;· rfl
 cases s==[114,101,113,117,105,114,101,100]
 rotate_left;· rfl
 cases s==[111,112,116,105,111,110,97,108]
 rotate_left;· rfl
 cases s==[112,108,97,105,110]
 rotate_left;· rfl
 cases s==[100,101,102,97,117,108,116]
 rotate_left;· rfl
 cases s==[114,101,115,101,114,118,101,100]
 rotate_left;· rfl
 cases s==[105,109,112,111,114,116]
 rotate_left;· rfl
 cases s==[115,112,97,99,101]
 rotate_left;· rfl
 cases s==[114,112,99]
 rotate_left;· rfl
 cases s==[115,116,114,101,97,109]
 rotate_left;· rfl
 cases s==[114,101,116,117,114,110,115]
 rotate_left;· rfl
 cases s==[111,112,101,110]
 rotate_left;· rfl
 cases s==[116,114,117,101]
 rotate_left;· rfl
 cases s==[102,97,108,115,101]
 rotate_left;· rfl
 cases s==[110,97,110]
 rotate_left;· rfl
 cases s==[105,110,102]<;>rfl
theorem Si (s:Str):D6 s=rJ s:=by
 unfold D6 auT rJ r9part;simp only[aF,ay,Ee,zV,amX]
theorem apI (y:Str)(h:y.length<=4294967296):alB 46 y (zZ y):=by
 unfold zZ r6split;simp only[aT,qx,aF,di,aV,ay];have w0:aQ .i64 ((y.length:Int) - 1)=(y.length:Int) - 1:=bn (k:= .i64) kM;rw[w0];refine axS (fun x a f=> ?_) _ _ aj;by_cases d:0<=x
 ·have e:(((y.getD x.toNat 0).toNat:Int)==46)=(y.getD x.toNat 0==46):=aHk _ 46;have b:aQ .i64 (x+1)=x+1:=bn (k:= .i64) kM;have c:aQ .i64 (x - 1)=x - 1:=bn (k:= .i64) kM
  grind
 grind
theorem NQ (s:Str):Ve s=zK s:=by
 unfold Ve arJ zK r9usable;simp only[aV,aF,lQ,aT,ay,VU,amX];cases d:yX s with
 | false=>rfl
 | true=>
  have b:s.length<=120:=by
   grind [ZC]
  have a:Fb []=false:=rfl;simp only[Qbv,lL,cond_true];refine Eq.symm (DJ (c:=46) (isW:=Fb) (sp:=zZ) a (fun y e=>apI y aj) ?_ 120 0 s b (pJ _))
  grind
theorem wI {A:Type}{b:Nat->A->Unit->Unit⊕Bool}{f:Nat->Unit->Bool}{p:A->Bool}(d:∀k a,b k a ()=bif p a then .inr true else .inl ())(c:∀k,f k ()=false):∀(l:List A) (k:Nat),iH b f l k ()=l.any p
 | [],k=>c k
 | a::l,k=>by
  unfold iH;rw[d,Qda];cases p a with
  | true=>rfl
  | false=>exact wI d c l (k+1)
theorem WS {A R:Type}{d:A}{l:List A}{p:A->Bool}{b:Int->Bool->Bool⊕R}{f:Int->Bool->R}(a:∀k y,b k y= .inl (bif p (l.getD k.toNat d)then true else y)):∀(n i:Nat) (y:Bool),i+n<=l.length->lu b f n (i:Int) y=f ((i+n:Nat):Int) (y || ((l.drop i).take n).any p)
 | 0,i,y,_=>by simp[lu]
 | n+1,i,y,h=>by
  unfold lu;rw[a];have e:((i:Nat):Int)+1=((i+1:Nat):Int):=by omega
  dsimp only;rw[e,WS a n (i+1) _ aj,show i+1+n=i+(n+1) by omega];congr 1;have c:l.drop i=l.getD i d::l.drop (i+1):=by
   rw[Qbq (show i < l.length by omega)]
   grind
  rw[c,Qck,Qda,qA]
  grind
theorem awi (l:List ny)(n:Int):xG l n=BJ l n:=by
 unfold xG NS BJ c12res;simp only[dN,di,aF,ay];symm;refine wI (fun k a=> ?_) (fun k=>rfl) l 0;unfold al1 aDn;simp only[aF,ay]
 grind
theorem has_eq (l:List Str)(v:Str):(l.any fun(x:Str)=>v==x)=IB l v:=by
 unfold IB r6has;simp only[dN,di,aF,ay];symm;refine wI (fun k a=> ?_) (fun k=>rfl) l 0
 grind
theorem xQ (s:ax)(n:Str):(iD s n).2=decide (0<=dO (fun(m:aG)=>m.Name==n) s.Messages):=by
 grind [yU]
theorem aeB (s:ax)(a:Str):abW s a=bif decide (dO (fun(x:eu)=>x.Name==a) s.Enums < 0)then(eu.mk [] false [] [] [],false)else(s.Enums.getD (dO (fun(x:eu)=>x.Name==a) s.Enums).toNat dR,true):=by
 rfl
theorem aAY (s:ax)(n:Str):(abW s n).2=decide (0<=dO (fun(m:eu)=>m.Name==n) s.Enums):=by
 grind [aeB]
theorem aAe (f:aN):(bif decide (1<=f.Card)then bif decide (f.Card<=5)then BZ f.Card f.Key else false else false)=DC f:=by
 unfold BZ abS DC c12card;simp only[aF,ay]
 grind
theorem av9 (s:ax)(f:aN):F6 s f=LG s f:=by
 unfold F6 acK LG c12typ;simp only[aT,aF,ay,xQ,aAY]
 grind
theorem azi (v:ae)(h:vN v):ahk v=Bh v (ae.mk 0 0 [] [] [] [] []):=by
 obtain⟨_,_,_,b,d,e,c⟩:=h;have a:∀x:Int,0<=x->x<=16777216->aQ .i64 x=x:=fun x _ _=>bn (k:= .i64) kM
 unfold ahk avI Bh r9same;simp only[dW,aF,ay];have l0:((ae.mk 0 0 [] [] [] [] []).List.length:Int)=0/\((ae.mk 0 0 [] [] [] [] []).Pairs.length:Int)=0/\((ae.mk 0 0 [] [] [] [] []).Slots.length:Int)=0/\((ae.mk 0 0 [] [] [] [] []).Raws.length:Int)=0:=⟨rfl,rfl,rfl,rfl⟩;rw[l0.1,l0.2.1,l0.2.2.1,l0.2.2.2];rw[a ((v.List.length:Int)+v.Pairs.length) aj aj];rw[a ((v.List.length:Int)+v.Pairs.length+v.Slots.length) aj aj];rw[a ((v.List.length:Int)+v.Pairs.length+v.Slots.length+v.Raws.length) aj aj];simp only[Int.add_zero];rw[a ((v.List.length:Int)+v.Pairs.length+v.Slots.length+v.Raws.length) aj aj];simp only[a ((v.List.length:Int)+v.Pairs.length+v.Slots.length+v.Raws.length) aj aj];rfl
theorem ai4 (v:ae):(jU v).Kind=v.Kind/\(jU v).Text=v.Text/\(jU v).List=v.List/\(jU v).Pairs=v.Pairs/\(jU v).Slots=v.Slots/\(jU v).Raws=v.Raws:=by
 unfold jU r4norm;simp only[aF,ay,ae.bJ];cases v.Kind==6<;>cases Aw v.Bits==0<;>exact⟨rfl,rfl,rfl,rfl,rfl,rfl⟩
theorem an0 (k:Int)(v:ae)(h:ut k v=true):vY v=true:=by
 unfold ut r4fits at h;simp_all
theorem ag_ (s:ax)(f:aN)(h:vN f.Default):EF s f=Ae s f:=by
 unfold EF IU Ae c12value;simp only[aT,aF,ay,di,Yy,ae.bJ,TT _ _ h,Q9 _ h,azi _ h];cases f.dD with
 | false=>rfl
 | true=>
  cases f.Card !=2 with
  | true=>rfl
  | false=>
   cases f.Union !=[]with
   | true=>rfl
   | false=>
    cases d:ut f.bV.Kind f.Default with
    | false=>rfl
    | true=>
     obtain⟨l,g,j,m,i,n⟩:=ai4 f.Default;have c:Bh f.Default (jU f.Default)=((jU f.Default).Bits==f.Default.Bits):=by
      grind [an0,aHX]
     rw[c];simp only[Qbv,lL,bne];cases(jU f.Default).Bits==f.Default.Bits with
     | false=>rfl
     | true=>
      cases e:f.bV.Kind==9 with
      | false=>rfl
      | true=>
       simp only[Qbv,lL];rw[aeB];by_cases b:dO (fun(x:eu)=>x.Name==f.bV.Name) s.Enums < 0
       ·grind
       ·rw[pO b];simp only[lL,cond_true];symm;refine wI (fun k a=> ?_) (fun k=>rfl) _ 0;rfl
theorem aps (m:aG)(i:Int)(h:0<=i)(l:i < m.Fields.length):VO m i=AL m i:=by
 unfold VO cUnited AL c12union;simp only[aT,aF,ay,di,aV,dN,ae.bJ,Si];obtain⟨n,rfl⟩:=Qa0 h;simp only[qA];generalize o:(m.Fields.getD n aB).Union=u;cases u==[]with
 | true=>rfl
 | false=>
  cases(m.Fields.getD n aB).Card !=2 with
  | true=>rfl
  | false=>
   cases rJ u with
   | false=>rfl
   | true=>
    simp only[Qbv,lL];have e:=YL (R:=Bool) (b:=fun(k:Nat) (d:aN) (c:Bool)=>bif d.Name==u then(Sum.inr false:Bool⊕Bool)else bif decide ((k:Int) < (n:Int))then bif d.Union==u then .inl true else .inl c else .inl c) (f:=fun(_:Nat) (c:Bool)=>bif !c then true else(m.Fields.getD (aQ .i64 ((n:Int) - 1)).toNat aB).Union==u) (p:=fun _ a=>a.Name==u) (g:=fun j a y=>bif decide (j < n)then bif a.Union==u then true else y else y) (r:=false) m.Fields 0 false (fun j a y _=>by
     grind)
    refine Qb7 ?_ e.symm;rw[agh,YC,Qd0,Nat.sub_zero];rfl
theorem O1 (c:Bool)(l:List Note)(t:Int)(x y:ak):(bif c then jR l t x else jR l t y)=jR l t (bif c then x else y):=by cases c<;>rfl
theorem Pz (c:Bool)(l:List Note)(t n:Int)(x y:az):(bif c then fV l t n x else fV l t n y)=fV l t n (bif c then x else y):=by cases c<;>rfl
theorem U_ {n:Int}{x:ak}{p:az}(h:nJ n x p):nJ x.num x p:=⟨h.1,rfl,h.2.2⟩
theorem aeW {n:Int}{x:ak}{p:az}{v:ak⊕List dw}{w:az⊕List dw}(h:nJ n x p)(b:v= .inl x)(a:w= .inl p):abu (fun x p=>nJ x.num x p) Eq v w:=by subst b a;exact U_ h
theorem nnB (b:Bool):b= !!b:=(Bool.not_not b).symm
theorem asb (l:List aN)(n:Nat):avN l n=(l.take n).any fun a=>a.Name==(l.getD n aB).Name:=by
 rfl
theorem awp (l:List Item)(n:Nat):ag4 l n=(l.take n).any fun a=>a.Name==(l.getD n gQ).Name:=by
 rfl
def okF (f:aN):Prop:=vN f.Default/\UB f.Notes
def aAG (m:aG):Prop:=UB m.Notes/\∀f∈m.Fields,okF f
def aEw (e:eu):Prop:=UB e.Notes/\∀i∈e.Items,UB i.Notes
def avj (v:bz):Prop:=UB v.Notes/\∀m∈v.Methods,UB m.Notes
def okS2 (s:ax):Prop:=okS s/\(∀m∈s.Messages,aAG m)/\(∀e∈s.Enums,aEw e)/\∀v∈s.bK,avj v
theorem YD (n a b:Int):(bif decide (a<=n)then decide (n<=b)else false)= !(bif decide (n < a)then true else decide (b < n)):=by
 grind
theorem Zc (n:Nat)(a b:Int):(bif (n:Int)==0 then true else decide (a < b))= !(bif decide ((0:Int) < (n:Int))then decide (b<=a)else false):=by
 grind
theorem aoX (s:ax)(m:aG)(n:Nat)(h:n < m.Fields.length)(i:aAG m){x:ak}{p:az}(g:nJ (-1) x p)(a:aN)(c:m.Fields.getD n aB=a):
  nJ (-1) (BV s m n x) (fV a.Notes 2 a.Num (aK (!Ae s a) a.Num 1 (aK (!AL m n) a.Num 15 (aK (!LG s a) a.Num 12 (aK (!DC a) a.Num 1 (aK (bif BJ m.Reserved a.Num then true else IB m.Gone a.Name) a.Num 21 (aK ((m.Fields.take n).any fun b=>b.Name==a.Name) a.Num 9 (aK (!rJ a.Name) a.Num 8 (aK (bif decide ((0:Int) < (n:Int))then decide (a.Num<=(m.Fields.getD (aQ .i64 ((n:Int) - 1)).toNat aB).Num)else false) a.Num 11 (aK (bif decide (a.Num < 1)then true else decide (65535 < a.Num)) a.Num 6 p)))))))))):=by
 have f:okF a:=c▸i.2 _ (getD_mem (d:=aB) h);have e:=asb m.Fields n;rw[c]at e;unfold BV field;simp only[di,dn,aF,aT,aV,ay,AB,eP,z_,wQ,qA,ae.bJ,c,e];refine Gh (n:=a.Num) (wW ?_ a.Notes f.2 2 aj) (-1);refine dF (dF (dF (dF (dF (dF (dF (dF (dF (Gh g a.Num) ?_) ?_) ?_) ?_) ?_) ?_) ?_) ?_) ?_
 ·grind
 ·exact Zc _ _ _
 ·exact(Si _).trans (nnB _)
 ·rfl
 ·grind [has_eq,awi]
 ·exact(aAe a).trans (nnB _)
 ·exact(av9 s a).trans (nnB _)
 ·exact(aps m n aj aj).trans (nnB _)
 ·exact(ag_ s a f.1).trans (nnB _)
theorem aE3 (s:ax)(m:aG)(h:List (Str×Bool))(c:List Bool)(t:aAG m)(A:Az s m h=uf s m c):tH s m h=aaM s m c:=by
 unfold tH inMsg aaM c12msg;simp only[dn,aT,aF,aV,dW,dN,lQ,di,ay,AB,eP,z_,wQ,DZ,zN];refine Oo (I:=nJ (-1)) (Q:=Eq) ?_ (fun y z u=> ?_)
 ·have n:((m.Fields.length:Int) - 0).toNat=m.Fields.length:=by omega
  rw[n];have e:∀X:ak,lu (fun(i:Int) (y:ak)=>(Sum.inl (BV s m i y):ak⊕(ak⊕List dw))) (fun _ y=> .inl y) m.Fields.length 0 X=iH (fun(k:Nat) (_:aN) (y:ak)=>(Sum.inl (BV s m k y):ak⊕(ak⊕List dw))) (fun _ y=> .inl y) m.Fields 0 X:=fun X=>(aak (d:=aB) m.Fields 0 X (fun j y r=>rfl) (fun y=>rfl)).symm
  refine Eq.mpr (II (fun v=>abu (nJ (-1)) Eq v _) (e _)) ?_;refine qf (d:=aB) (d':=aB) (fun _=>nJ (-1)) (abu (nJ (-1)) Eq) m.Fields m.Fields 0 _ _ rfl ?_ (fun j y z r g=> ?_) (fun y z g=>g)
  ·refine dF (dF ⟨rfl,rfl,rfl⟩ ((NQ _).trans (nnB _))) ?_
   grind
  ·simp only[Bc];have w:((j:Int) - 0).toNat=j:=by omega
   rw[w];generalize B:m.Fields.getD j aB=a;have q:=WS (R:=az⊕(az⊕List dw)) (d:=aB) (l:=m.Fields) (p:=fun b=>b.Name==a.Name) (b:=fun(x:Int) (o:Bool)=> .inl (bif (m.Fields.getD x.toNat aB).Name==a.Name then true else o)) (f:=fun(_:Int) (o:Bool)=> .inl (fV a.Notes 2 a.Num (aK (!Ae s a) a.Num 1 (aK (!AL m j) a.Num 15 (aK (!LG s a) a.Num 12 (aK (!DC a) a.Num 1 (aK (bif BJ m.Reserved a.Num then true else IB m.Gone a.Name) a.Num 21 (aK o a.Num 9 (aK (!rJ a.Name) a.Num 8 (aK (bif decide ((0:Int) < (j:Int))then decide (a.Num<=(m.Fields.getD (aQ .i64 ((j:Int) - 1)).toNat aB).Num)else false) a.Num 11 (aK (bif decide (a.Num < 1)then true else decide (65535 < a.Num)) a.Num 6 z))))))))))) (fun _ _=>rfl) j 0 false aj;simp only[Qd0,List.drop_zero,ae.bJ]at q⊢;refine Eq.mpr (II (fun v=>abu (nJ (-1)) (abu (nJ (-1)) Eq) _ v) q) ?_;exact aoX s m j r t g a B
 ·refine qf (d:=[]) (d':=[]) (fun _=>nJ (-1)) Eq m.Gone m.Gone 0 _ _ rfl (YP _ _ _ u) (fun j y z r g=> ?_) (fun y z g=> ?_)
  ·exact dF g (nnB _)
  ·have q:=dF (e:=19) (wW g m.Notes t.1 1 aj) (show(!Az s m h)= !uf s m c by rw[A]);exact q.2.2
theorem aob (a b:Int):(bif decide (1<=a)then bif decide (a<=64)then decide (b<=16)else false else false)= !(bif decide (a < 1)then true else bif decide (64 < a)then true else decide (16 < b)):=by
 grind
theorem azR (e:eu)(i:aEw e):uI e=WA e:=by
 unfold uI enumPr WA c12enum;simp only[dn,aT,aF,aV,dW,dN,lQ,di,ay,AB,eP,z_,wQ,DZ,zN,O1,Pz];refine qf (d:=gQ) (d':=gQ) (fun _ x p=>nJ x.num x p) Eq e.Items e.Items 0 _ _ rfl ?_ (fun j y z m c=> ?_) (fun y z c=> ?_)
 ·refine U_ (n:= -1) (dF (n:= -1) (dF (n:= -1) (dF (n:= -1) ?_ ((NQ _).trans (nnB _))) (aob _ _)) ?_)
  ·exact⟨rfl,rfl,rfl⟩
  grind
 ·simp only[Bc];have o:UB (e.Items.getD j gQ).Notes:=i.2 _ (getD_mem (d:=gQ) m);have s:=awp e.Items j;have h:((j:Int) - 0).toNat=j:=by omega
  rw[h];generalize t:e.Items.getD j gQ=a at*;have q:=WS (R:=az⊕List dw) (d:=gQ) (l:=e.Items) (p:=fun b=>b.Name==a.Name) (b:=fun(k:Int) (g:Bool)=> .inl (bif (e.Items.getD k.toNat gQ).Name==a.Name then true else g)) (f:=fun(_:Int) (g:Bool)=> .inl (fV a.Notes 4 a.Num (aK (BJ e.Reserved a.Num) a.Num 21 (aK g a.Num 9 (aK (!rJ a.Name) a.Num 8 (aK (bif decide ((0:Int) < (j:Int))then decide (a.Num<=(e.Items.getD (aQ .i64 ((j:Int) - 1)).toNat gQ).Num)else false) a.Num 11 (aK (bif decide (a.Num < 0)then true else decide (2147483647 < a.Num)) a.Num 6 z))))))) (fun _ _=>rfl) j 0 false aj;simp only[Qd0,List.drop_zero]at q;have r:nJ a.Num (jR a.Notes 4 (dY (!xG e.Reserved a.Num) 21 (dY (!ag4 e.Items j) 9 (dY (D6 a.Name) 8 (dY (bif (j:Int)==0 then true else decide ((e.Items.getD (aQ .i64 ((j:Int) - 1)).toNat gQ).Num < a.Num)) 11 (dY (bif decide (0<=a.Num)then decide (a.Num<=2147483647)else false) 6 ⟨y.oZ,a.Num,y.out⟩)))))) _:=
   wW (dF (dF (dF (dF (dF (Gh c a.Num) (YD _ _ _)) (Zc j _ _)) ((Si _).trans (nnB _))) (II not s)) (II not (awi _ _))) a.Notes o 4 aj
  exact aeW r rfl q
 ·have q:=wW (YP e.Reserved 0 2147483647 (Gh c (-1))) e.Notes i.1 3 aj;exact q.2.2
theorem aEW (s:ax)(v:bz)(c:avj v):PG s v=acT s v:=by
 unfold PG cSvc acT c12svc;simp only[dn,aT,aF,aV,dW,dN,lQ,di,ay,AB,eP,z_,wQ,DZ,zN,O1,Pz];refine qf (d:=dA) (d':=dA) (fun _ x p=>nJ x.num x p) Eq v.Methods v.Methods 0 _ _ rfl ?_ (fun j y z e b=> ?_) (fun y z b=> ?_)
 ·refine U_ (n:= -1) (dF (n:= -1) (dF (n:= -1) ?_ ((NQ _).trans (nnB _))) (KG ?_))
  ·exact⟨rfl,rfl,rfl⟩
  ·omega
 ·simp only[Bc];have f:UB (v.Methods.getD j dA).Notes:=c.2 _ (getD_mem (d:=dA) e);generalize h:v.Methods.getD j dA=a at*;have r:nJ (j:Int) (jR a.Notes 6 (dY (bif decide (1<=a.Shape)then decide (a.Shape<=4)else false) 1 (dY (bif (iD s a.In).2 then(iD s a.Out).2 else false) 12 (dY (bif (j:Int)==0 then true else !(Op.bytesLess a.Name (v.Methods.getD (aQ .i64 ((j:Int) - 1)).toNat dA).Name || a.Name==(v.Methods.getD (aQ .i64 ((j:Int) - 1)).toNat dA).Name)) 11 (dY (D6 a.Name) 8 ⟨y.oZ,(j:Int),y.out⟩)))))
    (fV a.Notes 6 j (aK (bif decide (a.Shape < 1)then true else decide (4 < a.Shape)) j 1 (aK (bif decide (dO (fun(m:aG)=>m.Name==a.In) s.Messages < 0)then true else decide (dO (fun(m:aG)=>m.Name==a.Out) s.Messages < 0)) j 12 (aK (bif decide ((0:Int) < (j:Int))then Op.bytesLess a.Name (v.Methods.getD (aQ .i64 ((j:Int) - 1)).toNat dA).Name || a.Name==(v.Methods.getD (aQ .i64 ((j:Int) - 1)).toNat dA).Name else false) j 11 (aK (!rJ a.Name) j 8 z))))):=by
   refine wW (dF (dF (dF (dF (Gh b (j:Int)) ((Si _).trans (nnB _))) ?_) ?_) (YD _ _ _)) a.Notes f 6 aj
   ·by_cases g:j=0
    ·subst g;rfl
    ·rw[show((j:Int)==0)=false from beq_eq_false_iff_ne.2 aj,wz (show(0:Int) < (j:Int) by omega)];rfl
   ·rw[xQ,xQ]
    grind
  grind [aeW]
 ·have q:=wW (Gh b (-1)) v.Notes c.1 5 aj;exact q.2.2
theorem W9 {A Y R:Type}{d:A}{b:Nat->A->Y->Y⊕R}{f:Nat->Y->R}{g:Y->Nat->Y}:∀(l:List A) (k:Nat) (y:Y),(∀j y,j < l.length->b (k+j) (l.getD j d) y= .inl (g y (k+j)))->iH b f l k y=f (k+l.length) ((List.range' k l.length).foldl g y)
 | [],k,y,_=>rfl
 | a::l,k,y,h=>by
  have c:=h 0 y jQ;rw[XE]at c;have e:(a::l).getD 0 d=a:=rfl;rw[e]at c;unfold iH;rw[c];have i:=W9 (d:=d) (f:=f) (g:=g) l (k+1) (g y k) (fun j y m=>by
   have q:=h (j+1) y vH;rw[show k+(j+1)=k+1+j by omega]at q;exact q)
  dsimp only;rw[i,JV,List.range'_succ,List.foldl_cons,show k+1+l.length=k+(l.length+1) by omega]
def wants (m:aG):List Str:=(m.Fields.filter fun f=>f.Card==1 && f.bV.Kind==10).map fun f=>f.bV.Name
theorem aad (m:aG):SA m=wants m:=by
 unfold SA cNeeds wants;simp only[dW,dN,di,aF,aV,ay];have c:∀(l:List aN) (k:Nat) (y:List Str),iH (fun(_:Nat) (a:aN) (b:List Str)=>bif a.Card==1 then bif a.bV.Kind==10 then(Sum.inl (b++[a.bV.Name]):List Str⊕List Str)else .inl b else .inl b) (fun _ b=>b) l k y=y++(l.filter fun f=>f.Card==1 && f.bV.Kind==10).map fun f=>f.bV.Name:=by
  intro l;induction l with
  | nil=>intro k y;simp[iH]
  | cons a l d=>
   grind [iH]
 grind
def n_ (s:ax)(n:Str):Int:=dO (fun(m:aG)=>m.Name==n) s.Messages
def Bl (s:ax)(n:Str):Bool:=decide (0<=n_ s n)
theorem PU (s:ax)(m:aG)(b:List Bool):uf s m b=(wants m).any fun n=>Bl s n && !b.getD (n_ s n).toNat false:=by
 unfold uf c12needs;simp only[dN,di,aF,aT,ay];have e:∀l:List aN,(l.any fun f=>(f.Card==1 && f.bV.Kind==10) && (Bl s f.bV.Name && !b.getD (n_ s f.bV.Name).toNat false))=((l.filter fun f=>f.Card==1 && f.bV.Kind==10).map fun f=>f.bV.Name).any fun n=>Bl s n && !b.getD (n_ s n).toNat false:=by
  grind
 unfold wants;rw[<-e];refine wI (fun k a=> ?_) (fun k=>rfl) _ 0;unfold Bl n_ bne
 grind
theorem aAU (n:Str)(s:ax)(a:List (Str×Bool)):PX n s a=(Bl s n && !kX false a n):=by
 unfold PX aFj;simp only[aF,ay,xQ];unfold Bl n_;cases decide (0<=dO (fun(m:aG)=>m.Name==n) s.Messages)<;>rfl
theorem anE (s:ax)(m:aG)(a:List (Str×Bool)):Az s m a=(wants m).any fun n=>Bl s n && !kX false a n:=by
 unfold Az abe;simp only[aV,ay,aad];congr 1;funext n;unfold akK aFJ;simp only[aF,ay,xQ];unfold Bl n_;cases decide (0<=dO (fun(m:aG)=>m.Name==n) s.Messages)<;>rfl
noncomputable def aFk (s:ax):nM Str:=Nz s.Messages aG.Name wants (Bl s) (fun n=>(iD s n).1)
def MV (s:ax):nM Nat:=IA s.Messages.length (fun i=>s.Messages.getD i bT) wants (Bl s) (fun n=>(n_ s n).toNat)
noncomputable def ado (s:ax)(y:List (Str×Bool))(a:aG):List (Str×Bool):=bif !(wants (iD s a.Name).1).any fun n=>Bl s n && !kX false y n then nS y a.Name true else y
theorem anY (s:ax)(h:s.Messages.length<=1048576):(fun n=>kX false (mf s) n)=xw (aFk s) (s.Messages.length+1) (fun _=>false):=by
 have w:aQ .i64 ((s.Messages.length:Int)+1)=(s.Messages.length:Int)+1:=bn (k:= .i64) kM;have e:mf s=Zf (fun y=>s.Messages.foldl (ado s) y) (s.Messages.length+1) []:=by
  unfold mf cFinite;simp only[aT,lQ,dW,dN,di,aV,aF,ay];rw[w,show((s.Messages.length:Int)+1 - 0).toNat=s.Messages.length+1 by omega];refine Qb7 (YY (g:=fun y=>s.Messages.foldl (ado s) y) (fun i y=> ?_) _ 0 []) rfl;refine Qb7 (ZK _ _ _ (fun j a y _ _=> ?_) (fun y=>rfl)) (YU (ado s) (fun _ y=>(Sum.inl y:List (Str×Bool)⊕List (Str×Bool))) s.Messages 0 y);unfold ado
  grind [aad,aAU]
 rw[e];refine af6 (abs:=fun(y:List (Str×Bool)) n=>kX false y n) (I:=fun _=>True) (fun y _=> ?_) _ _ trivial;refine agF (abs:=fun(y:List (Str×Bool)) n=>kX false y n) (I:=fun _=>True) (r:=fun m=>(m.Name,fun X=> !(wants (iD s m.Name).1).any fun n=>Bl s n && !X n)) s.Messages y trivial (fun a _ y _=>⟨trivial,?_⟩);unfold ado qP
 grind [aAu]
def GZ (s:ax)(x:Bool×List Bool)(i:Nat):Bool×List Bool:=bif !x.2.getD i false then bif !(wants (s.Messages.getD i bT)).any fun n=>Bl s n && !x.2.getD (n_ s n).toNat false then(true,x.2.set i true)else x else x
theorem ao3 (s:ax)(h:s.Messages.length<=1048576):(fun i=>(Fe s).getD i false)=xw (MV s) s.Messages.length (fun _=>false):=by
 unfold Fe c12fin;simp only[aV,dW,lQ,aF,dN,di,ay];rw[show((s.Messages.length:Int) - 0).toNat=s.Messages.length by omega];have c:∀y:List Bool,y.length=s.Messages.length->((List.range' 0 s.Messages.length).foldl (GZ s) (false,y)).2.length=s.Messages.length/\(fun i=>((List.range' 0 s.Messages.length).foldl (GZ s) (false,y)).2.getD i false)=mO (MV s) (fun i=>y.getD i false)/\
   (((List.range' 0 s.Messages.length).foldl (GZ s) (false,y)).1=false->(fun i=>((List.range' 0 s.Messages.length).foldl (GZ s) (false,y)).2.getD i false)=fun i=>y.getD i false):=by
  intro y l;have q:=G9 (abs:=fun(y:List Bool) i=>y.getD i false) (I:=fun y=>y.length=s.Messages.length) (g:=GZ s) (r:=fun i=>(i,fun X=> !(wants (s.Messages.getD i bT)).any fun n=>Bl s n && !X (n_ s n).toNat)) (List.range' 0 s.Messages.length) false y l (fun a B m y l=> ?_)
  ·refine⟨q.1,?_,fun k=>(q.2.2 k).2⟩;have e:MV s=(List.range' 0 s.Messages.length).map fun i=>(i,fun X=> !(wants (s.Messages.getD i bT)).any fun n=>Bl s n && !X (n_ s n).toNat):=by
    unfold MV IA;rw[List.range_eq_range']
   grind
  ·have u:a < s.Messages.length:=by
    grind
   unfold GZ qP
   grind [ajz,azC]
 have o:∀b:Int->Bool×List Bool->(Bool×List Bool)⊕List Bool,(∀i m y,y.length=s.Messages.length->b i (m,y)=bif m then .inl ((List.range' 0 s.Messages.length).foldl (GZ s) (false,y))else .inr y)->(fun i=>(lu b (fun _ p=>p.2) s.Messages.length 0 (true,List.replicate s.Messages.length false)).getD i false)=xw (MV s) s.Messages.length (fun _=>false):=by
  intro b t;obtain⟨v,w,z,A⟩:=afy (R:=List Bool) (abs:=fun(y:List Bool) i=>y.getD i false) (I:=fun y=>y.length=s.Messages.length) (g:=fun y=>(List.range' 0 s.Messages.length).foldl (GZ s) (false,y)) (Rs:=MV s) (b:=b) (f:=fun _ y=>y.2) (F:=fun y=>y) t (fun i m y=>rfl) c s.Messages.length 0 true (List.replicate s.Messages.length false) jQ (fun k=>by cases k)
  grind
 refine o _ (fun i m y l=> ?_);cases m with
 | false=>rfl
 | true=>
  simp only[cond_true];refine Qb7 (W9 (d:=bT) (g:=GZ s) s.Messages 0 (false,y) (fun j x C=> ?_)) rfl;simp only[Bc,qA,PU];unfold GZ
  grind
theorem aoO (s:ax)(h:s.Messages.length<=1048576)(n:Str)(b:Bl s n=true):kX false (mf s) n=(Fe s).getD (n_ s n).toNat false:=by
 have e:=congrFun (anY s h) n;have f:=congrFun (ao3 s h) (n_ s n).toNat;have c:∀n,Bl s n=true->0<=n_ s n:=fun n b=>Dt b
 have lt:∀n,n_ s n < s.Messages.length:=fun n=>(jy _ _).1
 refine e.trans (Qb7 (apb s.Messages bT aG.Name wants (Bl s) (fun n=>(n_ s n).toNat) (fun n=>(iD s n).1) (fun n b=>⟨?_,?_⟩) (fun i g=> ?_) (fun n b=> ?_) _ _ (Nat.le_succ _) (pJ _) n b) f.symm)
 ·grind
 ·have:=ak1 (fun(m:aG)=>m.Name==n) s.Messages bT (c n b);exact eq_of_beq this
 ·unfold Bl;refine wz ?_;rcases oN (fun(m:aG)=>m.Name==(s.Messages.getD i bT).Name) s.Messages with⟨_,j⟩ | ⟨u,a,v,_,_,_,d⟩
  ·grind
  ·show 0<=dO _ _
   rw[d];omega
 ·have:=c n b;rw[yU];have k:¬dO (fun(x:aG)=>x.Name==n) s.Messages < 0:=by
   unfold n_ at this;omega
  rw[pO k];rfl
theorem apl (s:ax)(h:s.Messages.length<=1048576)(m:aG):Az s m (mf s)=uf s m (Fe s):=by
 grind [PU,anE,aoO]
theorem J7 {A R:Type}{l:List A}{d:A}{nm:A->Str}{F:List Str->R}{step:Int×List Str->(Int×List Str)⊕R}(c:l.length<=1048576)(b:∀x:Int×List Str,step x=bif decide (x.1 < (l.length:Int))then .inl (aQ .i64 (x.1+1),x.2++[nm (l.getD x.1.toNat d)])else .inr (F x.2))(a:R):∀(n i:Nat) (y:List Str),l.length - i < n->i<=l.length->Dy step a n ((i:Int),y)=F (y++(l.drop i).map nm)
 | 0,i,y,h,_=>by omega
 | n+1,i,y,h,g=>by
  unfold Dy;rw[b];by_cases e:i < l.length
  ·have d0:decide (((i:Nat):Int) < (l.length:Int))=true:=wz aj;have w:aQ .i64 (((i:Nat):Int)+1)=((i+1:Nat):Int):=h_ aj;simp only[d0,cond_true,w,qA];rw[J7 c b a n (i+1) _ aj aj];congr 1;have f:l.drop i=l.getD i d::l.drop (i+1):=by
    simp_all
   grind
  grind
def awe (s:ax):List Str:=s.Messages.map aG.Name
def auJ (s:ax):List Str:=s.Enums.map eu.Name
def asW (s:ax):List Str:=s.bK.map bz.Name
theorem aDr (s:ax)(h:okS s):jH s 1=awe s:=by
 have a:s.Messages.length<=150:=h.1;unfold jH c12names;simp only[dn,qx,aF,dW,di,aV,ay];have e:=J7 (R:=List Str⊕List Str) (l:=s.Messages) (d:=bT) (nm:=aG.Name) (F:=fun y=> .inl y) aj (fun _=>rfl) default (s.Messages.length+1) 0 [] aj aj;refine Qb7 (II (fun v=>thenS v _) e) ?_;rfl
theorem names2 (s:ax)(h:okS s):jH s 2=auJ s:=by
 have a:s.Enums.length<=150:=h.2.1;unfold jH c12names;simp only[dn,qx,aF,dW,di,aV,ay];have e:=J7 (R:=List Str⊕List Str) (l:=s.Enums) (d:=dR) (nm:=eu.Name) (F:=fun y=> .inl y) aj (fun _=>rfl) default (s.Enums.length+1) 0 [] aj aj;show thenS (Dy _ (default:List Str⊕List Str) (s.Enums.length+1) ((0:Int),([]:List Str))) _=_
 refine Qb7 (II (fun v=>thenS v _) e) ?_;rfl
theorem aEa (s:ax)(h:okS s):jH s 3=asW s:=by
 have a:s.bK.length<=150:=h.2.2.1;unfold jH c12names;simp only[dn,qx,aF,dW,di,aV,ay];have e:=J7 (R:=List Str) (l:=s.bK) (d:=iC) (nm:=bz.Name) (F:=fun y=>y) aj (fun _=>rfl) default (s.bK.length+1) 0 [] aj aj;refine Qb7 (II (fun v=>thenS v _) (?_:_=Sum.inl [])) ?_
 ·rfl
 simp only[eP];refine Qb7 (II (fun v=>thenS v _) (?_:_=Sum.inl [])) ?_
 ·rfl
 simp only[eP];refine Qb7 e ?_;rfl
theorem auw (s:ax):ahC s=[awe s,auJ s,asW s]:=by
 unfold ahC lists;simp only[dn,dW,dN,di,aV,ay];have f:∀(l:List aG) (k:Nat) (a b c:List Str),iH (fun(_:Nat) (m:aG) (y:List (List Str))=>(Sum.inl [y.getD 0 []++[m.Name],y.getD 1 [],y.getD 2 []]:List (List Str)⊕(List (List Str)⊕List (List Str)))) (fun _ y=> .inl [y.getD 0 [],y.getD 1 [],y.getD 2 []]) l k [a,b,c]= .inl [a++l.map aG.Name,b,c]:=by
  intro l;induction l with
  | nil=>intro k a b c;simp[iH]
  | cons m l d=>
   intro k a b c;unfold iH
   grind
 have g:∀(l:List eu) (k:Nat) (a b c:List Str),iH (fun(_:Nat) (m:eu) (y:List (List Str))=>(Sum.inl [y.getD 0 [],y.getD 1 []++[m.Name],y.getD 2 []]:List (List Str)⊕(List (List Str)⊕List (List Str)))) (fun _ y=> .inl [y.getD 0 [],y.getD 1 [],y.getD 2 []]) l k [a,b,c]= .inl [a,b++l.map eu.Name,c]:=by
  intro l;induction l with
  | nil=>intro k a b c;simp[iH]
  | cons m l d=>
   intro k a b c;unfold iH
   grind
 have e:∀(l:List bz) (k:Nat) (a b c:List Str),iH (fun(_:Nat) (m:bz) (y:List (List Str))=>(Sum.inl [y.getD 0 [],y.getD 1 [],y.getD 2 []++[m.Name]]:List (List Str)⊕List (List Str))) (fun _ y=>[y.getD 0 [],y.getD 1 [],y.getD 2 []]) l k [a,b,c]=[a,b,c++l.map bz.Name]:=by
  intro l;induction l with
  | nil=>intro k a b c;simp[iH]
  | cons m l d=>
   intro k a b c;unfold iH
   grind
 refine Qb7 (II (fun v=>thenS v _) (f s.Messages 0 [] [] [])) ?_;simp only[eP,Qci,Qch];refine Qb7 (II (fun v=>thenS v _) (g s.Enums 0 _ _ _)) ?_;simp only[eP,Qci,Qch];exact e s.bK 0 _ _ _
theorem Nr (l:List Str):QQ l=QK l:=rfl
theorem ayp (a b:List Str):rQ a b=a.any fun x=>IB b x:=by
 unfold rQ c12meet;simp only[dN,di,aF,ay];exact wI (fun k a=>rfl) (fun k=>rfl) a 0
theorem atd (a b:List Str):(b.any fun x=>a.any fun y=>x==y)=rQ a b:=by
 grind [has_eq,ayp]
theorem apart_eq (a b c:List Str):aiR [a,b,c]= !(bif rQ a b then true else bif rQ a c then true else rQ b c):=by
 have e:∀x,asv x [a,b,c]=a.any fun y=>x==y:=fun x=>rfl
 have d:∀x,azv x [a,b,c]=b.any fun y=>x==y:=fun x=>rfl
 unfold aiR apart;simp only[aT,aV,aF,ay,Qci,Qch,e,d,atd]
 grind
theorem wh3 {X R:Type}(G:Int->X->X)(a:X)(b:X⊕R):Dy (fun(x:Int×X)=>bif decide (x.1<=3)then(Sum.inl (aQ .i64 (x.1+1),G x.1 x.2):(Int×X)⊕(X⊕R))else .inr (.inl x.2)) b 5 (1,a)= .inl (G 3 (G 2 (G 1 a))):=by
 rfl
theorem aaG {n:Int}{x:ak}{p:az}(h:nJ n x p){a b:List dw}(e:a=b):nJ n ⟨x.oZ,x.num,x.out++a⟩ ⟨p.oZ,p.l++b⟩:=⟨h.1,h.2.1,by show x.out++a=p.l++b;rw[h.2.2,e]⟩
theorem aEl (s:ax)(h:okS2 s):GU s=abV s:=by
 obtain⟨e,i,g,f⟩:=h;have m:s.Messages.length<=150:=e.1;unfold GU cAll abV c12all;simp only[dn,aT,aF,aV,dW,dN,qx,di,ay,AB,eP,z_,wQ,DZ,zN,auw,Qci,Qch];refine Qb7 ?_ (II (fun v=>thenS v _) (wh3 (fun k x=>aK (!QK (jH s k)) (-1) 11 (aK (decide (64 < ((jH s k).length:Int))) (-1) 3 x)) ⟨[],[]⟩ default)).symm;simp only[eP,aDr s e,names2 s e,aEa s e];refine Oo (I:=nJ (-1)) (Q:=Eq) ?_ (fun y z b=>Oo (I:=nJ (-1)) (Q:=Eq) ?_ (fun y z b=> ?_))
 ·refine qf (d:=bT) (d':=bT) (fun _=>nJ (-1)) (abu (nJ (-1)) Eq) s.Messages s.Messages 0 _ _ rfl ?_ (fun j y z c a=> ?_) (fun y z a=>a)
  ·refine dF (dF (dF (dF (dF (dF (dF ?_ (KG ?_)) ((Nr _).trans (nnB _))) (KG ?_)) ((Nr _).trans (nnB _))) (KG ?_)) ((Nr _).trans (nnB _))) (apart_eq _ _ _)
   ·exact⟨rfl,rfl,rfl⟩
   ·omega
   ·omega
   ·omega
  ·have l:=i _ (getD_mem (d:=bT) c);exact aaG a (aE3 s _ _ _ l (apl s aj _))
 ·refine qf (d:=dR) (d':=dR) (fun _=>nJ (-1)) (abu (nJ (-1)) Eq) s.Enums s.Enums 0 _ _ rfl b (fun j y z c a=> ?_) (fun y z a=>a);exact aaG a (azR _ (g _ (getD_mem (d:=dR) c)))
 ·refine qf (d:=iC) (d':=iC) (fun _=>nJ (-1)) Eq s.bK s.bK 0 _ _ rfl b (fun j y z c a=> ?_) (fun y z a=>a.2.2);exact aaG a (aEW s _ (f _ (getD_mem (d:=iC) c)))
theorem valid_eq (s:ax)(h:okS2 s):jT s=oO s:=by
 unfold jT H9 oO c12valid;simp only[aV,ay,aEl s h]
def aJa (x:aG)(a:Str):Pg Bool:=.ret (x.Name==a)
def aGW (x:aG)(a:Str):=(aJa x a).val
def fsM (l:List aG)(a:Str):Pg (aG×Bool):=aL l (.each false yc l bT (fun b c (d:Unit)=> .ix b l.length (.br (aGW c a) (.ret (.inr (c,true))) (rl ()))) (fun b (d:Unit)=> .ret (aG.mk [] [] [] [] [],false)) ())
def aI6 (l:List aG)(a:Str):=(fsM l a).val
def aHl (x:bz)(a:Str):Pg Bool:=.ret (x.Name==a)
def aGo (x:bz)(a:Str):=(aHl x a).val
def at6:bi Z:=QF [] [] (aCons (aAgg cd_Service) Dn) Qr hh2 [0] func172 1 (u11 aHl)
def fsS (l:List bz)(a:Str):Pg (bz×Bool):=aL l (.each false yc l iC (fun b c (d:Unit)=> .ix b l.length (.br (aGo c a) (.ret (.inr (c,true))) (rl ()))) (fun b (d:Unit)=> .ret (bz.mk [] [] [],false)) ())
def aye (l:List bz)(a:Str):=(fsS l a).val
def aGv:bi Z:=QF [at6] [jS 2 (bD (fun b=>[s0 11]) iL)] (aCons (aLf yF) (a1 (aFn 172 [0]))) Qr aDB [0] func171 2 (u11 fsS)
def aHT (x:dh)(a:Str):Pg Bool:=.ret (x.Name==a)
def aHr (x:dh)(a:Str):=(aHT x a).val
def avz:bi Z:=QF [] [] (aCons (aAgg qC) Dn) Qr hh2 [0] func115 1 (u11 aHT)
def fsW (l:List dh)(a:Str):Pg (dh×Bool):=aL l (.each false yc l dA (fun b c (d:Unit)=> .ix b l.length (.br (aHr c a) (.ret (.inr (c,true))) (rl ()))) (fun b (d:Unit)=> .ret (dh.mk [] [] [] 0 [],false)) ())
def aFz (l:List dh)(a:Str):=(fsW l a).val
def aG_:bi Z:=QF [avz] [jS 2 (bD (fun b=>[s0 11]) iL)] (aCons (aLf yR) (a1 (aFn 115 [0]))) Qr aC0 [0] func114 2 (u11 fsW)
def aIY (x:aN)(a:Int):Pg Bool:=.ret (x.Num==a)
def aGB (x:aN)(a:Int):=(aIY x a).val
def fsF (l:List aN)(b:Int):Pg (aN×Bool):=aL l (.each false yc l aB (fun c a (d:Unit)=> .ix c l.length (.br (aGB (aN.mk a.Num a.Name a.Card a.Key a.bV a.Union a.dD a.Default.re a.Notes) b) (.ret (.inr (aN.mk a.Num a.Name a.Card a.Key a.bV a.Union a.dD a.Default.re a.Notes,true))) (rl ()))) (fun c (d:Unit)=> .ret (aN.mk 0 [] 0 0 (zl.mk 0 []) [] false (ae.mk 0 0 [] [] [] [] []) [],false)) ())
def aI_ (l:List aN)(a:Int):=(fsF l a).val
def atg (s:ax)(a:Str):Pg (aG×Bool):=.ret (aI6 s.Messages a)
def anO (s:ax)(a:Str):=(atg s a).val
def agL (s:ax)(a:Str):Pg (bz×Bool):=.ret (aye s.bK a)
def Om (s:ax)(a:Str):=(agL s a).val
def aj_:bi Z:=E0 [aGv,at6] [] QB aDB [] func113 2 (u2 agL)
def aFF (m:aG)(b:Int):Pg (aN×Bool):=.lt (aI_ m.Fields b) fun a=> .ret (aN.mk a.1.Num a.1.Name a.1.Card a.1.Key a.1.bV a.1.Union a.1.dD a.1.Default.re a.1.Notes,a.2)
def ayL (m:aG)(a:Int):=(aFF m a).val
def kR:Str:=[47]
def amz (s:Str):Pg Int:=.as (List.length kR<=9223372036854775807) (.br (kR==s) (.ret 0) (.ix 0 (List.length kR) (.ret (Lib.indexByte s (List.getD kR 0 0).toNat.toUInt8))))
def aba (s:Str):=(amz s).val
theorem avC (s:Str):Is (amz s):=
 is_as fun _=>is_br iR (fun _=>is_ix dH dH is_ret)
def aA0:bi Z:=vP Z [PY] [jS 15 (bD (fun c=>[s0 8, s0 10]) agH)] (args U7) (l_ (n:=143) rfl) jE [] func120 ntmps120 dM 1 rfl (fun a=>amz (a.1)) (fun a=>some (a.2=kR)) (fun⟨s,p⟩ e h=>by have b:p=kR:=h;subst b;show _=_;kernel_rfl) (fun a=>aba (a.1)) (fun a h=>⟨avC (a.1),rfl⟩)
theorem Kr (c:UInt8):∀(s:List UInt8) (k:Nat),mY (fun x=>x==c) s k=bif decide (Lib.indexByte s c= -1)then -1 else Lib.indexByte s c+k
 | [],k=>rfl
 | x::s,k=>by
  have b:=Kr c s (k+1);have a:=Lib.indexByte_ge s c
  grind [Lib.indexByte,mY]
theorem amd (s:Str):aba s=dO (fun x=>x==47) s:=by
 have e:Lib.indexByte s 47=dO (fun x=>x==47) s:=by
  unfold dO
  grind [Kr]
 unfold aba amz;simp only[dW,aF,di,ay];cases h:kR==s with
 | true=>
  have:s=[47]:=(eq_of_beq h).symm;rw[this];rfl
 | false=>exact e
def akT (s:Str):Pg (List UInt8×List UInt8×Bool):=.ob (kR=kR) (.lt (aba s) fun a=> .br (decide (0<=a)) (.ob ((0:Int)<=0/\0<=a/\a<=(↑(List.length s):Int)) (.lt (aQ .i64 (a+(↑(List.length kR):Int))) fun b=> .ob (0<=b/\b<=(↑(List.length s):Int)/\(↑(List.length s):Int)<=(↑(List.length s):Int)) (.as (List.length kR<=9223372036854775807) (.ret (List.take a.toNat s,List.drop b.toNat (List.take (List.length s) s),true))))) (.ret (s,[],false)))
def aiB (s:Str):=(akT s).val
theorem avO (s:Str)(h:s.length<=1048576):Is (akT s):=
 by
 refine is_ob rfl (is_lt fun c a=>is_brd (fun _=> ?_) iR);have d:c < s.length:=by rw[a,amd];exact(jy (fun(x:UInt8)=>x==47) s).1
 have e:(List.length kR:Int)=1:=rfl;refine is_ob ⟨by omega,by omega,by omega⟩ (is_lt fun f b=> ?_);rw[e,bn (k:= .i64) kM]at b
 grind [is_as,is_ob,is_ret]
def ayH:bi Z:=vP Z [aA0,alG] [] (args U7) (l_ (n:=23) rfl) aFm [] func68 ntmps68 dM 3 rfl (fun a=>akT (a.1)) (fun a=>some ((a.2=kR)/\((a.1).length<=1048576))) (fun⟨s,p⟩ e h=>by have b:p=kR:=h.1;subst b;show _=_;kernel_rfl) (fun a=>aiB (a.1)) (fun a h=>⟨avO (a.1) h.2,rfl⟩)
def azk (s:Str):Pg (List UInt8×List UInt8×Bool):=.ob (kR=kR/\List.length s<=1048576) (.ret (aiB s))
def o6 (s:Str):=(azk s).val
theorem azw (s:Str)(h:s.length<=1048576):Is (azk s):=
 is_ob ((⟨rfl,h⟩)) (is_ret)
def ajn:bi Z:=vP Z [ayH] [] (args U7) (l_ (n:=13) rfl) aFm [] func32 ntmps32 dM 3 rfl (fun a=>azk (a.1)) (fun a=>some ((a.2=kR)/\((a.1).length<=1048576))) (fun⟨s,p⟩ e h=>by have b:p=kR:=h.1;subst b;show _=_;kernel_rfl) (fun a=>o6 (a.1)) (fun a h=>⟨azw (a.1) h.2,rfl⟩)
theorem R_ (s:Str)(h:s.length<=1048576):o6 s=bif decide (0<=dO (fun x=>x==47) s)then(s.take (dO (fun x=>x==47) s).toNat,s.drop ((dO (fun x=>x==47) s).toNat+1),true)else(s,[],false):=by
 have b:=(jy (fun(x:UInt8)=>x==47) s).1;unfold o6 azk aiB akT;simp only[aV,aT,aF,dW,ay,amd];by_cases a:0<=dO (fun x=>x==47) s
 ·have e:(List.length kR:Int)=1:=rfl;rw[wz a,e,bn (k:= .i64) kM,Gv]
  grind
 grind
theorem au9 (s:Str)(h:s.length<=1048576):(o6 s).1.length<=s.length:=by
 grind [R_]
def KY (s:ax)(path:Str):Pg (dh×Bool):=.ob ([47]=kR/\List.length path<=1048576) (.lt (o6 path) fun a=> .br (!a.2.2) (.ret (dh.mk [] [] [] 0 [],false)) (.lt (Om s a.1) fun b=> .br (!b.2) (.ret (dh.mk [] [] [] 0 [],false)) (.ret (aFz b.1.Methods a.2.1))))
def KQ (s:ax)(path:Str):=(KY s path).val
def aoG:bi Z:=E1 [ajn,aj_,aG_,avz] [] QB aC0 [] func62 2 (u2 KY) fun a=>a.2.length<=1048576
def mFind (s:ax)(path:Str):Pg (dh×Int):=.ob ([47]=kR/\List.length path<=1048576) (.lt (o6 path) fun a=> .br (!a.2.2) (.ret (dh.mk [] [] [] 0 [],2)) (.ob (a.1.length<=4294967296) (.br (!CQ a.1) (.ret (dh.mk [] [] [] 0 [],2)) (.br (!xO a.2.1) (.ret (dh.mk [] [] [] 0 [],2)) (.ob (List.length path<=1048576) (.lt (KQ s path) fun b=> .br (!b.2) (.ret (dh.mk [] [] [] 0 [],10)) (.ret (b.1,0))))))))
def qZ (s:ax)(path:Str):=(mFind s path).val
theorem atz (s:ax)(path:Str)(h:path.length<=1048576):Is (mFind s path):=
 is_ob ((⟨rfl,h⟩)) (is_lt fun c a=>is_br iR (fun _=>is_ob (by have:=au9 path h;rw[a];omega) (is_br iR (fun _=>is_br iR (fun _=>is_ob aj (is_lt fun d b=>is_br iR iR))))))
def am3:bi Z:=E1 [ajn,aa_,RH,aoG] [] QB (shr ajE (aJ qC iL)) [] func27 2 (u2 mFind) (fun a=>a.2.length<=1048576) fun a h=>atz a.1 a.2 h
def adI (shape:Int):Pg (Bool×Bool):=.br (shape==3) (.br (shape==2) (.ret (true,true)) (.ret (true,shape==4))) (.br (shape==2) (.ret (shape==4,true)) (.ret (shape==4,shape==4)))
def aaf (shape:Int):=(adI shape).val
def aj2:bi Z:=E0 [] [] hh5 (shr aeR (aJ cBool oK)) [] func67 2 adI
def r14split (s:Str)(c:Int):Pg (List UInt8×List UInt8×Bool):=.each true yc s 0 (fun a d (e:Unit)=> .ix a (List.length s) (.br ((↑d.toNat:Int)==c) (.ob ((0:Int)<=0/\0<=a/\a<=(↑(List.length s):Int)) (.lt (aQ .i64 (a+1)) fun b=> .ob (0<=b/\b<=(↑(List.length s):Int)/\(↑(List.length s):Int)<=(↑(List.length s):Int)) (.ret (.inr (List.take a.toNat s,List.drop b.toNat (List.take (List.length s) s),true))))) (rl ()))) (fun a (e:Unit)=> .ret (s,[],false)) ()
def Nv (s:Str)(c:Int):=(r14split s c).val
def ahm:bi Z:=E0 [] [jS 2 (bD (fun b=>[s0 7]) iL)] (aCons (aLf cStr) azK) aFm [] func84 3 (u2 r14split)
def r14Service (s:ax)(a:Str):Pg (bz×Bool):=.each true yc s.bK iC (fun b c (d:Unit)=> .ix b s.bK.length (.br (c.Name==a) (.ix b s.bK.length (.ret (.inr (c,true)))) (rl ()))) (fun b (d:Unit)=> .ret (bz.mk [] [] [],false)) ()
def yD (s:ax)(a:Str):=(r14Service s a).val
def acW:bi Z:=E0 [] [jS 2 (bD (fun b=>[s0 6]) iL)] QB aDB [] func85 2 (u2 r14Service)
def r14Method (s:ax)(path:Str):Pg (dh×Bool):=.lt (Nv path 47) fun b=> .br (!b.2.2) (.ret (dh.mk [] [] [] 0 [],false)) (.lt (yD s b.1) fun a=> .each true yc a.1.Methods dA (fun c d (e:Unit)=> .ix c a.1.Methods.length (.br (d.Name==b.2.1) (.ix c a.1.Methods.length (.ret (.inr (d,true)))) (rl ()))) (fun c (e:Unit)=> .ret (dh.mk [] [] [] 0 [],false)) ())
def Ih (s:ax)(path:Str):=(r14Method s path).val
def adU:bi Z:=E0 [ahm,acW] [jS 6 (bD (fun b=>[s0 11]) iL)] QB aC0 [] func44 2 (u2 r14Method)
def r13Message (s:ax)(b:Str):Pg (aG×Int):=.each true yc s.Messages bT (fun a c (d:Unit)=> .ix a s.Messages.length (.br (c.Name==b) (.ix a s.Messages.length (.ret (.inr (c,a)))) (rl ()))) (fun a (d:Unit)=> .ret (aG.mk [] [] [] [] [],(-1))) ()
def yE (s:ax)(a:Str):=(r13Message s a).val
def abP:bi Z:=E0 [] [jS 2 (bD (fun b=>[s0 6]) iL)] QB (shr ajE (aJ cd_Message iL)) [] func265 2 (u2 r13Message)
theorem O5 {A:Type}(p:A->Bool)(b:A):∀(l:List A) (k:Nat),mY p (l++[b]) k=bif decide (0<=mY p l k)then mY p l k else bif p b then((k+l.length:Nat):Int)else -1
 | [],k=>by
  rfl
 | a::l,k=>by
  rw[Qbn];unfold mY;cases p a with
  | true=>simp
  | false=>
   simp only[lL];rw[O5 p b l (k+1)]
   grind
theorem alW {c:UInt8}{s:List UInt8}{R:Type}{step:Int×Int->(Int×Int)⊕R}{F:Int->R}(b:∀x:Int×Int,-1<=x.2->x.2 < s.length->step x=bif decide (0<=x.2)then .inl (bif s.getD x.2.toNat 0==c then x.2 else x.1,x.2 - 1)else .inr (F x.1))(d:R):∀(n i:Nat) (a:Int),i<=s.length->i < n->Dy step d n (a,(i:Int) - 1)=F (bif decide (0<=dO (fun x=>x==c) (s.take i))then dO (fun x=>x==c) (s.take i)else a)
 | 0,i,a,_,h=>by omega
 | n+1,0,a,e,h=>by
  unfold Dy;rw[b _ aj aj];rfl
 | n+1,i+1,a,e,h=>by
  unfold Dy;have f:(((i+1:Nat):Int) - 1)=(i:Int):=by omega
  rw[b _ aj aj];simp only[f,qA];rw[wz (show(0:Int)<=(i:Int) by omega)];simp only[cond_true];rw[alW b d n i _ aj aj];congr 1;have g:s.take (i+1)=s.take i++[s.getD i 0]:=by
   rw[Qcg]
   grind
  rw[g];unfold dO
  grind [O5]
theorem ahq (c d:UInt8):((c.toNat:Int)==(d.toNat:Int))=(c==d):=by
 apply Qc9.2;simp only[Qbw];constructor
 ·intro h;exact Qb5.1 aj
 grind
theorem amS {path:Str}{R:Type}{F:Int->R}(h:path.length<=1048576){step:Int×Int->(Int×Int)⊕R}(b:∀x:Int×Int,step x=bif decide (0<=x.2)then bif ((path.getD x.2.toNat 0).toNat:Int)==47 then .inl (x.2,aQ .i64 (x.2 - 1))else .inl (x.1,aQ .i64 (x.2 - 1))else .inr (F x.1))(a:R):Dy step a (path.length+1) (-1,aQ .i64 ((path.length:Int) - 1))=F (dO (fun x=>x==47) path):=by
 rw[bn (k:= .i64) (show Dw .i64 ((path.length:Int) - 1) by simp only[Dw];omega)];rw[alW (c:=47) (F:=F) (fun x e f=> ?_) a (path.length+1) path.length (-1) (pJ _) (Qcn _),Gv]
 ·have:=(jy (fun(x:UInt8)=>x==47) path).2
  grind
 ·rw[b];by_cases d:0<=x.2
  ·rw[wz d,bn (k:= .i64) (show Dw .i64 (x.2 - 1) by simp only[Dw];omega),show(((path.getD x.2.toNat 0).toNat:Int)==47)=(path.getD x.2.toNat 0==47)from ahq _ 47]
   grind
  grind
def r43Find (s:ax)(path:Str):Pg (dh×Int):=.cut (fun(b:Int)=> .br (decide (b < 0)) (.ret (dh.mk [] [] [] 0 [],2)) (.ob ((0:Int)<=0/\0<=b/\b<=(↑(List.length path):Int)) (.br (!yX (List.take b.toNat path)) (.ret (dh.mk [] [] [] 0 [],2)) (.lt (aQ .i64 (b+1)) fun c=> .ob (0<=c/\c<=(↑(List.length path):Int)/\(↑(List.length path):Int)<=(↑(List.length path):Int)) (.br (!uz (List.drop c.toNat (List.take (List.length path) path))) (.ret (dh.mk [] [] [] 0 [],2)) (.lt (Ih s path) fun d=> .br (!d.2) (.ret (dh.mk [] [] [] 0 [],10)) (.ret (d.1,0)))))))) (.lt (aQ .i64 ((↑(List.length path):Int) - 1)) fun f=> .wh (path.length+1) default (fun(a:Int×Int)=> .br (decide (0<=a.2)) (.ix a.2 (List.length path) (.lt (aQ .i64 (a.2 - 1)) fun e=> .br ((↑(List.getD path a.2.toNat 0).toNat:Int)==47) (rl (a.2,e)) (rl (a.1,e)))) (.ret (.inr (.inl a.1)))) ((-1),f))
def Ld (s:ax)(path:Str):=(r43Find s path).val
theorem ajP (s:ax)(path:Str)(h:path.length<=1048576):Is (r43Find s path):=
 by
 have g:=jy (fun(x:UInt8)=>x==47) path;refine is_cut (is_ltw fun n d f=>DL (fun(x:Int×Int)=> -1<=x.2/\x.2 < path.length) (fun(x:Int×Int)=>(x.2+1).toNat) ⟨by omega,by omega⟩ aj (fun x m=>⟨is_brd (fun _=>is_ix aj aj (is_lt fun l i=>is_beq iR iR)) iR,fun j b=> ?_⟩)) (fun c a=> ?_)
 ·revert b;simp only[di,aF,aT,ay,Z8,Xh];have w:0<=x.2->aQ .i64 (x.2 - 1)=x.2 - 1:=fun _=>bn (k:= .i64) kM
  grind
 ·simp only[aT,qx,aF,di,ay]at a;have e:c=dO (fun x=>x==47) path:=by
   rw[amS (F:=fun(y:Int)=>(Sum.inl y:Int⊕(dh×Int))) h]at a
   ·exact(Sum.inl.inj a).symm
   ·exact fun x=>rfl
  grind [is_br,is_brd,is_lt,is_ltw,is_ob,is_ret]
def Y4:bi Z:=E1 [TE,J5,adU] [jS 3 (bD (fun b=>[s0 6, s0 7]) agH),jS 100007 (bD (fun b=>[s0 6]) iL)] QB (shr ajE (aJ qC iL)) [] func18 2 (u2 r43Find) (fun a=>a.2.length<=1048576) fun a h=>ajP a.1 a.2 h
def r43Streams (shape:Int):Pg (Bool×Bool):=.br (shape==3) (.br (shape==2) (.ret (true,true)) (.ret (true,shape==4))) (.br (shape==2) (.ret (shape==4,true)) (.ret (shape==4,shape==4)))
def adK (shape:Int):=(r43Streams shape).val
def aaw:bi Z:=E0 [] [] hh5 (shr aeR (aJ cBool oK)) [] func81 2 r43Streams
theorem afg:∀(k x i:Nat) (r:Str),i+k=10->x < 2 ^ (64 - 7*i)->1<=k->jB i (Jo ((Qv k x).map Int.ofNat)++r)=(x,(Qv k x).length,0)
 | 0,_,_,_,_,_,h=>by omega
 | k+1,x,i,r,f,c,_=>by
  have b:∀n:Nat,n < 256->(UInt8.ofNat (Int.ofNat n).toNat).toNat=n:=fun n h=>by simp[UInt8.toNat_ofNat',Qc4 h]
  unfold Qv;by_cases h:x < 128
  ·rw[vJ h,aaN];simp only[Qp,Qcu,Qbn,Qd,jB,b x aj];rw[uU,vJ h]
   ·rfl
   ·rintro⟨rfl,d⟩;exact absurd c aj
  ·have g:i<=8:=by
    rcases Qdu 8 i with q | q
    ·have:2 ^ (64 - 7*i)<=2 ^ 1:=Qcx dH aj;omega
    ·exact q
   have a:=afg k (x / 128) (i+1) r aj (by
    have e:2 ^ (64 - 7*i)=2 ^ (64 - 7*(i+1))*128:=by rw[<-Nat.pow_add 2 _ 7];congr 1;omega
    omega) aj
   rw[aaN]at a⊢;rw[uU h];simp only[Qp,Qbn,jB,b (x % 128+128) aj,a];rw[uU (fun q=>by omega),uU aj,vJ trivial,JV];exact Qcr (by show(x % 128+128) % 128+128*(x / 128)=x;omega) rfl
theorem ve {u:Int}(h:isU64 u)(r:Str):nI (cZ u++r)=(u,((cZ u).length:Int),0):=by
 obtain⟨a,b⟩:=h;obtain⟨x,rfl⟩:∃x:Nat,u=(x:Int):=⟨u.toNat,by omega⟩;rw[L6 x aj,DY,afg 10 x 0 r rfl (by show x < 18446744073709551616;omega) dH,qp,Qbx];simp[Nj]
theorem au4 {u:Int}(h:isU64 u):1<=(cZ u).length:=by
 obtain⟨a,b⟩:=h;obtain⟨x,rfl⟩:∃x:Nat,u=(x:Int):=⟨u.toNat,by omega⟩;rw[L6 x aj,qp,Qbx];unfold Qv;split<;>simp
theorem aH4 (i:Int):∃n:Nat,nT .u32 i 15=(n:Int)/\n < 16:=by
 have h:(BitVec.ofInt 32 i &&& BitVec.ofInt 32 15).toNat < 2 ^ 4:=by
  rw[BitVec.toNat_and];exact Nat.and_lt_two_pow _ dH
 exact⟨_,kE (k:= .u32) rfl (Qdv h dH),h⟩
def half (i:Int):Pg Int:=.ob (0<=nT .u32 i 15/\nT .u32 i (15:Int) < 16) (.ret ([0,498536548,997073096,651767980,1994146192,1802195444,1303535960,1342533948,3988292384, 4027552580,3604390888,3412177804,2607071920,2262029012,2685067896,3183342108].getD (nT .u32 i 15).toNat 0))
def GH (i:Int):=(half i).val
theorem ax3 (i:Int):Is (half i):=
 by
 obtain⟨n,e,a⟩:=aH4 i;unfold half;rw[e];exact is_ob aj is_ret
def aE9:bi Z:=E0 [] [] (a1 (aLf (cInt .u32))) (R1 (cInt .u32)) [] func186 1 half fun a=>ax3 a
def crc (s:Str):Pg Int:=.as (List.length s<=9223372036854775807) (.each false mg s 0 (fun e b (a:Int)=> .ix e (List.length s) (.ob ((0:Int)<=4) (.ob ((0:Int)<=4) (.lt (lN .u32 (mJ .u32 a (aQ .u32 (↑b.toNat:Int))) 4) fun d=> .lt (GH (mJ .u32 a (aQ .u32 (↑b.toNat:Int)))) fun c=> rl (mJ .u32 (lN .u32 (mJ .u32 d c) 4) (GH (mJ .u32 d c))))))) (fun(e a:Int)=> .ret (aQ .u64 (mJ .u32 (if IntKind.u32.signed=true then(-1)else IntKind.u32.max) a))) 4294967295)
def aeo (s:Str):=(crc s).val
def aGD:bi Z:=E0 [aE9] [jS 3 (bD (fun b=>[s0 7, s0 3]) (aJ cI (l1 (cInt .u32))))] hh1 aky [] func124 1 crc
def low (u:Int)(n:Int):Pg (List UInt8):=.ob (n=n/\0<=n/\n*(1:Int)<=281474976710656/\n<=1099511627776) (.as ((aCX n.toNat 0).length<=9223372036854775807) (.cnt mg 0 (↑(aCX n.toNat 0).length:Int) (fun b (a:List Int)=> .lt (aQ .i64 (8*b)) fun c=> .ob (0<=c) (.ix b a.length (.ob (b.toNat < a.length) (rl (a.set b.toNat (aQ .u8 (lN .u64 u c))))))) (fun b (a:List Int)=> .ob (BQ (fun(i:Nat)=>true) a.length=true) (.ret (Jo a))) (aCX n.toNat 0)))
def aaP (u:Int)(n:Int):=(low u n).val
theorem aEQ (u:Int)(n:Int)(h:n=4):Is (low u n):=
 by
 subst h;refine is_ob aj (is_as fun _=>FO (fun _ y=>y.length=4) rfl dH dH (fun b d i f a=> ?_) (fun b d _ _ a=>is_ob (oL (fun _=>rfl) _) (is_ret)));have a:d.length=4:=a;have f:b < 4:=f;have w:aQ .i64 (8*b)=8*b:=bn (k:= .i64) kM;rw[w];refine⟨is_lt fun l g=>is_ob aj (is_ix aj aj (is_ob aj (is_ret))),fun j c=> ?_⟩;revert c;simp only[aT,aV,di,ay];intro e;injection e with e
 subst e;show(List.set _ _ _).length=4
 rw[Qdl];exact a
def aG5:bi Z:=E1 [] [jS 3 (bD (fun b=>[s0 11, .row (pid (b 5)) 5]) aua)] (aCons (aLf (cInt .u64)) hh5) Dp [] func123 1 (u2 low) (fun a=>a.2=4) fun a h=>aEQ a.1 a.2 h
theorem low4 (u:Int):aaP u 4=Jo [aQ .u8 (lN .u64 u 0),aQ .u8 (lN .u64 u 8),aQ .u8 (lN .u64 u 16),aQ .u8 (lN .u64 u 24)]:=by
 unfold aaP low;simp only[aV,dW,lQ,aT,di,ay];rfl
theorem aay (u:Int):(aaP u 4).length=4:=by rw[low4,qp];rfl
def dseal (s:Str):Pg (List UInt8):=.ob ((4:Int)=4) (.lt (aaP (aeo s) 4) fun a=> .ob (List.length s+List.length a<=9223372036854775807) (.ret (s++a)))
def zB (s:Str):=(dseal s).val
theorem asQ (s:Str)(h:s.length<=4294967296):Is (dseal s):=
 is_ob rfl (is_lt fun b a=>is_ob (by rw[a,aay];omega) is_ret)
def alD:bi Z:=E1 [aG5,aGD] [] hh1 Dp [] func75 1 dseal (fun a=>a.length<=4294967296) fun a h=>asQ a h
def dopen (s:Str):Pg (List UInt8×Int):=.br (decide ((↑(List.length s):Int) < 4)) (.ret ([],4)) (.lt (aQ .i64 ((↑(List.length s):Int) - 4)) fun a=> .ob ((0:Int)<=0/\0<=a/\a<=(↑(List.length s):Int)) (.ob ((List.take a.toNat s).length<=4294967296) (.br (zB (List.take a.toNat s) !=s) (.ret ([],25)) (.ret (List.take a.toNat s,0)))))
def ain (s:Str):=(dopen s).val
def ax9:bi Z:=E1 [alD] [] hh1 ac3 [] func101 2 dopen fun a=>a.length<=4294967296
theorem IZ (s:Str):zB s=s++aaP (aeo s) 4:=by
 unfold zB dseal;simp only[aV,aT,ay]
theorem ZR (s:Str):(zB s).length=s.length+4:=by rw[IZ,uX,aay]
theorem ajH {x:Str}(h:x.length<=4294967000):(ain (zB x)).2=0:=by
 have c:=ZR x;have b:(zB x).take x.length=x:=by rw[IZ,Qde]
 unfold ain dopen;have w:aQ .i64 (((zB x).length:Int) - 4)=(x.length:Int):=by rw[c,bn (k:= .i64) kM];omega
 have a:decide (((zB x).length:Int) < 4)=false:=pO aj;simp only[aF,aV,aT,ay,w,a,lL,qA,b,bne_self_eq_false]
theorem Fv (n:Int):isU64 (aQ .u64 n):=by
 unfold isU64 aQ IntKind.wrap;simp only[IntKind.signed,IntKind.bits];constructor<;>(try simp)<;>(try omega)
def vlen (u:Int):Pg Int:=.wh (u.toNat+1) default (fun(a:Int×Int)=> .br (decide (128<=a.1)) (.ob ((0:Int)<=7) (rl (lN .u64 a.1 7,aQ .i64 (a.2+1)))) (.ret (.inr a.2))) (u,1)
def aB6 (u:Int):=(vlen u).val
theorem azt (u:Int)(h:isU64 u):Is (vlen u):=
 by
 have h:0<=u/\u < 18446744073709551616:=h;obtain⟨x,rfl⟩:∃x:Nat,u=(x:Int):=⟨u.toNat,by omega⟩;have f:x < 18446744073709551616:=by omega
 refine DL (fun X=>∃x:Nat,X.1=(x:Int)) (fun X=>X.1.toNat) ⟨x,rfl⟩ (by show x < x+1;omega) (fun X c=> ?_);obtain⟨i,b⟩:=X;obtain⟨x,rfl⟩:=c;dsimp only;rw[ry];refine⟨is_brd (fun _=>is_ob aj is_ret) iR,fun d a=> ?_⟩;revert a;simp only[aF,aV,ay,Z8,Xh];split
 ·rename_i g;intro e;injection e with e
  subst e;refine⟨⟨x / 128,rfl⟩,?_⟩;show((x / 128:Nat):Int).toNat < (x:Int).toNat
  omega
 ·intro e;cases e
def aEn:bi Z:=E1 [] [jS 2 (bD (fun b=>[s0 0, s0 3]) aAH)] Qw jE [] func104 1 vlen (fun a=>isU64 a) fun a h=>azt a h
theorem atL {u:Int}(h:isU64 u):aB6 u=((cZ u).length:Int):=by
 obtain⟨e,i⟩:=h;obtain⟨x,rfl⟩:∃x:Nat,u=(x:Int):=⟨u.toNat,by omega⟩;have c:∀(k n x m:Nat),x < n->x < 128 ^ k->1<=k->m+k < 1000->Dy (fun(a:Int×Int)=>(bif decide (128<=a.1)then(Sum.inl (lN .u64 a.1 7,aQ .i64 (a.2+1)):(Int×Int)⊕Int)else .inr a.2)) default n ((x:Int),((m+1:Nat):Int))=((m+(Qv k x).length:Nat):Int):=by
  intro k;induction k with
  | zero=>intro n x m _ _ h;omega
  | succ k d=>
   intro n x m f b _ g;obtain⟨n,rfl⟩:∃m,n=m+1:=⟨n - 1,by omega⟩;unfold Dy Qv;by_cases h:x < 128
   ·rw[vJ h,pO (show ¬(128:Int)<=(x:Int) by omega)];rfl
   ·rw[uU h,wz (show(128:Int)<=(x:Int) by omega)];have w:aQ .i64 (((m+1:Nat):Int)+1)=((m+1+1:Nat):Int):=h_ aj;simp only[cond_true,ry,w];rw[Qc8]at b;rw[d n (x / 128) (m+1) aj aj (by
      rcases k with _ | k;· simp at b;omega
      ·omega) aj]
    simp only[JV];congr 1;omega
 rw[L6 x aj,qp,Qbx];exact(c 10 ((x:Int).toNat+1) x 0 aj (Qbg (show x < 18446744073709551616 by omega) dH) dH dH).trans (by rw[Bc])
def stCheck (s:Status):Pg Int:=.br (decide (s.Code < 0)) (.ret 1) (.br (decide (13 < s.Code)) (.ret 1) (.ob (List.length s.Text<=9223372036854775700) (.br (!EX s.Text) (.ret 7) (.br (decide (4096 < (↑(List.length s.Text):Int))) (.ret 3) (.br (s.Code==0) (.br (s.Text !=[]) (.ret 1) (.ret 0)) (.ret 0))))))
def kz (s:Status):=(stCheck s).val
def Oe:bi Z:=E1 [DF] [] aAd jE [] func28 1 stCheck fun a=>a.Text.length<=9223372036854775700
def stPack (s:Status):Pg (List UInt8):=.ob (List.length s.Text<=9223372036854775700) (.br (kz s !=0) (.ret []) (.lt (aQ .u64 s.Code) fun a=> .ob (isU64 a) (.lt (cZ a) fun b=> .ob (List.length b+List.length s.Text<=9223372036854775807) (.ret (b++s.Text)))))
def oV (s:Status):=(stPack s).val
def stUnpack (a:Str):Pg (Status×Int):=.lt (nI a) fun b=> .br (b.2.2 !=0) (.ret (Status.mk 0 [],b.2.2)) (.ob (isU64 b.1) (.br (b.2.1 !=aB6 b.1) (.ret (Status.mk 0 [],5)) (.br (decide (13 < b.1)) (.ret (Status.mk 0 [],6)) (.ob (0<=b.2.1/\b.2.1<=(↑(List.length a):Int)/\(↑(List.length a):Int)<=(↑(List.length a):Int)) (.lt (List.drop b.2.1.toNat (List.take (List.length a) a)) fun c=> .ob (c.length<=9223372036854775700) (.lt (kz (Status.mk (aQ .i64 b.1) c)) fun d=> .br (d !=0) (.ret (Status.mk 0 [],d)) (.ret (Status.mk (aQ .i64 b.1) c,0))))))))
def tq (a:Str):=(stUnpack a).val
theorem ael (a:Str)(h:a.length<=4294967296):Is (stUnpack a):=
 is_lt fun e b=>is_bne iR (fun _=>is_ob (by rw[b];exact(Es a).1) (is_bne iR (fun _=>is_brd iR (fun _=>is_ob (by have:=Es a;rw[b];omega) (is_lt fun g c=>is_ob (by rw[c,Qca,Iq];omega) (is_lt fun f d=>is_bne iR iR))))))
def Ub:bi Z:=E1 [Oe,SC,aEn] [] hh1 (shr ayZ (aJ cd_Status iL)) [] func56 2 stUnpack (fun a=>a.length<=4294967296) fun a h=>ael a h
theorem N9 {s:Status}(h:kz s=0):0<=s.Code/\s.Code<=13/\s.Text.length<=4096:=by
 unfold kz stCheck at h;simp only[aF,aV,ay,Z8,Xh]at h;(repeat' split at h)<;>first | (exact absurd h dH) | omega
theorem acI {s:Status}(h:kz s=0):isU64 s.Code/\aQ .u64 s.Code=s.Code/\aQ .i64 s.Code=s.Code:=by
 obtain⟨a,b,_⟩:=N9 h;exact⟨⟨a,by omega⟩,bn (k:= .u64) kM,bn (k:= .i64) kM⟩
theorem Vs (s:Status)(h:s.Text.length<=1048576):gU (stPack s) (fun r=>kz s=0->r=cZ s.Code++s.Text):=by
 unfold stPack;refine ah aj (bu (fun c=>af fun e=>absurd e c) fun c=>au fun d a=>ah (by rw[a];exact Fv _) (au fun f b=>ah (by have:=iI d (by rw[a];exact Fv _);rw[b];omega) (af fun _=> ?_)));rw[b,a,(acI c).2.1]
theorem arI {s:Status}(h:kz s=0):tq (cZ s.Code++s.Text)=(s,0):=by
 obtain⟨u,_,w⟩:=acI h;have a:=N9 h;unfold tq stUnpack;simp only[aT,aF,aV,ay,ve u,atL u,w,bne_self_eq_false,lL,Gv,qA,Qc1,pO (show ¬(13:Int) < s.Code by omega),show Status.mk s.Code s.Text=s from rfl,h]
theorem ap2 (s:Status)(h:s.Text.length<=1048576):Is (stPack s):=
 (Vs s h).is
def awT:bi Z:=E1 [Oe,aav] [] aAd Dp [] func34 1 stPack (fun a=>a.Text.length<=1048576) fun a h=>ap2 a h
theorem wl (n:Nat)(h:n<=4294967296):aQ .u64 (n:Int)=(n:Int):=kE (k:= .u64) rfl (Qcq h dH)
theorem aAA (n:Nat)(h:n<=4294967296):isU64 (aQ .u64 (n:Int)):=by rw[wl n h];exact⟨by omega,by omega⟩
def sized (s:Str):Pg (List UInt8):=.lt (aQ .u64 (↑(List.length s):Int)) fun a=> .ob (isU64 a) (.lt (cZ a) fun b=> .ob (List.length b+List.length s<=9223372036854775807) (.as (List.length s<=9223372036854775807) (.ret (b++s))))
def jI (s:Str):=(sized s).val
theorem auU (s:Str)(h:s.length<=4294967296):Is (sized s):=
 is_lt fun c a=>is_ob (by rw[a];exact aAA _ h) (is_lt fun d b=>is_ob (by have:=iI c (by rw[a];exact aAA _ h);rw[b];omega) (is_as fun _=>is_ret))
def ayI:bi Z:=E1 [aav] [] hh1 Dp [] func70 1 sized (fun a=>a.length<=4294967296) fun a h=>auU a h
def aDi:bi Z:=⟨121,qQ (args hh1) hh2 1 [] (fun _=>some False) (fun _=>false),iy func121 dM (fun _ h=>h)⟩
def okHead (a:Head):Prop:=a.bz.length<=1048576/\a.Method.length<=1048576/\a.oD=0/\a.jO=[]
def headed (a:Head):Pg Int:=.cut (fun(d:Unit)=> aL a.jO (.cnt yc 0 (↑a.jO.length:Int) (fun b (c:Unit)=> .ix b a.jO.length (.ob False (.ret (.inr 8)))) (fun b (c:Unit)=> .ret 0) ())) (.ob (List.length a.bz<=4294967296) (.br (!CQ a.bz) (.ret (.inr 8)) (.br (!xO a.Method) (.ret (.inr 8)) (.br (decide (a.oD < 0)) (.ret (.inr 6)) (.br (decide (1099511627776 < a.oD)) (.ret (.inr 6)) (.br (decide (16 < (↑a.jO.length:Int))) (.ret (.inr 3)) (rl ())))))))
def uw (a:Head):=(headed a).val
theorem aqd (hd:Head)(h:okHead hd):Is (headed hd):=
 is_cut (is_ob (by have:=h.1;omega) (is_br iR (fun _=>is_br iR (fun _=>is_brd iR (fun _=>is_brd iR (fun _=>is_brd iR iR)))))) (fun d c=>is_as fun _=>is_cnt aj aj (fun a b _ _=>is_ix aj aj (is_ob qbk (is_ret))) (fun a b _ _=>is_ret))
def aqQ:bi Z:=E1 [aa_,RH,DF,aDi] [jS 8 (bD (fun b=>[s0 33]) iL),jS 100007 (bD (fun b=>[]) l0)] akB jE [] func69 1 headed (fun a=>okHead a) fun a h=>aqd a h
def fhead (a:Head):Pg (List UInt8×Int):=.ob (okHead a) (.lt (uw a) fun l=> .br (l !=0) (.ret ([],l)) (.ob (List.length a.bz<=4294967296) (.ob (List.length a.Method<=4294967296) (.lt (jI a.bz) fun k=> .lt (jI a.Method) fun m=> .ob (List.length k+List.length m<=9223372036854775807) (.lt (aQ .u64 a.oD) fun q=> .ob (isU64 q) (.lt (k++m) fun(o:List UInt8)=> .lt (cZ q) fun n=> .ob (o.length+List.length n<=9223372036854775807) (.lt (aQ .u64 (↑a.jO.length:Int)) fun i=> .ob (isU64 i) (.lt (o++n) fun(j:List UInt8)=> .lt (cZ i) fun f=> .ob (j.length+List.length f<=9223372036854775807) (.lt (j++f) fun(h:List UInt8)=> .ob ((dp (bG h.length 1)).p/\True) (aL a.jO (aL a.jO (.each false mg a.jO akj (fun p c (b:List Int)=> .ix p a.jO.length (.ob (List.length c.Key<=4294967296) (.ob (List.length c.Val<=4294967296) (.lt (jI c.Key) fun g=> .lt (jI c.Val) fun d=> .ob (List.length g+List.length d<=9223372036854775807) (.lt (g++d) fun(e:List UInt8)=> .ob ((dp (bG (b.length+e.length) 1)).p/\True) (rl (b++XD e))))))) (fun p (b:List Int)=> .ob ((dp (0 < b.length)).p/\ (dp ((↑b.length:Int)=(↑b.length:Int)/\0 < (↑b.length:Int)/\BQ (ab2 b) b.length=true)).p/\True) (.ret (Jo b,0))) (XD h)))))))))))))
def Wv (a:Head):=(fhead a).val
def tnum (t:a_):Pg (Int×a_):=.br (t.errno !=0) (.ret (0,t)) (.lt (nI t.s) fun a=> .ob (0<=a.2.1/\a.2.1<=(↑(List.length t.s):Int)/\(↑(List.length t.s):Int)<=(↑(List.length t.s):Int)) (.ret (a.1,a_.mk (List.drop a.2.1.toNat (List.take (List.length t.s) t.s)) a.2.2)))
def Jn (t:a_):=(tnum t).val
theorem ayG (t:a_):Is (tnum t):=
 is_bne iR (fun _=>is_lt fun b a=>is_ob (by have:=Es t.s;rw[a];omega) is_ret)
def atl:bi Z:=QF [SC] [] Dn (b1 (bCells cd_frame_taker)) (shr [s0 0, .cells 0 [none,none]] (aJ (cInt .u64) al2)) [] func103 1 (fun a=>tnum a.2) fun a=>ayG a.2
def ttext (t:a_):Pg (List UInt8×a_):=.lt (Jn t) fun a=> .cut (fun(b:a_)=> .br (b.errno !=0) (.ret ([],b)) (.ob ((0:Int)<=0/\0<=a.1/\a.1<=(↑(List.length b.s):Int)) (.ob (0<=a.1/\a.1<=(↑(List.length b.s):Int)/\(↑(List.length b.s):Int)<=(↑(List.length b.s):Int)) (.ret (List.take a.1.toNat b.s,a_.mk (List.drop a.1.toNat (List.take (List.length b.s) b.s)) b.errno))))) (.br (a.2.errno==0) (.as (List.length a.2.s<=9223372036854775807) (.lt (aQ .u64 (↑(List.length a.2.s):Int)) fun c=> .br (decide (c < a.1)) (rl (a_.mk a.2.s 4)) (rl a.2))) (rl a.2))
def Iz (t:a_):=(ttext t).val
theorem xK {s:Str}(h:s.length<=4294967296):jI s=cZ (s.length:Int)++s:=by
 unfold jI sized;simp only[aT,aV,dW,ay];rw[wl _ h]
theorem vX {n:Nat}(h:n<=4294967296):isU64 (n:Int):=⟨by omega,by omega⟩
theorem qV {s:Str}(h:s.length<=4294967296):(jI s).length<=s.length+10:=by
 grind [vX,iI,xK]
theorem Y3 {s:Str}(h:s.length<=4294967296):1<=(jI s).length:=by
 grind [vX,xK,au4]
def headB (a b:Str):Str:=jI a++(jI b++(cZ 0++cZ 0))
theorem QE:isU64 0:=⟨by decide,by decide⟩
theorem aoA {a b:Str}(c:a.length<=1048576)(d:b.length<=1048576):(headB a b).length<=a.length+b.length+40/\1<=(headB a b).length:=by
 have:=qV (s:=a) aj;have:=Y3 (s:=a) aj;have:=qV (s:=b) aj;have:=iI _ QE;unfold headB
 grind
theorem Oi (a:Head)(h:okHead a):gU (fhead a) (fun r=>r=bif uw a !=0 then([],uw a)else(headB a.bz a.Method,0)):=by
 obtain⟨v,w,o,l⟩:=h;have l1:=qV (s:=a.bz) aj;have L:=qV (s:=a.Method) aj;have M:=Y3 (s:=a.bz) aj;have H:=iI _ QE;have z:a.jO.length=0:=by rw[l];rfl
 unfold fhead;refine ah ⟨v,w,o,l⟩ (au fun J q=>bH (fun c=>af ?_) fun c=>ah aj (ah aj (au fun I C=>au fun G B=>ah dm (au fun u e=> ?_))))
 ·grind
 rw[o]at e;have e:u=0:=e.trans dH;refine ah (by rw[e];exact QE) (au fun p A=>au fun K i=> ?_);have k8:p.length=(jI a.bz).length+(jI a.Method).length:=by grind
 rw[e]at i;refine ah (by rw[i];omega) (au fun n b=> ?_);rw[z]at b;have b:n=0:=b.trans dH;refine ah (by rw[b];exact QE) (au fun f j=>au fun E d=> ?_);have F:f.length=p.length+(cZ 0).length:=by grind
 rw[b]at d;refine ah (by rw[d];omega) (au fun g m=> ?_);have D:g.length=f.length+(cZ 0).length:=by grind
 refine ah ⟨room_of aj aj,trivial⟩ (bZ (bZ (bC (fun _ y=>y=XD g) rfl aj (fun k y x _=>absurd x aj) (fun y t=> ?_))));rw[t];refine ah ⟨by rw[v_];omega,⟨rfl,by rw[v_];omega,oL (Wx _) _⟩,trivial⟩ (af ?_);rw[<-q,c,lL,abZ,m,d,j,i,A,C,B];unfold headB
 grind
theorem agd {u:Int}(h:isU64 u)(r:Str):Jn (a_.mk (cZ u++r) 0)=(u,a_.mk r 0):=by
 unfold Jn tnum;simp only[aF,aT,aV,ay,ve h,bne_self_eq_false,lL,Gv,qA,Qc1]
def azc (t:a_)(a r:Str):Prop:=t=a_.mk (jI a++r) 0/\a.length<=1048576/\r.length<=4293918720
def okTx (t:a_):Prop:=∃p r,azc t p r
theorem MW {t:a_}{a r:Str}(h:azc t a r):gU (ttext t) (fun x=>x=(a,a_.mk r 0)):=by
 obtain⟨rfl,f,l⟩:=h;have d:Jn (a_.mk (jI a++r) 0)=((a.length:Int),a_.mk (a++r) 0):=by
  grind [vX,xK,agd]
 have g:(a++r).length=a.length+r.length:=uX;unfold ttext;refine au fun j b=> ?_;rw[d]at b;subst b;refine bg (fun y=>y=a_.mk (a++r) 0) (bI (fun _=>bZ (au fun i k=>aU (fun c=>absurd c ?_) fun _=>af rfl)) (fun c=>absurd rfl c)) (fun y e=> ?_)
 ·grind [wl]
 ·subst e;dsimp only;refine bu (fun c=>absurd rfl c) fun _=>ah ⟨by decide,by omega,by omega⟩ (ah ⟨by omega,by omega,by omega⟩ (af ?_));rw[Gv,qA,Qde,Qc1]
theorem atJ (a:Head)(h:okHead a):Is (fhead a):=
 (Oi a h).is
def ak3:bi Z:=E1 [zq,Nb,aqQ,ayI,aav] [jS 7 (bD (fun b=>[s0 35, .tcs (pid (b 5)) 48 [some 5]]) aua)] akB ac3 [] func33 2 fhead (fun a=>okHead a) fun a h=>atJ a h
theorem auH (t:a_)(h:okTx t):Is (ttext t):=
 by obtain⟨a,r,h⟩:=h;exact(MW h).is
def aAp:bi Z:=ZY [atl] [jS 100004 (bD (fun b=>[.cells (pid (b 0)) [none,none]]) al2)] Dn (b1 (bCells cd_frame_taker)) (shr [s0 0, .cells 0 [none,none]] (aJ cStr al2)) [] func102 1 (fun a=>ttext a.2) (fun a=>okTx a.2) fun a h=>auH a.2 h
end
end Go.Proofs.YtenjnekcoapajaaGreatDoor
