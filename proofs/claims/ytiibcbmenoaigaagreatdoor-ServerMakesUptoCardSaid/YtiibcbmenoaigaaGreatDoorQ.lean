/- Server: loops side by side; scalars and annotations: the program's checks are the reference's. -/
import Derived.Test.YtiibcbmenoaigaaGreatDoorE
import Derived.Test.YtiibcbmenoaigaaGreatDoorEng11
import Derived.Test.YtiibcbmenoaigaaGreatDoorEng15
import Derived.Test.YtiibcbmenoaigaaGreatDoorEng15
import Derived.Test.YtiibcbmenoaigaaGreatDoorEng15
namespace Go.Proofs.YtiibcbmenoaigaaGreatDoor
open Go.RowKit Go.Vc
set_option linter.unusedVariables false
set_option linter.unusedSimpArgs false
set_option maxRecDepth 100000
section
variable {A B Y Z R R' X:Type}
def RelS (I:Y->Z->Prop)(Q:R->R'->Prop):Y⊕R->Z⊕R'->Prop
 | .inl y, .inl z=>I y z
 | .inr r, .inr s=>Q r s
 | _,_=>False
theorem relS_then {X':Type}{I:X->X'->Prop}{Q:R->R'->Prop}{a:X⊕R}{b:X'⊕R'}{k:X->R}{k':X'->R'}(h:RelS I Q a b)(hk:∀x y,I x y->Q (k x) (k' y)):Q (thenS a k) (thenS b k'):=by
 cases a<;>cases b
 ·exact hk _ _ h
 ·exact h.elim
 ·exact h.elim
 ·exact h
theorem forE_rel {b:Nat->A->Y->Y⊕R}{f:Nat->Y->R}{b':Nat->B->Z->Z⊕R'}{f':Nat->Z->R'}{d:A}{d':B}(I:Nat->Y->Z->Prop)(Q:R->R'->Prop):∀(l:List A) (l':List B) (k:Nat) (y:Y) (z:Z),l.length=l'.length->I k y z->
  (∀j y z,j < l.length->I (k+j) y z->RelS (I (k+j+1)) Q (b (k+j) (l.getD j d) y) (b' (k+j) (l'.getD j d') z))->
  (∀y z,I (k+l.length) y z->Q (f (k+l.length) y) (f' (k+l.length) z))->Q (forE b f l k y) (forE b' f' l' k z)
 | [],[],k,y,z,_,h0,_,hf=>hf y z h0
 | a::l,c::l',k,y,z,hl,h0,hb,hf=>by
  have h1:=hb 0 y z (by simp) h0
  simp only[Nat.add_zero,show(a::l).getD 0 d=a from rfl,show(c::l').getD 0 d'=c from rfl]at h1
  unfold forE
  cases hx:b k a y with
  | inl y'=>cases hy:b' k c z with
   | inl z'=>
    rw[hx,hy]at h1
    refine forE_rel (d:=d) (d':=d') I Q l l' (k+1) y' z' (by simpa using hl) h1 (fun j y z hj hi=> ?_) (fun y z hi=> ?_)
    ·have q:=hb (j+1) y z (by simp;omega)
     rw[show k+(j+1)=k+1+j by omega]at q
     exact q hi
    ·have q:=hf y z
     rw[show k+(a::l).length=k+1+l.length by simp only[List.length_cons];omega]at q
     exact q hi
   | inr s=>rw[hx,hy]at h1;exact h1.elim
  | inr r=>cases hy:b' k c z with
   | inl z'=>rw[hx,hy]at h1;exact h1.elim
   | inr s=>rw[hx,hy]at h1;exact h1
theorem forE_forN {b:Nat->A->Y->Y⊕R}{f:Nat->Y->R}{b':Int->Y->Y⊕R}{f':Int->Y->R}{d:A}:∀(l:List A) (k:Nat) (y:Y),(∀j y,j < l.length->b (k+j) (l.getD j d) y=b' ↑(k+j) y)->(∀y,f (k+l.length) y=f' ↑(k+l.length) y)->forE b f l k y=forN b' f' l.length ↑k y
 | [],k,y,_,hf=>hf y
 | a::l,k,y,hb,hf=>by
  have h1:=hb 0 y (by simp)
  simp only[Nat.add_zero,show(a::l).getD 0 d=a from rfl]at h1
  unfold forE
  show _=forN b' f' (l.length+1) ↑k y
  unfold forN
  rw[h1]
  cases b' ↑k y with
  | inr r=>rfl
  | inl y'=>
   have e:((k:Nat):Int)+1=↑(k+1):=by omega
   dsimp only
   rw[e]
   refine forE_forN (d:=d) l (k+1) y' (fun j y hj=> ?_) (fun y=> ?_)
   ·have q:=hb (j+1) y (by simp;omega)
    rw[show k+(j+1)=k+1+j by omega]at q
    exact q
   ·have q:=hf y
    rw[show k+(a::l).length=k+1+l.length by simp only[List.length_cons];omega]at q
    exact q
end
section
theorem parts_no {c:UInt8}:∀{v:List UInt8},(∀x∈v,(x==c)=false)->partsB c v=[v]
 | [],_=>rfl
 | x::v,h=>by rw[partsB_no (h x (by simp)),parts_no fun y hy=>h y (by simp[hy])]
theorem parts_last {c:UInt8}{v:List UInt8}(hv:∀x∈v,(x==c)=false):∀u:List UInt8,partsB c (u++c::v)=partsB c u++[v]
 | []=>by rw[List.nil_append,partsB_yes (by simp),parts_no hv];rfl
 | x::u=>by
  have ih:=parts_last hv u
  rw[List.cons_append]
  cases hx:x==c with
  | true=>rw[partsB_yes hx,partsB_yes hx,ih];rfl
  | false=>
   rw[partsB_no hx,partsB_no hx,ih]
   cases hp:partsB c u with
   | nil=>exact absurd hp (partsB_ne c u)
   | cons p ps=>rfl
end
theorem and_high (b:Nat):b &&& 0x7ff0000000000000=((b / 2 ^ 52) % 2 ^ 11)*2 ^ 52:=by
 have e:(0x7ff0000000000000:Nat)=(2 ^ 11 - 1) <<< 52:=by decide
 rw[e,<-Nat.shiftLeft_eq]
 apply Nat.eq_of_testBit_eq
 intro i
 rw[Nat.testBit_and,Nat.testBit_shiftLeft,Nat.testBit_shiftLeft,Nat.testBit_mod_two_pow,Nat.testBit_two_pow_sub_one,Nat.testBit_div_two_pow]
 by_cases h:52<=i
 ·simp only[ge_iff_le,h,decide_true,Bool.true_and,show i - 52+52=i by omega]
  exact Bool.and_comm _ _
 ·simp[h]
theorem class0 (b:Nat)(h:b < 2 ^ 64):(b &&& 0x7ff0000000000000=0x7ff0000000000000/\¬(b &&& 0xfffffffffffff=0)) ↔ 0x7ff0000000000000 < b % 0x8000000000000000:=by
 have e2:b &&& 0xfffffffffffff=b % 2 ^ 52:=Nat.and_two_pow_sub_one_eq_mod b 52
 rw[and_high,e2]
 omega
def CutAt (c:UInt8)(s:List UInt8)(r:List UInt8×List UInt8):Prop:=
 (r.1=[]/\r.2=s/\∀x∈s,(x==c)=false)\/(s=r.1++c::r.2/\∀x∈r.2,(x==c)=false)
theorem usable_loop {c:UInt8}{isW:List UInt8->Bool}{sp:List UInt8->List UInt8×List UInt8}(h0:isW []=false)(hs:∀y,y.length<=120->CutAt c y (sp y)){b:Int->List UInt8->List UInt8⊕Bool}
  (hb:∀i y,b i y=bif y==[]then .inr true else bif isW (sp y).2 then .inr false else .inl (sp y).1):∀(n:Nat) (i:Int) (y:List UInt8),y.length<=n->n<=120->forN b (fun _ _=>true) n i y= !(partsB c y).any isW
 | 0,i,[],_,_=>by simp[forN,partsB,h0]
 | n+1,i,y,h,hn=>by
  unfold forN
  rw[hb]
  cases y with
  | nil=>simp[partsB,h0]
  | cons a y=>
   have e:((a::y)==[])=false:=rfl
   rw[e,cond_false]
   generalize hy:a::y=w at*
   rcases hs w (by omega)with⟨h1,h2,h3⟩ | ⟨h1,h2⟩
   ·rw[h1,h2,parts_no h3]
    cases hw:isW w with
    | true=>simp[hw]
    | false=>
     have q:=usable_loop (c:=c) h0 hs hb n (i+1) [] (by simp) (by omega)
     simp only[cond_false]
     rw[q]
     simp[partsB,h0,hw]
   ·have hl:(sp w).1.length<=n:=by
     have:=congrArg List.length h1
     rw[List.length_append,List.length_cons]at this
     omega
    have q:=usable_loop (c:=c) h0 hs hb n (i+1) (sp w).1 hl (by omega)
    have k:=parts_last h2 (sp w).1
    rw[<-h1]at k
    rw[k]
    cases hw:isW (sp w).2 with
    | true=>simp[hw]
    | false=>simp only[cond_false];rw[q];simp[hw]
theorem cut_whN {c:UInt8}{s:List UInt8}{step:Int->Int⊕(List UInt8×List UInt8)}(hstep:∀x:Int,-1<=x->x < s.length->step x=bif decide (0<=x)then bif s.getD x.toNat 0==c then .inr (s.take x.toNat,s.drop (x.toNat+1))else .inl (x - 1)else .inr ([],s))(r0:List UInt8×List UInt8)(n:Nat)(hn:s.length < n):
  CutAt c s (whN step r0 n ((s.length:Int) - 1)):=by
 refine whN_post (fun(x:Int)=> -1<=x/\x < s.length/\∀j:Nat,x < j->j < s.length->(s.getD j 0==c)=false) (fun(x:Int)=>(x+1).toNat) (fun r=>CutAt c s r) (fun x hx=> ?_) n ((s.length:Int) - 1) ⟨by omega,by omega,fun j h1 h2=>by omega⟩ (by omega)
 obtain⟨h1,h2,h3⟩:=hx
 rw[hstep x h1 h2]
 by_cases h0:0<=x
 ·rw[decide_eq_true h0,cond_true]
  obtain⟨k,rfl⟩:=Int.eq_ofNat_of_zero_le h0
  simp only[Int.toNat_natCast]
  cases hx:s.getD k 0==c with
  | true=>
   refine .inr ⟨_,rfl, .inr ⟨?_,fun x hm=> ?_⟩⟩
   ·have hk:k < s.length:=by omega
    have hc:s.getD k 0=c:=eq_of_beq hx
    have e:s.getD k 0=s[k]:=by simp[List.getD,hk]
    rw[<-hc,e]
    simp
   ·obtain⟨i,hi,rfl⟩:=List.mem_iff_getElem.1 hm
    simp only[List.length_drop]at hi
    have:=h3 (k+1+i) (by omega) (by omega)
    simpa[List.getD,show k+1+i < s.length by omega]using this
  | false=>
   refine .inl ⟨_,rfl,⟨by omega,by omega,fun j a1 a2=> ?_⟩,by omega⟩
   by_cases hj:j=k
   ·subst hj;exact hx
   ·exact h3 j (by omega) a2
 ·rw[decide_eq_false h0,cond_false]
  refine .inr ⟨_,rfl, .inl ⟨rfl,rfl,fun y hm=> ?_⟩⟩
  obtain⟨i,hi,rfl⟩:=List.mem_iff_getElem.1 hm
  have:=h3 i (by omega) hi
  simpa[List.getD,hi]using this
section
variable {α:Type}[DecidableEq α]
abbrev Rules (α:Type):=List (α×((α->Bool)->Bool))
def setT (X:α->Bool)(n:α):α->Bool:=fun a=>decide (a=n) || X a
def ruleS (X:α->Bool)(r:α×((α->Bool)->Bool)):α->Bool:=bif r.2 X then setT X r.1 else X
def passR (R:Rules α)(X:α->Bool):α->Bool:=R.foldl ruleS X
def LeB (X Y:α->Bool):Prop:=∀a,X a=true->Y a=true
def MonoR (R:Rules α):Prop:=∀r∈R,∀X Y,LeB X Y->r.2 X=true->r.2 Y=true
def ClosedR (R:Rules α)(C:α->Bool):Prop:=∀r∈R,r.2 C=true->C r.1=true
theorem ruleS_up (X:α->Bool)(r:α×((α->Bool)->Bool)):LeB X (ruleS X r):=fun a h=>by
 unfold ruleS
 cases r.2 X<;>simp[setT,h]
theorem passR_up:∀(R:Rules α) (X:α->Bool),LeB X (passR R X)
 | [],X=>fun a h=>h
 | r::R,X=>fun a h=>passR_up R (ruleS X r) a (ruleS_up X r a h)
theorem passR_sound {R:Rules α}{C:α->Bool}(hm:MonoR R)(hc:ClosedR R C):∀(R':Rules α) (X:α->Bool),(∀r∈R',r∈R)->LeB X C->LeB (passR R' X) C
 | [],X,_,h=>h
 | r::R',X,hR,h=>by
  refine passR_sound hm hc R' (ruleS X r) (fun q hq=>hR q (by simp[hq])) fun a ha=> ?_
  unfold ruleS at ha
  cases hx:r.2 X with
  | false=>rw[hx]at ha;exact h a ha
  | true=>
   rw[hx]at ha
   simp only[cond_true,setT,Bool.or_eq_true,decide_eq_true_eq]at ha
   rcases ha with rfl | ha
   ·exact hc r (hR r (by simp)) (hm r (hR r (by simp)) X C h hx)
   ·exact h a ha
theorem passR_fix:∀(R:Rules α) (X:α->Bool),LeB (passR R X) X->ClosedR R X
 | [],X,_=>fun r hr=>by cases hr
 | r::R,X,h=>by
  have e:ruleS X r=X:=funext fun a=>by
   cases hx:X a with
   | true=>exact ruleS_up X r a hx
   | false=>
    cases hy:ruleS X r a with
    | false=>rfl
    | true=>rw[h a (passR_up R _ a hy)]at hx;cases hx
  have h':LeB (passR R X) X:=by
   have k:passR (r::R) X=passR R (ruleS X r):=rfl
   rw[k,e]at h
   exact h
  intro q hq hx
  rcases List.mem_cons.1 hq with rfl | hq
  ·rw[<-e];unfold ruleS;rw[hx];simp[setT]
  ·exact passR_fix R X h' q hq hx
def cntR (R:Rules α)(X:α->Bool):Nat:=R.countP fun r=>X r.1
end
section
variable {α:Type}
theorem cntR_le (R:Rules α)(X:α->Bool):cntR R X<=R.length:=List.countP_le_length
theorem cnt_mono {R:Rules α}{X Y:α->Bool}(h:LeB X Y):cntR R X<=cntR R Y:=List.countP_mono_left fun r _ hr=>h _ hr
theorem cnt_lt {X Y:α->Bool}(h:LeB X Y):∀{R:Rules α} {r:α×((α->Bool)->Bool)},r∈R->X r.1=false->Y r.1=true->cntR R X < cntR R Y
 | q::R,r,hr,hx,hy=>by
  have m:=cnt_mono (R:=R) h
  unfold cntR at m⊢
  rw[List.countP_cons,List.countP_cons]
  rcases List.mem_cons.1 hr with rfl | hr
  ·simp only[hx,hy,Bool.false_eq_true,if_false,if_true];omega
  ·have l:=cnt_lt h hr hx hy
   unfold cntR at l
   have k:(if X q.1=true then 1 else 0)<=(if Y q.1=true then 1 else 0):=by
    by_cases hq:X q.1=true
    ·rw[if_pos hq,if_pos (h _ hq)];omega
    ·rw[if_neg hq];omega
   omega
end
section
variable {α:Type}[DecidableEq α]
theorem rule_new {X:α->Bool}{r:α×((α->Bool)->Bool)}{a:α}(h:ruleS X r a=true)(hx:X a=false):a=r.1:=by
 unfold ruleS at h
 cases hr:r.2 X with
 | false=>rw[hr]at h;rw[show X a=true from h]at hx;cases hx
 | true=>
  rw[hr]at h
  simp only[cond_true,setT,Bool.or_eq_true,decide_eq_true_eq,hx,Bool.false_eq_true,or_false]at h
  exact h
theorem pass_new:∀(R:Rules α) (X:α->Bool) (a:α),passR R X a=true->X a=false->∃r∈R,r.1=a
 | [],X,a,h,hx=>by rw[show X a=true from h]at hx;cases hx
 | r::R,X,a,h,hx=>by
  cases hy:ruleS X r a with
  | true=>exact⟨r,by simp,(rule_new hy hx).symm⟩
  | false=>
   obtain⟨q,hq,e⟩:=pass_new R (ruleS X r) a h hy
   exact⟨q,by simp[hq],e⟩
theorem pass_more {R:Rules α}{X:α->Bool}(h:¬LeB (passR R X) X):cntR R X < cntR R (passR R X):=by
 obtain⟨a,ha⟩:∃a,¬(passR R X a=true->X a=true):=Classical.not_forall.1 h
 have h1:passR R X a=true:=Classical.byContradiction fun k=>ha fun q=>absurd q k
 have h2:X a=false:=by cases hx:X a with
  | false=>rfl
  | true=>exact absurd (fun _=>hx) ha
 obtain⟨r,hr,e⟩:=pass_new R X a h1 h2
 subst e
 exact cnt_lt (passR_up R X) hr h2 h1
def iterR (R:Rules α):Nat->(α->Bool)->(α->Bool)
 | 0,X=>X
 | n+1,X=>iterR R n (passR R X)
theorem pass_eq {R:Rules α}{X:α->Bool}(h:LeB (passR R X) X):passR R X=X:=funext fun a=>by
 cases hx:X a with
 | true=>exact passR_up R X a hx
 | false=>cases hy:passR R X a with
  | false=>rfl
  | true=>rw[h a hy]at hx;cases hx
theorem iterR_fix {R:Rules α}{X:α->Bool}(h:LeB (passR R X) X):∀n,iterR R n X=X
 | 0=>rfl
 | n+1=>by unfold iterR;rw[pass_eq h];exact iterR_fix h n
theorem iterR_closed {R:Rules α}:∀(n:Nat) (X:α->Bool),R.length<=n+cntR R X->ClosedR R (iterR R n X)
 | 0,X,h=>fun r hr _=>by
  have k:=cntR_le R X
  exact List.countP_eq_length.1 (show R.countP (fun r=>X r.1)=R.length from by unfold cntR at*;omega) r hr
 | n+1,X,h=>by
  by_cases hs:LeB (passR R X) X
  ·rw[iterR_fix hs];exact passR_fix R X hs
  ·have k:=pass_more hs
   exact iterR_closed n (passR R X) (by omega)
theorem iterR_sound {R:Rules α}{C:α->Bool}(hm:MonoR R)(hc:ClosedR R C):∀(n:Nat) (X:α->Bool),LeB X C->LeB (iterR R n X) C
 | 0,X,h=>h
 | n+1,X,h=>iterR_sound hm hc n _ (passR_sound hm hc R X (fun _ h=>h) h)
end
section
variable {A S:Type}
theorem not_any {l:List S}{f g:S->Bool}:(!l.any fun n=>f n && !g n)=true ↔ ∀n∈l,f n=true->g n=true:=by
 rw[Bool.not_eq_true',List.any_eq_false]
 refine⟨fun h n hn hf=> ?_,fun h n hn k=> ?_⟩
 ·have k:=h n hn
  rw[hf]at k
  cases hg:g n with
  | true=>rfl
  | false=>rw[hg]at k;exact absurd rfl k
 ·rw[Bool.and_eq_true]at k
  rw[h n hn k.1]at k
  exact absurd k.2 (by decide)
def rulesN (M:List A)(nm:A->S)(nd:A->List S)(has:S->Bool)(fst:S->A):Rules S:=M.map fun m=>(nm m,fun X=> !(nd (fst (nm m))).any fun n=>has n && !X n)
def rulesI (len:Nat)(at_:Nat->A)(nd:A->List S)(has:S->Bool)(ix:S->Nat):Rules Nat:=(List.range len).map fun i=>(i,fun X=> !(nd (at_ i)).any fun n=>has n && !X (ix n))
theorem monoN (M:List A)(nm:A->S)(nd:A->List S)(has:S->Bool)(fst:S->A):MonoR (rulesN M nm nd has fst):=by
 intro r hr X Y hXY h
 obtain⟨m,_,rfl⟩:=List.mem_map.1 hr
 exact not_any.2 fun n hn hh=>hXY n (not_any.1 h n hn hh)
theorem monoI (len:Nat)(at_:Nat->A)(nd:A->List S)(has:S->Bool)(ix:S->Nat):MonoR (rulesI len at_ nd has ix):=by
 intro r hr X Y hXY h
 obtain⟨i,_,rfl⟩:=List.mem_map.1 hr
 exact(not_any (g:=fun n=>Y (ix n))).2 fun n hn hh=>hXY _ ((not_any (g:=fun n=>X (ix n))).1 h n hn hh)
end
section
variable {A S:Type}[DecidableEq S]
theorem fin_agree (M:List A)(d:A)(nm:A->S)(nd:A->List S)(has:S->Bool)(ix:S->Nat)(fst:S->A)
  (h1:∀n,has n=true->ix n < M.length/\nm (M.getD (ix n) d)=n) (h2:∀i,i < M.length->has (nm (M.getD i d))=true)
  (h3:∀n,has n=true->fst n=M.getD (ix n) d) (a b:Nat) (ha:M.length<=a) (hb:M.length<=b) (n:S) (hn:has n=true):
  iterR (rulesN M nm nd has fst) a (fun _=>false) n=iterR (rulesI M.length (fun i=>M.getD i d) nd has ix) b (fun _=>false) (ix n):=by
 have cF:=iterR_closed (R:=rulesN M nm nd has fst) a (fun _=>false) (by unfold rulesN;rw[List.length_map];omega)
 have cG:=iterR_closed (R:=rulesI M.length (fun i=>M.getD i d) nd has ix) b (fun _=>false) (by unfold rulesI;rw[List.length_map,List.length_range];omega)
 generalize hF:iterR (rulesN M nm nd has fst) a (fun _=>false)=F at cF
 generalize hG:iterR (rulesI M.length (fun i=>M.getD i d) nd has ix) b (fun _=>false)=G at cG
 have k1:LeB F (fun n=> !has n || G (ix n)):=by
  rw[<-hF]
  refine iterR_sound (monoN M nm nd has fst) (fun r hr h=> ?_) a _ (fun _ h=>by cases h)
  obtain⟨m,hm,rfl⟩:=List.mem_map.1 hr
  obtain⟨i,hi,rfl⟩:=List.mem_iff_getElem.1 hm
  have e:M[i]=M.getD i d:=by rw[List.getD_eq_getElem?_getD,List.getElem?_eq_getElem hi];rfl
  have hh:=h2 i hi
  rw[<-e]at hh
  dsimp only at h⊢
  rw[hh,Bool.not_true,Bool.false_or]
  have hlt:=(h1 _ hh).1
  refine cG (ix (nm M[i]),fun X=> !(nd (M.getD (ix (nm M[i])) d)).any fun n=>has n && !X (ix n)) (List.mem_map.2 ⟨ix (nm M[i]),List.mem_range.2 hlt,rfl⟩) ?_
  dsimp only
  refine(not_any (g:=fun n=>G (ix n))).2 fun n hn hs=> ?_
  rw[<-h3 _ hh]at hn
  have q:=(not_any (g:=fun n=> !has n || G (ix n))).1 h n hn hs
  rw[hs]at q
  exact q
 have k2:LeB G (fun i=>decide (i≠ix (nm (M.getD i d))) || F (nm (M.getD i d))):=by
  rw[<-hG]
  refine iterR_sound (monoI M.length (fun i=>M.getD i d) nd has ix) (fun r hr h=> ?_) b _ (fun _ h=>by cases h)
  obtain⟨i,hi,rfl⟩:=List.mem_map.1 hr
  have hi:=List.mem_range.1 hi
  dsimp only at h⊢
  by_cases hx:i=ix (nm (M.getD i d))
  ·rw[decide_eq_false (fun k=>k hx),Bool.false_or]
   have e:M[i]=M.getD i d:=by rw[List.getD_eq_getElem?_getD,List.getElem?_eq_getElem hi];rfl
   refine cF (nm (M.getD i d),fun X=> !(nd (fst (nm (M.getD i d)))).any fun n=>has n && !X n) (List.mem_map.2 ⟨M.getD i d,e▸List.getElem_mem hi,rfl⟩) ?_
   dsimp only
   refine not_any.2 fun n hn hs=> ?_
   rw[h3 _ (h2 i hi),<-hx]at hn
   have q:=(not_any (g:=fun n=>decide (ix n≠ix (nm (M.getD (ix n) d))) || F (nm (M.getD (ix n) d)))).1 h n hn hs
   rw[(h1 n hs).2,decide_eq_false (fun k=>k rfl),Bool.false_or]at q
   exact q
  ·rw[decide_eq_true hx,Bool.true_or]
 cases hx:F n with
 | true=>
  have q:(!has n || G (ix n))=true:=k1 n hx
  rw[hn]at q
  exact q.symm
 | false=>
  cases hy:G (ix n)with
  | false=>rfl
  | true=>
   have q:(decide (ix n≠ix (nm (M.getD (ix n) d))) || F (nm (M.getD (ix n) d)))=true:=k2 _ hy
   rw[(h1 n hn).2,decide_eq_false (fun k=>k rfl),Bool.false_or]at q
   rw[hx]at q
   exact q
end
section
variable {A B Y Z R R' X:Type}
theorem forE_at {b:Nat->A->Unit->Unit⊕R}{f:Nat->Unit->R}{p:A->Bool}{g:Nat->R}{z:R}:∀(l:List A) (k:Nat),(∀j a,l[j]? =some a->b (k+j) a ()=bif p a then .inr (g (k+j))else .inl ())->f (k+l.length) ()=z->forE b f l k ()=bif decide (0<=ixFrom p l k)then g (ixFrom p l k).toNat else z
 | [],k,_,hf=>hf
 | a::l,k,hb,hf=>by
  have h0:=hb 0 a rfl
  unfold forE ixFrom
  rw[Nat.add_zero]at h0
  rw[h0]
  cases p a with
  | true=>simp
  | false=>exact forE_at l (k+1) (fun j a h=>by rw[Nat.add_assoc,Nat.add_comm 1 j];exact hb (j+1) a h) (by rw[Nat.add_assoc,Nat.add_comm 1];exact hf)
def anyF (p:Nat->A->Bool):List A->Nat->Bool
 | [],_=>false
 | a::l,k=>p k a || anyF p l (k+1)
def foldF (g:Nat->A->Y->Y):List A->Nat->Y->Y
 | [],_,y=>y
 | a::l,k,y=>foldF g l (k+1) (g k a y)
theorem forE_exit {b:Nat->A->Y->Y⊕R}{f:Nat->Y->R}{p:Nat->A->Bool}{g:Nat->A->Y->Y}{r:R}:∀(l:List A) (k:Nat) (y:Y),(∀j a y,l[j]? =some a->b (k+j) a y=bif p (k+j) a then .inr r else .inl (g (k+j) a y))->forE b f l k y=bif anyF p l k then r else f (k+l.length) (foldF g l k y)
 | [],k,y,_=>rfl
 | a::l,k,y,hb=>by
  have h0:=hb 0 a y rfl
  unfold forE anyF foldF
  rw[Nat.add_zero]at h0
  rw[h0]
  cases p k a with
  | true=>rfl
  | false=>
   have q:=forE_exit (f:=f) l (k+1) (g k a y) (fun j a y h=>by rw[Nat.add_assoc,Nat.add_comm 1 j];exact hb (j+1) a y h)
   rw[show k+1+l.length=k+(a::l).length by simp only[List.length_cons];omega]at q
   exact q
theorem anyF_any (p:A->Bool):∀(l:List A) (k:Nat),anyF (fun _ a=>p a) l k=l.any p
 | [],_=>rfl
 | a::l,k=>by unfold anyF;rw[List.any_cons,anyF_any p l (k+1)]
theorem foldF_any (p:A->Bool)(n:Nat):∀(l:List A) (k:Nat) (y:Bool),foldF (fun j a y=>bif decide (j < n)then bif p a then true else y else y) l k y=(y || (l.take (n - k)).any p)
 | [],k,y=>by simp[foldF]
 | a::l,k,y=>by
  unfold foldF
  rw[foldF_any p n l (k+1)]
  by_cases h:k < n
  ·rw[decide_eq_true h,cond_true,show n - k=(n - (k+1))+1 by omega,List.take_succ_cons,List.any_cons]
   cases p a<;>cases y<;>rfl
  ·rw[decide_eq_false h,cond_false,show n - k=0 by omega,show n - (k+1)=0 by omega]
   simp
theorem pass_sim {A Y α:Type}[DecidableEq α]{abs:Y->α->Bool}{I:Y->Prop}{g:Y->A->Y}{r:A->α×((α->Bool)->Bool)}:∀(l:List A) (y:Y),I y->(∀a∈l,∀y,I y->I (g y a)/\abs (g y a)=ruleS (abs y) (r a))->I (l.foldl g y)/\abs (l.foldl g y)=passR (l.map r) (abs y)
 | [],y,hi,_=>⟨hi,rfl⟩
 | a::l,y,hi,h=>by
  have h0:=h a (by simp) y hi
  have q:=pass_sim l (g y a) h0.1 fun b hb=>h b (by simp[hb])
  refine⟨q.1,?_⟩
  show abs (l.foldl g (g y a))=passR (l.map r) (ruleS (abs y) (r a))
  rw[q.2,h0.2]
theorem put_abs (l:List (List UInt8×Bool))(k:List UInt8):(fun n=>kvGet false (kvPut l k true) n)=setT (fun n=>kvGet false l n) k:=funext fun n=>by
 rw[kvGet_put]
 unfold setT
 by_cases h:n=k<;>simp[h]
theorem set_abs (l:List Bool)(i:Nat)(h:i < l.length):(fun n=>(l.set i true).getD n false)=setT (fun n=>l.getD n false) i:=funext fun n=>by
 unfold setT
 by_cases e:n=i
 ·subst e;simp[List.getD,h]
 ·simp[List.getD,List.getElem?_set,e,Ne.symm e]
theorem ruleS_done {α:Type}[DecidableEq α](X:α->Bool)(i:α)(h:X i=true):setT X i=X:=funext fun a=>by
 unfold setT
 by_cases e:a=i
 ·subst e;simp[h]
 ·simp[e]
end
section
variable {A B Y Z R R' X:Type}
def iterF (g:Y->Y):Nat->Y->Y
 | 0,y=>y
 | n+1,y=>iterF g n (g y)
theorem forN_iter {b:Int->Y->Y⊕R}{f:Int->Y->R}{g:Y->Y}(hb:∀i y,b i y= .inl (g y)):∀(n:Nat) (i:Int) (y:Y),forN b f n i y=f (i+n) (iterF g n y)
 | 0,i,y=>by show f i y=f (i+((0:Nat):Int)) y;rw[show i+((0:Nat):Int)=i by omega]
 | n+1,i,y=>by
  unfold forN iterF
  rw[hb]
  dsimp only
  rw[forN_iter hb n (i+1) (g y),show i+1+(n:Int)=i+((n+1:Nat):Int) by omega]
theorem iter_sim {α:Type}[DecidableEq α]{abs:Y->α->Bool}{I:Y->Prop}{g:Y->Y}{Rs:Rules α}(hg:∀y,I y->I (g y)/\abs (g y)=passR Rs (abs y)):∀(n:Nat) (y:Y),I y->abs (iterF g n y)=iterR Rs n (abs y)
 | 0,y,_=>rfl
 | n+1,y,hi=>by
  have h:=hg y hi
  unfold iterF iterR
  rw[iter_sim hg n (g y) h.1,h.2]
theorem more_sim {α:Type}[DecidableEq α]{abs:Y->α->Bool}{I:Y->Prop}{g:Y->Bool×Y}{Rs:Rules α}{b:Int->Bool×Y->(Bool×Y)⊕R}{f:Int->Bool×Y->R}{F:Y->R}(hb:∀i m y,I y->b i (m,y)=bif m then .inl (g y)else .inr (F y))(hf:∀i m y,f i (m,y)=F y)
  (hg:∀y,I y->I (g y).2/\abs (g y).2=passR Rs (abs y)/\((g y).1=false->abs (g y).2=abs y)):∀(n:Nat) (i:Int) (m:Bool) (y:Y),I y->(m=false->passR Rs (abs y)=abs y)->∃y',forN b f n i (m,y)=F y'/\I y'/\abs y'=iterR Rs n (abs y)
 | 0,i,m,y,hi,_=>⟨y,hf i m y,hi,rfl⟩
 | n+1,i,m,y,hi,hm=>by
  unfold forN
  rw[hb i m y hi]
  cases m with
  | false=>
   refine⟨y,rfl,hi,?_⟩
   rw[iterR_fix (fun a h=>by rw[hm rfl]at h;exact h)]
  | true=>
   obtain⟨h1,h2,h3⟩:=hg y hi
   obtain⟨y',q1,q2,q3⟩:=more_sim hb hf hg n (i+1) (g y).1 (g y).2 h1 fun hm=>by
    rw[h3 hm,<-h2,h3 hm]
   refine⟨y',q1,q2,?_⟩
   rw[q3,h2]
   rfl
theorem pass_more_sim {A α:Type}[DecidableEq α]{abs:Y->α->Bool}{I:Y->Prop}{g:Bool×Y->A->Bool×Y}{r:A->α×((α->Bool)->Bool)}:∀(l:List A) (m:Bool) (y:Y),I y->(∀a∈l,∀m y,I y->I (g (m,y) a).2/\abs (g (m,y) a).2=ruleS (abs y) (r a)/\((g (m,y) a).1=false->m=false/\abs (g (m,y) a).2=abs y))->
  I (l.foldl g (m,y)).2/\abs (l.foldl g (m,y)).2=passR (l.map r) (abs y)/\((l.foldl g (m,y)).1=false->m=false/\abs (l.foldl g (m,y)).2=abs y)
 | [],m,y,hi,_=>⟨hi,rfl,fun h=>⟨h,rfl⟩⟩
 | a::l,m,y,hi,h=>by
  obtain⟨h1,h2,h3⟩:=h a (by simp) m y hi
  obtain⟨q1,q2,q3⟩:=pass_more_sim l (g (m,y) a).1 (g (m,y) a).2 h1 fun b hb=>h b (by simp[hb])
  refine⟨q1,?_,fun hm=> ?_⟩
  ·show abs (l.foldl g (g (m,y) a)).2=passR (l.map r) (ruleS (abs y) (r a))
   rw[<-h2]
   exact q2
  ·obtain⟨k1,k2⟩:=q3 hm
   obtain⟨k3,k4⟩:=h3 k1
   exact⟨k3,Eq.trans k2 k4⟩
end
def okVal (v:AVal):Prop:=0<=v.Bits/\v.Bits < 18446744073709551616/\v.Text.length<=1048576/\v.List.length<=1048576/\v.Pairs.length<=1048576/\v.Slots.length<=1048576/\v.Raws.length<=1048576
theorem uval_eq (s:Str):uvalidP s=rvalidP s:=rfl
theorem texty_eq (k:Int):sTextyP k=r4textsP k:=rfl
theorem sIs_eq (k:Int):sIsP k=r4isP k:=rfl
theorem lone_eq (v:AVal):r4loneP v=decide ((v.List.length:Int)+v.Pairs.length+v.Slots.length+v.Raws.length=0):=by
 unfold r4loneP r4lone
 simp only[val_br,val_ret,Bool.cond_eq_ite,beq_iff_eq]
 (repeat' split)<;>(symm;first | (rw[decide_eq_false_iff_not];omega) | (rw[Bool.beq_eq_decide_eq,decide_eq_decide];omega) | (rw[beq_eq_decide,decide_eq_decide];omega) | (apply Bool.eq_iff_iff.2;simp only[decide_eq_true_eq,beq_iff_eq];omega))
theorem lean_eq (v:AVal)(h:okVal v):sLeanP v=(bif r4loneP v then bif r4textsP v.Kind then v.Bits==0 else v.Text==[]else false):=by
 obtain⟨_,_,_,h1,h2,h3,h4⟩:=h
 have w:∀x:Int,0<=x->x<=16777216->wrp .i64 x=x:=fun x _ _=>wrp_in (k:= .i64) (by simp only[InR];omega)
 unfold sLeanP sLean
 simp only[val_as,val_lt,val_br,val_ret,texty_eq]
 rw[w ((v.List.length:Int)+v.Pairs.length) (by omega) (by omega),w (_+(v.Slots.length:Int)) (by omega) (by omega),w (_+(v.Raws.length:Int)) (by omega) (by omega),lone_eq]
 by_cases h0:(v.List.length:Int)+v.Pairs.length+v.Slots.length+v.Raws.length=0
 ·rw[decide_eq_true h0,decide_eq_false (by omega)];rfl
 ·rw[decide_eq_false h0,decide_eq_true (by omega)];rfl
theorem sFits_eq (k:Int)(v:AVal)(h:okVal v):sFitsP k v=r4fitsP k v:=by
 unfold sFitsP sFits r4fitsP r4fits
 simp only[val_br,val_ret,val_ob,val_lt,AVal.re_eq,lean_eq v h,uval_eq,sIs_eq]
 cases r4isP k with
 | false=>rfl
 | true=>
  cases hk:v.Kind !=k with
  | true=>rfl
  | false=>
   have hk:v.Kind=k:=by simpa using hk
   cases r4loneP v with
   | false=>rfl
   | true=>
    unfold sWithinP sWithin r4textsP r4texts
    simp only[val_br,val_ret,val_lt,hk,Bool.not_true,cond_false,cond_true]
    by_cases k7:k=7
    ·subst k7
     by_cases hl:(v.Text.length:Int)<=4096
     ·rw[decide_eq_true hl,decide_eq_false (show ¬(4096:Int) < (v.Text.length:Int) by omega)]
      cases v.Bits==0<;>rfl
     ·rw[decide_eq_false hl,decide_eq_true (show(4096:Int) < (v.Text.length:Int) by omega)]
      cases v.Bits==0<;>rfl
    ·by_cases k8:k=8
     ·subst k8
      by_cases hl:(v.Text.length:Int)<=4096
      ·rw[decide_eq_true hl,decide_eq_false (show ¬(4096:Int) < (v.Text.length:Int) by omega)]
       cases v.Bits==0<;>rfl
      ·rw[decide_eq_false hl,decide_eq_true (show(4096:Int) < (v.Text.length:Int) by omega)]
       cases v.Bits==0<;>rfl
     ·have e7:(k==7)=false:=beq_eq_false_iff_ne.2 k7
      have e8:(k==8)=false:=beq_eq_false_iff_ne.2 k8
      have n7:(k !=7)=true:=by simp[k7]
      simp only[e7,e8,n7,cond_false,cond_true]
      by_cases ht:v.Text=[]
      ·have l0:¬(4096:Int) < (v.Text.length:Int):=by rw[ht];simp
       have b1:(v.Text==[])=true:=by rw[ht];rfl
       have b2:(v.Text !=[])=false:=by rw[ht];rfl
       rw[b1,b2,decide_eq_false l0]
       simp only[Bool.not_true,cond_false]
       by_cases k1:k=1
       ·subst k1;simp
       ·by_cases k2:k=2
        ·subst k2;simp
        ·have e1:(k==1)=false:=beq_eq_false_iff_ne.2 k1
         have e2:(k==2)=false:=beq_eq_false_iff_ne.2 k2
         simp only[e1,e2,cond_false]
         by_cases k4:k=4
         ·subst k4
          by_cases hb:v.Bits<=4294967295<;>simp[hb]<;>omega
         ·have e4:(k==4)=false:=beq_eq_false_iff_ne.2 k4
          simp only[e4,cond_false]
          by_cases k9:k=9
          ·subst k9
           by_cases hb:v.Bits<=2147483647<;>simp[hb]<;>omega
          ·have e9:(k==9)=false:=beq_eq_false_iff_ne.2 k9
           simp[e9]
      ·have b1:(v.Text==[])=false:=beq_eq_false_iff_ne.2 ht
       have b2:(v.Text !=[])=true:=by simp[ht]
       rw[b1,b2]
       rfl
theorem class_eq (b:Int)(h0:0<=b)(h1:b < 18446744073709551616):(sClassP b==0)=(r4classP b==0):=by
 obtain⟨n,rfl⟩:=Int.eq_ofNat_of_zero_le h0
 have hn:n < 2 ^ 64:=by omega
 have a1:andI .u64 (n:Int) 9218868437227405312=((n &&& 9218868437227405312:Nat):Int):=andI_nat (k:= .u64) rfl hn (by decide)
 have a2:andI .u64 (n:Int) 4503599627370495=((n &&& 4503599627370495:Nat):Int):=andI_nat (k:= .u64) rfl hn (by decide)
 have c:=class0 n hn
 have m:(n:Int).tmod 9223372036854775808=((n % 9223372036854775808:Nat):Int):=rfl
 unfold sClassP sClass r4classP r4class
 simp only[val_br,val_ret,val_ob,a1,a2,m,Bool.cond_eq_ite,beq_iff_eq,bne_iff_ne,decide_eq_true_eq,ne_eq]
 have c':((((n &&& 9218868437227405312:Nat):Int)=9218868437227405312)/\¬(((n &&& 4503599627370495:Nat):Int)=0)) ↔ (9218868437227405312:Int) < ((n % 9223372036854775808:Nat):Int):=by
  have d1:(((n &&& 9218868437227405312:Nat):Int)=9218868437227405312) ↔ n &&& 0x7ff0000000000000=0x7ff0000000000000:=by
   show _ ↔ n &&& 9218868437227405312=9218868437227405312
   omega
  have d2:(((n &&& 4503599627370495:Nat):Int)=0) ↔ n &&& 0xfffffffffffff=0:=by
   show _ ↔ n &&& 4503599627370495=0
   omega
  rw[d1,d2,c]
  show 9218868437227405312 < n % 9223372036854775808 ↔ _
  omega
 by_cases r:(9218868437227405312:Int) < ((n % 9223372036854775808:Nat):Int)
 ·obtain⟨p,q⟩:=c'.2 r
  rw[if_pos p,if_pos q,if_pos r]
 ·rw[if_neg r]
  by_cases p:((n &&& 9218868437227405312:Nat):Int)=9218868437227405312
  ·have q:((n &&& 4503599627370495:Nat):Int)=0:=Decidable.byContradiction fun q=>r (c'.1 ⟨p,q⟩)
   rw[if_pos p,if_neg (by rw[q];exact fun k=>k rfl),if_pos p]
   (repeat' split)<;>rfl
  ·rw[if_neg p,if_neg p]
   (repeat' split)<;>rfl
theorem norm_eq (v:AVal)(h:okVal v):sNormP v=r4normP v:=by
 unfold sNormP sNorm r4normP r4norm
 simp only[val_br,val_ret,class_eq v.Bits h.1 h.2.1]
theorem same0 (v:AVal)(h:okVal v)(w:AVal)(hw:w.List.length=v.List.length/\w.Pairs.length=v.Pairs.length/\w.Slots.length=v.Slots.length/\w.Raws.length=v.Raws.length):r9sameP v w=(v.Kind==w.Kind && (v.Bits==w.Bits && (v.Text==w.Text && r4loneP v))):=by
 obtain⟨_,_,_,h1,h2,h3,h4⟩:=h
 have ww:∀x:Int,0<=x->x<=16777216->wrp .i64 x=x:=fun x _ _=>wrp_in (k:= .i64) (by simp only[InR];omega)
 unfold r9sameP r9same
 simp only[val_as,val_br,val_ret]
 rw[hw.1,hw.2.1,hw.2.2.1,hw.2.2.2]
 rw[ww ((v.List.length:Int)+v.Pairs.length) (by omega) (by omega)]
 rw[ww ((v.List.length:Int)+v.Pairs.length+v.Slots.length) (by omega) (by omega)]
 rw[ww ((v.List.length:Int)+v.Pairs.length+v.Slots.length+v.Raws.length) (by omega) (by omega)]
 rw[ww ((v.List.length:Int)+v.Pairs.length+v.Slots.length+v.Raws.length+v.List.length) (by omega) (by omega)]
 rw[ww ((v.List.length:Int)+v.Pairs.length+v.Slots.length+v.Raws.length+v.List.length+v.Pairs.length) (by omega) (by omega)]
 rw[ww ((v.List.length:Int)+v.Pairs.length+v.Slots.length+v.Raws.length+v.List.length+v.Pairs.length+v.Slots.length) (by omega) (by omega)]
 rw[ww ((v.List.length:Int)+v.Pairs.length+v.Slots.length+v.Raws.length+v.List.length+v.Pairs.length+v.Slots.length+v.Raws.length) (by omega) (by omega),lone_eq]
 have e:((v.List.length:Int)+v.Pairs.length+v.Slots.length+v.Raws.length+v.List.length+v.Pairs.length+v.Slots.length+v.Raws.length==0)=decide ((v.List.length:Int)+v.Pairs.length+v.Slots.length+v.Raws.length=0):=by
  apply Bool.eq_iff_iff.2
  simp only[decide_eq_true_eq,beq_iff_eq]
  omega
 rw[e]
 cases v.Kind==w.Kind<;>cases v.Bits==w.Bits<;>cases v.Text==w.Text<;>rfl
theorem nKnown_as:nKnownP=[([100,101,112,114,101,99,97,116,101,100],⟨1,126⟩),([100,111,99],⟨7,126⟩),([97,108,105,97,115],⟨7,84⟩),([115,105,110,99,101],⟨4,84⟩),([117,110,116,105,108],⟨4,84⟩),([109,105,110],⟨3,4⟩),([109,97,120],⟨3,4⟩),([108,101,110,103,116,104],⟨4,4⟩),([115,101,99,114,101,116],⟨1,4⟩),([105,100,101,109,112,111,116,101,110,116],⟨1,64⟩),([116,105,109,101,111,117,116],⟨4,64⟩),([114,111,117,116,101],⟨7,64⟩),([111,119,110,101,114],⟨7,34⟩)]:=rfl
theorem names13 {Q:Str->Prop}(hq:∀p∈nKnownP,Q p.1)(ho:∀n,(∀p∈nKnownP,n≠p.1)->Q n)(n:Str):Q n:=by
 by_cases h:∃p∈nKnownP,n=p.1
 ·obtain⟨p,hp,rfl⟩:=h
  exact hq p hp
 ·exact ho n fun p hp e=>h ⟨p,hp,e⟩
theorem all13 {Q:Str×note_rule->Prop}(h1:Q ([100,101,112,114,101,99,97,116,101,100],⟨1,126⟩))(h2:Q ([100,111,99],⟨7,126⟩))(h3:Q ([97,108,105,97,115],⟨7,84⟩))(h4:Q ([115,105,110,99,101],⟨4,84⟩))(h5:Q ([117,110,116,105,108],⟨4,84⟩))(h6:Q ([109,105,110],⟨3,4⟩))(h7:Q ([109,97,120],⟨3,4⟩))(h8:Q ([108,101,110,103,116,104],⟨4,4⟩))(h9:Q ([115,101,99,114,101,116],⟨1,4⟩))(h10:Q ([105,100,101,109,112,111,116,101,110,116],⟨1,64⟩))(h11:Q ([116,105,109,101,111,117,116],⟨4,64⟩))(h12:Q ([114,111,117,116,101],⟨7,64⟩))(h13:Q ([111,119,110,101,114],⟨7,34⟩)):∀p∈nKnownP,Q p:=by
 intro p hp
 rw[nKnown_as]at hp
 simp only[List.mem_cons,List.not_mem_nil,or_false]at hp
 rcases hp with rfl | rfl | rfl | rfl | rfl | rfl | rfl | rfl | rfl | rfl | rfl | rfl | rfl<;>assumption
theorem other13 {n:Str}(h:∀p∈nKnownP,n≠p.1):n≠[100,101,112,114,101,99,97,116,101,100]/\n≠[100,111,99]/\n≠[97,108,105,97,115]/\n≠[115,105,110,99,101]/\n≠[117,110,116,105,108]/\n≠[109,105,110]/\n≠[109,97,120]/\n≠[108,101,110,103,116,104]/\n≠[115,101,99,114,101,116]/\n≠[105,100,101,109,112,111,116,101,110,116]/\n≠[116,105,109,101,111,117,116]/\n≠[114,111,117,116,101]/\n≠[111,119,110,101,114]:=by
 rw[nKnown_as]at h
 simp only[List.forall_mem_cons]at h
 obtain⟨h1,h2,h3,h4,h5,h6,h7,h8,h9,h10,h11,h12,h13,_⟩:=h
 exact⟨h1,h2,h3,h4,h5,h6,h7,h8,h9,h10,h11,h12,h13⟩
theorem kind_other {n:Str}(h:∀p∈nKnownP,n≠p.1):nKindP n=0/\r8kindP n=0/\kvHas nKnownP n=false:=by
 obtain⟨h1,h2,h3,h4,h5,h6,h7,h8,h9,h10,h11,h12,h13⟩:=other13 h
 refine⟨?_,?_,?_⟩
 ·unfold nKindP nKind
  simp only[val_ret,nKnown_as,kvGet,h1,h2,h3,h4,h5,h6,h7,h8,h9,h10,h11,h12,h13,if_false]
  rfl
 ·unfold r8kindP r8kind
  simp only[val_cut,val_br,val_ret,beq_eq_false_iff_ne.2 h1,beq_eq_false_iff_ne.2 h2,beq_eq_false_iff_ne.2 h3,beq_eq_false_iff_ne.2 h4,beq_eq_false_iff_ne.2 h5,beq_eq_false_iff_ne.2 h6,beq_eq_false_iff_ne.2 h7,beq_eq_false_iff_ne.2 h8,beq_eq_false_iff_ne.2 h9,beq_eq_false_iff_ne.2 h10,beq_eq_false_iff_ne.2 h11,beq_eq_false_iff_ne.2 h12,beq_eq_false_iff_ne.2 h13,cond_false,thenS_inl]
 ·unfold kvHas
  exact List.any_eq_false.2 fun p hp=>by simpa using h p hp
theorem kind_known:∀p∈nKnownP,nKindP p.1=p.2.kind/\r8kindP p.1=p.2.kind/\p.2.kind≠0/\kvHas nKnownP p.1=true/\(kvGet kv_Mstr_note_rule.z nKnownP p.1)=p.2:=
 all13 ⟨rfl,rfl,by decide,rfl,rfl⟩ ⟨rfl,rfl,by decide,rfl,rfl⟩ ⟨rfl,rfl,by decide,rfl,rfl⟩ ⟨rfl,rfl,by decide,rfl,rfl⟩ ⟨rfl,rfl,by decide,rfl,rfl⟩ ⟨rfl,rfl,by decide,rfl,rfl⟩ ⟨rfl,rfl,by decide,rfl,rfl⟩ ⟨rfl,rfl,by decide,rfl,rfl⟩ ⟨rfl,rfl,by decide,rfl,rfl⟩ ⟨rfl,rfl,by decide,rfl,rfl⟩ ⟨rfl,rfl,by decide,rfl,rfl⟩ ⟨rfl,rfl,by decide,rfl,rfl⟩ ⟨rfl,rfl,by decide,rfl,rfl⟩
theorem fits_known (t:Int)(ht:t=1\/t=2\/t=3\/t=4\/t=5\/t=6):∀p∈nKnownP,(andI .i64 (shrI .i64 p.2.targets t) (1:Int)==0)= !r8fitsP p.1 t:=by
 rcases ht with rfl | rfl | rfl | rfl | rfl | rfl<;>exact all13 rfl rfl rfl rfl rfl rfl rfl rfl rfl rfl rfl rfl rfl
theorem right_eq (n:Note)(h:okVal n.Val):nRightP n=r8rightP n:=by
 have hk:nKindP n.Name=r8kindP n.Name:=names13 (Q:=fun m=>nKindP m=r8kindP m) (fun p hp=>(kind_known p hp).1.trans (kind_known p hp).2.1.symm) (fun m hm=>(kind_other hm).1.trans (kind_other hm).2.1.symm) n.Name
 unfold nRightP nRight r8rightP r8right
 simp only[val_lt,val_br,val_ret,AVal.re_eq,hk,sFits_eq _ _ h]
 cases r8kindP n.Name !=0 with
 | false=>rfl
 | true=>
  cases hv:n.Val.Kind==r8kindP n.Name with
  | true=>rfl
  | false=>
   have:(n.Val.Kind !=r8kindP n.Name)=true:=by rw[bne,hv];rfl
   unfold r4fitsP r4fits
   simp only[val_br,val_ret,this,cond_true]
   cases r4isP (r8kindP n.Name)<;>rfl
def okNs (l:List Note):Prop:=∀n∈l,okVal n.Val
theorem one_eq (n:Note)(h:okVal n.Val)(t:Int)(ht:t=1\/t=2\/t=3\/t=4\/t=5\/t=6)(last:Str)(ok:Bool):nOneP n t last ok=(bif r8kindP n.Name==0 then 8 else bif !r8fitsP n.Name t then 1 else bif !r8rightP n then 12 else bif ok then bif Op.bytesLess n.Name last then 11 else bif n.Name==last then 9 else 0 else 0):=by
 have t1:¬t < 1:=by omega
 have t6:¬(6:Int) < t:=by omega
 unfold nOneP nOne
 simp only[val_br,val_cut,val_ret,val_ob,AVal.re_eq,right_eq n h,decide_eq_false t1,decide_eq_false t6,cond_false,thenS_inl]
 have hm:(mpOf kv_Mstr_note_rule D.Mstr_note_rule nKnownP).has (Pv.str n.Name)=kvHas nKnownP n.Name:=rfl
 rw[hm]
 refine names13 (Q:=fun m=>(bif !kvHas nKnownP m then(8:Int)else bif andI .i64 (shrI .i64 (kvGet kv_Mstr_note_rule.z nKnownP m).targets t) (1:Int)==0 then 1 else bif !r8rightP n then 12 else bif ok then bif Op.bytesLess n.Name last then 11 else bif ok then bif n.Name==last then 9 else 0 else 0 else bif ok then bif n.Name==last then 9 else 0 else 0)=(bif r8kindP m==0 then 8 else bif !r8fitsP m t then 1 else bif !r8rightP n then 12 else bif ok then bif Op.bytesLess n.Name last then 11 else bif n.Name==last then 9 else 0 else 0)) (fun p hp=> ?_) (fun m hm=> ?_) n.Name
 ·obtain⟨_,k2,k3,k4,k5⟩:=kind_known p hp
  rw[k4,k5,fits_known t ht p hp,k2,beq_eq_false_iff_ne.2 k3]
  cases ok<;>rfl
 ·obtain⟨_,k2,k3⟩:=kind_other hm
  rw[k2,k3]
  rfl
theorem notes_eq (l:List Note)(h:okNs l)(t:Int)(ht:t=1\/t=2\/t=3\/t=4\/t=5\/t=6):nCheckP l t=r8checkP l t:=by
 unfold nCheckP nCheck r8checkP r8check
 simp only[val_br,val_as,val_each,val_ix,val_lt,val_cut,val_ret]
 cases hl:decide (8 < (l.length:Int))with
 | true=>rfl
 | false=>
  have hl:¬8 < (l.length:Int):=of_decide_eq_false hl
  simp only[cond_false]
  refine forE_rel (d:=d_Note) (d':=d_Note) (fun k (y:List UInt8) _=>k=0\/y=(l.getD (k - 1) d_Note).Name) Eq l l 0 [] () rfl (.inl rfl) (fun j y z hj hi=> ?_) (fun _ _ _=>rfl)
  simp only[Nat.zero_add]at hi⊢
  have hm:=h _ (getD_mem (d:=d_Note) hj)
  generalize hn:l.getD j d_Note=n at*
  have en:(Note.mk n.Name n.Val.re)=n:=by rw[AVal.re_eq]
  rw[en,one_eq n hm t ht y]
  by_cases hj0:j=0
  ·have d0:decide ((0:Int) < (j:Int))=false:=decide_eq_false (by omega)
   rw[d0]
   cases r8kindP n.Name==0 with
   | true=>rfl
   | false=>
    cases r8fitsP n.Name t with
    | false=>rfl
    | true=>
     cases r8rightP n with
     | false=>rfl
     | true=>exact .inr (by rw[Nat.add_sub_cancel];exact congrArg Note.Name hn.symm)
  ·have d0:decide ((0:Int) < (j:Int))=true:=decide_eq_true (by omega)
   have hy:y=(l.getD (j - 1) d_Note).Name:=hi.resolve_left hj0
   have hw:(wrp .i64 ((j:Int) - 1)).toNat=j - 1:=by rw[wrp_in (k:= .i64) (by simp only[InR];omega)];omega
   rw[d0,hw,<-hy]
   cases r8kindP n.Name==0 with
   | true=>rfl
   | false=>
    cases r8fitsP n.Name t with
    | false=>rfl
    | true=>
     cases r8rightP n with
     | false=>rfl
     | true=>
      cases Op.bytesLess n.Name y with
      | true=>rfl
      | false=>
       cases n.Name==y with
       | true=>rfl
       | false=>exact .inr (by rw[Nat.add_sub_cancel];exact congrArg Note.Name hn.symm)
end Go.Proofs.YtiibcbmenoaigaaGreatDoor
