/- Codecs, the reference: plans, scalars, fields set. -/
import Derived.Test.YtenjjcfebflefaaGreatDoorP3
namespace Go.Proofs.YtenjjcfebflefaaGreatDoor
noncomputable section
open Go.RowKit Go.Vc
open Tryz
set_option linter.unusedVariables false
set_option linter.unusedSimpArgs false
set_option maxRecDepth 100000
instance:Inhabited Pair:=⟨Pair.mk default default⟩
def Va (p:aJ)(b:Str):Pg (Int×Bool):=.each true Ec p.aO aU (fun a d (c:Unit)=> .ix a p.aO.length (.br (d.Name==b) (.ret (.inr (a,true))) (rl ()))) (fun a (c:Unit)=> .ret (0,false)) ()
def GL (p:aJ)(a:Str):=(Va p a).val
theorem akG (p:aJ)(a:Str):Is (Va p a):=
 jG (.inl rfl) (fun c b _ _=>dJ au au (aS iR iR)) (fun b _=>aZ)
def ab2:bT Z:=E0 [] [jS 2 (dh (fun b=>[s0 6]) (l1 cI))] (ax (aQ dU) (a1 (df cStr))) (shr [s0 0, s0 1] (aC cI (l1 aW))) [] func138 2 (u2 Va) fun a=>akG a.1 a.2
def ax_ (g:bC)(c:Int):Pg (Op×Bool):=.each true Ec g.Ops vk (fun a b (d:Unit)=> .ix a g.Ops.length (.br (b.Num==c) (.ix a g.Ops.length (.ret (.inr (b,true)))) (rl ()))) (fun a (d:Unit)=> .ret (Op.mk 0 [] [] 0 0 0 0 0,false)) ()
def alB (g:bC)(a:Int):=(ax_ g a).val
theorem atJ (g:bC)(a:Int):Is (ax_ g a):=
 jG (.inl rfl) (fun c b _ _=>dJ au au (bK (fun _=>dJ au au (aZ)) iR)) (fun b _=>aZ)
def aoG:bT Z:=E0 [] [jS 2 (dh (fun b=>[s0 6]) (l1 cI))] (ax (aQ jV) (a1 (df cI))) (shr [.slot 0 true (nn 8), s0 1] (aC jD (l1 aW))) [] func371 2 (u2 ax_) fun a=>atJ a.1 a.2
def adw (p:aJ)(a:Int)(b:Int):Pg Bool:=.br (decide (a < 0)) (.ret false) (.br (decide ((↑p.Enums.length:Int)<=a)) (aL p.Enums (.ret false)) (aL p.Enums (.br (decide (2147483647 < b)) (.ret false) (.ix a p.Enums.length (.Hr [0<=a/\a < (↑p.Enums.length:Int)] true rP (p.Enums.getD a.toNat fF).Items iT (fun d e (c:Bool)=> .br c (rl true) (.ix a p.Enums.length (.ix d (p.Enums.getD a.toNat fF).Items.length (rl (e.Num==bJ .i64 b))))) (fun d (c:Bool)=> .ret c) (p.Enums.getD a.toNat fF).Open)))))
def Ub (p:aJ)(a:Int)(b:Int):=(adw p a b).val
theorem apT (p:aJ)(a:Int)(b:Int):Is (adw p a b):=
 bn iR (fun _=>bn (fun _=>jH fun _=>aZ) (fun _=>jH fun _=>bn iR (fun _=>dJ au au (ag_ ⟨by omega,trivial⟩ (.inl rfl) (fun d c _ _=>aS iR (fun _=>dJ au au (dJ au au (aZ)))) (fun c _=>aZ)))))
def avc:bT Z:=E0 [] [jS 5 (dh (fun b=>[s0 8, s0 7]) (aC cI (l1 aW)))] (ax (aQ dU) (ax (df cI) (a1 (df (gW .u64))))) (R1 aW) [] func520 1 (u3 adw) fun a=>apT a.1 a.2.1 a.2.2
def Qw (o:Op):Pg Bool:=.br (o.Card==4) (.br (decide (1<=o.Kind)) (.br (decide (o.Kind<=6)) (.ret true) (.ret (o.Kind==9))) (.ret (o.Kind==9))) (.ret false)
def KG (o:Op):=(Qw o).val
theorem ae_ (o:Op):Is (Qw o):=
 bK (fun _=>bn (fun _=>bn iR iR) iR) iR
def RG:bT Z:=E0 [] [] (a1 (aQ jD)) (R1 aW) [] func375 1 Qw fun a=>ae_ a
def acw (o:Op):Pg Int:=.br (o.Card==5) (.ret 6) (.br (KG o) (.ret 5) (.cut (fun(b:Bool)=> .br b (.ret 0) (.cut (fun(a:Bool)=> .br a (.ret 1) (.br (o.Kind==6) (.ret 2) (.br (o.Kind==7) (.br (o.Kind==7) (.ret 3) (.br (o.Kind==10) (.ret 4) (.ret (-1)))) (.br (o.Kind==8) (.ret 3) (.br (o.Kind==10) (.ret 4) (.ret (-1))))))) (.br (o.Kind==2) (rl (o.Kind==2)) (rl (o.Kind==3))))) (.br (o.Kind==1) (rl (o.Kind==1)) (.br (o.Kind==4) (rl (o.Kind==4)) (.br (o.Kind==5) (rl (o.Kind==5)) (rl (o.Kind==9)))))))
def aya (o:Op):=(acw o).val
theorem ajp (o:Op):Is (acw o):=
 bK iR (fun _=>aS iR (fun _=>lK (bK iR (fun _=>bK iR (fun _=>bK iR iR))) (fun d b=>aS iR (fun _=>lK (bK iR iR) (fun c a=>aS iR (fun _=>bK iR (fun _=>bK (fun _=>bK iR (fun _=>bK iR iR)) (fun _=>bK iR (fun _=>bK iR iR)))))))))
def arq:bT Z:=E0 [RG] [jS 100010 (dh (fun b=>[s0 10]) (l1 aW)),jS 100013 (dh (fun b=>[s0 15]) (l1 aW))] (a1 (aQ jD)) (R1 cI) [] func469 1 acw fun a=>ajp a
def Qo (o:Op):Pg Op:=.ret (Op.mk o.Num o.Name o.Alias 2 o.Key o.Kind o.Target o.Union)
def KL (o:Op):=(Qo o).val
theorem adT (o:Op):Is (Qo o):=
 aZ
def Q5:bT Z:=E0 [] [] (a1 (aQ jD)) (shr [.slot 0 true (nn 8)] (l1 jD)) [] func470 1 Qo fun a=>adT a
def acT (o:Op):Pg Int:=.ret (aya (KL o))
def CX (o:Op):=(acT o).val
theorem akW (o:Op):Is (acT o):=
 aZ
def CS:bT Z:=E0 [arq,Q5] [] (a1 (aQ jD)) (R1 cI) [] func377 1 acT fun a=>akW a
def anY (u:Int):Pg Int:=.ob ((2:Int)≠0) (.br (u.tmod (2:Int)==0) (.ob ((2:Int)≠0) (.ret (bJ .i64 (bJ .u64 (u.tdiv 2))))) (.ob ((2:Int)≠0) (.ret (bJ .i64 (bJ .i64 (-bJ .i64 (bJ .u64 (u.tdiv 2))) - 1)))))
def ajJ (u:Int):=(anY u).val
theorem axL (u:Int):Is (anY u):=
 bM au (bK (fun _=>bM au (aZ)) (fun _=>bM au (aZ)))
def aAC:bT Z:=E0 [] [] (a1 (df (gW .u64))) (R1 cI) [] func519 1 anY fun a=>axL a
def IX (p:aJ)(o:Op)(f:Raw):Pg (af×Int):=.br (!Gy o.Kind) (.ret (af.mk 0 0 [] [] [] [] [],12)) (.br (f.eF !=CX o) (.ret (af.mk 0 0 [] [] [] [] [],13)) (.cut (fun(a:af)=> .br (!wJ o.Kind a.re) (.ret (af.mk 0 0 [] [] [] [] [],6)) (.lt (lq a.re) fun b=> .br (o.Kind==9) (.br (!Ub p o.Target a.Bits) (.ret (af.mk 0 0 [] [] [] [] [],16)) (.ret (b.re,0))) (.ret (b.re,0)))) (.br (f.eF==3) (.br (o.Kind==7) (.ob (List.length f.Data<=9223372036854775700) (.br (!Ie f.Data) (.ret (.inr (af.mk 0 0 [] [] [] [] [],7))) (.ret (.inr (af.mk o.Kind 0 f.Data [] [] [] [],0))))) (.ret (.inr (af.mk o.Kind 0 f.Data [] [] [] [],0)))) (.br (f.eF==1) (rl (af.mk o.Kind (bJ .u64 (ajJ f.Bits)) [] [] [] [] [])) (rl (af.mk o.Kind f.Bits [] [] [] [] []))))))
def Es (p:aJ)(o:Op)(f:Raw):=(IX p o f).val
theorem adb (p:aJ)(o:Op)(f:Raw)(h:f.Data.length<=1048576):Is (IX p o f):=
 aS iR (fun _=>gQ iR (fun _=>lK (bK (fun _=>bK (fun _=>bM qav (aS iR iR)) iR) (fun _=>bK iR iR)) (fun d b=>aS iR (fun _=>dm fun c a=>bK (fun _=>aS iR iR) iR))))
def RV:bT Z:=E1 [Oy,Xo,MN,afb,CS,aAC,avc] [jS 100015 (dh (fun b=>[.cells (pid (b 8)) (nn 7)]) (l1 aH))] (ax (aQ dU) (ax (aQ jD) (a1 (aQ qM)))) (shr [.slot 0 true (nn 7), s0 1] (aC aH (l1 cI))) [] func474 2 (u3 IX) (fun a=>a.2.2.Data.length<=1048576) fun a h=>adb a.1 a.2.1 a.2.2 h
def adk (c:ah):Pg (Int×ah×Int):=.ob (ig c) (.lt (vz c) fun a=> .br (a.2.2 !=0) (.ret (0,c,a.2.2)) (.ob (ig a.2.1) (.lt (bJ .u64 (A7 a.2.1)) fun b=> .br (decide (b < a.1)) (.ret (0,c,4)) (.ret (bJ .i64 a.1,a.2.1,0)))))
def Ia (c:ah):=(adk c).val
theorem arl (c:ah)(h:ig c):Is (adk c):=
 bM (h) (dm fun d a=>gQ iR (fun _=>bM ((vC h a au)) (dm fun e b=>bn iR iR)))
def MK:bT Z:=E1 [Ci,Eb] [] (a1 (aQ aP)) (shr [s0 0, .slot 1 true (nn 6), s0 2] (aC cI (aC aP (l1 cI)))) [] func462 3 adk (fun a=>ig a) fun a h=>arl a h
def U_ (a:Int)(c:ah):Pg (Raw×ah×Int):=.br (a==2) (.ob (ig c) (.lt (OM c) fun d=> .ret (Raw.mk 0 a d.1 [],d.2))) (.br (a==3) (.ob (ig c) (.lt (Ia c) fun b=> .br (b.2.2 !=0) (.ret (Raw.mk 0 0 0 [],c,b.2.2)) (.ob (ig b.2.1) (.lt (aeX b.2.1 b.1) fun f=> .ret (Raw.mk 0 a 0 f.1,f.2))))) (.ob (ig c) (.lt (vz c) fun e=> .ret (Raw.mk 0 a e.1 [],e.2))))
def Ob (a:Int)(c:ah):=(U_ a c).val
def akD (v:af)(c:Int):Pg (af×Bool):=.each true Ec v.Slots iV (fun a b (d:Unit)=> .ix a v.Slots.length (.br (b.Num==c) (.ix a v.Slots.length (.ret (.inr (b.Val.re,true)))) (rl ()))) (fun a (d:Unit)=> .ret (af.mk 0 0 [] [] [] [] [],false)) ()
def EE (v:af)(a:Int):=(akD v a).val
theorem asI (v:af)(a:Int):Is (akD v a):=
 jG (.inl rfl) (fun c b _ _=>dJ au au (bK (fun _=>dJ au au (aZ)) iR)) (fun b _=>aZ)
def BU:bT Z:=E0 [] [jS 2 (dh (fun b=>[s0 6]) (l1 cI))] (ax (aQ aH) (a1 (df cI))) (shr [.slot 0 true (nn 7), s0 1] (aC aH (l1 aW))) [] func219 2 (u2 akD) fun a=>asI a.1 a.2
def Xj (g:bC)(v:af)(o:Op)(x:af):Pg af:=.each true rP v.Slots iV (fun c d (b:af)=> .ix c v.Slots.length (.ix c v.Slots.length (.br (d.Num !=o.Num) (.lt (b.Slots++[Slot.mk d.Num d.Val.re]) fun(e:List Slot)=> .br (o.Union==(-1)) (.ix c v.Slots.length (.ob (dE (b.Slots.length+1) 136) (rl (af.mk b.Kind b.Bits b.Text b.List b.Pairs e b.dH)))) (.br ((alB g d.Num).1.Union !=o.Union) (.ix c v.Slots.length (.ob (dE (b.Slots.length+1) 136) (rl (af.mk b.Kind b.Bits b.Text b.List b.Pairs e b.dH)))) (rl b.re))) (rl b.re)))) (fun c (b:af)=> .ob (dE (b.Slots.length+1) 136) (.ret (af.mk b.Kind b.Bits b.Text b.List b.Pairs (b.Slots++[Slot.mk o.Num x.re]) b.dH))) (af.mk (Int.ofNat (nat_lit 10)) (Int.ofNat (nat_lit 0)) [] [] [] [] (match v with | af.mk f k h j l i a=>a))
def Ip (g:bC)(v:af)(o:Op)(x:af):=(Xj g v o x).val
def Yj (v:af)(f:Raw):Pg af:=.ob (dE (0+v.dH.length) 40) (.ob (dE (v.dH.length+1) 40) (.ret (af.mk v.Kind v.Bits v.Text v.List v.Pairs v.Slots (v.dH++[f]))))
def QH (v:af)(f:Raw):=(Yj v f).val
theorem ahx (v:af)(f:Raw)(h:v.dH.length<=1048576):Is (Yj v f):=
 bM ((dw au au)) (bM ((dw au au)) (aZ))
def Y1:bT Z:=E1 [] [] (ax (aQ aH) (a1 (aQ qM))) (shr [.slot 0 true (nn 7)] (l1 aH)) [] func373 1 (u2 Yj) (fun a=>a.1.dH.length<=1048576) fun a h=>ahx a.1 a.2 h
theorem aaA (a:Nat)(h:a < 2 ^ 63):(BitVec.ofInt 64 (a:Int)).toNat=a:=by
 rw[BitVec.toNat_ofInt];omega
theorem aE5 (a:Nat)(h:a < 2 ^ 63):TE .i64 (a:Int) (-1)= -(a:Int) - 1:=by
 have e:(BitVec.ofInt IntKind.i64.bits (a:Int) ^^^ BitVec.ofInt IntKind.i64.bits (-1)).toNat=2 ^ 64 - 1 - a:=by
  show(BitVec.ofInt 64 (a:Int) ^^^ BitVec.ofInt 64 (-1)).toNat=_
  rw[show BitVec.ofInt 64 (-1)=BitVec.allOnes 64 by decide,BitVec.xor_allOnes,BitVec.toNat_not,aaA a h]
 unfold TE;rw[e];show bJ .i64 ((2 ^ 64 - 1 - a:Nat):Int)=_
 rw[show((2 ^ 64 - 1 - a:Nat):Int)=(-(a:Int) - 1)+18446744073709551616 by omega];unfold bJ IntKind.wrap;simp only[IntKind.signed,IntKind.bits,if_true];refine(nI ?_).trans ?_
 ·rw[Qb9];exact jK au
 ·omega
theorem aHj (a:Nat)(h:a < 2 ^ 63):TE .i64 (a:Int) 0=(a:Int):=by
 have e:(BitVec.ofInt IntKind.i64.bits (a:Int) ^^^ BitVec.ofInt IntKind.i64.bits 0).toNat=a:=by
  show(BitVec.ofInt 64 (a:Int) ^^^ BitVec.ofInt 64 0).toNat=_
  rw[show BitVec.ofInt 64 0=0#64 by decide,BitVec.xor_zero,aaA a h]
 unfold TE;rw[e];exact bY (k:= .i64) p_
theorem aDJ (u:Int)(h:jQ u):ajJ u=ao2 u:=by
 obtain⟨x,rfl⟩:∃x:Nat,u=(x:Int):=⟨u.toNat,by obtain⟨j,e⟩:=h;omega⟩;have f:x < 2 ^ 64:=by obtain⟨j,e⟩:=h;omega
 unfold ajJ anY ao2 aEV;simp only[bG,aN,ay];have l:BD .u64 (x:Int) 1=((x / 2:Nat):Int):=XV (k:= .u64) x 1 jy;have i:uF .u64 (x:Int) 1=((x &&& 1:Nat):Int):=GH (k:= .u64) rfl f (y:=1) jy;have m:(x:Int).tdiv 2=((x / 2:Nat):Int):=atc x 2;have a:(x:Int).tmod 2=((x % 2:Nat):Int):=aiY x 2;have g:bJ .i64 ((x / 2:Nat):Int)=((x / 2:Nat):Int):=bY (k:= .i64) p_;have d:bJ .u64 ((x / 2:Nat):Int)=((x / 2:Nat):Int):=bY (k:= .u64) p_;rw[l,i,m,a,Nat.and_one_is_mod,d,g];rcases Nat.mod_two_eq_zero_or_one x with k | k
 ·rw[k,show bJ .i64 (-bJ .i64 ((0:Nat):Int))=0 by decide,aHj _ au];rfl
 ·rw[k,show bJ .i64 (-bJ .i64 ((1:Nat):Int))= -1 by decide,aE5 _ au];have c:bJ .i64 (-((x / 2:Nat):Int))= -((x / 2:Nat):Int):=bY (k:= .i64) p_;have b:bJ .i64 (-((x / 2:Nat):Int) - 1)= -((x / 2:Nat):Int) - 1:=bY (k:= .i64) p_;rw[c,b];rfl
theorem ab1 {A Y R:Type}{n:Int}{num:A->Int}{h:A->Y->R}{f:Nat->Y->R}{b:Nat->A->Y->Y⊕R}(e:∀k a y,num a=n->b k a y= .inr (h a y))(d:∀k a y,num a≠n->b k a y= .inl y):∀(l:List A) (k:Nat) (y:Y),jZ b f l k y=match l.find? (fun a=>num a==n)with | some a=>h a y | none=>f (k+l.length) y
 | [],k,y=>rfl
 | a::l,k,y=>by
  unfold jZ;rw[List.find?_cons];cases c:num a==n with
  | true=>rw[e k a y (eq_of_beq c)]
  | false=>
   have g:=ab1 (f:=f) e d l (k+1) y;rw[show k+1+l.length=k+(a::l).length by simp only[zx];omega]at g;rw[d k a y (ne_of_beq_false c)];exact g
theorem GG (g:bC)(n:Int):qK g n=match g.Ops.find? (fun o=>o.Num==n)with | some o=>(o,true) | none=>(Op.mk 0 [] [] 0 0 0 0 0,false):=by
 have b:∀o,ahb o n=(o.Num==n):=fun o=>rfl
 unfold qK pOp aul amY;simp only[ay,bF,aN,dN];rcases uk (fun(x:Op)=>ahb x n) g.Ops with⟨e,k⟩ | ⟨u,a,v,e,d,f,k⟩
 ·rw[e,Qei.2 fun x c=>by rw[<-b,k x c];decide];rfl
 ·rw[k,e,List.find?_append,Qei.2 fun x c=>by rw[<-b,f x c];decide,List.find?_cons];rw[b]at d;rw[d,jF au];simp
theorem ac5 (o:Op):KG o=Gz o:=rfl
theorem KA (o:Op):CX o=rG o:=rfl
theorem ug (v:af)(n:Int):EE v n=dG v n:=rfl
theorem ai5 (g:bC)(n:Int):alB g n=qK g n:=by
 have c:∀(l:List Op) (k:Nat),jZ (fun(k:Nat) (b:Op) (_:Unit)=>bif b.Num==n then(Sum.inr (b,true):Unit⊕(Op×Bool))else Sum.inl ()) (fun _ _=>(Op.mk 0 [] [] 0 0 0 0 0,false)) l k ()=match l.find? (fun o=>o.Num==n)with | some o=>(o,true) | none=>(Op.mk 0 [] [] 0 0 0 0 0,false):=by
  intro l;induction l with
  | nil=>exact fun _=>rfl
  | cons a l d=>
   intro k;unfold jZ;rw[List.find?_cons];cases a.Num==n with
   | true=>rfl
   | false=>exact d (k+1)
 rw[GG];exact c g.Ops 0
theorem Tf (v:af)(f:Raw):QH v f=qX v f:=by
 rw[D6];rfl
theorem BO {c:ah}(h:ig c)(p:aJ):Ia c=((jb (ae.mk p c)).1,(jb (ae.mk p c)).2.2.c,(jb (ae.mk p c)).2.1):=by
 have k:=(jv h).2;unfold Ia adk jb UR;simp only[bG,bF,aN,ay];rw[uj h];cases e:(bi c).2.2 !=0 with
 | true=>rfl
 | false=>
  rw[vW (k (bW.1 e)).1.1];simp only[jm];cases decide (bJ .u64 (oK (bi c).2.1) < (bi c).1)<;>rfl
def aI1 (x:Raw×Int×ae)(y:Raw×ah×Int):Prop:=y.2.2=x.2.1/\(x.2.1=0->y.1=x.1/\y.2.1=x.2.2.c)
theorem Yp {c:ah}(h:ig c)(p:aJ)(a:Int):aI1 (gq a (ae.mk p c)) (Ob a c):=by
 have kl:=mr (r:=ae.mk p c) h;have d:=BO h p;unfold Ob U_ gq yG;simp only[bG,bF,aN,ay];rw[XM h,uj h,d];cases b:a==2 with
 | true=>rw[eq_of_beq b];exact⟨rfl,fun _=>⟨rfl,rfl⟩⟩
 | false=>cases f:a==3 with
  | false=>exact⟨rfl,fun _=>⟨rfl,rfl⟩⟩
  | true=>
   simp only[cond_true,jm];cases e:(jb (ae.mk p c)).2.1 !=0 with
   | true=>exact⟨rfl,fun k=>absurd k (by simpa[bne]using e)⟩
   | false=>
    rw[ase (kl (bW.1 e)).1.1];exact⟨rfl,fun _=>⟨rfl,rfl⟩⟩
def zg (g:bC)(v:af)(o:Op):Prop:=v.Slots.length<=1048576/\(∀s∈v.Slots,(qK g s.Num).2=true)/\(o.Union= -1\/0<=o.Union)
theorem aoQ {g:bC}{v:af}{o:Op}{x:af}(h:v.Slots.length<=1048576)(t:∀s∈v.Slots,(qK g s.Num).2=true)(j:o.Union= -1\/0<=o.Union):mG (awu g v o x) (Xj g v o x) (fun a b=>b=a):=by
 unfold awu Xj;simp only[af.dn,Slot.eta];refine avn (aAg (fun k y f=>f=y/\y.Slots.length<=k) ⟨rfl,Jd _⟩ rfl au (fun k y f u m=> ?_) (fun y f m=> ?_))
 ·obtain⟨rfl,r⟩:=m;have z:=t _ (getD_mem (d:=iV) u);generalize v.Slots.getD k iV=s at*;have l:apU (fun(y:af) (f:af)=>f=y/\y.Slots.length<=k+1) (fun(a:af) (b:af)=>b=a) (.inl (af.mk f.Kind f.Bits f.Text f.List f.Pairs (f.Slots++[s]) f.dH)) (.inl (af.mk f.Kind f.Bits f.Text f.List f.Pairs (f.Slots++[s]) f.dH)):=⟨rfl,by show(f.Slots++[s]).length<=k+1;rw[tK,Qbx];omega⟩;have i:apU (fun(y:af) (f:af)=>f=y/\y.Slots.length<=k+1) (fun(a:af) (b:af)=>b=a) (.inl f) (.inl f):=⟨rfl,by omega⟩;have n:dE (f.Slots.length+1) 136:=dw au au;rw[ai5];refine aE6 (EL au au (EL au au ?_));by_cases e:s.Num=o.Num
  ·rw[show(s.Num==o.Num)=true from beq_iff_eq.2 e,show(s.Num !=o.Num)=false by rw[e];exact bne_self_eq_false _];exact jr (fun _=>iD (fun c=>nomatch c) (fun _=>bZ i)) (fun c=>nomatch c)
  ·rw[show(s.Num==o.Num)=false from beq_false_of_ne e,show(s.Num !=o.Num)=true from bne_iff_ne.2 e];refine jr (fun c=>nomatch c) (fun _=>iD (fun _=> ?_) (fun c=>nomatch c));refine fV fun C p=>fV fun A w=>fP fun B f4=> ?_;subst p w f4;rw[z];refine jr (fun _=> ?_) (fun c=>nomatch c);rcases j with j | j
   ·rw[j];refine jr (fun c=>absurd (EU c) jy) (fun _=>iD (fun _=> ?_) (fun c=>absurd c jy));exact fC (EL au au (dV n (bZ l)))
   ·rw[jK j,show(o.Union== -1)=false from beq_false_of_ne au];refine jr (fun _=>iD (fun c=>nomatch c) (fun _=> ?_)) (fun c=>nomatch c);cases q:(qK g s.Num).1.Union==o.Union with
    | true=>
     rw[show((qK g s.Num).1.Union !=o.Union)=false by simp[bne,q]];exact jr (fun _=>iD (fun c=>nomatch c) (fun _=>bZ i)) (fun c=>nomatch c)
    | false=>
     rw[show((qK g s.Num).1.Union !=o.Union)=true by simp[bne,q]];exact jr (fun c=>nomatch c) (fun _=>iD (fun _=>fC (EL au au (dV n (bZ l)))) (fun c=>nomatch c))
 ·obtain⟨rfl,r⟩:=m;exact fC (dV (dw au au) (bZ rfl))
theorem CV {g:bC}{v:af}{o:Op}{x:af}(h:v.Slots.length<=1048576)(a:∀s∈v.Slots,(qK g s.Num).2=true)(b:o.Union= -1\/0<=o.Union):Ip g v o x=ut g v o x:=(aoQ h a b).2
theorem als (b:Int)(c:ah)(h:ig c):Is (U_ b c):=
 bK (fun _=>bM (h) (dm fun g d=>aZ)) (fun _=>bK (fun _=>bM (h) (dm fun i a=>gQ iR (fun _=>bM (by have k:=mr (r:=ae.mk (aJ.mk [] []) c) h;rw[BO h (aJ.mk [] [])]at a;subst a;exact(k (by simpa using ‹_=(0:Int)›)).1.1) (dm fun l e=>aZ)))) (fun _=>bM (h) (dm fun j f=>aZ)))
def ack:bT Z:=E1 [Eb,MK,aaG,ayf] [] (ax (df cI) (a1 (aQ aP))) (shr [.slot 0 true (nn 4), .slot 1 true (nn 6), s0 2] (aC qM (aC aP (l1 cI)))) [] func473 3 (u2 U_) (fun a=>ig a.2) fun a h=>als a.1 a.2 h
theorem arQ (g:bC)(v:af)(o:Op)(x:af)(h:zg g v o):Is (Xj g v o x):=
 (aoQ h.1 h.2.1 h.2.2).1
def GM:bT Z:=E1 [aoG] [jS 3 (dh (fun b=>[s0 10, .cells (pid (b 9)) [none,none,none,none,none,some 291,none]]) (aC cI (l1 aH))),jS 800001 (dh (fun b=>[.cells (pid (b 9)) [none,none,none,none,none,some 291,none]]) (l1 aH))] (ax (aQ jV) (ax (aQ aH) (ax (aQ jD) (a1 (aQ aH))))) (shr [.slot 0 true (nn 7)] (l1 aH)) [] func466 1 (u4 Xj) (fun a=>zg a.1 a.2.1 a.2.2.1) fun a h=>arQ a.1 a.2.1 a.2.2.1 a.2.2.2 h
def afc (c:ah)(n:Int):Pg ah:=.ret (ah.mk c.Data c.At (bJ .i64 (c.At+n)) c.Depth c.Nodes c.Text)
def YI (c:ah)(n:Int):=(afc c n).val
theorem akI (c:ah)(n:Int):Is (afc c n):=
 aZ
def aa0:bT Z:=E0 [] [] (ax (aQ aP) (a1 (df cI))) (shr [.slot 0 true (nn 6)] (l1 aP)) [] func463 1 (u2 afc) fun a=>akI a.1 a.2
def Qn (c:ah)(a:ah):Pg ah:=.ret (ah.mk c.Data a.End c.End c.Depth a.Nodes c.Text)
def Yf (c:ah)(a:ah):=(Qn c a).val
theorem acu (c:ah)(a:ah):Is (Qn c a):=
 aZ
def SH:bT Z:=E0 [] [] (ax (aQ aP) (a1 (aQ aP))) (shr [.slot 0 true (nn 6)] (l1 aP)) [] func467 1 (u2 Qn) fun a=>acu a.1 a.2
def aeF (o:Op):Pg af:=.ret (af.mk o.Kind 0 [] [] [] [] [])
def ag8 (o:Op):=(aeF o).val
theorem al4 (o:Op):Is (aeF o):=
 aZ
def acg:bT Z:=E0 [] [] (a1 (aQ jD)) (shr [.slot 0 true (nn 7)] (l1 aH)) [] func464 1 aeF fun a=>al4 a
def FM (p:aJ):Prop:=∀e∈p.Enums,∀a∈e.Items,0<=a.Num/\a.Num<=2147483647
theorem Yu (n:Int):∀(l:List Item) (k:Nat) (y:Bool),jZ (fun(k:Nat) (b:Item) (c:Bool)=>bif c then(Sum.inl true:Bool⊕Bool)else Sum.inl (b.Num==n)) (fun _ y=>y) l k y=(y || l.any fun a=>a.Num==n)
 | [],k,y=>by simp[jZ]
 | a::l,k,y=>by
  unfold jZ;cases y with
  | true=>exact(Yu n l (k+1) true).trans kM
  | false=>exact(Yu n l (k+1) (a.Num==n)).trans kM
theorem asH {p:aJ}(h:FM p)(e n:Int)(t:0<=n):Ub p e n=BM p e n:=by
 unfold Ub adw BM azy;simp only[aN,gm,dN,ay,aby];cases j:decide (e < 0)with
 | true=>rfl
 | false=>cases m:decide ((p.Enums.length:Int)<=e)with
  | true=>rfl
  | false=>cases g:decide (2147483647 < n)with
   | true=>rfl
   | false=>
    have j:=Qbm j;have m:=Qbm m;have g:=Qbm g;have o:=h _ (getD_mem (d:=fF) (l:=p.Enums) (i:=e.toNat) au);generalize p.Enums.getD e.toNat fF=c at*;rw[bY (k:= .i64) (show FX .i64 n by simp only[FX];omega)];simp only[jm];refine(Yu n c.Items 0 c.Open).trans ?_;have q:(c.Items.any fun a=>a.Num==n)=c.Items.any fun x=>PL x n:=by
     rw[Qba,UD,UD];have k:∀x∈c.Items,PL x n=(x.Num==n):=fun x b=>by
      show(bJ .u64 x.Num==n)=_
      obtain⟨r,s⟩:=o x b;rw[bY (k:= .u64) p_]
     exact⟨fun⟨x,b,f⟩=>⟨x,b,by rw[k x b];exact f⟩,fun⟨x,b,f⟩=>⟨x,b,by rw[<-k x b];exact f⟩⟩
    rw[q];cases c.Open<;>rfl
theorem Yv {k b:Int}(h:jQ b):xU (af.mk k b [] [] [] [] []):=⟨h.1,h.2,Jd _,Jd _,Jd _,Jd _,Jd _⟩
theorem Eh {p q:aJ}(g:FM p)(d:∀e n,BM p e n=BM q e n)(o:Op)(f:Raw)(a:jQ f.Bits):Es p o f=rZ q o f:=by
 have c:∀b:Int,jQ b->(bif !wJ o.Kind (af.mk o.Kind b [] [] [] [] [])then(af.mk 0 0 [] [] [] [] [],(6:Int))else bif o.Kind==9 then(bif !Ub p o.Target (af.mk o.Kind b [] [] [] [] []).Bits then(af.mk 0 0 [] [] [] [] [],16)else(lq (af.mk o.Kind b [] [] [] [] []),0))else(lq (af.mk o.Kind b [] [] [] [] []),0))=(bif !KO o.Kind (af.mk o.Kind b [] [] [] [] [])then(af.mk 0 0 [] [] [] [] [],(6:Int))else bif o.Kind==9 then(bif !BM q o.Target (af.mk o.Kind b [] [] [] [] []).Bits then(af.mk 0 0 [] [] [] [] [],16)else(kQ (af.mk o.Kind b [] [] [] [] []),0))else(kQ (af.mk o.Kind b [] [] [] [] []),0)):=fun b a=>by
  rw[Ye _ _ (Yv a),Vg _ (Yv a),<-d,asH g _ _ (by exact a.1)]
 unfold Es IX rZ Un;simp only[bG,bF,aN,ay,gz,af.dn];rw[KA,acQ];cases Gy o.Kind with
 | false=>rfl
 | true=>cases f.eF !=rG o with
  | true=>rfl
  | false=>cases f.eF==3 with
   | true=>cases o.Kind==7 with
    | false=>rfl
    | true=>
     rw[anr];simp only[Qbj,jm,cond_true];cases Ie f.Data<;>rfl
   | false=>cases f.eF==1 with
    | true=>
     rw[aDJ _ a];exact c _ (aCy _)
    | false=>exact c _ a
def Vu (g:bC)(v:af)(o:Op)(x:af):Pg af:=.lt (EE v.re o.Num) fun a=> .ob (dE (0+a.1.List.length) 128) (.ob (dE (a.1.List.length+1) 128) (.ob (zg g v.re o) (.ret (Ip g v.re o (af.mk 11 0 [] (a.1.List++[x.re]) [] [] [])).re)))
def Me (g:bC)(v:af)(o:Op)(x:af):=(Vu g v o x).val
theorem akB (g:bC)(v:af)(o:Op)(x:af)(h:zg g v o/\(dG v o.Num).1.List.length<=1048576):Is (Vu g v o x):=
 dm fun a hv1=>bM ((dw qbw qbw)) (bM ((dw qbw qbw)) (bM (by rw[af.dn];exact h.1) (aZ)))
def aci:bT Z:=E1 [BU,GM] [] (ax (aQ jV) (ax (aQ aH) (ax (aQ jD) (a1 (aQ aH))))) (shr [.slot 0 true (nn 7)] (l1 aH)) [] func472 1 (u4 Vu) (fun a=>zg a.1 a.2.1 a.2.2.1/\(dG a.2.1 a.2.2.1.Num).1.List.length<=1048576) fun a h=>akB a.1 a.2.1 a.2.2.1 a.2.2.2 h
theorem VU {g:bC}{v:af}{o:Op}{x:af}(a:zg g v o):Me g v o x=ut g v o (pJ (dG v o.Num).1 x):=by
 unfold Me Vu
 simp only[bF,bG,ay,af.dn];rw[ug,CV a.1 a.2.1 a.2.2,Aa]
def O_ (p:aJ)(g:bC)(v:af)(o:Op)(c:ah):Pg (af×ah×Int):=.lt (wZ c 1) fun d=> .br (d.2 !=0) (.ret (v.re,d)) (.ob (ig d.1) (.lt (Ob (CX o) d.1) fun a=> .br (a.2.2 !=0) (.ret (v.re,a.2)) (.ob (List.length a.1.Data<=1048576) (.lt (Es p o a.1) fun b=> .br (b.2==16) (.ob (v.re.dH.length<=1048576) (.ret ((QH v.re (Raw.mk o.Num 0 a.1.Bits [])).re,a.2.1,0))) (.br (b.2 !=0) (.ret (v.re,a.2.1,b.2)) (.br (o.Card !=4) (.ob (zg g v.re o) (.ret ((Ip g v.re o b.1.re).re,a.2.1,0))) (.lt (Me g v.re o b.1.re) fun f=> .lt (dG v.re o.Num) fun h=> .br (!(EE v.re o.Num).2) (.lt (wZ a.2.1 1) fun e=> .br (e.2 !=0) (.ret (v.re,e)) (.ob (zg g v.re o/\h.1.List.length<=1048576) (.ret (f.re,e.1,0)))) (.ob (zg g v.re o/\h.1.List.length<=1048576) (.ret (f.re,a.2.1,0))))))))))
def Yb (p:aJ)(g:bC)(v:af)(o:Op)(c:ah):=(O_ p g v o c).val
def az4 (x:af×Int×ae)(y:af×ah×Int):Prop:=y.2.2=x.2.1/\(x.2.1=0->y.1=x.1/\y.2.1=x.2.2.c)
theorem GZ {x:af×Int×ae}{y:af×ah×Int}(h:y.2.2=x.2.1)(a:(x.2.1 !=0)=true):az4 x y:=⟨h,fun k=>absurd k (by simpa[bne]using a)⟩
theorem YY {p q:aJ}{g:bC}{v:af}{o:Op}{c:ah}(h:rq v (ae.mk q c))(a:zg g v o)(F:FM p)(E:∀e n,BM p e n=BM q e n):mG (ahm g v o (ae.mk q c)) (O_ p g v o c) az4:=by
 have O:=sK h;have l:=C_ h o.Num;have A:ig c:=h.1;unfold ahm O_;simp only[af.dn];refine fV fun B u=>fP fun b f1=> ?_;rw[jc]at f1;have I:B=(b.2,ae.mk q b.1):=by rw[u,f1];rfl
 clear u;subst I;refine iP rfl (fun c=>bZ (GZ rfl c)) fun R=> ?_;have s:=lJ A (n:=1) (by rw[<-f1];exact bW.1 R);rw[<-f1]at s;refine fC (dV s.1.1 (fV fun k j=>fP fun Y f2=> ?_));have d:=Yp s.1.1 q (rG o);rw[KA]at f2;have z:=wI (r:=ae.mk q b.1) (wire:=rG o) s.1.1;have w:=Aj (r:=ae.mk q b.1) (wire:=rG o) s.1.1;dsimp only at j;rw[<-j]at d z w;rw[<-f2]at d;obtain⟨i,Q⟩:=d;refine iP (by rw[i]) (fun c=>bZ (GZ i c)) fun t=> ?_;obtain⟨D,P⟩:=Q (bW.1 t);obtain⟨a1,a2,V,S,_⟩:=z (bW.1 t);have a2:k.2.2.p=q:=a2;rw[D,P,a2];refine fC (dV S (fV fun G H=>fP fun C f3=> ?_));have x:C=G:=by rw[f3,H,Eh F E o _ w]
 subst x;refine iP rfl (fun _=>fC (dV O.1 (bZ ⟨rfl,fun _=>⟨Tf _ _,rfl⟩⟩))) fun _=>iP rfl (fun c=>bZ (GZ rfl c)) fun _=>iP rfl (fun _=>fC (dV a (bZ ⟨rfl,fun _=>⟨CV a.1 a.2.1 a.2.2,rfl⟩⟩))) fun _=> ?_;refine fV fun M J=>fV fun X f=>fP fun L f4=> ?_;have m:L=M:=by rw[f4,J,VU a]
 subst m;rw[ug,<-f];refine iP rfl (fun U=>fV fun K N=>fP fun y f6=> ?_) (fun _=>fC (fC (dV ⟨a,by rw[f];exact l.1⟩ (bZ ⟨rfl,fun _=>⟨rfl,rfl⟩⟩))));have T:K=(y.2,ae.mk k.2.2.p y.1):=by rw[N,f6,jc];rfl
 subst T;exact iP rfl (fun c=>bZ (GZ rfl c)) fun W=>fC (fC (dV ⟨a,by rw[f];exact l.1⟩ (bZ ⟨rfl,fun _=>⟨rfl,rfl⟩⟩)))
theorem aj2 (p:aJ)(g:bC)(v:af)(o:Op)(c:ah)(h:rq v (ae.mk p c)/\zg g v o/\FM p):Is (O_ p g v o c):=
 (YY h.1 h.2.1 h.2.2 (fun _ _=>rfl)).1
def aaC:bT Z:=E1 [yJ,BU,Y1,CS,GM,aci,ack,RV] [] (ax (aQ dU) (ax (aQ jV) (ax (aQ aH) (ax (aQ jD) (a1 (aQ aP)))))) (shr [.slot 0 true (nn 7), .slot 1 true (nn 6), s0 2] (aC aH (aC aP (l1 cI)))) [] func379 3 (fun a=>O_ a.1 a.2.1 a.2.2.1 a.2.2.2.1 a.2.2.2.2) (fun a=>rq a.2.2.1 (ae.mk a.1 a.2.2.2.2)/\zg a.2.1 a.2.2.1 a.2.2.2.1/\FM a.1) fun a h=>aj2 a.1 a.2.1 a.2.2.1 a.2.2.2.1 a.2.2.2.2 h
mutual
def wV (p:aJ):af->bC->Prop
 | .mk k _ _ _ _ s _,g=>k=10/\wSs p s g/\(s.map Slot.Num).Nodup
def wSs (p:aJ):List Slot->bC->Prop
 | [],_=>True
 | x::l,g=>wS p x g/\wSs p l g
def wS (p:aJ):Slot->bC->Prop
 | .mk n v,g=>∃o,o∈g.Ops/\o.Num=n/\(o.Kind=10->wE p v (p.aO.getD o.Target.toNat aU) o.Card)
def wE (p:aJ):af->bC->Int->Prop
 | .mk k _ _ l q s _,g,a=>(a=4->k=11/\q=[]/\wVs p l g)/\(a=5->k=12/\l=[]/\wPs p q g)/\(a≠4->a≠5->k=10/\wSs p s g/\(s.map Slot.Num).Nodup)
def wVs (p:aJ):List af->bC->Prop
 | [],_=>True
 | x::l,g=>wV p x g/\wVs p l g
def wPs (p:aJ):List Pair->bC->Prop
 | [],_=>True
 | x::l,g=>wP p x g/\wPs p l g
def wP (p:aJ):Pair->bC->Prop
 | .mk _ v,g=>wV p v g
end
theorem am0 {p:aJ}{g:bC}:∀{l:List af},wVs p l g ↔ ∀x∈l,wV p x g
 | []=>by simp[wVs]
 | x::l=>by simp[wVs,am0 (l:=l)]
theorem aoB {p:aJ}{g:bC}:∀{l:List Pair},wPs p l g ↔ ∀x∈l,wV p x.Val g
 | []=>by simp[wPs]
 | .mk k v::l=>by simp[wPs,wP,aoB (l:=l),Pair.Val]
def wSp (p:aJ)(g:bC)(x:Slot):Prop:=∃o,o∈g.Ops/\o.Num=x.Num/\(o.Kind=10->wE p x.Val (p.aO.getD o.Target.toNat aU) o.Card)
theorem aob {p:aJ}{g:bC}:∀{l:List Slot},wSs p l g ↔ ∀x∈l,wSp p g x
 | []=>by simp[wSs]
 | .mk n v::l=>by simp[wSs,wS,aob (l:=l),wSp,Slot.Num,Slot.Val]
theorem BG {p:aJ}{g:bC}{v:af}:wV p v g ↔ v.Kind=10/\(∀x∈v.Slots,wSp p g x)/\(v.Slots.map Slot.Num).Nodup:=by
 cases v;simp only[wV,aob,af.Slots,af.Kind]
theorem vV {p:aJ}{g:bC}{v:af}{a:Int}:wE p v g a ↔ (a=4->v.Kind=11/\v.Pairs=[]/\∀x∈v.List,wV p x g)/\(a=5->v.Kind=12/\v.List=[]/\∀x∈v.Pairs,wV p x.Val g)/\(a≠4->a≠5->wV p v g):=by
 cases v;simp only[wE,wV,am0,aoB,af.List,af.Pairs,af.Kind]
def aFW (g:bC):Prop:=g.Ops.Pairwise fun a b=>a.Num < b.Num
theorem afs {g:bC}(d:aFW g){o q:Op}(h:o∈g.Ops)(f:q∈g.Ops)(e:o.Num=q.Num):o=q:=by
 obtain⟨i,a,rfl⟩:=Qb7.1 h;obtain⟨j,b,rfl⟩:=Qb7.1 f;have k:=Qco.1 d;rcases Qd3 i j with c | c | c
 ·have:=k i j a b c;omega
 ·subst c;rfl
 ·have:=k j i b a c;omega
theorem Yh {p:aJ}{g:bC}{b:Int}{t:Str}:wV p (af.mk 10 b t [] [] [] []) g:=BG.2 ⟨rfl,fun x a=>absurd a (Qbq),Qdk⟩
theorem ah7 {p:aJ}{g:bC}{v:af}{f:Raw}(h:wV p v g):wV p (qX v f) g:=by
 rw[BG]at h⊢;rw[D6];exact h
theorem Wn {p:aJ}{g:bC}{v x:af}{o:Op}(q:v.Slots.length<=1048576)(h:wV p v g)(j:o∈g.Ops)(m:o.Kind=10->wE p x (p.aO.getD o.Target.toNat aU) o.Card):wV p (ut g v o x) g:=by
 obtain⟨l,d,e⟩:=VF g v o x q;rw[e,BG];rw[BG]at h;have i:∀y∈l,y∈v.Slots/\y.Num≠o.Num:=fun y c=>by
  have:=ZT.1 (d.subset c);exact⟨this.1,by simpa using this.2⟩
 refine⟨rfl,fun y c=> ?_,?_⟩
 ·rcases vN.1 c with k | k
  ·exact h.2.1 y (i y k).1
  ·rw[FY.1 k];exact⟨o,j,rfl,m⟩
 ·show((l++[Slot.mk o.Num x]).map Slot.Num).Nodup
  rw[Qef,Qd2];refine⟨h.2.2.sublist ((d.trans List.filter_sublist).map _),by simp,fun a n b f=> ?_⟩;obtain⟨y,c,rfl⟩:=JC.1 n;rw[List.map_singleton,FY]at f;rw[f];exact(i y c).2
theorem ady {p:aJ}{g:bC}{v:af}{o:Op}(h:wV p v g)(k:aFW g)(f:o∈g.Ops)(i:o.Kind=10)(j:(dG v o.Num).2=true):wE p (dG v o.Num).1 (p.aO.getD o.Target.toNat aU) o.Card:=by
 rw[BG]at h;rcases xk v o.Num with⟨_,s,d,m,l⟩ | ⟨a,_⟩
 ·obtain⟨q,b,c,n⟩:=h.2.1 s d;have e:q=o:=afs k b f (c.trans m);subst e;rw[<-l];exact n i
 ·rw[j]at a;cases a
theorem apF {p:aJ}{g:bC}{l x:af}(c:∀y∈l.List,wV p y g)(a:wV p x g):wE p (pJ l x) g 4:=by
 rw[vV,Aa];refine⟨fun _=>⟨rfl,rfl,fun y b=> ?_⟩,fun k=>absurd k jy,fun k=>absurd rfl k⟩;rcases vN.1 b with k | k
 ·exact c y k
 ·rw[FY.1 k];exact a
theorem aux {p:aJ}{g:bC}{l:List Pair}(h:∀y∈l,wV p y.Val g):wE p (af.mk 12 0 [] [] l [] []) g 5:=by
 rw[vV];exact⟨fun k=>absurd k jy,fun _=>⟨rfl,rfl,h⟩,fun _ k=>absurd rfl k⟩
noncomputable def stepT (F:bC->af->Op->Int->ae->af×Int×ae)(g:bC)(v:af)(r:ae):af×Int×ae:=
 let t:=dZ r.c
 bif t.2.2.2 !=0 then(v,t.2.2.2,r)else
 match g.Ops.find? (fun o=>o.Num==t.1)with
 | some o=>F g v o t.2.1 (ae.mk r.p t.2.2.1)
 | none=>bif (lg r.c).2.2 !=0 then(v,(lg r.c).2.2,r)else(qX v (lg r.c).1,0,ae.mk r.p (lg r.c).2.1)
theorem agH (b:Nat)(prog:Int)(v:af)(r:ae):(iq (b+1)).1 prog v r=JE (fun(x:ae×af)=>bif decide (0 < oK x.1.c)then(bif (stepT (iq b).2.1 (r.p.aO.getD prog.toNat aU) x.2 x.1).2.1 !=0 then(.inr (stepT (iq b).2.1 (r.p.aO.getD prog.toNat aU) x.2 x.1):(ae×af)⊕(af×Int×ae))else .inl ((stepT (iq b).2.1 (r.p.aO.getD prog.toNat aU) x.2 x.1).2.2,(stepT (iq b).2.1 (r.p.aO.getD prog.toNat aU) x.2 x.1).1))else .inr (x.2,0,x.1)) default ((r.c.End - r.c.At).toNat+1) (r,v):=by
 show(Oa _ _ _ _ _ _ _ _ _ _ _ _ prog v r).val=_
 unfold Oa;simp only[dN,sS,bF,aN,bG,gm,ay,gz,fM,af.dn];congr 1;funext x;unfold stepT;cases decide (0 < oK x.1.c)with
 | false=>rfl
 | true=>
  dsimp only[cond_true];cases e:(dZ x.1.c).2.2.2 !=0 with
  | true=>rw[cond_true,cond_true];simp only[e,cond_true]
  | false=>
   rw[jm,jm];rw[ab1 (num:=fun o:Op=>o.Num) (n:=(dZ x.1.c).1) (h:=fun a y=>bif ((iq b).2.1 (r.p.aO.getD prog.toNat aU) y.2 a (dZ x.1.c).2.1 (ae.mk y.1.p (dZ x.1.c).2.2.1)).2.1 !=0 then .inr (.inr ((iq b).2.1 (r.p.aO.getD prog.toNat aU) y.2 a (dZ x.1.c).2.1 (ae.mk y.1.p (dZ x.1.c).2.2.1)))else .inr (.inl (((iq b).2.1 (r.p.aO.getD prog.toNat aU) y.2 a (dZ x.1.c).2.1 (ae.mk y.1.p (dZ x.1.c).2.2.1)).2.2,((iq b).2.1 (r.p.aO.getD prog.toNat aU) y.2 a (dZ x.1.c).2.1 (ae.mk y.1.p (dZ x.1.c).2.2.1)).1)))]
   ·cases(r.p.aO.getD prog.toNat aU).Ops.find? (fun o=>o.Num==(dZ x.1.c).1)with
    | none=>
     dsimp only[fG];cases c:(lg x.1.c).2.2 !=0 with
     | true=>simp only[fG,c,cond_true]
     | false=>simp only[fG,c,jm];rfl
    | some o=>
     dsimp only;cases c:((iq b).2.1 (r.p.aO.getD prog.toNat aU) x.2 o (dZ x.1.c).2.1 (ae.mk x.1.p (dZ x.1.c).2.2.1)).2.1 !=0 with
     | true=>simp only[cond_true,aaD]
     | false=>simp only[jm,aaD]
   ·intro k a y d;have:(a.Num !=(dZ x.1.c).1)=false:=by rw[d];exact bne_self_eq_false _
    simp only[this,jm];cases((iq b).2.1 (r.p.aO.getD prog.toNat aU) y.2 a (dZ x.1.c).2.1 (ae.mk y.1.p (dZ x.1.c).2.2.1)).2.1 !=0<;>rfl
   ·intro k a y d;have:(a.Num !=(dZ x.1.c).1)=true:=bne_iff_ne.2 d;simp only[this,cond_true]
def pG (p:aJ):Prop:=mf p/\FM p/\∀g∈p.aO,aFW g/\∀o∈g.Ops,(o.Union= -1\/0<=o.Union)/\1<=o.Card/\o.Card<=5
def rp (p q:aJ):Prop:=q.aO=p.aO/\∀e n,BM p e n=BM q e n
theorem Kz (p:aJ):rp p p:=⟨rfl,fun _ _=>rfl⟩
theorem F9 {p q:aJ}{v:af}{c:ah}(h:rq v (ae.mk p c))(e:rp p q):rq v (ae.mk q c):=by
 refine⟨h.1,fun g a=> ?_,h.2.2⟩;have a:g∈q.aO:=a;rw[e.1]at a;obtain⟨k,f⟩:=h.2.1 g a;refine⟨k,fun o i=> ?_⟩;obtain⟨b,d⟩:=f o i;refine⟨fun j=> ?_,d⟩;show 0<=o.Target/\o.Target < q.aO.length
 rw[e.1];exact b j
theorem aiK {g:bC}{o:Op}(h:o∈g.Ops):(qK g o.Num).2=true:=by
 rw[GG];cases e:g.Ops.find? (fun q=>q.Num==o.Num)with
 | some q=>rfl
 | none=>exact absurd (Qei.1 e o h) kM
theorem O1 {p:aJ}{g:bC}{v:af}{o:Op}(e:pG p)(f:g∈p.aO)(d:o∈g.Ops)(h:v.Slots.length<=1048576)(i:wV p v g):zg g v o:=
 ⟨h,fun s c=>by
  obtain⟨q,a,b,_⟩:=(BG.1 i).2.1 s c;rw[<-b];exact aiK a,((e.2.2 g f).2 o d).1⟩
theorem aCo {p:aJ}{g:bC}{v:af}{o:Op}{r:ae}(i:v.Slots.length<=1048576)(a:wV p v g)(e:o∈g.Ops)(h:o.Kind≠10):wV p (xW g v o r).1 g:=by
 have k:VP (ahm g v o r) (fun x=>wV p x.1 g):=by
  unfold ahm;simp only[af.dn];have c:∀x,wV p (ut g v o x) g:=fun x=>Wn i a e fun k=>absurd k h
  refine iW fun l _=>iU (fun _=>bz a) fun _=>bI (iW fun m _=>iU (fun _=>bz a) fun _=>bI (iW fun n _=>iU (fun _=>bI (bz (ah7 a))) fun _=>iU (fun _=>bz a) fun _=>iU (fun _=>bI (bz (c _))) fun _=>iW fun f d=>iW fun q _=> ?_));have b:wV p f g:=by rw[d];exact c _
  exact iU (fun _=>iW fun j _=>iU (fun _=>bz a) fun _=>bI (bI (bz b))) (fun _=>bI (bI (bz b)))
 exact k
def yL (p:aJ)(g:bC)(x:af×Int×ae)(y:af×ah×Int):Prop:=az4 x y/\(x.2.1=0->wV p x.1 g)
theorem je {p:aJ}{g:bC}{x:af×Int×ae}{y:af×ah×Int}(h:y.2.2=x.2.1)(a:(x.2.1 !=0)=true):yL p g x y:=⟨GZ h a,fun k=>absurd k (by simpa[bne]using a)⟩
theorem MI {R c:Type}{p:aJ}{a:aJ->Pg R}{b:Pg c}{Q:R->c->Prop}(h:∀q,rp p q->mG (a q) b Q):kw b (fun y=>∀q,rp p q->Q (a q).val y):=⟨(h p (Kz p)).1,fun q d=>(h q d).2⟩
noncomputable def N_ (p:aJ)(g:bC)(v:af)(o:Op)(c:ah):Pg (af×ah×Int):=.ob (ig c) (.lt (Ia c) fun b=> .br (b.2.2 !=0) (.ret (v.re,c,b.2.2)) (.lt (YI b.2.1 b.1) fun i=> .ob (ig i) (.lt (afv i) fun d=> .br (d.2.2 !=0) (.ret (v.re,c,d.2.2)) (.lt (bJ .i64 d.1) fun j=> .br (j !=CX o) (.ret (v.re,c,13)) (.cut (fun(h:ah×af)=> .wh ((c.End - c.At).toNat+1) default (fun(a:af×ah)=> .ob (ig a.2) (.lt (A7 a.2) fun k=> .br (decide (0 < k)) (.ob (rq a.1.re (ae.mk p a.2)/\zg g a.1.re o/\FM p) (.lt (Yb p g a.1.re o a.2) fun e=> .br (e.2.2 !=0) (.ret (.inr (e.1.re,c,e.2.2))) (rl (e.1.re,e.2.1)))) (.ret (.inr (a.1.re,Yf b.2.1 a.2,0))))) (h.2.re,h.1)) (.br (!(EE v.re o.Num).2) (.lt (wZ d.2.1 1) fun f=> .br (f.2 !=0) (.ret (.inr (v.re,c,f.2))) (.ob (zg g v.re o) (rl (f.1,(Ip g v.re o (af.mk 11 0 [] [] [] [] [])).re)))) (rl (d.2.1,v.re))))))))
noncomputable def axQ (p:aJ)(g:bC)(v:af)(o:Op)(c:ah):af×ah×Int:=(N_ p g v o c).val
theorem agD {p q:aJ}{g:bC}{v:af}{o:Op}{c:ah}(J:pG p)(hq:rp p q)(h:rq v (ae.mk p c))(hg:g∈p.aO)(H:o∈g.Ops)(hk:o.Kind≠10)(hn:1<=o.Num/\o.Num<=65535)(S:wV p v g):mG (abm g v o (ae.mk q c)) (N_ p g v o c) (yL p g):=by
 have h':=F9 h hq;have N:=sK h;have i:ig c:=h.1;unfold abm N_;simp only[af.dn];refine fC (dV i (fV fun L M=>fP fun w3 f3=> ?_));have k3:w3=(L.1,L.2.2.c,L.2.1):=by rw[f3,BO i q,M]
 subst k3;clear f3;refine iP rfl (fun U=>bZ (je rfl U)) fun U=> ?_;obtain⟨l1,l2,Y,C,B⟩:=mr (r:=ae.mk q c) i (by rw[<-M];exact bW.1 U);rw[<-M]at l1 l2 Y C B;clear M;obtain⟨j,er3,t,a⟩:=L;dsimp only at l1 l2 Y C B⊢;subst Y;have l7:=l1.2.2.2.2.2.2;have le:=l1.2.2.1;have V:=Ou l1.1 C B;refine fV fun v4 e4=>fP fun w4 f4=> ?_;have f4:w4=oh a j:=f4.trans (Ll (fun x:ah×ae=>x.2.c) (Cb (r:=ae.mk t a) l1.1 C B));rw[Cb (r:=ae.mk t a) l1.1 C B]at e4;subst f4 e4;refine fC (dV V (fV fun v5 K=>fP fun w5 f5=> ?_));have k5:w5=v5:=by rw[f5,K,arE V]
 subst k5;refine iP rfl (fun Z=>bZ (je rfl Z)) fun Z=>fV fun v6 e6=>fP fun w6 f6=> ?_;have k6:w6=v6:=f6.trans e6.symm;subst k6;rw[KA];refine iP rfl (fun c6=>bZ (je rfl rfl)) fun c6=> ?_;obtain⟨b1,b2,b3⟩:=aa1 V (by rw[<-K];exact bW.1 Z);rw[<-K]at b1 b2 b3;clear K f5;have z:(oh a j).At=a.At:=rfl;have P:(oh a j).End=a.At+j:=rfl;rw[z]at b3;have J0:∀(x:ae×af),x.1.p=t->AA 0 (oh a j) x.1.c->kV x.2->(tV x.2:Int)<=tV v+8*(x.1.c.At - a.At)->rq x.2 x.1:=fun x A d w R=>by
  have xE:=d.2.2.1;rw[P]at xE;exact⟨d.1,by rw[A];exact h'.2.1,w,by have:=h.2.2.2;dsimp only at this;omega⟩
 rw[ug];refine XJ (fun x y=>y=(x.1.c,x.2)/\x.1.p=t/\AA 0 (oh a j) x.1.c/\kV x.2/\(tV x.2:Int)<=tV v+8*(x.1.c.At - a.At)/\wV p x.2 g) ?_ fun x y m=> ?_
 ·refine iP rfl (fun F=>fV fun v9 e9=>fP fun T f9=> ?_) (fun _=>bZ ⟨rfl,rfl,iC b1 jy,h.2.2.1,by show(tV v:Int)<=tV v+8*(w5.2.1.At - a.At);omega,S⟩);have k9:v9=(T.2,ae.mk t T.1):=by rw[e9,f9,jc];rfl
  subst k9;refine iP rfl (fun Q=>bZ (je rfl Q)) fun Q=> ?_;have s:=lJ b1.1 (n:=1) (by rw[<-jc,<-f9];exact bW.1 Q);rw[<-jc,<-f9]at s;have l:=O1 J hg H N.2.1 S;refine fC (dV l (bZ ⟨by rw[CV l.1 l.2.1 l.2.2],rfl,iC (iM b1 s.1) jy,G8 N.2.1 h.2.2.1 (kE 11 0 [] u0).1,?_,Wn N.2.1 S H fun k=>absurd k hk⟩));have t2:=Hf (g:=g) (v:=v) (o:=o) (x:=af.mk 11 0 [] [] [] [] []) N.2.1;have t3:=(kE 11 0 [] u0).2;have w:=s.2.2.1;simp only[BP]at t3;show(tV (ut g v o (af.mk 11 0 [] [] [] [] [])):Int)<=tV v+8*(T.1.At - a.At)
  omega
 ·refine axM (fun x y=>y=(x.2,x.1.c)/\x.1.p=t/\AA 0 (oh a j) x.1.c/\kV x.2/\(tV x.2:Int)<=tV v+8*(x.1.c.At - a.At)/\wV p x.2 g) (fun y=>(y.2.End - y.2.At).toNat) ⟨by rw[m.1],m.2⟩ ?_ ?_ fun x y hx=> ?_
  ·obtain⟨e,y1,⟨⟨⟨q1,q2,q3,q4⟩,_⟩,y22,E,y24,y25,y26,D⟩,y3,y4⟩:=m;rw[P]at E;rw[z]at D;have:=i.1.1;rw[e];show(x.1.c.End - x.1.c.At).toNat < (c.End - c.At).toNat+1
   omega
  ·obtain⟨e,y1,⟨⟨⟨q1,q2,q3,q4⟩,_⟩,y22,E,y24,y25,y26,D⟩,y3,y4⟩:=m;rw[P]at E;rw[z]at D;have:=i.1.1;rw[e];show(x.1.c.End - x.1.c.At).toNat < (c.End - c.At).toNat+1
   omega
  ·obtain⟨rfl,A,d,w,R,I⟩:=hx;have b:=J0 x A d w R;obtain⟨⟨X,u⟩,G⟩:=x;dsimp only at A d w R I b⊢;subst A;have aJy:rq G (ae.mk p u):=⟨b.1,h.2.1,b.2.2⟩;have l:=O1 J hg H (sK b).2.1 I;refine fV fun v7 e7=>dV d.1 (fP fun w7 f7=> ?_);have k7:w7=v7:=by rw[f7,e7];exact vW d.1
   subst k7;refine iP rfl (fun c7=>fC (dV ⟨aJy,l,J.2.1⟩ (fV fun v8 W=>fP fun w8 f8=> ?_))) (fun c7=>bZ ⟨⟨rfl,fun _=>⟨rfl,rfl⟩⟩,fun _=>I⟩);have s:az4 v8 w8:=by rw[W,f8];exact(YY b l J.2.1 hq.2).2
   obtain⟨s1,s2⟩:=s;refine iP (by rw[s1]) (fun F=>bZ (je s1 F)) (fun F=> ?_);obtain⟨a1,a2⟩:=s2 (bW.1 F);have f:=(Lt g G o (ae.mk X u) ⟨b,hn⟩).2;have O:=aCo (p:=p) (g:=g) (v:=G) (o:=o) (r:=ae.mk X u) (sK b).2.1 I H hk;have f:FP 1 0 G (ae.mk X u) v8:=by rw[W];exact f
   rw[<-W]at O;obtain⟨f1,f2,f3,f4⟩:=f (bW.1 F);have fE:=f2.2.2.1;have fA:=f2.2.2.2.2.2.2;have fL:=f2.1.1.2.1;refine bZ ⟨⟨by rw[a1,a2],f1,iC (iM d f2) jy,f3,?_,O⟩,?_⟩
   ·dsimp only at f4⊢;omega
   ·show(w8.2.1.End - w8.2.1.At).toNat < (u.End - u.At).toNat
    rw[a2];dsimp only at fE fA fL;omega
theorem akC (p:aJ)(g:bC)(v:af)(o:Op)(c:ah)(h:pG p/\rq v (ae.mk p c)/\(g∈p.aO/\o∈g.Ops/\o.Kind≠10/\1<=o.Num/\o.Num<=65535)/\wV p v g):Is (N_ p g v o c):=
 (agD h.1 (Kz p) h.2.1 h.2.2.1.1 h.2.2.1.2.1 h.2.2.1.2.2.1 h.2.2.1.2.2.2 h.2.2.2).1
noncomputable def aq5:bT Z:=E1 [yJ,BU,Ci,CS,aaC,MK,aa0,GM,SH,aws] [jS 15 (dh (fun b=>[.cells (pid (b 7)) (nn 7), .cells (pid (b 17)) (nn 6)]) (aC aH (l1 aP))),jS 100015 (dh (fun b=>[.cells (pid (b 17)) (nn 6), .cells (pid (b 7)) (nn 7)]) (aC aP (l1 aH)))] (ax (aQ dU) (ax (aQ jV) (ax (aQ aH) (ax (aQ jD) (a1 (aQ aP)))))) (shr [.slot 0 true (nn 7), .slot 1 true (nn 6), s0 2] (aC aH (aC aP (l1 cI)))) [] func376 3 (fun a=>N_ a.1 a.2.1 a.2.2.1 a.2.2.2.1 a.2.2.2.2) (fun a=>pG a.1/\rq a.2.2.1 (ae.mk a.1 a.2.2.2.2)/\(a.2.1∈a.1.aO/\a.2.2.2.1∈a.2.1.Ops/\a.2.2.2.1.Kind≠10/\1<=a.2.2.2.1.Num/\a.2.2.2.1.Num<=65535)/\wV a.1 a.2.2.1 a.2.1) fun a h=>akC a.1 a.2.1 a.2.2.1 a.2.2.2.1 a.2.2.2.2 h
section
variable {A:Type}{lt:A->A->Bool}
def alD (c:A->A->Bool)(l:List A):Prop:=l.Pairwise fun a b=>c a b=true
theorem QL (f:zT lt):∀{l m:List A},alD lt l->alD lt m->(∀x,x∈l ↔ x∈m)->l=m
 | [],[],_,_,_=>rfl
 | [],b::u,_,_,h=>absurd ((h b).2 (Qbl)) kM
 | a::t,[],_,_,h=>absurd ((h a).1 (Qbl)) kM
 | a::t,b::u,k,j,h=>by
  have d:=Qbh.1 k;have g:=Qbh.1 j;have e:a=b:=by
   rcases zN.1 ((h a).1 (Qbl))with e | e
   ·exact e
   ·rcases zN.1 ((h b).2 (Qbl))with i | i
    ·exact i.symm
    ·have:=f.asym (d.1 b i);grind
  subst e;congr 1;refine QL f d.2 g.2 fun x=>⟨fun c=> ?_,fun c=> ?_⟩
  ·rcases zN.1 ((h x).1 (Qa9 _ c))with e | e
   ·have:=d.1 x c;rw[e,f.irr a]at this;cases this
   ·exact e
  ·rcases zN.1 ((h x).2 (Qa9 _ c))with e | e
   ·have:=g.1 x c;rw[e,f.irr a]at this;cases this
   ·exact e
def isLast (a:A->A->Bool)(l:List A)(x:A):Prop:=∃u w,l=u++x::w/\∀y∈w,BB a x y=false
theorem YV (a:zT lt){l:List A}{x:A}:isLast lt l x ↔ ∃s,l.filter (BB lt x)=s++[x]:=by
 constructor
 ·rintro⟨u,w,rfl,g⟩;refine⟨u.filter (BB lt x),?_⟩;rw[Qcq,Qcg (a.rfl' x),(List.filter_eq_nil_iff (l:=w)).2 fun y d=>by grind]
 ·rintro⟨s,h⟩;obtain⟨l1,f,rfl,_,b⟩:=List.filter_eq_append_iff.1 h;obtain⟨e,c,rfl,_,_,i⟩:=List.filter_eq_cons_iff.1 b;refine⟨l1++e,c,by simp,fun y d=> ?_⟩;simp_all
theorem ajV (a:zT lt){l v:List A}(h:qO lt l v)(x:A):isLast lt v x ↔ isLast lt l x:=by
 rw[YV a,YV a,h x]
def hd1 (c:A->A->Bool)(a:A):List A->Bool
 | []=>true
 | b::_=> !BB c a b
def kl (b:A->A->Bool):List A->List A
 | []=>[]
 | a::l=>bif hd1 b a l then a::kl b l else kl b l
theorem ak1:∀(l:List A),∀x∈kl lt l,x∈l
 | [],x,h=>h
 | a::l,x,h=>by
  unfold kl at h;cases e:hd1 lt a l with
  | true=>
   rw[e]at h;rcases zN.1 h with h | h
   ·grind
   ·exact Qa9 _ (ak1 l x h)
  | false=>rw[e]at h;exact Qa9 _ (ak1 l x h)
theorem azn (i:zT lt){a:A}{l:List A}(h:BR lt (a::l))(e:hd1 lt a l=true):∀y∈l,lt a y=true:=by
 cases l with
 | nil=>grind
 | cons b l=>
  have g:=Qbh.1 h;have j:=Qbh.1 g.2;have d:=g.1 b (Qbl);have m:lt a b=true:=by
   cases k:lt a b with
   | true=>rfl
   | false=>
    have:BB lt a b=true:=NY.2 ⟨k,d⟩;have e:(!BB lt a b)=true:=e
    grind
  intro y c;rcases zN.1 c with c | c
  ·grind
  ·have f:=j.1 y c;cases k:lt a y with
   | true=>rfl
   | false=>have:=i.trn f k;grind
theorem aCs (j:zT lt):∀(l:List A),BR lt l->alD lt (kl lt l)/\∀x,x∈kl lt l ↔ isLast lt l x
 | [],_=>⟨List.Pairwise.nil,fun x=>⟨fun h=>absurd h (by simp[kl]),fun⟨u,w,h,_⟩=>absurd (Ll List.length h) kM⟩⟩
 | a::l,h=>by
  obtain⟨g,f⟩:=aCs j l (Qbh.1 h).2;have i:∀x,isLast lt (a::l) x ↔ (x=a/\∀y∈l,BB lt a y=false)\/isLast lt l x:=fun x=>by
   constructor
   ·rintro⟨u,w,e,d⟩;cases u with
    | nil=>grind
    | cons c u=>injection e with p n;exact .inr ⟨u,w,n,d⟩
   ·rintro(⟨rfl,d⟩ | ⟨u,w,e,d⟩)
    ·exact⟨[],l,rfl,d⟩
    ·exact⟨a::u,w,by rw[e];rfl,d⟩
  unfold kl;cases e:hd1 lt a l with
  | true=>
   have o:=azn j h e;refine⟨Qbh.2 ⟨fun y m=>o y (ak1 l y m),g⟩,fun x=> ?_⟩;rw[i,cond_true,zN,f];refine or_congr ⟨fun k=>⟨k,fun y m=> ?_⟩,fun k=>k.1⟩ Iff.rfl;unfold BB
   grind
  | false=>
   refine⟨g,fun x=> ?_⟩;rw[i,jm,f];refine⟨.inr,fun k=>k.resolve_left fun k=> ?_⟩;cases l with
   | nil=>cases e
   | cons b l=>have:=k.2 b (Qbl);simp[hd1,this]at e
def insL (b:A->A->Bool)(x:A)(a:List A):List A:=a.takeWhile (fun y=>b y x)++x::a.dropWhile (fun y=>b y x)
theorem V_ {x y:A}{a:List A}:y∈insL lt x a ↔ y=x\/y∈a:=by
 conv=>rhs;rw[<-List.takeWhile_append_dropWhile (p:=fun y=>lt y x) (l:=a)]
 unfold insL
 grind
theorem aca (d:zT lt){x:A}:∀{b:List A},alD lt b->(∀y∈b,BB lt y x=false)->alD lt (insL lt x b)
 | [],_,_=>Qda _ _
 | a::b,h,i=>by
  have g:=Qbh.1 h;cases e:lt a x with
  | true=>
   have j:=aca d (x:=x) g.2 fun y c=>i y (Qa9 _ c)
   have f:insL lt x (a::b)=a::insL lt x b:=by
    unfold insL;simp_all
   rw[f];refine Qbh.2 ⟨fun y c=> ?_,j⟩;rcases V_.1 c with k | k
   ·rw[k];exact e
   ·exact g.1 y k
  | false=>
   have f:insL lt x (a::b)=x::a::b:=by
    unfold insL;simp_all
   rw[f];have l:lt x a=true:=by
    cases k:lt x a with
    | true=>rfl
    | false=>have:=i a (Qbl);rw[NY.2 ⟨e,k⟩]at this;cases this
   refine Qbh.2 ⟨fun y c=> ?_,h⟩;rcases zN.1 c with k | k
   ·grind
   ·cases q:lt x y with
    | true=>rfl
    | false=>have:=d.trn (d.asym (g.1 y k)) q;grind
def uJ (b:A->A->Bool):List A->List A->List A
 | a,[]=>a
 | a,x::w=>uJ b (bif w.any (BB b x)then a else insL b x a) w
theorem Fj (g:zT lt):∀(l a:List A),alD lt a->(∀y∈a,∀z∈l,BB lt y z=false)->alD lt (uJ lt a l)/\∀y,y∈uJ lt a l ↔ y∈a\/isLast lt l y
 | [],a,h,_=>⟨h,fun y=>⟨.inl,fun k=>k.resolve_right fun⟨u,w,h,_⟩=>absurd (Ll List.length h) kM⟩⟩
 | x::w,a,h,i=>by
  have n:∀y,isLast lt (x::w) y ↔ (y=x/\∀z∈w,BB lt x z=false)\/isLast lt w y:=fun y=>by
   constructor
   ·rintro⟨u,v,e,b⟩;cases u with
    | nil=>grind
    | cons c u=>injection e with p o;exact .inr ⟨u,v,o,b⟩
   ·rintro(⟨rfl,b⟩ | ⟨u,v,e,b⟩)
    ·exact⟨[],w,rfl,b⟩
    ·exact⟨x::u,v,by rw[e];rfl,b⟩
  unfold uJ;cases e:w.any (BB lt x)with
  | true=>
   obtain⟨j,m⟩:=Fj g w a h fun y f z d=>i y f z (Qa9 _ d)
   grind
  | false=>
   have b:∀z∈w,BB lt x z=false:=fun z d=>by
    grind
   obtain⟨j,m⟩:=Fj g w (insL lt x a) (aca g h fun y f=>i y f x (Qbl)) fun y f z d=>by
    rcases V_.1 f with q | q
    ·rw[q];exact b z d
    ·exact i y q z (Qa9 _ d)
   refine⟨j,fun y=> ?_⟩;rw[jm,m,n,V_]
   grind
theorem anW (a:zT lt){l v:List A}(d:BR lt v)(b:qO lt l v):kl lt v=uJ lt [] l:=by
 obtain⟨a1,a2⟩:=aCs a v d;obtain⟨b1,c⟩:=Fj a l [] List.Pairwise.nil fun y e=>absurd e kM
 refine QL a a1 b1 fun x=> ?_;rw[a2,c,ajV a b]
 grind
theorem aF6 (c:zT lt){P S:List A}{x:A}(l:∀p∈P,lt x p=false)(f:∀s∈S,lt x s=true)(h:BR lt (P++S)):BR lt (P++x::S)/\qO lt ((P++S)++[x]) (P++x::S):=by
 obtain⟨g,e,k⟩:=nN.1 h;refine⟨nN.2 ⟨g,Qbh.2 ⟨fun s d=>c.asym (f s d),e⟩,fun a n b j=> ?_⟩,?_⟩
 ·grind
 ·rw[Qa2];exact(qO.refl P).app (WO c (U:=S) (V:=[x]) fun u m v i=>by grind)
theorem ajG (c:zT lt){a:List A}{x d:A}{n:Nat}(h:BR lt a)(j:n < a.length)(b:lt x (a.getD n d)=false):∀p∈a.take (n+1),lt x p=false:=by
 intro p f;obtain⟨i,g,rfl⟩:=Qb7.1 f;rw[C9]at g;rw[List.getElem_take];have e:a.getD n d=a[n]:=by grind
 rw[e]at b;rcases Nat.lt_or_eq_of_le (show i<=n by omega)with k | k
 ·exact c.trn (Qco.1 h i n au j k) b
 grind
theorem aiV {B:Type}{f g:A->Option B}:∀{l:List A},(∀x∈l,f x=g x)->l.filterMap f=l.filterMap g
 | [],_=>rfl
 | a::l,h=>by rw[Qdr,Qdr,h a (Qbl),aiV fun x b=>h x (Qa9 _ b)]
theorem aFP {B C:Type}{num:A->Int}{c:List B}{afM:B->Int}{d S:List A}(s:S.Pairwise fun a b=>num a < num b)(w:∀x,x∈S ↔ x∈d)(v:d.Pairwise fun a b=>num a≠num b)(i:c.Pairwise fun a b=>afM a < afM b)(p:∀x∈d,∃o∈c,afM o=num x)
  (g:A->Option C) (f:B->A->Option C) (E:∀o∈c,∀x∈d,num x=afM o->g x=f o x):S.filterMap g=c.flatMap fun o=>(d.filter fun x=>num x==afM o).filterMap (f o):=by
 have e:S=c.flatMap fun o=>d.filter fun x=>num x==afM o:=by
  have q:∀{l m:List A},l.Pairwise (fun a b=>num a < num b)->m.Pairwise (fun a b=>num a < num b)->(∀x,x∈l ↔ x∈m)->l=m:=fun n k t=>by
   have u:zT (fun a b:A=>decide (num a < num b)):=⟨fun h=>jF qg,fun n k=>jF qg⟩;exact QL u (n.imp fun h=>jK h) (k.imp fun h=>jK h) t
  refine q s (List.pairwise_flatMap.2 ⟨fun o _=> ?_,i.imp fun{a b} h x j y r=> ?_⟩) fun x=> ?_
  ·refine(v.filter _).imp_of_mem fun{a b} p D h=>absurd ?_ h
   grind
  ·have n:=eq_of_beq (ZT.1 j).2;have k:=eq_of_beq (ZT.1 r).2;omega
  ·rw[w,zL];constructor
   ·intro j;obtain⟨o,i,e⟩:=p x j;exact⟨o,i,ZT.2 ⟨j,by rw[e];exact Qc2 _⟩⟩
   ·rintro⟨o,_,h⟩;exact(ZT.1 h).1
 rw[e,List.filterMap_flatMap];have:∀l:List B,(∀o∈l,o∈c)->l.flatMap (fun o=>(d.filter fun x=>num x==afM o).filterMap g)=l.flatMap fun o=>(d.filter fun x=>num x==afM o).filterMap (f o):=fun l=>by
  induction l with
  | nil=>grind
  | cons o l z=>
   intro h;rw[Qcc,Qcc,z fun o i=>h o (Qa9 _ i)];congr 1;refine aiV fun x j=> ?_
   grind
 grind
end
def YE {A:Type}(c:A->A->Int):Prop:=∀a b,(c a b=0/\c b a=0)\/(c a b < 0/\0 < c b a)\/(0 < c a b/\c b a < 0)
theorem as8:∀a b:Str,Op.bytesLess a b=false->Op.bytesLess b a=false->a=b
 | [],[],_,_=>rfl
 | [],_::_,h,_=>absurd h qcj
 | _::_,[],_,h=>absurd h qcj
 | x::a,y::b,d,c=>by
  have f:=as8 a b;simp only[Op.bytesLess,Qcu,Qdf,decide_eq_false_iff_not,Qbo,Qe]at d c;have e:x=y:=Qcn.1 au
  grind
theorem IJ:YE Jr:=fun a b=>by rw[Fg,Fg];omega
theorem abz:YE Tj:=fun a b=>by rw[OB,OB];omega
theorem Xe (x y:Str):abA x y=bif Op.bytesLess x y then -1 else bif x==y then 0 else 1:=by
 unfold abA aAG Uh acR;simp only[bF,aN,ay,bne_self_eq_false,jm]
 grind
theorem asb:YE abA:=fun a b=>by
 rw[Xe,Xe];cases c:Op.bytesLess a b with
 | true=>
  rw[Ur a b c];have:(b==a)=false:=beq_false_of_ne fun e=>by rw[e]at c;have:=Ur a a c;grind
  grind
 | false=>
  cases d:Op.bytesLess b a with
  | true=>
   grind
  | false=>
   rw[as8 a b c d];simp
theorem arM:YE r_:=fun a b=>by
 unfold r_ alL;simp only[aN,bF,ay];by_cases e:a.Kind=b.Kind
 ·rw[show(a.Kind !=b.Kind)=false by grind,show(b.Kind !=a.Kind)=false by grind,<-e];cases j_ a.Kind with
  | false=>grind
  | true=>cases EG a.Kind with
   | true=>exact asb _ _
   | false=>cases a.Kind==2 with
    | true=>exact IJ _ _
    | false=>cases a.Kind==3 with
     | true=>exact IJ _ _
     | false=>cases a.Kind==6 with
      | true=>exact abz _ _
      | false=>exact abz _ _
 ·rw[show(a.Kind !=b.Kind)=true from bne_iff_ne.2 e,show(b.Kind !=a.Kind)=true from bne_iff_ne.2 fun k=>e k.symm];exact IJ _ _
theorem Qi {A:Type}{c:A->A->Int}(h:YE c)(a b:A):BB (ltOf c) a b=(c a b==0):=by
 unfold BB ltOf;rcases h a b with⟨e,d⟩ | ⟨f,d⟩ | ⟨f,d⟩
 ·rw[e,d];rfl
 ·rw[jK f,show(c a b==0)=false from beq_false_of_ne au];rfl
 ·rw[jK d,show(c a b==0)=false from beq_false_of_ne au];simp
theorem apf {A:Type}{a:A->A->Bool}{v:List A}{d:A}{i:Nat}{y:List A}(g:i < v.length)(b:y++kl a (v.drop i)=kl a v):(i+1=v.length->(y++[v.getD i d])++kl a (v.drop (i+1))=kl a v)/\(i+1 < v.length->BB a (v.getD i d) (v.getD (i+1) d)=false->(y++[v.getD i d])++kl a (v.drop (i+1))=kl a v)/\(i+1 < v.length->BB a (v.getD i d) (v.getD (i+1) d)=true->y++kl a (v.drop (i+1))=kl a v):=by
 have e:v.drop i=v.getD i d::v.drop (i+1):=by
  simp_all
 have c:i+1 < v.length->v.drop (i+1)=v.getD (i+1) d::v.drop (i+2):=fun h=>by
  rw[Qbc h];grind
 rw[e]at b;have k:kl a (v.getD i d::v.drop (i+1))=bif hd1 a (v.getD i d) (v.drop (i+1))then v.getD i d::kl a (v.drop (i+1))else kl a (v.drop (i+1)):=rfl
 rw[k]at b;refine⟨fun h=> ?_,fun h q=> ?_,fun h q=> ?_⟩
 ·rw[Qdy au]at b⊢;rw[<-b];simp[hd1,kl]
 ·rw[c h]at b⊢;have f:hd1 a (v.getD i d) (v.getD (i+1) d::v.drop (i+2))=true:=by show(!BB _ _ _)=true;rw[q];rfl
  grind
 ·rw[c h]at b⊢;have f:hd1 a (v.getD i d) (v.getD (i+1) d::v.drop (i+2))=false:=by show(!BB _ _ _)=false;rw[q];rfl
  grind
theorem aw5 {A:Type}{a:A->A->Bool}{v y:List A}(b:y++kl a (v.drop v.length)=kl a v):y=kl a v:=by
 rw[Qc1,show kl a ([]:List A)=[]from rfl,Qbk]at b;exact b
theorem avv:YE Jg:=fun a b=>IJ a.Num b.Num
theorem akR (a b:Slot):BB (ltOf Jg) a b=(a.Num==b.Num):=by
 rw[Qi avv];show(Jr a.Num b.Num==0)=_
 rw[Fg]
 grind
theorem akL {l:List Slot}(h:l.length<=1048576):qU l=kl (ltOf Jg) (Mc l):=by
 have k:VP (QF l) (fun r=>r=kl (ltOf Jg) (Mc l)):=by
  unfold QF;simp only[af.dn,Slot.eta];refine bI (bI (iW fun a e=>lY (kW (fun i y=>y++kl (ltOf Jg) (a.drop i)=kl (ltOf Jg) a) rfl (fun i y m b=> ?_) (fun y b=>bz (by rw[aw5 b,e])))));have s:a.length<=1048576:=by rw[e,(MV h).length_eq];exact h
  obtain⟨p,f,o⟩:=apf (d:=iV) m b;have w:bJ .i64 ((i:Int)+1)=((i+1:Nat):Int):=lX au;rw[w];refine lT (bI (iW fun t n=>iW fun q j=>iU (fun c=>lY (bI (bz ?_))) (fun c=>lT (bI (lY (iU (fun g=>bI (bz ?_)) (fun g=>bz ?_)))))));all_goals subst n j
  ·grind
  ·refine f qg ?_;rw[akR];grind
  ·refine o qg ?_;rw[akR];grind
 exact k
theorem WM (a b:Pair):qh a b=r_ a.Key b.Key:=by
 unfold qh opC;simp only[bG,ay,af.dn];exact afw _ _
theorem aho:YE qh:=fun a b=>by rw[WM,WM];exact arM _ _
theorem aw3 (a b:Pair):BB (ltOf qh) a b=ae4 a.Key b.Key:=by
 rw[Qi aho,WM];unfold ae4 alf;simp only[bG,ay,af.dn];rw[afw]
theorem al7 {l:List Pair}(h:oJ l):kL l=kl (ltOf qh) (OW l):=by
 have k:VP (WG l) (fun r=>r=kl (ltOf qh) (OW l)):=by
  unfold WG;simp only[af.dn,Pair.eta];refine bI (bI (iW fun b f=>lY (kW (fun i y=>y++kl (ltOf qh) (b.drop i)=kl (ltOf qh) b) rfl (fun i y m e=> ?_) (fun y e=>bz (by rw[aw5 e,f])))));have s:b.length<=1048576:=by rw[f,(yB (mY h)).length_eq];exact h.1
  obtain⟨p,g,o⟩:=apf (d:=fH) m e;have w:bJ .i64 ((i:Int)+1)=((i+1:Nat):Int):=lX au;rw[w];refine lT (bI (iW fun t n=>iW fun q j=>iU (fun c=>lY (bI (bz ?_))) (fun c=>lT (bI (bI (lY (iU (fun a=>bI (bz ?_)) (fun a=>bz ?_))))))));all_goals subst n j
  ·grind
  ·refine g qg ?_;rw[aw3];simpa using a
  ·refine o qg ?_;rw[aw3];simpa using a
 exact k
theorem agu {l:List Slot}(h:l.length<=1048576):qU l=uJ (ltOf Jg) [] l:=by
 rw[akL h];have k:=QZ l ⟨by omega,fun _ _ _ _=>trivial⟩;exact anW Gf k.1 k.2.1
theorem afR {l:List Pair}(h:oJ l):kL l=uJ (ltOf qh) [] l:=by
 rw[al7 h];have k:=Sr l (mY h);exact anW JQ k.1 k.2.1
noncomputable def FI (F:aJ->Op->af->af)(p:aJ)(g:bC)(s:Slot):Option Slot:=
 bif ((qK g s.Num).1.Card==3 || (qK g s.Num).1.Card==4 || (qK g s.Num).1.Card==5) && Ic (F p (qK g s.Num).1 s.Val)then none else some (Slot.mk s.Num (F p (qK g s.Num).1 s.Val))
theorem aBB {A B:Type}{f:A->Option B}{l:List A}{i:Nat}{d:A}(a:i < l.length):(l.take (i+1)).filterMap f=(l.take i).filterMap f++(f (l.getD i d)).toList:=by
 rw[take_snoc (d:=d) a,List.filterMap_append];rfl
theorem air (a:Nat){p:aJ}{prog:Int}{v:af}(E:0<=prog)(D:prog < p.aO.length):(rO (a+1)).1 p prog v=af.mk 10 0 [] [] [] ((qU v.Slots).filterMap (FI (rO a).2.1 p (p.aO.getD prog.toNat aU))) (nM v.dH):=by
 have k:VP (H7 a p prog v) (fun r=>r=af.mk 10 0 [] [] [] ((qU v.Slots).filterMap (FI (rO a).2.1 p (p.aO.getD prog.toNat aU))) (nM v.dH)):=by
  unfold H7 aov;simp only[af.dn];refine bI (iW fun g w=>iU (fun c=>absurd (EU c) au) fun _=>lY (iU (fun c=>absurd (EU c) au) fun _=>bI (iW fun e C=>lY (kW (fun i y=>y=af.mk 10 0 [] [] [] ((e.take i).filterMap (FI (rO a).2.1 p (p.aO.getD prog.toNat aU))) g) rfl (fun i y B l=> ?_) (fun y l=>bI (bz ?_))))))
  ·rw[aBB (d:=iV) B];unfold FI;generalize e.getD i iV=s;subst l;refine lT (lT (iW fun t n=>iW fun A q=>iW fun j o=> ?_));have q:A=Ic ((rO a).2.1 p j.1 s.Val):=by rw[q,o]
   rw[<-o,<-q];have n:t=List.filterMap (FI (rO a).2.1 p (p.aO.getD prog.toNat aU)) (e.take i)++[Slot.mk s.Num ((rO a).2.1 p j.1 s.Val)]:=by rw[n,o];rfl
   have f:∀{b:Bool},b=false->af.mk 10 0 [] [] [] t g=af.mk 10 0 [] [] [] (List.filterMap (FI (rO a).2.1 p (p.aO.getD prog.toNat aU)) (e.take i)++(bif b then none else some (Slot.mk s.Num ((rO a).2.1 p j.1 s.Val))).toList) g:=fun h=>by rw[h,n];rfl
   have m:∀{b:Bool},b=true->af.mk 10 0 [] [] [] (List.filterMap (FI (rO a).2.1 p (p.aO.getD prog.toNat aU)) (e.take i)) g=af.mk 10 0 [] [] [] (List.filterMap (FI (rO a).2.1 p (p.aO.getD prog.toNat aU)) (e.take i)++(bif b then none else some (Slot.mk s.Num ((rO a).2.1 p j.1 s.Val))).toList) g:=fun h=>by rw[h];simp
   refine iU (fun z=>bI (iU (fun c=>bI (bz (f ?_))) (fun c=>bz (m ?_)))) (fun z=>iU (fun x=>bI (iU (fun c=>bI (bz (f ?_))) (fun c=>bz (m ?_)))) (fun x=>bI (iU (fun u=>bI (bz (f ?_))) (fun u=>iU (fun c=>bI (bz (f ?_))) (fun c=>bz (m ?_))))));all_goals grind
  ·subst l;show af.mk 10 0 [] [] [] (List.filterMap _ (e.take e.length)) (nM g)=_
   rw[JG,C,w];cases v;rfl
 exact k
theorem amA (a:Nat){p:aJ}{o:Op}{v:af}(h:o.Card=4):(rO (a+1)).2.1 p o v=af.mk 11 0 [] (v.List.map ((rO a).2.2 p o)) [] [] []:=by
 have k:VP (rY a p o v) (fun r=>r=af.mk 11 0 [] (v.List.map ((rO a).2.2 p o)) [] [] []):=by
  unfold rY Qu;simp only[af.dn];refine iU (fun _=>lY (kW (fun i y=>y=af.mk 11 0 [] ((v.List.take i).map ((rO a).2.2 p o)) [] [] []) rfl (fun i y e b=>lT (bI (bI (bz ?_)))) (fun y b=>bz qg))) (fun c=>absurd (beq_iff_eq.2 h) (by rw[c];decide));rw[iI (d:=l_) e,b];rfl
 exact k
theorem asq (a:Nat){p:aJ}{o:Op}{v:af}(h:o.Card=5):(rO (a+1)).2.1 p o v=af.mk 12 0 [] [] ((kL v.Pairs).map fun x=>Pair.mk (kQ x.Key) ((rO a).2.2 p o x.Val)) [] []:=by
 have k:VP (rY a p o v) (fun r=>r=af.mk 12 0 [] [] ((kL v.Pairs).map fun x=>Pair.mk (kQ x.Key) ((rO a).2.2 p o x.Val)) [] []):=by
  unfold rY Qu;simp only[af.dn];refine iU (fun c=>absurd (eq_of_beq c) au) (fun _=>iU (fun _=>bI (iW fun e g=>lY (kW (fun i y=>y=af.mk 12 0 [] [] ((e.take i).map fun x=>Pair.mk (kQ x.Key) ((rO a).2.2 p o x.Val)) [] []) rfl (fun i y f b=>lT (bI (bI (bz ?_)))) (fun y b=>bz qg)))) (fun c=>absurd (beq_iff_eq.2 h) (by rw[c];decide)));rw[iI (d:=fH) f,b];rfl
 exact k
theorem arv (a:Nat){p:aJ}{o:Op}{v:af}(b:o.Card≠4)(d:o.Card≠5):(rO (a+1)).2.1 p o v=(rO a).2.2 p o v:=by
 have k:VP (rY a p o v) (fun r=>r=(rO a).2.2 p o v):=by
  unfold rY Qu;simp only[af.dn];exact iU (fun c=>absurd (eq_of_beq c) b) (fun _=>iU (fun c=>absurd (eq_of_beq c) d) (fun _=>bI (bz rfl)))
 exact k
theorem aaz (a:Nat){p:aJ}{o:Op}{v:af}:(rO (a+1)).2.2 p o v=bif o.Kind==10 then(rO a).1 p o.Target v else kQ v:=by
 show(aeE _ _ _ _ _ _ p o v).val=_
 unfold aeE;simp_all
theorem Ls {A R:Type}{p:A->Bool}{f:Nat->Unit->R}{r:R}{b:Nat->A->Unit->Unit⊕R}(d:∀k a,p a=true->b k a ()= .inl ())(e:∀k a,p a=false->b k a ()= .inr r):∀(l:List A) (k:Nat),jZ b f l k ()=bif l.all p then f (k+l.length) ()else r
 | [],k=>rfl
 | a::l,k=>by
  unfold jZ;rw[Qcj];cases c:p a with
  | true=>
   rw[d k a c];have g:=Ls (f:=f) d e l (k+1)
   grind
  | false=>grind
theorem aeB (b:Nat)(p:aJ)(prog:Int)(v:af):(UL (b+1)) p prog v=(p.aO.getD prog.toNat aU).Ops.all fun o=>bif (dG v o.Num).2 then(o.Kind !=10 || (wQ (dG v o.Num).1).all ((UL b) p o.Target))else o.Card !=1:=by
 show(uy b p prog v).val=_
 unfold uy Ce;simp only[dN,gm,fM,bF,aN,bG,ay,af.dn];refine(Ls (p:=fun o=>bif (dG v o.Num).2 then(o.Kind !=10 || (wQ (dG v o.Num).1).all ((UL b) p o.Target))else o.Card !=1) (r:=false) (fun k o h=> ?_) (fun k o h=> ?_) _ 0).trans ?_
 ·cases e:(dG v o.Num).2 with
  | false=>
   grind
  | true=>
   rw[e]at h;have h:(o.Kind !=10 || (wQ (dG v o.Num).1).all ((UL b) p o.Target))=true:=h;cases c:o.Kind !=10 with
   | true=>rfl
   | false=>
    rw[c]at h;rw[Ls (p:=(UL b) p o.Target) (r:= .inr false) (fun k a h=>by rw[h];rfl) (fun k a h=>by rw[h];rfl)]
    grind
 ·cases e:(dG v o.Num).2 with
  | false=>
   grind
  | true=>
   rw[e]at h;have h:(o.Kind !=10 || (wQ (dG v o.Num).1).all ((UL b) p o.Target))=false:=h;obtain⟨c,h⟩:=Qcu.1 h;rw[c];rw[Ls (p:=(UL b) p o.Target) (r:= .inr false) (fun k a h=>by rw[h];rfl) (fun k a h=>by rw[h];rfl),h];rfl
 grind
def OC (k:Int):Pg Bool:=.br (k==2) (.ret true) (.ret (k==3))
def vG (k:Int):=(OC k).val
theorem ah9 (k:Int):Is (OC k):=
 bK iR iR
def akV:bT Z:=E0 [] [] (a1 (df cI)) (R1 aW) [] func550 1 OC fun a=>ah9 a
def WQ (v:af):Pg Int:=.lt (bJ .u64 (v.Bits+9223372036854775808)) fun a=> .br (vG v.Kind) (.ret a) (.br (v.Kind !=6) (.ret v.Bits) (.br (CO v.Bits==0) (.ret 18446744073709551615) (.br (decide (9223372036854775808<=v.Bits)) (.ret (bJ .u64 (18446744073709551615 - v.Bits))) (.ret a))))
def IV (v:af):=(WQ v).val
theorem ap3 (v:af):Is (WQ v):=
 dm fun b a=>aS iR (fun _=>gQ iR (fun _=>bK iR (fun _=>bn iR iR)))
def axj:bT Z:=E0 [aa4,akV] [] (a1 (aQ aH)) (R1 (gW .u64)) [] func544 1 WQ fun a=>ap3 a
def aof (a:af)(b:af):Pg Int:=.br (decide (a.Kind < b.Kind)) (.ret (-1)) (.br (decide (b.Kind < a.Kind)) (.ret 1) (.br (!Gy a.Kind) (.ret 0) (.lt (zl a.Kind) fun e=> .lt (IV a.re) fun c=> .lt (IV b.re) fun d=> .br e (.br (Op.bytesLess a.Text b.Text) (.ret (-1)) (.br e (.br (!(Op.bytesLess a.Text b.Text || a.Text==b.Text)) (.ret 1) (.br e (.ret 0) (.br (decide (c < d)) (.ret (-1)) (.br (decide (d < c)) (.ret 1) (.ret 0))))) (.br e (.ret 0) (.br (decide (c < d)) (.ret (-1)) (.br (decide (d < c)) (.ret 1) (.ret 0)))))) (.br e (.br (!(Op.bytesLess a.Text b.Text || a.Text==b.Text)) (.ret 1) (.br e (.ret 0) (.br (decide (c < d)) (.ret (-1)) (.br (decide (d < c)) (.ret 1) (.ret 0))))) (.br e (.ret 0) (.br (decide (c < d)) (.ret (-1)) (.br (decide (d < c)) (.ret 1) (.ret 0))))))))
def ajK (a:af)(b:af):=(aof a b).val
theorem aui (a:af)(b:af):Is (aof a b):=
 bn iR (fun _=>bn iR (fun _=>aS iR (fun _=>dm fun f c=>dm fun g d=>dm fun h e=>aS (fun _=>aS iR (fun _=>aS (fun _=>aS iR (fun _=>aS iR (fun _=>bn iR (fun _=>bn iR iR)))) (fun _=>aS iR (fun _=>bn iR (fun _=>bn iR iR))))) (fun _=>aS (fun _=>aS iR (fun _=>aS iR (fun _=>bn iR (fun _=>bn iR iR)))) (fun _=>aS iR (fun _=>bn iR (fun _=>bn iR iR)))))))
def aBO:bT Z:=E0 [afb,acf,axj] [] (ax (aQ aH) (a1 (aQ aH))) (R1 cI) [] func526 1 (u2 aof) fun a=>aui a.1 a.2
def ado (a:Int)(b:Int):Pg Int:=.br (decide (a < b)) (.ret (-1)) (.br (decide (b < a)) (.ret 1) (.ret 0))
def anl (a:Int)(b:Int):=(ado a b).val
theorem ar1 (a:Int)(b:Int):Is (ado a b):=
 bn iR (fun _=>bn iR iR)
def axm:bT Z:=E0 [] [] (ax (df cI) (a1 (df cI))) (R1 cI) [] func521 1 (u2 ado) fun a=>ar1 a.1 a.2
def VX (a:af)(b:af):Pg Int:=.br (a.Kind !=b.Kind) (.ret (anl a.Kind b.Kind)) (.br (a.Kind==11) (.no default) (.br (a.Kind==12) (.no default) (.br (a.Kind==10) (.no default) (.ret (ajK a.re b.re)))))
def azx (a:af)(b:af):=(VX a b).val
theorem aA5 (n:Nat)(h:n < 2 ^ 64):(18446744073709551615 ^^^ n:Nat)=18446744073709551615 - n:=by
 have e:(BitVec.allOnes 64 ^^^ BitVec.ofNat 64 n)= ~~~ (BitVec.ofNat 64 n):=BitVec.allOnes_xor;have a:=Ll BitVec.toNat e;rw[BitVec.toNat_xor,BitVec.toNat_not,BitVec.toNat_allOnes,BitVec.toNat_ofNat,Qcs h]at a;have b:(2 ^ 64 - 1:Nat)=18446744073709551615:=by decide
 rw[b]at a;exact a
theorem azo (n:Nat)(h:n < 2 ^ 64):(n &&& 9223372036854775808=0 ↔ n < 9223372036854775808):=by
 have t:n.testBit 63=decide (n / 2 ^ 63 % 2=1):=Nat.testBit_eq_decide_div_mod_eq;have e:(n &&& 2 ^ 63).testBit 63=n.testBit 63:=by rw[Nat.testBit_and,Nat.testBit_two_pow_self,Qeb]
 constructor
 ·intro k;have k:n &&& 2 ^ 63=0:=k;rw[k,Nat.zero_testBit,t]at e;have:=Qbm e.symm;omega
 ·intro k;show n &&& 2 ^ 63=0
  refine Nat.eq_of_testBit_eq fun i=> ?_;rw[Nat.testBit_and,Nat.zero_testBit,Nat.testBit_two_pow];by_cases q:63=i
  ·subst q;rw[t,jF au];rfl
  ·rw[jF q,Qeh]
theorem agQ {k b:Int}(c:0<=b)(f:b < 18446744073709551616){t:Str}{l:List af}{q:List Pair}{s:List Slot}{r:List Raw}:x9 b=IV (af.mk 6 b t l q s r):=by
 unfold x9 amh IV WQ;simp only[aN,ay,bF,af.Bits,<-agf b c f];show _=bif vG 6 then bJ .u64 (b+9223372036854775808)else bif (6:Int) !=6 then b else bif Ig b==0 then 18446744073709551615 else bif decide (9223372036854775808<=b)then bJ .u64 (18446744073709551615 - b)else bJ .u64 (b+9223372036854775808)
 rw[show vG 6=false from rfl,show((6:Int) !=6)=false from rfl];simp only[jm];cases Ig b==0 with
 | true=>rfl
 | false=>
  simp only[jm];obtain⟨n,rfl⟩:=Qa8 c;have a:n < 2 ^ 64:=by omega
  rw[show((9223372036854775808:Int))=((9223372036854775808:Nat):Int)from rfl,GH (k:= .u64) rfl a jy,afd (k:= .u64) rfl a jy];rw[show(if IntKind.u64.signed=true then(-1:Int)else IntKind.u64.max)=((18446744073709551615:Nat):Int)from rfl,awJ (k:= .u64) rfl jy a,aA5 n a];have d:=azo n a;by_cases k:n < 9223372036854775808
  ·rw[show(((n &&& 9223372036854775808:Nat):Int) !=0)=false by rw[d.2 k];rfl,jF au];simp only[jm];have e:=Qdi (i:=63) (b:=n) au 1;rw[Qed]at e;rw[Nat.or_comm,show(9223372036854775808:Nat)=2 ^ 63 from rfl,<-e];rw[bY (k:= .u64) p_];omega
  ·rw[show(((n &&& 9223372036854775808:Nat):Int) !=0)=true from bne_iff_ne.2 fun e=>k (d.1 au),jK au];simp only[cond_true];rw[bY (k:= .u64) p_];omega
theorem ag7 {x:Int}(b:0<=x)(d:x < 18446744073709551616):bJ .u64 (x+9223372036854775808)=bJ .i64 x+9223372036854775808:=by
 by_cases k:x < 9223372036854775808
 ·rw[bY (k:= .i64) p_,bY (k:= .u64) p_]
 ·have c:bJ .i64 x=x - 18446744073709551616:=by
   unfold bJ IntKind.wrap;simp only[IntKind.signed,IntKind.bits,if_true];refine(nI ?_).trans ?_
   ·rw[Qb9];exact jK au
   ·omega
  have a:bJ .u64 (x+9223372036854775808)=x - 9223372036854775808:=by
   obtain⟨n,rfl⟩:=Qa8 b;rw[show((n:Int)+9223372036854775808)=((n+9223372036854775808:Nat):Int) by omega,anp (k:= .u64) rfl];show(((n+9223372036854775808) % 2 ^ 64:Nat):Int)=_
   omega
  rw[c,a];omega
theorem avR {a b:af}(g:jQ a.Bits)(d:jQ b.Bits):ajK a b=r_ a b:=by
 have f:∀v:af,IV v=bif vG v.Kind then bJ .u64 (v.Bits+9223372036854775808)else bif v.Kind !=6 then v.Bits else bif CO v.Bits==0 then 18446744073709551615 else bif decide (9223372036854775808<=v.Bits)then bJ .u64 (18446744073709551615 - v.Bits)else bJ .u64 (v.Bits+9223372036854775808):=fun v=>by
  unfold IV WQ;simp only[aN,bF,ay]
 unfold ajK aof r_ alL;simp only[aN,bF,ay,af.dn];by_cases e:a.Kind=b.Kind
 ·rw[jF (show ¬a.Kind < b.Kind by omega),jF (show ¬b.Kind < a.Kind by omega),show(a.Kind !=b.Kind)=false by rw[e];exact bne_self_eq_false _,acQ,af5];simp only[jm];cases Gy a.Kind with
  | false=>rfl
  | true=>
   cases zl a.Kind with
   | true=>
    simp only[Qbj,jm,cond_true,Xe];cases A:Op.bytesLess a.Text b.Text with
    | true=>rfl
    | false=>
     cases z:a.Text==b.Text<;>rfl
   | false=>
    simp only[Qbj,jm];have o:∀x y:Int,(bif decide (x < y)then(-1:Int)else bif decide (y < x)then 1 else 0)=if x < y then -1 else if y < x then 1 else 0:=fun x y=>by
     simp only[Qa7,Lh]
    rw[o,Fg];by_cases k:a.Kind=2\/a.Kind=3
    ·have i:vG a.Kind=true:=by rcases k with k | k<;>rw[k]<;>rfl
     rw[f a,f b,<-e,i,cond_true,cond_true,ag7 g.1 g.2,ag7 d.1 d.2];have:(bif a.Kind==2 then(if bJ .i64 a.Bits < bJ .i64 b.Bits then(-1:Int)else if bJ .i64 b.Bits < bJ .i64 a.Bits then 1 else 0)else bif a.Kind==3 then(if bJ .i64 a.Bits < bJ .i64 b.Bits then -1 else if bJ .i64 b.Bits < bJ .i64 a.Bits then 1 else 0)else bif a.Kind==6 then Tj (x9 a.Bits) (x9 b.Bits)else Tj a.Bits b.Bits)=(if bJ .i64 a.Bits < bJ .i64 b.Bits then(-1:Int)else if bJ .i64 b.Bits < bJ .i64 a.Bits then 1 else 0):=by
      rcases k with k | k<;>rw[k]<;>rfl
     rw[this];(repeat' split)<;>omega
    ·have m:a.Kind≠2:=fun h=>k (.inl h)
     have p:a.Kind≠3:=fun h=>k (.inr h)
     have i:vG a.Kind=false:=by
      unfold vG OC;simp only[aN,ay];rw[beq_false_of_ne m,beq_false_of_ne p];rfl
     rw[beq_false_of_ne m,beq_false_of_ne p,jm,jm,OB,OB];by_cases c:a.Kind=6
     ·have j:=agQ (k:=6) g.1 g.2 (t:=a.Text) (l:=a.List) (q:=a.Pairs) (s:=a.Slots) (r:=a.dH);have n:=agQ (k:=6) d.1 d.2 (t:=b.Text) (l:=b.List) (q:=b.Pairs) (s:=b.Slots) (r:=b.dH);have u:af.mk 6 a.Bits a.Text a.List a.Pairs a.Slots a.dH=a:=by cases a;cases c;rfl
      have w:af.mk 6 b.Bits b.Text b.List b.Pairs b.Slots b.dH=b:=by have:=e.symm.trans c;cases b;cases this;rfl
      rw[u]at j;rw[w]at n;rw[show(a.Kind==6)=true from beq_iff_eq.2 c,cond_true,j,n]
     ·rw[beq_false_of_ne c,jm,f a,f b,<-e,i,show(a.Kind !=6)=true from bne_iff_ne.2 c];rfl
 ·rw[show(a.Kind !=b.Kind)=true from bne_iff_ne.2 e,cond_true,Fg];rcases Int.lt_or_gt_of_ne e with h | h
  ·rw[jK h,nI h];rfl
  ·rw[jF (show ¬a.Kind < b.Kind by omega),jK h,kT (show ¬a.Kind < b.Kind by omega),nI h];rfl
theorem Y5 {a b:af}(h:j_ a.Kind=true/\j_ b.Kind=true)(g:jQ a.Bits)(f:jQ b.Bits):kw (VX a b) (fun y=>y=r_ a b):=by
 have d:∀n:Int,a.Kind=n->j_ n=false->False:=fun n e k=>by rw[<-e,h.1]at k;cases k
 unfold VX;simp only[af.dn];refine dY (fun c=>ai ?_) (fun c=>dR (fun k=>(d 11 k rfl).elim) fun _=>dR (fun k=>(d 12 k rfl).elim) fun _=>dR (fun k=>(d 10 k rfl).elim) fun _=>ai (avR g f));unfold anl ado r_ alL;simp only[aN,bF,ay,af.dn];rw[show(a.Kind !=b.Kind)=true from bne_iff_ne.2 c,cond_true,Fg];simp only[Qa7,Lh]
theorem ar4 (a b:af)(h:(j_ a.Kind=true/\j_ b.Kind=true)/\jQ a.Bits/\jQ b.Bits):azx a b=r_ a b:=(Y5 h.1 h.2.1 h.2.2).2
def aiE (l:List Pair):Prop:=oJ l/\∀x∈l,jQ x.Key.Bits
theorem ap2 (a:af)(b:af)(h:(j_ a.Kind=true/\j_ b.Kind=true)/\jQ a.Bits/\jQ b.Bits):Is (VX a b):=
 (Y5 h.1 h.2.1 h.2.2).1
def auS:bT Z:=E2 [axm,aBO] [] (ax (aQ aH) (a1 (aQ aH))) (R1 cI) [] func475 1 (u2 VX) (fun a=>some ((j_ a.1.Kind=true/\j_ a.2.Kind=true)/\jQ a.1.Bits/\jQ a.2.Bits)) (fun a=>r_ a.1 a.2) fun a h=>⟨ap2 a.1 a.2 h,ar4 a.1 a.2 h⟩
noncomputable def F5 (l:List Pair):Pg (List Pair):=.each true rP l fH (fun e b (a:List Pair)=> .lt (j_ b.Key.re.Kind) fun g=> .cut (fun(n:Bool)=> .br n (.cut (fun(c:Int)=> .ix e l.length (.ob (0<=c/\c<=(↑a.length:Int)/\(↑a.length:Int)<=(↑a.length:Int)) (.ob (dE (1+(List.drop c.toNat (List.take a.length a)).length) 256) (.ob ((0:Int)<=0/\0<=c/\c<=(↑a.length:Int)) (.ob (dE (0+(List.take c.toNat a).length) 256) (.lt ([Pair.mk b.Key.re b.Val.re]++List.drop c.toNat (List.take a.length a)) fun(h:List Pair)=> .ob (dE ((List.take c.toNat a).length+h.length) 256) (rl (List.take c.toNat a++h)))))))) (.each false Ec a fH (fun d i (o:Unit)=> .ix d a.length (.ob (d.toNat < a.length) (.ix e l.length (.ob ((j_ i.Key.re.Kind=true/\g=true)/\jQ i.Key.re.Bits/\jQ b.Key.re.Bits) (aL a (.lt (r_ i.Key.re b.Key.re) fun m=> .br (decide (m < 0)) (rl ()) (.ret (.inr (.inl d))))))))) (fun d (o:Unit)=> aL a (rl d)) ())) (rl a)) (.lt (bJ .i64 (e+1)) fun k=> .TN [] (some (l.length<=9223372036854775807)) rP k (↑l.length:Int) (fun f (j:Bool)=> .br j (.ix e l.length (.ix f l.length (.ob ((g=true/\j_ (l.getD f.toNat fH).Key.re.Kind=true)/\jQ b.Key.re.Bits/\jQ (l.getD f.toNat fH).Key.re.Bits) (rl (r_ b.Key.re (l.getD f.toNat fH).Key.re !=0))))) (rl false)) (fun f (j:Bool)=> rl j) true)) (fun e (a:List Pair)=> .ret a) []
noncomputable def asn (l:List Pair):List Pair:=(F5 l).val
theorem agU {X Y R:Type}{Q:R->Prop}{j:List Prop}{q:Option Prop}{s:Ix X Y}{a b:Int}{c:Int->Y->Pg (Y⊕R)}{f:Int->Y->Pg R}{y:Y}(I:Int->Y->Prop)(m:I a y)(r:ahz j)(o: -9223372036854775808<=a)(n:b<=9223372036854775807)
  (g:∀(i:Int) (y:Y),a<=i->i < b->I i y->kw (c i y) (Sum.elim (I (i+1)) Q)) (k:∀i y,a<=i->b<=i->I i y->kw (f i y) Q):kw (.TN j q s a b c f y) Q:=by
 have:=yl (s:=s) I m o n g k;refine⟨af4 I m r o (fun _=>n) (fun i y e d _ l=>⟨(g i y e d l).1,fun t p=> ?_⟩) (fun i y e d h=>(k i y e d h).1),this.2⟩;have:=(g i y e d l).2;rw[p]at this;exact this
theorem axZ {A:Type}{p:A->Bool}{d:A}:∀(l:List A) (k:Nat),k<=l.length->(∀j,j < k->p (l.getD j d)=true)->(k < l.length->p (l.getD k d)=false)->l.take k=l.takeWhile p/\l.drop k=l.dropWhile p
 | [],k,h,_,_=>by simp
 | a::l,0,_,_,h=>by
  have h:=h kM;have h:p a=false:=h;simp[h]
 | a::l,k+1,h1,b,g=>by
  have c:p a=true:=b 0 au;obtain⟨e,f⟩:=axZ (p:=p) (d:=d) l k qcg (fun j m=>b (j+1) au) (fun i=>g (by simpa using i));rw[List.takeWhile_cons_of_pos c,List.dropWhile_cons_of_pos c,Qcb,List.drop_succ_cons,e,f];exact⟨rfl,rfl⟩
theorem L9 {l:List Pair}(h:aiE l):kw (F5 l) (fun y=>y=kL l):=by
 have hl:l.length<=1048576:=h.1.1;have v:∀z,z∈l->j_ z.Key.Kind=true/\jQ z.Key.Bits:=fun z e=>⟨h.1.2 z e,h.2 z e⟩
 have P:∀a b:Pair,BB (ltOf qh) a b=(r_ a.Key b.Key==0):=fun a b=>by rw[Qi aho,WM]
 have x:∀a b:Pair,ltOf qh a b=decide (r_ a.Key b.Key < 0):=fun a b=>by unfold ltOf;rw[WM]
 rw[afR h.1];unfold F5;simp only[af.dn,Pair.eta];refine dA (fun i y=>uJ (ltOf qh) y (l.drop i)=uJ (ltOf qh) [] l/\y.length<=i/\∀z∈y,z∈l) ⟨rfl,Jd _,fun z e=>by cases e⟩ au (fun i y E C=> ?_) (fun y C=>ai (by have:=C.1;rw[Qc1]at this;exact this));obtain⟨f,X,g⟩:=C;have s:=getD_mem (d:=fH) E;have R:l.drop i=l.getD i fH::l.drop (i+1):=by rw[Qbc E];simp[List.getD,E]
 rw[R]at f;generalize l.getD i fH=a at*;obtain⟨G,o⟩:=v a s;have S:uJ (ltOf qh) y (a::l.drop (i+1))=uJ (ltOf qh) (bif (l.drop (i+1)).any (BB (ltOf qh) a)then y else insL (ltOf qh) a y) (l.drop (i+1)):=rfl;rw[S]at f;refine aI fun W A=>bP (fun b=>b= !((l.drop (i+1)).any (BB (ltOf qh) a))) (aI fun L r=> ?_) fun Z n=> ?_
 ·have r:L=((i+1:Nat):Int):=by rw[r,lX au]
  subst r;refine agU (fun j b=>b= !(((l.drop (i+1)).take (j.toNat - (i+1))).any (BB (ltOf qh) a))) kM trivial au au (fun j b T Q o=> ?_) (fun j b T Q o=>ai ?_)
  ·have u:j.toNat < l.length:=by omega
   have V:j.toNat - (i+1) < (l.drop (i+1)).length:=by rw[Qbe];omega
   have O:(j+1).toNat - (i+1)=(j.toNat - (i+1))+1:=by omega
   have N:(l.drop (i+1)).getD (j.toNat - (i+1)) fH=l.getD j.toNat fH:=by
    simp only[List.getD,Qc3];congr 2;omega
   have J:(!(((l.drop (i+1)).take ((j+1).toNat - (i+1))).any (BB (ltOf qh) a)))=(b && (r_ a.Key (l.getD j.toNat fH).Key !=0)):=by
    rw[O,take_snoc (d:=fH) V,List.any_append,N,o,Bool.not_or,Qct,List.any_nil,Bool.or_false,P];rfl
   refine dL (fun c=>aX au au (aX au au (aj ⟨⟨A.trans G,(v _ (getD_mem u)).1⟩,‹jQ a.Key.Bits›,(v _ (getD_mem u)).2⟩ (ai ?_)))) (fun c=>ai ?_)
   ·show _=_;rw[J,c,Qb9]
   ·show _=_;rw[J,c,Qbt]
  ·show b=_
   rw[o,Qcz (by rw[Qbe];omega)]
 ·refine dL (fun c=> ?_) (fun c=>ai ⟨?_,by omega,g⟩)
  ·refine bP (fun(k:Int)=>0<=k/\k<=y.length/\y.take k.toNat=y.takeWhile (fun z=>ltOf qh z a)/\y.drop k.toNat=y.dropWhile (fun z=>ltOf qh z a)) ?_ fun k K=> ?_
   ·refine dA (fun j _=>∀m,m < j->ltOf qh (y.getD m fH) a=true) (fun m s=>absurd s au) au (fun j _ u w=>aX au au (aj au (aX au au (aj ?_ (fD (aI fun Y B=>bQ (fun D=>ai fun m s=> ?_) (fun D=>ai ?_))))))) (fun _ w=>fD (ai ?_))
    ·have e:=v _ (g _ (getD_mem (d:=fH) u));exact⟨⟨e.1,A.trans G⟩,e.2,o⟩
    ·rcases Qc7 m j with q | q
     ·exact w m q
     ·rw[show m=j by omega,x,<-B];exact jK D
    ·obtain⟨t1,t2⟩:=axZ (p:=fun z=>ltOf qh z a) (d:=fH) y j au w (fun _=>by rw[x,<-B];exact jF D);exact⟨by omega,by omega,t1,t2⟩
    ·obtain⟨t1,t2⟩:=axZ (p:=fun z=>ltOf qh z a) (d:=fH) y y.length (rC _) w (fun q=>absurd q au);exact⟨by omega,by omega,t1,t2⟩
   ·obtain⟨I,F,U,M⟩:=K;have l1:(List.take k.toNat y).length<=y.length:=by rw[C9];omega
    have l2:(List.drop k.toNat (List.take y.length y)).length<=y.length:=by rw[Qbe,C9];omega
    have l3:(List.take k.toNat y).length+(List.drop k.toNat (List.take y.length y)).length=y.length:=by rw[Qbe,C9,C9];omega
    refine aX au au (aj ⟨I,F,ZU _⟩ (aj (dw au au) (aj ⟨ZU _,I,F⟩ (aj (dw au au) (aI fun H t=> ?_)))));have l4:H.length=1+(List.drop k.toNat (List.take y.length y)).length:=by rw[t];simp[Qdn]
    refine aj (dw au au) (ai ⟨?_,?_,fun z e=> ?_⟩)
    ·rw[c]at n;rw[show(l.drop (i+1)).any (BB (ltOf qh) a)=false by simpa using n.symm]at f;rw[t,JG,U,M];exact f
    ·rw[tK];omega
    ·rw[t,JG]at e;rcases vN.1 e with q | q
     ·exact g z (List.mem_of_mem_take q)
     ·rcases vN.1 q with q | q
      ·rw[FY.1 q];exact s
      ·exact g z (List.mem_of_mem_drop q)
  ·rw[c]at n;rw[show(l.drop (i+1)).any (BB (ltOf qh) a)=true by simpa using n.symm]at f;exact f
theorem aha (l:List Pair)(h:aiE l):asn l=kL l:=(L9 h).2
theorem ah3 (l:List Pair)(h:aiE l):Is (F5 l):=
 (L9 h).1
noncomputable def WW:bT Z:=E2 [auS] [jS 3 (dh (fun b=>[s0 4, .slot 3 false [some 300]]) (aC cI (l1 fB))),jS 7 (dh (fun b=>[s0 6, s0 5]) (aC cI (l1 aW))),jS 12 (dh (fun b=>[s0 7]) (l1 cI)),jS 100010 (dh (fun b=>[s0 5]) (l1 aW)),jS 100014 (dh (fun b=>[s0 7]) (l1 cI))] (a1 (df fB)) (R1 fB) [] func381 1 F5 (fun a=>some (aiE a)) (fun a=>kL a) fun a h=>⟨ah3 a h,aha a h⟩
theorem EX {R d c:Type}{Q:R->d->Prop}{a:Pg R}{b:Pg (c⊕d)}{k:c->Pg d}(I:c->Prop)(h:kw b (Sum.elim I (Q a.val)))(e:∀y,I y->mG a (k y) Q):mG a (.cut k b) Q:=bP I h e
theorem aj7 {g:bC}{n:Int}(h:(qK g n).2=true):(qK g n).1∈g.Ops/\(qK g n).1.Num=n:=by
 rw[GG]at h⊢
 grind
theorem abn {o:Op}(h:Gz o=true):o.Card=4/\o.Kind≠10:=by
 unfold Gz afg at h;simp only[aN,ay,bF,Qa7,Lh,Vt,Qdd]at h
 grind
theorem ag4 {F:bC->af->Op->Int->ae->af×Int×ae}{g:bC}{v:af}{r:ae}(h:((dZ r.c).2.2.2 !=0)=true):stepT F g v r=(v,(dZ r.c).2.2.2,r):=by
 unfold stepT;grind
theorem step_none {F:bC->af->Op->Int->ae->af×Int×ae}{g:bC}{v:af}{r:ae}(h:((dZ r.c).2.2.2 !=0)=false)(a:(qK g (dZ r.c).1).2=false):stepT F g v r=bif (lg r.c).2.2 !=0 then(v,(lg r.c).2.2,r)else(qX v (lg r.c).1,0,ae.mk r.p (lg r.c).2.1):=by
 rw[GG]at a;unfold stepT;grind
theorem step_some {F:bC->af->Op->Int->ae->af×Int×ae}{g:bC}{v:af}{r:ae}(h:((dZ r.c).2.2.2 !=0)=false)(a:(qK g (dZ r.c).1).2=true):stepT F g v r=F g v (qK g (dZ r.c).1).1 (dZ r.c).2.1 (ae.mk r.p (dZ r.c).2.2.1):=by
 rw[GG]at a⊢;unfold stepT;grind
theorem axN {v:af}{r:ae}(h:rq v r)(e:(dZ r.c).2.2.2=0):rq v (ae.mk r.p (dZ r.c).2.2.1)/\(dZ r.c).2.2.1.Depth=r.c.Depth:=by
 obtain⟨a,u2⟩:=qF h.1 e;have c:=a.2.2.1;have b:=a.2.2.2.2.2.2;refine⟨⟨a.1,h.2.1,h.2.2.1,?_⟩,a.2.2.2.1⟩;have:=h.2.2.2
 grind
theorem av1 (a:Nat){g:bC}{v:af}{r:ae}(h:rq v r)(k:∀o∈g.Ops,alS r.p o)(p:5*r.c.Depth+4<=(a:Int)):FP 1 0 v r (stepT (iq a).2.1 g v r):=by
 intro e;cases b:(dZ r.c).2.2.2 !=0 with
 | true=>rw[ag4 b]at e;grind
 | false=>
  have f:=bW.1 b;obtain⟨i,u2⟩:=qF h.1 f;have m:=i.2.2.2.2.2.2;cases d:(qK g (dZ r.c).1).2 with
  | true=>
   rw[step_some b d]at e⊢;obtain⟨t1,t2⟩:=axN h f;obtain⟨f1,f2,f3,f4⟩:=(oV a).2.1 _ _ _ _ _ (⟨t1,k _ (aj7 d).1,by grind⟩:iF a g v (qK g (dZ r.c).1).1 (dZ r.c).2.1 (ae.mk r.p (dZ r.c).2.2.1)) e;generalize (iq a).2.1 g v (qK g (dZ r.c).1).1 (dZ r.c).2.1 (ae.mk r.p (dZ r.c).2.2.1)=w at*;have f4:(tV w.1:Int)+0<=tV v+8*(w.2.2.c.At - (dZ r.c).2.2.1.At):=f4;exact⟨f1,iC (iM i f2) jy,f3,by omega⟩
  | false=>
   rw[step_none b d]at e⊢;cases l:(lg r.c).2.2 !=0 with
   | true=>grind
   | false=>
    have c:=bW.1 l;have j:=aaO h.1 c;have n:=aaB h.1 c;refine⟨rfl,iC j jy,Xq h.2.2.1 (aoT h.1 c),?_⟩;show(tV (qX v (lg r.c).1):Int)+0<=tV v+8*((lg r.c).2.1.At - r.c.At)
    rw[XH];omega
def ate (p:aJ)(o:Op)(x:Pair)(a:Int)(s:af×Int×ae)(y:Pair×ah×Int):Prop:=y.2.2=s.2.1/\(s.2.1=0->y.2.1=s.2.2.c/\y.1=(bif a==1 then Pair.mk s.1 x.Val else Pair.mk x.Key s.1)/\(¬a=1->o.Kind=10->wV p s.1 (p.aO.getD o.Target.toNat aU)))
def avl (F:bC->af->Op->Int->ae->af×Int×ae)(g:bC)(r:ae)(v:af):Pg (af×Int×ae):=.wh ((r.c.End - r.c.At).toNat+1) default (fun(x:ae×af)=> .br (decide (0 < oK x.1.c)) (.br ((stepT F g x.2 x.1).2.1 !=0) (.ret (.inr (stepT F g x.2 x.1))) (rl ((stepT F g x.2 x.1).2.2,(stepT F g x.2 x.1).1))) (.ret (.inr (x.2,0,x.1)))) (r,v)
theorem apZ (a:Nat)(prog:Int)(v:af)(r:ae):(iq (a+1)).1 prog v r=(avl (iq a).2.1 (r.p.aO.getD prog.toNat aU) r v).val:=by
 rw[agH];rfl
def aFk (i:aJ->Int->af->ah->af×ah×Int)(qo:aJ->Int->af->ah->Prop)(b:aJ->bC->af->ah->af×ah×Int)(jT:aJ->bC->af->ah->Prop)(f:aJ->Op->af->Int->ah->af×ah×Int)(jh:aJ->Op->af->Int->ah->Prop)(h:aJ->bC->af->Op->ah->af×ah×Int)(gK:aJ->bC->af->Op->ah->Prop)(g:aJ->bC->af->Op->ah->af×ah×Int)(jR:aJ->bC->af->Op->ah->Prop)(e:aJ->Op->Pair->Int->Int->ah->Pair×ah×Int)(xN:aJ->Op->Pair->Int->Int->ah->Prop)(p:aJ)(prog:Int)(v:af)(c:ah):Pg (af×ah×Int):=.wh ((c.End - c.At).toNat+1) default (fun(a:af×ah)=> .ob (ig a.2) (.lt (A7 a.2) fun d=> .br (decide (0 < d)) (.ix prog p.aO.length (.ob (jT p (p.aO.getD prog.toNat aU) a.1.re a.2) (.br ((b p (p.aO.getD prog.toNat aU) a.1.re a.2).2.2 !=0) (.ret (.inr (a.1.re,a.2,(b p (p.aO.getD prog.toNat aU) a.1.re a.2).2.2))) (rl ((b p (p.aO.getD prog.toNat aU) a.1.re a.2).1.re,(b p (p.aO.getD prog.toNat aU) a.1.re a.2).2.1))))) (.ret (.inr (a.1.re,a.2,0))))) (v.re,c)
def ajw (o:aJ->Int->af->ah->af×ah×Int)(qo:aJ->Int->af->ah->Prop)(n:aJ->bC->af->ah->af×ah×Int)(jT:aJ->bC->af->ah->Prop)(m:aJ->Op->af->Int->ah->af×ah×Int)(jh:aJ->Op->af->Int->ah->Prop)(d:aJ->bC->af->Op->ah->af×ah×Int)(gK:aJ->bC->af->Op->ah->Prop)(k:aJ->bC->af->Op->ah->af×ah×Int)(jR:aJ->bC->af->Op->ah->Prop)(l:aJ->Op->Pair->Int->Int->ah->Pair×ah×Int)(xN:aJ->Op->Pair->Int->Int->ah->Prop)(p:aJ)(g:bC)(v:af)(c:ah):Pg (af×ah×Int):=.ob (ig c) (.lt (Ot c) fun b=> .br (b.2.2.2 !=0) (.ret (v.re,c,b.2.2.2)) (.lt (alB g b.1) fun a=> .br (!a.2) (.ob (ig c) (.lt (Ze c) fun i=> .br (i.2.2 !=0) (.ret (v.re,c,i.2.2)) (.ob (v.re.dH.length<=1048576) (.ret ((QH v.re i.1).re,i.2.1,0))))) (.lt (axQ p g v.re a.1 b.2.2.1) fun h=> .lt (Yb p g v.re a.1 b.2.2.1) fun e=> .lt (KG a.1) fun j=> .lt (CX a.1) fun f=> .br (a.1.Card==5) (.br (b.2.1==6) (.ob (jR p g v.re a.1 b.2.2.1) (.ret ((k p g v.re a.1 b.2.2.1).1.re,(k p g v.re a.1 b.2.2.1).2))) (.br j (.br (b.2.1==5) (.ob (pG p/\ rq v.re (ae.mk p b.2.2.1)/\ (g∈p.aO/\a.1∈g.Ops/\a.1.Kind≠10/\1<=a.1.Num/\a.1.Num<=65535)/\wV p v.re g) (.ret (h.1.re,h.2))) (.br (a.1.Card==5) (.ret (v.re,c,13)) (.br (b.2.1 !=f) (.ret (v.re,c,13)) (.br (a.1.Kind==10) (.ob (gK p g v.re a.1 b.2.2.1) (.ret ((d p g v.re a.1 b.2.2.1).1.re,(d p g v.re a.1 b.2.2.1).2))) (.ob (rq v.re (ae.mk p b.2.2.1)/\zg g v.re a.1/\FM p) (.ret (e.1.re,e.2))))))) (.br (a.1.Card==5) (.ret (v.re,c,13)) (.br (b.2.1 !=f) (.ret (v.re,c,13)) (.br (a.1.Kind==10) (.ob (gK p g v.re a.1 b.2.2.1) (.ret ((d p g v.re a.1 b.2.2.1).1.re,(d p g v.re a.1 b.2.2.1).2))) (.ob (rq v.re (ae.mk p b.2.2.1)/\zg g v.re a.1/\FM p) (.ret (e.1.re,e.2)))))))) (.br j (.br (b.2.1==5) (.ob (pG p/\ rq v.re (ae.mk p b.2.2.1)/\ (g∈p.aO/\a.1∈g.Ops/\a.1.Kind≠10/\1<=a.1.Num/\a.1.Num<=65535)/\wV p v.re g) (.ret (h.1.re,h.2))) (.br (a.1.Card==5) (.ret (v.re,c,13)) (.br (b.2.1 !=f) (.ret (v.re,c,13)) (.br (a.1.Kind==10) (.ob (gK p g v.re a.1 b.2.2.1) (.ret ((d p g v.re a.1 b.2.2.1).1.re,(d p g v.re a.1 b.2.2.1).2))) (.ob (rq v.re (ae.mk p b.2.2.1)/\zg g v.re a.1/\FM p) (.ret (e.1.re,e.2))))))) (.br (a.1.Card==5) (.ret (v.re,c,13)) (.br (b.2.1 !=f) (.ret (v.re,c,13)) (.br (a.1.Kind==10) (.ob (gK p g v.re a.1 b.2.2.1) (.ret ((d p g v.re a.1 b.2.2.1).1.re,(d p g v.re a.1 b.2.2.1).2))) (.ob (rq v.re (ae.mk p b.2.2.1)/\zg g v.re a.1/\FM p) (.ret (e.1.re,e.2))))))))))
def akd (e:aJ->Int->af->ah->af×ah×Int)(qo:aJ->Int->af->ah->Prop)(k:aJ->bC->af->ah->af×ah×Int)(jT:aJ->bC->af->ah->Prop)(i:aJ->Op->af->Int->ah->af×ah×Int)(jh:aJ->Op->af->Int->ah->Prop)(l:aJ->bC->af->Op->ah->af×ah×Int)(gK:aJ->bC->af->Op->ah->Prop)(j:aJ->bC->af->Op->ah->af×ah×Int)(jR:aJ->bC->af->Op->ah->Prop)(h:aJ->Op->Pair->Int->Int->ah->Pair×ah×Int)(xN:aJ->Op->Pair->Int->Int->ah->Prop)(p:aJ)(o:Op)(a:af)(f:Int)(c:ah):Pg (af×ah×Int):=.ob (ig c) (.lt (Ia c) fun d=> .br (d.2.2 !=0) (.ret (a.re,c,d.2.2)) (.ob (ig d.2.1) (.lt (WN d.2.1 d.1) fun g=> .br (g.2 !=0) (.ret (a.re,c,g.2)) (.lt (wZ g.1 f) fun b=> .br (b.2 !=0) (.ret (a.re,c,b.2)) (.ob (qo p o.Target a.re b.1) (.br ((e p o.Target a.re b.1).2.2 !=0) (.ret (a.re,c,(e p o.Target a.re b.1).2.2)) (.ret ((e p o.Target a.re b.1).1.re,ahU d.2.1 (e p o.Target a.re b.1).2.1,0))))))))
def aei (k:aJ->Int->af->ah->af×ah×Int)(qo:aJ->Int->af->ah->Prop)(i:aJ->bC->af->ah->af×ah×Int)(jT:aJ->bC->af->ah->Prop)(d:aJ->Op->af->Int->ah->af×ah×Int)(jh:aJ->Op->af->Int->ah->Prop)(j:aJ->bC->af->Op->ah->af×ah×Int)(gK:aJ->bC->af->Op->ah->Prop)(h:aJ->bC->af->Op->ah->af×ah×Int)(jR:aJ->bC->af->Op->ah->Prop)(f:aJ->Op->Pair->Int->Int->ah->Pair×ah×Int)(xN:aJ->Op->Pair->Int->Int->ah->Prop)(p:aJ)(g:bC)(v:af)(o:Op)(c:ah):Pg (af×ah×Int):=.lt (EE v.re o.Num) fun e=> .cut (fun(b:Int)=> .cut (fun(a:af)=> .ob (jh p o a.re b c) (.br ((d p o a.re b c).2.2 !=0) (.ret (v.re,(d p o a.re b c).2)) (.br (o.Card==4) (.ob (zg g v.re o/\(dG v.re o.Num).1.List.length<=1048576) (.ret ((Me g v.re o (d p o a.re b c).1.re).re,(d p o a.re b c).2.1,0))) (.ob (zg g v.re o) (.ret ((Ip g v.re o (d p o a.re b c).1.re).re,(d p o a.re b c).2.1,0)))))) (.br (o.Card !=4) (.br e.2 (rl e.1.re) (rl (af.mk 10 0 [] [] [] [] []))) (rl (af.mk 10 0 [] [] [] [] [])))) (.br (o.Card==4) (.br (!e.2) (rl 2) (rl 1)) (rl 1))
def amc (s:aJ->Int->af->ah->af×ah×Int)(qo:aJ->Int->af->ah->Prop)(r:aJ->bC->af->ah->af×ah×Int)(jT:aJ->bC->af->ah->Prop)(n:aJ->Op->af->Int->ah->af×ah×Int)(jh:aJ->Op->af->Int->ah->Prop)(l:aJ->bC->af->Op->ah->af×ah×Int)(gK:aJ->bC->af->Op->ah->Prop)(q:aJ->bC->af->Op->ah->af×ah×Int)(jR:aJ->bC->af->Op->ah->Prop)(d:aJ->Op->Pair->Int->Int->ah->Pair×ah×Int)(xN:aJ->Op->Pair->Int->Int->ah->Prop)(p:aJ)(g:bC)(v:af)(o:Op)(c:ah):Pg (af×ah×Int):=.ob (ig c) (.lt (Ia c) fun e=> .br (e.2.2 !=0) (.ret (v.re,c,e.2.2)) (.lt (EE v.re o.Num) fun f=> .cut (fun(j:Int)=> .lt (wZ (YI e.2.1 e.1) j) fun h=> .br (h.2 !=0) (.ret (v.re,c,h.2)) (.wh ((c.End - c.At).toNat+1) default (fun(b:List Bool×Pair×ah)=> .ob (ig b.2.2) (.lt (A7 b.2.2) fun k=> .br (decide (0 < k)) (.ob (ig b.2.2) (.lt (Ot b.2.2) fun a=> .cut (fun(m:Unit)=> .ix a.1 b.1.length (.ob (a.1.toNat < b.1.length) (.ob (xN p o (Pair.mk b.2.1.Key.re b.2.1.Val.re) a.1 a.2.1 a.2.2.1) (.br ((d p o (Pair.mk b.2.1.Key.re b.2.1.Val.re) a.1 a.2.1 a.2.2.1).2.2 !=0) (.ret (.inr (v.re,c,(d p o (Pair.mk b.2.1.Key.re b.2.1.Val.re) a.1 a.2.1 a.2.2.1).2.2))) (rl (b.1.set a.1.toNat true, Pair.mk (d p o (Pair.mk b.2.1.Key.re b.2.1.Val.re) a.1 a.2.1 a.2.2.1).1.Key.re (d p o (Pair.mk b.2.1.Key.re b.2.1.Val.re) a.1 a.2.1 a.2.2.1).1.Val.re, (d p o (Pair.mk b.2.1.Key.re b.2.1.Val.re) a.1 a.2.1 a.2.2.1).2.1)))))) (.br (a.2.2.2 !=0) (.ret (.inr (.inr (v.re,c,a.2.2.2)))) (.br (a.1 !=1) (.br (a.1 !=2) (.ret (.inr (.inr (v.re,c,18)))) (.ix a.1 b.1.length (.ob (a.1.toNat < b.1.length) (.br (b.1.getD a.1.toNat false) (.ret (.inr (.inr (v.re,c,9)))) (rl ()))))) (.ix a.1 b.1.length (.ob (a.1.toNat < b.1.length) (.br (b.1.getD a.1.toNat false) (.ret (.inr (.inr (v.re,c,9)))) (rl ())))))))) (.ob (dE (0+f.1.Pairs.length) 256) (.ob (dE (f.1.Pairs.length+1) 256) (.lt (f.1.Pairs++[Pair.mk b.2.1.Key.re b.2.1.Val.re]) fun(i:List Pair)=> .ob (aiE i) (.ob (zg g v.re o) (.ret (.inr ((Ip g v.re o (af.mk 12 0 [] [] (kL i) [] [])).re,Yf e.2.1 b.2.2,0))))))))) ([false,false,false],Pair.mk (af.mk o.Key 0 [] [] [] [] []) (ag8 o).re,h.1))) (.br f.2 (rl 2) (rl 3))))
def rEF (n:aJ->Int->af->ah->af×ah×Int)(qo:aJ->Int->af->ah->Prop)(k:aJ->bC->af->ah->af×ah×Int)(jT:aJ->bC->af->ah->Prop)(g:aJ->Op->af->Int->ah->af×ah×Int)(jh:aJ->Op->af->Int->ah->Prop)(l:aJ->bC->af->Op->ah->af×ah×Int)(gK:aJ->bC->af->Op->ah->Prop)(j:aJ->bC->af->Op->ah->af×ah×Int)(jR:aJ->bC->af->Op->ah->Prop)(i:aJ->Op->Pair->Int->Int->ah->Pair×ah×Int)(xN:aJ->Op->Pair->Int->Int->ah->Prop)(p:aJ)(o:Op)(x:Pair)(d:Int)(b:Int)(c:ah):Pg (Pair×ah×Int):=.cut (fun(h:Op)=> .br (b !=CX h) (.ret (Pair.mk x.Key.re x.Val.re,c,13)) (.cut (fun(m:Unit)=> .ob (ig c) (.lt (Ob b c) fun a=> .br (a.2.2 !=0) (.ret (Pair.mk x.Key.re x.Val.re,c,a.2.2)) (.ob (List.length a.1.Data<=1048576) (.lt (Es p h a.1) fun e=> .br (d==1) (.ret (Pair.mk e.1.re x.Val.re,a.2.1,e.2)) (.ret (Pair.mk x.Key.re e.1.re,a.2.1,e.2)))))) (.br (d==2) (.br (o.Kind==10) (.lt (ag8 o) fun f=> .ob (jh p o f.re 0 c) (.ret (.inr (Pair.mk x.Key.re (g p o f.re 0 c).1.re,(g p o f.re 0 c).2)))) (rl ())) (rl ())))) (.br (d==1) (rl (Op.mk 0 [] [] 2 0 o.Key (-1) (-1))) (rl (KL o)))
def qo (a:Nat)(p:aJ)(prog:Int)(v:af)(c:ah):Prop:=pG p/\rq v (ae.mk p c)/\(0<=prog/\prog < p.aO.length)/\wV p v (p.aO.getD prog.toNat aU)/\5*c.Depth+5<=a
def jT (a:Nat)(p:aJ)(g:bC)(v:af)(c:ah):Prop:=pG p/\rq v (ae.mk p c)/\g∈p.aO/\wV p v g/\5*c.Depth+4<=a
def jh (b:Nat)(p:aJ)(o:Op)(a:af)(d:Int)(c:ah):Prop:=pG p/\rq a (ae.mk p c)/\(0<=o.Target/\o.Target < p.aO.length)/\wV p a (p.aO.getD o.Target.toNat aU)/\5*c.Depth+1<=b
def gK (a:Nat)(p:aJ)(g:bC)(v:af)(o:Op)(c:ah):Prop:=pG p/\rq v (ae.mk p c)/\(g∈p.aO/\o∈g.Ops/\o.Kind=10/\o.Card≠5)/\wV p v g/\5*c.Depth+2<=a
def jR (a:Nat)(p:aJ)(g:bC)(v:af)(o:Op)(c:ah):Prop:=pG p/\rq v (ae.mk p c)/\(g∈p.aO/\o∈g.Ops/\o.Card=5)/\wV p v g/\5*c.Depth+3<=a
def xN (b:Nat)(p:aJ)(o:Op)(x:Pair)(a:Int)(d:Int)(c:ah):Prop:=pG p/\rq (af.mk 10 0 [] [] [] [] []) (ae.mk p c)/\(alS p o/\o.Card=5)/\(a=1\/a=2)/\5*c.Depth+2<=b
def mV:Nat->(aJ->Int->af->ah->(af×ah×Int))×(aJ->bC->af->ah->(af×ah×Int))×(aJ->Op->af->Int->ah->(af×ah×Int))×(aJ->bC->af->Op->ah->(af×ah×Int))×(aJ->bC->af->Op->ah->(af×ah×Int))×(aJ->Op->Pair->Int->Int->ah->(Pair×ah×Int))
 | 0=>(fun _ _ _ _=>default,fun _ _ _ _=>default,fun _ _ _ _ _=>default,fun _ _ _ _ _=>default,fun _ _ _ _ _=>default,fun _ _ _ _ _ _=>default)
 | a+1=>(fun p prog v c=>(aFk ((mV a).1) (qo a) ((mV a).2.1) (jT a) ((mV a).2.2.1) (jh a) ((mV a).2.2.2.1) (gK a) ((mV a).2.2.2.2.1) (jR a) ((mV a).2.2.2.2.2) (xN a) p prog v c).val,fun p g v c=>(ajw ((mV a).1) (qo a) ((mV a).2.1) (jT a) ((mV a).2.2.1) (jh a) ((mV a).2.2.2.1) (gK a) ((mV a).2.2.2.2.1) (jR a) ((mV a).2.2.2.2.2) (xN a) p g v c).val,fun p o e b c=>(akd ((mV a).1) (qo a) ((mV a).2.1) (jT a) ((mV a).2.2.1) (jh a) ((mV a).2.2.2.1) (gK a) ((mV a).2.2.2.2.1) (jR a) ((mV a).2.2.2.2.2) (xN a) p o e b c).val,fun p g v o c=>(aei ((mV a).1) (qo a) ((mV a).2.1) (jT a) ((mV a).2.2.1) (jh a) ((mV a).2.2.2.1) (gK a) ((mV a).2.2.2.2.1) (jR a) ((mV a).2.2.2.2.2) (xN a) p g v o c).val,fun p g v o c=>(amc ((mV a).1) (qo a) ((mV a).2.1) (jT a) ((mV a).2.2.1) (jh a) ((mV a).2.2.2.1) (gK a) ((mV a).2.2.2.2.1) (jR a) ((mV a).2.2.2.2.2) (xN a) p g v o c).val,fun p o x f d c=>(rEF ((mV a).1) (qo a) ((mV a).2.1) (jT a) ((mV a).2.2.1) (jh a) ((mV a).2.2.2.1) (gK a) ((mV a).2.2.2.2.1) (jR a) ((mV a).2.2.2.2.2) (xN a) p o x f d c).val)
def axf (p:aJ)(prog:Int)(v:af)(c:ah):af×ah×Int:=(mV ((5*c.Depth+5).toNat)).1 p prog v c
def J3 (a:Nat):Prop:=(∀(p:aJ) (prog:Int) (v:af) (c:ah),qo a p prog v c->(fun y=>∀q,rp p q->yL p (p.aO.getD prog.toNat aU) ((iq a).1 prog v (ae.mk q c)) y) ((mV a).1 p prog v c))/\(∀(p:aJ) (g:bC) (v:af) (c:ah),jT a p g v c->(fun y=>∀q,rp p q->yL p g (stepT (iq a).2.1 g v (ae.mk q c)) y) ((mV a).2.1 p g v c))/\(∀(p:aJ) (o:Op) (e:af) (b:Int) (c:ah),jh a p o e b c->(fun y=>∀q,rp p q->yL p (p.aO.getD o.Target.toNat aU) ((iq a).2.2.1 o.Target e b (ae.mk q c)) y) ((mV a).2.2.1 p o e b c))/\(∀(p:aJ) (g:bC) (v:af) (o:Op) (c:ah),gK a p g v o c->(fun y=>∀q,rp p q->yL p g ((iq a).2.2.2.1 g v o (ae.mk q c)) y) ((mV a).2.2.2.1 p g v o c))/\(∀(p:aJ) (g:bC) (v:af) (o:Op) (c:ah),jR a p g v o c->(fun y=>∀q,rp p q->yL p g ((iq a).2.2.2.2.1 g v o (ae.mk q c)) y) ((mV a).2.2.2.2.1 p g v o c))/\(∀(p:aJ) (o:Op) (x:Pair) (f:Int) (d:Int) (c:ah),xN a p o x f d c->(fun y=>∀q,rp p q->ate p o x f ((iq a).2.2.2.2.2 (bif f==1 then Op.mk 0 [] [] 0 0 o.Key (-1) 0 else o) d (ae.mk q c)) y) ((mV a).2.2.2.2.2 p o x f d c))
abbrev ae6 (a:Nat):=aFk ((mV a).1) (qo a) ((mV a).2.1) (jT a) ((mV a).2.2.1) (jh a) ((mV a).2.2.2.1) (gK a) ((mV a).2.2.2.2.1) (jR a) ((mV a).2.2.2.2.2) (xN a)
theorem agq (b:Nat)(R:J3 b)(p:aJ)(prog:Int)(v:af)(c:ah)(h:qo (b+1) p prog v c):kw (ae6 b p prog v c) (fun y=>∀q,rp p q->yL p (p.aO.getD prog.toNat aU) ((iq (b+1)).1 prog v (ae.mk q c)) y):=
 by
 obtain⟨E,j,C,M,Y⟩:=h;have s:p.aO.getD prog.toNat aU∈p.aO:=getD_mem au;have u:=(E.1 _ s).2;have Z:=j.1.1.1;have t:∀q,rp p q->mG (avl (iq b).2.1 (p.aO.getD prog.toNat aU) (ae.mk q c) v) (ae6 b p prog v c) (yL p (p.aO.getD prog.toNat aU)):=fun q d=>by
  have V:=F9 j d;unfold avl ae6 aFk;simp only[af.dn];generalize p.aO.getD prog.toNat aU=g at*;refine axM (fun x y=>y=(x.2,x.1.c)/\x.1.p=q/\AA 0 c x.1.c/\kV x.2/\(tV x.2:Int)<=tV v+8*(x.1.c.At - c.At)/\wV p x.2 g) (fun y=>(y.2.End - y.2.At).toNat) ⟨rfl,rfl,afO j.1,j.2.2.1,by grind,M⟩ (Qdp _) (Qdp _) fun x y H=> ?_;obtain⟨rfl,D,i,B,J,w⟩:=H;obtain⟨⟨m,a⟩,e⟩:=x;dsimp only at D i B J w⊢;subst D;have X:=i.2.2.1;have U:=i.2.2.2.1;have n:rq e (ae.mk p a):=⟨i.1,j.2.1,B,by have:=j.2.2.2;grind⟩;have z:rq e (ae.mk m a):=F9 n d;refine dV i.1 (fP fun N f7=> ?_);have O:N=oK a:=by rw[f7];exact vW i.1
  subst O;have F:jT b p g e a:=⟨E,n,s,w,by omega⟩;refine iP rfl (fun P=>EL C.1 C.2 (dV F ?_)) (fun P=>bZ ⟨⟨rfl,fun _=>⟨rfl,rfl⟩⟩,fun _=>w⟩);have k:=R.2.1 p g e a F m d;have f:=av1 b (g:=g) (v:=e) (r:=ae.mk m a) z (fun o I=>by
   obtain⟨a1,a2⟩:=u o I;refine⟨fun Q=> ?_,a2⟩;show 0<=o.Target/\o.Target < m.aO.length
   rw[d.1];exact a1 Q) qg
  obtain⟨⟨k1,G⟩,S⟩:=k;generalize stepT (iq b).2.1 g e (ae.mk m a)=W at*;generalize (mV b).2.1 p g e a=A at*;refine iP qcl (fun l=>bZ (je k1 l)) fun l=> ?_;obtain⟨a1,a2⟩:=G (bW.1 l);obtain⟨f1,f2,f3,f4⟩:=f (bW.1 l);have T:=f2.2.2.1;have K:=f2.2.2.2.2.2.2;have L:=f2.1.1.2.1;refine bZ ⟨⟨by rw[a1,a2],f1,iC (iM i f2) jy,f3,?_,S (bW.1 l)⟩,?_⟩
  ·dsimp only at f4⊢;omega
  ·show(A.2.1.End - A.2.1.At).toNat < (a.End - a.At).toNat
   rw[a2];dsimp only at T K L;omega
 refine⟨(t p (Kz p)).1,fun q d=> ?_⟩;rw[apZ];have k:=(t q d).2;rw[<-d.1]at k⊢;exact k
abbrev LC (a:Nat):=ajw ((mV a).1) (qo a) ((mV a).2.1) (jT a) ((mV a).2.2.1) (jh a) ((mV a).2.2.2.1) (gK a) ((mV a).2.2.2.2.1) (jR a) ((mV a).2.2.2.2.2) (xN a)
theorem Xg (d:Nat)(Z:J3 d)(p:aJ)(g:bC)(v:af)(c:ah)(h:jT (d+1) p g v c):kw (LC d p g v c) (fun y=>∀q,rp p q->yL p g (stepT (iq (d+1)).2.1 g v (ae.mk q c)) y):=
 by
 obtain⟨s,M,B,w,h3⟩:=h;have z:ig c:=M.1;have N:=sK M;refine MI (a:=fun q=>Pg.ret (stepT (iq (d+1)).2.1 g v (ae.mk q c))) (Q:=yL p g) fun q C=> ?_;unfold LC ajw;simp only[af.dn];refine dV z (fP fun O A=> ?_);rw[CP z]at A;refine iD (fun b=>bZ ?_) (fun b=>fP fun v2 F=> ?_)
 ·have f:((dZ c).2.2.2 !=0)=true:=by grind
  rw[ag4 (r:=ae.mk q c) f];exact je (by rw[A]) f
 rw[ai5]at F;have e7:O.2.2.2=0:=bW.1 b;have f:((dZ c).2.2.2 !=0)=false:=by grind
 refine iD (fun S=>dV z (fP fun v3 U=> ?_)) (fun S=> ?_)
 ·rw[ale z]at U;have n:(qK g (dZ c).1).2=false:=by grind
  rw[step_none (r:=ae.mk q c) f n];dsimp only;rw[<-U];refine iD (fun G=>bZ ?_) (fun G=>dV N.1 (bZ ?_))
  ·rw[G,cond_true];exact je rfl G
  ·rw[G,jm];exact⟨⟨rfl,fun _=>⟨Tf _ _,rfl⟩⟩,fun _=>ah7 w⟩
 ·have n:(qK g (dZ c).1).2=true:=by grind
  rw[step_some (r:=ae.mk q c) f n];dsimp only;obtain⟨j,D⟩:=aj7 n;obtain⟨l,L⟩:=axN (r:=ae.mk p c) M qg;dsimp only at l L;rw[<-A,<-F]at j D;rw[<-A]at l L;rw[<-A,<-F];clear F S b f n;obtain⟨n1,E,b,er⟩:=O;dsimp only at l L D j⊢;clear A e7;generalize v2.1=o at*;have J:alS p o:=(s.1 g B).2 o j;have W:=F9 l C;have R:=O1 s B j N.2.1 w;change mG (zy d g v o E (ae.mk q b)) _ (yL p g);unfold zy Y7;simp only[af.dn];refine fP fun v4 e4=>fP fun T e5=>fP fun V X=>fP fun v7 f7=> ?_;have k7:v7=rG o:=f7;subst k7;have H:yL p g (v,(13:Int),ae.mk q b) (v,c,(13:Int)):=je rfl rfl;by_cases i:o.Card=5
  ·have Y:V=false:=by
    cases k:V with
    | false=>rfl
    | true=>rw[X]at k;have:=(abn (o:=o) k).1;omega
   subst Y;refine jr (fun _=>iD (fun _=> ?_) (fun k=>absurd (beq_iff_eq.2 i) qbz)) (fun k=>absurd (beq_iff_eq.2 i) qbz);by_cases I:E=6
   ·refine jr (fun k=>absurd k qg) (fun _=>iD (fun _=> ?_) (fun k=>absurd k qg));have m:jR d p g v o b:=⟨s,l,⟨B,j,i⟩,w,by omega⟩;exact fC (dV m (bZ (Z.2.2.2.2.1 p g v o b m q C)))
   ·refine jr (fun _=>iD (fun k=>absurd (eq_of_beq k) I) (fun _=>iD (fun k=>absurd k jy) (fun _=>iD (fun _=>bZ H) (fun k=>absurd (beq_iff_eq.2 i) qbz)))) (fun k=>absurd (bne_iff_ne.2 I) qbz)
  ·have K:∀{P:Prop},(o.Card==5)=true->P:=fun k=>absurd (eq_of_beq k) i
   have one:∀t:o.Kind≠10,yL p g (xW g v o (ae.mk q b)) (Yb p g v o b):=fun t=>⟨(YY W R s.2.1 C.2).2,fun _=>aCo N.2.1 w j t⟩
   have u:mG (Pg.br (E !=rG o) (.ret (v,13,ae.mk q b)) (.br (o.Kind==10) (.ob (fQ d g v o (ae.mk q b)) (.ret (((iq d).2.2.2.1 g v o (ae.mk q b)).1,((iq d).2.2.2.1 g v o (ae.mk q b)).2))) (.ob (rq v (ae.mk q b)/\1<=o.Num/\o.Num<=65535) (.ret ((xW g v o (ae.mk q b)).1,(xW g v o (ae.mk q b)).2)))))
     (Pg.br (o.Card==5) (.ret (v,c,13)) (.br (E !=rG o) (.ret (v,c,13)) (.br (o.Kind==10) (.ob (gK d p g v o b) (.ret (((mV d).2.2.2.1 p g v o b).1,((mV d).2.2.2.1 p g v o b).2))) (.ob (rq v (ae.mk p b)/\zg g v o/\FM p) (.ret (T.1,T.2)))))) (yL p g):=by
    refine iD K fun _=>iP rfl (fun _=>bZ H) fun _=>iP rfl (fun k=> ?_) (fun k=> ?_)
    ·have t:o.Kind=10:=eq_of_beq k;have m:gK d p g v o b:=⟨s,l,⟨B,j,t,i⟩,w,by omega⟩;exact fC (dV m (bZ (Z.2.2.2.1 p g v o b m q C)))
    ·have t:o.Kind≠10:=fun e=>by grind
     refine fC (dV ⟨l,R,s.2.1⟩ (bZ ?_))
     grind
   refine jr K fun _=>iD K fun _=>fV fun u1 g1=>fV fun u2 g2=> ?_;subst g1 g2;by_cases x:E=5
   ·refine jr (fun _=> ?_) (fun k=>absurd (beq_iff_eq.2 x) qbz);refine iP (by rw[X,ac5]) (fun k=>iD (fun _=> ?_) (fun k=>absurd (beq_iff_eq.2 x) qbz)) (fun k=>u);obtain⟨_,t⟩:=abn k;refine fC (dV ⟨s,l,⟨B,j,t,J.2.2⟩,w⟩ (fV fun u3 g3=>bZ ?_));rw[g3,e4];exact(agD s C l B j t J.2.2 w).2
   ·refine jr (fun k=>absurd (eq_of_beq k) x) (fun _=>iD (fun _=>iD (fun k=>absurd (eq_of_beq k) x) (fun _=>u)) (fun _=>u))
abbrev WR (a:Nat):=akd ((mV a).1) (qo a) ((mV a).2.1) (jT a) ((mV a).2.2.1) (jh a) ((mV a).2.2.2.1) (gK a) ((mV a).2.2.2.2.1) (jR a) ((mV a).2.2.2.2.2) (xN a)
theorem XC (g:Nat)(ih:J3 g)(p:aJ)(o:Op)(b:af)(e:Int)(c:ah)(h:jh (g+1) p o b e c):kw (WR g p o b e c) (fun y=>∀q,rp p q->yL p (p.aO.getD o.Target.toNat aU) ((iq (g+1)).2.2.1 o.Target b e (ae.mk q c)) y):=
 by
 obtain⟨Y,m,R,V,h3⟩:=h;have i:ig c:=m.1;refine MI (a:=fun q=>vY g o.Target b e (ae.mk q c)) (Q:=yL p (p.aO.getD o.Target.toNat aU)) fun q M=> ?_;unfold vY NC WR akd;simp only[af.dn];refine fC (dV i (fV fun j w=>fP fun K f1=> ?_));have k1:K=(j.1,j.2.2.c,j.2.1):=by rw[f1,BO i q,w]
 subst k1;clear f1;refine iP rfl (fun H=>bZ (je rfl H)) fun H=> ?_;obtain⟨l1,F,v,D,G⟩:=mr (r:=ae.mk q c) i qg;rw[<-w]at l1 F v D G;clear w;obtain⟨x,er1,A,d⟩:=j;dsimp only at l1 F v D G⊢;subst v;have l7:=l1.2.2.2.2.2.2;have le:=l1.2.2.1;have ld:=l1.2.2.2.1;refine dV l1.1 (fV fun N u=>fP fun X f2=> ?_);have t:X=N:=by rw[f2,u,alh l1.1]
 subst t;clear f2;refine iP rfl (fun C=>bZ (je rfl C)) fun C=> ?_;obtain⟨W,x2,x3,x4⟩:=Wx l1.1 (n:=x) qg;rw[W]at u;subst u;dsimp only;have Z:ig (ah.mk d.Data d.At (d.At+x) (d.Depth - 1) d.Nodes d.Text):=by
  obtain⟨⟨U,q2,q3,O⟩,q5,L⟩:=l1.1;exact⟨⟨U,by grind,by grind,O⟩,⟨by grind,by grind⟩,L⟩
 refine fV fun S T=>fP fun f f3=> ?_;have z:S=(f.2,ae.mk A f.1):=by rw[T,f3,jc];rfl
 subst z;refine iP rfl (fun E=>bZ (je rfl E)) fun E=> ?_;have s:=lJ Z (n:=e) (by rw[<-jc,<-f3];grind);rw[<-jc,<-f3]at s;have sE:f.1.End=d.At+x:=s.1.2.2.1;have sD:f.1.Depth=d.Depth - 1:=s.1.2.2.2.1;have sA:f.1.At=d.At:=s.2.2.1;have B:rq b (ae.mk p f.1):=⟨s.1.1,m.2.1,m.2.2.1,by have:=m.2.2.2;grind⟩;have I:qo g p o.Target b f.1:=⟨Y,B,R,V,by omega⟩;have k:=ih.1 p o.Target b f.1 I A M;obtain⟨⟨k1,t⟩,z⟩:=k;refine fC (dV I ?_);generalize (iq g).1 o.Target b (ae.mk A f.1)=P at*;generalize (mV g).1 p o.Target b f.1=J at*;refine iP qcl (fun l=>bZ (je k1 l)) fun l=>bZ ?_;obtain⟨a1,a2⟩:=t (bW.1 l);exact⟨⟨rfl,fun _=>⟨a1,by show ahU d J.2.1=Et d P.2.2.c;rw[a2];rfl⟩⟩,fun _=>z (bW.1 l)⟩
abbrev PG (a:Nat):=aei ((mV a).1) (qo a) ((mV a).2.1) (jT a) ((mV a).2.2.1) (jh a) ((mV a).2.2.2.1) (gK a) ((mV a).2.2.2.2.1) (jR a) ((mV a).2.2.2.2.2) (xN a)
theorem RQ (b:Nat)(K:J3 b)(p:aJ)(g:bC)(v:af)(o:Op)(c:ah)(h:gK (b+1) p g v o c):kw (PG b p g v o c) (fun y=>∀q,rp p q->yL p g ((iq (b+1)).2.2.2.1 g v o (ae.mk q c)) y):=
 by
 obtain⟨r,j,⟨C,m,I,T⟩,w,W⟩:=h;have U:ig c:=j.1;have D:=sK j;have O:=C_ j o.Num;have H:=(r.1 g C).2 o m;have E:=H.1 I;have l:=O1 r C m D.2.1 w;have J:rq (af.mk 10 0 [] [] [] [] []) (ae.mk p c):=ank j;have n:=fun e=>ady (p:=p) (g:=g) (v:=v) (o:=o) w (r.2.2 g C).1 m I e
 refine MI (a:=fun q=>vU b g v o (ae.mk q c)) (Q:=yL p g) fun q F=> ?_;unfold vU LQ PG aei;simp only[af.dn];refine fV fun P u=>fP fun L f3=> ?_;have A:L=P:=by rw[f3,u,ug]
 subst A;clear f3;have t5:=xk v o.Num;rw[<-u]at t5 n;refine jr (fun z=> ?_) (fun z=> ?_)
 ·have d:o.Card=4:=eq_of_beq z;refine XJ (fun x y=>x=y) (iD (fun _=>iP rfl (fun _=>bZ rfl) (fun _=>bZ rfl)) (fun k=>absurd (z.symm.trans k) jy)) fun x y s=> ?_;subst s;refine EX (fun y=>y=af.mk 10 0 [] [] [] [] []) (dY (fun k=>absurd d k) (fun _=>ai rfl)) fun y t=> ?_;subst t;have f:jh b p o (af.mk 10 0 [] [] [] [] []) x c:=⟨r,J,E,Yh,by omega⟩;obtain⟨⟨k1,B⟩,A⟩:=K.2.2.1 p o _ x c f q F;refine fC (dV f ?_);generalize (iq b).2.2.1 o.Target (af.mk 10 0 [] [] [] [] []) x (ae.mk q c)=N at*;generalize (mV b).2.2.1 p o (af.mk 10 0 [] [] [] [] []) x c=M at*;refine iP qcl (fun i=>bZ (je k1 i)) fun i=> ?_;obtain⟨a1,a2⟩:=B (bW.1 i);refine fC (fC (iD (fun _=>dV ⟨l,O.1⟩ (bZ ⟨⟨rfl,fun _=>⟨by rw[VU l,a1,u],a2⟩⟩,fun _=>Wn D.2.1 w m fun _=> ?_⟩)) (fun k=>absurd (z.symm.trans k) jy)));rw[d];refine apF (fun y t=> ?_) (A (bW.1 i));rcases t5 with⟨e,_⟩ | ⟨_,e⟩
  ·have:=n e;rw[d,vV]at this
   grind
  ·rw[e]at t;cases t
 ·have d:o.Card≠4:=fun k=>by grind
  refine EX (fun y=>y=(1:Int)) (dR (fun k=>absurd k d) (fun _=>ai rfl)) fun V G=> ?_;subst G;refine XJ (fun x y=>x=y/\rq x (ae.mk p c)/\wV p x (p.aO.getD o.Target.toNat aU)) (iD (fun _=> ?_) (fun k=>absurd k qg)) fun x y s=> ?_
  ·refine jr (fun e=>iD (fun k=>absurd (by simpa using e) qbz) (fun _=>bZ ⟨rfl,J,Yh⟩)) (fun e=>iD (fun k=>bZ ⟨rfl,?_,?_⟩) (fun k=>absurd e qbz))
   ·rw[u];exact⟨j.1,j.2.1,Be j.2.2.1,by have:=j.2.2.2;have:=(IB (v:=v) (num:=o.Num)).1;omega⟩
   ·have:=n k;rw[vV]at this
    grind
  ·obtain⟨rfl,R,S⟩:=s;have f:jh b p o x 1 c:=⟨r,R,E,S,by omega⟩;obtain⟨⟨k1,B⟩,A⟩:=K.2.2.1 p o x 1 c f q F;refine fC (dV f ?_);generalize (iq b).2.2.1 o.Target x 1 (ae.mk q c)=N at*;generalize (mV b).2.2.1 p o x 1 c=M at*;refine iP qcl (fun i=>bZ (je k1 i)) fun i=> ?_;obtain⟨a1,a2⟩:=B (bW.1 i);refine fC (iD (fun k=>absurd k qg) (fun _=>dV l (bZ ⟨⟨rfl,fun _=>⟨by rw[CV l.1 l.2.1 l.2.2,a1],a2⟩⟩,fun _=>Wn D.2.1 w m fun _=> ?_⟩)));rw[vV]
   grind
abbrev YC (a:Nat):=amc ((mV a).1) (qo a) ((mV a).2.1) (jT a) ((mV a).2.2.1) (jh a) ((mV a).2.2.2.1) (gK a) ((mV a).2.2.2.2.1) (jR a) ((mV a).2.2.2.2.2) (xN a)
theorem Zc (m:Nat)(ih:J3 m)(p:aJ)(g:bC)(v:af)(o:Op)(c:ah)(h:jR (m+1) p g v o c):kw (YC m p g v o c) (fun y=>∀q,rp p q->yL p g ((iq (m+1)).2.2.2.2.1 g v o (ae.mk q c)) y):=
 by
 obtain⟨R,L,⟨hg,X,G⟩,hw,h3⟩:=h;have N:ig c:=L.1;have hl:=sK L;have hf:=C_ L o.Num;have M:=(R.1 g hg).2 o X;have z:=M.2.1 G;have sq:=O1 R hg X hl.2.1 hw;have h0:=N.1.1;have hb:=L.2.2.2;have V:=oV m;refine MI (a:=fun q=>zG m g v o (ae.mk q c)) (Q:=yL p g) fun q O=> ?_;have h':=F9 L O;unfold zG Ya YC amc;simp only[af.dn,Pair.eta];refine fC (dV N (fV fun Y e4=>fP fun w4 f4=> ?_));have k4:w4=(Y.1,Y.2.2.c,Y.2.1):=by rw[f4,BO N q,e4]
 subst k4;clear f4;refine iP rfl (fun w=>bZ (je rfl w)) fun w=> ?_;obtain⟨l1,l2,l3,U,T⟩:=mr (r:=ae.mk q c) N qg;rw[<-e4]at l1 l2 l3 U T;clear e4;obtain⟨F,er4,p4,b⟩:=Y;dsimp only at l1 l2 l3 U T hb⊢;subst l3;have l7:=l1.2.2.2.2.2.2;have le:=l1.2.2.1;have ld:=l1.2.2.2.1;have hc:=Ou l1.1 U T;have W:YI b F=oh b F:=Ll (fun x:ah×ae=>x.2.c) (Cb (r:=ae.mk p4 b) l1.1 U T);rw[Cb (r:=ae.mk p4 b) l1.1 U T,W];refine fV fun v5 Z=>fP fun E f5=> ?_;have k5:E=v5:=by rw[f5,Z,ug]
 subst k5;clear f5;refine XJ (fun x y=>x=y) ?_ fun y1 y1' hy1=> ?_
 ·exact jr (fun k=>iD (fun B=>absurd k (by rw[B];decide)) (fun _=>bZ rfl)) (fun k=>iD (fun _=>bZ rfl) (fun B=>absurd k (by rw[B];decide)))
 subst hy1;refine fV fun v6 e6=>fP fun w6 f6=> ?_;have k6:v6=(w6.2,ae.mk p4 w6.1):=by rw[e6,f6,jc];rfl
 subst k6;refine iP rfl (fun c6=>bZ (je rfl c6)) fun c6=> ?_;have s:=lJ hc (n:=y1) (by rw[<-jc,<-f6];grind);rw[<-jc,<-f6]at s;clear e6 f6;have eAt:(oh b F).At=b.At:=rfl;have TP:(oh b F).End=b.At+F:=rfl;have eD:(oh b F).Depth=b.Depth:=rfl;have sE:=s.1.2.2.1;have sA:=s.2.2.1;rw[TP]at sE;rw[eAt]at sA;have k1:=(kE o.Kind 0 [] u0).2;have B:=(kE o.Key 0 [] u0).2;simp only[BP]at k1 B;refine axM (fun x y=>y=([false,x.1,x.2.1],x.2.2.2,x.2.2.1.c)/\x.2.2.1.p=p4/\AA 0 (oh b F) x.2.2.1.c/\(j_ x.2.2.2.Key.Kind=true/\kV x.2.2.2.Key)/\kV x.2.2.2.Val/\(tV x.2.2.2.Key:Int)+tV x.2.2.2.Val<=2+8*(x.2.2.1.c.At - b.At)/\(o.Kind=10->wV p x.2.2.2.Val (p.aO.getD o.Target.toNat aU))) (fun y=>(y.2.2.End - y.2.2.At).toNat) ⟨rfl,rfl,s.1,⟨z,(kE o.Key 0 [] u0).1⟩,(kE o.Kind 0 [] u0).1,by show(tV (af.mk o.Key 0 [] [] [] [] []):Int)+tV (af.mk o.Kind 0 [] [] [] [] [])<=2+8*(w6.1.At - b.At);omega,fun K=>by show wV p (af.mk o.Kind 0 [] [] [] [] []) _;rw[K];exact Yh⟩ qg qg fun x y hx=> ?_;obtain⟨rfl,x1,A,x3,x4,x5,x6⟩:=hx;obtain⟨ky,vl,⟨D,xc⟩,j⟩:=x;dsimp only at x1 A x3 x4 x5 x6⊢;subst x1;have xE:=A.2.2.1;have xA:=A.2.2.2.2.2.2;have xD:=A.2.2.2.1;rw[TP]at xE;rw[eAt]at xA;rw[eD]at xD;refine fV fun v7 e7=>dV A.1 (fP fun w7 f7=> ?_);have k7:w7=v7:=by rw[f7,e7];exact vW A.1
 subst k7;refine iP rfl (fun c7=>fC (dV A.1 (fV fun v8 e8=>fP fun w8 f8=> ?_))) (fun c7=> ?_)
 ·have k8:w8=v8:=by rw[f8,e8,CP A.1]
  subst k8;clear f8;obtain⟨num,t,i,er⟩:=w8;dsimp only;refine XJ (fun _ _=>er=0/\(num=1/\ky=false\/num=2/\vl=false)) ?_ fun _ _ C=> ?_
  ·refine iP rfl (fun i=>bZ (je rfl i)) fun i=> ?_;have ez:=bW.1 i;by_cases n1:num=1
   ·subst n1;refine jr (fun k=>absurd k jy) fun _=>iD (fun k=>absurd k jy) fun _=>EL jy kM (dV kM (jr (fun _=>iP rfl (fun _=>bZ (je rfl rfl)) (fun K=>jr (fun k=>absurd k jy) fun _=>bZ ⟨ez, .inl ⟨rfl,K⟩⟩)) (fun k=>absurd k jy)))
   ·by_cases n2:num=2
    ·subst n2;refine jr (fun _=>jr (fun k=>absurd k jy) fun _=>jr (fun k=>absurd k jy) fun _=>jr (fun _=> ?_) (fun k=>absurd k jy)) (fun k=>absurd k jy);exact iD (fun _=>iD (fun k=>absurd k jy) fun _=>EL jy kM (dV kM (iP rfl (fun _=>bZ (je rfl rfl)) (fun K=>bZ ⟨ez, .inr ⟨rfl,K⟩⟩)))) (fun k=>absurd k jy)
    ·have b1:(num !=1)=true:=bne_iff_ne.2 n1;have b2:(num !=2)=true:=bne_iff_ne.2 n2;exact jr (fun _=>jr (fun _=>iD (fun _=>iD (fun _=>bZ (je rfl rfl)) (fun k=>absurd b2 qbz)) (fun k=>absurd b1 qbz)) (fun k=>absurd b2 qbz)) (fun k=>absurd b1 qbz)
  ·obtain⟨he,C⟩:=C;subst he;have u:=qF A.1 (by rw[<-e8]);rw[<-e8]at u;have P:=u.1;dsimp only at P;have uD:=P.2.2.2.1;have uE:=P.2.2.1;have uA:=P.2.2.2.2.2.2;have hr:rq (af.mk 10 0 [] [] [] [] []) (ae.mk p i):=⟨P.1,L.2.1,(kE 10 0 [] u0).1,by rw[Jk];grind⟩;have fin:∀(d:ah) (kk vv:af),AA 0 i d->(tV kk:Int)+tV vv<=2+8*(d.At - b.At)->AA 0 (oh b F) d/\(d.End - d.At).toNat < (xc.End - xc.At).toNat:=fun d kk vv a2 a5=>by
    have ha:AA 1 xc d:=iC (iM P a2) jy;have aE:=ha.2.2.1;have aA:=ha.2.2.2.2.2.2;have aL:=ha.1.1.2.1;exact⟨iC (iM A ha) jy,by omega⟩
   rcases C with⟨rfl,rfl⟩ | ⟨rfl,rfl⟩
   ·have I:xN m p o j 1 t i:=⟨R,hr,⟨M,G⟩, .inl rfl,by omega⟩;have k:=ih.2.2.2.2.2 p o j 1 t i I D O;have f:=V.2.2.2.2.2 (Op.mk 0 [] [] 0 0 o.Key (-1) 0) t (ae.mk D i) ⟨F9 hr O,fun J=>(by
     have H:o.Key=10:=J;rw[H]at z;exact absurd z jy),by grind⟩
    have k:ate p o j 1 ((iq m).2.2.2.2.2 (Op.mk 0 [] [] 0 0 o.Key (-1) 0) t (ae.mk D i)) ((mV m).2.2.2.2.2 p o j 1 t i):=k;refine jr (fun _=>fC (EL jy kM (dV kM (dV I ?_)))) (fun k=>absurd k jy);generalize (iq m).2.2.2.2.2 (Op.mk 0 [] [] 0 0 o.Key (-1) 0) t (ae.mk D i)=l at*;generalize (mV m).2.2.2.2.2 p o j 1 t i=uu at*;obtain⟨k1,B⟩:=k;refine iP qcl (fun w=>bZ (je k1 w)) fun w=> ?_;obtain⟨a1,a2,a3⟩:=B (bW.1 w);obtain⟨f1,f2,f3,f4,f5⟩:=f (bW.1 w);have f4:(tV l.1:Int)<=8*(l.2.2.c.At - i.At):=f4;have f7:i.At+0<=l.2.2.c.At:=f2.2.2.2.2.2.2;have bnd:(tV l.1:Int)+tV j.Val<=2+8*(l.2.2.c.At - b.At):=by omega
    obtain⟨g1,g2⟩:=fin l.2.2.c l.1 j.Val f2 bnd;have e1:uu.1=Pair.mk l.1 j.Val:=a2;refine bZ ⟨⟨?_,f1,g1,⟨f5 fun H=> ?_,f3⟩,x4,bnd,x6⟩,by grind⟩
    ·grind
    ·have H:o.Key=10:=H;rw[H]at z;exact absurd z jy
   ·have I:xN m p o j 2 t i:=⟨R,hr,⟨M,G⟩, .inr rfl,by omega⟩;have k:=ih.2.2.2.2.2 p o j 2 t i I D O;have f:=V.2.2.2.2.2 o t (ae.mk D i) ⟨F9 hr O,fun J=>by show 0<=o.Target/\o.Target < D.aO.length;rw[O.1];exact M.1 J,by grind⟩;have k:ate p o j 2 ((iq m).2.2.2.2.2 o t (ae.mk D i)) ((mV m).2.2.2.2.2 p o j 2 t i):=k;refine jr (fun k=>absurd k jy) (fun _=>fC (EL jy kM (dV kM (dV I ?_))));generalize (iq m).2.2.2.2.2 o t (ae.mk D i)=l at*;generalize (mV m).2.2.2.2.2 p o j 2 t i=uu at*;obtain⟨k1,B⟩:=k;refine iP qcl (fun w=>bZ (je k1 w)) fun w=> ?_;obtain⟨a1,a2,a3⟩:=B (bW.1 w);obtain⟨f1,f2,f3,f4,f5⟩:=f (bW.1 w);have f4:(tV l.1:Int)<=8*(l.2.2.c.At - i.At):=f4;have f7:i.At+0<=l.2.2.c.At:=f2.2.2.2.2.2.2;have bnd:(tV j.Key:Int)+tV l.1<=2+8*(l.2.2.c.At - b.At):=by omega
    obtain⟨g1,g2⟩:=fin l.2.2.c j.Key l.1 f2 bnd;have e1:uu.1=Pair.mk j.Key l.1:=a2;refine bZ ⟨⟨?_,f1,g1,x3,f3,bnd,a3 jy⟩,by grind⟩
    grind
 ·have hpl:=aeT E.1.Pairs;have ht:=nD E.1;rw[<-Z]at hf;have hold:kV E.1/\(tV E.1:Int)<=tV v:=by
   rw[Z];exact⟨Be L.2.2.1,by have:=(IB (v:=v) (num:=o.Num)).1;omega⟩
  have S:oJ (E.1.Pairs++[j]):=⟨by grind,fun y C=>(vN.1 C).elim (hf.2.2 y) fun e=>by grind⟩;have hkv:=((kK E.1).1 hold.1).2.2.1;have hkq:aiE (E.1.Pairs++[j]):=⟨S,fun y C=>by
   rcases vN.1 C with e | e
   ·exact((kK _).1 (hkv y e).1.2).1.1
   ·rw[FY.1 e];exact((kK _).1 x3.2).1.1⟩
  refine avn (fC (fV fun v9 e9=>fC (fV fun v10 e10=> ?_)));have k10:v10=E.1.Pairs++[j]:=by grind
  subst k10;have hlen:=S.1;simp only[tK,zx,BP]at hlen;refine dV (dw au au) (dV (dw au au) (fP fun w9 f9=> ?_));subst f9;refine fC (fC (dV hkq (dV sq (bZ ⟨⟨rfl,fun _=>⟨by rw[CV sq.1 sq.2.1 sq.2.2],rfl⟩⟩,fun _=>Wn hl.2.1 hw X fun K=> ?_⟩))));rw[G];refine aux fun y C=> ?_;rcases vN.1 (Ee S C)with e | e
  ·rcases xk v o.Num with⟨q1,_⟩ | ⟨_,q1⟩
   ·have:=ady hw (R.2.2 g hg).1 X K q1;rw[G,vV]at this
    grind
   ·rw[Z,q1]at e;cases e
  grind
abbrev aup (a:Nat):=rEF ((mV a).1) (qo a) ((mV a).2.1) (jT a) ((mV a).2.2.1) (jh a) ((mV a).2.2.2.1) (gK a) ((mV a).2.2.2.2.1) (jR a) ((mV a).2.2.2.2.2) (xN a)
theorem amZ (i:Nat)(U:J3 i)(p:aJ)(o:Op)(x:Pair)(b:Int)(wire:Int)(c:ah)(h:xN (i+1) p o x b wire c):kw (aup i p o x b wire c) (fun y=>∀q,rp p q->ate p o x b ((iq (i+1)).2.2.2.2.2 (bif b==1 then Op.mk 0 [] [] 0 0 o.Key (-1) 0 else o) wire (ae.mk q c)) y):=
 by
 obtain⟨J,M,⟨v,L⟩,W,X⟩:=h;have d:ig c:=M.1;have l:=v.2.1 L;have A:o.Key≠10:=fun k=>by rw[k]at l;exact absurd l jy
 refine MI (a:=fun q=>DV i (bif b==1 then Op.mk 0 [] [] 0 0 o.Key (-1) 0 else o) wire (ae.mk q c)) (Q:=ate p o x b) fun q D=> ?_;have j:=Yp d q wire;have t:=wI (r:=ae.mk q c) (wire:=wire) d;have s:=Aj (r:=ae.mk q c) (wire:=wire) d;unfold DV aih aup rEF;simp only[af.dn];rcases W with rfl | rfl
 ·refine EX (fun y=>y=Op.mk 0 [] [] 2 0 o.Key (-1) (-1)) (dL (fun _=>ai rfl) (fun k=>absurd k jy)) fun y C=> ?_;subst C;refine iP rfl (fun _=>bZ ⟨rfl,fun k=>absurd (show(13:Int)=0 from k) jy⟩) fun _=>jr (fun k=>absurd (eq_of_beq k) A) fun _=>EX (fun _=>True) (dL (fun k=>absurd k jy) (fun _=>ai trivial)) fun _ _=>fC (dV d (fV fun w F=>fP fun O f1=> ?_));rw[<-F]at j t s;rw[<-f1]at j;obtain⟨m,H⟩:=j;refine iP (by rw[m]) (fun f=>bZ ⟨m,fun k=>absurd k qg⟩) fun f=> ?_;obtain⟨z,G⟩:=H (bW.1 f);obtain⟨a1,a2,P,K,_⟩:=t (bW.1 f);have a2:w.2.2.p=q:=a2;rw[z,G,a2];refine fC (dV K (fV fun E B=>fP fun I f2=> ?_));have n:I=E:=by rw[f2,B,Eh J.2.1 D.2 _ _ s];rfl
  subst n;exact iD (fun _=>bZ ⟨rfl,fun _=>⟨rfl,rfl,fun k=>absurd rfl k⟩⟩) (fun k=>absurd k jy)
 ·refine EX (fun y=>y=KL o) (dL (fun k=>absurd k jy) (fun _=>ai rfl)) fun y C=> ?_;subst C;refine iP rfl (fun _=>bZ ⟨rfl,fun k=>absurd (show(13:Int)=0 from k) jy⟩) fun _=> ?_;by_cases g:o.Kind=10
  ·refine jr (fun _=>fC (EX (fun _=>False) (dL (fun _=>dR (fun _=>aI fun R T=> ?_) (fun k=>absurd g k)) (fun k=>absurd k jy)) fun _ k=>k.elim)) (fun k=>absurd (show(o.Kind==10)=true from beq_iff_eq.2 g) qg);have N:R=af.mk 10 0 [] [] [] [] []:=by rw[T,<-g];rfl
   subst N;have u:jh i p o (af.mk 10 0 [] [] [] [] []) 0 c:=⟨J,M,v.1 g,Yh,by omega⟩;obtain⟨⟨S,n⟩,V⟩:=U.2.2.1 p o _ 0 c u q D;refine aj u (ai ⟨S,fun e=>⟨(n e).2,?_,fun _ _=>V e⟩⟩);simp_all
  ·refine jr (fun k=>absurd (eq_of_beq k) g) fun _=>EX (fun _=>True) (dL (fun _=>dR (fun k=>absurd k g) (fun _=>ai trivial)) (fun k=>absurd k jy)) fun _ _=>fC (dV d (fV fun w F=>fP fun O f1=> ?_));rw[<-F]at j t s;rw[<-f1]at j;obtain⟨m,H⟩:=j;refine iP (by rw[m]) (fun f=>bZ ⟨m,fun k=>absurd k qg⟩) fun f=> ?_;obtain⟨z,G⟩:=H (bW.1 f);obtain⟨a1,a2,P,K,_⟩:=t (bW.1 f);have a2:w.2.2.p=q:=a2;rw[z,G,a2];refine fC (dV K (fV fun E B=>fP fun I f2=> ?_));have n:I=E:=by rw[f2,B,Eh J.2.1 D.2 _ _ s];rfl
   subst n;exact iD (fun k=>absurd k jy) (fun _=>bZ ⟨rfl,fun _=>⟨rfl,rfl,fun _ k=>absurd k g⟩⟩)
theorem qQ:∀a,J3 a
 | 0=>⟨fun p prog v c h=>False.elim qbi,
  fun p g v c h=>False.elim qbi,
  fun p o f b c h=>False.elim qbi,
  fun p g v o c h=>False.elim qbi,
  fun p g v o c h=>False.elim qbi,
  fun p o x i d c h=>False.elim qbi⟩
 | a+1=>⟨fun p prog v c h=>(agq a (qQ a) p prog v c h).2,
  fun p g v c h=>(Xg a (qQ a) p g v c h).2,
  fun p o f b c h=>(XC a (qQ a) p o f b c h).2,
  fun p g v o c h=>(RQ a (qQ a) p g v o c h).2,
  fun p g v o c h=>(Zc a (qQ a) p g v o c h).2,
  fun p o x i d c h=>(amZ a (qQ a) p o x i d c h).2⟩
theorem aAA (a:Nat)(p:aJ)(prog:Int)(v:af)(c:ah)(h:qo (a+1) p prog v c):Is (ae6 a p prog v c):=(agq a (qQ a) p prog v c h).1
theorem arN (a:Nat)(p:aJ)(g:bC)(v:af)(c:ah)(h:jT (a+1) p g v c):Is (LC a p g v c):=(Xg a (qQ a) p g v c h).1
theorem apN (d:Nat)(p:aJ)(o:Op)(b:af)(a:Int)(c:ah)(h:jh (d+1) p o b a c):Is (WR d p o b a c):=(XC d (qQ d) p o b a c h).1
theorem aj1 (a:Nat)(p:aJ)(g:bC)(v:af)(o:Op)(c:ah)(h:gK (a+1) p g v o c):Is (PG a p g v o c):=(RQ a (qQ a) p g v o c h).1
theorem ari (a:Nat)(p:aJ)(g:bC)(v:af)(o:Op)(c:ah)(h:jR (a+1) p g v o c):Is (YC a p g v o c):=(Zc a (qQ a) p g v o c h).1
theorem aFp (d:Nat)(p:aJ)(o:Op)(x:Pair)(b:Int)(a:Int)(c:ah)(h:xN (d+1) p o x b a c):Is (aup d p o x b a c):=(amZ d (qQ d) p o x b a c h).1
theorem ak6 (p:aJ)(prog:Int)(v:af)(c:ah)(h:pG p/\rq v (ae.mk p c)/\(0<=prog/\prog < p.aO.length)/\wV p v (p.aO.getD prog.toNat aU)):(fun y=>∀q,rp p q->yL p (p.aO.getD prog.toNat aU) ((iq ((5*c.Depth+5).toNat)).1 prog v (ae.mk q c)) y) (axf p prog v c):=(qQ ((5*c.Depth+5).toNat)).1 p prog v c (⟨h.1,h.2.1,h.2.2.1,h.2.2.2,by omega⟩)
theorem aC8:∀b,fK Z.P Z.S 217 (xK (args (ax (aQ dU) (ax (df cI) (ax (aQ aH) (a1 (aQ aP)))))) (shr [.slot 0 true (nn 7), .slot 1 true (nn 6), s0 2] (aC aH (aC aP (l1 cI)))) 3 [] (fun a=>some (qo b (a.1) (a.2.1) (a.2.2.1) (a.2.2.2))) (fun a=>(mV b).1 (a.1) (a.2.1) (a.2.2.1) (a.2.2.2)))/\fK Z.P Z.S 290 (xK (args (ax (aQ dU) (ax (aQ jV) (ax (aQ aH) (a1 (aQ aP)))))) (shr [.slot 0 true (nn 7), .slot 1 true (nn 6), s0 2] (aC aH (aC aP (l1 cI)))) 3 [] (fun a=>some (jT b (a.1) (a.2.1) (a.2.2.1) (a.2.2.2))) (fun a=>(mV b).2.1 (a.1) (a.2.1) (a.2.2.1) (a.2.2.2)))/\fK Z.P Z.S 471 (xK (args (ax (aQ dU) (ax (aQ jD) (ax (aQ aH) (ax (df cI) (a1 (aQ aP))))))) (shr [.slot 0 true (nn 7), .slot 1 true (nn 6), s0 2] (aC aH (aC aP (l1 cI)))) 3 [] (fun a=>some (jh b (a.1) (a.2.1) (a.2.2.1) (a.2.2.2.1) (a.2.2.2.2))) (fun a=>(mV b).2.2.1 (a.1) (a.2.1) (a.2.2.1) (a.2.2.2.1) (a.2.2.2.2)))/\fK Z.P Z.S 378 (xK (args (ax (aQ dU) (ax (aQ jV) (ax (aQ aH) (ax (aQ jD) (a1 (aQ aP))))))) (shr [.slot 0 true (nn 7), .slot 1 true (nn 6), s0 2] (aC aH (aC aP (l1 cI)))) 3 [] (fun a=>some (gK b (a.1) (a.2.1) (a.2.2.1) (a.2.2.2.1) (a.2.2.2.2))) (fun a=>(mV b).2.2.2.1 (a.1) (a.2.1) (a.2.2.1) (a.2.2.2.1) (a.2.2.2.2)))/\fK Z.P Z.S 374 (xK (args (ax (aQ dU) (ax (aQ jV) (ax (aQ aH) (ax (aQ jD) (a1 (aQ aP))))))) (shr [.slot 0 true (nn 7), .slot 1 true (nn 6), s0 2] (aC aH (aC aP (l1 cI)))) 3 [] (fun a=>some (jR b (a.1) (a.2.1) (a.2.2.1) (a.2.2.2.1) (a.2.2.2.2))) (fun a=>(mV b).2.2.2.2.1 (a.1) (a.2.1) (a.2.2.1) (a.2.2.2.1) (a.2.2.2.2)))/\fK Z.P Z.S 465 (xK (args (ax (aQ dU) (ax (aQ jD) (ax (aQ yg) (ax (df cI) (ax (df cI) (a1 (aQ aP)))))))) (shr [.slot 0 true (nn 14), .slot 1 true (nn 6), s0 2] (aC yg (aC aP (l1 cI)))) 3 [] (fun a=>some (xN b (a.1) (a.2.1) (a.2.2.1) (a.2.2.2.1) (a.2.2.2.2.1) (a.2.2.2.2.2))) (fun a=>(mV b).2.2.2.2.2 (a.1) (a.2.1) (a.2.2.1) (a.2.2.2.1) (a.2.2.2.2.1) (a.2.2.2.2.2)))
 | 0=>⟨jU func217 fO (fun a h=>by have k:0<=(a.2.2.2).Depth:=h.2.1.1.2.1.1;have e:=h.2.2.2.2;omega),
  jU func290 fO (fun a h=>by have k:0<=(a.2.2.2).Depth:=h.2.1.1.2.1.1;have e:=h.2.2.2.2;omega),
  jU func471 fO (fun a h=>by have k:0<=(a.2.2.2.2).Depth:=h.2.1.1.2.1.1;have e:=h.2.2.2.2;omega),
  jU func378 fO (fun a h=>by have k:0<=(a.2.2.2.2).Depth:=h.2.1.1.2.1.1;have e:=h.2.2.2.2;omega),
  jU func374 fO (fun a h=>by have k:0<=(a.2.2.2.2).Depth:=h.2.1.1.2.1.1;have e:=h.2.2.2.2;omega),
  jU func465 fO (fun a h=>by have k:0<=(a.2.2.2.2.2).Depth:=h.2.1.1.2.1.1;have e:=h.2.2.2.2;omega)⟩
 | b+1=>by
  obtain⟨i,j,g,f,d,l⟩:=aC8 b;exact⟨Um [Ci,⟨217,_,i⟩,⟨290,_,j⟩,⟨471,_,g⟩,⟨378,_,f⟩,⟨374,_,d⟩,⟨465,_,l⟩] [jS 1 (dh (fun c=>[.cells (pid (c 6)) (nn 7), .cells (pid (c 7)) (nn 6)]) (aC aH (l1 aP)))] func217 ntmps217 (fun a=>ae6 b a.1 a.2.1 a.2.2.1 a.2.2.2) (fun a h=>⟨aAA b a.1 a.2.1 a.2.2.1 a.2.2.2 h,rfl⟩) (oP (n:=39) rfl),
   Um [Zt,aoG,asy,Y1,RG,aq5,CS,aaC,⟨217,_,i⟩,⟨290,_,j⟩,⟨471,_,g⟩,⟨378,_,f⟩,⟨374,_,d⟩,⟨465,_,l⟩] [] func290 ntmps290 (fun a=>LC b a.1 a.2.1 a.2.2.1 a.2.2.2) (fun a h=>⟨arN b a.1 a.2.1 a.2.2.1 a.2.2.2 h,rfl⟩) (oP (n:=123) rfl),
   Um [yJ,MK,aqL,arG,⟨217,_,i⟩,⟨290,_,j⟩,⟨471,_,g⟩,⟨378,_,f⟩,⟨374,_,d⟩,⟨465,_,l⟩] [] func471 ntmps471 (fun a=>WR b a.1 a.2.1 a.2.2.1 a.2.2.2.1 a.2.2.2.2) (fun a h=>⟨apN b a.1 a.2.1 a.2.2.1 a.2.2.2.1 a.2.2.2.2 h,rfl⟩) (oP (n:=70) rfl),
   Um [BU,GM,aci,⟨217,_,i⟩,⟨290,_,j⟩,⟨471,_,g⟩,⟨378,_,f⟩,⟨374,_,d⟩,⟨465,_,l⟩] [jS 100005 (dh (fun c=>[s0 16]) (l1 cI)),jS 100007 (dh (fun c=>[.cells (pid (c 15)) (nn 7)]) (l1 aH))] func378 ntmps378 (fun a=>PG b a.1 a.2.1 a.2.2.1 a.2.2.2.1 a.2.2.2.2) (fun a h=>⟨aj1 b a.1 a.2.1 a.2.2.1 a.2.2.2.1 a.2.2.2.2 h,rfl⟩) (oP (n:=71) rfl),
   Um [yJ,BU,Ci,Zt,WW,MK,aa0,acg,GM,SH,⟨217,_,i⟩,⟨290,_,j⟩,⟨471,_,g⟩,⟨378,_,f⟩,⟨374,_,d⟩,⟨465,_,l⟩] [jS 13 (dh (fun c=>[.row (pid (c 21)) 4, .cells (pid (c 20)) (nn 14), .cells (pid (c 19)) (nn 6)]) (aC yX (aC yg (l1 aP)))),jS 100008 (dh (fun c=>[s0 18]) (l1 cI)),jS 100021 (dh (fun c=>[]) l0)] func374 ntmps374 (fun a=>YC b a.1 a.2.1 a.2.2.1 a.2.2.2.1 a.2.2.2.2) (fun a h=>⟨ari b a.1 a.2.1 a.2.2.1 a.2.2.2.1 a.2.2.2.2 h,rfl⟩) (oP (n:=134) rfl),
   Um [CS,acg,Q5,ack,RV,⟨217,_,i⟩,⟨290,_,j⟩,⟨471,_,g⟩,⟨378,_,f⟩,⟨374,_,d⟩,⟨465,_,l⟩] [jS 100004 (dh (fun c=>[.cells (pid (c 15)) (nn 8)]) (l1 jD)),jS 100010 (dh (fun c=>[]) l0)] func465 ntmps465 (fun a=>aup b a.1 a.2.1 a.2.2.1 a.2.2.2.1 a.2.2.2.2.1 a.2.2.2.2.2) (fun a h=>⟨aFp b a.1 a.2.1 a.2.2.1 a.2.2.2.1 a.2.2.2.2.1 a.2.2.2.2.2 h,rfl⟩) (oP (n:=86) rfl)⟩
def aF3:bT Z:=⟨217,xK (args (ax (aQ dU) (ax (df cI) (ax (aQ aH) (a1 (aQ aP)))))) (shr [.slot 0 true (nn 7), .slot 1 true (nn 6), s0 2] (aC aH (aC aP (l1 cI)))) 3 [] (fun a=>some (pG (a.1)/\rq (a.2.2.1) (ae.mk (a.1) (a.2.2.2))/\(0<=(a.2.1)/\(a.2.1) < (a.1).aO.length)/\wV (a.1) (a.2.2.1) ((a.1).aO.getD (a.2.1).toNat aU))) (fun a=>axf (a.1) (a.2.1) (a.2.2.1) (a.2.2.2)),uM (fun n=>((aC8 n).1)) _ _ (fun a h=>⟨(5*(a.2.2.2).Depth+5).toNat,⟨h.1,h.2.1,h.2.2.1,h.2.2.2,by omega⟩,rfl⟩)⟩
def Yn (v:af):Pg Bool:=.br (Gy v.Kind) (.br (v.Bits==0) (.br (v.Text==[]) (.ret (wL v.re)) (.ret false)) (.ret false)) (.ret false)
def Oq (v:af):=(Yn v).val
theorem aqf (v:af):Is (Yn v):=
 aS (fun _=>bK (fun _=>aS iR iR) iR) iR
def au7:bT Z:=E0 [afb,aiz] [] (a1 (aQ aH)) (R1 aW) [] func382 1 Yn fun a=>aqf a
def Lu (v:af):Pg Bool:=.br (v.Kind==11) (.ret ((↑v.List.length:Int)==0)) (.br (v.Kind==12) (.ret ((↑v.Pairs.length:Int)==0)) (.ret (Oq v.re)))
def yx (v:af):=(Lu v).val
theorem ahX (v:af):Is (Lu v):=
 bK iR (fun _=>bK iR iR)
def akq:bT Z:=E0 [au7] [] (a1 (aQ aH)) (R1 aW) [] func293 1 Lu fun a=>ahX a
def N7 (l:List Raw):Pg (List Raw):=.each true rP l Ak (fun e f (a:List Raw)=> aL a (.cut (fun(b:Int)=> .ix e l.length (.ob (0<=b/\b<=(↑a.length:Int)/\(↑a.length:Int)<=(↑a.length:Int)) (.ob (dE (1+(List.drop b.toNat (List.take a.length a)).length) 40) (.ob ((0:Int)<=0/\0<=b/\b<=(↑a.length:Int)) (.ob (dE (0+(List.take b.toNat a).length) 40) (.lt ([f]++List.drop b.toNat (List.take a.length a)) fun(g:List Raw)=> .ob (dE ((List.take b.toNat a).length+g.length) 40) (rl (List.take b.toNat a++g)))))))) (.wh (l.length+1) default (fun(d:Int)=> .br (decide (0 < d)) (.lt (bJ .i64 (d - 1)) fun c=> .ix c a.length (.ob (c.toNat < a.length) (.ix e l.length (.br (decide (f.Num < (a.getD c.toNat Ak).Num)) (rl c) (.ret (.inr (.inl d))))))) (.ret (.inr (.inl d)))) (↑a.length:Int)))) (fun e (a:List Raw)=> .ret a) []
def asW (l:List Raw):=(N7 l).val
theorem axa (v:af)(h:xU v):XK v=Oq v:=by
 unfold XK ae9 Oq Yn;simp only[aN,ay,af.dn,anA v h,acQ];cases Gy v.Kind<;>cases wL v<;>cases zl v.Kind<;>cases v.Bits==0<;>cases v.Text==[]<;>rfl
theorem avP (v:af)(h:xU v):Ic v=yx v:=by
 have b:∀n:Int,v.Kind=n->Gy n=false->Oq v=false:=fun n e k=>by
  unfold Oq Yn;simp only[aN,ay];rw[e,k];rfl
 unfold Ic alF yx Lu;simp only[aN,bF,ay,af.dn,axa v h];by_cases k:v.Kind=11
 ·rw[b 11 k rfl,k];cases((v.List.length:Int)==0)<;>rfl
 ·rw[beq_false_of_ne k];by_cases a:v.Kind=12
  ·rw[b 12 a rfl,a];cases((v.Pairs.length:Int)==0)<;>rfl
  ·rw[beq_false_of_ne a];rfl
theorem SK {l:List Raw}(h:l.length<=1048576):kw (N7 l) (fun y=>y=nM l):=by
 have m:∀a b:Raw,ltOf Jh a b=decide (a.Num < b.Num):=fun a b=>Ef a.Num b.Num
 have C:∀y,BR (ltOf Jh) y->qO (ltOf Jh) l y->y=nM l:=fun y K G=>by
  have k:=RP l ⟨by omega,fun _ _ _ _=>trivial⟩;exact aiF EP K k.1 (G.symm.trans k.2.1)
 unfold N7;refine dA (fun i y=>BR (ltOf Jh) y/\qO (ltOf Jh) (l.take i) y/\y.length=i) ⟨List.Pairwise.nil,qO.refl _,rfl⟩ au (fun i y N f=> ?_) (fun y f=>ai (C y f.1 (by have:=f.2.1;rw[JG]at this;exact this)));obtain⟨n,D,P⟩:=f;have M:l.take (i+1)=l.take i++[l.getD i Ak]:=take_snoc N;rw[M];generalize l.getD i Ak=a at*;refine fD (bP (fun(k:Int)=>0<=k/\k<=y.length/\(∀p∈y.take k.toNat,ltOf Jh a p=false)/\∀s∈y.drop k.toNat,ltOf Jh a s=true) (qJ (fun(x:Int)=>0<=x/\x<=y.length/\∀s∈y.drop x.toNat,ltOf Jh a s=true) (fun x=>x.toNat) ⟨by omega,ZU _,fun s d=>by rw[uZ,Qc1]at d;cases d⟩ au fun x H=> ?_) fun k L=> ?_)
 ·obtain⟨A,B,r⟩:=H;refine bQ (fun c=>aI fun J o=> ?_) (fun c=>ai ⟨A,B,fun p w=> ?_,r⟩)
  ·have o:J=x - 1:=by rw[o,bY (k:= .i64) p_]
   subst o;have j:(x - 1).toNat < y.length:=by omega
   have u:x.toNat=(x - 1).toNat+1:=by omega
   refine aX au au (aj j (aX au au (bQ (fun e=>ai ⟨⟨by omega,by omega,fun s d=> ?_⟩,by omega⟩) (fun e=>ai ⟨A,B,?_,r⟩))))
   ·rw[Qbc j]at d;rcases zN.1 d with q | q
    ·rw[q,m];simp only[List.getD,Qav j,Qdb]at e;exact jK e
    ·exact r s (by rw[u];exact q)
   ·rw[u];exact ajG EP n j (by rw[m];exact jF e)
  ·rw[show x.toNat=0 by omega]at w;cases w
 ·obtain⟨z,t,O,E⟩:=L;have Q:(List.take k.toNat y).length+(List.drop k.toNat (List.take y.length y)).length=y.length:=by rw[Qbe,C9,C9];omega
  refine aX au au (aj ⟨z,t,ZU _⟩ (aj (dw au au) (aj ⟨ZU _,z,t⟩ (aj (dw au au) (aI fun F g=> ?_)))));have R:F.length=1+(List.drop k.toNat (List.take y.length y)).length:=by rw[g];simp[Qdn]
  rw[JG]at g;obtain⟨I,v⟩:=aF6 EP O E (by rw[Qbf];exact n);rw[Qbf]at v;refine aj (dw au au) (ai ⟨?_,?_,?_⟩)
  ·rw[g];exact I
  ·rw[g];exact(D.app (qO.refl [a])).trans v
  ·rw[tK];omega
def ayv:List Raw->List Raw
 | []=>nM []
 | a::l=>nM (a::l)
theorem auF (l:List Raw):ayv l=nM l:=by cases l<;>rfl
theorem amk (l:List Raw)(h:l.length<=1048576):asW l=ayv l:=(SK h).2.trans (auF l).symm
theorem alZ (l:List Raw)(h:l.length<=1048576):Is (N7 l):=
 (SK h).1
def aqs:bT Z:=E2 [] [jS 3 (dh (fun b=>[s0 4, .slot 3 false [some 284]]) (aC cI (l1 iH))),jS 6 (dh (fun b=>[s0 5]) (l1 cI)),jS 100008 (dh (fun b=>[s0 5]) (l1 cI))] (a1 (df iH)) (shr [.slot 0 false [some 284]] (l1 iH)) [] func291 1 N7 (fun a=>some (a.length<=1048576)) (fun a=>ayv a) fun a h=>⟨alZ a h,amk a h⟩
theorem aeW {v:af}(h:gV v):xU v:=by
 have b:=((kK v).1 h.1).1.1;have a:=uS h;have d:=nD v;have c:=h.2;exact⟨b.1,b.2,by omega,a.2.2.1,a.2.2.2.1,a.2.1,a.1⟩
theorem axG (n:Int):∀{l:List Slot},(l.map Slot.Num).Nodup->(l.filter fun s=>s.Num==n).length<=1
 | [],_=>by simp
 | a::l,h=>by
  rw[Lj,List.nodup_cons]at h;have b:=axG n h.2;cases e:a.Num==n with
  | false=>grind
  | true=>
   simp_all
theorem aCO {A B:Type}{f:A->Option B}{l:List A}:(l.filterMap f).length<=l.length:=by
 grind
theorem arH {l:List Slot}(h:l.length<=1048576)(g:(l.map Slot.Num).Nodup):(qU l).Pairwise (fun a b=>a.Num < b.Num)/\∀x,x∈qU l ↔ x∈l:=by
 have f:∀a b:Slot,ltOf Jg a b=decide (a.Num < b.Num):=fun a b=>Ef a.Num b.Num
 rw[agu h];obtain⟨b1,d⟩:=Fj Gf l [] List.Pairwise.nil fun y c=>absurd c kM
 refine⟨b1.imp fun{a b} k=>by grind,fun x=> ?_⟩;rw[d];refine⟨fun k=> ?_,fun k=> .inr ?_⟩
 ·rcases k with k | ⟨u,w,e,_⟩
  ·cases k
  ·rw[e];simp
 ·obtain⟨u,w,e⟩:=List.append_of_mem k;refine⟨u,w,e,fun y c=> ?_⟩;rw[akR]
  grind
theorem aAj {c:List Op}(h:c.Pairwise fun a b=>a.Num < b.Num):∀{i:Nat} {F:Op->List Slot},(∀o,(F o).length<=1)->((c.take i).flatMap F).length<=i:=by
 intro i F e;clear h;induction c generalizing i with
 | nil=>simp
 | cons a l d=>cases i with
  | zero=>simp
  | succ i=>
   grind
def asT (j:aJ->Int->af->af)(tq:aJ->Int->af->Prop)(i:aJ->Op->af->af)(mW:aJ->Op->af->Prop)(k:aJ->Op->af->af)(kz:aJ->Op->af->Prop)(p:aJ)(prog:Int)(v:af):Pg af:=.br (decide (prog < 0)) (.ret (af.mk 0 0 [] [] [] [] [])) (aL p.aO (.br (decide ((↑p.aO.length:Int)<=prog)) (.ret (af.mk 0 0 [] [] [] [] [])) (.ob (v.dH.length<=1048576) (.Hr [0<=prog/\prog < (↑p.aO.length:Int)] true rP (p.aO.getD prog.toNat aU).Ops vk (fun g c (f:af)=> .ix prog p.aO.length (.ix g (p.aO.getD prog.toNat aU).Ops.length (.each true rP v.Slots iV (fun e d (b:af)=> .ix e v.Slots.length (.br (d.Num !=c.Num) (rl b.re) (.ix e v.Slots.length (.ob (mW p c d.Val.re) (.lt (b.Slots++[Slot.mk c.Num (i p c d.Val.re).re]) fun(h:List Slot)=> .br (decide (c.Card < 3)) (.ob (dE (b.Slots.length+1) 136) (rl (af.mk b.Kind b.Bits b.Text b.List b.Pairs h b.dH))) (.br (!yx (i p c d.Val.re).re) (.ob (dE (b.Slots.length+1) 136) (rl (af.mk b.Kind b.Bits b.Text b.List b.Pairs h b.dH))) (rl b.re))))))) (fun e (b:af)=> rl b.re) f.re))) (fun g (f:af)=> .ret f.re) (af.mk (Int.ofNat (nat_lit 10)) (Int.ofNat (nat_lit 0)) [] [] [] [] (match v.dH with | []=>nM [] | a::l=>nM (a::l)))))))
def aeh (i:aJ->Int->af->af)(tq:aJ->Int->af->Prop)(j:aJ->Op->af->af)(mW:aJ->Op->af->Prop)(f:aJ->Op->af->af)(kz:aJ->Op->af->Prop)(p:aJ)(o:Op)(v:af):Pg af:=.br (o.Card==4) (.each true rP v.List l_ (fun g (h b:af)=> .ix g v.List.length (.ob (kz p o h.re) (.ob (dE (b.List.length+1) 128) (rl (af.mk b.Kind b.Bits b.Text (b.List++[(f p o h.re).re]) b.Pairs b.Slots b.dH))))) (fun g (b:af)=> .ret b.re) (af.mk (Int.ofNat (nat_lit 11)) (Int.ofNat (nat_lit 0)) [] [] [] [] [])) (.br (o.Card==5) (.ob (aiE v.Pairs) (.lt (kL v.Pairs) fun c=> .each true rP c fH (fun e d (a:af)=> .ix e c.length (.ix e c.length (.ob (kz p o d.Val.re) (.ob (dE (a.Pairs.length+1) 256) (rl (af.mk a.Kind a.Bits a.Text a.List (a.Pairs++[Pair.mk (lq d.Key.re).re (f p o d.Val.re).re]) a.Slots a.dH)))))) (fun e (a:af)=> .ret a.re) (af.mk (Int.ofNat (nat_lit 12)) (Int.ofNat (nat_lit 0)) [] [] [] [] []))) (.ob (kz p o v.re) (.ret (f p o v.re).re)))
def afl (a:aJ->Int->af->af)(tq:aJ->Int->af->Prop)(b:aJ->Op->af->af)(mW:aJ->Op->af->Prop)(c:aJ->Op->af->af)(kz:aJ->Op->af->Prop)(p:aJ)(o:Op)(v:af):Pg af:=.br (o.Kind==10) (.ob (tq p o.Target v.re) (.ret (a p o.Target v.re).re)) (.ret (lq v.re).re)
def tq (a:Nat)(p:aJ)(prog:Int)(v:af):Prop:=pG p/\(0<=prog/\prog < p.aO.length)/\wV p v (p.aO.getD prog.toNat aU)/\xH 0 a v
def mW (a:Nat)(p:aJ)(o:Op)(v:af):Prop:=pG p/\(1<=o.Card/\o.Card<=5)/\(o.Kind=10->(0<=o.Target/\o.Target < p.aO.length)/\wE p v (p.aO.getD o.Target.toNat aU) o.Card)/\xH 2 a v
def kz (a:Nat)(p:aJ)(o:Op)(v:af):Prop:=pG p/\True/\(o.Kind=10->(0<=o.Target/\o.Target < p.aO.length)/\wV p v (p.aO.getD o.Target.toNat aU))/\xH 1 a v
def Jl:Nat->(aJ->Int->af->af)×(aJ->Op->af->af)×(aJ->Op->af->af)
 | 0=>(fun _ _ _=>default,fun _ _ _=>default,fun _ _ _=>default)
 | a+1=>(fun p prog v=>(asT ((Jl a).1) (tq a) ((Jl a).2.1) (mW a) ((Jl a).2.2) (kz a) p prog v).val,fun p o v=>(aeh ((Jl a).1) (tq a) ((Jl a).2.1) (mW a) ((Jl a).2.2) (kz a) p o v).val,fun p o v=>(afl ((Jl a).1) (tq a) ((Jl a).2.1) (mW a) ((Jl a).2.2) (kz a) p o v).val)
def aee (p:aJ)(prog:Int)(v:af):af:=(Jl (3*tV v+0)).1 p prog v
def acz (a:Nat):Prop:=(∀(p:aJ) (prog:Int) (v:af),tq a p prog v->(fun y=>(∀q,rp p q->y=(rO a).1 q prog v)/\wV p y (p.aO.getD prog.toNat aU)) ((Jl a).1 p prog v))/\(∀(p:aJ) (o:Op) (v:af),mW a p o v->(fun y=>(∀q,rp p q->y=(rO a).2.1 q o v)/\(o.Kind=10->wE p y (p.aO.getD o.Target.toNat aU) o.Card)) ((Jl a).2.1 p o v))/\(∀(p:aJ) (o:Op) (v:af),kz a p o v->(fun y=>(∀q,rp p q->y=(rO a).2.2 q o v)/\(o.Kind=10->wV p y (p.aO.getD o.Target.toNat aU))) ((Jl a).2.2 p o v))
abbrev UT (a:Nat):=asT ((Jl a).1) (tq a) ((Jl a).2.1) (mW a) ((Jl a).2.2) (kz a)
theorem aa8 (r:Nat)(ih:acz r)(p:aJ)(prog:Int)(v:af)(h:tq (r+1) p prog v):kw (UT r p prog v) (fun y=>(∀q,rp p q->y=(rO (r+1)).1 q prog v)/\wV p y (p.aO.getD prog.toNat aU)):=
 by
 obtain⟨Q,w,hw,M⟩:=h;have K:p.aO.getD prog.toNat aU∈p.aO:=getD_mem au;have V:=uS M.1;obtain⟨hw1,J,A⟩:=BG.1 hw;have B:=Q.2.2 _ K;have L:=Q.1 _ K;have er:(match v.dH with | []=>nM [] | a::l=>nM (a::l))=nM v.dH:=by grind
 have G:∀o∈(p.aO.getD prog.toNat aU).Ops,∀s∈v.Slots,s.Num=o.Num->mW r p o s.Val:=fun o j s t e=>by
  obtain⟨q,P,q2,q3⟩:=J s t;have eq:q=o:=afs B.1 P j (q2.trans e);subst eq;obtain⟨g1,g2⟩:=Vh M.1 t;exact⟨Q,(B.2 q P).2,fun E=>⟨(L.2 q P).1 E,q3 E⟩,g1,by have:=M.2;omega⟩
 obtain⟨U,Y⟩:=arH V.2.1 A;have R:=AX r;have C:=fun(o:Op) (j:o∈(p.aO.getD prog.toNat aU).Ops) (s:Slot) (t:s∈v.Slots) (e:s.Num=o.Num)=>ih.2.1 p o s.Val (G o j s t e)
 have W:∀(o:Op) (j:o∈(p.aO.getD prog.toNat aU).Ops) (s:Slot) (t:s∈v.Slots) (e:s.Num=o.Num),xU ((Jl r).2.1 p o s.Val):=fun o j s t e=>by
  rw[(C o j s t e).1 p (Kz p)];have k:=R.2.1 p o s.Val (G o j s t e).2.2.2;exact aeW ⟨k.1,by have:=(G o j s t e).2.2.2.1.2;omega⟩
 let f:Op->Slot->Option Slot:=fun o s=>bif decide (o.Card < 3) || !yx ((Jl r).2.1 p o s.Val)then some (Slot.mk o.Num ((Jl r).2.1 p o s.Val))else none
 let F:Op->List Slot:=fun o=>(v.Slots.filter fun s=>s.Num==o.Num).filterMap (f o)
 have hF:∀o,(F o).length<=1:=fun o=>KF aCO (axG o.Num A)
 have D:∀q,rp p q->af.mk 10 0 [] [] [] ((p.aO.getD prog.toNat aU).Ops.flatMap F) (nM v.dH)=(rO (r+1)).1 q prog v:=fun q O=>by
  rw[air r w.1 (by rw[O.1];exact w.2),O.1];congr 1;refine(aFP (num:=Slot.Num) (afM:=Op.Num) U Y (List.pairwise_map.1 A) B.1 (fun x m=> ?_) _ f (fun o j x m e=> ?_)).symm
  ·obtain⟨o,o1,o2,_⟩:=J x m
   grind
  ·obtain⟨p1,Z⟩:=aj7 (g:=p.aO.getD prog.toNat aU) (n:=x.Num) (by rw[e];exact aiK j);have eo:(qK (p.aO.getD prog.toNat aU) x.Num).1=o:=afs B.1 p1 j (Z.trans e);have hc:=(B.2 o j).2;show FI _ q _ x=f o x
   unfold FI;simp only[f];rw[eo,<-(C o j x m e).1 q O,avP _ (W o j x m e),e]
   grind
 unfold UT asT;simp only[af.dn];refine bQ (fun k=>absurd k au) fun _=>fD (bQ (fun k=>absurd k au) fun _=>aj V.1 (QN (fun i y=>y=af.mk 10 0 [] [] [] (((p.aO.getD prog.toNat aU).Ops.take i).flatMap F) (nM v.dH)) (by rw[er];rfl) ⟨w,trivial⟩ au (fun i y X H=> ?_) (fun y H=>ai ?_)))
 ·have j:=getD_mem (d:=vk) X;have et:(((p.aO.getD prog.toNat aU).Ops.take (i+1)).flatMap F)=(((p.aO.getD prog.toNat aU).Ops.take i).flatMap F)++F ((p.aO.getD prog.toNat aU).Ops.getD i vk):=by
   rw[take_snoc (d:=vk) X,List.flatMap_append,List.flatMap_singleton]
  have hlen:(((p.aO.getD prog.toNat aU).Ops.take i).flatMap F).length<=i:=aAj B.1 hF;generalize ((p.aO.getD prog.toNat aU).Ops.take i).flatMap F=u at*;rw[et];generalize (p.aO.getD prog.toNat aU).Ops.getD i vk=o at*;subst H;have hil:=L.1;refine aX w.1 w.2 (aX au au (dA (fun k y=>y=af.mk 10 0 [] [] [] (u++((v.Slots.take k).filter fun s=>s.Num==o.Num).filterMap (f o)) (nM v.dH)) qg au (fun k y E S=> ?_) (fun y S=>ai ?_)))
  ·have t:=getD_mem (d:=iV) E;have ek:v.Slots.take (k+1)=v.Slots.take k++[v.Slots.getD k iV]:=take_snoc E;have hk1:(((v.Slots.take k).filter fun s=>s.Num==o.Num).filterMap (f o)).length<=1:=KF aCO (axG o.Num (A.sublist ((List.take_sublist k _).map _)));rw[ek,Qcq,List.filterMap_append];generalize (List.filterMap (f o) (List.filter (fun s=>s.Num==o.Num) (List.take k v.Slots)))=z at*;generalize v.Slots.getD k iV=s at*;subst S;have skip:s.Num≠o.Num->af.mk 10 0 [] [] [] (u++z) (nM v.dH)=af.mk 10 0 [] [] [] (u++(z++List.filterMap (f o) (List.filter (fun s=>s.Num==o.Num) [s]))) (nM v.dH):=fun e=>by
    grind
   refine aX au au (dY (fun e=>ai (skip e)) (fun e=>aX au au (aj (G o j s t e) (aI fun v7 e7=> ?_))));have ef:List.filterMap (f o) (List.filter (fun s=>s.Num==o.Num) [s])=(f o s).toList:=by
    grind
   have I:(decide (o.Card < 3) || !yx ((Jl r).2.1 p o s.Val))=true->af.mk 10 0 [] [] [] v7 (nM v.dH)=af.mk 10 0 [] [] [] (u++(z++List.filterMap (f o) (List.filter (fun s=>s.Num==o.Num) [s]))) (nM v.dH):=fun c=>by
    rw[ef,e7];simp only[f,c,cond_true,Qek];rw[<-Qa2];rfl
   have T:dE ((u++z).length+1) 136:=by
    rw[tK];exact dw au au
   refine bQ (fun c=>aj T (ai (I qg))) (fun c=>dL (fun c2=>aj T (ai (I qg))) (fun c2=>ai ?_))
   grind
  grind
 ·rw[JG]at H;rw[H];refine⟨D,BG.2 ⟨rfl,fun x m=> ?_,?_⟩⟩
  ·obtain⟨o,j,m⟩:=zL.1 m;obtain⟨s,t,e⟩:=Qdc.1 m;obtain⟨t,N⟩:=ZT.1 t;have N:=eq_of_beq N;simp only[f]at e;cases c:(decide (o.Card < 3) || !yx ((Jl r).2.1 p o s.Val))with
   | false=>grind
   | true=>
    rw[c]at e;injection e with e
    rw[<-e];exact⟨o,j,rfl,(C o j s t N).2⟩
  ·have k:=D p (Kz p);rw[air r w.1 w.2]at k;injection k with _ _ _ _ _ k _
   show(List.map Slot.Num ((p.aO.getD prog.toNat aU).Ops.flatMap F)).Nodup
   rw[k];refine List.pairwise_map.2 (List.pairwise_filterMap.2 (U.imp fun{a b} hab x m y hy=> ?_));have n1:∀{a x},FI (rO r).2.1 p (p.aO.getD prog.toNat aU) a=some x->x.Num=a.Num:=fun{a x} m=>by
    unfold FI at m;revert m;cases((qK (p.aO.getD prog.toNat aU) a.Num).1.Card==3 || (qK (p.aO.getD prog.toNat aU) a.Num).1.Card==4 || (qK (p.aO.getD prog.toNat aU) a.Num).1.Card==5) && Ic ((rO r).2.1 p (qK (p.aO.getD prog.toNat aU) a.Num).1 a.Val)with
    | true=>grind
    | false=>intro m;injection m with m;rw[<-m];rfl
   grind
abbrev I4 (a:Nat):=aeh ((Jl a).1) (tq a) ((Jl a).2.1) (mW a) ((Jl a).2.2) (kz a)
theorem Sm (c:Nat)(u:acz c)(p:aJ)(o:Op)(v:af)(h:mW (c+1) p o v):kw (I4 c p o v) (fun y=>(∀q,rp p q->y=(rO (c+1)).2.1 q o v)/\(o.Kind=10->wE p y (p.aO.getD o.Target.toNat aU) o.Card)):=
 by
 obtain⟨B,K,s,g⟩:=h;have A:=uS g.1;unfold I4 aeh;simp only[af.dn];refine dR (fun m=> ?_) (fun m=>dR (fun n=> ?_) (fun n=> ?_))
 ·have f:∀x∈v.List,kz c p o x:=fun x a=>by
   obtain⟨i,r,e⟩:=zW (d:=l_) a;refine⟨B,trivial,fun b=>⟨(s b).1,?_⟩,by rw[<-e];exact aDz g r⟩;have:=(s b).2;rw[m,vV]at this
   grind
  refine dA (fun i y=>y=af.mk 11 0 [] ((v.List.take i).map ((Jl c).2.2 p o)) [] [] []) rfl au (fun i y r j=> ?_) (fun y j=>ai ?_)
  ·subst j;have a:=getD_mem (d:=l_) r;refine aX au au (aj (f _ a) (aj (dw (by show(List.map _ _).length+1<=_;grind) (by show((List.map _ _).length+1)*128<=_;grind)) (ai ?_)));show _=_
   rw[iI (d:=l_) r];rfl
  ·rw[JG]at j;subst j;refine⟨fun q l=> ?_,fun b=>vV.2 ⟨fun _=>⟨rfl,rfl,fun x a=> ?_⟩,fun k=>absurd (m.symm.trans k) jy,fun k=>absurd m k⟩⟩
   ·rw[amA c m];congr 1;exact Qbb fun x a=>(u.2.2 p o x (f x a)).1 q l
   ·obtain⟨z,w,e⟩:=JC.1 a;rw[<-e];exact(u.2.2 p o z (f z w)).2 b
 ·have C:aiE v.Pairs:=⟨A.2.2.2,fun x a=>((kK _).1 (ajY g.1 a)).1.1⟩;have f:∀x∈v.Pairs,kz c p o x.Val:=fun x a=>by
   obtain⟨H,L,_⟩:=HY g.1 a;refine⟨B,trivial,fun b=>⟨(s b).1,?_⟩,H,by have:=g.2;omega⟩;have:=(s b).2;rw[n,vV]at this
   grind
  refine aj C (aI fun D E=> ?_);have t:∀x∈D,x∈v.Pairs:=fun x a=>Ee A.2.2.2 qg
  have I:=JO A.2.2.2 E;refine dA (fun i y=>y=af.mk 12 0 [] [] ((D.take i).map fun x=>Pair.mk (lq x.Key) ((Jl c).2.2 p o x.Val)) [] []) rfl au (fun i y r j=> ?_) (fun y j=>ai ?_)
  ·subst j;have a:=getD_mem (d:=fH) r;refine aX au au (aX au au (aj (f _ (t _ a)) (aj (dw (by show(List.map _ _).length+1<=_;grind) (by show((List.map _ _).length+1)*256<=_;grind)) (ai ?_))));show _=_
   rw[iI (d:=fH) r];rfl
  ·rw[JG]at j;subst j;refine⟨fun q l=> ?_,fun b=>by
    rw[n];refine aux fun x a=> ?_;obtain⟨z,w,e⟩:=JC.1 a;rw[<-e];exact(u.2.2 p o z.Val (f z (t z w))).2 b⟩
   rw[asq c n,<-E];congr 1;refine Qbb fun x a=> ?_;obtain⟨_,_,_,J⟩:=HY g.1 (t x a);rw[(u.2.2 p o x.Val (f x (t x a))).1 q l,Vg _ (aeW ⟨ajY g.1 (t x a),by have:=g.1.2;omega⟩)]
 ·have f:kz c p o v:=⟨B,trivial,fun b=>⟨(s b).1,(vV.1 (s b).2).2.2 m n⟩,I7 g⟩;obtain⟨G,F⟩:=u.2.2 p o v f;refine aj f (ai ⟨fun q l=> ?_,fun b=>vV.2 ⟨fun k=>absurd k m,fun k=>absurd k n,fun _ _=>F b⟩⟩);rw[arv c m n];exact G q l
abbrev Ih (a:Nat):=afl ((Jl a).1) (tq a) ((Jl a).2.1) (mW a) ((Jl a).2.2) (kz a)
theorem SY (b:Nat)(l:acz b)(p:aJ)(o:Op)(v:af)(h:kz (b+1) p o v):kw (Ih b p o v) (fun y=>(∀q,rp p q->y=(rO (b+1)).2.2 q o v)/\(o.Kind=10->wV p y (p.aO.getD o.Target.toNat aU))):=
 by
 obtain⟨j,_,f,d⟩:=h;unfold Ih afl;simp only[af.dn];refine dR (fun a=> ?_) (fun a=>ai ⟨fun q c=> ?_,fun k=>absurd k a⟩)
 ·have c:tq b p o.Target v:=⟨j,(f a).1,(f a).2,I7 d⟩;obtain⟨g,i⟩:=l.1 p o.Target v c;refine aj c (ai ⟨fun q e=> ?_,fun _=>i⟩);rw[aaz,beq_iff_eq.2 a,cond_true];exact g q e
 ·rw[aaz,beq_false_of_ne a,jm];exact(Vg _ (aeW d.1)).symm
theorem D7:∀a,acz a
 | 0=>⟨fun p prog v h=>False.elim (xO h.2.2.2),
  fun p o v h=>False.elim (xO h.2.2.2),
  fun p o v h=>False.elim (xO h.2.2.2)⟩
 | a+1=>⟨fun p prog v h=>(aa8 a (D7 a) p prog v h).2,
  fun p o v h=>(Sm a (D7 a) p o v h).2,
  fun p o v h=>(SY a (D7 a) p o v h).2⟩
theorem avJ (a:Nat)(p:aJ)(prog:Int)(v:af)(h:tq (a+1) p prog v):Is (UT a p prog v):=(aa8 a (D7 a) p prog v h).1
theorem ak_ (a:Nat)(p:aJ)(o:Op)(v:af)(h:mW (a+1) p o v):Is (I4 a p o v):=(Sm a (D7 a) p o v h).1
theorem akg (a:Nat)(p:aJ)(o:Op)(v:af)(h:kz (a+1) p o v):Is (Ih a p o v):=(SY a (D7 a) p o v h).1
theorem aiT (p:aJ)(prog:Int)(v:af)(h:pG p/\(0<=prog/\prog < p.aO.length)/\wV p v (p.aO.getD prog.toNat aU)/\gV v):(fun y=>(∀q,rp p q->y=(rO (3*tV v+0)).1 q prog v)/\wV p y (p.aO.getD prog.toNat aU)) (aee p prog v):=(D7 (3*tV v+0)).1 p prog v (⟨h.1,h.2.1,h.2.2.1,h.2.2.2,rC _⟩)
theorem aC4:∀b,fK Z.P Z.S 218 (xK (args (ax (aQ dU) (ax (df cI) (a1 (aQ aH))))) (shr [.slot 0 true (nn 7)] (l1 aH)) 1 [] (fun a=>some (tq b (a.1) (a.2.1) (a.2.2))) (fun a=>(Jl b).1 (a.1) (a.2.1) (a.2.2)))/\fK Z.P Z.S 292 (xK (args (ax (aQ dU) (ax (aQ jD) (a1 (aQ aH))))) (shr [.slot 0 true (nn 7)] (l1 aH)) 1 [] (fun a=>some (mW b (a.1) (a.2.1) (a.2.2))) (fun a=>(Jl b).2.1 (a.1) (a.2.1) (a.2.2)))/\fK Z.P Z.S 380 (xK (args (ax (aQ dU) (ax (aQ jD) (a1 (aQ aH))))) (shr [.slot 0 true (nn 7)] (l1 aH)) 1 [] (fun a=>some (kz b (a.1) (a.2.1) (a.2.2))) (fun a=>(Jl b).2.2 (a.1) (a.2.1) (a.2.2)))
 | 0=>⟨jU func218 fO (fun a h=>xO h.2.2.2),
  jU func292 fO (fun a h=>xO h.2.2.2),
  jU func380 fO (fun a h=>xO h.2.2.2)⟩
 | b+1=>by
  obtain⟨f,g,d⟩:=aC4 b;exact⟨Um [aqs,akq,⟨218,_,f⟩,⟨292,_,g⟩,⟨380,_,d⟩] [jS 5 (dh (fun c=>[s0 8, .cells (pid (c 7)) [none,none,none,none,none,some 291,some 284]]) (aC cI (l1 aH))),jS 9 (dh (fun c=>[s0 10, .cells (pid (c 7)) [none,none,none,none,none,some 291,some 284]]) (aC cI (l1 aH))),jS 800003 (dh (fun c=>[.cells (pid (c 7)) [none,none,none,none,none,some 291,some 284]]) (l1 aH))] func218 ntmps218 (fun a=>UT b a.1 a.2.1 a.2.2) (fun a h=>⟨avJ b a.1 a.2.1 a.2.2 h,rfl⟩) (oP (n:=89) rfl),
   Um [MN,WW,⟨218,_,f⟩,⟨292,_,g⟩,⟨380,_,d⟩] [jS 5 (dh (fun c=>[s0 8, .cells (pid (c 7)) [none,none,none,some 65,none,none,none]]) (aC cI (l1 aH))),jS 13 (dh (fun c=>[s0 11, .cells (pid (c 9)) [none,none,none,none,some 300,none,none]]) (aC cI (l1 aH))),jS 800003 (dh (fun c=>[.cells (pid (c 7)) [none,none,none,some 65,none,none,none]]) (l1 aH)),jS 800010 (dh (fun c=>[.cells (pid (c 9)) [none,none,none,none,some 300,none,none]]) (l1 aH))] func292 ntmps292 (fun a=>I4 b a.1 a.2.1 a.2.2) (fun a h=>⟨ak_ b a.1 a.2.1 a.2.2 h,rfl⟩) (oP (n:=75) rfl),
   Um [MN,⟨218,_,f⟩,⟨292,_,g⟩,⟨380,_,d⟩] [] func380 ntmps380 (fun a=>Ih b a.1 a.2.1 a.2.2) (fun a h=>⟨akg b a.1 a.2.1 a.2.2 h,rfl⟩) (oP (n:=17) rfl)⟩
def azF:bT Z:=⟨218,xK (args (ax (aQ dU) (ax (df cI) (a1 (aQ aH))))) (shr [.slot 0 true (nn 7)] (l1 aH)) 1 [] (fun a=>some (pG (a.1)/\(0<=(a.2.1)/\(a.2.1) < (a.1).aO.length)/\wV (a.1) (a.2.2) ((a.1).aO.getD (a.2.1).toNat aU)/\gV (a.2.2))) (fun a=>aee (a.1) (a.2.1) (a.2.2)),uM (fun n=>((aC4 n).1)) _ _ (fun a h=>⟨3*tV (a.2.2)+0,⟨h.1,h.2.1,h.2.2.1,h.2.2.2,rC _⟩,rfl⟩)⟩
end
end Go.Proofs.YtenjjcfebflefaaGreatDoor
