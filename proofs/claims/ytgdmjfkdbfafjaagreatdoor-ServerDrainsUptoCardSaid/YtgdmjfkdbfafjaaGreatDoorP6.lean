/- Server: hiding. -/
import Derived.Test.YtgdmjfkdbfafjaaGreatDoorP5
namespace Go.Proofs.YtgdmjfkdbfafjaaGreatDoor
noncomputable section
open Go.RowKit Go.Vc
open Tryz
set_option linter.unusedVariables false
set_option linter.unusedSimpArgs false
set_option maxRecDepth 100000
theorem aoB {v:ah}(h:gV v):v.Pairs.length<=1048576:=by
 have a:=iZ v;have b:=G8 v.Pairs;have:=h.2;omega
theorem adq {A:Type}{f:A->Nat}{d r:A}:∀{l:List A} {i:Nat},i < l.length->f r<=f (l.getD i d)->kG f (l.set i r)<=kG f l
 | a::l,0,_,h=>by
  have h:f r<=f a:=h;show f r+kG f l<=f a+kG f l
  omega
 | a::l,i+1,b,h=>by
  have:=adq (l:=l) (i:=i) (by simpa using b) h;show f a+kG f (l.set i r)<=f a+kG f l
  omega
theorem amP {A:Type}{P:A->Prop}{r:A}{l:List A}{i:Nat}(h:∀x∈l,P x)(c:P r):∀x∈l.set i r,P x:=fun x b=>by
 rcases Qcs b with a | rfl
 ·exact h x a
 ·exact c
theorem aqs {v:ah}{y:List ah}(h:kV v)(b:∀x∈y,kV x)(e:kG (fun x=>1+tV x) y<=tVs v.List):kV (ah.mk v.Kind v.Bits v.Text y v.Pairs v.Slots v.bM)/\tV (ah.mk v.Kind v.Bits v.Text y v.Pairs v.Slots v.bM)<=tV v:=by
 obtain⟨d,f,c,a⟩:=(iV v).1 h;refine⟨(iV _).2 ⟨d,b,c,a⟩,?_⟩;rw[iZ v,iZ,vI];show 1+v.Text.length+kG _ y+ZY v.Pairs+tSs v.Slots+Vq v.bM<=_
 rw[vI]at e⊢;omega
theorem ai7 {v:ah}{y:List Pair}(h:kV v)(b:∀x∈y,(kM x.Key.Kind=true/\kV x.Key)/\kV x.Val)(f:kG tP y<=ZY v.Pairs):kV (ah.mk v.Kind v.Bits v.Text v.List y v.Slots v.bM)/\tV (ah.mk v.Kind v.Bits v.Text v.List y v.Slots v.bM)<=tV v:=by
 obtain⟨c,d,e,a⟩:=(iV v).1 h;refine⟨(iV _).2 ⟨c,d,b,a⟩,?_⟩;rw[iZ v,iZ];show 1+v.Text.length+tVs v.List+ZY y+tSs v.Slots+Vq v.bM<=_
 rw[xg y];omega
theorem alf {v:ah}{y:List Slot}(h:kV v)(a:∀x∈y,kV x.Val)(f:kG tS y<=tSs v.Slots):kV (ah.mk v.Kind v.Bits v.Text v.List v.Pairs y v.bM)/\tV (ah.mk v.Kind v.Bits v.Text v.List v.Pairs y v.bM)<=tV v:=by
 obtain⟨c,d,b,e⟩:=(iV v).1 h;refine⟨(iV _).2 ⟨c,d,b,a⟩,?_⟩;rw[iZ v,iZ];show 1+v.Text.length+tVs v.List+ZY v.Pairs+tSs y+Vq v.bM<=_
 rw[xe y];omega
def aEZ (l:List Note)(b:Str):Pg Bool:=.lt (acH l b) fun a=> .br a.2 (.br (a.1.Kind==1) (.ret (a.1.Bits==1)) (.ret false)) (.ret false)
def aGC (l:List Note)(a:Str):=(aEZ l a).val
def aAg:aZ Z:=E0 [adJ] [] (ak (bC lS) (a1 (bC cStr))) (R1 aG) [] func182 1 (u2 aEZ)
def adR (e:ay->aK->ah->ah)(oU:ay->aK->ah->Prop)(g:ay->Str->ah->ah)(yN:ay->Str->ah->Prop)(s:ay)(f:aK)(v:ah):Pg ah:=.br (f.dH.Kind !=10) (.ret v.re) (.br (v.Kind==10) (.ob (yN s f.dH.Name v.re) (.ret (g s f.dH.Name v.re).re)) (.br (v.Kind==11) (.ob (v.List.length<=1048576) (aL v.List (.cnt oZ 0 (↑v.List.length:Int) (fun d (c:List ah)=> .ix d c.length (.ob (d.toNat < c.length) (.ob (oU s (aK.mk f.Num f.Name f.Card f.Key f.dH f.Union f.dD f.Default.re f.Notes) (c.getD d.toNat gQ).re) (.ix d c.length (.ob (d.toNat < c.length) (rl (c.set d.toNat (e s (aK.mk f.Num f.Name f.Card f.Key f.dH f.Union f.dD f.Default.re f.Notes) (c.getD d.toNat gQ).re).re))))))) (fun d (c:List ah)=> .ret (ah.mk v.Kind v.Bits v.Text c v.Pairs v.Slots v.bM)) v.List))) (.br (v.Kind==12) (.ob (v.Pairs.length<=1048576) (aL v.Pairs (.cnt oZ 0 (↑v.Pairs.length:Int) (fun b (a:List Pair)=> .ix b a.length (.ob (b.toNat < a.length) (.ob (oU s (aK.mk f.Num f.Name f.Card f.Key f.dH f.Union f.dD f.Default.re f.Notes) (a.getD b.toNat iE).Val.re) (.ix b a.length (.ob (b.toNat < a.length) (rl (a.set b.toNat (Pair.mk (a.getD b.toNat iE).Key.re (e s (aK.mk f.Num f.Name f.Card f.Key f.dH f.Union f.dD f.Default.re f.Notes) (a.getD b.toNat iE).Val.re).re)))))))) (fun b (a:List Pair)=> .ret (ah.mk v.Kind v.Bits v.Text v.List a v.Slots v.bM)) v.Pairs))) (.ret v.re))))
def atW (g:ay->aK->ah->ah)(oU:ay->aK->ah->Prop)(h:ay->Str->ah->ah)(yN:ay->Str->ah->Prop)(s:ay)(d:Str)(v:ah):Pg ah:=.lt (GL s d) fun e=> .br (!e.2) (.ret v.re) (aL v.Slots (.each false oZ v.Slots cO (fun f c (b:List Slot)=> .ix f v.Slots.length (.lt (UT e.1 c.Num) fun a=> .cut (fun(i:Unit)=> .br a.2 (.ob (oU s (aK.mk a.1.Num a.1.Name a.1.Card a.1.Key a.1.dH a.1.Union a.1.dD a.1.Default.re a.1.Notes) c.Val.re) (.ob (bZ (b.length+1) 136) (rl (b++ [Slot.mk c.Num (g s (aK.mk a.1.Num a.1.Name a.1.Card a.1.Key a.1.dH a.1.Union a.1.dD a.1.Default.re a.1.Notes) c.Val.re).re])))) (.ob (bZ (b.length+1) 136) (rl (b++[Slot.mk c.Num c.Val.re])))) (.br a.2 (.br (aGC a.1.Notes [115,101,99,114,101,116]) (.br (a.1.Card !=1) (.ret (.inr (.inl b))) (rl ())) (rl ())) (rl ())))) (fun f (b:List Slot)=> .ret (ah.mk v.Kind v.Bits v.Text v.List v.Pairs b v.bM)) []))
def oU (a:Nat)(s:ay)(f:aK)(v:ah):Prop:=gV v/\2*tV v+1<=a
def yN (a:Nat)(s:ay)(b:Str)(v:ah):Prop:=gV v/\2*tV v<=a
def hdV:Nat->(ay->aK->ah->ah)×(ay->Str->ah->ah)
 | 0=>(fun _ _ _=>default,fun _ _ _=>default)
 | a+1=>(fun s f v=>(adR ((hdV a).1) (oU a) ((hdV a).2) (yN a) s f v).val,fun s b v=>(atW ((hdV a).1) (oU a) ((hdV a).2) (yN a) s b v).val)
def akR (s:ay)(a:Str)(v:ah):ah:=(hdV (2*tV v)).2 s a v
def aky (b:Nat):Prop:=(∀(s:ay) (f:aK) (v:ah),oU b s f v->(fun r=>kV r/\tV r<=tV v) ((hdV b).1 s f v))/\(∀(s:ay) (a:Str) (v:ah),yN b s a v->(fun r=>kV r/\tV r<=tV v) ((hdV b).2 s a v))
abbrev Ie (a:Nat):=adR ((hdV a).1) (oU a) ((hdV a).2) (yN a)
theorem QN (g:Nat)(p:aky g)(s:ay)(f:aK)(v:ah)(h:oU (g+1) s f v):j_ (Ie g s f v) (fun r=>kV r/\tV r<=tV v):=
 by
 obtain⟨a,A⟩:=h;have w:=qm a;have z:=a.2;unfold Ie adR;simp only[ah.dR];refine dM (fun _=>af ⟨a.1,nO _⟩) (fun _=>dK (fun _=>ai ⟨a,by omega⟩ (af (p.2 _ _ _ ⟨a,by omega⟩))) (fun _=>dK (fun _=>ai w.2.2.1 (bW (sQ (fun _ (y:List ah)=>y.length=v.List.length/\(∀x∈y,kV x/\tV x < tV v)/\kG (fun x=>1+tV x) y<=tVs v.List) ⟨rfl,fun x b=>⟨(D5 a b).1.1,(D5 a b).2⟩,by rw[vI];exact nO _⟩ au au (fun i y u t c=> ?_) (fun i y _ _ c=>af (aqs a.1 (fun x b=>(c.2.1 x b).1) c.2.2)))))
  (fun _=>dK (fun _=>ai (aoB a) (bW (sQ (fun _ (y:List Pair)=>y.length=v.Pairs.length/\(∀x∈y,((kM x.Key.Kind=true/\kV x.Key)/\kV x.Val)/\tV x.Val < tV v)/\kG tP y<=ZY v.Pairs) ⟨rfl,fun x b=>⟨⟨⟨(zL a b).2.2.1,alB a b⟩,(zL a b).1.1⟩,(zL a b).2.1⟩,by rw[xg];exact nO _⟩ au (by have:=aoB a;omega) (fun i y u t c=> ?_) (fun i y _ _ c=>af (ai7 a.1 (fun x b=>(c.2.1 x b).1) c.2.2))))) (fun _=>af ⟨a.1,nO _⟩))))
 ·obtain⟨o,m,n⟩:=c;have e:=m _ (getD_mem (d:=gQ) (l:=y) (i:=i.toNat) au);have j:gV (y.getD i.toNat gQ)/\2*tV (y.getD i.toNat gQ)+1<=g:=⟨⟨e.1,by omega⟩,by omega⟩;obtain⟨q,k⟩:=p.1 s f (y.getD i.toNat gQ) j;exact aW au au (ai au (ai j (aW au au (ai au (af ⟨by rw[Qbo];exact o,amP m ⟨q,Qd6 k e.2⟩,yI (adq (f:=fun x=>1+tV x) (d:=gQ) au (Qd2 k 1)) n⟩)))))
 ·obtain⟨o,m,n⟩:=c;have e:=m _ (getD_mem (d:=iE) (l:=y) (i:=i.toNat) au);have j:gV (y.getD i.toNat iE).Val/\2*tV (y.getD i.toNat iE).Val+1<=g:=⟨⟨e.1.2,by omega⟩,by omega⟩;obtain⟨q,k⟩:=p.1 s f (y.getD i.toNat iE).Val j;exact aW au au (ai au (ai j (aW au au (ai au (af ⟨by rw[Qbo];exact o,amP m ⟨⟨e.1.1,q⟩,Qd6 k e.2⟩,yI (adq (f:=tP) (d:=iE) au (by rw[Qy,Qy];show 1+_+_<=1+_+_;exact Qd2 k _)) n⟩)))))
abbrev TS (a:Nat):=atW ((hdV a).1) (oU a) ((hdV a).2) (yN a)
theorem aai (j:Nat)(o:aky j)(s:ay)(b:Str)(v:ah)(h:yN (j+1) s b v):j_ (TS j s b v) (fun r=>kV r/\tV r<=tV v):=
 by
 obtain⟨c,C⟩:=h;have D:=qm c;have z:=c.2;unfold TS atW;simp only[ah.dR];refine az fun B t=>dJ (fun _=>af ⟨c.1,nO _⟩) (fun _=>bW (dh (fun k (y:List Slot)=>y.length<=k/\(∀x∈y,kV x.Val)/\kG tS y<=kG tS (v.Slots.take k)) ⟨nO _,fun x p=>absurd p (Zc),ve _⟩ au (fun k y m hI=> ?_) (fun y hI=>af (alf c.1 hI.2.1 (by have:=hI.2.2;rw[Kr]at this;rw[xe];exact this)))));obtain⟨i,w⟩:=MB c (getD_mem (d:=cO) m);have e:=qZ (f:=tS) (d:=cO) m;have E:=zD (v.Slots.getD k cO);have g:∀r,kV r->tV r<=tV (v.Slots.getD k cO).Val->(y++[Slot.mk (v.Slots.getD k cO).Num r]).length<=k+1/\(∀x∈y++[Slot.mk (v.Slots.getD k cO).Num r],kV x.Val)/\kG tS (y++[Slot.mk (v.Slots.getD k cO).Num r])<=kG tS (v.Slots.take (k+1)):=fun r l n=>by
  refine⟨by have:=hI.1;simp only[um,yG,CJ];omega,qJ hI.2.1 (lD l),?_⟩;have A:kG tS (y++[Slot.mk (v.Slots.getD k cO).Num r])=kG tS y+(1+tV r):=by
   rw[pI];show kG tS y+(tS _+0)=_
   rw[zD];rfl
  have:=hI.2.2;omega
 have skip:y.length<=k+1/\(∀x∈y,kV x.Val)/\kG tS y<=kG tS (v.Slots.take (k+1)):=⟨by have:=hI.1;omega,hI.2.1,by have:=hI.2.2;omega⟩;refine aW au au (az fun a q=>bP (fun _=>True) (dJ (fun _=>dJ (fun _=>dJ (fun _=>af skip) (fun _=>af trivial)) (fun _=>af trivial)) (fun _=>af trivial)) (fun u _=>dJ (fun _=>ai ⟨i,by omega⟩ (ai (dm qbg qbg) (af ?_))) (fun _=>ai (dm qbg qbg) (af (g _ i.1 (nO _))))));obtain⟨l,n⟩:=o.1 s (aK.mk a.1.Num a.1.Name a.1.Card a.1.Key a.1.dH a.1.Union a.1.dD a.1.Default a.1.Notes) (v.Slots.getD k cO).Val ⟨i,by omega⟩;exact g _ l n
theorem Nq:∀a,aky a
 | 0=>⟨fun s f v h=>False.elim (by have k:=h.2;omega),
  fun s b v h=>False.elim (by have k:=h.2;have:=nI v;omega)⟩
 | a+1=>⟨fun s f v h=>(QN a (Nq a) s f v h).2,
  fun s b v h=>(aai a (Nq a) s b v h).2⟩
theorem akQ (a:Nat)(s:ay)(f:aK)(v:ah)(h:oU (a+1) s f v):Is (Ie a s f v):=(QN a (Nq a) s f v h).1
theorem ay2 (b:Nat)(s:ay)(a:Str)(v:ah)(h:yN (b+1) s a v):Is (TS b s a v):=(aai b (Nq b) s a v h).1
theorem af5 (s:ay)(a:Str)(v:ah)(h:gV v):(fun r=>kV r/\tV r<=tV v) (akR s a v):=(Nq (2*tV v)).2 s a v (⟨h,nO _⟩)
theorem hd_ok:∀b,gZ Z.P Z.S 183 (qj (args (ak (aJ bH) (ak (aJ eG) (a1 (aJ aP))))) (shr [.slot 0 true (nn 7)] (l1 aP)) 1 [] (fun a=>some (oU b (a.1) (a.2.1) (a.2.2))) (fun a=>(hdV b).1 (a.1) (a.2.1) (a.2.2)))/\gZ Z.P Z.S 115 (qj (args (ak (aJ bH) (ak (bC cStr) (a1 (aJ aP))))) (shr [.slot 0 true (nn 7)] (l1 aP)) 1 [] (fun a=>some (yN b (a.1) (a.2.1) (a.2.2))) (fun a=>(hdV b).2 (a.1) (a.2.1) (a.2.2)))
 | 0=>⟨je func183 eQ (fun a h=>by have k:=h.2;omega),
  je func115 eQ (fun a h=>by have k:=h.2;have:=nI (a.2.2);omega)⟩
 | b+1=>by
  obtain⟨d,f⟩:=hd_ok b;exact⟨GU [aEa,aEp,⟨183,_,d⟩,⟨115,_,f⟩] [jS 9 (bI (fun c=>[s0 35, .row (pid (c 33)) 78]) (aB cI (l1 jO))),jS 16 (bI (fun c=>[s0 58, .row (pid (c 56)) 355]) (aB cI (l1 fB)))] func183 ntmps183 (fun a=>Ie b a.1 a.2.1 a.2.2) (fun a h=>⟨akQ b a.1 a.2.1 a.2.2 h,rfl⟩) (lJ (n:=75) rfl),
   GU [JU,LK,aAg,⟨183,_,d⟩,⟨115,_,f⟩] [jS 6 (bI (fun c=>[s0 26, .slot 9 false [some 288]]) (aB cI (l1 bT))),jS 100010 (bI (fun c=>[]) l0)] func115 ntmps115 (fun a=>TS b a.1 a.2.1 a.2.2) (fun a h=>⟨ay2 b a.1 a.2.1 a.2.2 h,rfl⟩) (lJ (n:=63) rfl)⟩
def az8:aZ Z:=⟨115,qj (args (ak (aJ bH) (ak (bC cStr) (a1 (aJ aP))))) (shr [.slot 0 true (nn 7)] (l1 aP)) 1 [] (fun a=>some (gV (a.2.2))) (fun a=>akR (a.1) (a.2.1) (a.2.2)),kQ (fun n=>((hd_ok n).2)) _ _ (fun a h=>⟨2*tV (a.2.2),⟨h,nO _⟩,rfl⟩)⟩
def aeh (l:List jA)(s:ay)(a:Str)(v:ah):Pg ah:=aL l (.each false uj l uQ (fun b c (d:Unit)=> .ix b l.length (.br (c.Kind==6) (.ob (gV v.re) (.ret (.inr (akR s a v.re).re))) (rl ()))) (fun b (d:Unit)=> .ret v.re) ())
def adA (l:List jA)(s:ay)(a:Str)(v:ah):=(aeh l s a v).val
theorem WX (l:List jA)(s:ay)(a:Str)(v:ah)(h:gV v/\l.length<=1048576):j_ (aeh l s a v) (fun r=>kV r/\tV r<=tV v):=
 by
 unfold aeh;simp only[ah.dR];exact bW (dh (fun _ _=>True) trivial au (fun k y b _=>aW au au (dK (fun _=>ai h.1 (af (af5 s a v h.1))) (fun _=>af trivial))) (fun y _=>af ⟨h.1.1,nO _⟩))
def awq:aZ Z:=E1 [az8] [jS 2 (bI (fun b=>[s0 13]) (l1 cI))] (ak (bC rC) (ak (aJ bH) (ak (bC cStr) (a1 (aJ aP))))) (shr [.slot 0 true (nn 7)] (l1 aP)) [] func57 1 (u4 aeh) (fun a=>gV a.2.2.2/\a.1.length<=1048576) fun a h=>(WX a.1 a.2.1 a.2.2.1 a.2.2.2 h).1
theorem ah1 {x:dF}(h:TK x=true):(x.Kind=5->1<=x.Num)/\(x.Kind=4->x.Num<=64)/\(x.Kind=1\/x.Kind=2\/x.Kind=3\/x.Kind=4\/x.Kind=5):=by
 have k:VP (ranged x) (fun r=>r=true->(x.Kind=5->1<=x.Num)/\(x.Kind=4->x.Num<=64)/\(x.Kind=1\/x.Kind=2\/x.Kind=3\/x.Kind=4\/x.Kind=5)):=by
  unfold ranged;have a:∀{p:Prop},(false=true->p):=fun e=>by cases e
  refine fD (fun _=>a_ a) fun _=>fD (fun _=>a_ a) fun _=>kz (fun y=>y=true->x.Kind=1\/x.Kind=2) (fD (fun e=>a_ fun _=> .inl (eq_of_beq e)) fun _=>a_ fun e=> .inr (eq_of_beq e)) fun y b=>fD (fun e=>a_ fun _=> ?_) fun _=>fD (fun e=> ?_) fun _=>fD (fun e=> ?_) fun _=>fD (fun e=> ?_) fun _=>a_ a
  ·rcases b e with k | k<;>refine⟨fun q=> ?_,fun q=> ?_,by omega⟩<;>omega
  ·have e:=eq_of_beq e;exact fD (fun _=>a_ fun _=>⟨fun q=>by omega,fun q=>by omega,by omega⟩) fun _=>a_ a
  ·have e:=eq_of_beq e;exact fD (fun _=>a_ fun d=>⟨fun q=>by omega,fun _=>Eh d,by omega⟩) fun _=>a_ a
  ·have e:=eq_of_beq e;exact fD (fun c=>a_ fun _=>⟨fun _=>Eh c,fun q=>by omega,by omega⟩) fun _=>a_ a
 exact k h
theorem PR {s:ay}{x:dF}(h:ah7 s x=true):(x.Kind=5->1<=x.Num)/\(x.Kind=4->x.Num<=64/\(lV (gX s x.Method).1.Shape).2=true)/\(x.Kind=1\/x.Kind=2\/x.Kind=3\/x.Kind=4\/x.Kind=5):=by
 have k:VP (fits s x) (fun r=>r=true->(x.Kind=5->1<=x.Num)/\(x.Kind=4->x.Num<=64/\(lV (gX s x.Method).1.Shape).2=true)/\(x.Kind=1\/x.Kind=2\/x.Kind=3\/x.Kind=4\/x.Kind=5)):=by
  unfold fits;have c:∀{p:Prop},(false=true->p):=fun e=>by cases e
  refine fO (oQ fun m j=>fD (fun _=>a_ c) fun _=>fD (fun _=>a_ c) fun i=>oQ fun n l=> ?_);have i:TK (dF.mk x.Method x.Kind x.Num 0)=true:=by simpa using i
  obtain⟨g,f,d⟩:=ah1 i;have g:x.Kind=5->1<=x.Num:=g;have f:x.Kind=4->x.Num<=64:=f;have d:x.Kind=1\/x.Kind=2\/x.Kind=3\/x.Kind=4\/x.Kind=5:=d;have a:∀{b:Bool},(x.Kind=4->(lV (gX s x.Method).1.Shape).2=true)->(b=true->(x.Kind=5->1<=x.Num)/\(x.Kind=4->x.Num<=64/\(lV (gX s x.Method).1.Shape).2=true)/\(x.Kind=1\/x.Kind=2\/x.Kind=3\/x.Kind=4\/x.Kind=5)):=fun k _=>⟨g,fun q=>⟨f q,k q⟩,d⟩
  refine fD (fun e=>a_ (a fun q=> ?_)) fun _=>fD (fun e=>fD (fun _=>a_ (a fun q=> ?_)) fun _=>a_ c) fun _=>fD (fun _=>fD (fun e=>a_ (a fun _=> ?_)) fun _=>a_ c) fun e=>a_ (a fun q=> ?_)
  ·have e:=eq_of_beq e;omega
  ·have e:=eq_of_beq e;omega
  ·rw[l,j]at e;exact e
  ·rw[q]at e;cases e
 exact k h
def IQ (l:List Str):Prop:=kG (fun d=>2+8*d.length) l<=1048576
def wOk (w:dZ):Prop:=(∀v∈w.Ey,kV v)/\kG (fun v=>1+tV v) w.Ey<=1048576
def abT (w:dZ)(r:List ah):Prop:=(∀v∈r,gV v)/\r.length<=67108864/\(w.one=true->w.h.Kind≠4->r.length=1)
theorem auj {w:dZ}(h:wOk w):∀v∈w.Ey,gV v:=fun v a=>⟨h.1 v a,by
 have k:1+tV v<=kG (fun v=>1+tV v) w.Ey:=GN (f:=fun v=>1+tV v) a;have:=h.2;omega⟩
theorem al5 {w:dZ}(h:wOk w):w.Ey.length<=1048576:=yI (zO fun x=>by omega) h.2
theorem aDn (k b:Int)(a:m_ b):gV (ah.mk k b [] [] [] [] []):=⟨(lC k b [] a).1,by rw[(lC k b [] a).2];decide⟩
theorem aDr {l:List Str}(h:IQ l):l.length<=1048576:=yI (zO fun x=>by omega) h
theorem axZ {l:List Str}(h:IQ l)(k:Nat):kG (fun d:Str=>2+8*d.length) (l.take k)<=1048576:=yI (wu (Qd k l)) h
def ad6 (s:ay)(x:dF)(r:List Str×Status):Prop:=(∀d∈r.1,d.length<=65536)/\(r.2.Code≠0->r.1=[])/\(r.2.Code=0->(lV (gX s x.Method).1.Shape).2=false->r.1.length=1)/\r.1.length<=67108864
theorem NS {s:ay}{x:dF}{c:Int}(h:c≠0):ad6 s x ([],Status.mk c []):=⟨fun d a=>(by cases a),fun _=>rfl,fun e=>absurd e h,ve _⟩
def aog (w:dZ):Pg (List ah):=.br (!w.one) (.ret w.Ey) (aL w.Ey (.br (decide (0 < (↑w.Ey.length:Int))) (.lt (dA .i64 ((↑w.Ey.length:Int) - 1)) fun a=> .ob (0<=a/\a<=(↑w.Ey.length:Int)/\(↑w.Ey.length:Int)<=(↑w.Ey.length:Int)) (.ret (List.drop a.toNat (List.take w.Ey.length w.Ey)))) (.ret [ah.mk 10 0 [] [] [] [] []])))
def aI5 (w:dZ):=(aog w).val
theorem Z8 (w:dZ)(h:wOk w):j_ (aog w) (fun r=>abT w r):=
 by
 have d:=al5 h;unfold aog;refine dJ (fun a=>af ⟨auj h,by omega,fun e=>by rw[e]at a;cases a⟩) (fun a=>bW (bG (fun i=>nC fun g c f=>ai ⟨by omega,by omega,MS _⟩ (af ⟨fun v b=>auj h v ?_,?_,fun _ _=> ?_⟩)) (fun _=>af ⟨lD (aDn 10 0 ⟨by decide,by decide⟩),by decide,fun _ _=>rfl⟩)))
 ·rw[Kr]at b;exact List.mem_of_mem_drop b
 ·rw[Qbs,Kr];omega
 ·rw[Qbs,Kr];omega
def aAs:aZ Z:=E1 [] [] (a1 (aJ fH)) (R1 jO) [] func92 1 aog (fun a=>wOk a) fun a h=>(Z8 a h).1
def acM (w:dZ):Pg (List ah):=aL w.Ey (.lt (ag_ w.s w.m.Out w.h.Num) fun a=> .ret [ah.mk 10 0 [] [] [] [Slot.mk a.1.Num (ah.mk a.1.dH.Kind (dA .u64 (↑w.Ey.length:Int)) [] [] [] [] [])] []])
def aDJ (w:dZ):=(acM w).val
theorem Yr (w:dZ)(h:wOk w):j_ (acM w) (fun r=>abT w r):=
 by
 unfold acM;refine bW (az fun a c=>af ⟨lD ⟨?_,?_⟩,by show 1<=67108864;decide,fun _ _=>rfl⟩)
 ·have k:=(lC a.1.dH.Kind (dA .u64 (w.Ey.length:Int)) [] (QS _)).1;exact(iV _).2 ⟨⟨an9,fun r b=>(by cases b)⟩,fun x hx=>qcw,fun x hx=>qcw,lD k⟩
 ·have k:=(lC a.1.dH.Kind (dA .u64 (w.Ey.length:Int)) [] (QS _)).2;rw[iZ];show 1+0+0+0+(tS _+0)+0<=_
  rw[zD];show 1+0+0+0+(1+tV (ah.mk a.1.dH.Kind (dA .u64 (w.Ey.length:Int)) [] [] [] [] [])+0)+0<=_
  rw[k];decide
def axm:aZ Z:=E1 [Z7] [] (a1 (aJ fH)) (R1 jO) [] func94 1 acM (fun a=>wOk a) fun a h=>(Yr a h).1
def UE (w:dZ):Pg (List ah):=aL w.Ey (.each false oZ w.Ey gQ (fun c e (b:List ah)=> .ix c w.Ey.length (.cnt oZ 0 w.h.Num (fun d (a:List ah)=> .ob (bZ (a.length+1) 128) (rl (a++[e.re]))) (fun d (a:List ah)=> rl a) b)) (fun c (b:List ah)=> .ret b) [])
def aw_ (w:dZ):=(UE w).val
theorem RH (w:dZ)(h:wOk w/\w.h.Num<=64/\w.h.Kind=4):j_ (UE w) (fun r=>abT w r):=
 by
 obtain⟨h,o,f⟩:=h;have n:=al5 h;unfold UE;simp only[ah.dR];refine bW (dh (fun k (y:List ah)=>(∀v∈y,gV v)/\y.length<=64*k) ⟨fun v j=>(by cases j),nO _⟩ au (fun k y c a=> ?_) (fun y a=>af ⟨a.1,by have:=a.2;omega,fun _ e=>absurd f e⟩));have g:=auj h _ (getD_mem (d:=gQ) c);exact aW au au (sQ (fun i (z:List ah)=>(∀v∈z,gV v)/\(z.length:Int)<=64*k+i/\i<=64) ⟨a.1,by have:=a.2;omega,by decide⟩ mi au (fun i z m l b=>ai (dm au au) (af ⟨qJ b.1 (lD g),by simp only[um,yG,CJ];omega,by omega⟩)) (fun i z _ _ b=>af ⟨b.1,by omega⟩))
def apS:aZ Z:=E1 [] [jS 3 (bI (fun b=>[s0 9, .slot 3 false [some 78]]) (aB cI (l1 jO))),jS 6 (bI (fun b=>[s0 16, .slot 3 false [some 78]]) (aB cI (l1 jO)))] (a1 (aJ fH)) (R1 jO) [] func95 1 UE (fun a=>wOk a/\a.h.Num<=64/\a.h.Kind=4) fun a h=>(RH a h).1
def TZ (w:dZ):Pg (List ah):=.ob (okS w.s/\(∀(v:ah),v∈w.Ey->kV v)/\kG (fun(v:ah)=>1+tV v) w.Ey<=1048576) (.ret [(aKe w.s w.m.Out w.Ey).re])
def ax4 (w:dZ):=(TZ w).val
theorem QU (w:dZ)(h:wOk w/\okS w.s):j_ (TZ w) (fun r=>abT w r):=
 by
 have q:okS w.s/\(∀v∈w.Ey,kV v)/\kG (fun v=>1+tV v) w.Ey<=1048576:=⟨h.2,h.1.1,h.1.2⟩;unfold TZ;simp only[ah.dR];exact ai q (af ⟨lD ⟨(Yf w.s w.m.Out w.Ey q).2.1,(Yf w.s w.m.Out w.Ey q).2.2⟩,by show 1<=67108864;decide,fun _ _=>rfl⟩)
def apP:aZ Z:=E1 [aGm] [] (a1 (aJ fH)) (R1 jO) [] func93 1 TZ (fun a=>wOk a/\okS a.s) fun a h=>(QU a h).1
def aGu:aZ Z:=Nu Z [] 44 [true] func44 eQ
def aIm:aZ Z:=Nu Z [] 44 [false,true] func44 eQ
def aF3:aZ Z:=Nu Z [] 44 [false,false,true] func44 eQ
def aI2:aZ Z:=Nu Z [] 44 [false,false,false] func44 eQ
def apc (c:dF->Prop)(q:dZ->Prop)(W:dZ->List ah)(s:ay)(x:dF)(l:List Str):Pg (List Str×Status):=.ob (okS s) (.lt (uN s) fun b=> .br (b.2 !=0) (.ret ([],Status.mk 11 [])) (.ob (List.length x.Method<=1048576) (.br (!ah7 s x) (.ret ([],Status.mk 11 [])) (.br (x.Kind==5) (.ret ([],Status.mk x.Num [])) (.ob (List.length x.Method<=1048576) (.lt (gX s x.Method) fun e=> .cut (fun(i:dZ)=> .ob (c i.h) (.ob (q i) (.lt (W i) fun d=> aL d (.each false oZ d gQ (fun j m (f:List Str)=> .ix j d.length (.ob (IM b.1/\ig b.1/\gV m.re) (.lt (agw b.1 e.1.Out m.re) fun h=> .br (h.2 !=0) (.ret (.inr ([],Status.mk 11 []))) (.ob (bZ (f.length+1) 16) (rl (f++[h.1])))))) (fun j (f:List Str)=> .ret (f,Status.mk 0 [])) [])))) (aL l (.each false oZ l [] (fun k n (a:dZ)=> .ix k l.length (.ob (ig b.1/\okL wo) (.lt (EK b.1 e.1.Out n wo) fun g=> .br (g.2 !=0) (.ret (.inr (.inr ([],Status.mk 11 [])))) (.ob (bZ (a.Ey.length+1) 128) (rl (dZ.mk a.s a.h a.m (a.Ey++[g.1.re]) a.one)))))) (fun k (a:dZ)=> rl a) (dZ.mk s x e.1 [] !(lV e.1.Shape).2)))))))))
theorem NT {c:dF->Prop}{q:dZ->Prop}{W:dZ->List ah}{s:ay}{x:dF}{l:List Str}(h:okS s/\okN s/\x.Method.length<=1048576/\IQ l)(Y:c x)(Z:ah7 s x=true->¬x.Kind=5->∀y:dZ,y.s=s->y.h=x->wOk y->q y)(hW:∀y,q y->abT y (W y)):j_ (apc c q W s x l) (fun r=>ad6 s x r):=by
 obtain⟨u,Q,A,z⟩:=h;have O:=aDr z;unfold apc;simp only[ah.dR];refine ai u (az fun v8 R=>dM (fun _=>af (NS mi)) (fun p=>ai A (dJ (fun _=>af (NS mi)) (fun m=> ?_))));have m:ah7 s x=true:=by simpa using m
 obtain⟨f1,f2,f3⟩:=PR m;rw[R]at p⊢;have o:=auX u Q p;have g:=ae0 u p;refine dK (fun e=>af (NS (by have:=f1 e;omega))) (fun T=>ai A (az fun b C=> ?_));refine bP (fun y=>y.s=s/\y.h=x/\y.one= !(lV b.1.Shape).2/\wOk y) (bW (dh (fun k y=>(y.s=s/\y.h=x/\y.one= !(lV b.1.Shape).2)/\(∀v∈y.Ey,kV v)/\kG (fun v=>1+tV v) y.Ey<=kG (fun d:Str=>2+8*d.length) (l.take k)/\y.Ey.length=k) ⟨⟨rfl,rfl,rfl⟩,fun v U=>(by cases U),ve _,rfl⟩ au (fun k y j a=> ?_) (fun y a=>af ⟨a.1.1,a.1.2.1,a.1.2.2,a.2.1,?_⟩))) (fun i D=> ?_)
 ·have n:(EK (uN s).1 b.1.Out (l.getD k []) wo).2=0->kV (EK (uN s).1 b.1.Out (l.getD k []) wo).1/\tV (EK (uN s).1 b.1.Out (l.getD k []) wo).1<=1+8*(l.getD k []).length:=(FH (uN s).1 b.1.Out (l.getD k []) wo ⟨g,LV⟩).2;obtain⟨⟨i1,i2,V⟩,K,j2,X⟩:=a;have e:kG (fun d:Str=>2+8*d.length) (l.take (k+1))=kG (fun d:Str=>2+8*d.length) (l.take k)+(2+8*(l.getD k []).length):=qZ (f:=fun d:Str=>2+8*d.length) (d:=[]) j;refine aW au au (ai ⟨g,LV⟩ (az fun v12 P=>dM (fun _=>af (show ad6 s x ([],Status.mk 11 [])from NS mi)) (fun w=> ?_)));rw[<-P]at n;obtain⟨d1,d2⟩:=n w;refine ai (dm au au) (af ⟨⟨i1,i2,V⟩,qJ K (lD d1),?_,?_⟩)
  ·show kG (fun v=>1+tV v) (y.Ey++[_])<=_
   rw[pI,e];show _+(1+tV _+0)<=_
   omega
  ·show(y.Ey++[_]).length=_
   rw[um,X];rfl
 ·have:=a.2.2.1;have w:=axZ z l.length;exact yI this w
 ·obtain⟨I,t,S,M⟩:=D;have G:q i:=Z m T i I t M;have F:abT i (W i):=hW i G;refine ai (by rw[t];exact Y) (ai G (az fun E AZ=> ?_));rw[<-AZ]at F;obtain⟨J,w2,w3⟩:=F;refine bW (dh (fun k (y:List Str)=>(∀d∈y,d.length<=65536)/\y.length=k) ⟨fun d n=>(by cases n),rfl⟩ au (fun k y j a=> ?_) (fun y a=>af ⟨a.1,fun e=>absurd rfl e,fun _ B=> ?_,by have:=a.2;show y.length<=_;omega⟩))
  ·have H:=J _ (getD_mem (d:=gQ) j);have L:=(Gf (uN s).1 b.1.Out (E.getD k gQ) ⟨o,g,H⟩).2;exact aW au au (ai ⟨o,g,H⟩ (az fun v11 N=>dM (fun _=>af (show ad6 s x ([],Status.mk 11 [])from NS mi)) (fun _=>ai (dm (by have:=a.2;omega) (by have:=a.2;omega)) (af ⟨qJ a.1 (lD (by rw[N];exact L)),by have:=a.2;simp only[um,yG,CJ];omega⟩))))
  ·show y.length=1
   have:=a.2;rw[this];refine w3 ?_ ?_
   ·rw[S,C,B];rfl
   ·rw[t];intro e;have:=(f2 e).2;rw[B]at this;cases this
def ava (s:ay)(x:dF)(l:List Str):Pg (List Str×Status):=apc (fun h=>(h.Kind==1)=true/\True) wOk aI5 s x l
def atf (s:ay)(x:dF)(l:List Str):=(ava s x l).val
theorem aac (s:ay)(x:dF)(l:List Str)(h:okS s/\okN s/\x.Method.length<=1048576/\IQ l/\x.Kind=1):j_ (ava s x l) (fun r=>ad6 s x r):=
 by
 obtain⟨c,a,e,d,b⟩:=h;have h:=And.intro c (And.intro a (And.intro e d));exact NT h ⟨beq_iff_eq.2 b,trivial⟩ (fun _ _ y _ _ k=>k) fun y k=>(Z8 y k).2
def aD3:aZ Z:=E1 [v_,XC,vM,Ia,BB,EX,aGu,BF,aAs] [jS 11 (bI (fun b=>[s0 68, .cells (pid (b 15)) [none,none,none,none,none,none,none,none,none,none,none,none,some 78,none]]) (aB cI (l1 fH))),jS 21 (bI (fun b=>[s0 96, .slot 21 false [some 9]]) (aB cI (l1 bV))),jS 100018 (bI (fun b=>[.cells (pid (b 15)) [none,none,none,none,none,none,none,none,none,none,none,none,some 78,none]]) (l1 fH)),jS 800009 (bI (fun b=>[.cells (pid (b 15)) [none,none,none,none,none,none,none,none,none,none,none,none,some 78,none]]) (l1 fH))] (ak (aJ bH) (ak (aJ jR) (a1 (bC bV)))) (shr [s0 0, .slot 1 true [none,none]] (aB bV (l1 jZ))) [] func20 2 (u3 ava) (fun a=>okS a.1/\okN a.1/\a.2.1.Method.length<=1048576/\IQ a.2.2/\a.2.1.Kind=1) fun a h=>(aac a.1 a.2.1 a.2.2 h).1
def avx (s:ay)(x:dF)(l:List Str):Pg (List Str×Status):=apc (fun h=>(h.Kind==1)=false/\(h.Kind==2)=true/\True) (fun y=>wOk y/\okS y.s) ax4 s x l
def atc (s:ay)(x:dF)(l:List Str):=(avx s x l).val
theorem aa0 (s:ay)(x:dF)(l:List Str)(h:okS s/\okN s/\x.Method.length<=1048576/\IQ l/\x.Kind=2):j_ (avx s x l) (fun r=>ad6 s x r):=
 by
 obtain⟨c,b,f,d,a⟩:=h;have h:=And.intro c (And.intro b (And.intro f d));exact NT h ⟨by rw[a];rfl,by rw[a];rfl,trivial⟩ (fun _ _ y e _ k=>⟨k,by rw[e];exact h.1⟩) fun y k=>(QU y k).2
def aD4:aZ Z:=E1 [v_,XC,vM,Ia,BB,EX,aIm,BF,apP] [jS 11 (bI (fun b=>[s0 68, .cells (pid (b 15)) [none,none,none,none,none,none,none,none,none,none,none,none,some 78,none]]) (aB cI (l1 fH))),jS 21 (bI (fun b=>[s0 96, .slot 21 false [some 9]]) (aB cI (l1 bV))),jS 100018 (bI (fun b=>[.cells (pid (b 15)) [none,none,none,none,none,none,none,none,none,none,none,none,some 78,none]]) (l1 fH)),jS 800009 (bI (fun b=>[.cells (pid (b 15)) [none,none,none,none,none,none,none,none,none,none,none,none,some 78,none]]) (l1 fH))] (ak (aJ bH) (ak (aJ jR) (a1 (bC bV)))) (shr [s0 0, .slot 1 true [none,none]] (aB bV (l1 jZ))) [] func20 2 (u3 avx) (fun a=>okS a.1/\okN a.1/\a.2.1.Method.length<=1048576/\IQ a.2.2/\a.2.1.Kind=2) fun a h=>(aa0 a.1 a.2.1 a.2.2 h).1
def asI (s:ay)(x:dF)(l:List Str):Pg (List Str×Status):=apc (fun h=>(h.Kind==1)=false/\(h.Kind==2)=false/\(h.Kind==3)=true/\True) wOk aDJ s x l
def atO (s:ay)(x:dF)(l:List Str):=(asI s x l).val
theorem aat (s:ay)(x:dF)(l:List Str)(h:okS s/\okN s/\x.Method.length<=1048576/\IQ l/\x.Kind=3):j_ (asI s x l) (fun r=>ad6 s x r):=
 by
 obtain⟨c,b,e,d,a⟩:=h;have h:=And.intro c (And.intro b (And.intro e d));exact NT h ⟨by rw[a];rfl,by rw[a];rfl,by rw[a];rfl,trivial⟩ (fun _ _ y _ _ k=>k) fun y k=>(Yr y k).2
def aD2:aZ Z:=E1 [v_,XC,vM,Ia,BB,EX,aF3,BF,axm] [jS 11 (bI (fun b=>[s0 68, .cells (pid (b 15)) [none,none,none,none,none,none,none,none,none,none,none,none,some 78,none]]) (aB cI (l1 fH))),jS 21 (bI (fun b=>[s0 96, .slot 21 false [some 9]]) (aB cI (l1 bV))),jS 100018 (bI (fun b=>[.cells (pid (b 15)) [none,none,none,none,none,none,none,none,none,none,none,none,some 78,none]]) (l1 fH)),jS 800009 (bI (fun b=>[.cells (pid (b 15)) [none,none,none,none,none,none,none,none,none,none,none,none,some 78,none]]) (l1 fH))] (ak (aJ bH) (ak (aJ jR) (a1 (bC bV)))) (shr [s0 0, .slot 1 true [none,none]] (aB bV (l1 jZ))) [] func20 2 (u3 asI) (fun a=>okS a.1/\okN a.1/\a.2.1.Method.length<=1048576/\IQ a.2.2/\a.2.1.Kind=3) fun a h=>(aat a.1 a.2.1 a.2.2 h).1
def ayN (s:ay)(x:dF)(l:List Str):Pg (List Str×Status):=apc (fun h=>(h.Kind==1)=false/\(h.Kind==2)=false/\(h.Kind==3)=false/\True) (fun y=>wOk y/\y.h.Num<=64/\y.h.Kind=4) aw_ s x l
def atu (s:ay)(x:dF)(l:List Str):=(ayN s x l).val
theorem abR (s:ay)(x:dF)(l:List Str)(h:okS s/\okN s/\x.Method.length<=1048576/\IQ l/\(x.Kind≠1/\x.Kind≠2/\x.Kind≠3)):j_ (ayN s x l) (fun r=>ad6 s x r):=
 by
 obtain⟨f,d,i,g,a⟩:=h;have h:=And.intro f (And.intro d (And.intro i g));exact NT h ⟨beq_eq_false_iff_ne.2 a.1,beq_eq_false_iff_ne.2 a.2.1,beq_eq_false_iff_ne.2 a.2.2,trivial⟩ (fun b j y _ e k=>by have c:x.Kind=4:=(by have:=(PR b).2.2;omega);rw[e];exact⟨k,((PR b).2.1 c).1,c⟩) fun y k=>(RH y k).2
def aD5:aZ Z:=E1 [v_,XC,vM,Ia,BB,EX,aI2,BF,apS] [jS 11 (bI (fun b=>[s0 68, .cells (pid (b 15)) [none,none,none,none,none,none,none,none,none,none,none,none,some 78,none]]) (aB cI (l1 fH))),jS 21 (bI (fun b=>[s0 96, .slot 21 false [some 9]]) (aB cI (l1 bV))),jS 100018 (bI (fun b=>[.cells (pid (b 15)) [none,none,none,none,none,none,none,none,none,none,none,none,some 78,none]]) (l1 fH)),jS 800009 (bI (fun b=>[.cells (pid (b 15)) [none,none,none,none,none,none,none,none,none,none,none,none,some 78,none]]) (l1 fH))] (ak (aJ bH) (ak (aJ jR) (a1 (bC bV)))) (shr [s0 0, .slot 1 true [none,none]] (aB bV (l1 jZ))) [] func20 2 (u3 ayN) (fun a=>okS a.1/\okN a.1/\a.2.1.Method.length<=1048576/\IQ a.2.2/\(a.2.1.Kind≠1/\a.2.1.Kind≠2/\a.2.1.Kind≠3)) fun a h=>(abR a.1 a.2.1 a.2.2 h).1
def anP (s:ay)(x:dF)(l:List Str):Prop:=okS s/\okN s/\x.Method.length<=1048576/\IQ l
def Bh (s:ay)(x:dF)(l:List Str):List Str×Status:=bif x.Kind==1 then atf s x l else bif x.Kind==2 then atc s x l else bif x.Kind==3 then atO s x l else atu s x l
def Yy:aZ Z:=⟨20,qj (args (ak (aJ bH) (ak (aJ jR) (a1 (bC bV))))) (shr [s0 0, .slot 1 true [none,none]] (aB bV (l1 jZ))) 2 [] (fun a=>some (anP a.1 a.2.1 a.2.2)) (fun a=>Bh a.1 a.2.1 a.2.2),by
  have c:gZ Z.P Z.S 20 (qj (args (ak (aJ bH) (ak (aJ jR) (a1 (bC bV))))) (shr [s0 0, .slot 1 true [none,none]] (aB bV (l1 jZ))) 2 [] (fun a=>some ((a.2.1.Kind==1)=true/\anP a.1 a.2.1 a.2.2)) (fun a=>atf a.1 a.2.1 a.2.2)):=kQ (fun _=>aD3.ok) _ _ (fun a h=>⟨0,⟨h.2.1,h.2.2.1,h.2.2.2.1,h.2.2.2.2,eq_of_beq h.1⟩,rfl⟩);have d:gZ Z.P Z.S 20 (qj (args (ak (aJ bH) (ak (aJ jR) (a1 (bC bV))))) (shr [s0 0, .slot 1 true [none,none]] (aB bV (l1 jZ))) 2 [] (fun a=>some ((a.2.1.Kind==2)=true/\((a.2.1.Kind==1)=false/\anP a.1 a.2.1 a.2.2))) (fun a=>atc a.1 a.2.1 a.2.2)):=kQ (fun _=>aD4.ok) _ _ (fun a h=>⟨0,⟨h.2.2.1,h.2.2.2.1,h.2.2.2.2.1,h.2.2.2.2.2,eq_of_beq h.1⟩,rfl⟩);have e:gZ Z.P Z.S 20 (qj (args (ak (aJ bH) (ak (aJ jR) (a1 (bC bV))))) (shr [s0 0, .slot 1 true [none,none]] (aB bV (l1 jZ))) 2 [] (fun a=>some ((a.2.1.Kind==3)=true/\((a.2.1.Kind==2)=false/\((a.2.1.Kind==1)=false/\anP a.1 a.2.1 a.2.2)))) (fun a=>atO a.1 a.2.1 a.2.2)):=kQ (fun _=>aD2.ok) _ _ (fun a h=>⟨0,⟨h.2.2.2.1,h.2.2.2.2.1,h.2.2.2.2.2.1,h.2.2.2.2.2.2,eq_of_beq h.1⟩,rfl⟩);have b:gZ Z.P Z.S 20 (qj (args (ak (aJ bH) (ak (aJ jR) (a1 (bC bV))))) (shr [s0 0, .slot 1 true [none,none]] (aB bV (l1 jZ))) 2 [] (fun a=>some ((a.2.1.Kind==3)=false/\((a.2.1.Kind==2)=false/\((a.2.1.Kind==1)=false/\anP a.1 a.2.1 a.2.2)))) (fun a=>atu a.1 a.2.1 a.2.2)):=kQ (fun _=>aD5.ok) _ _ (fun a h=>⟨0,⟨h.2.2.2.1,h.2.2.2.2.1,h.2.2.2.2.2.1,h.2.2.2.2.2.2,beq_eq_false_iff_ne.1 h.2.2.1,beq_eq_false_iff_ne.1 h.2.1,beq_eq_false_iff_ne.1 h.1⟩,rfl⟩);exact JV c (JV d (JV e b))⟩
theorem Zl {s:ay}{x:dF}{l:List Str}(h:anP s x l):ad6 s x (Bh s x l):=by
 obtain⟨c,d,b,a⟩:=h;unfold Bh;cases e:x.Kind==1 with
 | true=>exact(aac s x l ⟨c,d,b,a,eq_of_beq e⟩).2
 | false=>
  cases g:x.Kind==2 with
  | true=>exact(aa0 s x l ⟨c,d,b,a,eq_of_beq g⟩).2
  | false=>
   cases f:x.Kind==3 with
   | true=>exact(aat s x l ⟨c,d,b,a,eq_of_beq f⟩).2
   | false=>exact(abR s x l ⟨c,d,b,a,beq_eq_false_iff_ne.1 e,beq_eq_false_iff_ne.1 g,beq_eq_false_iff_ne.1 f⟩).2
def Xb (s:Server):Prop:=okS s.ay/\okN s.ay/\(∀x∈s.Handlers,x.Method.length<=1048576)/\s.iO.length<=1048576
def Ox (t:gG):Prop:=t.Method.length<=1048576/\IQ t.In
def ams (s:Server)(t:gG)(r:List Str×Status):Prop:=(r.2.Code≠0->r.1=[])/\(r.2.Code=0->(lV (gX s.ay (kD s t.Method).1.Method).1.Shape).2=false->r.1.length=1)/\r.1.length<=67108864
def qB (a:Int)(t:gG):Bool:=(decide (1<=t.fK) && decide (t.fK<=a)) || (t.oC || (t.Ready != -1 && decide (t.Ready<=a)))
def aFg (s:Server)(l:List gG):Server:=Server.mk s.Name s.ay s.Handlers s.iO s.Traces l s.Most s.nX
def outT (s:Server)(t a:gG):Prop:=(a.qy=t.qy/\a.Id=t.Id/\a.Method=t.Method/\a.In=t.In/\a.oC=true/\a.dL=t.dL)/\((a.Status.Code≠0/\a.fQ=t.fQ)\/(a.Status=t.Status/\a.fQ=t.fQ/\t.oC=true)\/(t.oC=false/\t.Ready≠ -1/\ams s t (a.fQ,a.Status)))
inductive SV {A B:Type} (R:A->B->Prop):List A->List B->Prop
 | nil:SV R [] []
 | cons {a b l m}:R a b->SV R l m->SV R (a::l) (b::m)
theorem aqG {A B:Type}{R:A->B->Prop}{l:List A}{m:List B}{a:A}{b:B}(h:SV R l m)(d:R a b):SV R (l++[a]) (m++[b]):=by
 induction h with
 | nil=>exact .cons d .nil
 | cons c _ e=>exact .cons c e
theorem Ym {A B:Type}{R:A->B->Prop}{l:List A}{m:List B}(h:SV R l m):m.length=l.length:=by
 induction h with
 | nil=>rfl
 | cons _ _ a=>simp[a]
def arq (s:Server)(a:Int)(r:Server×List gG):Prop:=r.1=aFg s (s.Tasks.filter fun t=> !qB a t)/\SV (outT s) (s.Tasks.filter (qB a)) r.2
def Di (s:Server)(t:gG):Pg (List Str×Status):=.lt (kD s t.Method) fun f=> .ob (anP s.ay f.1 t.In) (.lt (Bh s.ay f.1 t.In) fun a=> .br (a.2.Code !=0) (.ret ([],a.2)) (.ob (List.length t.Method<=1048576) (aL a.1 (.each false oZ a.1 [] (fun e h (b:List Str)=> .ix e a.1.length (.ob (okS s.ay) (.lt (yJ s.ay (gX s.ay t.Method).1.Out h) fun c=> .br (c.2 !=0) (.ret (.inr ([],Status.mk 11 []))) (.ob (gV c.1.re/\s.iO.length<=1048576) (.lt (adA s.iO s.ay (gX s.ay t.Method).1.Out c.1.re) fun d=> .ob (okS s.ay/\okN s.ay/\gV d.re) (.lt (ajQ s.ay (gX s.ay t.Method).1.Out d.re) fun g=> .br (g.2 !=0) (.ret (.inr ([],Status.mk 11 []))) (.ob (bZ (b.length+1) 16) (rl (b++[g.1]))))))))) (fun e (b:List Str)=> .ret (b,Status.mk 0 [])) []))))
def nT (s:Server)(t:gG):=(Di s t).val
theorem FW (s:Server)(t:gG)(h:Xb s/\Ox t):j_ (Di s t) (fun r=>ams s t r):=
 by
 obtain⟨⟨f,n,H,z⟩,D,C⟩:=h;have m:anP s.ay (kD s t.Method).1 t.In:=⟨f,n,(PQ H).1,C⟩;have p:=Zl m;have a:ams s t ([],Status.mk 11 []):=⟨fun _=>rfl,fun e=>absurd (show(11:Int)=0 from e) mi,ve _⟩;unfold Di;simp only[ah.dR];refine az fun O w=> ?_;rw[w];refine ai m (az fun c x=> ?_);rw[<-x]at p;obtain⟨K,P,F,M⟩:=p;refine dM (fun o=>af ⟨fun _=>rfl,fun e=>absurd e o,ve _⟩) (fun B=>ai D (bW (dh (fun k (y:List Str)=>y.length=k) rfl au (fun k y A g=> ?_) (fun y g=>af ⟨fun e=>absurd rfl e,fun _ E=> ?_,by show y.length<=_;omega⟩))))
 ·have q:(yJ s.ay (gX s.ay t.Method).1.Out (c.1.getD k [])).2=0->kV (yJ s.ay (gX s.ay t.Method).1.Out (c.1.getD k [])).1/\tV (yJ s.ay (gX s.ay t.Method).1.Out (c.1.getD k [])).1<=1+8*(c.1.getD k []).length:=(IR s.ay (gX s.ay t.Method).1.Out (c.1.getD k []) f).2;have N:=K _ (getD_mem (d:=[]) A);refine aW au au (ai f (az fun b l=>dM (fun _=>af a) (fun G=> ?_)));rw[<-l]at q;obtain⟨d1,d2⟩:=q G;have j:gV b.1:=⟨d1,by omega⟩;have i:kV (adA s.iO s.ay (gX s.ay t.Method).1.Out b.1)/\tV (adA s.iO s.ay (gX s.ay t.Method).1.Out b.1)<=tV b.1:=(WX s.iO s.ay (gX s.ay t.Method).1.Out b.1 ⟨j,z⟩).2;refine ai ⟨j,z⟩ (az fun J v=> ?_);rw[<-v]at i;have u:gV J:=⟨i.1,by have Q:=i.2;have L:=j.2;omega⟩;exact ai ⟨f,n,u⟩ (az fun I R=>dM (fun _=>af a) (fun _=>ai (dm au au) (af (by show(y++[I.1]).length=k+1;rw[um,g];rfl))))
 ·show y.length=1
  rw[g];exact F B E
def aeF:aZ Z:=E1 [v_,Yy,FC,Q7,ah0,awq] [jS 8 (bI (fun b=>[s0 48, .slot 12 false [some 9]]) (aB cI (l1 bV)))] (ak (aJ iC) (a1 (aJ Gm))) (shr [s0 0, .slot 1 true [none,none]] (aB bV (l1 jZ))) [] func29 2 (u2 Di) (fun a=>Xb a.1/\Ox a.2) fun a h=>(FW a.1 a.2 h).1
def WZ (s:Server)(c:Int):Pg (Server×List gG):=aL s.Tasks (.each false oZ s.Tasks bF (fun e a (b:List gG×List gG)=> .ix e s.Tasks.length (.lt (b.1++[gG.mk a.qy a.Id a.Method a.dL a.fK a.In a.Ready (nT s a).1 (nT s a).2 true]) fun(g:List gG)=> .lt (b.1++[gG.mk a.qy a.Id a.Method a.dL a.fK a.In a.Ready a.fQ a.Status true]) fun(f:List gG)=> .lt (b.2++[a]) fun(d:List gG)=> .br (decide (1<=a.fK)) (.br (decide (a.fK<=c)) (.ob (bZ (b.1.length+1) 152) (rl (b.1++[gG.mk a.qy a.Id a.Method a.dL a.fK a.In a.Ready a.fQ (Status.mk 3 []) true],b.2))) (.br a.oC (.ob (bZ (b.1.length+1) 152) (rl (f,b.2))) (.br (a.Ready !=(-1)) (.br (decide (a.Ready<=c)) (.ob (Xb s/\Ox a) (.ob (bZ (b.1.length+1) 152) (rl (g,b.2)))) (.ob (bZ (b.2.length+1) 152) (rl (b.1,d)))) (.ob (bZ (b.2.length+1) 152) (rl (b.1,d)))))) (.br a.oC (.ob (bZ (b.1.length+1) 152) (rl (f,b.2))) (.br (a.Ready !=(-1)) (.br (decide (a.Ready<=c)) (.ob (Xb s/\Ox a) (.ob (bZ (b.1.length+1) 152) (rl (g,b.2)))) (.ob (bZ (b.2.length+1) 152) (rl (b.1,d)))) (.ob (bZ (b.2.length+1) 152) (rl (b.1,d))))))) (fun e (b:List gG×List gG)=> .ret (Server.mk s.Name s.ay s.Handlers s.iO s.Traces b.2 s.Most s.nX,b.1)) ([],[]))
def Dv (s:Server)(a:Int):=(WZ s a).val
theorem Jp (s:Server)(b:Int)(h:Xb s/\s.Tasks.length<=1048576/\∀t∈s.Tasks,Ox t):j_ (WZ s b) (fun r=>arq s b r):=
 by
 obtain⟨J,W,S⟩:=h;unfold WZ;refine bW (dh (fun k (y:List gG×List gG)=>y.2=(s.Tasks.take k).filter (fun t=> !qB b t)/\SV (outT s) ((s.Tasks.take k).filter (qB b)) y.1) ⟨rfl, .nil⟩ au (fun k y A u=> ?_) (fun y u=>af ?_))
 ·obtain⟨i,g⟩:=u;have E:=S _ (getD_mem (d:=bF) A);have C:ams s (s.Tasks.getD k bF) (nT s (s.Tasks.getD k bF)):=(FW s (s.Tasks.getD k bF) ⟨J,E⟩).2;have e:=take_snoc (d:=bF) A;have l1:y.1.length<=k:=by
   rw[Ym g];exact yI (Qbv _ _) qbu
  have U:y.2.length<=k:=by
   rw[i];exact yI (Qbv _ _) qbu
  have n:qB b (s.Tasks.getD k bF)=true->∀w,outT s (s.Tasks.getD k bF) w->y.2=(s.Tasks.take (k+1)).filter (fun t=> !qB b t)/\SV (outT s) ((s.Tasks.take (k+1)).filter (qB b)) (y.1++[w]):=fun l w K=>by
   rw[e,Qbn,Qbn];have m:[s.Tasks.getD k bF].filter (fun t=> !qB b t)=[]:=by simp only[Qb7,l,Qbm,Qa8,if_false,Qdo]
   have o:[s.Tasks.getD k bF].filter (qB b)=[s.Tasks.getD k bF]:=by simp only[Qb7,l,if_true,Qdo]
   rw[m,o,Qc4];exact⟨i,aqG g K⟩
  have D:qB b (s.Tasks.getD k bF)=false->y.2++[s.Tasks.getD k bF]=(s.Tasks.take (k+1)).filter (fun t=> !qB b t)/\SV (outT s) ((s.Tasks.take (k+1)).filter (qB b)) y.1:=fun l=>by
   rw[e,Qbn,Qbn];have m:[s.Tasks.getD k bF].filter (fun t=> !qB b t)=[s.Tasks.getD k bF]:=by simp only[Qb7,l,Bool.not_false,if_true,Qdo]
   have o:[s.Tasks.getD k bF].filter (qB b)=[]:=by simp only[Qb7,l,Qa8,if_false,Qdo]
   rw[m,o,Qc4,i];exact⟨rfl,g⟩
  have x:bZ (y.1.length+1) 152:=dm au au;have G:bZ (y.2.length+1) 152:=dm au au;have Q:∀a:gG,a=s.Tasks.getD k bF->1<=a.fK->a.fK<=b->qB b a=true:=fun a _ c f=>by
   unfold qB;rw[rY c,rY f];rfl
  have R:∀a:gG,a.oC=true->qB b a=true:=fun a q=>by
   unfold qB;rw[q];simp
  have L:∀a:gG,¬a.Ready= -1->a.Ready<=b->qB b a=true:=fun a c f=>by
   unfold qB;rw[rY f,bne_iff_ne.2 c];simp
  have nn:∀a:gG,¬(1<=a.fK/\a.fK<=b)->a.oC=false->¬(¬a.Ready= -1/\a.Ready<=b)->qB b a=false:=fun a c f T=>by
   unfold qB;rw[f];have m:(decide (1<=a.fK) && decide (a.fK<=b))=false:=by
    rw[Bool.and_eq_false_iff];by_cases q:1<=a.fK
    ·exact .inr (qM fun v=>c ⟨q,v⟩)
    ·exact .inl (qM q)
   have o:(a.Ready != -1 && decide (a.Ready<=b))=false:=by
    rw[Bool.and_eq_false_iff];by_cases q:a.Ready= -1
    ·exact .inl (by rw[q];rfl)
    ·exact .inr (qM fun v=>T ⟨q,v⟩)
   rw[m,o];rfl
  generalize V:s.Tasks.getD k bF=a at*;refine aW au au (az fun M H=>az fun N I=>az fun F p=> ?_);have P:a.oC=true->outT s a (gG.mk a.qy a.Id a.Method a.dL a.fK a.In a.Ready a.fQ a.Status true):=fun q=>⟨⟨rfl,rfl,rfl,rfl,rfl,rfl⟩, .inr (.inl ⟨rfl,rfl,q⟩)⟩
  have O:a.oC=false->¬a.Ready= -1->outT s a (gG.mk a.qy a.Id a.Method a.dL a.fK a.In a.Ready (nT s a).1 (nT s a).2 true):=fun c f=>⟨⟨rfl,rfl,rfl,rfl,rfl,rfl⟩, .inr (.inr ⟨c,f,C⟩)⟩
  have j:¬(1<=a.fK/\a.fK<=b)->j_ (Pg.br a.oC (.ob (bZ (y.1.length+1) 152) (rl (N,y.2))) (.br (a.Ready !=(-1)) (.br (decide (a.Ready<=b)) (.ob (Xb s/\Ox a) (.ob (bZ (y.1.length+1) 152) (rl (M,y.2)))) (.ob (bZ (y.2.length+1) 152) (rl (y.1,F)))) (.ob (bZ (y.2.length+1) 152) (rl (y.1,F))))) (Sum.elim (fun(y:List gG×List gG)=>y.2=(s.Tasks.take (k+1)).filter (fun t=> !qB b t)/\SV (outT s) ((s.Tasks.take (k+1)).filter (qB b)) y.1) (fun r=>arq s b r)):=fun B=>by
   refine dJ (fun q=>ai x (af ?_)) (fun q=>dM (fun c=>bG (fun f=>ai ⟨J,E⟩ (ai x (af ?_))) (fun f=>ai G (af ?_))) (fun c=>ai G (af ?_)))
   ·rw[I];exact n (R a q) _ (P q)
   ·rw[H];exact n (L a c f) _ (O q c)
   ·rw[p];exact D (nn a B q fun z=>f z.2)
   ·rw[p];exact D (nn a B q fun z=>z.1 c)
  exact bG (fun c=>bG (fun f=>ai x (af (n (Q a rfl c f) _ ⟨⟨rfl,rfl,rfl,rfl,rfl,rfl⟩, .inl ⟨by show(3:Int)≠0;decide,rfl⟩⟩))) (fun f=>j fun z=>f z.2)) (fun c=>j fun z=>c z.1)
 ·obtain⟨i,g⟩:=u;rw[Kr]at i g;exact⟨by rw[i];rfl,g⟩
def ahr:aZ Z:=E1 [aeF] [jS 3 (bI (fun b=>[s0 13, .slot 6 false [some 102], .slot 7 false [some 102]]) (aB cI (aB wQ (l1 wQ))))] (ak (aJ iC) (a1 (bC cI))) (shr [.slot 0 true (nn 10), s0 1] (aB iC (l1 wQ))) [] func11 2 (u2 WZ) (fun a=>Xb a.1/\a.1.Tasks.length<=1048576/\∀t∈a.1.Tasks,Ox t) fun a h=>(Jp a.1 a.2 h).1
def abp (s:ay)(a:List dF)(l:List jA):Prop:=okS s/\(∀x∈a,x.Method.length<=1048576)/\Iw l/\a.length<=1048576/\l.length<=1048576
def ayM (d:Str)(s:ay)(a:List dF)(l:List jA)(c:Int):Pg (Server×Int):=.br (!azV d) (.ret (Server.mk [] (ay.mk [] [] []) [] [] [] [] 0 false,8)) (.ob (okS s) (.br (!oI s) (.ret (Server.mk [] (ay.mk [] [] []) [] [] [] [] 0 false,1)) (.br (decide (c < 1)) (.ret (Server.mk [] (ay.mk [] [] []) [] [] [] [] 0 false,1)) (.br (decide (64 < c)) (.ret (Server.mk [] (ay.mk [] [] []) [] [] [] [] 0 false,1)) (.cut (fun(w:Unit)=> .cut (fun(v:Unit)=> .cut (fun(x:Unit)=> .ob (Iw l) (.lt (aGK l) fun h=> .br (h !=0) (.ret (Server.mk [] (ay.mk [] [] []) [] [] [] [] 0 false,h)) (aL a (.each false uj a lm (fun e f (m:Unit)=> .ix e a.length (.ob (List.length f.Method<=1048576) (.br (!ah7 s f) (.ret (.inr (Server.mk [] (ay.mk [] [] []) [] [] [] [] 0 false,12))) (rl ())))) (fun e (m:Unit)=> .ob (bZ (0+a.length) 40) (.ob (bZ (0+l.length) 56) (.ret (Server.mk d s a l [] [] c false,0)))) ())))) (aL a (.each false uj a lm (fun b i (u:Unit)=> .ix b a.length (.ob ((0:Int)<=0/\0<=b/\b<=(↑a.length:Int)) (.as ((List.take b.toNat a).length<=9223372036854775807) (.each false uj (List.take b.toNat a) lm (fun g j (k:Unit)=> .ix g (List.take b.toNat a).length (.br (i.Method==j.Method) (.ret (.inr (.inr (.inr (Server.mk [] (ay.mk [] [] []) [] [] [] [] 0 false,9))))) (rl ()))) (fun g (k:Unit)=> rl ()) ())))) (fun b (u:Unit)=> rl ()) ()))) (aL a (.each false uj a lm (fun p n (q:Unit)=> .ix p a.length (.ob (List.length n.Method<=1048576) (.br ((gX s n.Method).2 !=0) (.ret (.inr (.inr (Server.mk [] (ay.mk [] [] []) [] [] [] [] 0 false,10)))) (rl ())))) (fun p (q:Unit)=> rl ()) ()))) (aL a (.each false uj a lm (fun o r (t:Unit)=> .ix o a.length (.br (!TK r) (.ret (.inr (.inr (Server.mk [] (ay.mk [] [] []) [] [] [] [] 0 false,1)))) (rl ()))) (fun o (t:Unit)=> rl ()) ())))))))
def amm (b:Str)(s:ay)(c:List dF)(l:List jA)(a:Int):=(ayM b s c l a).val
theorem aCx (a:Str)(s:ay)(c:List dF)(l:List jA)(b:Int)(h:abp s c l):Is (ayM a s c l b):=
 aT iR (fun _=>aY (h.1) (aT iR (fun _=>dB iR (fun _=>dB iR (fun _=>kX (gp fun _=>gU (.inr au) (fun w i _ _=>b_ au au (aT iR iR)) (fun i _=>aQ)) (fun u m=>kX (gp fun _=>gU (.inr au) (fun y g _ _=>b_ au au (aY ((h.2.1 _ (getD_mem (d:=lm) au))) (iW iR iR))) (fun g _=>aQ)) (fun t n=>kX (gp fun _=>gU (.inr au) (fun v j _ _=>b_ au au (aY au (gp fun _=>gU (.inr au) (fun q e _ _=>b_ au au (aT iR iR)) (fun e _=>aQ)))) (fun j _=>aQ)) (fun x k=>aY (h.2.2.1) (dI fun r o=>iW iR (fun _=>gp fun _=>gU (.inr au) (fun p f _ _=>b_ au au (aY ((h.2.1 _ (getD_mem (d:=lm) au))) (aT iR iR))) (fun f _=>aY qcm (aY qcm (aQ)))))))))))))
def asz:aZ Z:=E1 [aym,ahi,ahC,v_,aCN,XC] [jS 6 (bI (fun b=>[s0 43]) (l1 cI)),jS 12 (bI (fun b=>[s0 54]) (l1 cI)),jS 19 (bI (fun b=>[s0 71]) (l1 cI)),jS 22 (bI (fun b=>[s0 80]) (l1 cI)),jS 32 (bI (fun b=>[s0 100]) (l1 cI)),jS 100011 (bI (fun b=>[]) l0),jS 100018 (bI (fun b=>[]) l0),jS 100028 (bI (fun b=>[]) l0)] (ak (bC cStr) (ak (aJ bH) (ak (bC wJ) (ak (bC rC) (a1 (bC cI)))))) (shr [.slot 0 true (nn 10), s0 1] (aB iC (l1 cI))) [] func6 2 (fun a=>ayM a.1 a.2.1 a.2.2.1 a.2.2.2.1 a.2.2.2.2) (fun a=>abp a.2.1 a.2.2.1 a.2.2.2.1) fun a h=>aCx a.1 a.2.1 a.2.2.1 a.2.2.2.1 a.2.2.2.2 h
def few (x:iH):Pg Bool:=.br (decide ((↑x.1.Messages.length:Int)<=8)) (.br (decide ((↑x.1.Enums.length:Int)<=8)) (.br (decide ((↑x.1.dQ.length:Int)<=8)) (.br (decide ((↑x.H.length:Int)<=8)) (.ret (decide ((↑x.L.length:Int)<=8))) (.ret false)) (.ret false)) (.ret false)) (.ret false)
def aLk (x:iH):=(few x).val
def aKs:aZ Z:=E0 [] [] (a1 (aJ qV)) (R1 aG) [] func4 1 few
def acy (l:List fA):Pg Bool:=.br (decide (40 < (↑l.length:Int))) (.ret false) (.each true uj l kH (fun a b (c:Unit)=> .ix a l.length (.br (decide (3000 < (↑(List.length b.Data):Int))) (.ret (.inr false)) (.ix a l.length (.br (decide (40 < (↑b.H.dL.length:Int))) (.ret (.inr false)) (.ix a l.length (.br (decide (b.Now < 0)) (.ret (.inr false)) (.ix a l.length (.br (decide (1099511627776 < b.Now)) (.ret (.inr false)) (rl ()))))))))) (fun a (c:Unit)=> .ret true) ())
def amu (l:List fA):=(acy l).val
def av8:aZ Z:=E0 [] [jS 4 (bI (fun b=>[s0 3]) (l1 cI))] (a1 (bC rX)) (R1 aG) [] func5 1 acy
theorem aAq {name:Str}{s:ay}{hs:List dF}{l:List jA}{most:Int}(h:(amm name s hs l most).2=0):(amm name s hs l most).1=Server.mk name s hs l [] [] most false/\oI s=true/\1<=most/\∀y∈hs,(gX s y.Method).2=0:=by
 have k:VP (ayM name s hs l most) (fun r=>r.2=0->r.1=Server.mk name s hs l [] [] most false/\oI s=true/\1<=most/\∀j,j < hs.length->(gX s (hs.getD j lm).Method).2=0):=by
  unfold ayM;have a:∀(c:Int) {p:Prop},c≠0->(c=0->p):=fun c _ h e=>absurd e h
  refine fD (fun _=>a_ (a 8 mi)) fun _=>fO (fD (fun _=>a_ (a 1 mi)) fun w=>fD (fun _=>a_ (a 1 mi)) fun n=>fD (fun _=>a_ (a 1 mi)) fun _=>kz (fun _=>True) ?_ fun _ _=>kz (fun _=>∀j,j < hs.length->(gX s (hs.getD j lm).Method).2=0) ?_ fun _ q=>kz (fun _=>True) ?_ fun _ _=>fO (oQ fun m A=>fD (fun e=>a_ (a m (bne_iff_ne.1 e))) fun _=>qK (lF (fun _ _=>True) trivial (fun k y b _=>oP (fO (fD (fun _=>a_ (a 12 mi)) fun _=>a_ trivial))) fun y _=>fO (fO (a_ fun _=>⟨rfl,by simpa using w,by have:=Qbz n;omega,q⟩)))))
  ·exact qK (lF (fun _ _=>True) trivial (fun k y b _=>oP (fD (fun _=>a_ (a 1 mi)) fun _=>a_ trivial)) fun y _=>a_ trivial)
  ·refine qK (lF (fun k _=>∀j,j < k->(gX s (hs.getD j lm).Method).2=0) (fun j f=>absurd f au) (fun k y b g=>oP (fO (fD (fun _=>a_ (a 10 mi)) fun e=>a_ fun j f=> ?_))) fun y g=>a_ g);rcases Nat.lt_or_ge j k with i | z
   ·exact g j i
   ·rw[show j=k by omega];simpa using e
  ·exact qK (lF (fun _ _=>True) trivial (fun k y b _=>oP (fO (qK (lF (fun _ _=>True) trivial (fun k y b _=>oP (fD (fun _=>a_ (a 9 mi)) fun _=>a_ trivial)) fun y _=>a_ trivial)))) fun y _=>a_ trivial)
 obtain⟨o,x,u,t⟩:=k h;refine⟨o,x,u,fun y v=> ?_⟩;obtain⟨j,f,e⟩:=Ik (d:=lm) v;rw[<-e];exact t j f
def afs (a:fA):Prop:=a.Data.length<=3000/\a.H.dL.length<=40/\0<=a.Now/\a.Now<=1099511627776
theorem aCt {l:List fA}(h:amu l=true):l.length<=40/\∀a∈l,afs a:=by
 have k:VP (acy l) (fun r=>r=true->l.length<=40/\∀j,j < l.length->afs (l.getD j kH)):=by
  unfold acy;have b:∀{p:Prop},(false=true->p):=fun e=>by cases e
  refine fD (fun _=>a_ b) fun q=>lF (fun k _=>∀j,j < k->afs (l.getD j kH)) (fun j c=>absurd c au) (fun k y w f=>oP (fD (fun _=>a_ b) fun o=>oP (fD (fun _=>a_ b) fun m=>oP (fD (fun _=>a_ b) fun n=>oP (fD (fun _=>a_ b) fun g=>a_ fun j c=> ?_))))) fun y f=>a_ fun _=>⟨by have:=Qbz q;omega,f⟩;have o:=Qbz o;have m:=Qbz m;have n:=Qbz n;have g:=Qbz g;rcases Nat.lt_or_ge j k with i | v
  ·exact f j i
  ·rw[show j=k by omega];exact⟨by omega,by omega,by omega,by omega⟩
 obtain⟨s,u⟩:=k h;refine⟨s,fun a t=> ?_⟩;obtain⟨j,c,e⟩:=Ik (d:=kH) t;rw[<-e];exact u j c
theorem aHM {x:iH}(h:aLk x=true):x.1.Messages.length<=8/\x.1.Enums.length<=8/\x.1.dQ.length<=8/\x.H.length<=8/\x.L.length<=8:=by
 have k:VP (few x) (fun r=>r=true->x.1.Messages.length<=8/\x.1.Enums.length<=8/\x.1.dQ.length<=8/\x.H.length<=8/\x.L.length<=8):=by
  unfold few;have a:∀{p:Prop},(false=true->p):=fun e=>by cases e
  refine fD (fun f=>fD (fun g=>fD (fun d=>fD (fun b=>a_ fun c=> ?_) fun _=>a_ a) fun _=>a_ a) fun _=>a_ a) fun _=>a_ a;have f:=Eh f;have g:=Eh g;have d:=Eh d;have b:=Eh b;have c:=Eh c;omega
 exact k h
def aNi (s:Server)(c i:Int)(r:Server):Prop:=(jP s c i < 0/\r=s)\/∃v:Nat,v < s.Tasks.length/\jP s c i=v/\r=Server.mk s.Name s.ay s.Handlers s.iO s.Traces (s.Tasks.take v++s.Tasks.drop (v+1)) s.Most s.nX
def ES (s:Server):Server:=Server.mk s.Name s.ay s.Handlers s.iO s.Traces s.Tasks s.Most true
theorem abm (s:Server):Nl s=ES s:=by
 unfold Nl adE ES;simp only[aI]
def aJ9 (s:Server)(a:fA)(r:Server×Status×List gG):Prop:=
 (a.Kind.tmod 7=0/\aJ_ s a.qy a.Id (r.1,r.2.1)/\r.2.2=[])\/((a.Kind.tmod 7=1\/a.Kind.tmod 7=2)/\stepT s a.qy a.Id r.1 (atg s a.Data)/\r.2.2=[])\/(a.Kind.tmod 7=3/\stepT s a.qy a.Id r.1 (aA6 s)/\r.2.2=[])\/
 (a.Kind.tmod 7=4/\aNi s a.qy a.Id r.1/\r.2.2=[])\/(a.Kind.tmod 7=5/\arq s a.Now (r.1,r.2.2))\/((a.Kind.tmod 7≠0/\a.Kind.tmod 7≠4)/\r.1=ES s/\r.2.2=[])
def aeo (s:Server)(a:fA):Prop:=yw s/\(∀x∈s.Handlers,x.Method.length<=1048576)/\Iw s.iO/\s.iO.length<=100/\okT s.Traces/\a.H.dL.length<=40/\a.H.bQ.length+a.H.Method.length<=4194304/\∀t∈s.Tasks,Ox t
def anY (s:Server)(a:fA):Pg (Server×Status×List gG):=.ob ((7:Int)≠0) (.br (a.Kind.tmod (7:Int)==0) (.ob (yw s/\ (∀(x:dF),x∈s.Handlers->List.length x.Method<=1048576)/\ Iw s.iO/\s.iO.length<=100/\okT s.Traces/\a.H.dL.length<=40/\List.length a.H.bQ+List.length a.H.Method<=4194304) (.lt (KH s a.Now a.qy a.Id a.H a.Shape) fun c=> .ret (c.1,c.2,[]))) (.cut (fun(d:Bool)=> .br d (.ob (yw s) (.ret (akd s a.qy a.Id a.Data,Status.mk 0 [],[]))) (.br (a.Kind.tmod (7:Int)==3) (.ob (yw s) (.ret (aFU s a.Now a.qy a.Id,Status.mk 0 [],[]))) (.br (a.Kind.tmod (7:Int)==4) (.ob (yw s) (.ret (aqf s a.qy a.Id,Status.mk 0 [],[]))) (.br (a.Kind.tmod (7:Int)==5) (.ob (Xb s/\s.Tasks.length<=1048576/\∀(t:gG),t∈s.Tasks->Ox t) (.lt (Dv s a.Now) fun b=> .ret (b.1,Status.mk 0 [],b.2))) (.ret (Nl s,Status.mk 0 [],[])))))) (.br (a.Kind.tmod (7:Int)==1) (rl (a.Kind.tmod (7:Int)==1)) (rl (a.Kind.tmod (7:Int)==2)))))
def aGF (s:Server)(a:fA):=(anY s a).val
theorem aaP (s:Server)(a:fA)(h:aeo s a):j_ (anY s a) (fun r=>aJ9 s a r):=
 by
 obtain⟨a0,a1,a2,c,g,k,j,i⟩:=h;unfold anY;refine ai mi (dK (fun e=>ai ⟨a0,a1,a2,c,g,k,j⟩ (az fun t d=>af (.inl ⟨e,?_,rfl⟩))) (fun m=>bP (fun y=>y=true->(a.Kind.tmod 7=1\/a.Kind.tmod 7=2)) (dJ (fun _=>af fun h=> .inl (eq_of_beq h)) (fun _=>af fun h=> .inr (eq_of_beq h))) (fun y p=>dJ (fun f=>ai a0 (af (.inr (.inl ⟨p f,(IP s a.qy a.Id a.Data a0).2,rfl⟩))))
  (fun f=>dK (fun n=>ai a0 (af (.inr (.inr (.inl ⟨n,(abL s a.Now a.qy a.Id a0).2,rfl⟩))))) (fun _=>dK (fun b=>ai a0 (af (.inr (.inr (.inr (.inl ⟨b,(MR s a.qy a.Id a0).2,rfl⟩)))))) (fun b=>dK (fun o=>ai ⟨⟨a0.1,a0.2.1,a1,by omega⟩,a0.2.2.1,i⟩ (az fun q l=>af (.inr (.inr (.inr (.inr (.inl ⟨o,?_⟩))))))) (fun _=>af (.inr (.inr (.inr (.inr (.inr ⟨⟨m,b⟩,abm s,rfl⟩))))))))))))
 ·rw[d];exact(QW s a.Now a.qy a.Id a.H a.Shape ⟨a0,a1,a2,c,g,k,j⟩).2
 ·rw[l];exact(Jp s a.Now ⟨⟨a0.1,a0.2.1,a1,by omega⟩,a0.2.2.1,i⟩).2
def aAj:aZ Z:=E1 [abv,aa5,ahr,agp,aBT,aiV] [jS 100007 (bI (fun b=>[s0 33]) (l1 aG))] (ak (aJ iC) (a1 (aJ xB))) (shr [.slot 0 true (nn 10), .slot 1 true [none,none], s0 2] (aB iC (aB jZ (l1 wQ)))) [] func8 3 (u2 anY) (fun a=>aeo a.1 a.2) fun a h=>(aaP a.1 a.2 h).1
theorem az7 {s:ay}{v:bQ}(h:Q8 s v=[]){i:Nat}(f:i < v.Methods.length):1<=(v.Methods.getD i fG).Shape/\(v.Methods.getD i fG).Shape<=4:=by
 have k:VP (ap6 s v) (fun r=>r=[]->∀i,i < v.Methods.length->1<=(v.Methods.getD i fG).Shape/\(v.Methods.getD i fG).Shape<=4):=by
  unfold ap6;refine fO (fO (oQ fun m _=>fO (qK (lF (fun n y=>y.out=[]->∀j,j < n->1<=(v.Methods.getD j fG).Shape/\(v.Methods.getD j fG).Shape<=4) (fun _ j d=>absurd d au) (fun k y g b=> ?_) (fun y b=>fO (a_ fun h=>b (show(ax.mk y.rP (-1) y.out).out=[]from Ic h)))))));have c:y.out=[]->(1<=(v.Methods.getD k fG).Shape/\(v.Methods.getD k fG).Shape<=4)->∀j,j < k+1->1<=(v.Methods.getD j fG).Shape/\(v.Methods.getD j fG).Shape<=4:=fun l p j d=>by
   grind
  repeat' first
   | refine fO ?_
   | refine oP ?_
   | refine oQ fun _ o=> ?_
   | refine fD (fun e=> ?_) (fun e=> ?_)
   | refine a_ fun h=> ?_
  all_goals (subst_vars;have a:=jm (Ic h))
  all_goals first
   | exact absurd a.1 mi
   | exact c (jm (jm (jm a.2).2).2).2 ⟨Eh (by assumption),Eh a.1⟩
 exact k h i f
theorem auK {s:ay}(h:YD s=[]){v:bQ}(b:v∈s.dQ):Q8 s v=[]:=by
 have k:VP (af9 s) (fun r=>r=[]->∀i,i < s.dQ.length->Q8 s (s.dQ.getD i lu)=[]):=by
  unfold af9;refine fO (oQ fun j _=>kz (fun _=>True) ?_ fun o _=>kz (fun _=>True) (fO (a_ trivial)) fun p _=>fO (kz (fun _=>True) ?_ fun g _=>kz (fun _=>True) ?_ fun l _=> ?_))
  ·repeat' first
    | exact a_ trivial
    | refine fO ?_
    | refine oQ fun _ _=> ?_
    | refine kz (fun _=>True) ?_ fun _ _=> ?_
  ·exact qK (lF (fun _ _=>True) trivial (fun k y f a=>oP (fO (oQ fun v b=>fO (a_ trivial)))) (fun y a=>a_ trivial))
  ·exact qK (lF (fun _ _=>True) trivial (fun k y f a=>oP (fO (oQ fun v b=>fO (a_ trivial)))) (fun y a=>a_ trivial))
  ·refine qK (lF (fun n y=>y.out=[]->∀i,i < n->Q8 s (s.dQ.getD i lu)=[]) (fun _ i c=>absurd c au) (fun k y f a=>oP (fO (oQ fun m b=>fO (a_ fun h=> ?_)))) (fun y a=>a_ a));intro i c;obtain⟨q,t⟩:=Qc2.1 h
   grind
 obtain⟨i,c,e⟩:=Ik (d:=lu) b;rw[<-e];exact k h i c
theorem ar4 {s:ay}(h:oI s=true){v:bQ}(f:v∈s.dQ){m:fC}(a:m∈v.Methods):1<=m.Shape/\m.Shape<=4:=by
 have e:YD s=[]:=by
  unfold oI Vl at h;simp_all
 obtain⟨i,c,b⟩:=Ik (d:=fG) a;rw[<-b];exact az7 (auK e f) c
theorem aIB {l:List bQ}{n:Str}(h:(aBA l n).2=true):(aBA l n).1∈l:=by
 have k:VP (fsS l n) (fun r=>r.2=true->r.1∈l):=by
  unfold fsS;exact qK (lF (fun _ _=>True) trivial (fun k y a _=>oP (fD (fun _=>a_ fun _=>getD_mem a) fun _=>a_ trivial)) fun y _=>a_ fun e=>by cases e)
 exact k h
theorem aIu {l:List fC}{n:Str}(h:(aHl l n).2=true):(aHl l n).1∈l:=by
 have k:VP (fsW l n) (fun r=>r.2=true->r.1∈l):=by
  unfold fsW;exact qK (lF (fun _ _=>True) trivial (fun k y a _=>oP (fD (fun _=>a_ fun _=>getD_mem a) fun _=>a_ trivial)) fun y _=>a_ fun e=>by cases e)
 exact k h
theorem akc {s:ay}{p:Str}(l:oI s=true)(h:(gX s p).2=0):1<=(gX s p).1.Shape/\(gX s p).1.Shape<=4:=by
 have d:VP (Uz s p) (fun r=>r.2=true->1<=r.1.Shape/\r.1.Shape<=4):=by
  unfold Uz;refine fO (oQ fun f _=>fD (fun _=>a_ fun e=>by cases e) fun _=>oQ fun g i=>fD (fun _=>a_ fun e=>by cases e) fun a=>a_ fun e=> ?_);have j:abI s f.1=aBA s.dQ f.1:=rfl;rw[i,j]at a e⊢;exact ar4 l (aIB (by simpa using a)) (aIu e)
 have k:VP (agL s p) (fun r=>r.2=0->1<=r.1.Shape/\r.1.Shape<=4):=by
  unfold agL;have b:∀(c:Int) {p:Prop},c≠0->(c=0->p):=fun c _ h e=>absurd e h
  refine fO (oQ fun f _=>fD (fun _=>a_ (b 2 mi)) fun _=>fO (fD (fun _=>a_ (b 2 mi)) fun _=>fD (fun _=>a_ (b 2 mi)) fun _=>fO (oQ fun g i=>fD (fun _=>a_ (b 10 mi)) fun a=>a_ fun _=> ?_)));show 1<=g.1.Shape/\g.1.Shape<=4
  rw[i]at a⊢;exact d (show(aft s p).2=true by simpa using a)
 exact k h
theorem counts_of {n:Int}(h:1<=n/\n<=4):((lV n).2=false->(lQ n).2.2=(1,1))/\((lV n).2=true->(lQ n).2.2=(0,-1)):=by
 obtain rfl | rfl | rfl | rfl:n=1\/n=2\/n=3\/n=4:=by omega
 ·exact⟨fun _=>rfl,fun e=>absurd (show false=true from e) mi⟩
 ·exact⟨fun e=>absurd (show true=false from e) mi,fun _=>rfl⟩
 ·exact⟨fun _=>rfl,fun e=>absurd (show false=true from e) mi⟩
 ·exact⟨fun e=>absurd (show true=false from e) mi,fun _=>rfl⟩
theorem akN {s:Server}{p:Str}(h:(kD s p).2=true):(kD s p).1∈s.Handlers/\(kD s p).1.Method=p:=by
 have k:VP (vS s p) (fun r=>r.2=true->r.1∈s.Handlers/\r.1.Method=p):=by
  unfold vS;exact qK (lF (fun _ _=>True) trivial (fun k y a _=>oP (fD (fun e=>a_ fun _=>⟨getD_mem a,eq_of_beq e⟩) fun _=>a_ trivial)) fun y _=>a_ fun e=>by cases e)
 exact k h
theorem akt {s a:Server}(h:s.Handlers=a.Handlers)(p:Str):kD s p=kD a p:=by unfold kD vS;rw[h]
def EM (s:Server)(t:gG):Prop:=t.fQ=[]/\(t.oC=true->t.Status.Code≠0)/\(0<=moT s t->(t.In.length:Int)<=moT s t)/\(t.Ready≠ -1->leT s t<=(t.In.length:Int))/\(kD s t.Method).2=true
theorem asn {s a:Server}{t:gG}(b:a.ay=s.ay)(c:a.Handlers=s.Handlers)(h:EM s t):EM a t:=by
 unfold EM leT moT at*;rw[b,akt c];exact h
theorem DD {s:Server}{t a:gG}(c:af_ t a)(d:a.In.length=t.In.length\/(a.In.length=t.In.length+1/\(0<=moT s t->(t.In.length:Int) < moT s t)))(g:a.fQ=t.fQ)(l:a.oC=true->a.Status.Code≠0)(f:a.Ready≠ -1->t.Ready≠ -1\/leT s t<=(t.In.length:Int))(h:EM s t):EM s a:=by
 obtain⟨o,q,n,i,m⟩:=h;have j:moT s a=moT s t:=by unfold moT;rw[c.2.2.1]
 have p:leT s a=leT s t:=by unfold leT;rw[c.2.2.1]
 refine⟨g.trans o,l,fun b=> ?_,fun b=> ?_,by rw[c.2.2.1];exact m⟩
 ·rw[j]at b⊢;have:=n b;rcases d with e | ⟨e,k⟩
  ·omega
  ·have:=k b;omega
 ·rw[p];have:leT s t<=(t.In.length:Int):=(f b).elim i id;rcases d with e | ⟨e,_⟩<;>omega
def an8 (s:ay)(t:gG):Prop:=(t.Status.Code≠0->t.fQ.length=0)/\(0<=(lQ (gX s t.Method).1.Shape).2.1->(t.In.length:Int)<=(lQ (gX s t.Method).1.Shape).2.1)/\(0<=(lQ (gX s t.Method).1.Shape).2.2.2->(t.fQ.length:Int)<=(lQ (gX s t.Method).1.Shape).2.2.2)/\(t.Status.Code=0->(lQ (gX s t.Method).1.Shape).1<=(t.In.length:Int)/\(lQ (gX s t.Method).1.Shape).2.2.1<=(t.fQ.length:Int))
theorem ayQ {s:Server}{t a:gG}(q:oI s.ay=true)(C:∀y∈s.Handlers,(gX s.ay y.Method).2=0)(h:EM s t)(i:outT s t a):an8 s.ay a/\(gX s.ay a.Method).2=0:=by
 obtain⟨A,E,g,o,x⟩:=h;obtain⟨⟨_,_,r,w,_⟩,i⟩:=i;obtain⟨D,B⟩:=akN x;have m:(gX s.ay t.Method).2=0:=by grind
 obtain⟨z,v⟩:=counts_of (akc q m);have u:∀l:Int,l=0->0<=(lQ (gX s.ay t.Method).1.Shape).2.2.2->l<=(lQ (gX s.ay t.Method).1.Shape).2.2.2:=fun l e h=>by omega
 unfold an8;rw[r,w];refine⟨?_,m⟩;have j:a.fQ=t.fQ->a.fQ.length=0:=fun e=>by rw[e,A];rfl
 have bad:a.Status.Code≠0->a.fQ.length=0->(a.Status.Code≠0->a.fQ.length=0)/\(0<=moT s t->(t.In.length:Int)<=moT s t)/\(0<=(lQ (gX s.ay t.Method).1.Shape).2.2.2->(a.fQ.length:Int)<=(lQ (gX s.ay t.Method).1.Shape).2.2.2)/\(a.Status.Code=0->leT s t<=(t.In.length:Int)/\(lQ (gX s.ay t.Method).1.Shape).2.2.1<=(a.fQ.length:Int)):=fun b p=>⟨fun _=>p,g,u _ au,fun e=>absurd e b⟩
 rcases i with⟨d,c⟩ | ⟨d,c,n⟩ | ⟨d,c,n⟩
 ·exact bad d (j c)
 ·exact bad rf (j c)
 ·obtain⟨a1,a2,_⟩:=n;have a1:a.Status.Code≠0->a.fQ=[]:=a1;by_cases b:a.Status.Code=0
  ·have a2:=a2 b;rw[B]at a2;cases f:(lV (gX s.ay t.Method).1.Shape).2 with
   | false=>
    have e:=z f;have k:a.fQ.length=1:=a2 f;rw[e];exact⟨fun h=>absurd b h,g,fun _=>by rw[k];decide,fun _=>⟨o c,by rw[k];decide⟩⟩
   | true=>
    have e:=v f;rw[e];exact⟨fun h=>absurd b h,g,fun h=>absurd h mi,fun _=>⟨o c,Int.natCast_nonneg _⟩⟩
  ·exact bad b (by rw[a1 b];rfl)
def okD (x:iH):Prop:=((∀m∈x.1.Messages,okM m)/\(∀e∈x.1.Enums,okE e)/\∀v∈x.1.dQ,Yi v)/\okN x.1/\(∀y∈x.H,y.Method.length<=1048576)/\Iw x.L
def aHm (l:List fA):Prop:=∀a∈l,a.H.bQ.length+a.H.Method.length<=4194304
def RY (k:Nat)(t:gG):Prop:=t.Method.length<=1048576/\(t.In.length<=k/\∀d∈t.In,d.length<=3000)/\(t.Ready= -1\/(0<=t.Ready/\t.Ready<=1099511627776))/\t.dL.length<=40
def SE (x:iH)(k:Nat)(s:Server):Prop:=(s.ay=x.1/\s.Handlers=x.H/\s.iO=x.L)/\EO k s.Traces/\s.Tasks.length<=k/\(∀t∈s.Tasks,RY k t/\EM s t)/\(s.Tasks.length:Int)<=s.Most/\s.Most=x.Most
theorem auF {k m:Nat}{t:gG}(h:RY k t)(a:k<=m):RY m t:=⟨h.1,⟨yI h.2.1.1 a,h.2.1.2⟩,h.2.2⟩
theorem apz {k m:Nat}{t:List Trace}(h:EO k t)(a:k<=m):EO m t:=⟨yI h.1 a,fun x b=>yI (h.2 x b) a⟩
theorem aGc {A:Type}{f:A->Nat}{c:Nat}{l:List A}(h:∀x∈l,f x<=c):kG f l<=c*l.length:=by
 induction l with
 | nil=>exact ve _
 | cons a l d=>
  have e:=h a qb;have g:=d fun x b=>h x (by simp[b])
  simp only[kG,yG,Nat.mul_add,Qdz];omega
theorem aCl {k:Nat}{t:gG}(h:RY k t)(b:k<=41):Ox t:=by
 refine⟨h.1,?_⟩;have q:kG (fun d:Str=>2+8*d.length) t.In<=24002*t.In.length:=aGc fun d a=>by have:=h.2.1.2 d a;omega
 have:=h.2.1.1;unfold IQ;omega
def aIH (x:iH):Prop:=x.1.Messages.length<=8/\x.1.Enums.length<=8/\x.1.dQ.length<=8/\x.H.length<=8/\x.L.length<=8
theorem au3 {x:iH}(h:okD x)(a:aIH x):okS x.1:=⟨by have:=a.1;omega,by have:=a.2.1;omega,by have:=a.2.2.1;omega,h.1.1,h.1.2.1,h.1.2.2⟩
theorem afT {x:iH}{k:Nat}{s:Server}{a:fA}(b:okD x)(e:aIH x)(h:SE x k s)(l:k<=41)(j:afs a)(m:a.H.bQ.length+a.H.Method.length<=4194304):aeo s a:=by
 obtain⟨⟨f,o,g⟩,i,p,d,_⟩:=h;have a1:okS s.ay:=by rw[f];exact au3 b e
 have a2:okN s.ay:=by rw[f];exact b.2.1
 refine⟨⟨a1,a2,by omega,fun t c=> ?_⟩,by rw[o];exact b.2.2.1,by rw[g];exact b.2.2.2,by rw[g];have:=e.2.2.2.2;omega,⟨by have:=i.1;omega,fun y n=>by have:=i.2 y n;omega⟩,j.2.1,m,fun t c=>aCl (d t c).1 l⟩;have q:=(d t c).1;have:=q.2.1.1;exact⟨q.1,by omega⟩
theorem ahp {A B:Type}{R:A->B->Prop}{l:List A}{m:List B}(h:SV R l m):∀b∈m,∃a∈l,R a b:=by
 induction h with
 | nil=>grind
 | @cons a b l m d _ e=>
  grind
theorem aBr {x:iH}{k:Nat}{s:Server}{a:fA}{r:Server×Status×List gG}(Y:oI x.1=true)(K:∀y∈x.H,(gX x.1 y.Method).2=0)(h:SE x k s)(ha:afs a)(hT:aJ9 s a r):SE x (k+1) r.1/\(∀t∈r.2.2,an8 x.1 t/\t.Method.length<=1048576)/\r.2.2.length<=k:=by
 obtain⟨⟨q1,q2,q3⟩,W,p3,J,p5,p6⟩:=h;have p:=apz W (Qd7 k);have mk:∀{m:Server},m.ay=s.ay->m.Handlers=s.Handlers->m.iO=s.iO->m.Most=s.Most->EO (k+1) m.Traces->m.Tasks.length<=k+1->(m.Tasks.length:Int)<=s.Most->(∀t∈m.Tasks,RY (k+1) t/\EM s t)->SE x (k+1) m:=fun e1 T e3 e4 h5 h6 h7 X=>⟨⟨by grind,by grind,by grind⟩,h5,h6,fun t g=>⟨(X t g).1,asn e1 T (X t g).2⟩,by omega,by omega⟩
 have B:∀t∈s.Tasks,RY (k+1) t/\EM s t:=fun t g=>⟨auF (J t g).1 (Qd7 k),(J t g).2⟩
 have C:r.2.2=[]->(∀t∈r.2.2,an8 x.1 t/\t.Method.length<=1048576)/\r.2.2.length<=k:=fun e=>⟨fun t g=>rf,by grind⟩
 have R:SE x (k+1) s:=mk rfl rfl rfl rfl p au p5 B;have D:∀{l:List gG} {I V},EO (k+1) I->l.Sublist s.Tasks->SE x (k+1) (Server.mk s.Name s.ay s.Handlers s.iO I l s.Most V):=fun{l I V} g hl=>mk rfl rfl rfl rfl g rf rf fun t g=>B t (hl.subset g)
 have set:∀{c i:Int} {P:gG->gG->Prop},stepT s c i r.1 P->(∀t n,af_ t n->P t n->RY k t->EM s t->RY (k+1) n/\EM s n)->SE x (k+1) r.1:=fun{c i P} b hP=>by
  rcases b with⟨_,e⟩ | ⟨v,Y,e,n,⟨H,L⟩,T⟩
  ·grind
  ·rw[T];refine mk rfl rfl rfl rfl p (by show(s.Tasks.set v n).length<=k+1;grind) (by show((s.Tasks.set v n).length:Int)<=_;grind) fun t g=> ?_;rcases Qcs g with N | N
   ·exact B t N
   ·rw[N];obtain⟨w1,w2⟩:=J _ (getD_mem (d:=bF) Y);exact hP _ _ H L w1 w2
 rcases hT with⟨e,hb,f⟩ | ⟨e,b,f⟩ | ⟨e,b,f⟩ | ⟨e,hn,f⟩ | ⟨e,b⟩ | ⟨e,b,f⟩
 ·refine⟨?_,C f⟩;rcases hb with⟨b1,b2⟩ | ⟨b1,b2,b3,b4,I,t,b5,b6,Q⟩
  ·grind
  ·have Q:r.1=_:=Q;obtain⟨t1,t2,t3,t4,t5,t6,t7,t8,t9⟩:=b6;rw[Q];refine mk rfl rfl rfl rfl (b5 k W) rf rf fun y o=> ?_;have o:y∈s.Tasks++[t]:=o;rcases yH.1 o with o | o
   ·exact B y o
   ·rw[Ko.1 o];exact⟨⟨t7,⟨by grind,fun d f=>by grind⟩, .inl t4,t9⟩,t6,fun e=>rf,fun h=>by grind,fun h=>absurd t4 h,t8⟩
 ·refine⟨set b fun t n b K z q=> ?_,C f⟩;obtain⟨⟨O,G⟩,j⟩:=K;obtain⟨A,⟨M,z3⟩,z4,E⟩:=z;rcases j with⟨j,F,u⟩ | ⟨j,F,u,S⟩
  ·exact⟨⟨by rw[b.2.2.1];exact A,by grind,by omega,by rw[b.2.2.2.1];exact E⟩,DD b (.inl (by rw[j])) G (fun _=>u) (fun h=> .inl au) q⟩
  ·refine⟨⟨by rw[b.2.2.1];exact A,?_,by omega,by rw[b.2.2.2.1];exact E⟩,DD b (.inr ⟨by grind,S⟩) G (fun h=>by rw[F]at h;rw[u];exact q.2.1 h) (fun h=> .inl au) q⟩;rw[j];refine⟨by grind,fun d f=> ?_⟩;rcases yH.1 f with f | f
   ·exact z3 d f
   ·rw[Ko.1 f];exact ha.1
 ·refine⟨set b fun t n b K z q=> ?_,C f⟩;obtain⟨⟨O,G⟩,j⟩:=K;obtain⟨A,⟨M,z3⟩,z4,E⟩:=z;rcases j with⟨j,F,u⟩ | ⟨j,F,u,S⟩
  ·exact⟨⟨by rw[b.2.2.1];exact A,by grind,by omega,by rw[b.2.2.2.1];exact E⟩,DD b (.inl (by rw[O])) G (fun _=>u) (fun h=> .inl au) q⟩
  ·exact⟨⟨by rw[b.2.2.1];exact A,by grind, .inr u,by rw[b.2.2.2.1];exact E⟩,DD b (.inl (by rw[O])) G (fun h=>by rw[j]at h;rw[F];exact q.2.1 h) (fun _=> .inr S) q⟩
 ·refine⟨?_,C f⟩;rcases hn with⟨n1,U⟩ | ⟨v,n1,U,n3⟩
  ·rw[U];exact R
  ·rw[n3];refine D p ?_;conv=>rhs;rw[<-Qcr v s.Tasks]
   refine List.Sublist.append (Qdq _) ?_;rw[<-List.drop_drop];exact List.drop_sublist _ _
 ·obtain⟨H,L⟩:=b;have H:r.1=aFg s _:=H;refine⟨by rw[H];exact D p List.filter_sublist,fun t g=> ?_,by rw[Ym L];grind⟩;obtain⟨y,o,Z⟩:=ahp L t g;obtain⟨A,M⟩:=J y (Qbj.1 o).1;have w:=(ayQ rf rf M Z).1;rw[q1]at w;exact⟨w,by rw[Z.1.2.2.1];exact A.1⟩
 ·refine⟨by rw[b];exact D p (Qdq _),C f⟩
theorem arh {c d:Nat}{p:Prop}{f:Int->Bool}(j:c<=9223372036854775807):Is (.wh (c+1) default
    (fun(b:Int×Bool)=>
     .br b.2
      (.as p
       (.br (decide (b.1 < (↑c:Int)))
        (.ix b.1 c (.ix b.1 d (rl (dA .i64 (b.1+1),f b.1))))
        (.ret (.inr b.2))))
      (.ret (.inr b.2)))
    (0,(↑c:Int)==(↑d:Int)):Pg Bool):=by
 refine Ep (fun x=>0<=x.1/\x.1<=c/\(x.2=true->c=d)) (fun x=>(c - x.1).toNat) ⟨by omega,by omega,fun e=>Int.ofNat.inj (eq_of_beq e)⟩ qb0 fun x g=>⟨aT (fun e=>gp fun _=>dB (fun h=>b_ au au (b_ au (by have:=g.2.2 e;omega) aQ)) fun _=>aQ) fun _=>aQ,?_⟩;intro l a;simp only[bf,iG,eU,aI,Qa6,X6]at a;split at a
 ·rename_i e;split at a
  ·rename_i h;injection a with a
   subst a;have i:dA .i64 (x.1+1)=x.1+1:=dU (k:= .i64) tZ;simp only[i];exact⟨⟨by omega,by omega,fun _=>g.2.2 e⟩,by omega⟩
  ·cases a
 ·cases a
def FX (a:List Str)(b:List Str):Pg Bool:=aL a (aL b (.wh (a.length+1) default (fun(c:Int×Bool)=> .br c.2 (aL a (.br (decide (c.1 < (↑a.length:Int))) (.ix c.1 a.length (.ix c.1 b.length (rl (dA .i64 (c.1+1),a.getD c.1.toNat []==b.getD c.1.toNat [])))) (.ret (.inr c.2)))) (.ret (.inr c.2))) (0,(↑a.length:Int)==(↑b.length:Int))))
def P6 (a:List Str)(b:List Str):=(FX a b).val
theorem agU (a:List Str)(b:List Str):Is (FX a b):=
 gp fun c=>gp fun _=>arh (f:=fun i=>a.getD i.toNat []==b.getD i.toNat []) c
def ak0:aZ Z:=E0 [] [jS 3 (bI (fun b=>[s0 6, s0 5]) (aB cI (l1 aG)))] (ak (bC bV) (a1 (bC bV))) (R1 aG) [] func30 1 (u2 FX) fun a=>agU a.1 a.2
theorem Ye (a:List Str)(h:a.length<=4294967296):P6 a a=true:=by
 have k:j_ (FX a a) (fun r=>r=true):=by
  unfold FX;refine bW (bW (qo (fun x=>x.2=true/\0<=x.1/\x.1<=a.length) (fun x=>((a.length:Int) - x.1).toNat) ⟨Qc0 _,by omega,by omega⟩ qb0 fun x d=> ?_));obtain⟨c,g,f⟩:=d;refine dJ (fun _=>bW (bG (fun e=>aW au au (aW au au (af ?_))) (fun _=>af c))) (fun _=>af c);have b:dA .i64 (x.1+1)=x.1+1:=dU (k:= .i64) tZ;exact⟨⟨Qc0 _,by show 0<=dA .i64 (x.1+1);rw[b];omega,by show dA .i64 (x.1+1)<=_;rw[b];omega⟩,by show((a.length:Int) - dA .i64 (x.1+1)).toNat < _;rw[b];omega⟩
 exact k.2
def MV (a:List gG)(b:List gG):Pg Bool:=aL a (aL b (.wh (a.length+1) default (fun(c:Int×Bool)=> .br c.2 (aL a (.br (decide (c.1 < (↑a.length:Int))) (.ix c.1 a.length (.ix c.1 b.length (.cut (fun(f:Bool)=> .wh ((a.getD c.1.toNat bF).dL.length+1) default (fun(d:Int×Bool)=> .lt (dA .i64 (c.1+1)) fun e=> .br d.2 (.as ((a.getD c.1.toNat bF).dL.length<=9223372036854775807) (.br (decide (d.1 < (↑(a.getD c.1.toNat bF).dL.length:Int))) (.ix d.1 (a.getD c.1.toNat bF).dL.length (.ix d.1 (b.getD c.1.toNat bF).dL.length (rl (dA .i64 (d.1+1), ((a.getD c.1.toNat bF).dL.getD d.1.toNat Aq).Key== ((b.getD c.1.toNat bF).dL.getD d.1.toNat Aq).Key && (((a.getD c.1.toNat bF).dL.getD d.1.toNat Aq).Val== ((b.getD c.1.toNat bF).dL.getD d.1.toNat Aq).Val && true))))) (.ret (.inr (.inl (e,d.2)))))) (.ret (.inr (.inl (e,d.2))))) (0,f)) (.br ((a.getD c.1.toNat bF).qy==(b.getD c.1.toNat bF).qy) (.br ((a.getD c.1.toNat bF).Id==(b.getD c.1.toNat bF).Id) (.br ((a.getD c.1.toNat bF).Method==(b.getD c.1.toNat bF).Method) (.br ((a.getD c.1.toNat bF).fK==(b.getD c.1.toNat bF).fK) (.br ((a.getD c.1.toNat bF).Ready==(b.getD c.1.toNat bF).Ready) (.br ((a.getD c.1.toNat bF).oC==(b.getD c.1.toNat bF).oC) (.br ((a.getD c.1.toNat bF).Status.Code==(b.getD c.1.toNat bF).Status.Code && ((a.getD c.1.toNat bF).Status.Text==(b.getD c.1.toNat bF).Status.Text && true)) (.br (P6 (a.getD c.1.toNat bF).In (b.getD c.1.toNat bF).In) (.br (P6 (a.getD c.1.toNat bF).fQ (b.getD c.1.toNat bF).fQ) (.as ((a.getD c.1.toNat bF).dL.length<=9223372036854775807) (.as ((b.getD c.1.toNat bF).dL.length<=9223372036854775807) (rl ((↑(a.getD c.1.toNat bF).dL.length:Int)==(↑(b.getD c.1.toNat bF).dL.length:Int))))) (rl false)) (rl false)) (rl false)) (rl false)) (rl false)) (rl false)) (rl false)) (rl false)) (rl false))))) (.ret (.inr c.2)))) (.ret (.inr c.2))) (0,(↑a.length:Int)==(↑b.length:Int))))
def Gy (a:List gG)(b:List gG):=(MV a b).val
theorem Dc (a:List gG)(b:List gG)(h:a=b/\b.length<=4294967296/\∀t∈b,t.dL.length<=4294967296/\t.In.length<=4294967296/\t.fQ.length<=4294967296):j_ (MV a b) (fun r=>r=true):=
 by
 obtain⟨rfl,z,m⟩:=h;unfold MV;refine bW (bW (qo (fun x=>x.2=true/\0<=x.1/\x.1<=a.length) (fun x=>((a.length:Int) - x.1).toNat) ⟨Qc0 _,by omega,by omega⟩ qb0 fun x q=> ?_));obtain⟨l,w,B⟩:=q;refine dJ (fun _=>bW (bG (fun u=>aW au au (aW au au ?_)) (fun _=>af l))) (fun _=>af l);have o:dA .i64 (x.1+1)=x.1+1:=dU (k:= .i64) tZ;obtain⟨t1,t2,t3⟩:=m _ (getD_mem (d:=bF) (show x.1.toNat < a.length by omega));generalize a.getD x.1.toNat bF=t at*;refine bP (fun y=>y=true) ?_ (fun v p=> ?_)
 ·refine dK (fun _=>dK (fun _=>dK (fun _=>dK (fun _=>dK (fun _=>dK (fun _=>dJ (fun _=>dJ (fun _=>dJ (fun _=>bW (bW (af (Qc0 _)))) (fun h=> ?_)) (fun h=> ?_)) (fun h=> ?_)) (fun h=>absurd rfl h)) (fun h=>absurd rfl h)) (fun h=>absurd rfl h)) (fun h=>absurd rfl h)) (fun h=>absurd rfl h)) (fun h=>absurd rfl h)
  ·rw[Ye _ t3]at h;cases h
  ·rw[Ye _ t2]at h;cases h
  ·simp at h
 ·refine qo (fun c=>c.2=true/\0<=c.1/\c.1<=t.dL.length) (fun c=>((t.dL.length:Int) - c.1).toNat) ⟨p,by omega,by omega⟩ qb0 fun c j=> ?_;obtain⟨n,C,A⟩:=j;have next:∀f:Int,f=dA .i64 (x.1+1)->(c.2=true/\0<=f/\f<=a.length)/\((a.length:Int) - f).toNat < ((a.length:Int) - x.1).toNat:=fun f e=>by
   rw[o]at e;exact⟨⟨n,by omega,by omega⟩,by omega⟩
  refine az fun f i=>dJ (fun _=>bW (bG (fun s=>aW au au (aW au au (af ?_))) (fun _=>af (next f i)))) (fun _=>af (next f i));have g:dA .i64 (c.1+1)=c.1+1:=dU (k:= .i64) tZ;exact⟨⟨by simp,by show 0<=dA .i64 (c.1+1);rw[g];omega,by show dA .i64 (c.1+1)<=_;rw[g];omega⟩,by show((t.dL.length:Int) - dA .i64 (c.1+1)).toNat < _;rw[g];omega⟩
def alm:aZ Z:=E1 [ak0] [jS 3 (bI (fun b=>[s0 6, s0 5]) (aB cI (l1 aG))),jS 8 (bI (fun b=>[s0 9, s0 5]) (aB cI (l1 aG))),jS 100007 (bI (fun b=>[s0 5]) (l1 aG))] (ak (bC wQ) (a1 (bC wQ))) (R1 aG) [] func12 1 (u2 MV) (fun a=>a.1=a.2/\a.2.length<=4294967296/\∀t∈a.2,t.dL.length<=4294967296/\t.In.length<=4294967296/\t.fQ.length<=4294967296) fun a h=>(Dc a.1 a.2 h).1
theorem aik {A Y R d:Type}{b:Nat->A->Y->Y⊕R}{i:Nat->A->Y->Y⊕d}{f:Nat->Y->R}{h:Nat->Y->d}(c:R->d)(g:∀k a y,i k a y=Sum.map id c (b k a y))(e:∀k y,h k y=c (f k y)):∀(l:List A) (k:Nat) (y:Y),mJ i h l k y=c (mJ b f l k y)
 | [],k,y=>e k y
 | a::l,k,y=>by
  unfold mJ;rw[g];cases b k a y with
  | inl j=>exact aik c g e l (k+1) j
  | inr r=>rfl
theorem afn (s:Server)(t:gG):nT (ES s) t=nT s t:=rfl
theorem aDh (s:Server)(b:Int):Dv (ES s) b=(ES (Dv s b).1,(Dv s b).2):=by
 have c:∀t,nT (ES s) t=nT s t:=afn s;unfold Dv WZ;simp only[iG,jD,c];refine aik (fun(r:Server×List gG)=>(ES r.1,r.2)) ?_ ?_ s.Tasks 0 ([],[])
 ·intro k a y;simp only[eU,cZ,bf,bY,aI,Qa6];(repeat' split)<;>rfl
 ·exact fun k y=>rfl
theorem ayr (s:Server)(b a id:Int)(d:Head)(shape:Int):(KH (ES s) b a id d shape).1=ES s/\(KH (ES s) b a id d shape).2.Code≠0:=by
 have e:∀{c:Int} {t:Str},c≠0->ES s=ES s/\(Status.mk c t).Code≠0:=fun h=>⟨rfl,h⟩
 have k:VP (Gp (ES s) b a id d shape) (fun r=>r.1=ES s/\r.2.Code≠0):=by
  unfold Gp;refine fO (oQ fun g _=>fO (kz (fun _=>False) (oQ fun f _=>fD (fun _=>a_ (e mi)) fun _=>fD (fun _=>a_ (e mi)) fun h=>nomatch (show true=false from h)) fun _ h=>h.elim))
 exact k
theorem aBh {x:iH}{k:Nat}{s:Server}{a:Int}{r:Server×List gG}(h:SE x k s)(o:k<=41)(g:arq s a r):r.2.length<=4294967296/\∀t∈r.2,t.dL.length<=4294967296/\t.In.length<=4294967296/\t.fQ.length<=4294967296:=by
 obtain⟨_,d⟩:=g;obtain⟨_,_,v,j,_⟩:=h;refine⟨by rw[Ym d];exact yI (Qbv _ _) au,fun t f=> ?_⟩;obtain⟨y,m,⟨_,_,_,l,_,i⟩,n⟩:=ahp d t f;obtain⟨⟨p,⟨u,_⟩,_,q⟩,c,_⟩:=j y (Qbj.1 m).1;refine⟨by rw[i];omega,by rw[l];omega,?_⟩;rcases n with⟨_,e⟩ | ⟨_,e,_⟩ | ⟨_,_,_,_,b⟩
 ·rw[e,c];exact ve _
 ·rw[e,c];exact ve _
 ·exact yI b mi
theorem aDd {x:iH}{k:Nat}{s:Server}{a:Int}{r:Server×List gG}(h:SE x k s)(g:k<=41)(c:arq s a r):r.1.Tasks.length<=4294967296/\∀t∈r.1.Tasks,t.dL.length<=4294967296/\t.In.length<=4294967296/\t.fQ.length<=4294967296:=by
 obtain⟨d,_⟩:=c;obtain⟨_,_,i,b,_⟩:=h;rw[d];refine⟨yI (Qbv _ _) au,fun t f=> ?_⟩;obtain⟨⟨l,⟨j,_⟩,_,m⟩,e,_⟩:=b t (Qbj.1 f).1;exact⟨by omega,by omega,by rw[e];exact ve _⟩
def awake:Pg Bool:=.ob (anP (ay.mk [aO.mk [77] [aK.mk 1 [120] 3 0 (uS.mk 4 []) [] false (ah.mk 0 0 [] [] [] [] []) []] [] [] []] [] [bQ.mk [83] [fC.mk [71,101,116] [77] [77] 1 []] []]) (dF.mk [83,47,71,101,116] 1 0 0) [[8,5]]) (.ob (abp (ay.mk [aO.mk [77] [aK.mk 1 [120] 3 0 (uS.mk 4 []) [] false (ah.mk 0 0 [] [] [] [] []) []] [] [] []] [] [bQ.mk [83] [fC.mk [71,101,116] [77] [77] 1 []] []]) [dF.mk [83,47,71,101,116] 1 0 0] []) (.ix 0 (Bh (ay.mk [aO.mk [77] [aK.mk 1 [120] 3 0 (uS.mk 4 []) [] false (ah.mk 0 0 [] [] [] [] []) []] [] [] []] [] [bQ.mk [83] [fC.mk [71,101,116] [77] [77] 1 []] []]) (dF.mk [83,47,71,101,116] 1 0 0) [[8,5]]).1.length (.ret (aBl (amm [97] (ay.mk [aO.mk [77] [aK.mk 1 [120] 3 0 (uS.mk 4 []) [] false (ah.mk 0 0 [] [] [] [] []) []] [] [] []] [] [bQ.mk [83] [fC.mk [71,101,116] [77] [77] 1 []] []]) [dF.mk [83,47,71,101,116] 1 0 0] [] 5).1))))
theorem axB:Is (awake):=
 aY (by simp[anP,okS,okM,okE,Yi,okN,IQ,kG]) (aY (by simp[abp,okS,okM,okE,Yi,Iw]) (b_ mi (Eh eQ) aQ))
def aBy:aZ Z:=E2 [asz,Yy,awi] [] a0 (R1 aG) [] func7 1 (fun a=>awake) (fun a=>none) (fun a=>true) fun a h=>⟨axB,eQ⟩
def aAw (s:ay):Prop:=(∀m∈s.Messages,aBe m)/\(∀e∈s.Enums,aHw e)/\∀v∈s.dQ,aud v
def law (x:iH)(l:List fA)(f:Int):Pg Bool:=.br (!aLk x) (.ret true) (.br (!amu l) (.ret true) (.br (decide (f < 0)) (.ret true) (.br (decide (1099511627776 < f)) (.ret true) (.ob (abp x.1 x.H x.L) (.lt (amm [97] x.1 x.H x.L x.Most) fun m=> .br (m.2 !=0) (.ret true) (.cut (fun(d:Server)=> .lt (Nl d) fun b=> .each true uj l kH (fun e c (n:Unit)=> .ix e l.length (.ob ((7:Int)≠0) (.br (c.Kind.tmod (7:Int)==0) (.ix e l.length (.ix e l.length (.ix e l.length (.ix e l.length (.ix e l.length (.ob (yw b/\ (∀(x:dF),x∈b.Handlers->List.length x.Method<=1048576)/\ Iw b.iO/\ b.iO.length<=100/\ okT b.Traces/\c.H.dL.length<=40/\List.length c.H.bQ+List.length c.H.Method<=4194304) (.lt (KH b c.Now c.qy c.Id c.H c.Shape) fun h=> .br (h.2.Code==0) (.ret (.inr false)) (aL h.1.Tasks (aL b.Tasks (.br ((↑h.1.Tasks.length:Int) !=(↑b.Tasks.length:Int)) (.ret (.inr false)) (rl ()))))))))))) (rl ())))) (fun e (n:Unit)=> .ob (Xb d/\d.Tasks.length<=1048576/\∀(t:gG),t∈d.Tasks->Ox t) (.ob (Xb b/\b.Tasks.length<=1048576/\∀(t:gG),t∈b.Tasks->Ox t) (.lt (Dv d f) fun g=> .lt (Dv b f) fun a=> .ob (g.2=a.2/\ a.2.length<=4294967296/\ ∀(t:gG),t∈a.2->t.dL.length<=4294967296/\t.In.length<=4294967296/\t.fQ.length<=4294967296) (.br (Gy g.2 a.2) (.ob (g.1.Tasks=a.1.Tasks/\ a.1.Tasks.length<=4294967296/\ ∀(t:gG), t∈a.1.Tasks->t.dL.length<=4294967296/\t.In.length<=4294967296/\t.fQ.length<=4294967296) (.br (Gy g.1.Tasks a.1.Tasks) (.ob (okS d.ay) (.br (O6 d.ay) (.ret true) (.ret false))) (.ret false))) (.ret false))))) ()) (.each true oZ l kH (fun k j (i:Server)=> .ix k l.length (.ob (aeo i j) (rl (aGF i j).1))) (fun k (i:Server)=> rl i) m.1)))))))
theorem anO (x:iH)(l:List fA)(g:Int)(h:okD x/\aHm l/\aAw x.1):j_ (law x l g) (fun r=>r=true):=
 by
 obtain⟨f,G,S⟩:=h;unfold law;refine dJ (fun _=>af rfl) fun e=>dJ (fun _=>af rfl) fun L=>bG (fun _=>af rfl) fun n0=>bG (fun _=>af rfl) fun n1=> ?_;have e:aIH x:=aHM (by simpa using e);obtain⟨Z,m⟩:=aCt (l:=l) (by simpa using L);have N:abp x.1 x.H x.L:=⟨au3 f e,f.2.2.1,f.2.2.2,by have:=e.2.2.2.1;omega,by have:=e.2.2.2.2;omega⟩;refine ai N (az fun U B=>dM (fun _=>af rfl) fun J=> ?_);obtain⟨A,F,Y,I⟩:=aAq (name:=[97]) (s:=x.1) (hs:=x.H) (l:=x.L) (most:=x.Most) (by rw[<-B];exact J);rw[<-B]at A;have Q:SE x 0 U.1:=by
  rw[A];exact⟨⟨rfl,rfl,rfl⟩,⟨nO _,fun y p=>by cases p⟩,nO _,fun y p=>(by cases p),by show((0:Nat):Int)<=x.Most;omega,rfl⟩
 refine bP (fun y=>SE x l.length y) (dh (fun k y=>SE x k y) Q au (fun k y n i=> ?_) (fun y i=>af i)) fun s hs=> ?_
 ·have b:=getD_mem (d:=kH) n;generalize l.getD k kH=a at*;have a1:=m _ b;have q:=afT f e i au a1 (G _ b);exact aW au au (ai q (af (aBr F I i a1 (aaP y a q).2).1))
 ·refine az fun O C=> ?_;have V:O=ES s:=C.trans (abm s);obtain⟨j,z,P,K,W,_,_,R⟩:=afT f e hs au (a:=kH) ⟨ve _,ve _,MS _,by decide⟩ (ve _);subst V;refine dh (fun _ _=>True) trivial au (fun k u n _=> ?_) (fun u _=> ?_)
  ·have b:=getD_mem (d:=kH) n;generalize l.getD k kH=a at*;have a1:=m _ b;refine aW au au (ai mi (dK (fun _=>aW au au (aW au au (aW au au (aW au au (aW au au (ai ⟨j,z,P,K,W,a1.2.1,G _ b⟩ (az fun X T=> ?_))))))) (fun _=>af trivial)));obtain⟨b1,E⟩:=ayr s a.Now a.qy a.Id a.H a.Shape;rw[<-T]at b1 E;exact dK (fun h=>absurd h E) (fun _=>bW (bW (dM (fun h=>absurd (by rw[b1]) h) (fun _=>af trivial))))
  ·have o:Xb s/\s.Tasks.length<=1048576/\∀t∈s.Tasks,Ox t:=⟨⟨j.1,j.2.1,z,by omega⟩,by have:=hs.2.2.1;omega,R⟩;refine ai o (ai o (az fun c w=>az fun v M=> ?_));have D:arq s g c:=by rw[w];exact(Jp s g o).2
   have H:v=(ES c.1,c.2):=by rw[M,aDh,<-w]
   have d1:=aBh hs au D;have l1:=aDd hs au D;rw[H];refine ai ⟨rfl,d1⟩ (dJ (fun _=>ai ⟨rfl,l1⟩ (dJ (fun _=>ai j.1 (dJ (fun _=>af rfl) (fun h=> ?_))) (fun h=> ?_))) (fun h=> ?_))
   ·rw[hs.1.1,<-valid_eq x.1 ⟨au3 f e,S⟩,F]at h;cases h
   ·have k:Gy c.1.Tasks c.1.Tasks=true:=(Dc _ _ ⟨rfl,l1⟩).2;exact absurd (k.symm.trans h) mi
   ·have k:Gy c.2 c.2=true:=(Dc _ _ ⟨rfl,d1⟩).2;exact absurd (k.symm.trans h) mi
def aMv:aZ Z:=E2 [aKs,av8,asz,aBy,aAj,abv,aa5,ahr,alm,aj3] [jS 7 (bI (fun b=>[s0 9, .cells (pid (b 7)) (nn 10)]) (aB cI (l1 iC))),jS 12 (bI (fun b=>[s0 11]) (l1 cI)),jS 100010 (bI (fun b=>[.cells (pid (b 7)) (nn 10)]) (l1 iC))] (ak (aJ qV) (ak (bC rX) (a1 (bC cI)))) (R1 aG) [] func3 1 (u3 law) (fun a=>some (okD a.1/\aHm a.2.1/\aAw a.1.1)) (fun a=>true) fun a h=>⟨(anO a.1 a.2.1 a.2.2 h).1,(fun x l c h=>(anO x l c h).2) a.1 a.2.1 a.2.2 h⟩
end
end Go.Proofs.YtgdmjfkdbfafjaaGreatDoor
