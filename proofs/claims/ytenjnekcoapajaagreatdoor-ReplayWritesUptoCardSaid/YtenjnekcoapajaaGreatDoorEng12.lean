/- Own engine: Vdy, Vdz, Vdk, Vdx, Vd0, Vez. -/
import Derived.Test.YtenjnekcoapajaaGreatDoorEng11
import Derived.SizedLaws
set_option linter.unusedVariables false
set_option linter.unusedSimpArgs false
namespace Go.Vc
theorem qab{p:Prop}(h:p:=by(try simp only[Sum.elim_inl,Sum.elim_inr])<;>(first | trivial | omega | (dsimp only;omega) | (refine Du (Ot (by omega) rfl) ?_;omega) | (refine⟨Int.le_trans (Int.ofNat_le.2 (Ot (by omega) rfl)) ?_,?_⟩<;>omega) | (refine Du (Za _ _ _) ?_;grind) | (refine Du (abL _ _ _) ?_;first | omega | (dsimp only at*;omega) | (simp only[Qa7]at*;omega)))):p:=h
theorem dM{p:Prop}(h:p:=by kernel_rfl):p:=h
theorem qae{p:Prop}(h:p:=by first | omega | exact hl.1 | exact hl.2.1 | (show sF 2 fu _;rw[ae.bJ];exact aGZ h hv5 (by omega)) | (have h5:=UD hl.2.1 hv5;exact room_of (by have:=hI.2.2.1;omega) (by have:=hI.2.2.1;omega)) | exact asi hI hv4 hl.1):p:=h
theorem qaf{p:Prop}(h:p:=by(try simp only[Sum.elim_inl,Sum.elim_inr])<;>(first | trivial | omega | (refine Du (YF _ _ _ _) ?_;omega) | (refine Du (aAx _ _ _ _) ?_;(first | omega | (simp only[Qa7]at*;omega) | simp)))):p:=h
theorem qai{p:Prop}(h:p:=by(try simp only[Sum.elim_inl,Sum.elim_inr])<;>(first | exact aI2 h hv4 | exact K_ hI | (refine ayo qW hI ?_ hv6;simp only[ae.bJ];exact ih.2.1 _ _ _ (aGZ h hv5 qW)) | exact aze h hv4 hv5 hI)):p:=h
theorem qaj{p:Prop}(h:p:=by(have:=LJ (kD h) hv4;have:=h.1;first | omega | exact room_of (by have:=hI.1.length_le;simp only[Iq]at this;omega) (by have:=hI.1.length_le;simp only[Iq]at this;omega) | exact⟨YW (aw2 h hv4) (by omega),YW (aw2 h hv4) (by omega)⟩)):p:=h
theorem qak{p:Prop}(h:p:=by first | omega | (dsimp only at*;omega) | (simp only[Qa7]at*;omega) | exact h | exact h.2.2.2.1 _ (getD_mem (by omega)) | exact h.2.2.2.2.1 _ (getD_mem (by omega)) | exact h.2.2.2.2.2 _ (getD_mem (by omega)) | exact⟨by omega,fun m hm=>(h.2.2.2.1 m hm).1⟩ | exact room_of (by omega) (by omega)):p:=h
theorem qal{p:Prop}(h:p:=by(try simp only[Sum.elim_inl,Sum.elim_inr])<;>((have:=LJ (kD h) hv4;have:=h.1;first | trivial | omega | exact⟨agm hI.1,by omega,by omega⟩ | (refine⟨?_,by omega,by omega⟩;rw[hv5];exact aeJ hI.1 (by omega) (by rw[ae.bJ,ae.bJ,Pair.eta])) | (rw[<-hv4];simpa using hI.1)))):p:=h
theorem qan{p:Prop}(h:p:=by(try simp only[Sum.elim_inl,Sum.elim_inr])<;>(first | exact ak2 qW hI (by simp only[ae.bJ];exact ih.2.2 _ _ _ (aso h qW)) | exact acD hI | exact alb Hl hI ⟨⟨by simp only[ae.bJ];rw[(uO _).1];exact(ad5 h hv7 Hl).2.1,by simp only[ae.bJ];exact SB (ad5 h hv7 Hl).2.2⟩,by simp only[ae.bJ,Rj];exact pJ _⟩ (by simp only[ae.bJ];exact ih.2.2 _ _ _ (ad5 h hv7 Hl).1) | exact aaF h hv7 hI | (simp only[ae.bJ];exact ih.2.2 _ _ _ (yK h)))):p:=h
theorem qao{p:Prop}(h:p:=by(try simp only[Sum.elim_inl,Sum.elim_inr])<;>((have:=LU h hv4;first | trivial | omega | exact⟨agm hI.1,by omega⟩ | (refine⟨?_,by omega⟩;rw[hv5];exact aeJ hI.1 (by omega) (by rw[ae.bJ,Slot.eta])) | (rw[<-hv4];simpa using hI.1)))):p:=h
theorem qap{p:Prop}(h:p:=by(try simp only[Sum.elim_inl,Sum.elim_inr])<;>(first | (rw[ae.bJ];exact⟨JU hI.1,hI.2⟩) | (refine⟨?_,by have e:=hI.2;rw[e];rfl⟩;show v4.Sublist _;grind [aeV]) | (exact⟨y2.Slots,by simpa using hI.1,by rw[ae.bJ];have e:=hI.2;rw[e];rfl⟩))):p:=h
theorem qaq{p:Prop}(h:p:=by(have:=LU h hv4;first | omega | exact room_of (by have:=hI.1.length_le;simp only[Iq]at this;omega) (by have:=hI.1.length_le;simp only[Iq]at this;omega))):p:=h
theorem qat{p:Prop}(h:p:=by first | omega | exact hl.2.2.2 | (show sF 1 fu _;rw[ae.bJ];first | exact aso h (by omega) | exact(ad5 h hv7 (by omega)).1 | exact yK h) | exact room_of (by have:=hI.2.2;omega) (by have:=hI.2.2;omega) | (have h5:=uk hl.2.2.2 hv7;exact room_of (by have:=hI.2.2;omega) (by have:=hI.2.2;omega))):p:=h
theorem E_{p:Prop}(h:p:=by grind [Za]):p:=h
theorem qaw{p:Prop}(h:p:=by first | omega | exact h | exact(h.2.2.2.1 _ (getD_mem (by omega))).1 | exact⟨(h.2.2.2.2.1 _ (getD_mem (by omega))).2.1,(h.2.2.2.2.1 _ (getD_mem (by omega))).1⟩ | (rw[hI];simp only[Qbx,Iq];exact room_of (by omega) (by omega))):p:=h
theorem qax{p:Prop}(h:p:=by have:=hI.2.2;omega):p:=h
theorem qay{p:Prop}(h:p:=by(try simp only[Sum.elim_inl,Sum.elim_inr])<;>(first | (simp only[ae.bJ];exact ih.1 _ _ _ (yK h)) | (simp only[ae.bJ];exact⟨SB h.1.1,Qdf (Rj _)⟩))):p:=h
theorem qa0{p:Prop}(h:p:=by have k:0<=c.Depth:=h.2.1.1.2.1.1;have e:=h.2.2.2.2;omega):p:=h
theorem VL{p:Prop}(h:p:=by grind [YF]):p:=h
theorem qa5{p:Prop}(h:p:=by have k:=h.1.1.2.1.1;have e:=h.2.2;omega):p:=h
theorem qa6{p:Prop}(h:p:=by grind [room_of]):p:=h
theorem qa8{p:Prop}(h:p:=by simp only[ae.bJ];exact ih.2.2 _ _ _ (ad5 h hv7 Hl).1):p:=h
theorem qa9{p:Prop}(h:p:=by obtain⟨st,hs,e⟩:=h.2.2 (by assumption);rw[e,(Ar hs).1];exact(Yk hs).is):p:=h
theorem qba{p:Prop}(h:p:=by simp only[ae.bJ];exact ih.2.2 _ _ _ (aso h qW)):p:=h
theorem qbc{p:Prop}(h:p:=by first | omega | exact room_of (by omega) (by omega)):p:=h
theorem qbg{p:Prop}(h:p:=by rw[hv1,sS,ae.bJ];omega):p:=h
theorem qbj{p:Prop}(h:p:=by rw[k];decide):p:=h
theorem qbk{p:Prop}(h:p:=by have e:hd.jO.length=0:=(II List.length h.2.2.2);omega):p:=h
theorem qbl{p:Prop}(h:p:=by(first | omega | (simp only[Qa7]at*;omega) | simp)):p:=h
theorem qbm{p:Prop}(h:p:=by obtain⟨a,b,hx⟩:=h.2.1 (by assumption);exact(UJ hx).is):p:=h
theorem qbn{p:Prop}(h:p:=by have:=ne_of_beq_false c;omega):p:=h
theorem qbr{p:Prop}(h:p:=by grind [ay1,room_of]):p:=h
theorem qbz{p:Prop}(h:p:=by simp[Op.bytesLess]):p:=h
theorem qb1{p:Prop}(h:p:=by rw[k1]):p:=h
instance aJG {X R:Type} [Inhabited R]:Inhabited (X⊕R):=⟨.inr default⟩
structure Ix (X Y:Type) where
 gi:X->Int
 gy:X->Y
 mx:Int->Y->X
 h1:∀i y,gi (mx i y)=i
 h2:∀i y,gy (mx i y)=y
def mg {Y:Type}:Ix (Int×Y) Y:=⟨Prod.fst,Prod.snd,Prod.mk,fun _ _=>rfl,fun _ _=>rfl⟩
def yc:Ix Int Unit:=⟨id,fun _=>(),fun i _=>i,fun _ _=>rfl,fun _ _=>rfl⟩
inductive Pg:Type->Type 1 where
 | ret {R:Type} (r:R):Pg R
 | no {R:Type} (r:R):Pg R
 | ob {R:Type} (p:Prop) (k:Pg R):Pg R
 | obD {R:Type} (p:Prop) (d:Decidable p) (k:Pg R):Pg R
 | as {R:Type} (p:Prop) (k:Pg R):Pg R
 | br {R:Type} (b:Bool) (t e:Pg R):Pg R
 | unk {R:Type} (s:Bool) (p:Bool->Prop) (t e:Pg R):Pg R
 | lt {R A:Type} (v:A) (k:A->Pg R):Pg R
 | cut {R X:Type} (k:X->Pg R) (a:Pg (X⊕R)):Pg R
 | wh {R X:Type} (n:Nat) (r:R) (step:X->Pg (X⊕R)) (x:X):Pg R
 | each {R A X Y:Type} (h:Bool) (s:Ix X Y) (l:List A) (d:A) (body:Int->A->Y->Pg (Y⊕R)) (fin:Int->Y->Pg R) (y:Y):Pg R
 | cnt {R X Y:Type} (s:Ix X Y) (a b:Int) (body:Int->Y->Pg (Y⊕R)) (fin:Int->Y->Pg R) (y:Y):Pg R
 | EK {R A X Y:Type} (ps:List Prop) (h:Bool) (s:Ix X Y) (l:List A) (d:A) (body:Int->A->Y->Pg (Y⊕R)) (fin:Int->Y->Pg R) (y:Y):Pg R
 | Ov {R X Y:Type} (ps:List Prop) (q:Option Prop) (s:Ix X Y) (a b:Int) (body:Int->Y->Pg (Y⊕R)) (fin:Int->Y->Pg R) (y:Y):Pg R
section
variable {R R' A X Y:Type}
def nxI (s:Ix X Y)(i:Int):Y⊕R->X⊕R
 | .inl y=> .inl (s.mx (aQ .i64 (i+1)) y)
 | .inr r=> .inr r
noncomputable def aeq:List Prop->Option R->Option R
 | [],k=>k
 | p::a,k=>need p (aeq a k)
noncomputable def aEJ (q:Option Prop)(e:R)(k:Option R):Option R:=
 match q with
 | none=>k
 | some q=>asm q e k
def aeE:List Prop->Prop
 | []=>True
 | p::a=>p/\aeE a
theorem Gm:∀{a:List Prop} {k:Option R},aeE a->aeq a k=k
 | [],_,_=>rfl
 | p::a,k,h=>by unfold aeq;rw[xN h.1,Gm h.2]
theorem aw6 {q:Option Prop}{e:R}{k:Option R}(h:rq q):aEJ q e k=k:=by
 cases q with
 | none=>rfl
 | some q=>exact yJ h
theorem aut {q:Option Prop}{e:R}{k:Option R}(h:¬rq q):aEJ q e k=some e:=by
 cases q with
 | none=>exact(h trivial).elim
 | some q=>exact CO h
noncomputable def Pg.runK:{R:Type}->Pg R->(c:Type)->(R->c)->c->Option c
 | _, .ret r,_,f,_=>some (f r)
 | _, .no _,_,_,_=>none
 | _, .ob p k,c,f,e=>need p (k.runK c f e)
 | _, .obD p _ k,c,f,e=>need p (k.runK c f e)
 | _, .as p k,c,f,e=>asm p e (k.runK c f e)
 | _, .br b t j,c,f,e=>cond b (t.runK c f e) (j.runK c f e)
 | _, .unk _ p t j,c,f,e=>both p (t.runK c f e) (j.runK c f e)
 | _, .lt v k,c,f,e=>(k v).runK c f e
 | _, .cut (X:=X) k a,c,f,e=>amW (a.runK (X⊕c) (Sum.map id f) (.inr e)) fun x=>(k x).runK c f e
 | _, .wh (X:=X) _ _ step x,c,f,e=>pR (fun y=>(step y).runK (X⊕c) (Sum.map id f) (.inr e)) x
 | _, .each (X:=X) h s l d g i y,c,f,e=>pR (fun x=>
   cond h (asm (l.length<=9223372036854775807) (.inr e) (cond (decide (s.gi x < (↑l.length:Int))) ((g (s.gi x) (l.getD (s.gi x).toNat d) (s.gy x)).runK (X⊕c) (fun z=>nxI s (s.gi x) (Sum.map id f z)) (.inr e)) ((i (s.gi x) (s.gy x)).runK (X⊕c) (fun r=> .inr (f r)) (.inr e))))
    (cond (decide (s.gi x < (↑l.length:Int))) ((g (s.gi x) (l.getD (s.gi x).toNat d) (s.gy x)).runK (X⊕c) (fun z=>nxI s (s.gi x) (Sum.map id f z)) (.inr e)) ((i (s.gi x) (s.gy x)).runK (X⊕c) (fun r=> .inr (f r)) (.inr e)))) (s.mx 0 y)
 | _, .EK (X:=X) m h s l d g i y,c,f,e=>pR (fun x=>aeq m (
   cond h (asm (l.length<=9223372036854775807) (.inr e) (cond (decide (s.gi x < (↑l.length:Int))) ((g (s.gi x) (l.getD (s.gi x).toNat d) (s.gy x)).runK (X⊕c) (fun z=>nxI s (s.gi x) (Sum.map id f z)) (.inr e)) ((i (s.gi x) (s.gy x)).runK (X⊕c) (fun r=> .inr (f r)) (.inr e))))
    (cond (decide (s.gi x < (↑l.length:Int))) ((g (s.gi x) (l.getD (s.gi x).toNat d) (s.gy x)).runK (X⊕c) (fun z=>nxI s (s.gi x) (Sum.map id f z)) (.inr e)) ((i (s.gi x) (s.gy x)).runK (X⊕c) (fun r=> .inr (f r)) (.inr e))))) (s.mx 0 y)
 | _, .Ov (X:=X) m q s a b g i y,c,f,e=>pR (fun x=>aeq m (aEJ q (.inr e) (cond (decide (s.gi x < b)) ((g (s.gi x) (s.gy x)).runK (X⊕c) (fun z=>nxI s (s.gi x) (Sum.map id f z)) (.inr e)) ((i (s.gi x) (s.gy x)).runK (X⊕c) (fun r=> .inr (f r)) (.inr e))))) (s.mx a y)
 | _, .cnt (X:=X) s a b g i y,c,f,e=>pR (fun x=>cond (decide (s.gi x < b)) ((g (s.gi x) (s.gy x)).runK (X⊕c) (fun z=>nxI s (s.gi x) (Sum.map id f z)) (.inr e)) ((i (s.gi x) (s.gy x)).runK (X⊕c) (fun r=> .inr (f r)) (.inr e))) (s.mx a y)
noncomputable def Pg.run (t:Pg R)(e:R):Option R:=t.runK R id e
abbrev Pg.ix (i:Int)(n:Nat)(k:Pg R):Pg R:= .ob (0<=i/\i < ↑n) k
def iH (b:Nat->A->Y->Y⊕R)(f:Nat->Y->R):List A->Nat->Y->R
 | [],k,y=>f k y
 | a::l,k,y=>match b k a y with
  | .inl c=>iH b f l (k+1) c
  | .inr r=>r
def lu (b:Int->Y->Y⊕R)(f:Int->Y->R):Nat->Int->Y->R
 | 0,i,y=>f i y
 | n+1,i,y=>match b i y with
  | .inl a=>lu b f n (i+1) a
  | .inr r=>r
def Dy (step:X->X⊕R)(a:R):Nat->X->R
 | 0,_=>a
 | n+1,x=>match step x with
  | .inl b=>Dy step a n b
  | .inr r=>r
def thenS (a:X⊕R)(k:X->R):R:=
 match a with
 | .inl x=>k x
 | .inr r=>r
@[simp] theorem eP (x:X) (k:X->R):thenS (.inl x) k=k x:=rfl
@[simp] theorem aGj (r:R) (k:X->R):thenS (.inr r) k=r:=rfl
def Pg.val:{R:Type}->Pg R->R
 | _, .ret r=>r
 | _, .no r=>r
 | _, .ob _ k=>k.val
 | _, .obD _ _ k=>k.val
 | _, .as _ k=>k.val
 | _, .br b t e=>cond b t.val e.val
 | _, .unk s _ t e=>cond s t.val e.val
 | _, .lt v k=>(k v).val
 | _, .cut k a=>thenS a.val fun x=>(k x).val
 | _, .wh n r step x=>Dy (fun y=>(step y).val) r n x
 | _, .each _ _ l _ c d y=>iH (fun k a y=>(c (↑k:Int) a y).val) (fun k y=>(d (↑k:Int) y).val) l 0 y
 | _, .cnt _ a b c d y=>lu (fun i y=>(c i y).val) (fun i y=>(d i y).val) (b - a).toNat a y
 | _, .EK _ _ _ l _ c d y=>iH (fun k a y=>(c (↑k:Int) a y).val) (fun k y=>(d (↑k:Int) y).val) l 0 y
 | _, .Ov _ _ _ a b c d y=>lu (fun i y=>(c i y).val) (fun i y=>(d i y).val) (b - a).toNat a y
@[simp] theorem ay (r:R):(Pg.ret r).val=r:=rfl
@[simp] theorem aI3 (r:R):(Pg.no r).val=r:=rfl
@[simp] theorem aV (p:Prop) (k:Pg R):(Pg.ob p k).val=k.val:=rfl
@[simp] theorem aIQ (p:Prop) (d:Decidable p) (k:Pg R):(Pg.obD p d k).val=k.val:=rfl
@[simp] theorem di (i:Int) (n:Nat) (k:Pg R):(Pg.ix i n k).val=k.val:=rfl
@[simp] theorem dW (p:Prop) (k:Pg R):(Pg.as p k).val=k.val:=rfl
@[simp] theorem aF (b:Bool) (t e:Pg R):(Pg.br b t e).val=cond b t.val e.val:=rfl
@[simp] theorem aAR (s:Bool) (p:Bool->Prop) (t e:Pg R):(Pg.unk s p t e).val=cond s t.val e.val:=rfl
@[simp] theorem aT (v:A) (k:A->Pg R):(Pg.lt v k).val=(k v).val:=rfl
@[simp] theorem dn (a:Pg (X⊕R)) (k:X->Pg R):(Pg.cut k a).val=thenS a.val fun x=>(k x).val:=rfl
@[simp] theorem qx (n:Nat) (r:R) (step:X->Pg (X⊕R)) (x:X):(Pg.wh n r step x).val=Dy (fun y=>(step y).val) r n x:=rfl
@[simp] theorem dN (h:Bool) (s:Ix X Y) (l:List A) (d:A) (b:Int->A->Y->Pg (Y⊕R)) (c:Int->Y->Pg R) (y:Y):
  (Pg.each h s l d b c y).val=iH (fun k a y=>(b (↑k:Int) a y).val) (fun k y=>(c (↑k:Int) y).val) l 0 y:=rfl
@[simp] theorem lQ (s:Ix X Y) (a b:Int) (c:Int->Y->Pg (Y⊕R)) (d:Int->Y->Pg R) (y:Y):
  (Pg.cnt s a b c d y).val=lu (fun i y=>(c i y).val) (fun i y=>(d i y).val) (b - a).toNat a y:=rfl
@[simp] theorem Yy (e:List Prop) (h:Bool) (s:Ix X Y) (l:List A) (d:A) (b:Int->A->Y->Pg (Y⊕R)) (c:Int->Y->Pg R) (y:Y):
  (Pg.EK e h s l d b c y).val=iH (fun k a y=>(b (↑k:Int) a y).val) (fun k y=>(c (↑k:Int) y).val) l 0 y:=rfl
@[simp] theorem awX (e:List Prop) (q:Option Prop) (s:Ix X Y) (a b:Int) (c:Int->Y->Pg (Y⊕R)) (d:Int->Y->Pg R) (y:Y):
  (Pg.Ov e q s a b c d y).val=lu (fun i y=>(c i y).val) (fun i y=>(d i y).val) (b - a).toNat a y:=rfl
def Is (t:Pg R):Prop:=∀(R':Type) (f:R->R') (e:R'),t.runK R' f e=some (f t.val)\/t.runK R' f e=some e
def Is1 (t:Pg R):Prop:=∀(R':Type) (f:R->R') (e:R'),t.runK R' f e=some (f t.val)
theorem Is1.is {t:Pg R}(h:Is1 t):Is t:=fun R' f e=> .inl (h R' f e)
theorem Is.run {t:Pg R}(h:Is t):t.run t.val=some t.val:=by
 rcases h R id t.val with h | h<;>exact h
theorem is_ret {r:R}:Is (.ret r):=fun _ _ _=> .inl rfl
theorem is_ob {p:Prop}{k:Pg R}(a:p)(b:Is k):Is (.ob p k):=fun R' f e=>by
 simp only[Pg.runK,xN a];exact b R' f e
theorem is_ix {i:Int}{n:Nat}{k:Pg R}(a:0<=i)(c:i < ↑n)(b:Is k):Is (.ix i n k):=is_ob ⟨a,c⟩ b
theorem is_as {p:Prop}{k:Pg R}(b:p->Is k):Is (.as p k):=fun R' f e=>by
 by_cases a:p
 ·simp only[Pg.runK,yJ a];exact b a R' f e
 ·simp only[Pg.runK,CO a]
  grind
theorem is_br {b:Bool}{t e:Pg R}(d:b=true->Is t)(c:b=false->Is e):Is (.br b t e):=fun R' f a=>by
 cases b with
 | true=>exact d rfl R' f a
 | false=>exact c rfl R' f a
theorem is_brd {p:Prop}{a:Decidable p}{t e:Pg R}(c:p->Is t)(b:¬p->Is e):Is (.br (@decide p a) t e):=
 is_br (fun h=>c (Dt h)) (fun h=>b (Qbr h))
theorem is_beq {a b:A}[h:BEq A][f:LawfulBEq A]{t e:Pg R}(d:a=b->Is t)(c:¬a=b->Is e):Is (.br (a==b) t e):=
 is_br (fun h=>d qa4) (fun h=>c qa4)
theorem is_bne {a b:A}[h:BEq A][f:LawfulBEq A]{t e:Pg R}(d:¬a=b->Is t)(c:a=b->Is e):Is (.br (a !=b) t e):=
 is_br (fun h=>d qa4) (fun h=>c qa4)
theorem room_of {n b:Nat}(a:n<=1099511627776)(c:n*b<=140737488355328):bG n b:=⟨a,c⟩
theorem is_lt {v:A}{k:A->Pg R}(h:∀x,x=v->Is (k x)):Is (.lt v k):=h v rfl
theorem is_ltw {n:Int}{k:Int->Pg R}(h:∀x,x=aQ .i64 n->(-9223372036854775808<=n/\n<=9223372036854775807->x=n)->Is (k x)):Is (.lt (aQ .i64 n) k):=
 h _ rfl fun a=>bn (k:= .i64) a
theorem is_cut {a:Pg (X⊕R)}{k:X->Pg R}(d:Is a)(b:∀x,a.val= .inl x->Is (k x)):Is (.cut k a):=fun R' f e=>by
 have h:=d (X⊕R') (Sum.map id f) (.inr e);simp only[Pg.runK,dn];rcases h with h | h
 ·rw[h];cases c:a.val with
  | inl x=>exact b x c R' f e
  | inr r=>exact .inl rfl
 ·rw[h];exact .inr rfl
theorem avo {s:Bool}{p:Bool->Prop}{t e:Pg R}(g:∃b,p b)(d:p true->Is1 t/\t.val=cond s t.val e.val)(c:p false->Is1 e/\e.val=cond s t.val e.val):Is (.unk s p t e):=fun R' f a=>by
 refine .inl ?_;simp only[Pg.runK,aAR];refine abg g (fun h=> ?_) (fun h=> ?_)
 ·rw[(d h).1 R' f a,<-(d h).2]
 ·rw[(c h).1 R' f a,<-(c h).2]
theorem is_clone {l:List A}{b:Nat}(h:bG (0+l.length) b):Is (.unk false (fun b=>b=true->l.length=0) (.ret []) (.ob (bG (0+l.length) b) (.ret l))):=
 avo ⟨false,fun e=>by cases e⟩ (fun a=>⟨fun _ _ _=>rfl,by simp_all⟩) (fun _=>⟨fun R' f e=>by simp only[Pg.runK,xN h];rfl,rfl⟩)
theorem YV {l:List A}{s:Ix X Y}{m:Type}{step:X->Option (X⊕m)}{f:R->m}{e:m}{b:Nat->A->Y->Y⊕R}{g:Nat->Y->R}{d:A}(I:Nat->Y->Prop)
  (o:∀(k:Nat) (y:Y),k < l.length->I k y->step (s.mx ↑k y)=some (match b k (l.getD k d) y with | .inl a=> .inl (s.mx (↑(k+1)) a) | .inr r=> .inr (f r))/\(∀a,b k (l.getD k d) y= .inl a->I (k+1) a)\/step (s.mx ↑k y)=some (.inr e))
  (q:∀y,I l.length y->step (s.mx ↑l.length y)=some (.inr (f (g l.length y)))\/step (s.mx ↑l.length y)=some (.inr e)):
  ∀(n k:Nat) (y:Y),k+n=l.length->I k y->pR step (s.mx ↑k y)=some (f (iH b g (l.drop k) k y))\/pR step (s.mx ↑k y)=some e
 | 0,k,y,c,i=>by
  have c:k=l.length:=by omega
  subst c;rw[xM,Qc];rcases q y i with h | h<;>rw[h]
  ·exact .inl rfl
  grind
 | n+1,k,y,c,i=>by
  have p:k < l.length:=by omega
  rw[xM];have t:l.drop k=l.getD k d::l.drop (k+1):=by
   simp_all
  rw[t];rcases o k y p i with⟨h,u⟩ | h
  ·rw[h];cases j:b k (l.getD k d) y with
   | inl a=>
    have:=YV I o q n (k+1) a aj (u a j);simp only[iH,j];exact this
   | inr r=>
    simp only[iH,j]
    grind
  grind
theorem h_ {k:Nat}(h:k < 9223372036854775807):aQ .i64 ((↑k:Int)+1)=↑(k+1):=by
 rw[bn (k:= .i64) kM];omega
theorem zO {h:Bool}{s:Ix X Y}{l:List A}{d:A}{c:Int->A->Y->Pg (Y⊕R)}{i:Int->Y->Pg R}{y:Y}(I:Nat->Y->Prop)(u:I 0 y)
  (E:h=true\/l.length<=9223372036854775807)
  (D:∀(k:Nat) (y:Y),k < l.length->l.length<=9223372036854775807->I k y->Is (c ↑k (l.getD k d) y)/\∀j,(c ↑k (l.getD k d) y).val= .inl j->I (k+1) j)
  (v:∀y,l.length<=9223372036854775807->I l.length y->Is (i ↑l.length y)):Is (.each h s l d c i y):=fun R' f e=>by
 simp only[Pg.runK,dN];have q:=fun(step:X->Option (X⊕R'))=>YV (l:=l) (s:=s) (step:=step) (f:=f) (e:=e) (b:=fun k a y=>(c (↑k:Int) a y).val) (g:=fun k y=>(i (↑k:Int) y).val) (d:=d) I
 have t:∀(m:l.length<=9223372036854775807) (step:X->Option (X⊕R')),(∀x,step x=cond (decide (s.gi x < (↑l.length:Int))) ((c (s.gi x) (l.getD (s.gi x).toNat d) (s.gy x)).runK (X⊕R') (fun z=>nxI s (s.gi x) (Sum.map id f z)) (.inr e)) ((i (s.gi x) (s.gy x)).runK (X⊕R') (fun r=> .inr (f r)) (.inr e)))->
   (pR step (s.mx 0 y)=some (f (iH (fun k a y=>(c (↑k:Int) a y).val) (fun k y=>(i (↑k:Int) y).val) l 0 y))\/pR step (s.mx 0 y)=some e):=by
  intro m step p;have:=q step (fun k y w n=> ?_) (fun y n=> ?_) l.length 0 y aj u
  ·grind
  ·obtain⟨C,B⟩:=D k y w m n;rw[p,s.h1,s.h2];have o:((k:Nat):Int) < ↑l.length:=by omega
   simp only[o,decide_true,cond_true,qA];rcases C (X⊕R') (fun z=>nxI s ↑k (Sum.map id f z)) (.inr e)with h | h
   ·refine .inl ⟨?_,B⟩;rw[h];cases(c ↑k (l.getD k d) y).val with
    | inl j=>simp only[Sum.map_inl,id_eq,nxI,h_ (show k < 9223372036854775807 by omega)]
    | inr r=>rfl
   ·exact .inr h
  ·rw[p,s.h1,s.h2];simp only[Int.lt_irrefl,decide_false,lL];exact(v y m n) (X⊕R') (fun r=> .inr (f r)) (.inr e)
 grind [CO,yJ,xM]
theorem is_each {h:Bool}{s:Ix X Y}{l:List A}{d:A}{a:Int->A->Y->Pg (Y⊕R)}{b:Int->Y->Pg R}{y:Y}(f:h=true\/l.length<=9223372036854775807)
  (g:∀(k:Nat) (y:Y),k < l.length->l.length<=9223372036854775807->Is (a ↑k (l.getD k d) y)) (c:∀y,l.length<=9223372036854775807->Is (b ↑l.length y)):Is (.each h s l d a b y):=
 zO (fun _ _=>True) trivial f (fun k y e i _=>⟨g k y e i,fun _ _=>trivial⟩) fun y h _=>c y h
theorem aed {b:Int}{s:Ix X Y}{j:Type}{step:X->Option (X⊕j)}{f:R->j}{e:j}{bd:Int->Y->Y⊕R}{g:Int->Y->R}(I:Int->Y->Prop)(q:b<=9223372036854775807)
  (k:∀(i:Int) (y:Y),i < b->I i y->step (s.mx i y)=some (match bd i y with | .inl a=> .inl (s.mx (i+1) a) | .inr r=> .inr (f r))/\(∀a,bd i y= .inl a->I (i+1) a)\/step (s.mx i y)=some (.inr e))
  (m:∀i y,b<=i->I i y->step (s.mx i y)=some (.inr (f (g i y)))\/step (s.mx i y)=some (.inr e)):
  ∀(n:Nat) (i:Int) (y:Y),(b - i).toNat=n->I i y->pR step (s.mx i y)=some (f (lu bd g n i y))\/pR step (s.mx i y)=some e
 | 0,i,y,o,c=>by
  rw[xM];rcases m i y aj c with h | h<;>rw[h]
  ·exact .inl rfl
  grind
 | n+1,i,y,o,c=>by
  have l:i < b:=by omega
  rw[xM];rcases k i y l c with⟨h,p⟩ | h
  ·rw[h];cases d:bd i y with
   | inl a=>
    have:=aed I q k m n (i+1) a aj (p a d);simp only[lu,d];exact this
   | inr r=>
    simp only[lu,d]
    grind
  grind
theorem FO {s:Ix X Y}{a b:Int}{c:Int->Y->Pg (Y⊕R)}{j:Int->Y->Pg R}{y:Y}(I:Int->Y->Prop)(t:I a y)(A: -9223372036854775808<=a)(p:b<=9223372036854775807)
  (x:∀(i:Int) (y:Y),a<=i->i < b->I i y->Is (c i y)/\∀d,(c i y).val= .inl d->I (i+1) d)
  (u:∀i y,a<=i->b<=i->I i y->Is (j i y)):Is (.cnt s a b c j y):=fun R' f e=>by
 simp only[Pg.runK,lQ];refine aed (s:=s) (f:=f) (e:=e) (bd:=fun i y=>(c i y).val) (g:=fun i y=>(j i y).val) (fun i y=>a<=i/\I i y) p (fun i y m l=> ?_) (fun i y n l=> ?_) _ a y rfl ⟨N8 _,t⟩
 ·obtain⟨w,v⟩:=x i y l.1 m l.2;simp only[s.h1,s.h2,m,decide_true,cond_true];rcases w (X⊕R') (fun z=>nxI s i (Sum.map id f z)) (.inr e)with h | h
  ·refine .inl ⟨?_,fun d q=>⟨by omega,v d q⟩⟩;rw[h];have o:aQ .i64 (i+1)=i+1:=bn (k:= .i64) kM;cases(c i y).val with
   | inl d=>simp only[Sum.map_inl,id_eq,nxI,o]
   | inr r=>rfl
  ·exact .inr h
 ·simp only[s.h1,s.h2,show ¬i < b by omega,decide_false,lL];exact(u i y l.1 n l.2) (X⊕R') (fun r=> .inr (f r)) (.inr e)
theorem is_cnt {s:Ix X Y}{a b:Int}{c:Int->Y->Pg (Y⊕R)}{d:Int->Y->Pg R}{y:Y}(h: -9223372036854775808<=a)(k:b<=9223372036854775807)
  (j:∀(i:Int) (y:Y),a<=i->i < b->Is (c i y)) (g:∀i y,a<=i->b<=i->Is (d i y)):Is (.cnt s a b c d y):=
 FO (fun _ _=>True) trivial h k (fun i y e f _=>⟨j i y e f,fun _ _=>trivial⟩) fun i y e f _=>g i y e f
theorem aac {g:List Prop}{h:Bool}{s:Ix X Y}{l:List A}{d:A}{a:Int->A->Y->Pg (Y⊕R)}{b:Int->Y->Pg R}{y:Y}(I:Nat->Y->Prop)(n:I 0 y)(m:aeE g)
  (j:h=true\/l.length<=9223372036854775807)
  (o:∀(k:Nat) (y:Y),k < l.length->l.length<=9223372036854775807->I k y->Is (a ↑k (l.getD k d) y)/\∀c,(a ↑k (l.getD k d) y).val= .inl c->I (k+1) c)
  (i:∀y,l.length<=9223372036854775807->I l.length y->Is (b ↑l.length y)):Is (.EK g h s l d a b y):=fun R' f e=>by
 have:=zO (s:=s) I n j o i R' f e;simp only[Pg.runK,Gm m]at this⊢;exact this
theorem adF {c:List Prop}{h:Bool}{s:Ix X Y}{l:List A}{d:A}{a:Int->A->Y->Pg (Y⊕R)}{b:Int->Y->Pg R}{y:Y}(j:aeE c)(g:h=true\/l.length<=9223372036854775807)
  (i:∀(k:Nat) (y:Y),k < l.length->l.length<=9223372036854775807->Is (a ↑k (l.getD k d) y)) (e:∀y,l.length<=9223372036854775807->Is (b ↑l.length y)):Is (.EK c h s l d a b y):=
 aac (fun _ _=>True) trivial j g (fun k y f m _=>⟨i k y f m,fun _ _=>trivial⟩) fun y h _=>e y h
theorem af4 {j:List Prop}{q:Option Prop}{s:Ix X Y}{a b:Int}{c:Int->Y->Pg (Y⊕R)}{g:Int->Y->Pg R}{y:Y}(I:Int->Y->Prop)(r:I a y)(k:aeE j)(o: -9223372036854775808<=a)(l:rq q->b<=9223372036854775807)
  (p:∀(i:Int) (y:Y),a<=i->i < b->b<=9223372036854775807->I i y->Is (c i y)/\∀h,(c i y).val= .inl h->I (i+1) h)
  (m:∀i y,a<=i->b<=i->I i y->Is (g i y)):Is (.Ov j q s a b c g y):=fun R' f e=>by
 by_cases d:rq q
 ·have:=FO (s:=s) I r o (l d) (fun i y n t=>p i y n t (l d)) m R' f e;simp only[Pg.runK,Gm k,aw6 d]at this⊢;exact this
 ·refine .inr ?_;simp only[Pg.runK,Gm k,aut d];rw[xM]
theorem JB {g:List Prop}{q:Option Prop}{s:Ix X Y}{a b:Int}{c:Int->Y->Pg (Y⊕R)}{d:Int->Y->Pg R}{y:Y}(l:aeE g)(j: -9223372036854775808<=a)(m:rq q->b<=9223372036854775807)
  (k:∀(i:Int) (y:Y),a<=i->i < b->b<=9223372036854775807->Is (c i y)) (h:∀i y,a<=i->b<=i->Is (d i y)):Is (.Ov g q s a b c d y):=
 af4 (fun _ _=>True) trivial l j m (fun i y e f n _=>⟨k i y e f n,fun _ _=>trivial⟩) fun i y e f _=>h i y e f
theorem DL {n:Nat}{d:R}{step:X->Pg (X⊕R)}{x:X}(I:X->Prop)(c:X->Nat)(k:I x)(o:c x < n)
  (i:∀x,I x->Is (step x)/\∀a,(step x).val= .inl a->I a/\c a < c x):Is (.wh n d step x):=fun R' f e=>by
 simp only[Pg.runK,qx];induction n generalizing x with
 | zero=>omega
 | succ n m=>
  rw[xM];obtain⟨j,g⟩:=i x k;rcases j (X⊕R') (Sum.map id f) (.inr e)with h | h
  ·rw[h];cases b:(step x).val with
   | inl a=>
    obtain⟨l,p⟩:=g a b;simp only[Sum.map_inl,id_eq,Dy,b]
    grind
   | inr r=>
    simp only[Sum.map_inr,Dy,b]
    grind
  grind
end
end Go.Vc
namespace Go.Vc
open Go.RowKit
structure Seat (D:Type) where
 P:Program
 S:Sh D
 T:TypeId->Option Ty
 mx:P.follows .mixedOrders=true
 hT:∀t ty,T t=some ty->TyOk P t ty
 hS:ShOk S
structure bi {D:Type}(Z:Seat D) where
 f:FuncId
 ct:Ct D
 ok:CtOk Z.P Z.S f ct
section
variable {D:Type}{Z:Seat D}
def Di:List (bi Z)->FuncId->Option (Ct D)
 | [],_=>none
 | e::r,f=>if Nat.beq f e.f then(match Di r f with
  | some c=>some (as9 e.ct c)
  | none=>some e.ct)else Di r f
theorem Fz:∀{l:List (bi Z)} {f:FuncId} {a:Ct D},Di l f=some a->CtOk Z.P Z.S f a
 | [],f,a,h=>by cases h
 | e::r,f,a,h=>by
  unfold Di at h;split at h
  ·rename_i b;have b:=Qa b;subst b;split at h
   ·rename_i c d;injection h with h
    subst h;exact acz e.ok (Fz d)
   ·injection h with h
    subst h;exact e.ok
  ·exact Fz h
structure Sh1 (S:Sh D):Type 1 where
 i:Nat
 sh:Shp D
 ok:ShpOk S sh
def jS {S:Sh D}(i:Nat)(a:Shp D)[h:ShpOk S a]:Sh1 S:=⟨i,a,h⟩
def jL {S:Sh D}:List (Sh1 S)->Nat->Option (Shp D)
 | [],_=>none
 | s::r,n=>if Nat.beq n s.i then some s.sh else jL r n
theorem aCF {S:Sh D}:∀{l:List (Sh1 S)} {i:Nat} {a:Shp D},jL l i=some a->ShpOk S a
 | [],i,a,h=>by cases h
 | s::r,i,a,h=>by
  unfold jL at h;split at h
  ·injection h with h
   subst h;exact s.ok
  ·exact aCF h
def AA (a:Func):Code:=a.body.getD .skip
def uS (a:Func):Bool:=a.body.isSome && (a.name != "runtime.NumGoroutine" && drawsOk (AA a))
def xB (Z:Seat D)(g:FuncId->Option (Ct D))(J:Nat->Option (Shp D))(c:qF D)(d:Shp D)(f:Nat)(b:List Nat)(e:Func)(n:Nat)(a:c.A):Tr D d.X:=
 evT Z.T Z.S g n J (AA e) d.X (St.init (c.enc a).1 (c.enc a).2) (aGL Z.T Z.S e.results.toList d f b)
theorem ahw {Γ:FuncId->Option (Ct D)}(r:∀f q,Γ f=some q->CtOk Z.P Z.S f q){J:List (Sh1 Z.S)}{AS:qF D}{RS:Shp D}{eG n:Nat}{keep:List Nat}{f:FuncId}{d:Func}(p:Qi Z.S AS eG n)(m:ShpOk Z.S RS)
  (v:Z.P.funcs[f]? =some d) (B:d.ntmps=n) (t:uS d=true) (k:Nat) (y:d.results.toList.length=k) (F:AS.A->Pg RS.X) (b:AS.A->Option Prop) (g:∀a e,rq (b a)->(F a).run e=(xB Z Γ (jL J) AS RS eG keep d n a).run e)
  (j:AS.A->RS.X) (o:∀a,rq (b a)->Is (F a)/\(F a).val=j a):CtOk Z.P Z.S f (qQ AS RS k keep b j):=by
 subst y;simp only[uS,iZ,Qdp,ne_eq]at t;obtain⟨w,x,G⟩:=t;obtain⟨c,s⟩:=Qbj.1 w;have C:AA d=c:=by simp[AA,s]
 refine aC_ (J:=jL J) Z.mx Z.hT r Z.hS (fun i E h=>aCF (l:=J) h) v s (by simpa using x) B rfl dm p m b j fun a u=> ?_;obtain⟨A,z⟩:=o a u;have h:=g a (F a).val u;rw[A.run,z]at h;unfold xB at h
 grind
theorem iy {d:qF D}{i:Shp D}{k:Nat}{e:List Nat}{f:FuncId}{j:Func}(n:Z.P.funcs[f]? =some j)(l:uS j=true){b:d.A->Option Prop}{v:d.A->i.X}(x:∀a,rq (b a)->False):
  CtOk Z.P Z.S f (qQ d i k e b v):=by
 simp only[uS,iZ,Qdp,ne_eq]at l;obtain⟨o,q,C⟩:=l;obtain⟨c,t⟩:=Qbj.1 o;refine⟨fun args w=>by simp[callFunc,n,q,t],fun X N g w args z y p r u A B m h s=> ?_⟩;unfold qQ at h
 grind [Eb]
noncomputable def vP (Z:Seat D)(q:List (bi Z))(J:List (Sh1 Z.S))(c:qF D){p n:Nat}(o:Qi Z.S c p n)(d:Shp D)[l:ShpOk Z.S d](h:List Nat){f:FuncId}{g:Func}
  (r:Z.P.funcs[f]? =some g) (t:g.ntmps=n) (u:uS g=true) (k:Nat) (s:g.results.toList.length=k) (F:c.A->Pg d.X) (b:c.A->Option Prop) (i:∀a e,rq (b a)->(F a).run e=(xB Z (Di q) (jL J) c d p h g n a).run e)
  (j:c.A->d.X) (m:∀a,rq (b a)->Is (F a)/\(F a).val=j a):bi Z:=
 ⟨f,qQ c d k h b j,ahw (fun _ _=>Fz) o l r t u k s F b i j m⟩
end
end Go.Vc
namespace Go.Vc
section
variable {A R Y:Type}
def mY (p:A->Bool):List A->Nat->Int
 | [],_=> -1
 | a::l,k=>bif p a then(↑k:Int)else mY p l (k+1)
def dO (p:A->Bool)(l:List A):Int:=mY p l 0
theorem vV (p:A->Bool):∀(l:List A) (k:Nat),iH (fun k a (_:Unit)=>cond (p a) (.inr (↑k:Int)) (.inl ())) (fun _ _=>(-1:Int)) l k ()=mY p l k
 | [],_=>rfl
 | a::l,k=>by
  unfold iH mY;cases p a with
  | true=>rfl
  | false=>exact vV p l (k+1)
theorem Pj (p:A->Bool):∀(l:List A) (k:Nat),(mY p l k= -1/\∀a∈l,p a=false)\/∃(u:List A) (a:A) (v:List A),l=u++a::v/\p a=true/\(∀x∈u,p x=false)/\mY p l k=↑(k+u.length)
 | [],k=> .inl ⟨rfl,fun a h=>by simp at h⟩
 | a::l,k=>by
  unfold mY;cases d:p a with
  | true=>exact .inr ⟨[],a,l,rfl,d,(fun x h=>by simp at h),rfl⟩
  | false=>
   rcases Pj p l (k+1)with⟨c,f⟩ | ⟨u,b,v,c,f,j,i⟩
   ·refine .inl ⟨c,fun b g=> ?_⟩;rcases yw.1 g with rfl | g
    ·exact d
    ·exact f b g
   ·refine .inr ⟨a::u,b,v,by rw[c];rfl,f,fun x e=> ?_,?_⟩
    ·rcases yw.1 e with rfl | e
     ·exact d
     ·exact j x e
    ·simp only[lL,i,JV];congr 1;omega
theorem oN (p:A->Bool)(l:List A):(dO p l= -1/\∀a∈l,p a=false)\/∃(u:List A) (a:A) (v:List A),l=u++a::v/\p a=true/\(∀x∈u,p x=false)/\dO p l=↑u.length:=by
 have:=Pj p l 0;unfold dO
 grind
theorem jy (p:A->Bool)(l:List A):dO p l < l.length/\ -1<=dO p l:=by
 grind [oN]
theorem ak1 (p:A->Bool)(l:List A)(d:A)(h:0<=dO p l):p (l.getD (dO p l).toNat d)=true:=by
 grind [oN]
theorem ZK {b c:Nat->A->Y->Y⊕R}{f d:Nat->Y->R}:∀(l:List A) (k:Nat) (y:Y),(∀j a y,k<=j->j < k+l.length->b j a y=c j a y)->(∀y,f (k+l.length) y=d (k+l.length) y)->iH b f l k y=iH c d l k y
 | [],k,y,_,h=>h y
 | a::l,k,y,e,i=>by
  unfold iH;rw[e k a y (pJ _) jQ];cases c k a y with
  | inl g=>exact ZK l (k+1) g (fun j a y m n=>e j a y aj dm) (fun y=>by grind)
  | inr r=>rfl
theorem YU (g:Y->A->Y)(f:Nat->Y->R):∀(l:List A) (k:Nat) (y:Y),iH (fun _ a y=> .inl (g y a)) f l k y=f (k+l.length) (l.foldl g y)
 | [],k,y=>rfl
 | a::l,k,y=>by
  have:=YU g f l (k+1) (g y a);show iH (fun _ a y=> .inl (g y a)) f l (k+1) (g y a)=_
  grind
theorem JF {X:Type}{step:X->X⊕R}{f:R}(I:X->Prop)(b:X->Nat)(Q:R->Prop)(d:∀x,I x->(∃a,step x= .inl a/\I a/\b a < b x)\/∃r,step x= .inr r/\Q r):∀(n:Nat) (x:X),I x->b x < n->Q (Dy step f n x)
 | 0,x,_,h=>by omega
 | n+1,x,g,h=>by
  unfold Dy;rcases d x g with⟨a,c,e,i⟩ | ⟨r,c,e⟩
  ·rw[c];exact JF I b Q d n a e aj
  grind
theorem VG (p:A->Bool):∀(u:List A) (a:A) (v:List A) (k:Nat),(∀x∈u,p x=false)->p a=true->mY p (u++a::v) k=↑(k+u.length)
 | [],a,v,k,_,h=>by simp[mY,h]
 | x::u,a,v,k,b,h=>by
  simp only[Qbn,mY,b x jQ,lL];rw[VG p u a v (k+1) (fun y c=>b y (by simp[c])) h]
  grind
theorem awO (p:A->Bool)(u:List A)(a:A)(v:List A)(b:∀x∈u,p x=false)(h:p a=true):dO p (u++a::v)=↑u.length:=by
 have:=VG p u a v 0 b h;rwa [Bc]at this
theorem getD_mem {l:List A}{i:Nat}{d:A}(h:i < l.length):l.getD i d∈l:=by
 grind
theorem ao7 (b:Int->Y->Y⊕R)(f:Int->Y->R)(n:Nat)(i:Int)(y:Y):lu b f (n+1) i y=thenS (b i y) (lu b f n (i+1)):=by
 rfl
theorem ET (b:Int->Unit->Unit⊕R)(f:Int->Unit->R)(n:Nat)(i:Int):lu b f (n+1) i ()=thenS (b i ()) fun _=>lu b f n (i+1) ():=
 (ao7 b f n i ()).trans (II (thenS (b i ())) (funext fun u=>rfl))
theorem Np (b:Int->Y->Y⊕R)(f:Int->Y->R)(i:Int)(y:Y):lu b f 0 i y=f i y:=rfl
theorem ah3 {X:Type}(c:Bool)(a b:X⊕R)(k:X->R):thenS (cond c a b) k=cond c (thenS a k) (thenS b k):=by cases c<;>rfl
end
end Go.Vc
namespace Go.Vc
section
variable {R A X Y:Type}
def gU (t:Pg R)(Q:R->Prop):Prop:=Is t/\Q t.val
theorem gU.is {t:Pg R}{Q:R->Prop}(h:gU t Q):Is t:=h.1
theorem af {Q:R->Prop}{r:R}(h:Q r):gU (.ret r) Q:=⟨is_ret,h⟩
theorem ah {Q:R->Prop}{p:Prop}{k:Pg R}(b:p)(a:gU k Q):gU (.ob p k) Q:=⟨is_ob b a.1,a.2⟩
theorem aH {Q:R->Prop}{i:Int}{n:Nat}{k:Pg R}(a:0<=i)(c:i < ↑n)(b:gU k Q):gU (.ix i n k) Q:=ah ⟨a,c⟩ b
theorem bZ {Q:R->Prop}{p:Prop}{k:Pg R}(a:gU k Q):gU (.as p k) Q:=⟨is_as fun _=>a.1,a.2⟩
theorem bH {Q:R->Prop}{b:Bool}{t e:Pg R}(c:b=true->gU t Q)(a:b=false->gU e Q):gU (.br b t e) Q:=
 ⟨is_br (fun h=>(c h).1) (fun h=>(a h).1),by
  cases b with
  | true=>exact(c rfl).2
  | false=>exact(a rfl).2⟩
theorem aU {Q:R->Prop}{p:Prop}{a:Decidable p}{t e:Pg R}(c:p->gU t Q)(b:¬p->gU e Q):gU (.br (@decide p a) t e) Q:=
 bH (fun h=>c (Dt h)) (fun h=>b (Qbr h))
theorem bI {Q:R->Prop}{a b:A}[h:BEq A][f:LawfulBEq A]{t e:Pg R}(d:a=b->gU t Q)(c:¬a=b->gU e Q):gU (.br (a==b) t e) Q:=
 bH (fun h=>d qa4) (fun h=>c qa4)
theorem bu {Q:R->Prop}{a b:A}[h:BEq A][f:LawfulBEq A]{t e:Pg R}(d:¬a=b->gU t Q)(c:a=b->gU e Q):gU (.br (a !=b) t e) Q:=
 bH (fun h=>d qa4) (fun h=>c qa4)
theorem au {Q:R->Prop}{v:A}{k:A->Pg R}(h:∀x,x=v->gU (k x) Q):gU (.lt v k) Q:=h v rfl
theorem qo {Q:R->Prop}{n:Int}{k:Int->Pg R}(h:∀x,x=aQ .i64 n->(-9223372036854775808<=n/\n<=9223372036854775807->x=n)->gU (k x) Q):gU (.lt (aQ .i64 n) k) Q:=
 h _ rfl fun a=>bn (k:= .i64) a
theorem bg {Q:R->Prop}(c:X->Prop){a:Pg (X⊕R)}{k:X->Pg R}(d:gU a (Sum.elim c Q))(e:∀x,c x->gU (k x) Q):gU (.cut k a) Q:=by
 have b:∀x,a.val= .inl x->c x:=fun x f=>by
  have:=d.2
  grind
 refine⟨is_cut d.1 fun x f=>(e x (b x f)).1,?_⟩;rw[dn];have h:=d.2;cases g:a.val with
 | inl x=>exact(e x (b x g)).2
 | inr r=>simp_all
theorem Gp {b:Nat->A->Y->Y⊕R}{f:Nat->Y->R}{d:A}{Q:R->Prop}(I:Nat->Y->Prop):∀(l:List A) (k:Nat) (y:Y),I k y->(∀j y,j < l.length->I (k+j) y->Sum.elim (I (k+j+1)) Q (b (k+j) (l.getD j d) y))->(∀y,I (k+l.length) y->Q (f (k+l.length) y))->Q (iH b f l k y)
 | [],k,y,g,_,h=>h y g
 | a::l,k,y,g,i,h=>by
  unfold iH;have c:=i 0 y jQ g;have e:(a::l).getD 0 d=a:=rfl;rw[e]at c;simp only[XE]at c;cases n:b k a y with
  | inr r=>grind
  | inl m=>
   rw[n]at c;refine Gp (d:=d) I l (k+1) m c (fun j z p o=> ?_) (fun z o=> ?_)
   ·have:=i (j+1) z vH dm
    grind
   grind
theorem bC {Q:R->Prop}{h:Bool}{s:Ix X Y}{l:List A}{d:A}{a:Int->A->Y->Pg (Y⊕R)}{c:Int->Y->Pg R}{y:Y}(I:Nat->Y->Prop)(i:I 0 y)(o:l.length<=9223372036854775807)
  (e:∀(k:Nat) (y:Y),k < l.length->I k y->gU (a ↑k (l.getD k d) y) (Sum.elim (I (k+1)) Q)) (f:∀y,I l.length y->gU (c ↑l.length y) Q):gU (.each h s l d a c y) Q:=by
 refine⟨zO I i (.inr o) (fun k y g _ m=>⟨(e k y g m).1,fun p q=> ?_⟩) (fun y _ h=>(f y h).1),?_⟩
 ·have:=(e k y g m).2
  grind
 ·rw[dN];refine Gp (d:=d) I l 0 y i (fun j y n b=> ?_) (fun y b=> ?_)
  ·rw[Bc]at b⊢;exact(e j y n b).2
  ·rw[Bc]at b⊢;exact(f y b).2
theorem Na {Q:R->Prop}{g:List Prop}{h:Bool}{s:Ix X Y}{l:List A}{d:A}{a:Int->A->Y->Pg (Y⊕R)}{b:Int->Y->Pg R}{y:Y}(I:Nat->Y->Prop)(j:I 0 y)(n:aeE g)(i:l.length<=9223372036854775807)
  (c:∀(k:Nat) (y:Y),k < l.length->I k y->gU (a ↑k (l.getD k d) y) (Sum.elim (I (k+1)) Q)) (e:∀y,I l.length y->gU (b ↑l.length y) Q):gU (.EK g h s l d a b y) Q:=by
 have:=bC (h:=h) (s:=s) I j i c e;refine⟨aac I j n (.inr i) (fun k y f _ m=>⟨(c k y f m).1,fun o p=> ?_⟩) (fun y _ h=>(e y h).1),this.2⟩;have:=(c k y f m).2
 grind
theorem ES {b:Int->Y->Y⊕R}{f:Int->Y->R}{Q:R->Prop}(I:Int->Y->Prop)(e:Int):∀(n:Nat) (i:Int) (y:Y),(e - i).toNat=n->I i y->(∀i y,i < e->I i y->Sum.elim (I (i+1)) Q (b i y))->(∀i y,e<=i->I i y->Q (f i y))->Q (lu b f n i y)
 | 0,i,y,k,c,_,a=>a i y aj c
 | n+1,i,y,k,c,g,a=>by
  unfold lu;have d:=g i y aj c;cases j:b i y with
  | inr r=>grind
  | inl h=>rw[j]at d;exact ES I e n (i+1) h aj d g a
theorem rO {Q:R->Prop}{s:Ix X Y}{a b:Int}{e:Int->Y->Pg (Y⊕R)}{g:Int->Y->Pg R}{y:Y}(I:Int->Y->Prop)(k:I a y)(n: -9223372036854775808<=a)(o:b<=9223372036854775807)
  (j:∀(i:Int) (y:Y),a<=i->i < b->I i y->gU (e i y) (Sum.elim (I (i+1)) Q)) (l:∀i y,a<=i->b<=i->I i y->gU (g i y) Q):gU (.cnt s a b e g y) Q:=by
 refine⟨FO I k n o (fun i y c f d=>⟨(j i y c f d).1,fun m p=> ?_⟩) (fun i y c f h=>(l i y c f h).1),?_⟩
 ·have:=(j i y c f d).2
  grind
 ·rw[lQ];refine ES (fun i y=>a<=i/\I i y) b _ a y rfl ⟨N8 _,k⟩ (fun i y c d=> ?_) (fun i y c d=>(l i y d.1 c d.2).2);have:=(j i y d.1 c d.2).2;cases q:(e i y).val with
  | inr r=>grind
  | inl m=>grind
theorem kQ {Q:R->Prop}{n:Nat}{g:R}{step:X->Pg (X⊕R)}{x:X}(I:X->Prop)(a:X->Nat)(f:I x)(e:a x < n)
  (d:∀x,I x->gU (step x) (Sum.elim (fun b=>I b/\a b < a x) Q)):gU (.wh n g step x) Q:=by
 refine⟨DL I a f e fun x c=>⟨(d x c).1,fun b h=> ?_⟩,?_⟩
 ·have:=(d x c).2
  grind
 ·rw[qx];refine JF I a Q (fun x c=> ?_) n x f e;have:=(d x c).2;cases i:(step x).val with
  | inl b=>grind
  | inr r=>grind
end
end Go.Vc
namespace Go.Vc
open Go.RowKit Go.ChangeShapes Go.WideShapes Go.ChangeAt Go.Joins
structure Sz (P:Program) where
 M:{H:Type}->TypeId->DataW H->Nat->Prop
 str:∀{H:Type} {t:TypeId} {s:List UInt8} {n:Nat},M (H:=H) t (.lit (.string s)) n->s.length<=n
 sl:∀{H:Type} {t e:TypeId} {el sp:List (DataW H)} {n:Nat},P.underlying t=some (.slice e)->1<=P.bytesOf e->M t (.slice el sp) n->el.length<=n/\∀d∈el,M e d n
 st:∀{H:Type} {t:TypeId} {fs:Array Field} {ps:List (DataW H)} {n:Nat},P.underlying t=some (.struct fs)->M t (.agg ps) n->∀(i:Nat) (f:Field) (p:DataW H),fs[i]? =some f->ps[i]? =some p->M f.type p n
section
variable {D α β:Type}{S:Sh D}{P:Program}{Z:Sz P}{F:Nat}
def dX (F:Nat)(P:Program)(S:Sh D)(Z:Sz P)(t:TypeId)(c:iT D α)(f:Nat->α->Prop):Prop:=
 ∀{H:Type} {enc:TypeId×Value->H} {w:World} {g:Nat} {d:Nat->Bool} {e:Bool} {b:Nat} {cs:List Value} {x:DataW H×List MemPlace},
  b < F->DataW.trod enc P w g d e b t cs=some x->∃a,aW S NoN w noG (c.enc a) cs/\∀n,Z.M t x.1 n->f n a
theorem iO {t:TypeId}{c:iT D α}{b:α->Prop}(h:akG P S t c b):dX F P S Z t c fun _ a=>b a:=by
 intro H enc w g d e f cs x _ i;obtain⟨a,j,k⟩:=h i
 grind
theorem DR {t:TypeId}{c:iT D α}{d b:Nat->α->Prop}(h:dX F P S Z t c d)(m:∀n a,d n a->b n a):dX F P S Z t c b:=by
 intro H enc w j e f i cs x k g;obtain⟨a,l,o⟩:=h k g
 grind
theorem TF {t:TypeId}{c:iT D α}{a:Nat->α->Prop}:dX 0 P S Z t c a:=by
 intro H enc w f b d e cs x g;omega
theorem iq {t:TypeId}(d:P.underlying t=some .string):dX F P S Z t cStr fun n s=>s.length<=n:=by
 intro H enc w i f g h cs x _ e;obtain⟨a,b,l⟩:=anr (S:=S) d e;obtain⟨s,j,k,_⟩:=DataW.trod_string d e;refine⟨a,b,fun n c=> ?_⟩;rw[k]at c;have:=Z.str c;rw[j]at b;have b:Value.string s= .string ⟨a.toArray⟩/\_:=b.1
 grind
def Lp (F:Nat)(P:Program)(S:Sh D)(Z:Sz P)(k:List Field)(d:Nat)(c:iT D α)(g:Nat->α->Prop):Prop:=
 ∀{H:Type} {enc:TypeId×Value->H} {w:World} {h:Nat} {b:Nat->Bool} {e:Bool} {m:Nat} {cs:List Value} (j:List (DataW H)),m < F->
  (∀(i:Nat) (f:Field),k[i]? =some f->∃x:DataW H×List MemPlace,DataW.trod enc P w h b e m f.type ((cs.drop f.offset).take (P.cellsOf f.type))=some x/\j[i]? =some x.1)->cs.length=d+c.n->
  ∃a,aW S NoN w noG (c.enc a) (cs.drop d)/\∀n,(∀(i:Nat) (f:Field) (p:DataW H),k[i]? =some f->j[i]? =some p->Z.M f.type p n)->g n a
theorem gm {f:Field}{d:Nat}{c:iT D α}{b:Nat->α->Prop}(j:f.offset=d)(n:P.cellsOf f.type=c.n)(h:dX F P S Z f.type c b):Lp F P S Z [f] d c b:=by
 intro H enc w l g k m cs q o i r;obtain⟨x,e,s⟩:=i 0 f rfl;rw[j,n,Qb2 vH]at e;obtain⟨a,p,t⟩:=h o e
 grind
theorem aZ {f:Field}{u:List Field}{g:Nat}{c:iT D α}{d:iT D β}{j:Nat->α->Prop}{e:Nat->β->Prop}(B:f.offset=g)(L:P.cellsOf f.type=c.n)(h:dX F P S Z f.type c j)(G:Lp F P S Z u (g+c.n) d e):
  Lp F P S Z (f::u) g (df c d) fun n p=>j n p.1/\e n p.2:=by
 intro H enc w K z I m cs J o q C;obtain⟨x,r,E⟩:=q 0 f rfl;rw[B,L]at r;obtain⟨a,N,t⟩:=h o r;obtain⟨b,M,s⟩:=G (J.drop 1) o (fun i l k=>by
  obtain⟨y,A,Q⟩:=q (i+1) l (by simpa using k);exact⟨y,A,by grind⟩) (by simp only[df]at C;omega)
 refine⟨(a,b),?_,fun n v=>⟨t n (v 0 f x.1 rfl E),s n fun i l p k O=>v (i+1) l p (by simpa using k) dm⟩⟩;have:=aW.app N M;rw[<-List.drop_drop,Qa3]at this;exact this
theorem ru {t:TypeId}{j:Array Field}{c:iT D α}{d:Nat->α->Prop}{f:α->β}{g:β->α}(A:P.underlying t=some (.struct j))(K:P.cellsOf t=c.n)(y:∀a,g (f a)=a)(h:Lp F P S Z j.toList 0 c d):
  dX (F+1) P S Z t (nR c f g) fun n b=>d n (g b):=by
 intro H enc w z q v B cs x I u;obtain⟨k,m,M,E,J,s,r⟩:=DataW.trod_struct A u;obtain⟨a,C,G⟩:=h (m:=m) (cs:=cs) (k.map (·.1)) aj (fun i o p=>by
  have l:j[i]? =some o:=by simpa using p
  have e:i < k.length:=by grind
  exact⟨k[i],by rw[r i o l];simp[e],by simp[e]⟩) aj
 refine⟨f a,by simp only[nR,y];simpa using C,fun n L=> ?_⟩
 grind [Sz.st]
theorem dX.mono {b:Nat}{t:TypeId}{c:iT D α}{a:Nat->α->Prop}(h:dX F P S Z t c a)(k:b<=F):dX b P S Z t c a:=by
 intro H enc w g d e f cs x j i;exact h aj i
theorem fU {t:TypeId}{e:Array Field}{c:iT D α}{d:Nat->α->Prop}{f:α->β}{g:β->α}(q:P.underlying t=some (.struct e))(p:P.cellsOf t=c.n)(l:∀a,g (f a)=a)(h:Lp F P S Z e.toList 0 c d):
  dX F P S Z t (nR c f g) fun n b=>d n (g b):=by
 intro H enc w o i j m cs x r k;exact ru q p l h aj k
theorem gp {t e:TypeId}{b:iT D α}{k:Nat->α->Prop}{f:List α->D}{Y:D->Option (List α)}{dflt:α}(O:P.underlying t=some (.slice e))(M:1<=P.bytesOf e)(hn:P.cellsOf e=b.n)(hce:bQ S b)(h:dX F P S Z e b k)
  (G:∀l,S.size (f l)=b.n) (s:∀l,S.len (f l)=l.length) (Q:∀l i j,S.cell (f l) i j=(b.enc (l.getD i dflt)).getD j .any) (I:∀l,S.mp (f l)=none:=by intro _;rfl):
  dX F P S Z t (tX f Y []) fun n l=>l.length<=n/\∀a∈l,k n a:=by
 intro H enc w A T held fuel cs x hF hx;rcases DataW.trod_slice O hx with⟨rfl,_⟩ | ⟨z,q,cap,o,W,m,hfm,rfl,L,hb,hl,hm,hlen,K,_,_⟩
 ·refine⟨[],⟨?_,trivial⟩,fun n _=>⟨by simp,fun a v=>by simp at v⟩⟩;have hz:S.len (f [])=0:=s [];intro w' _;have:=CS.mk (S:=S) (w:=w') (f []) (I []) none 0 (fun _ _=> .bool false) aj aj (fun i j c _=>by omega) (fun i j c _=>by omega) (fun i j _ c _=>by omega)
  grind
 ·have B:∀i,i < q->∃a,(∃r,w.cells? A (z.add (i*b.n)) b.n=some r/\aW S NoN w noG (b.enc a) r)/\∀n,(∀y,o[i]? =some y->Z.M e y.1 n)->k n a:=by
   intro i c;have:=K i c;have J:i < o.length:=by omega
   rw[Qas J,hn,Option.bind_eq_some_iff]at this;obtain⟨r,N,hy⟩:=this;obtain⟨a,v,hga⟩:=h aj hy
   grind
  obtain⟨l,C,X⟩:=afr q B;refine⟨l,⟨?_,trivial⟩,fun n R=> ?_⟩
  ·have key:∀i j,i < l.length->j < b.n->∃u,w.cell? (z.add (i*b.n+j))=some u/\((b.enc (l.getD i dflt)).getD j .any).Rel S NoN w noG u/\((b.enc (l.getD i dflt)).getD j .any).jr=true:=by
    intro i j c g;obtain⟨⟨r,N,p⟩,_⟩:=X i c;obtain⟨_,hvl,V⟩:=World.cells?_some N
    grind [bQ.data,bQ.len,aW.getD',add_add',getD_some]
   have U:∀i j,∃u,i < l.length->j < b.n->w.cell? (z.add (i*b.n+j))=some u/\((b.enc (l.getD i dflt)).getD j .any).Rel S NoN w noG u/\((b.enc (l.getD i dflt)).getD j .any).jr=true:=by
    intro i j;by_cases c:i < l.length
    ·by_cases g:j < b.n
     ·grind
     ·exact⟨undef,fun _ h=>absurd h g⟩
    ·exact⟨undef,fun h=>absurd h c⟩
   have:=afY (S:=S) (w:=w) (d:=f l) (a:=some z) (n:=q) (cap:=cap) (by rw[s,C]) hl (by unfold maxLen at hm;omega) (fun i j=>Classical.choose (U i j)) (fun i j c g=> ?_) (fun i j c g=> ?_) (fun i j d' c g E=> ?_)
   ·exact this (I l)
   ·grind
   ·rw[s]at c;rw[G]at g;rw[Q l i j];obtain⟨_,p,hd⟩:=Qcs (U i j) c g;exact(Ii (w':=w) hd p (fun _ _ _=>rfl)).1
   ·rw[s]at c;rw[G]at g;rw[Q l i j]at E;have p:=(Qcs (U i j) c g).2.1;generalize Classical.choose (U i j)=u at p⊢;rw[E]at p;exact p
  ·rw[L]at R;obtain⟨k1,k2⟩:=Z.sl O M R;refine⟨by grind,fun a v=> ?_⟩;obtain⟨i,c,rfl⟩:=List.getElem_of_mem v
   grind
def aaZ (P:Program)(S:Sh D)(Z:Sz P)(t:TypeId)(c:Arg D α)(b:Nat->α->Prop):Prop:=
 ∀{H:Type} {enc:TypeId×Value->H} {w:World} {r:Reach} {e:Nat} {v:Value} {d:DataW H} {f:List MemPlace},Value.okWide P w r e t v->DataW.Trod enc P w 0 (fun _=>true) true t v d f->∃a,(c.enc a).Rel S NoN w noG v/\∀n,Z.M t d n->b n a
theorem anZ {t:TypeId}{f:TypeDesc}{c:iT D α}{e:Nat->α->Prop}(m:P.underlying t=some f)(q:aHJ f=true)(y:bQ S c)(u:c.n=1)(h:∀F,dX F P S Z t c e):aaZ P S Z t (aLf c) e:=by
 intro H enc w r p v d z b n;obtain⟨g,k⟩:=n;have s:v.cells.toList=[v]:=by
  simp only[Value.okWide,m]at b;cases f<;>simp[aHJ]at q
  all_goals (simp only[Cell.okWide,m]at b;cases v<;>simp_all [Cell.ok,Value.cells])
 rw[s]at k;obtain⟨a,j,o⟩:=h (g+1) (Qcn _) k;refine⟨a,?_,o⟩;have l:=y.len a;simp only[aLf];generalize c.enc a=i at j l;cases i with
 | nil=>exact j.elim
 | cons x i=>
  cases i with
  | cons _ _=>simp[u]at l
  | nil=>exact j.1
theorem aha {t:TypeId}{n:Array Field}{c:iT D α}{e:Nat->α->Prop}(m:P.underlying t=some (.struct n))(h:∀F,dX F P S Z t c e):aaZ P S Z t (aAgg c) e:=by
 intro H enc w r k v d o b g;obtain⟨f,i⟩:=g;simp only[Value.okWide,m]at b;obtain⟨cs,rfl,_⟩:=b;obtain⟨a,l,j⟩:=h (f+1) (Qcn _) i;exact⟨a,⟨cs.toList,by simp,by simpa[Value.cells]using l⟩,j⟩
def acX (P:Program)(S:Sh D)(Z:Sz P)(e:List TypeId)(c:ACod D α)(f:Nat->α->Prop):Prop:=
 ∀{H:Type} {enc:TypeId×Value->H} {w:World} {r:Reach} {g:Nat} {b:List Value} {h:List (DataW H)} {i:List MemPlace},(∀(j:Nat) t v,e[j]? =some t->b[j]? =some v->Value.okWide P w r g t v)->
  DataW.TrodAll enc P w 0 (fun _=>true) true e b h i->∃a,eF S NoN w noG (c.enc a) b/\∀n,(∀(j:Nat) t d,e[j]? =some t->h[j]? =some d->Z.M t d n)->f n a
theorem aq5 {t:TypeId}{c:Arg D α}{b:Nat->α->Prop}(h:aaZ P S Z t c b):acX P S Z [t] (a1 c) b:=by
 intro H enc w r k x u y e f;obtain⟨v,s,d,o,p,q,rfl,rfl,rfl,g,i⟩:=trodAll_cons f;obtain⟨rfl,rfl,rfl⟩:=trodAll_nil i;obtain⟨a,l,j⟩:=h (e 0 t v rfl rfl) g;exact⟨a,⟨l,trivial⟩,fun n m=>j n (m 0 t d rfl rfl)⟩
theorem agi {t:TypeId}{l:List TypeId}{c:Arg D α}{r:ACod D β}{g:Nat->α->Prop}{e:Nat->β->Prop}(h:aaZ P S Z t c g)(x:acX P S Z l r e):acX P S Z (t::l) (aCons c r) fun n p=>g n p.1/\e n p.2:=by
 intro H enc w r A K J L f s;obtain⟨v,I,d,G,p,q,rfl,rfl,rfl,h1,k⟩:=trodAll_cons s;obtain⟨a,F,y⟩:=h (f 0 t v rfl rfl) h1;obtain⟨b,C,m⟩:=x (fun j i E h1 k=>f (j+1) i E qbt (by simpa using k)) k;exact⟨(a,b),⟨F,C⟩,fun n o=>⟨y n (o 0 t d rfl rfl),m n fun j i u B z=>o (j+1) i u (by simpa using B) (by simpa using z)⟩⟩
theorem aiV {f:FuncId}{c:ACod D α}{i:α->Option Prop}{m:Nat->α->Prop}{ts:List TypeId}(n:Nat)(z:CtOk P S f (qQ (args c) arP 1 [] i (fun _=>true)))(s:∀a,c.dec (c.enc a)=some a)(o:acX P S Z ts c m)
  (x:∀a,m n a->rq (i a)) {H:Type} {A:TypeId×Value->H} {w:World} {r:Reach} {q:Nat} {vs:List Value} {y:List (DataW H)} {I:List MemPlace}
  (M:ac4 S NoN w) (L:∀(j:Nat) t d,ts[j]? =some t->y[j]? =some d->Z.M t d n) (p:∀(j:Nat) t v,ts[j]? =some t->vs[j]? =some v->Value.okWide P w r q t v) (E:DataW.TrodAll A P w 0 (fun _=>true) true ts vs y I):
  Calls P f vs.toArray w fun e B=>e= .returned (.bool true)/\Below w.heap.size w B:=by
 obtain⟨a,Q,J⟩:=o p E;have C:=x a (J n L);have N:aS NoN (jD ([]:List (Bk D))) noG=NoN:=by
  funext b;simp[aS,jD,hot]
 have F:Hp S ⟨w,fun _=>False⟩ NoN (jD ([]:List (Bk D))) noG (· < ([]:List (Bk D)).length) w:=
  ⟨xX.refl ⟨w,fun _=>False⟩,fun b K=>K.elim,fun l O h=>by simp[jD]at h,fun l T v R b h=>by simp[jD,hot]at h,fun l v h=>by simp[noG]at h,fun l v h=>by simp[noG]at h,by grind⟩
 refine(z.calls (fun _=>False) NoN noG w vs (c.enc a) [] ((i a).map dq) (.one (.lf (.bool true))) [] [] F dm ?_ (Eb.2 C)).mono ?_
 ·show qQ (args c) arP 1 [] i (fun _=>true) (c.enc a) []=_
  unfold qQ;have:(args c).dec (c.enc a) []=some a:=s a;rw[this];rfl
 ·rintro e B ⟨v,g',rfl,_,g,u⟩;have u:v= .bool true:=u;exact⟨by rw[u],⟨g.below.os,g.below.tape,g.below.output,g.below.size,fun k G=>g.below.block k G (fun h=>h)⟩⟩
end
end Go.Vc
namespace Go.Vc
open Go.RowKit
theorem kr {p:Prop}(h:p:=by kernel_rfl):p:=h
theorem iR {A:Sort _}{R:Type}{r:R}:A->Is (.ret r):=fun _=>is_ret
theorem isA {R:Type}{t:Pg R}(h:Is t:=by
 repeat' first
  | exact is_ret
  | exact is_clone (room_of aj aj)
  | refine is_ltw (fun _ _ _=> ?_)
  | refine is_lt (fun _ _=> ?_)
  | refine is_as (fun _=> ?_)
  | refine is_ix (by first | omega | grind) (by first | omega | grind) ?_
  | refine is_brd (fun _=> ?_) (fun _=> ?_)
  | refine is_beq (fun _=> ?_) (fun _=> ?_)
  | refine is_bne (fun _=> ?_) (fun _=> ?_)
  | refine is_br (fun _=> ?_) (fun _=> ?_)
  | refine is_ob (by first | assumption | omega | decide | exact room_of aj aj | exact And.intro rfl qbw | grind) ?_
  | refine is_cut ?_ (fun _ _=> ?_)
  | refine is_each (.inr aj) (fun _ _ _ _=> ?_) (fun _ _=> ?_)
  | refine is_each (.inl rfl) (fun _ _ _ _=> ?_) (fun _ _=> ?_)
  | refine is_cnt aj aj (fun _ _ _ _=> ?_) (fun _ _ _ _=> ?_)):Is t:=h
abbrev cI {D:Type}:iT D Int:=cInt .i64
abbrev s0 (n:Nat):It:= .slot n false [none]
abbrev nn (n:Nat):List (Option TypeId):=List.replicate n none
abbrev R1 {D A:Type}(c:iT D A):Shp D:=shr [.slot 0 false [none]] (l1 c)
abbrev rl {X R:Type}(x:X):Pg (X⊕R):= .ret (.inl x)
abbrev u2 {A B:Type}{R:Sort _}(f:A->B->R):A×B->R:=fun a=>f a.1 a.2
abbrev u3 {A B C:Type}{R:Sort _}(f:A->B->C->R):A×B×C->R:=fun a=>f a.1 a.2.1 a.2.2
abbrev u4 {A B C E:Type}{R:Sort _}(f:A->B->C->E->R):A×B×C×E->R:=fun a=>f a.1 a.2.1 a.2.2.1 a.2.2.2
abbrev u11 {A B U:Type}{R:Sort _}(f:A->B->R):(A×U)×B->R:=fun a=>f a.1.1 a.2
abbrev aL {A R:Type}(l:List A)(k:Pg R):Pg R:= .as (l.length<=9223372036854775807) k
section
variable {D:Type}{Z:Seat D}{α β:Type}
noncomputable def E0 (i:List (bi Z))(J:List (Sh1 Z.S))(c:ACod D α){m:Nat}[s:lI Z.S m c](g:Shp D)[r:ShpOk Z.S g](d:List Nat){f:FuncId}{b:Func}(n:Z.P.funcs[f]? =some b)(k:Nat)(F:α->Pg g.X)
  (l:∀a,Is (F a):=by intro a;exact isA) (q:Nat.ble m b.ntmps=true:=by kernel_rfl) (p:uS b=true:=by kernel_rfl) (o:b.results.toList.length=k:=by kernel_rfl) (j:∀a e,rq none->(F a).run e=(xB Z (Di i) (jL J) (args c) g 0 d b b.ntmps a).run e:=by intro a e _;kernel_rfl):bi Z:=
 vP Z i J (args c) (l_ q) g d n rfl p k o F (fun _=>none) (fun a e h=>j a e h) (fun a=>(F a).val) fun a _=>⟨l a,rfl⟩
noncomputable def QF (j:List (bi Z))(J:List (Sh1 Z.S))(c:ACod D α)(b:BCod D β){m l:Nat}[u:lI Z.S m c][v:rZ Z.S l b](i:Shp D)[t:ShpOk Z.S i](g:List Nat){f:FuncId}{d:Func}(p:Z.P.funcs[f]? =some d)(k:Nat)(F:α×β->Pg i.X)
  (o:∀a,Is (F a):=by intro a;exact isA) (s:Nat.ble m d.ntmps=true:=by kernel_rfl) (r:uS d=true:=by kernel_rfl) (q:d.results.toList.length=k:=by kernel_rfl) (n:∀a e,rq none->(F a).run e=(xB Z (Di j) (jL J) (jG c b) i l g d d.ntmps a).run e:=by intro a e _;kernel_rfl):bi Z:=
 vP Z j J (jG c b) (qw s) i g p rfl r k q F (fun _=>none) (fun a e h=>n a e h) (fun a=>(F a).val) fun a _=>⟨o a,rfl⟩
noncomputable def E1 (j:List (bi Z))(J:List (Sh1 Z.S))(c:ACod D α){m:Nat}[t:lI Z.S m c](i:Shp D)[s:ShpOk Z.S i](d:List Nat){f:FuncId}{b:Func}(o:Z.P.funcs[f]? =some b)(k:Nat)(F:α->Pg i.X)(g:α->Prop)
  (n:∀a,g a->Is (F a):=by intro a h;exact isA) (r:Nat.ble m b.ntmps=true:=by kernel_rfl) (q:uS b=true:=by kernel_rfl) (p:b.results.toList.length=k:=by kernel_rfl) (l:∀a e,g a->(F a).run e=(xB Z (Di j) (jL J) (args c) i 0 d b b.ntmps a).run e:=by intro a e _;kernel_rfl):bi Z:=
 vP Z j J (args c) (l_ r) i d o rfl q k p F (fun a=>some (g a)) (fun a e h=>l a e h) (fun a=>(F a).val) fun a h=>⟨n a h,rfl⟩
noncomputable def ZY (n:List (bi Z))(J:List (Sh1 Z.S))(c:ACod D α)(b:BCod D β){m l:Nat}[v:lI Z.S m c][w:rZ Z.S l b](j:Shp D)[u:ShpOk Z.S j](i:List Nat){f:FuncId}{d:Func}(q:Z.P.funcs[f]? =some d)(k:Nat)(F:α×β->Pg j.X)(g:α×β->Prop)
  (p:∀a,g a->Is (F a):=by intro a h;exact isA) (t:Nat.ble m d.ntmps=true:=by kernel_rfl) (s:uS d=true:=by kernel_rfl) (r:d.results.toList.length=k:=by kernel_rfl) (o:∀a e,g a->(F a).run e=(xB Z (Di n) (jL J) (jG c b) j l i d d.ntmps a).run e:=by intro a e _;kernel_rfl):bi Z:=
 vP Z n J (jG c b) (qw t) j i q rfl s k r F (fun a=>some (g a)) (fun a e h=>o a e h) (fun a=>(F a).val) fun a h=>⟨p a h,rfl⟩
noncomputable def E2 (i:List (bi Z))(J:List (Sh1 Z.S))(c:ACod D α){m:Nat}[t:lI Z.S m c](g:Shp D)[s:ShpOk Z.S g](h:List Nat){f:FuncId}{b:Func}(o:Z.P.funcs[f]? =some b)(k:Nat)(F:α->Pg g.X)(d:α->Option Prop)(n:α->g.X)
  (l:∀a,rq (d a)->Is (F a)/\(F a).val=n a) (r:Nat.ble m b.ntmps=true:=by kernel_rfl) (q:uS b=true:=by kernel_rfl) (p:b.results.toList.length=k:=by kernel_rfl) (j:∀a e,rq (d a)->(F a).run e=(xB Z (Di i) (jL J) (args c) g 0 h b b.ntmps a).run e:=by intro a e _;kernel_rfl):bi Z:=
 vP Z i J (args c) (l_ r) g h o rfl q k p F d j n l
noncomputable def E2B (j:List (bi Z))(J:List (Sh1 Z.S))(c:ACod D α)(b:BCod D β){m l:Nat}[v:lI Z.S m c][w:rZ Z.S l b](h:Shp D)[u:ShpOk Z.S h](i:List Nat){f:FuncId}{d:Func}(q:Z.P.funcs[f]? =some d)(k:Nat)(F:α×β->Pg h.X)(g:α×β->Option Prop)(p:α×β->h.X)
  (o:∀a,rq (g a)->Is (F a)/\(F a).val=p a) (t:Nat.ble m d.ntmps=true:=by kernel_rfl) (s:uS d=true:=by kernel_rfl) (r:d.results.toList.length=k:=by kernel_rfl) (n:∀a e,rq (g a)->(F a).run e=(xB Z (Di j) (jL J) (jG c b) h l i d d.ntmps a).run e:=by intro a e _;kernel_rfl):bi Z:=
 vP Z j J (jG c b) (qw t) h i q rfl s k r F g n p o
abbrev aov {A:Type}(l:List A)(d:A)(p:A->Bool):Pg Int:=aL l (.each false yc l d (fun i a (_:Unit)=> .ix i l.length (.br (p a) (.ret (.inr i)) (.ret (.inl ())))) (fun _ _=> .ret (-1)) ())
theorem amQ {A:Type}(l:List A)(d:A)(p:A->Bool):Is (aov l d p)/\(aov l d p).val=dO p l:=⟨isA,vV p l 0⟩
abbrev aoI {A:Type}(l:List A)(p:A->Bool):Pg Bool:= .lt (dO p l) fun v=> .ret (decide (0<=v))
theorem amv {A:Type}(l:List A)(p:A->Bool):Is (aoI l p)/\(aoI l p).val=l.any p:=⟨isA,by
 show decide (0<=dO p l)=l.any p
 grind [oN]⟩
abbrev jX {S:Sh D}:List (Sh1 S):=[jS 2 (bD (fun a=>[s0 8]) (l1 cI))]
noncomputable def EI {A:Type}(c:List (bi Z))(h:iT D (List A))(n:Nat){m:Nat}[o:lI Z.S m (aCons (aLf h) (a1 (aFn n [])))]{f:FuncId}{b:Func}(i:Z.P.funcs[f]? =some b)(d:A)(p:A->Bool)
  (l:Nat.ble m b.ntmps=true:=by kernel_rfl) (k:uS b=true:=by kernel_rfl) (j:b.results.toList.length=1:=by kernel_rfl) (g:∀(a:List A×Unit) e,rq none->(aov a.1 d p).run e=(xB Z (Di c) (jL (S:=Z.S) jX) (args (aCons (aLf h) (a1 (aFn n [])))) (R1 cI) 0 [] b b.ntmps a).run e:=by intro a e _;kernel_rfl):bi Z:=
 E2 c jX (aCons (aLf h) (a1 (aFn n []))) (R1 cI) [] i 1 (fun a=>aov a.1 d p) (fun _=>none) (fun a=>dO p a.1) (fun a _=>amQ a.1 d p) l k j g
noncomputable def EIB {A:Type}(g:List (bi Z))(i:iT D (List A))(n:Nat)(cs:List Nat)(b:BCod D β){m l:Nat}[r:lI Z.S m (aCons (aLf i) (a1 (aFn n cs)))][s:rZ Z.S l b]{f:FuncId}{c:Func}(j:Z.P.funcs[f]? =some c)(d:A)(p:A->β->Bool)
  (q:Nat.ble m c.ntmps=true:=by kernel_rfl) (o:uS c=true:=by kernel_rfl) (k:c.results.toList.length=1:=by kernel_rfl) (h:∀(a:(List A×Unit)×β) e,rq none->(aov a.1.1 d fun x=>p x a.2).run e=(xB Z (Di g) (jL (S:=Z.S) jX) (jG (aCons (aLf i) (a1 (aFn n cs))) b) (R1 cI) l cs c c.ntmps a).run e:=by intro a e _;kernel_rfl):bi Z:=
 E2B g jX (aCons (aLf i) (a1 (aFn n cs))) b (R1 cI) cs j 1 (fun a=>aov a.1.1 d fun x=>p x a.2) (fun _=>none) (fun a=>dO (fun x=>p x a.2) a.1.1) (fun a _=>amQ a.1.1 d fun x=>p x a.2) q o k h
noncomputable def EA {A:Type}(c:List (bi Z))(g:iT D (List A))(n:Nat){m:Nat}[l:lI Z.S m (aCons (aLf g) (a1 (aFn n [])))]{f:FuncId}{b:Func}(h:Z.P.funcs[f]? =some b)(p:A->Bool)
  (k:Nat.ble m b.ntmps=true:=by kernel_rfl) (j:uS b=true:=by kernel_rfl) (i:b.results.toList.length=1:=by kernel_rfl) (d:∀(a:List A×Unit) e,rq none->(aoI a.1 p).run e=(xB Z (Di c) (jL (S:=Z.S) []) (args (aCons (aLf g) (a1 (aFn n [])))) (R1 cBool) 0 [] b b.ntmps a).run e:=by intro a e _;kernel_rfl):bi Z:=
 E2 c [] (aCons (aLf g) (a1 (aFn n []))) (R1 cBool) [] h 1 (fun a=>aoI a.1 p) (fun _=>none) (fun a=>a.1.any p) (fun a _=>amv a.1 p) k j i d
noncomputable def EAB {A:Type}(d:List (bi Z))(h:iT D (List A))(n:Nat)(cs:List Nat)(b:BCod D β){m l:Nat}[q:lI Z.S m (aCons (aLf h) (a1 (aFn n cs)))][r:rZ Z.S l b]{f:FuncId}{c:Func}(i:Z.P.funcs[f]? =some c)(p:A->β->Bool)
  (o:Nat.ble m c.ntmps=true:=by kernel_rfl) (k:uS c=true:=by kernel_rfl) (j:c.results.toList.length=1:=by kernel_rfl) (g:∀(a:(List A×Unit)×β) e,rq none->(aoI a.1.1 fun x=>p x a.2).run e=(xB Z (Di d) (jL (S:=Z.S) []) (jG (aCons (aLf h) (a1 (aFn n cs))) b) (R1 cBool) l cs c c.ntmps a).run e:=by intro a e _;kernel_rfl):bi Z:=
 E2B d [] (aCons (aLf h) (a1 (aFn n cs))) b (R1 cBool) cs i 1 (fun a=>aoI a.1.1 fun x=>p x a.2) (fun _=>none) (fun a=>a.1.1.any fun x=>p x a.2) (fun a _=>amv a.1.1 fun x=>p x a.2) o k j g
theorem Rk {c:qF D}{d:Shp D}{k p n:Nat}{h:List Nat}{b:c.A->Option Prop}{j:c.A->d.X}{f:FuncId}{g:Func}(q:List (bi Z))(J:List (Sh1 Z.S))[l:ShpOk Z.S d](r:Z.P.funcs[f]? =some g)(t:g.ntmps=n)(F:c.A->Pg d.X)(m:∀a,rq (b a)->Is (F a)/\(F a).val=j a)
  (o:Qi Z.S c p n) (u:uS g=true:=by kernel_rfl) (s:g.results.toList.length=k:=by kernel_rfl) (i:∀a e,rq (b a)->(F a).run e=(xB Z (Di q) (jL J) c d p h g n a).run e:=by intro a e _;kernel_rfl):CtOk Z.P Z.S f (qQ c d k h b j):=
 ahw (fun _ _=>Fz) o l r t u k s F b i j m
end
end Go.Vc
