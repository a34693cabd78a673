/- Own engine: Vdy, Vdz, Vdk, Vdx, Vd0, Vez. -/
import Derived.Test.YtebmficbjhcohaaGreatDoorEng10
import Derived.SizedLaws
set_option linter.unusedVariables false
set_option linter.unusedSimpArgs false
namespace Go.Vc
theorem qa{p:Prop}(h:p:=by(try simp only[Sum.elim_inl,Sum.elim_inr])<;>(first | trivial | omega | (dsimp only;omega) | (refine EZ (aaC (by omega) rfl) ?_;omega) | (refine⟨Int.le_trans (Int.ofNat_le.2 (aaC (by omega) rfl)) ?_,?_⟩<;>omega) | (refine EZ (alp _ _ _) ?_;first | omega | (dsimp only at*;omega) | (simp only[yz]at*;omega)) | (refine EZ (ajy _ _ _) ?_;first | omega | (dsimp only at*;omega) | (simp only[yz]at*;omega)))):p:=h
theorem xN{p:Prop}(h:p:=by(try simp only[Sum.elim_inl,Sum.elim_inr])<;>(first | trivial | omega | (refine EZ (aes _ _ _ _) ?_;(first | omega | (simp only[yz]at*;omega) | simp)) | (refine EZ (axL _ _ _ _) ?_;(first | omega | (simp only[yz]at*;omega) | simp)))):p:=h
theorem qac{p:Prop}(h:p:=by(try simp only[Sum.elim_inl,Sum.elim_inr])<;>(first | trivial | omega | (dsimp only;omega) | (refine EZ (aaC (by omega) rfl) ?_;omega) | (refine⟨Int.le_trans (Int.ofNat_le.2 (aaC (by omega) rfl)) ?_,?_⟩<;>omega) | (refine EZ (alp _ _ _) ?_;first | omega | (dsimp only at*;omega) | (simp only[yz]at*;omega)) | (refine EZ (ajy _ _ _) ?_;first | omega | (dsimp only at*;omega) | (simp only[yz]at*;omega)) | (simp only[qO];omega))):p:=h
theorem qad{p:Prop}(h:p:=by first | omega | (dsimp only at*;omega) | (simp only[yz]at*;omega) | exact h | exact h.2.2.2.1 _ (getD_mem (by omega)) | exact h.2.2.2.2.1 _ (getD_mem (by omega)) | exact h.2.2.2.2.2 _ (getD_mem (by omega)) | exact⟨by omega,fun m hm=>(h.2.2.2.1 m hm).1⟩ | exact dI (by omega) (by omega)):p:=h
theorem x8{p:Prop}(h:p:=by first | omega | (dsimp only at*;omega) | (simp only[yz]at*;omega)):p:=h
theorem eF{p:Prop}(h:p:=by kernel_rfl):p:=h
theorem QT{p:Prop}(h:p:=by first | omega | (simp only[yz]at*;omega) | (have:=h.1.2.2.2.2 _ (getD_mem (d:=[]) aFS);omega)):p:=h
theorem qah{p:Prop}(h:p:=by(try simp only[Sum.elim_inl,Sum.elim_inr])<;>(first | exact ayq pJ hI (by simp only[af.dO];exact ih.2.2 _ _ _ (aHc h pJ)) | exact awy hI | exact axU Y1 hI ⟨⟨by simp only[af.dO];rw[(xX _).1];exact(azc h hv7 Y1).2.1,by simp only[af.dO];exact PP (azc h hv7 Y1).2.2⟩,by simp only[af.dO,aa8];exact oC _⟩ (by simp only[af.dO];exact ih.2.2 _ _ _ (azc h hv7 Y1).1) | exact axN h hv7 hI | (simp only[af.dO];exact ih.2.2 _ _ _ (QF h)))):p:=h
theorem qai{p:Prop}(h:p:=by first | omega | exact hl.1 | exact hl.2.1 | (show xy 2 fu _;rw[af.dO];exact aGM h hv5 (by omega)) | (have h5:=UM hl.2.1 hv5;exact dI (by have:=hI.2.2.1;omega) (by have:=hI.2.2.1;omega)) | exact ap3 hI hv4 hl.1):p:=h
theorem yS{p:Prop}(h:p:=by first | omega | (simp only[yz]at*;omega)):p:=h
theorem qak{p:Prop}(h:p:=by(try simp only[Sum.elim_inl,Sum.elim_inr])<;>(first | exact aJ0 h hv4 | exact ar5 hI | (refine ayE pJ hI ?_ hv6;simp only[af.dO];exact ih.2.1 _ _ _ (aGM h hv5 pJ)) | exact ayP h hv4 hv5 hI)):p:=h
theorem qal{p:Prop}(h:p:=by(try simp only[Sum.elim_inl,Sum.elim_inr])<;>(first | (rw[af.dO];exact⟨asF hI.1,hI.2⟩) | (refine⟨?_,by have e:=hI.2;rw[e];rfl⟩;show v4.Sublist _;rw[hv4];exact aoP hI.1 (by omega) (by rw[Qbi];exact beq_false_of_ne (by omega))) | (exact⟨y2.Slots,by simpa using hI.1,by rw[af.dO];have e:=hI.2;rw[e];rfl⟩))):p:=h
theorem qam{p:Prop}(h:p:=by(try simp only[Sum.elim_inl,Sum.elim_inr])<;>(first | exact hI | exact⟨by have:=hI.1;omega,hI.2⟩ | exact⟨by have:=hI.1;simp only[qO,AB,yz];omega,pU hI.2 (ajh (by rw[af.dO];exact(abh (getD_mem pJ)).1) (by rw[af.dO];exact(abh (getD_mem pJ)).2))⟩ | exact⟨by have:=hI.1;simp only[qO,AB,yz];omega,pU hI.2 (kF (by rw[af.dO];exact ak7 (getD_mem avF)))⟩)):p:=h
theorem qan{p:Prop}(h:p:=by first | omega | exact hl.2.2.2 | (show xy 1 fu _;rw[af.dO];first | exact aHc h (by omega) | exact(azc h hv7 (by omega)).1 | exact QF h) | exact dI (by have:=hI.2.2;omega) (by have:=hI.2.2;omega) | (have h5:=TR hl.2.2.2 hv7;exact dI (by have:=hI.2.2;omega) (by have:=hI.2.2;omega))):p:=h
theorem qao{p:Prop}(h:p:=by(try simp only[Sum.elim_inl,Sum.elim_inr])<;>(first | exact fun y hy=> .inl hy | exact fun y hy=> .inr (.inl (hI.2 y hy)) | exact fun y hy=> .inr (.inr (by rw[BH.1 hy,af.dO])) | exact⟨by(have:=hI.1;simp only[qO,AB,yz];omega),fun z hz=>(u_.1 hz).elim (hI.2 z) fun e=>⟨_,getD_mem (d:=fO) pJ,(BH.1 e).trans (af.dO _)⟩⟩)):p:=h
theorem qap{p:Prop}(h:p:=by first | omega | (dsimp only at*;omega) | (simp only[yz]at*;omega) | exact EZ (h.2.2.2.2 _ (getD_mem (by omega))) (by decide)):p:=h
theorem qaq{p:Prop}(h:p:=by(try simp only[Sum.elim_inl,Sum.elim_inr])<;>(first | exact fun e=>absurd e (by decide) | (rw[hI,Lc];done) | (rw[hI,Gj (d:=f_) (by omega)];done) | (rw[hI,Gj (d:=jV) (by omega)];done) | (intro _;rw[hI,Lc];exact⟨by simpa using ‹(!ES s)=false›,rfl⟩))):p:=h
theorem qas{p:Prop}(h:p:=by(try subst_vars);(try simp only[qO,AB,yz]);omega):p:=h
theorem qat{p:Prop}(h:p:=by(have:=IM (nP h) hv4;have:=h.1;first | omega | exact dI (by have:=hI.1.length_le;simp only[zC]at this;omega) (by have:=hI.1.length_le;simp only[zC]at this;omega) | exact⟨X0 (aoE h hv4) (by omega),X0 (aoE h hv4) (by omega)⟩)):p:=h
theorem qau{p:Prop}(h:p:=by(try simp only[Sum.elim_inl,Sum.elim_inr])<;>(first | exact hI.2 | exact⟨by first | (have:=hI.1;omega) | (rw[hv6];have:=hI.1;simp only[qO,AB,yz];omega),by have:=hI.2.1;simp only[qO,AB,yz];omega,hI.2.2.1,by rw[hv4,hv5];exact apz hI.2.2.2 (getD_mem (d:=aJ) pJ)⟩)):p:=h
theorem qav{p:Prop}(h:p:=by first | omega | exact h | exact(h.2.2.2.1 _ (getD_mem (by omega))).1 | exact⟨(h.2.2.2.2.1 _ (getD_mem (by omega))).2.1,(h.2.2.2.2.1 _ (getD_mem (by omega))).1⟩ | (rw[hI];simp only[Qbn,zC];exact dI (by omega) (by omega))):p:=h
theorem qaw{p:Prop}(h:p:=by first | omega | exact EZ (alp _ _ _) (by(first | omega | (simp only[yz]at*;omega) | simp)) | exact EZ (ajK (by omega) rfl) (by omega)):p:=h
theorem qax{p:Prop}(h:p:=by(try simp only[Sum.elim_inl,Sum.elim_inr])<;>((have:=IM (nP h) hv4;have:=h.1;first | trivial | omega | exact⟨acG hI.1,by omega,by omega⟩ | (refine⟨?_,by omega,by omega⟩;rw[hv5];exact aeS hI.1 (by omega) (by rw[af.dO,af.dO,Pair.eta])) | (rw[<-hv4];simpa using hI.1)))):p:=h
theorem qa0{p:Prop}(h:p:=by(try simp only[Sum.elim_inl,Sum.elim_inr])<;>(first | trivial | (simp only[Qdf,Qdg,qO,AB,yz];omega))):p:=h
theorem qa1{p:Prop}(h:p:=by(try simp only[Sum.elim_inl,Sum.elim_inr])<;>((have:=Io h hv4;first | trivial | omega | exact⟨acG hI.1,by omega⟩ | (refine⟨?_,by omega⟩;rw[hv5];exact aeS hI.1 (by omega) (by rw[af.dO,Slot.eta])) | (rw[<-hv4];simpa using hI.1)))):p:=h
theorem qa2{p:Prop}(h:p:=by(have:=Io h hv4;first | omega | exact dI (by have:=hI.1.length_le;simp only[zC]at this;omega) (by have:=hI.1.length_le;simp only[zC]at this;omega))):p:=h
theorem qa3{p:Prop}(h:p:=by first | omega | exact EZ (aes _ _ _ _) (by(first | omega | (simp only[yz]at*;omega) | simp)) | exact EZ (ao_ (by omega) rfl) (by omega)):p:=h
theorem qa6{p:Prop}(h:p:=by(try simp only[Sum.elim_inl,Sum.elim_inr])<;>(first | trivial | omega | (simp only[Qb6];omega))):p:=h
theorem qa7{p:Prop}(h:p:=by(try simp only[Sum.elim_inl,Sum.elim_inr])<;>(first | trivial | omega | (simp only[qO,AB,yz];omega))):p:=h
theorem qa8{p:Prop}(h:p:=by first | omega | exact dI (by have:=hI.1;omega) (by have:=hI.1;omega) | exact dI (by have:=hI.2.1;omega) (by have:=hI.2.1;omega)):p:=h
theorem qb{p:Prop}(h:p:=by first | omega | exact fun x hx hk=>by rw[hI];exact((h.2 _ (getD_mem (d:=bV) avE)).2 x hx).1 hk):p:=h
theorem qbb{p:Prop}(h:p:=by first | omega | exact dI (by omega) (by omega)):p:=h
theorem qbc{p:Prop}(h:p:=by(try simp only[Sum.elim_inl,Sum.elim_inr])<;>(first | exact hI | exact⟨by simp only[qO,AB,yz];omega,hI.2⟩)):p:=h
theorem qbe{p:Prop}(h:p:=by(try simp only[Sum.elim_inl,Sum.elim_inr])<;>(first | trivial | exact hI | (rw[Qb6];exact hI))):p:=h
theorem qbg{p:Prop}(h:p:=by have:=hI.1;omega):p:=h
theorem qbh{p:Prop}(h:p:=by(try simp only[Sum.elim_inl,Sum.elim_inr])<;>(first | (simp only[af.dO];exact ih.1 _ _ _ (QF h)) | (simp only[af.dO];exact⟨PP h.1.1,Qc9 (aa8 _)⟩))):p:=h
theorem qbn{p:Prop}(h:p:=by first | omega | (have hq:=ay0 hI.1;exact dI (by omega) (by omega))):p:=h
theorem qbo{p:Prop}(h:p:=by first | omega | exact dI (by have:=hI.1;omega) (by have:=hI.1;omega)):p:=h
theorem qbs{p:Prop}(h:p:=by first | (simp;done) | (simp only[Qdf,Qdg];omega)):p:=h
theorem qbw{p:Prop}(h:p:=by(try simp only[Sum.elim_inl,Sum.elim_inr])<;>(first | (rw[Qb6];exact hI) | (rw[ET];exact hI))):p:=h
theorem qbx{p:Prop}(h:p:=by rw[Lc]at hI;exact hI):p:=h
theorem qb0{p:Prop}(h:p:=by have k:=h.1.1.2.1.1;have e:=h.2.2;omega):p:=h
theorem qb3{p:Prop}(h:p:=by first | omega | exact h.1 | exact dI (by omega) (by omega)):p:=h
theorem qb4{p:Prop}(h:p:=by first | omega | exact vX (fun _=>rfl) _):p:=h
theorem qb5{p:Prop}(h:p:=by have k:=h.2.2.2;have:=kZ v;omega):p:=h
theorem qce{p:Prop}(h:p:=by show(0:Int) < (((a::t).length:Nat):Int);simp only[AB];omega):p:=h
theorem qci{p:Prop}(h:p:=by rw[hI];exact dI (by omega) (by omega)):p:=h
theorem qcp{p:Prop}(h:p:=by first | exact⟨h,JD⟩ | exact trivial | exact h):p:=h
theorem qcq{p:Prop}(h:p:=by rw[<-hv1];simpa using hf):p:=h
theorem qcs{p:Prop}(h:p:=by show ¬(13:Int)=0;decide):p:=h
theorem qcy{p:Prop}(h:p:=by cases hx):p:=h
instance aKx {X R:Type} [Inhabited R]:Inhabited (X⊕R):=⟨.inr default⟩
structure Ix (X Y:Type) where
 gi:X->Int
 gy:X->Y
 mx:Int->Y->X
 h1:∀i y,gi (mx i y)=i
 h2:∀i y,gy (mx i y)=y
def oG {Y:Type}:Ix (Int×Y) Y:=⟨Prod.fst,Prod.snd,Prod.mk,fun _ _=>rfl,fun _ _=>rfl⟩
def um:Ix Int Unit:=⟨id,fun _=>(),fun i _=>i,fun _ _=>rfl,fun _ _=>rfl⟩
inductive Pg:Type->Type 1 where
 | ret {R:Type} (r:R):Pg R
 | no {R:Type} (r:R):Pg R
 | ob {R:Type} (p:Prop) (k:Pg R):Pg R
 | obD {R:Type} (p:Prop) (d:Decidable p) (k:Pg R):Pg R
 | as {R:Type} (p:Prop) (k:Pg R):Pg R
 | br {R:Type} (b:Bool) (t e:Pg R):Pg R
 | unk {R:Type} (s:Bool) (p:Bool->Prop) (t e:Pg R):Pg R
 | lt {R A:Type} (v:A) (k:A->Pg R):Pg R
 | cut {R X:Type} (k:X->Pg R) (a:Pg (X⊕R)):Pg R
 | wh {R X:Type} (n:Nat) (r:R) (step:X->Pg (X⊕R)) (x:X):Pg R
 | each {R A X Y:Type} (h:Bool) (s:Ix X Y) (l:List A) (d:A) (body:Int->A->Y->Pg (Y⊕R)) (fin:Int->Y->Pg R) (y:Y):Pg R
 | cnt {R X Y:Type} (s:Ix X Y) (a b:Int) (body:Int->Y->Pg (Y⊕R)) (fin:Int->Y->Pg R) (y:Y):Pg R
 | Y0 {R A X Y:Type} (ps:List Prop) (h:Bool) (s:Ix X Y) (l:List A) (d:A) (body:Int->A->Y->Pg (Y⊕R)) (fin:Int->Y->Pg R) (y:Y):Pg R
 | Hz {R X Y:Type} (ps:List Prop) (q:Option Prop) (s:Ix X Y) (a b:Int) (body:Int->Y->Pg (Y⊕R)) (fin:Int->Y->Pg R) (y:Y):Pg R
section
variable {R R' A X Y:Type}
def nxI (s:Ix X Y)(i:Int):Y⊕R->X⊕R
 | .inl y=> .inl (s.mx (dA .i64 (i+1)) y)
 | .inr r=> .inr r
noncomputable def aeP:List Prop->Option R->Option R
 | [],k=>k
 | p::a,k=>need p (aeP a k)
noncomputable def aEe (q:Option Prop)(e:R)(k:Option R):Option R:=
 match q with
 | none=>k
 | some q=>asm q e k
def ah1:List Prop->Prop
 | []=>True
 | p::a=>p/\ah1 a
theorem EF:∀{a:List Prop} {k:Option R},ah1 a->aeP a k=k
 | [],_,_=>rfl
 | p::a,k,h=>by unfold aeP;rw[rJ h.1,EF h.2]
theorem art {q:Option Prop}{e:R}{k:Option R}(h:o_ q):aEe q e k=k:=by
 cases q with
 | none=>rfl
 | some q=>exact vO h
theorem atj {q:Option Prop}{e:R}{k:Option R}(h:¬o_ q):aEe q e k=some e:=by
 cases q with
 | none=>exact(h trivial).elim
 | some q=>exact yD h
noncomputable def Pg.runK:{R:Type}->Pg R->(c:Type)->(R->c)->c->Option c
 | _, .ret r,_,f,_=>some (f r)
 | _, .no _,_,_,_=>none
 | _, .ob p k,c,f,e=>need p (k.runK c f e)
 | _, .obD p _ k,c,f,e=>need p (k.runK c f e)
 | _, .as p k,c,f,e=>asm p e (k.runK c f e)
 | _, .br b t j,c,f,e=>cond b (t.runK c f e) (j.runK c f e)
 | _, .unk _ p t j,c,f,e=>both p (t.runK c f e) (j.runK c f e)
 | _, .lt v k,c,f,e=>(k v).runK c f e
 | _, .cut (X:=X) k a,c,f,e=>aiU (a.runK (X⊕c) (Sum.map id f) (.inr e)) fun x=>(k x).runK c f e
 | _, .wh (X:=X) _ _ step x,c,f,e=>qo (fun y=>(step y).runK (X⊕c) (Sum.map id f) (.inr e)) x
 | _, .each (X:=X) h s l d g i y,c,f,e=>qo (fun x=>
   cond h (asm (l.length<=9223372036854775807) (.inr e) (cond (decide (s.gi x < (↑l.length:Int))) ((g (s.gi x) (l.getD (s.gi x).toNat d) (s.gy x)).runK (X⊕c) (fun z=>nxI s (s.gi x) (Sum.map id f z)) (.inr e)) ((i (s.gi x) (s.gy x)).runK (X⊕c) (fun r=> .inr (f r)) (.inr e))))
    (cond (decide (s.gi x < (↑l.length:Int))) ((g (s.gi x) (l.getD (s.gi x).toNat d) (s.gy x)).runK (X⊕c) (fun z=>nxI s (s.gi x) (Sum.map id f z)) (.inr e)) ((i (s.gi x) (s.gy x)).runK (X⊕c) (fun r=> .inr (f r)) (.inr e)))) (s.mx 0 y)
 | _, .Y0 (X:=X) m h s l d g i y,c,f,e=>qo (fun x=>aeP m (
   cond h (asm (l.length<=9223372036854775807) (.inr e) (cond (decide (s.gi x < (↑l.length:Int))) ((g (s.gi x) (l.getD (s.gi x).toNat d) (s.gy x)).runK (X⊕c) (fun z=>nxI s (s.gi x) (Sum.map id f z)) (.inr e)) ((i (s.gi x) (s.gy x)).runK (X⊕c) (fun r=> .inr (f r)) (.inr e))))
    (cond (decide (s.gi x < (↑l.length:Int))) ((g (s.gi x) (l.getD (s.gi x).toNat d) (s.gy x)).runK (X⊕c) (fun z=>nxI s (s.gi x) (Sum.map id f z)) (.inr e)) ((i (s.gi x) (s.gy x)).runK (X⊕c) (fun r=> .inr (f r)) (.inr e))))) (s.mx 0 y)
 | _, .Hz (X:=X) m q s a b g i y,c,f,e=>qo (fun x=>aeP m (aEe q (.inr e) (cond (decide (s.gi x < b)) ((g (s.gi x) (s.gy x)).runK (X⊕c) (fun z=>nxI s (s.gi x) (Sum.map id f z)) (.inr e)) ((i (s.gi x) (s.gy x)).runK (X⊕c) (fun r=> .inr (f r)) (.inr e))))) (s.mx a y)
 | _, .cnt (X:=X) s a b g i y,c,f,e=>qo (fun x=>cond (decide (s.gi x < b)) ((g (s.gi x) (s.gy x)).runK (X⊕c) (fun z=>nxI s (s.gi x) (Sum.map id f z)) (.inr e)) ((i (s.gi x) (s.gy x)).runK (X⊕c) (fun r=> .inr (f r)) (.inr e))) (s.mx a y)
noncomputable def Pg.run (t:Pg R)(e:R):Option R:=t.runK R id e
abbrev Pg.ix (i:Int)(n:Nat)(k:Pg R):Pg R:= .ob (0<=i/\i < ↑n) k
def Nl (b:Nat->A->Y->Y⊕R)(f:Nat->Y->R):List A->Nat->Y->R
 | [],k,y=>f k y
 | a::l,k,y=>match b k a y with
  | .inl c=>Nl b f l (k+1) c
  | .inr r=>r
def Bi (b:Int->Y->Y⊕R)(f:Int->Y->R):Nat->Int->Y->R
 | 0,i,y=>f i y
 | n+1,i,y=>match b i y with
  | .inl a=>Bi b f n (i+1) a
  | .inr r=>r
def whN (step:X->X⊕R)(a:R):Nat->X->R
 | 0,_=>a
 | n+1,x=>match step x with
  | .inl b=>whN step a n b
  | .inr r=>r
def thenS (a:X⊕R)(k:X->R):R:=
 match a with
 | .inl x=>k x
 | .inr r=>r
@[simp] theorem qX (x:X) (k:X->R):thenS (.inl x) k=k x:=rfl
@[simp] theorem aF5 (r:R) (k:X->R):thenS (.inr r) k=r:=rfl
def Pg.val:{R:Type}->Pg R->R
 | _, .ret r=>r
 | _, .no r=>r
 | _, .ob _ k=>k.val
 | _, .obD _ _ k=>k.val
 | _, .as _ k=>k.val
 | _, .br b t e=>cond b t.val e.val
 | _, .unk s _ t e=>cond s t.val e.val
 | _, .lt v k=>(k v).val
 | _, .cut k a=>thenS a.val fun x=>(k x).val
 | _, .wh n r step x=>whN (fun y=>(step y).val) r n x
 | _, .each _ _ l _ c d y=>Nl (fun k a y=>(c (↑k:Int) a y).val) (fun k y=>(d (↑k:Int) y).val) l 0 y
 | _, .cnt _ a b c d y=>Bi (fun i y=>(c i y).val) (fun i y=>(d i y).val) (b - a).toNat a y
 | _, .Y0 _ _ _ l _ c d y=>Nl (fun k a y=>(c (↑k:Int) a y).val) (fun k y=>(d (↑k:Int) y).val) l 0 y
 | _, .Hz _ _ _ a b c d y=>Bi (fun i y=>(c i y).val) (fun i y=>(d i y).val) (b - a).toNat a y
@[simp] theorem bu (r:R):(Pg.ret r).val=r:=rfl
@[simp] theorem aJU (r:R):(Pg.no r).val=r:=rfl
@[simp] theorem eG (p:Prop) (k:Pg R):(Pg.ob p k).val=k.val:=rfl
@[simp] theorem aJE (p:Prop) (d:Decidable p) (k:Pg R):(Pg.obD p d k).val=k.val:=rfl
@[simp] theorem lG (i:Int) (n:Nat) (k:Pg R):(Pg.ix i n k).val=k.val:=rfl
@[simp] theorem kK (p:Prop) (k:Pg R):(Pg.as p k).val=k.val:=rfl
@[simp] theorem cO (b:Bool) (t e:Pg R):(Pg.br b t e).val=cond b t.val e.val:=rfl
@[simp] theorem axi (s:Bool) (p:Bool->Prop) (t e:Pg R):(Pg.unk s p t e).val=cond s t.val e.val:=rfl
@[simp] theorem dV (v:A) (k:A->Pg R):(Pg.lt v k).val=(k v).val:=rfl
@[simp] theorem nY (a:Pg (X⊕R)) (k:X->Pg R):(Pg.cut k a).val=thenS a.val fun x=>(k x).val:=rfl
@[simp] theorem Q7 (n:Nat) (r:R) (step:X->Pg (X⊕R)) (x:X):(Pg.wh n r step x).val=whN (fun y=>(step y).val) r n x:=rfl
@[simp] theorem DN (h:Bool) (s:Ix X Y) (l:List A) (d:A) (b:Int->A->Y->Pg (Y⊕R)) (c:Int->Y->Pg R) (y:Y):
  (Pg.each h s l d b c y).val=Nl (fun k a y=>(b (↑k:Int) a y).val) (fun k y=>(c (↑k:Int) y).val) l 0 y:=rfl
@[simp] theorem AX (s:Ix X Y) (a b:Int) (c:Int->Y->Pg (Y⊕R)) (d:Int->Y->Pg R) (y:Y):
  (Pg.cnt s a b c d y).val=Bi (fun i y=>(c i y).val) (fun i y=>(d i y).val) (b - a).toNat a y:=rfl
@[simp] theorem aF6 (e:List Prop) (h:Bool) (s:Ix X Y) (l:List A) (d:A) (b:Int->A->Y->Pg (Y⊕R)) (c:Int->Y->Pg R) (y:Y):
  (Pg.Y0 e h s l d b c y).val=Nl (fun k a y=>(b (↑k:Int) a y).val) (fun k y=>(c (↑k:Int) y).val) l 0 y:=rfl
@[simp] theorem aIg (e:List Prop) (q:Option Prop) (s:Ix X Y) (a b:Int) (c:Int->Y->Pg (Y⊕R)) (d:Int->Y->Pg R) (y:Y):
  (Pg.Hz e q s a b c d y).val=Bi (fun i y=>(c i y).val) (fun i y=>(d i y).val) (b - a).toNat a y:=rfl
def Is (t:Pg R):Prop:=∀(R':Type) (f:R->R') (e:R'),t.runK R' f e=some (f t.val)\/t.runK R' f e=some e
def Is1 (t:Pg R):Prop:=∀(R':Type) (f:R->R') (e:R'),t.runK R' f e=some (f t.val)
theorem Is1.is {t:Pg R}(h:Is1 t):Is t:=fun R' f e=> .inl (h R' f e)
theorem Is.run {t:Pg R}(h:Is t):t.run t.val=some t.val:=by
 rcases h R id t.val with h | h<;>exact h
theorem aO {r:R}:Is (.ret r):=fun _ _ _=> .inl rfl
theorem aW {p:Prop}{k:Pg R}(b:p)(a:Is k):Is (.ob p k):=fun R' f e=>by
 simp only[Pg.runK,rJ b];exact a R' f e
theorem bW {i:Int}{n:Nat}{k:Pg R}(c:0<=i)(a:i < ↑n)(b:Is k):Is (.ix i n k):=aW ⟨c,a⟩ b
theorem eH {p:Prop}{k:Pg R}(b:p->Is k):Is (.as p k):=fun R' f e=>by
 by_cases a:p
 ·simp only[Pg.runK,vO a];exact b a R' f e
 ·simp only[Pg.runK,yD a];exact .inr trivial
theorem aT {b:Bool}{t e:Pg R}(d:b=true->Is t)(c:b=false->Is e):Is (.br b t e):=fun R' f a=>by
 cases b with
 | true=>exact d rfl R' f a
 | false=>exact c rfl R' f a
theorem cZ {p:Prop}{a:Decidable p}{t e:Pg R}(c:p->Is t)(b:¬p->Is e):Is (.br (@decide p a) t e):=
 aT (fun h=>c (Fa h)) (fun h=>b (of_decide_eq_false h))
theorem dM {a b:A}[h:BEq A][f:LawfulBEq A]{t e:Pg R}(d:a=b->Is t)(c:¬a=b->Is e):Is (.br (a==b) t e):=
 aT (fun h=>d qbv) (fun h=>c qbv)
theorem eX {a b:A}[h:BEq A][f:LawfulBEq A]{t e:Pg R}(d:¬a=b->Is t)(c:a=b->Is e):Is (.br (a !=b) t e):=
 aT (fun h=>d qbv) (fun h=>c qbv)
theorem dI {n b:Nat}(c:n<=1099511627776)(a:n*b<=140737488355328):dE n b:=⟨c,a⟩
theorem dC {v:A}{k:A->Pg R}(h:∀x,x=v->Is (k x)):Is (.lt v k):=h v rfl
theorem l9 {n:Int}{k:Int->Pg R}(h:∀x,x=dA .i64 n->(-9223372036854775808<=n/\n<=9223372036854775807->x=n)->Is (k x)):Is (.lt (dA .i64 n) k):=
 h _ rfl fun a=>eQ (k:= .i64) a
theorem kL {a:Pg (X⊕R)}{k:X->Pg R}(c:Is a)(d:∀x,a.val= .inl x->Is (k x)):Is (.cut k a):=fun R' f e=>by
 have h:=c (X⊕R') (Sum.map id f) (.inr e);simp only[Pg.runK,nY];rcases h with h | h
 ·rw[h];cases b:a.val with
  | inl x=>exact d x b R' f e
  | inr r=>exact .inl rfl
 ·rw[h];exact .inr rfl
theorem aqj {s:Bool}{p:Bool->Prop}{t e:Pg R}(g:∃b,p b)(d:p true->Is1 t/\t.val=cond s t.val e.val)(a:p false->Is1 e/\e.val=cond s t.val e.val):Is (.unk s p t e):=fun R' f c=>by
 refine .inl ?_;simp only[Pg.runK,axi];refine abO g (fun h=> ?_) (fun h=> ?_)
 ·rw[(d h).1 R' f c,<-(d h).2]
 ·rw[(a h).1 R' f c,<-(a h).2]
theorem wE {l:List A}{b:Nat}(h:dE (0+l.length) b):Is (.unk false (fun b=>b=true->l.length=0) (.ret []) (.ob (dE (0+l.length) b) (.ret l))):=
 aqj ⟨false,fun e=>by cases e⟩ (fun c=>⟨fun _ _ _=>rfl,by have d:=c rfl;cases l with | nil=>rfl | cons a l=>simp at d⟩) (fun _=>⟨fun R' f e=>by simp only[Pg.runK,rJ h];rfl,rfl⟩)
theorem XD {l:List A}{s:Ix X Y}{o:Type}{step:X->Option (X⊕o)}{f:R->o}{e:o}{b:Nat->A->Y->Y⊕R}{g:Nat->Y->R}{d:A}(I:Nat->Y->Prop)
  (p:∀(k:Nat) (y:Y),k < l.length->I k y->step (s.mx ↑k y)=some (match b k (l.getD k d) y with | .inl a=> .inl (s.mx (↑(k+1)) a) | .inr r=> .inr (f r))/\(∀a,b k (l.getD k d) y= .inl a->I (k+1) a)\/step (s.mx ↑k y)=some (.inr e))
  (q:∀y,I l.length y->step (s.mx ↑l.length y)=some (.inr (f (g l.length y)))\/step (s.mx ↑l.length y)=some (.inr e)):
  ∀(n k:Nat) (y:Y),k+n=l.length->I k y->qo step (s.mx ↑k y)=some (f (Nl b g (l.drop k) k y))\/qo step (s.mx ↑k y)=some e
 | 0,k,y,m,j=>by
  have m:k=l.length:=by omega
  subst m;rw[wR,List.drop_length];rcases q y j with h | h<;>rw[h]
  ·exact .inl rfl
  ·exact .inr rfl
 | n+1,k,y,m,j=>by
  have c:k < l.length:=by omega
  rw[wR];have t:l.drop k=l.getD k d::l.drop (k+1):=by
   rw[Qbo c];congr 1;simp[List.getD,c]
  rw[t];rcases p k y c j with⟨h,u⟩ | h
  ·rw[h];cases i:b k (l.getD k d) y with
   | inl a=>
    have:=XD I p q n (k+1) a au (u a i);simp only[Nl,i];exact this
   | inr r=>
    simp only[Nl,i];exact .inl trivial
  ·rw[h];exact .inr rfl
theorem rV {k:Nat}(h:k < 9223372036854775807):dA .i64 ((↑k:Int)+1)=↑(k+1):=by
 rw[eQ (k:= .i64) ve];omega
theorem DR {h:Bool}{s:Ix X Y}{l:List A}{d:A}{c:Int->A->Y->Pg (Y⊕R)}{i:Int->Y->Pg R}{y:Y}(I:Nat->Y->Prop)(C:I 0 y)
  (m:h=true\/l.length<=9223372036854775807)
  (v:∀(k:Nat) (y:Y),k < l.length->l.length<=9223372036854775807->I k y->Is (c ↑k (l.getD k d) y)/\∀p,(c ↑k (l.getD k d) y).val= .inl p->I (k+1) p)
  (D:∀y,l.length<=9223372036854775807->I l.length y->Is (i ↑l.length y)):Is (.each h s l d c i y):=fun R' f e=>by
 simp only[Pg.runK,DN];have q:=fun(step:X->Option (X⊕R'))=>XD (l:=l) (s:=s) (step:=step) (f:=f) (e:=e) (b:=fun k a y=>(c (↑k:Int) a y).val) (g:=fun k y=>(i (↑k:Int) y).val) (d:=d) I
 have n:∀(j:l.length<=9223372036854775807) (step:X->Option (X⊕R')),(∀x,step x=cond (decide (s.gi x < (↑l.length:Int))) ((c (s.gi x) (l.getD (s.gi x).toNat d) (s.gy x)).runK (X⊕R') (fun z=>nxI s (s.gi x) (Sum.map id f z)) (.inr e)) ((i (s.gi x) (s.gy x)).runK (X⊕R') (fun r=> .inr (f r)) (.inr e)))->
   (qo step (s.mx 0 y)=some (f (Nl (fun k a y=>(c (↑k:Int) a y).val) (fun k y=>(i (↑k:Int) y).val) l 0 y))\/qo step (s.mx 0 y)=some e):=by
  intro j step u;have:=q step (fun k y w o=> ?_) (fun y o=> ?_) l.length 0 y au C
  ·simpa using this
  ·obtain⟨B,E⟩:=v k y w j o;rw[u,s.h1,s.h2];have t:((k:Nat):Int) < ↑l.length:=by omega
   simp only[t,decide_true,AC,DI];rcases B (X⊕R') (fun z=>nxI s ↑k (Sum.map id f z)) (.inr e)with h | h
   ·refine .inl ⟨?_,E⟩;rw[h];cases(c ↑k (l.getD k d) y).val with
    | inl p=>simp only[Sum.map_inl,id_eq,nxI,rV (show k < 9223372036854775807 by omega)]
    | inr r=>rfl
   ·exact .inr h
  ·rw[u,s.h1,s.h2];simp only[Int.lt_irrefl,decide_false,qH];exact(D y j o) (X⊕R') (fun r=> .inr (f r)) (.inr e)
 cases h with
 | false=>
  rcases m with m | m
  ·cases m
  ·exact n m _ fun x=>rfl
 | true=>
  by_cases j:l.length<=9223372036854775807
  ·exact n j _ fun x=>by simp only[AC,vO j]
  ·refine .inr ?_;rw[wR];simp only[AC,yD j]
theorem fU {h:Bool}{s:Ix X Y}{l:List A}{d:A}{a:Int->A->Y->Pg (Y⊕R)}{b:Int->Y->Pg R}{y:Y}(f:h=true\/l.length<=9223372036854775807)
  (c:∀(k:Nat) (y:Y),k < l.length->l.length<=9223372036854775807->Is (a ↑k (l.getD k d) y)) (i:∀y,l.length<=9223372036854775807->Is (b ↑l.length y)):Is (.each h s l d a b y):=
 DR (fun _ _=>True) trivial f (fun k y g e _=>⟨c k y g e,fun _ _=>trivial⟩) fun y h _=>i y h
theorem ae3 {b:Int}{s:Ix X Y}{j:Type}{step:X->Option (X⊕j)}{f:R->j}{e:j}{bd:Int->Y->Y⊕R}{g:Int->Y->R}(I:Int->Y->Prop)(p:b<=9223372036854775807)
  (m:∀(i:Int) (y:Y),i < b->I i y->step (s.mx i y)=some (match bd i y with | .inl a=> .inl (s.mx (i+1) a) | .inr r=> .inr (f r))/\(∀a,bd i y= .inl a->I (i+1) a)\/step (s.mx i y)=some (.inr e))
  (l:∀i y,b<=i->I i y->step (s.mx i y)=some (.inr (f (g i y)))\/step (s.mx i y)=some (.inr e)):
  ∀(n:Nat) (i:Int) (y:Y),(b - i).toNat=n->I i y->qo step (s.mx i y)=some (f (Bi bd g n i y))\/qo step (s.mx i y)=some e
 | 0,i,y,o,d=>by
  rw[wR];rcases l i y au d with h | h<;>rw[h]
  ·exact .inl rfl
  ·exact .inr rfl
 | n+1,i,y,o,d=>by
  have k:i < b:=by omega
  rw[wR];rcases m i y k d with⟨h,q⟩ | h
  ·rw[h];cases c:bd i y with
   | inl a=>
    have:=ae3 I p m l n (i+1) a au (q a c);simp only[Bi,c];exact this
   | inr r=>
    simp only[Bi,c];exact .inl trivial
  ·rw[h];exact .inr rfl
theorem KL {s:Ix X Y}{a b:Int}{c:Int->Y->Pg (Y⊕R)}{d:Int->Y->Pg R}{y:Y}(I:Int->Y->Prop)(u:I a y)(A: -9223372036854775808<=a)(x:b<=9223372036854775807)
  (q:∀(i:Int) (y:Y),a<=i->i < b->I i y->Is (c i y)/\∀l,(c i y).val= .inl l->I (i+1) l)
  (v:∀i y,a<=i->b<=i->I i y->Is (d i y)):Is (.cnt s a b c d y):=fun R' f e=>by
 simp only[Pg.runK,AX];refine ae3 (s:=s) (f:=f) (e:=e) (bd:=fun i y=>(c i y).val) (g:=fun i y=>(d i y).val) (fun i y=>a<=i/\I i y) x (fun i y m j=> ?_) (fun i y n j=> ?_) _ a y rfl ⟨H8 _,u⟩
 ·obtain⟨t,w⟩:=q i y j.1 m j.2;simp only[s.h1,s.h2,m,decide_true,AC];rcases t (X⊕R') (fun z=>nxI s i (Sum.map id f z)) (.inr e)with h | h
  ·refine .inl ⟨?_,fun l p=>⟨by omega,w l p⟩⟩;rw[h];have o:dA .i64 (i+1)=i+1:=eQ (k:= .i64) ve;cases(c i y).val with
   | inl l=>simp only[Sum.map_inl,id_eq,nxI,o]
   | inr r=>rfl
  ·exact .inr h
 ·simp only[s.h1,s.h2,show ¬i < b by omega,decide_false,qH];exact(v i y j.1 n j.2) (X⊕R') (fun r=> .inr (f r)) (.inr e)
theorem Vz {s:Ix X Y}{a b:Int}{c:Int->Y->Pg (Y⊕R)}{d:Int->Y->Pg R}{y:Y}(h: -9223372036854775808<=a)(j:b<=9223372036854775807)
  (g:∀(i:Int) (y:Y),a<=i->i < b->Is (c i y)) (k:∀i y,a<=i->b<=i->Is (d i y)):Is (.cnt s a b c d y):=
 KL (fun _ _=>True) trivial h j (fun i y f e _=>⟨g i y f e,fun _ _=>trivial⟩) fun i y f e _=>k i y f e
theorem al7 {c:List Prop}{h:Bool}{s:Ix X Y}{l:List A}{d:A}{a:Int->A->Y->Pg (Y⊕R)}{b:Int->Y->Pg R}{y:Y}(I:Nat->Y->Prop)(n:I 0 y)(j:ah1 c)
  (m:h=true\/l.length<=9223372036854775807)
  (i:∀(k:Nat) (y:Y),k < l.length->l.length<=9223372036854775807->I k y->Is (a ↑k (l.getD k d) y)/\∀g,(a ↑k (l.getD k d) y).val= .inl g->I (k+1) g)
  (o:∀y,l.length<=9223372036854775807->I l.length y->Is (b ↑l.length y)):Is (.Y0 c h s l d a b y):=fun R' f e=>by
 have:=DR (s:=s) I n m i o R' f e;simp only[Pg.runK,EF j]at this⊢;exact this
theorem auu {c:List Prop}{h:Bool}{s:Ix X Y}{l:List A}{d:A}{a:Int->A->Y->Pg (Y⊕R)}{b:Int->Y->Pg R}{y:Y}(g:ah1 c)(i:h=true\/l.length<=9223372036854775807)
  (e:∀(k:Nat) (y:Y),k < l.length->l.length<=9223372036854775807->Is (a ↑k (l.getD k d) y)) (m:∀y,l.length<=9223372036854775807->Is (b ↑l.length y)):Is (.Y0 c h s l d a b y):=
 al7 (fun _ _=>True) trivial g i (fun k y j f _=>⟨e k y j f,fun _ _=>trivial⟩) fun y h _=>m y h
theorem aeC {h:List Prop}{q:Option Prop}{s:Ix X Y}{a b:Int}{c:Int->Y->Pg (Y⊕R)}{g:Int->Y->Pg R}{y:Y}(I:Int->Y->Prop)(r:I a y)(j:ah1 h)(m: -9223372036854775808<=a)(k:o_ q->b<=9223372036854775807)
  (n:∀(i:Int) (y:Y),a<=i->i < b->b<=9223372036854775807->I i y->Is (c i y)/\∀l,(c i y).val= .inl l->I (i+1) l)
  (t:∀i y,a<=i->b<=i->I i y->Is (g i y)):Is (.Hz h q s a b c g y):=fun R' f e=>by
 by_cases d:o_ q
 ·have:=KL (s:=s) I r m (k d) (fun i y p o=>n i y p o (k d)) t R' f e;simp only[Pg.runK,EF j,art d]at this⊢;exact this
 ·refine .inr ?_;simp only[Pg.runK,EF j,atj d];rw[wR]
theorem yM {g:List Prop}{q:Option Prop}{s:Ix X Y}{a b:Int}{c:Int->Y->Pg (Y⊕R)}{d:Int->Y->Pg R}{y:Y}(l:ah1 g)(j: -9223372036854775808<=a)(m:o_ q->b<=9223372036854775807)
  (h:∀(i:Int) (y:Y),a<=i->i < b->b<=9223372036854775807->Is (c i y)) (n:∀i y,a<=i->b<=i->Is (d i y)):Is (.Hz g q s a b c d y):=
 aeC (fun _ _=>True) trivial l j m (fun i y f e k _=>⟨h i y f e k,fun _ _=>trivial⟩) fun i y f e _=>n i y f e
theorem Jo {n:Nat}{k:R}{step:X->Pg (X⊕R)}{x:X}(I:X->Prop)(c:X->Nat)(m:I x)(p:c x < n)
  (g:∀x,I x->Is (step x)/\∀a,(step x).val= .inl a->I a/\c a < c x):Is (.wh n k step x):=fun R' f e=>by
 simp only[Pg.runK,Q7];induction n generalizing x with
 | zero=>omega
 | succ n d=>
  rw[wR];obtain⟨j,i⟩:=g x m;rcases j (X⊕R') (Sum.map id f) (.inr e)with h | h
  ·rw[h];cases b:(step x).val with
   | inl a=>
    obtain⟨l,o⟩:=i a b;simp only[Sum.map_inl,id_eq,whN,b];exact d l au
   | inr r=>
    simp only[Sum.map_inr,whN,b];exact .inl trivial
  ·rw[h];exact .inr rfl
end
end Go.Vc
namespace Go.Vc
open Go.RowKit
structure Seat (D:Type) where
 P:Program
 S:Sh D
 T:TypeId->Option Ty
 mx:P.follows .mixedOrders=true
 hT:∀t ty,T t=some ty->fB P t ty
 hS:iL S
structure aY {D:Type}(Z:Seat D) where
 f:FuncId
 ct:Ct D
 ok:dJ Z.P Z.S f ct
section
variable {D:Type}{Z:Seat D}
def CV:List (aY Z)->FuncId->Option (Ct D)
 | [],_=>none
 | e::r,f=>if Nat.beq f e.f then(match CV r f with
  | some c=>some (aoq e.ct c)
  | none=>some e.ct)else CV r f
theorem EH:∀{l:List (aY Z)} {f:FuncId} {a:Ct D},CV l f=some a->dJ Z.P Z.S f a
 | [],f,a,h=>by cases h
 | e::r,f,a,h=>by
  unfold CV at h;split at h
  ·rename_i b;have b:=Qa b;subst b;split at h
   ·rename_i c d;injection h with h
    subst h;exact Zl e.ok (EH d)
   ·injection h with h
    subst h;exact e.ok
  ·exact EH h
structure Sh1 (S:Sh D):Type 1 where
 i:Nat
 sh:CQ D
 ok:pY S sh
def jS {S:Sh D}(i:Nat)(a:CQ D)[h:pY S a]:Sh1 S:=⟨i,a,h⟩
def jL {S:Sh D}:List (Sh1 S)->Nat->Option (CQ D)
 | [],_=>none
 | s::r,n=>if Nat.beq n s.i then some s.sh else jL r n
theorem aAG {S:Sh D}:∀{l:List (Sh1 S)} {i:Nat} {a:CQ D},jL l i=some a->pY S a
 | [],i,a,h=>by cases h
 | s::r,i,a,h=>by
  unfold jL at h;split at h
  ·injection h with h
   subst h;exact s.ok
  ·exact aAG h
def wC (a:Func):Code:=a.body.getD .skip
def uB (a:Func):Bool:=a.body.isSome && (a.name != "runtime.NumGoroutine" && qE (wC a))
def wV (Z:Seat D)(g:FuncId->Option (Ct D))(J:Nat->Option (CQ D))(d:qQ D)(c:CQ D)(f:Nat)(b:List Nat)(e:Func)(n:Nat)(a:d.A):Tr D c.X:=
 H9 Z.T Z.S g n J (wC e) c.X (St.init (d.enc a).1 (d.enc a).2) (aH4 Z.T Z.S e.results.toList c f b)
theorem afo {Γ:FuncId->Option (Ct D)}(q:∀f t,Γ f=some t->dJ Z.P Z.S f t){J:List (Sh1 Z.S)}{AS:qQ D}{RS:CQ D}{fQ n:Nat}{keep:List Nat}{f:FuncId}{d:Func}(p:O5 Z.S AS fQ n)(r:pY Z.S RS)
  (B:Z.P.funcs[f]? =some d) (w:d.ntmps=n) (v:uB d=true) (k:Nat) (y:d.results.toList.length=k) (F:AS.A->Pg RS.X) (b:AS.A->Option Prop) (j:∀a e,o_ (b a)->(F a).run e=(wV Z Γ (jL J) AS RS fQ keep d n a).run e)
  (m:AS.A->RS.X) (o:∀a,o_ (b a)->Is (F a)/\(F a).val=m a):dJ Z.P Z.S f (mi AS RS k keep b m):=by
 subst y;simp only[uB,iT,Qe,ne_eq]at v;obtain⟨A,x,E⟩:=v;obtain⟨c,u⟩:=Qbs.1 A;have g:wC d=c:=by simp[wC,u]
 refine aEk (J:=jL J) Z.mx Z.hT q Z.hS (fun i G h=>aAG (l:=J) h) B u (by simpa using x) w rfl (by rw[<-g];exact E) p r b m fun a s=> ?_;obtain⟨z,C⟩:=o a s;have h:=j a (F a).val s;rw[z.run,C]at h;unfold wV at h;rw[g]at h;exact h.symm
theorem gp {h:qQ D}{j:CQ D}{k:Nat}{e:List Nat}{f:FuncId}{m:Func}(t:Z.P.funcs[f]? =some m)(l:uB m=true){d:h.A->Option Prop}{x:h.A->j.X}(u:∀a,o_ (d a)->False):
  dJ Z.P Z.S f (mi h j k e d x):=by
 simp only[uB,iT,Qe,ne_eq]at l;obtain⟨s,o,E⟩:=l;obtain⟨c,n⟩:=Qbs.1 s;refine⟨fun args w=>by simp[callFunc,t,o,n],fun X N g w args A C p r v z B y b i=> ?_⟩;unfold mi at b;split at b
 ·cases b
 ·injection b with b
  injection b with q b
  subst q;exact(u _ (Dw.1 i)).elim
noncomputable def uF (Z:Seat D)(q:List (aY Z))(J:List (Sh1 Z.S))(c:qQ D){p n:Nat}(m:O5 Z.S c p n)(g:CQ D)[o:pY Z.S g](d:List Nat){f:FuncId}{h:Func}
  (t:Z.P.funcs[f]? =some h) (r:h.ntmps=n) (u:uB h=true) (k:Nat) (s:h.results.toList.length=k) (F:c.A->Pg g.X) (b:c.A->Option Prop) (i:∀a e,o_ (b a)->(F a).run e=(wV Z (CV q) (jL J) c g p d h n a).run e)
  (j:c.A->g.X) (l:∀a,o_ (b a)->Is (F a)/\(F a).val=j a):aY Z:=
 ⟨f,mi c g k d b j,afo (fun _ _=>EH) m o t r u k s F b i j l⟩
end
end Go.Vc
namespace Go.Vc
section
variable {A R Y:Type}
def BR (p:A->Bool):List A->Nat->Int
 | [],_=> -1
 | a::l,k=>bif p a then(↑k:Int)else BR p l (k+1)
def iI (p:A->Bool)(l:List A):Int:=BR p l 0
theorem m_ (p:A->Bool):∀(l:List A) (k:Nat),Nl (fun k a (_:Unit)=>cond (p a) (.inr (↑k:Int)) (.inl ())) (fun _ _=>(-1:Int)) l k ()=BR p l k
 | [],_=>rfl
 | a::l,k=>by
  unfold Nl BR;cases p a with
  | true=>rfl
  | false=>exact m_ p l (k+1)
theorem N8 (p:A->Bool):∀(l:List A) (k:Nat),(BR p l k= -1/\∀a∈l,p a=false)\/∃(u:List A) (a:A) (v:List A),l=u++a::v/\p a=true/\(∀x∈u,p x=false)/\BR p l k=↑(k+u.length)
 | [],k=> .inl ⟨rfl,fun a h=>by simp at h⟩
 | a::l,k=>by
  unfold BR;cases d:p a with
  | true=>exact .inr ⟨[],a,l,rfl,d,(fun x h=>by simp at h),rfl⟩
  | false=>
   rcases N8 p l (k+1)with⟨g,e⟩ | ⟨u,b,v,g,e,i,j⟩
   ·refine .inl ⟨g,fun b c=> ?_⟩;rcases CW.1 c with rfl | c
    ·exact d
    ·exact e b c
   ·refine .inr ⟨a::u,b,v,by rw[g];rfl,e,fun x f=> ?_,?_⟩
    ·rcases CW.1 f with rfl | f
     ·exact d
     ·exact i x f
    ·simp only[qH,j,AB];congr 1;omega
theorem Ac (p:A->Bool)(l:List A):(iI p l= -1/\∀a∈l,p a=false)\/∃(u:List A) (a:A) (v:List A),l=u++a::v/\p a=true/\(∀x∈u,p x=false)/\iI p l=↑u.length:=by
 have:=N8 p l 0;unfold iI;simpa only[FQ]using this
theorem oM (p:A->Bool)(l:List A):iI p l < l.length/\ -1<=iI p l:=by
 rcases Ac p l with⟨h,_⟩ | ⟨u,a,v,rfl,_,_,h⟩
 ·rw[h];omega
 ·rw[h];simp;omega
theorem Ed {X:Type}{step:X->X⊕R}{f:R}(I:X->Prop)(b:X->Nat)(Q:R->Prop)(e:∀x,I x->(∃a,step x= .inl a/\I a/\b a < b x)\/∃r,step x= .inr r/\Q r):∀(n:Nat) (x:X),I x->b x < n->Q (whN step f n x)
 | 0,x,_,h=>by omega
 | n+1,x,g,h=>by
  unfold whN;rcases e x g with⟨a,d,c,i⟩ | ⟨r,d,c⟩
  ·rw[d];exact Ed I b Q e n a c au
  ·rw[d];exact c
def adm (p:A->Bool)(d:A)(l:List A):Pg (List A):=
 .lt (iI p l) fun b=> .br (b==(-1)) (.ret l)
  (.lt (dA .i64 (b+1)) fun f=>
   .wh (l.length+1) default
    (fun(a:Int×Int×List A)=>
     .as (a.snd.snd.length<=9223372036854775807)
      (.br (decide (a.fst < (↑a.snd.snd.length:Int)))
       (.ix a.fst a.snd.snd.length
        (.ob (a.fst.toNat < a.snd.snd.length)
         (.lt (dA .i64 (a.fst+1)) fun(c:Int)=>
          .br (!p (a.snd.snd.getD a.fst.toNat d))
           (.ix a.snd.fst a.snd.snd.length
            (.ob (a.snd.fst.toNat < a.snd.snd.length)
             (.ret (.inl (c,dA .i64 (a.snd.fst+1),a.snd.snd.set a.snd.fst.toNat (a.snd.snd.getD a.fst.toNat d))))))
           (.ret (.inl (c,a.snd))))))
       (.ob (0<=a.snd.fst/\a.snd.fst<=(↑a.snd.snd.length:Int)/\(↑a.snd.snd.length:Int)<=(↑a.snd.snd.length:Int))
        (.ob (a.snd.snd.length=a.snd.snd.length)
         (.lt (List.take a.snd.fst.toNat a.snd.snd++List.replicate (a.snd.snd.length - a.snd.fst.toNat) d) fun(e:List A)=>
          .ob ((0:Int)<=0/\0<=a.snd.fst/\a.snd.fst<=(↑e.length:Int)) (.ret (.inr (List.take a.snd.fst.toNat e))))))))
    (f,b,l))
structure aod (p:A->Bool)(l:List A)(x:Int×Int×List A)(j i:Nat):Prop where
 hj:x.1=↑j
 hi:x.2.1=↑i
 lt:i < j
 le:j<=l.length
 len:x.2.2.length=l.length
 tk:x.2.2.take i=(l.take j).filter fun a=> !p a
 dr:x.2.2.drop j=l.drop j
theorem arZ (p:A->Bool)(d:A)(l:List A)(Y:l.length<=9223372036854775806):Is (adm p d l)/\(adm p d l).val=l.filter fun a=> !p a:=by
 unfold adm;rcases Ac p l with⟨U,T⟩ | ⟨u,a,v,D,B,R,b⟩
 ·rw[U];refine⟨dC fun O t=>by subst t;exact aT (fun _=>aO) (fun h=>by cases h),?_⟩;simp only[dV,cO,bu];refine(Qde.2 fun a B=> ?_).symm;rw[T a B];rfl
 ·rw[b];have M:l.length=u.length+(v.length+1):=by rw[D];simp
  have K:(((u.length:Int))== -1)=false:=by
   rw[Qct];omega
  have N:dA .i64 ((u.length:Int)+1)=((u.length+1:Nat):Int):=by
   rw[eQ (k:= .i64) ve];omega
  have J:aod p l (dA .i64 ((u.length:Int)+1),(u.length:Int),l) (u.length+1) u.length:=by
   refine⟨N,rfl,by omega,by omega,rfl,?_,rfl⟩;show l.take u.length=_
   rw[D];have:(u++a::v).take (u.length+1)=u++[a]:=by
    rw[show u++a::v=(u++[a])++v by simp,show u.length+1=(u++[a]).length by simp,Qc6]
   rw[this,Qce,Qc6];have C:u.filter (fun a=> !p a)=u:=Qde.2 fun x b=>by rw[R x b];rfl
   rw[C];simp[B]
  have s:∀(x:Int×Int×List A) (j i:Nat),aod p l x j i->j < l.length->x.2.2.getD j d=l.getD j d/\l.take (j+1)=l.take j++[l.getD j d]/\x.2.2.drop (j+1)=l.drop (j+1):=by
   intro x j i b c;have y:j < x.2.2.length:=by rw[b.len];exact c
   have C:=Qbo c;have V:=Qbo y;have:=b.dr;rw[C,V]at this;injection this with o w
   refine⟨by rw[getD_some c,getD_some y,o],?_,w⟩;rw[getD_some c,Qbr c]
  have step:∀(x:Int×Int×List A) (j i:Nat),aod p l x j i->j < l.length->∀q,p (l.getD j d)=q->
    aod p l (dA .i64 (x.1+1),(cond (!q) (dA .i64 (x.2.1+1),x.2.2.set x.2.1.toNat (x.2.2.getD x.1.toNat d)) x.2)) (j+1) (cond (!q) (i+1) i):=by
   intro x j i b c q g;obtain⟨n,E,I⟩:=s x j i b c
   have m:dA .i64 (x.1+1)=((j+1:Nat):Int):=by rw[b.hj,eQ (k:= .i64) ve];omega
   have W:=b.lt;cases q with
   | true=>
    refine⟨m,b.hi,?_,by omega,b.len,?_,I⟩
    ·simp;omega
    ·show x.2.2.take i=_
     rw[b.tk,E,Qce,Qc7,g];simp
   | false=>
    refine⟨m,?_,?_,by omega,?_,?_,?_⟩
    ·show dA .i64 (x.2.1+1)=_
     rw[b.hi,eQ (k:= .i64) ve];simp
    ·simp;omega
    ·simp[b.len]
    ·show(x.2.2.set x.2.1.toNat (x.2.2.getD x.1.toNat d)).take (i+1)=_
     rw[b.hi,b.hj,DI,DI,n];have F:i < (x.2.2.set i (l.getD j d)).length:=by rw[Qb6,b.len];omega
     rw[Qbr F,List.getElem_set_self,List.take_set_of_le (oC i),b.tk,E,Qce,Qc7,g];simp
    ·show(x.2.2.set x.2.1.toNat (x.2.2.getD x.1.toNat d)).drop (j+1)=_
     rw[b.hi,DI,Qdc au];exact I
  refine⟨dC fun O t=>aT (fun _=>aO) fun _=>dC fun Z H=> ?_,?_⟩
  ·subst t H;refine Jo (fun x=>∃j i,aod p l x j i) (fun x=>l.length - x.1.toNat) ⟨_,_,J⟩ au ?_;rintro x ⟨j,i,b⟩;have o:=b.hj;have w:=b.hi;have P:=b.lt;have S:=b.le;have Q:=b.len;refine⟨eH fun _=>cZ (fun h=>bW au au (aW au (dC fun v5 X=>aT (fun _=>bW au au (aW au aO)) (fun _=>aO)))) (fun h=>aW au (aW rfl (dC fun v6 hv6=>aW qb8 aO))),fun x' G=> ?_⟩;revert G;simp only[kK,cO,lG,eG,dV,bu];by_cases h:x.1 < (↑x.2.2.length:Int)
   ·simp only[h,decide_true,AC];intro e;have c:j < l.length:=by omega
    obtain⟨n,_,_⟩:=s x j i b c
    have f:=step x j i b c _ rfl;have z:x.2.2.getD x.1.toNat d=l.getD j d:=by rw[o,DI];exact n
    rw[z]at e f;have m:dA .i64 (x.1+1)=((j+1:Nat):Int):=f.hj;cases g:p (l.getD j d)with
    | true=>
     rw[g]at e f;injection e with e
     subst e;exact⟨⟨_,_,f⟩,by
       have:(dA .i64 (x.1+1)).toNat=j+1:=by rw[m];rfl
       show l.length - (dA .i64 (x.1+1)).toNat < _
       omega⟩
    | false=>
     rw[g]at e f;injection e with e
     subst e;exact⟨⟨_,_,f⟩,by
       have:(dA .i64 (x.1+1)).toNat=j+1:=by rw[m];rfl
       show l.length - (dA .i64 (x.1+1)).toNat < _
       omega⟩
   ·simp only[h,decide_false,qH];intro e;cases e
  ·simp only[dV,cO,K,qH,Q7];refine Ed (fun x=>∃j i,aod p l x j i) (fun x=>l.length - x.1.toNat) (fun r=>r=l.filter fun a=> !p a) ?_ _ _ ⟨_,_,J⟩ au;rintro x ⟨j,i,b⟩;have o:=b.hj;have w:=b.hi;have P:=b.lt;have S:=b.le;have Q:=b.len;simp only[kK,cO,lG,eG,dV,bu];by_cases h:x.1 < (↑x.2.2.length:Int)
   ·left
    simp only[h,decide_true,AC];have c:j < l.length:=by omega
    obtain⟨n,_,_⟩:=s x j i b c
    have f:=step x j i b c _ rfl;have z:x.2.2.getD x.1.toNat d=l.getD j d:=by rw[o,DI];exact n
    rw[z]at f⊢;have m:dA .i64 (x.1+1)=((j+1:Nat):Int):=f.hj;have L:l.length - (dA .i64 (x.1+1)).toNat < l.length - x.1.toNat:=by
     have:(dA .i64 (x.1+1)).toNat=j+1:=by rw[m];rfl
     omega
    cases g:p (l.getD j d)with
    | true=>rw[g]at f;exact⟨_,rfl,⟨_,_,f⟩,L⟩
    | false=>rw[g]at f;exact⟨_,rfl,⟨_,_,f⟩,L⟩
   ·right
    simp only[h,decide_false,qH];refine⟨_,rfl,?_⟩;have c:j=l.length:=by omega
    rw[w,DI];have e:=b.tk;rw[c,Lc]at e;rw[<-e,List.take_append_of_le_length qbi,Qd9,Nat.min_self]
theorem getD_mem {l:List A}{i:Nat}{d:A}(h:i < l.length):l.getD i d∈l:=by
 rw[getD_some h];exact List.getElem_mem h
theorem amN (b:Int->Y->Y⊕R)(f:Int->Y->R)(n:Nat)(i:Int)(y:Y):Bi b f (n+1) i y=thenS (b i y) (Bi b f n (i+1)):=by
 unfold Bi thenS;cases b i y<;>rfl
theorem L8 (b:Int->Unit->Unit⊕R)(f:Int->Unit->R)(n:Nat)(i:Int):Bi b f (n+1) i ()=thenS (b i ()) fun _=>Bi b f n (i+1) ():=
 (amN b f n i ()).trans (Qcw (thenS (b i ())) (funext fun u=>rfl))
theorem MP (b:Int->Y->Y⊕R)(f:Int->Y->R)(i:Int)(y:Y):Bi b f 0 i y=f i y:=rfl
theorem agz {X:Type}(c:Bool)(a b:X⊕R)(k:X->R):thenS (cond c a b) k=cond c (thenS a k) (thenS b k):=by cases c<;>rfl
end
end Go.Vc
namespace Go.Vc
section
variable {R A X Y:Type}
def jG (t:Pg R)(Q:R->Prop):Prop:=Is t/\Q t.val
theorem jG.is {t:Pg R}{Q:R->Prop}(h:jG t Q):Is t:=h.1
theorem ah {Q:R->Prop}{r:R}(h:Q r):jG (.ret r) Q:=⟨aO,h⟩
theorem aj {Q:R->Prop}{p:Prop}{k:Pg R}(b:p)(a:jG k Q):jG (.ob p k) Q:=⟨aW b a.1,a.2⟩
theorem aU {Q:R->Prop}{i:Int}{n:Nat}{k:Pg R}(c:0<=i)(a:i < ↑n)(b:jG k Q):jG (.ix i n k) Q:=aj ⟨c,a⟩ b
theorem dw {Q:R->Prop}{p:Prop}{k:Pg R}(a:jG k Q):jG (.as p k) Q:=⟨eH fun _=>a.1,a.2⟩
theorem dX {Q:R->Prop}{b:Bool}{t e:Pg R}(c:b=true->jG t Q)(a:b=false->jG e Q):jG (.br b t e) Q:=
 ⟨aT (fun h=>(c h).1) (fun h=>(a h).1),by
  cases b with
  | true=>exact(c rfl).2
  | false=>exact(a rfl).2⟩
theorem bK {Q:R->Prop}{p:Prop}{a:Decidable p}{t e:Pg R}(c:p->jG t Q)(b:¬p->jG e Q):jG (.br (@decide p a) t e) Q:=
 dX (fun h=>c (Fa h)) (fun h=>b (of_decide_eq_false h))
theorem dZ {Q:R->Prop}{a b:A}[h:BEq A][f:LawfulBEq A]{t e:Pg R}(d:a=b->jG t Q)(c:¬a=b->jG e Q):jG (.br (a==b) t e) Q:=
 dX (fun h=>d qbv) (fun h=>c qbv)
theorem dW {Q:R->Prop}{a b:A}[h:BEq A][f:LawfulBEq A]{t e:Pg R}(d:¬a=b->jG t Q)(c:a=b->jG e Q):jG (.br (a !=b) t e) Q:=
 dX (fun h=>d qbv) (fun h=>c qbv)
theorem aC {Q:R->Prop}{v:A}{k:A->Pg R}(h:∀x,x=v->jG (k x) Q):jG (.lt v k) Q:=h v rfl
theorem lU {Q:R->Prop}{n:Int}{k:Int->Pg R}(h:∀x,x=dA .i64 n->(-9223372036854775808<=n/\n<=9223372036854775807->x=n)->jG (k x) Q):jG (.lt (dA .i64 n) k) Q:=
 h _ rfl fun a=>eQ (k:= .i64) a
theorem bQ {Q:R->Prop}(c:X->Prop){a:Pg (X⊕R)}{k:X->Pg R}(d:jG a (Sum.elim c Q))(h:∀x,c x->jG (k x) Q):jG (.cut k a) Q:=by
 have b:∀x,a.val= .inl x->c x:=fun x e=>by
  have:=d.2;rw[e]at this;exact this
 refine⟨kL d.1 fun x e=>(h x (b x e)).1,?_⟩;rw[nY];have g:=d.2;cases f:a.val with
 | inl x=>exact(h x (b x f)).2
 | inr r=>rw[f]at g;exact g
theorem EQ {b:Nat->A->Y->Y⊕R}{f:Nat->Y->R}{d:A}{Q:R->Prop}(I:Nat->Y->Prop):∀(l:List A) (k:Nat) (y:Y),I k y->(∀j y,j < l.length->I (k+j) y->Sum.elim (I (k+j+1)) Q (b (k+j) (l.getD j d) y))->(∀y,I (k+l.length) y->Q (f (k+l.length) y))->Q (Nl b f l k y)
 | [],k,y,g,_,h=>h y g
 | a::l,k,y,g,n,h=>by
  unfold Nl;have c:=n 0 y oI g;have e:(a::l).getD 0 d=a:=rfl;rw[e]at c;simp only[Pj]at c;cases m:b k a y with
  | inr r=>rw[m]at c;exact c
  | inl o=>
   rw[m]at c;refine EQ (d:=d) I l (k+1) o c (fun j z p i=> ?_) (fun z i=> ?_)
   ·have:=n (j+1) z qbt (by rw[<-Qdl,Nat.add_right_comm];exact i);rw[show k+(j+1)=k+1+j by omega]at this;exact this
   ·have:=h z (by simp only[AB];rw[show k+(l.length+1)=k+1+l.length by omega];exact i);simp only[AB]at this;rw[show k+(l.length+1)=k+1+l.length by omega]at this;exact this
theorem bY {Q:R->Prop}{h:Bool}{s:Ix X Y}{l:List A}{d:A}{b:Int->A->Y->Pg (Y⊕R)}{c:Int->Y->Pg R}{y:Y}(I:Nat->Y->Prop)(i:I 0 y)(n:l.length<=9223372036854775807)
  (e:∀(k:Nat) (y:Y),k < l.length->I k y->jG (b ↑k (l.getD k d) y) (Sum.elim (I (k+1)) Q)) (m:∀y,I l.length y->jG (c ↑l.length y) Q):jG (.each h s l d b c y) Q:=by
 refine⟨DR I i (.inr n) (fun k y g _ f=>⟨(e k y g f).1,fun q p=> ?_⟩) (fun y _ h=>(m y h).1),?_⟩
 ·have:=(e k y g f).2;rw[p]at this;exact this
 ·rw[DN];refine EQ (d:=d) I l 0 y i (fun j y o a=> ?_) (fun y a=> ?_)
  ·rw[FQ]at a⊢;exact(e j y o a).2
  ·rw[FQ]at a⊢;exact(m y a).2
theorem Fq {b:Int->Y->Y⊕R}{f:Int->Y->R}{Q:R->Prop}(I:Int->Y->Prop)(e:Int):∀(n:Nat) (i:Int) (y:Y),(e - i).toNat=n->I i y->(∀i y,i < e->I i y->Sum.elim (I (i+1)) Q (b i y))->(∀i y,e<=i->I i y->Q (f i y))->Q (Bi b f n i y)
 | 0,i,y,j,c,_,d=>d i y au c
 | n+1,i,y,j,c,h,d=>by
  unfold Bi;have a:=h i y au c;cases g:b i y with
  | inr r=>rw[g]at a;exact a
  | inl k=>rw[g]at a;exact Fq I e n (i+1) k au a h d
theorem rM {Q:R->Prop}{s:Ix X Y}{a b:Int}{e:Int->Y->Pg (Y⊕R)}{g:Int->Y->Pg R}{y:Y}(I:Int->Y->Prop)(l:I a y)(o: -9223372036854775808<=a)(p:b<=9223372036854775807)
  (j:∀(i:Int) (y:Y),a<=i->i < b->I i y->jG (e i y) (Sum.elim (I (i+1)) Q)) (m:∀i y,a<=i->b<=i->I i y->jG (g i y) Q):jG (.cnt s a b e g y) Q:=by
 refine⟨KL I l o p (fun i y d f c=>⟨(j i y d f c).1,fun q n=> ?_⟩) (fun i y d f h=>(m i y d f h).1),?_⟩
 ·have:=(j i y d f c).2;rw[n]at this;exact this
 ·rw[AX];refine Fq (fun i y=>a<=i/\I i y) b _ a y rfl ⟨H8 _,l⟩ (fun i y d c=> ?_) (fun i y d c=>(m i y c.1 d c.2).2);have:=(j i y c.1 d c.2).2;cases k:(e i y).val with
  | inr r=>rw[k]at this;exact this
  | inl q=>rw[k]at this;exact⟨by omega,this⟩
theorem oU {Q:R->Prop}{n:Nat}{i:R}{step:X->Pg (X⊕R)}{x:X}(I:X->Prop)(b:X->Nat)(h:I x)(g:b x < n)
  (d:∀x,I x->jG (step x) (Sum.elim (fun a=>I a/\b a < b x) Q)):jG (.wh n i step x) Q:=by
 refine⟨Jo I b h g fun x c=>⟨(d x c).1,fun a f=> ?_⟩,?_⟩
 ·have:=(d x c).2;rw[f]at this;exact this
 ·rw[Q7];refine Ed I b Q (fun x c=> ?_) n x h g;have:=(d x c).2;cases e:(step x).val with
  | inl a=>rw[e]at this;exact .inl ⟨a,rfl,this⟩
  | inr r=>rw[e]at this;exact .inr ⟨r,rfl,this⟩
end
end Go.Vc
namespace Go.Vc
open Go.RowKit Go.ChangeShapes Go.WideShapes Go.ChangeAt Go.Joins
structure Sz (P:Program) where
 M:{H:Type}->TypeId->DataW H->Nat->Prop
 str:∀{H:Type} {t:TypeId} {s:List UInt8} {n:Nat},M (H:=H) t (.lit (.string s)) n->s.length<=n
 sl:∀{H:Type} {t e:TypeId} {el sp:List (DataW H)} {n:Nat},P.underlying t=some (.slice e)->1<=P.bytesOf e->M t (.slice el sp) n->el.length<=n/\∀d∈el,M e d n
 st:∀{H:Type} {t:TypeId} {fs:Array Field} {ps:List (DataW H)} {n:Nat},P.underlying t=some (.struct fs)->M t (.agg ps) n->∀(i:Nat) (f:Field) (p:DataW H),fs[i]? =some f->ps[i]? =some p->M f.type p n
section
variable {D α β:Type}{S:Sh D}{P:Program}{Z:Sz P}{F:Nat}
def fP (F:Nat)(P:Program)(S:Sh D)(Z:Sz P)(t:TypeId)(c:ji D α)(f:Nat->α->Prop):Prop:=
 ∀{H:Type} {enc:TypeId×Value->H} {w:World} {e:Nat} {d:Nat->Bool} {g:Bool} {b:Nat} {cs:List Value} {x:DataW H×List MemPlace},
  b < F->DataW.trod enc P w e d g b t cs=some x->∃a,aZ S NoN w noG (c.enc a) cs/\∀n,Z.M t x.1 n->f n a
theorem iM {t:TypeId}{c:ji D α}{b:α->Prop}(h:akC P S t c b):fP F P S Z t c fun _ a=>b a:=by
 intro H enc w g d j e cs x _ i;obtain⟨a,k,f⟩:=h i;exact⟨a,k,fun _ _=>f⟩
theorem Ec {t:TypeId}{c:ji D α}{d b:Nat->α->Prop}(h:fP F P S Z t c d)(m:∀n a,d n a->b n a):fP F P S Z t c b:=by
 intro H enc w k e o f cs x g l;obtain⟨a,p,j⟩:=h g l;exact⟨a,p,fun n i=>m n a (j n i)⟩
theorem RD {t:TypeId}{c:ji D α}{a:Nat->α->Prop}:fP 0 P S Z t c a:=by
 intro H enc w e b f d cs x g;omega
theorem iO {t:TypeId}(e:P.underlying t=some .string):fP F P S Z t cStr fun n s=>s.length<=n:=by
 intro H enc w h f k g cs x _ d;obtain⟨a,b,m⟩:=amq (S:=S) e d;obtain⟨s,l,j,_⟩:=DataW.trod_string e d;refine⟨a,b,fun n c=> ?_⟩;rw[j]at c;have:=Z.str c;rw[l]at b;have b:Value.string s= .string ⟨a.toArray⟩/\_:=b.1;injection b.1 with i
 rw[i]at this;simpa using this
def KC (F:Nat)(P:Program)(S:Sh D)(Z:Sz P)(k:List Field)(d:Nat)(c:ji D α)(g:Nat->α->Prop):Prop:=
 ∀{H:Type} {enc:TypeId×Value->H} {w:World} {e:Nat} {b:Nat->Bool} {h:Bool} {m:Nat} {cs:List Value} (j:List (DataW H)),m < F->
  (∀(i:Nat) (f:Field),k[i]? =some f->∃x:DataW H×List MemPlace,DataW.trod enc P w e b h m f.type ((cs.drop f.offset).take (P.cellsOf f.type))=some x/\j[i]? =some x.1)->cs.length=d+c.n->
  ∃a,aZ S NoN w noG (c.enc a) (cs.drop d)/\∀n,(∀(i:Nat) (f:Field) (p:DataW H),k[i]? =some f->j[i]? =some p->Z.M f.type p n)->g n a
theorem h_ {f:Field}{d:Nat}{c:ji D α}{b:Nat->α->Prop}(j:f.offset=d)(k:P.cellsOf f.type=c.n)(h:fP F P S Z f.type c b):KC F P S Z [f] d c b:=by
 intro H enc w q g i m cs v t s u;obtain⟨x,e,p⟩:=s 0 f rfl;rw[j,k,Qdt qbt]at e;obtain⟨a,r,o⟩:=h t e;exact⟨a,r,fun n l=>o n (l 0 f x.1 rfl p)⟩
theorem bi {f:Field}{s:List Field}{g:Nat}{c:ji D α}{d:ji D β}{k:Nat->α->Prop}{e:Nat->β->Prop}(G:f.offset=g)(J:P.cellsOf f.type=c.n)(h:fP F P S Z f.type c k)(K:KC F P S Z s (g+c.n) d e):
  KC F P S Z (f::s) g (dh c d) fun n p=>k n p.1/\e n p.2:=by
 intro H enc w Q A C m cs L v u B;obtain⟨x,z,O⟩:=u 0 f rfl;rw[G,J]at z;obtain⟨a,I,q⟩:=h v z;obtain⟨b,M,t⟩:=K (L.drop 1) v (fun i o j=>by
  obtain⟨y,E,N⟩:=u (i+1) o (by simpa using j);exact⟨y,E,by rw[Qbj,Qd5];exact N⟩) (by simp only[dh]at B;omega)
 refine⟨(a,b),?_,fun n r=>⟨q n (r 0 f x.1 rfl O),t n fun i o p j l=>r (i+1) o p (by simpa using j) (by rw[Qbj,Qd5]at l;exact l)⟩⟩;have:=aZ.app I M;rw[<-List.drop_drop,Qcd]at this;exact this
theorem rH {t:TypeId}{q:Array Field}{c:ji D α}{d:Nat->α->Prop}{f:α->β}{g:β->α}(s:P.underlying t=some (.struct q))(I:P.cellsOf t=c.n)(z:∀a,g (f a)=a)(h:KC F P S Z q.toList 0 c d):
  fP (F+1) P S Z t (nG c f g) fun n b=>d n (g b):=by
 intro H enc w K A E B cs x N M;obtain⟨r,m,O,y,C,o,L⟩:=DataW.trod_struct s M;obtain⟨a,G,u⟩:=h (m:=m) (cs:=cs) (r.map (·.1)) au (fun i j e=>by
  have k:q[i]? =some j:=by simpa using e
  have l:i < r.length:=by rw[o];exact(Qc.1 k).1
  exact⟨r[i],by rw[L i j k];simp[l],by simp[l]⟩) (by rw[C,I];omega)
 refine⟨f a,by simp only[nG,z];simpa using G,fun n v=> ?_⟩;show d n (g (f a))
 rw[z];rw[y]at v;exact u n fun i j p e J=>Z.st s v i j p (by simpa using e) J
theorem fP.mono {b:Nat}{t:TypeId}{c:ji D α}{a:Nat->α->Prop}(h:fP F P S Z t c a)(j:b<=F):fP b P S Z t c a:=by
 intro H enc w f d i e cs x k g;exact h au g
theorem gZ {t:TypeId}{e:Array Field}{c:ji D α}{d:Nat->α->Prop}{f:α->β}{g:β->α}(k:P.underlying t=some (.struct e))(o:P.cellsOf t=c.n)(m:∀a,g (f a)=a)(h:KC F P S Z e.toList 0 c d):
  fP F P S Z t (nG c f g) fun n b=>d n (g b):=by
 intro H enc w p i l j cs x r q;exact rH k o m h au q
theorem iw {t e:TypeId}{c:ji D α}{p:Nat->α->Prop}{g:List α->D}{Nv:D->Option (List α)}{dflt:α}(R:P.underlying t=some (.slice e))(aa:1<=P.bytesOf e)(hn:P.cellsOf e=c.n)(r:dm S c)(h:fP F P S Z e c p)
  (M:∀l,S.size (g l)=c.n) (B:∀l,S.len (g l)=l.length) (h3:∀l i j,S.cell (g l) i j=(c.enc (l.getD i dflt)).getD j .any) (h4:∀l,S.mp (g l)=none:=by intro _;rfl):
  fP F P S Z t (rF g Nv []) fun n l=>l.length<=n/\∀a∈l,p n a:=by
 intro H enc w L spare held fuel cs x hF hx;rcases DataW.trod_slice R hx with⟨rfl,_⟩ | ⟨A,v,cap,q,rest,m,hfm,rfl,W,hb,hl,hm,hlen,Y,_,_⟩
 ·refine⟨[],⟨?_,trivial⟩,fun n _=>⟨by simp,fun a z=>by simp at z⟩⟩;have hz:S.len (g [])=0:=B [];intro w' _;have:=BZ.mk (S:=S) (w:=w') (g []) (h4 []) none 0 (fun _ _=> .bool false) au au (fun i j b _=>by omega) (fun i j b _=>by omega) (fun i j _ b _=>by omega);rwa [hz]at this
 ·have G:∀i,i < v->∃a,(∃s,w.cells? L (A.add (i*c.n)) c.n=some s/\aZ S NoN w noG (c.enc a) s)/\∀n,(∀y,q[i]? =some y->Z.M e y.1 n)->p n a:=by
   intro i b;have:=Y i b;have k:i < q.length:=by omega
   rw[Ph k,hn,Option.bind_eq_some_iff]at this;obtain⟨s,K,J⟩:=this;obtain⟨a,z,T⟩:=h au J;exact⟨a,⟨s,K,z⟩,fun n E=>T n (E _ (Ph k))⟩
  obtain⟨l,O,X⟩:=acM v G;refine⟨l,⟨?_,trivial⟩,fun n E=> ?_⟩
  ·have Q:∀i j,i < l.length->j < c.n->∃u,w.cell? (A.add (i*c.n+j))=some u/\((c.enc (l.getD i dflt)).getD j .any).Rel S NoN w noG u/\((c.enc (l.getD i dflt)).getD j .any).jE=true:=by
    intro i j b f;obtain⟨⟨s,K,o⟩,_⟩:=X i b;obtain⟨_,hvl,C⟩:=World.cells?_some K;rw[getD_some b];obtain⟨u,I,V⟩:=o.getD' (j:=j) (by rw[r.len];exact f);have:=C j f;rw[add_add',I]at this;refine⟨u,this,V,?_⟩;have k:j < (c.enc l[i]).length:=by rw[r.len];exact f
    rw[getD_some k];exact r.data _ _ (List.getElem_mem k)
   have U:∀i j,∃u,i < l.length->j < c.n->w.cell? (A.add (i*c.n+j))=some u/\((c.enc (l.getD i dflt)).getD j .any).Rel S NoN w noG u/\((c.enc (l.getD i dflt)).getD j .any).jE=true:=by
    intro i j;by_cases b:i < l.length
    ·by_cases f:j < c.n
     ·obtain⟨u,I⟩:=Q i j b f;exact⟨u,fun _ _=>I⟩
     ·exact⟨undef,fun _ h=>absurd h f⟩
    ·exact⟨undef,fun h=>absurd h b⟩
   have:=aeM (S:=S) (w:=w) (d:=g l) (a:=some A) (n:=v) (cap:=cap) (by rw[B,O]) hl (by unfold maxLen at hm;omega) (fun i j=>Classical.choose (U i j)) (fun i j b f=> ?_) (fun i j b f=> ?_) (fun i j d' b f N=> ?_)
   ·exact this (h4 l)
   ·rw[B]at b;rw[M]at f⊢;exact⟨A,rfl,(Qb4 (U i j) b f).1⟩
   ·rw[B]at b;rw[M]at f;rw[h3 l i j];obtain⟨_,o,hd⟩:=Qb4 (U i j) b f;exact(Gv (w':=w) hd o (fun _ _ _=>rfl)).1
   ·rw[B]at b;rw[M]at f;rw[h3 l i j]at N;have o:=(Qb4 (U i j) b f).2.1;generalize Classical.choose (U i j)=u at o⊢;rw[N]at o;exact o
  ·rw[W]at E;obtain⟨k1,k2⟩:=Z.sl R aa E;refine⟨by rw[Qbn]at k1;omega,fun a z=> ?_⟩;obtain⟨i,b,rfl⟩:=Qdh z;exact(X i b).2 n fun y J=>k2 y.1 (Qb.2 ⟨y,Qbl J,rfl⟩)
def Zo (P:Program)(S:Sh D)(Z:Sz P)(t:TypeId)(c:Arg D α)(b:Nat->α->Prop):Prop:=
 ∀{H:Type} {enc:TypeId×Value->H} {w:World} {r:Reach} {e:Nat} {v:Value} {d:DataW H} {f:List MemPlace},Value.okWide P w r e t v->DataW.Trod enc P w 0 (fun _=>true) true t v d f->∃a,(c.enc a).Rel S NoN w noG v/\∀n,Z.M t d n->b n a
theorem Yq {t:TypeId}{i:TypeDesc}{c:ji D α}{e:Nat->α->Prop}(l:P.underlying t=some i)(p:aGX i=true)(s:dm S c)(n:c.n=1)(h:∀F,fP F P S Z t c e):Zo P S Z t (bz c) e:=by
 intro H enc w r q v d z b y;obtain⟨f,m⟩:=y;have o:v.cells.toList=[v]:=by
  simp only[Value.okWide,l]at b;cases i<;>simp[aGX]at p
  all_goals (simp only[Cell.okWide,l]at b;cases v<;>simp_all [Cell.ok,Value.cells])
 rw[o]at m;obtain⟨a,g,u⟩:=h (f+1) (Nat.lt_succ_self _) m;refine⟨a,?_,u⟩;have k:=s.len a;simp only[bz];generalize c.enc a=j at g k;cases j with
 | nil=>exact g.elim
 | cons x j=>
  cases j with
  | cons _ _=>simp[n]at k
  | nil=>exact g.1
theorem TL {t:TypeId}{k:Array Field}{c:ji D α}{b:Nat->α->Prop}(j:P.underlying t=some (.struct k))(h:∀F,fP F P S Z t c b):Zo P S Z t (aI c) b:=by
 intro H enc w r l v d o e m;obtain⟨f,n⟩:=m;simp only[Value.okWide,j]at e;obtain⟨cs,rfl,_⟩:=e;obtain⟨a,g,i⟩:=h (f+1) (Nat.lt_succ_self _) n;exact⟨a,⟨cs.toList,by simp,by simpa[Value.cells]using g⟩,i⟩
def Zb (P:Program)(S:Sh D)(Z:Sz P)(e:List TypeId)(c:xB D α)(f:Nat->α->Prop):Prop:=
 ∀{H:Type} {enc:TypeId×Value->H} {w:World} {r:Reach} {g:Nat} {b:List Value} {h:List (DataW H)} {i:List MemPlace},(∀(j:Nat) t v,e[j]? =some t->b[j]? =some v->Value.okWide P w r g t v)->
  DataW.TrodAll enc P w 0 (fun _=>true) true e b h i->∃a,g_ S NoN w noG (c.enc a) b/\∀n,(∀(j:Nat) t d,e[j]? =some t->h[j]? =some d->Z.M t d n)->f n a
theorem asq {t:TypeId}{c:Arg D α}{b:Nat->α->Prop}(h:Zo P S Z t c b):Zb P S Z [t] (a1 c) b:=by
 intro H enc w r j u y x e k;obtain⟨v,o,d,s,p,q,rfl,rfl,rfl,l,i⟩:=trodAll_cons k;obtain⟨rfl,rfl,rfl⟩:=trodAll_nil i;obtain⟨a,f,m⟩:=h (e 0 t v rfl rfl) l;exact⟨a,⟨f,trivial⟩,fun n g=>m n (g 0 t d rfl rfl)⟩
theorem Eb {t:TypeId}{l:List TypeId}{c:Arg D α}{r:xB D β}{g:Nat->α->Prop}{e:Nat->β->Prop}(h:Zo P S Z t c g)(y:Zb P S Z l r e):Zb P S Z (t::l) (ak c r) fun n p=>g n p.1/\e n p.2:=by
 intro H enc w r B J L K f C;obtain⟨v,G,d,I,p,q,rfl,rfl,rfl,h1,k⟩:=trodAll_cons C;obtain⟨a,u,F⟩:=h (f 0 t v rfl rfl) h1;obtain⟨b,z,o⟩:=y (fun j i x h1 k=>f (j+1) i x qcx (by simpa using k)) k;exact⟨(a,b),⟨u,z⟩,fun n m=>⟨F n (m 0 t d rfl rfl),o n fun j i s A E=>m (j+1) i s (by simpa using A) (by simpa using E)⟩⟩
theorem afK {f:FuncId}{c:xB D α}{i:α->Option Prop}{m:Nat->α->Prop}{ts:List TypeId}(n:Nat)(C:dJ P S f (mi (args c) aqQ 1 [] i (fun _=>true)))(x:∀a,c.dec (c.enc a)=some a)(o:Zb P S Z ts c m)
  (y:∀a,m n a->o_ (i a)) {H:Type} {A:TypeId×Value->H} {w:World} {r:Reach} {u:Nat} {vs:List Value} {E:List (DataW H)} {J:List MemPlace}
  (F:ab5 S NoN w) (G:∀(j:Nat) t d,ts[j]? =some t->E[j]? =some d->Z.M t d n) (q:∀(j:Nat) t v,ts[j]? =some t->vs[j]? =some v->Value.okWide P w r u t v) (N:DataW.TrodAll A P w 0 (fun _=>true) true ts vs E J):
  Calls P f vs.toArray w fun e z=>e= .returned (.bool true)/\Below w.heap.size w z:=by
 obtain⟨a,I,O⟩:=o q N;have B:=y a (O n G);have p:aV NoN (jT ([]:List (Bk D))) noG=NoN:=by
  funext b;simp[aV,jT,hot]
 have M:Hp S ⟨w,fun _=>False⟩ NoN (jT ([]:List (Bk D))) noG (· < ([]:List (Bk D)).length) w:=
  ⟨zx.refl ⟨w,fun _=>False⟩,fun b K=>K.elim,fun l T h=>by simp[jT]at h,fun l R v Q b h=>by simp[jT,hot]at h,fun l v h=>by simp[noG]at h,fun l v h=>by simp[noG]at h,by rw[p];exact F⟩
 refine(C.calls (fun _=>False) NoN noG w vs (c.enc a) [] ((i a).map dq) (.one (.lf (.bool true))) [] [] M (by rw[p];exact I) ?_ (Dw.2 B)).mono ?_
 ·show mi (args c) aqQ 1 [] i (fun _=>true) (c.enc a) []=_
  unfold mi;have:(args c).dec (c.enc a) []=some a:=x a;rw[this];rfl
 ·rintro e z ⟨v,g',rfl,_,g,s⟩;have s:v= .bool true:=s;exact⟨by rw[s],⟨g.below.os,g.below.tape,g.below.output,g.below.size,fun k L=>g.below.block k L (fun h=>h)⟩⟩
end
end Go.Vc
namespace Go.Vc
open Go.RowKit
theorem kr {p:Prop}(h:p:=by kernel_rfl):p:=h
theorem iR {A:Sort _}{R:Type}{r:R}:A->Is (.ret r):=fun _=>aO
theorem isA {R:Type}{t:Pg R}(h:Is t:=by
 repeat' first
  | exact aO
  | exact wE (dI au au)
  | refine l9 (fun _ _ _=> ?_)
  | refine dC (fun _ _=> ?_)
  | refine eH (fun _=> ?_)
  | refine bW au au ?_
  | refine cZ (fun _=> ?_) (fun _=> ?_)
  | refine dM (fun _=> ?_) (fun _=> ?_)
  | refine eX (fun _=> ?_) (fun _=> ?_)
  | refine aT (fun _=> ?_) (fun _=> ?_)
  | refine aW (by first | assumption | omega | decide | exact dI au au | exact And.intro rfl (by assumption)) ?_
  | refine kL ?_ (fun _ _=> ?_)
  | refine fU (.inr au) (fun _ _ _ _=> ?_) (fun _ _=> ?_)
  | refine Vz au au (fun _ _ _ _ _=> ?_) (fun _ _=> ?_)):Is t:=h
abbrev cI {D:Type}:ji D Int:=gq .i64
abbrev s0 (n:Nat):It:= .slot n false [none]
abbrev nn (n:Nat):List (Option TypeId):=List.replicate n none
abbrev R1 {D A:Type}(c:ji D A):CQ D:=shr [.slot 0 false [none]] (l1 c)
abbrev rl {X R:Type}(x:X):Pg (X⊕R):= .ret (.inl x)
abbrev u2 {A B:Type}{R:Sort _}(f:A->B->R):A×B->R:=fun a=>f a.1 a.2
abbrev u3 {A B C:Type}{R:Sort _}(f:A->B->C->R):A×B×C->R:=fun a=>f a.1 a.2.1 a.2.2
abbrev u4 {A B C E:Type}{R:Sort _}(f:A->B->C->E->R):A×B×C×E->R:=fun a=>f a.1 a.2.1 a.2.2.1 a.2.2.2
abbrev u11 {A B U:Type}{R:Sort _}(f:A->B->R):(A×U)×B->R:=fun a=>f a.1.1 a.2
abbrev aL {A R:Type}(l:List A)(k:Pg R):Pg R:= .as (l.length<=9223372036854775807) k
section
variable {D:Type}{Z:Seat D}{α β:Type}
noncomputable def E0 (i:List (aY Z))(J:List (Sh1 Z.S))(c:xB D α){m:Nat}[s:mW Z.S m c](g:CQ D)[r:pY Z.S g](d:List Nat){f:FuncId}{b:Func}(q:Z.P.funcs[f]? =some b)(k:Nat)(F:α->Pg g.X)
  (l:∀a,Is (F a):=by intro a;exact isA) (p:Nat.ble m b.ntmps=true:=by kernel_rfl) (o:uB b=true:=by kernel_rfl) (n:b.results.toList.length=k:=by kernel_rfl) (j:∀a e,o_ none->(F a).run e=(wV Z (CV i) (jL J) (args c) g 0 d b b.ntmps a).run e:=by intro a e _;kernel_rfl):aY Z:=
 uF Z i J (args c) (jr p) g d q rfl o k n F (fun _=>none) (fun a e h=>j a e h) (fun a=>(F a).val) fun a _=>⟨l a,rfl⟩
noncomputable def yu (j:List (aY Z))(J:List (Sh1 Z.S))(c:xB D α)(b:Hy D β){m l:Nat}[u:mW Z.S m c][v:sF Z.S l b](i:CQ D)[t:pY Z.S i](g:List Nat){f:FuncId}{d:Func}(q:Z.P.funcs[f]? =some d)(k:Nat)(F:α×β->Pg i.X)
  (o:∀a,Is (F a):=by intro a;exact isA) (s:Nat.ble m d.ntmps=true:=by kernel_rfl) (r:uB d=true:=by kernel_rfl) (p:d.results.toList.length=k:=by kernel_rfl) (n:∀a e,o_ none->(F a).run e=(wV Z (CV j) (jL J) (jF c b) i l g d d.ntmps a).run e:=by intro a e _;kernel_rfl):aY Z:=
 uF Z j J (jF c b) (nT s) i g q rfl r k p F (fun _=>none) (fun a e h=>n a e h) (fun a=>(F a).val) fun a _=>⟨o a,rfl⟩
noncomputable def E1 (j:List (aY Z))(J:List (Sh1 Z.S))(c:xB D α){m:Nat}[t:mW Z.S m c](i:CQ D)[s:pY Z.S i](d:List Nat){f:FuncId}{b:Func}(r:Z.P.funcs[f]? =some b)(k:Nat)(F:α->Pg i.X)(g:α->Prop)
  (n:∀a,g a->Is (F a):=by intro a h;exact isA) (q:Nat.ble m b.ntmps=true:=by kernel_rfl) (p:uB b=true:=by kernel_rfl) (o:b.results.toList.length=k:=by kernel_rfl) (l:∀a e,g a->(F a).run e=(wV Z (CV j) (jL J) (args c) i 0 d b b.ntmps a).run e:=by intro a e _;kernel_rfl):aY Z:=
 uF Z j J (args c) (jr q) i d r rfl p k o F (fun a=>some (g a)) (fun a e h=>l a e h) (fun a=>(F a).val) fun a h=>⟨n a h,rfl⟩
noncomputable def Df (n:List (aY Z))(J:List (Sh1 Z.S))(c:xB D α)(b:Hy D β){m l:Nat}[v:mW Z.S m c][w:sF Z.S l b](j:CQ D)[u:pY Z.S j](g:List Nat){f:FuncId}{d:Func}(r:Z.P.funcs[f]? =some d)(k:Nat)(F:α×β->Pg j.X)(i:α×β->Prop)
  (p:∀a,i a->Is (F a):=by intro a h;exact isA) (t:Nat.ble m d.ntmps=true:=by kernel_rfl) (s:uB d=true:=by kernel_rfl) (q:d.results.toList.length=k:=by kernel_rfl) (o:∀a e,i a->(F a).run e=(wV Z (CV n) (jL J) (jF c b) j l g d d.ntmps a).run e:=by intro a e _;kernel_rfl):aY Z:=
 uF Z n J (jF c b) (nT t) j g r rfl s k q F (fun a=>some (i a)) (fun a e h=>o a e h) (fun a=>(F a).val) fun a h=>⟨p a h,rfl⟩
noncomputable def E2 (i:List (aY Z))(J:List (Sh1 Z.S))(c:xB D α){m:Nat}[t:mW Z.S m c](g:CQ D)[s:pY Z.S g](d:List Nat){f:FuncId}{b:Func}(p:Z.P.funcs[f]? =some b)(k:Nat)(F:α->Pg g.X)(h:α->Option Prop)(n:α->g.X)
  (l:∀a,o_ (h a)->Is (F a)/\(F a).val=n a) (r:Nat.ble m b.ntmps=true:=by kernel_rfl) (q:uB b=true:=by kernel_rfl) (o:b.results.toList.length=k:=by kernel_rfl) (j:∀a e,o_ (h a)->(F a).run e=(wV Z (CV i) (jL J) (args c) g 0 d b b.ntmps a).run e:=by intro a e _;kernel_rfl):aY Z:=
 uF Z i J (args c) (jr r) g d p rfl q k o F h j n l
noncomputable def XX (j:List (aY Z))(J:List (Sh1 Z.S))(c:xB D α)(b:Hy D β){m l:Nat}[v:mW Z.S m c][w:sF Z.S l b](h:CQ D)[u:pY Z.S h](g:List Nat){f:FuncId}{d:Func}(r:Z.P.funcs[f]? =some d)(k:Nat)(F:α×β->Pg h.X)(i:α×β->Option Prop)(p:α×β->h.X)
  (o:∀a,o_ (i a)->Is (F a)/\(F a).val=p a) (t:Nat.ble m d.ntmps=true:=by kernel_rfl) (s:uB d=true:=by kernel_rfl) (q:d.results.toList.length=k:=by kernel_rfl) (n:∀a e,o_ (i a)->(F a).run e=(wV Z (CV j) (jL J) (jF c b) h l g d d.ntmps a).run e:=by intro a e _;kernel_rfl):aY Z:=
 uF Z j J (jF c b) (nT t) h g r rfl s k q F i n p o
abbrev amv {A:Type}(l:List A)(d:A)(p:A->Bool):Pg Int:=aL l (.each false um l d (fun i a (_:Unit)=> .ix i l.length (.br (p a) (.ret (.inr i)) (.ret (.inl ())))) (fun _ _=> .ret (-1)) ())
theorem akZ {A:Type}(l:List A)(d:A)(p:A->Bool):Is (amv l d p)/\(amv l d p).val=iI p l:=⟨isA,m_ p l 0⟩
abbrev amT {A:Type}(l:List A)(p:A->Bool):Pg Bool:= .lt (iI p l) fun v=> .ret (decide (0<=v))
theorem akl {A:Type}(l:List A)(p:A->Bool):Is (amT l p)/\(amT l p).val=l.any p:=⟨isA,by
 show decide (0<=iI p l)=l.any p
 rcases Ac p l with⟨h,k⟩ | ⟨u,a,v,rfl,b,d,h⟩
 ·rw[h,sQ au];exact(Qco.2 fun x c=>by rw[k x c];simp).symm
 ·rw[h,wO au];simp[b]⟩
abbrev jX {S:Sh D}:List (Sh1 S):=[jS 2 (bJ (fun a=>[s0 8]) (l1 cI))]
noncomputable def EI {A:Type}(c:List (aY Z))(h:ji D (List A))(n:Nat){m:Nat}[o:mW Z.S m (ak (bz h) (a1 (jP n [])))]{f:FuncId}{b:Func}(l:Z.P.funcs[f]? =some b)(d:A)(p:A->Bool)
  (k:Nat.ble m b.ntmps=true:=by kernel_rfl) (j:uB b=true:=by kernel_rfl) (i:b.results.toList.length=1:=by kernel_rfl) (g:∀(a:List A×Unit) e,o_ none->(amv a.1 d p).run e=(wV Z (CV c) (jL (S:=Z.S) jX) (args (ak (bz h) (a1 (jP n [])))) (R1 cI) 0 [] b b.ntmps a).run e:=by intro a e _;kernel_rfl):aY Z:=
 E2 c jX (ak (bz h) (a1 (jP n []))) (R1 cI) [] l 1 (fun a=>amv a.1 d p) (fun _=>none) (fun a=>iI p a.1) (fun a _=>akZ a.1 d p) k j i g
noncomputable def Oc {A:Type}(g:List (aY Z))(i:ji D (List A))(n:Nat)(cs:List Nat)(b:Hy D β){m l:Nat}[s:mW Z.S m (ak (bz i) (a1 (jP n cs)))][r:sF Z.S l b]{f:FuncId}{c:Func}(q:Z.P.funcs[f]? =some c)(d:A)(p:A->β->Bool)
  (o:Nat.ble m c.ntmps=true:=by kernel_rfl) (k:uB c=true:=by kernel_rfl) (j:c.results.toList.length=1:=by kernel_rfl) (h:∀(a:(List A×Unit)×β) e,o_ none->(amv a.1.1 d fun x=>p x a.2).run e=(wV Z (CV g) (jL (S:=Z.S) jX) (jF (ak (bz i) (a1 (jP n cs))) b) (R1 cI) l cs c c.ntmps a).run e:=by intro a e _;kernel_rfl):aY Z:=
 XX g jX (ak (bz i) (a1 (jP n cs))) b (R1 cI) cs q 1 (fun a=>amv a.1.1 d fun x=>p x a.2) (fun _=>none) (fun a=>iI (fun x=>p x a.2) a.1.1) (fun a _=>akZ a.1.1 d fun x=>p x a.2) o k j h
noncomputable def EA {A:Type}(c:List (aY Z))(g:ji D (List A))(n:Nat){m:Nat}[l:mW Z.S m (ak (bz g) (a1 (jP n [])))]{f:FuncId}{b:Func}(k:Z.P.funcs[f]? =some b)(p:A->Bool)
  (j:Nat.ble m b.ntmps=true:=by kernel_rfl) (i:uB b=true:=by kernel_rfl) (h:b.results.toList.length=1:=by kernel_rfl) (d:∀(a:List A×Unit) e,o_ none->(amT a.1 p).run e=(wV Z (CV c) (jL (S:=Z.S) []) (args (ak (bz g) (a1 (jP n [])))) (R1 aG) 0 [] b b.ntmps a).run e:=by intro a e _;kernel_rfl):aY Z:=
 E2 c [] (ak (bz g) (a1 (jP n []))) (R1 aG) [] k 1 (fun a=>amT a.1 p) (fun _=>none) (fun a=>a.1.any p) (fun a _=>akl a.1 p) j i h d
noncomputable def EAB {A:Type}(d:List (aY Z))(h:ji D (List A))(n:Nat)(cs:List Nat)(b:Hy D β){m l:Nat}[r:mW Z.S m (ak (bz h) (a1 (jP n cs)))][q:sF Z.S l b]{f:FuncId}{c:Func}(o:Z.P.funcs[f]? =some c)(p:A->β->Bool)
  (k:Nat.ble m c.ntmps=true:=by kernel_rfl) (j:uB c=true:=by kernel_rfl) (i:c.results.toList.length=1:=by kernel_rfl) (g:∀(a:(List A×Unit)×β) e,o_ none->(amT a.1.1 fun x=>p x a.2).run e=(wV Z (CV d) (jL (S:=Z.S) []) (jF (ak (bz h) (a1 (jP n cs))) b) (R1 aG) l cs c c.ntmps a).run e:=by intro a e _;kernel_rfl):aY Z:=
 XX d [] (ak (bz h) (a1 (jP n cs))) b (R1 aG) cs o 1 (fun a=>amT a.1.1 fun x=>p x a.2) (fun _=>none) (fun a=>a.1.1.any fun x=>p x a.2) (fun a _=>akl a.1.1 fun x=>p x a.2) k j i g
theorem zD {c:qQ D}{g:CQ D}{k p n:Nat}{d:List Nat}{b:c.A->Option Prop}{j:c.A->g.X}{f:FuncId}{h:Func}(q:List (aY Z))(J:List (Sh1 Z.S))[o:pY Z.S g](t:Z.P.funcs[f]? =some h)(r:h.ntmps=n)(F:c.A->Pg g.X)(l:∀a,o_ (b a)->Is (F a)/\(F a).val=j a)
  (m:O5 Z.S c p n) (u:uB h=true:=by kernel_rfl) (s:h.results.toList.length=k:=by kernel_rfl) (i:∀a e,o_ (b a)->(F a).run e=(wV Z (CV q) (jL J) c g p d h n a).run e:=by intro a e _;kernel_rfl):dJ Z.P Z.S f (mi c g k d b j):=
 afo (fun _ _=>EH) m o t r u k s F b i j l
end
end Go.Vc
