/- Own engine: Vdy, Vdz, Vdk, Vdx, Vd0, Vez. -/
import Derived.Test.YtgdmjfkdbfafjaaGreatDoorEng10
import Derived.SizedLaws
set_option linter.unusedVariables false
set_option linter.unusedSimpArgs false
namespace Go.Vc
theorem xn{p:Prop}(h:p:=by(try simp only[Sum.elim_inl,Sum.elim_inr])<;>(first | trivial | omega | (dsimp only;omega) | (refine yI (ad1 (by omega) rfl) ?_;omega) | (refine⟨Int.le_trans (Int.ofNat_le.2 (ad1 (by omega) rfl)) ?_,?_⟩<;>omega) | (refine yI (aoE _ _ _) ?_;first | omega | (dsimp only at*;omega) | (simp only[CJ]at*;omega)) | (refine yI (am1 _ _ _) ?_;first | omega | (dsimp only at*;omega) | (simp only[CJ]at*;omega)))):p:=h
theorem Ak{p:Prop}(h:p:=by(try simp only[Sum.elim_inl,Sum.elim_inr])<;>(first | trivial | omega | (refine yI (afl _ _ _ _) ?_;(first | omega | (simp only[CJ]at*;omega) | simp)) | (refine yI (aC0 _ _ _ _) ?_;(first | omega | (simp only[CJ]at*;omega) | simp)))):p:=h
theorem qad{p:Prop}(h:p:=by(try simp only[Sum.elim_inl,Sum.elim_inr])<;>(first | trivial | omega | (dsimp only;omega) | (refine yI (ad1 (by omega) rfl) ?_;omega) | (refine⟨Int.le_trans (Int.ofNat_le.2 (ad1 (by omega) rfl)) ?_,?_⟩<;>omega) | (refine yI (aoE _ _ _) ?_;first | omega | (dsimp only at*;omega) | (simp only[CJ]at*;omega)) | (refine yI (am1 _ _ _) ?_;first | omega | (dsimp only at*;omega) | (simp only[CJ]at*;omega)) | (simp only[um];omega))):p:=h
theorem qae{p:Prop}(h:p:=by first | omega | (dsimp only at*;omega) | (simp only[CJ]at*;omega) | exact h | exact h.2.2.2.1 _ (getD_mem (by omega)) | exact h.2.2.2.2.1 _ (getD_mem (by omega)) | exact h.2.2.2.2.2 _ (getD_mem (by omega)) | exact⟨by omega,fun m hm=>(h.2.2.2.1 m hm).1⟩ | exact dm (by omega) (by omega)):p:=h
theorem zZ{p:Prop}(h:p:=by first | omega | (dsimp only at*;omega) | (simp only[CJ]at*;omega)):p:=h
theorem eQ{p:Prop}(h:p:=by kernel_rfl):p:=h
theorem TC{p:Prop}(h:p:=by first | omega | (simp only[CJ]at*;omega) | (have:=h.1.2.2.2.2 _ (getD_mem (d:=[]) aJk);omega)):p:=h
theorem qai{p:Prop}(h:p:=by(try simp only[Sum.elim_inl,Sum.elim_inr])<;>(first | exact aC7 ry hI (by simp only[ah.dR];exact ih.2.2 _ _ _ (aK4 h ry)) | exact aAD hI | exact aCs ab6 hI ⟨⟨by simp only[ah.dR];rw[(z_ _).1];exact(azT h hv7 ab6).2.1,by simp only[ah.dR];exact TR (azT h hv7 ab6).2.2⟩,by simp only[ah.dR,acB];exact nO _⟩ (by simp only[ah.dR];exact ih.2.2 _ _ _ (azT h hv7 ab6).1) | exact aB5 h hv7 hI | (simp only[ah.dR];exact ih.2.2 _ _ _ (UI h)))):p:=h
theorem qaj{p:Prop}(h:p:=by first | omega | exact hl.1 | exact hl.2.1 | (show yZ 2 fu _;rw[ah.dR];exact aLB h hv5 (by omega)) | (have h5:=Yl hl.2.1 hv5;exact dm (by have:=hI.2.2.1;omega) (by have:=hI.2.2.1;omega)) | exact auD hI hv4 hl.1):p:=h
theorem AV{p:Prop}(h:p:=by first | omega | (simp only[CJ]at*;omega)):p:=h
theorem qal{p:Prop}(h:p:=by(try simp only[Sum.elim_inl,Sum.elim_inr])<;>(first | exact aNq h hv4 | exact aw2 hI | (refine aC6 ry hI ?_ hv6;simp only[ah.dR];exact ih.2.1 _ _ _ (aLB h hv5 ry)) | exact azU h hv4 hv5 hI)):p:=h
theorem qam{p:Prop}(h:p:=by(try simp only[Sum.elim_inl,Sum.elim_inr])<;>(first | (rw[ah.dR];exact⟨avP hI.1,hI.2⟩) | (refine⟨?_,by have e:=hI.2;rw[e];rfl⟩;show v4.Sublist _;rw[hv4];exact asv hI.1 (by omega) (by rw[Qa7];exact beq_false_of_ne (by omega))) | (exact⟨y2.Slots,by simpa using hI.1,by rw[ah.dR];have e:=hI.2;rw[e];rfl⟩))):p:=h
theorem qan{p:Prop}(h:p:=by(try simp only[Sum.elim_inl,Sum.elim_inr])<;>(first | exact hI | exact⟨by have:=hI.1;omega,hI.2⟩ | exact⟨by have:=hI.1;simp only[um,yG,CJ];omega,qJ hI.2 (aoi (by rw[ah.dR];exact(amd (getD_mem ry)).1) (by rw[ah.dR];exact(amd (getD_mem ry)).2))⟩ | exact⟨by have:=hI.1;simp only[um,yG,CJ];omega,qJ hI.2 (lD (by rw[ah.dR];exact aAB (getD_mem azw)))⟩)):p:=h
theorem qao{p:Prop}(h:p:=by first | omega | exact hl.2.2.2 | (show yZ 1 fu _;rw[ah.dR];first | exact aK4 h (by omega) | exact(azT h hv7 (by omega)).1 | exact UI h) | exact dm (by have:=hI.2.2;omega) (by have:=hI.2.2;omega) | (have h5:=Va hl.2.2.2 hv7;exact dm (by have:=hI.2.2;omega) (by have:=hI.2.2;omega))):p:=h
theorem qap{p:Prop}(h:p:=by(try simp only[Sum.elim_inl,Sum.elim_inr])<;>(first | exact fun y hy=> .inl hy | exact fun y hy=> .inr (.inl (hI.2 y hy)) | exact fun y hy=> .inr (.inr (by rw[Ko.1 hy,ah.dR])) | exact⟨by(have:=hI.1;simp only[um,yG,CJ];omega),fun z hz=>(yH.1 hz).elim (hI.2 z) fun e=>⟨_,getD_mem (d:=iE) ry,(Ko.1 e).trans (ah.dR _)⟩⟩)):p:=h
theorem qaq{p:Prop}(h:p:=by(try subst_vars);(try simp only[um,yG,CJ]);omega):p:=h
theorem qar{p:Prop}(h:p:=by first | omega | (dsimp only at*;omega) | (simp only[CJ]at*;omega) | exact yI (h.2.2.2.2 _ (getD_mem (by omega))) (by decide)):p:=h
theorem qas{p:Prop}(h:p:=by(try simp only[Sum.elim_inl,Sum.elim_inr])<;>(first | exact fun e=>absurd e (by decide) | (rw[hI,Kr];done) | (rw[hI,IZ (d:=dP) (by omega)];done) | (rw[hI,IZ (d:=kE) (by omega)];done) | (intro _;rw[hI,Kr];exact⟨by simpa using ‹(!oI s)=false›,rfl⟩))):p:=h
theorem qau{p:Prop}(h:p:=by(have:=Ku (pM h) hv4;have:=h.1;first | omega | exact dm (by have:=hI.1.length_le;simp only[QA]at this;omega) (by have:=hI.1.length_le;simp only[QA]at this;omega) | exact⟨abQ (awx h hv4) (by omega),abQ (awx h hv4) (by omega)⟩)):p:=h
theorem qav{p:Prop}(h:p:=by(try simp only[Sum.elim_inl,Sum.elim_inr])<;>(first | exact hI.2 | exact⟨by first | (have:=hI.1;omega) | (rw[hv6];have:=hI.1;simp only[um,yG,CJ];omega),by have:=hI.2.1;simp only[um,yG,CJ];omega,hI.2.2.1,by rw[hv4,hv5];exact avc hI.2.2.2 (getD_mem (d:=aH) ry)⟩)):p:=h
theorem qax{p:Prop}(h:p:=by first | omega | exact h | exact(h.2.2.2.1 _ (getD_mem (by omega))).1 | exact⟨(h.2.2.2.2.1 _ (getD_mem (by omega))).2.1,(h.2.2.2.2.1 _ (getD_mem (by omega))).1⟩ | (rw[hI];simp only[Qb0,QA];exact dm (by omega) (by omega))):p:=h
theorem qay{p:Prop}(h:p:=by first | omega | exact yI (aoE _ _ _) (by(first | omega | (simp only[CJ]at*;omega) | simp)) | exact yI (amh (by omega) rfl) (by omega)):p:=h
theorem qaz{p:Prop}(h:p:=by(try simp only[Sum.elim_inl,Sum.elim_inr])<;>((have:=Ku (pM h) hv4;have:=h.1;first | trivial | omega | exact⟨ag1 hI.1,by omega,by omega⟩ | (refine⟨?_,by omega,by omega⟩;rw[hv5];exact af1 hI.1 (by omega) (by rw[ah.dR,ah.dR,Pair.eta])) | (rw[<-hv4];simpa using hI.1)))):p:=h
theorem qa1{p:Prop}(h:p:=by(try simp only[Sum.elim_inl,Sum.elim_inr])<;>(first | trivial | (simp only[Qb2,Qb3,um,yG,CJ];omega))):p:=h
theorem qa2{p:Prop}(h:p:=by(try simp only[Sum.elim_inl,Sum.elim_inr])<;>((have:=Oh h hv4;first | trivial | omega | exact⟨ag1 hI.1,by omega⟩ | (refine⟨?_,by omega⟩;rw[hv5];exact af1 hI.1 (by omega) (by rw[ah.dR,Slot.eta])) | (rw[<-hv4];simpa using hI.1)))):p:=h
theorem qa4{p:Prop}(h:p:=by(have:=Oh h hv4;first | omega | exact dm (by have:=hI.1.length_le;simp only[QA]at this;omega) (by have:=hI.1.length_le;simp only[QA]at this;omega))):p:=h
theorem qa5{p:Prop}(h:p:=by first | omega | exact yI (afl _ _ _ _) (by(first | omega | (simp only[CJ]at*;omega) | simp)) | exact yI (aug (by omega) rfl) (by omega)):p:=h
theorem qa7{p:Prop}(h:p:=by(try simp only[Sum.elim_inl,Sum.elim_inr])<;>(first | trivial | omega | (simp only[Qbo];omega))):p:=h
theorem qa8{p:Prop}(h:p:=by(try simp only[Sum.elim_inl,Sum.elim_inr])<;>(first | trivial | omega | (simp only[um,yG,CJ];omega))):p:=h
theorem qa9{p:Prop}(h:p:=by first | omega | exact dm (by have:=hI.1;omega) (by have:=hI.1;omega) | exact dm (by have:=hI.2.1;omega) (by have:=hI.2.1;omega)):p:=h
theorem qbb{p:Prop}(h:p:=by first | omega | exact fun x hx hk=>by rw[hI];exact((h.2 _ (getD_mem (d:=dC) azv)).2 x hx).1 hk):p:=h
theorem qbd{p:Prop}(h:p:=by first | omega | exact dm (by omega) (by omega)):p:=h
theorem qbe{p:Prop}(h:p:=by(try simp only[Sum.elim_inl,Sum.elim_inr])<;>(first | exact hI | exact⟨by simp only[um,yG,CJ];omega,hI.2⟩)):p:=h
theorem qbg{p:Prop}(h:p:=by have:=hI.1;omega):p:=h
theorem qbh{p:Prop}(h:p:=by(try simp only[Sum.elim_inl,Sum.elim_inr])<;>(first | trivial | exact hI | (rw[Qbo];exact hI))):p:=h
theorem qbj{p:Prop}(h:p:=by(try simp only[Sum.elim_inl,Sum.elim_inr])<;>(first | (simp only[ah.dR];exact ih.1 _ _ _ (UI h)) | (simp only[ah.dR];exact⟨TR h.1.1,Qdf (acB _)⟩))):p:=h
theorem qbn{p:Prop}(h:p:=by first | omega | (have hq:=aCS hI.1;exact dm (by omega) (by omega))):p:=h
theorem qbo{p:Prop}(h:p:=by first | omega | exact dm (by have:=hI.1;omega) (by have:=hI.1;omega)):p:=h
theorem qbs{p:Prop}(h:p:=by first | (simp;done) | (simp only[Qb2,Qb3];omega)):p:=h
theorem qbv{p:Prop}(h:p:=by(try simp only[Sum.elim_inl,Sum.elim_inr])<;>(first | (rw[Qbo];exact hI) | (rw[G9];exact hI))):p:=h
theorem qbw{p:Prop}(h:p:=by rw[Kr]at hI;exact hI):p:=h
theorem qbx{p:Prop}(h:p:=by have k:=h.1.1.2.1.1;have e:=h.2.2;omega):p:=h
theorem qb0{p:Prop}(h:p:=by simp only[Int.sub_zero,xw];omega):p:=h
theorem qb1{p:Prop}(h:p:=by first | omega | exact h.1 | exact dm (by omega) (by omega)):p:=h
theorem qb2{p:Prop}(h:p:=by first | omega | exact xY (fun _=>rfl) _):p:=h
theorem qb3{p:Prop}(h:p:=by simp[Act.eval,Act.put]):p:=h
theorem qb4{p:Prop}(h:p:=by have k:=h.2.2.2;have:=nI v;omega):p:=h
theorem qcc{p:Prop}(h:p:=by show(0:Int) < (((a::t).length:Nat):Int);simp only[yG];omega):p:=h
theorem qce{p:Prop}(h:p:=by have:=h _ (getD_mem (d:=uQ) (show i1 < l.length by omega));omega):p:=h
theorem qcf{p:Prop}(h:p:=by rw[hI];exact dm (by omega) (by omega)):p:=h
theorem qcj{p:Prop}(h:p:=by rw[QA,Qbs,QA];omega):p:=h
theorem qcm{p:Prop}(h:p:=by obtain⟨_,_,_,k1,k2⟩:=h;exact dm (by omega) (by omega)):p:=h
theorem qco{p:Prop}(h:p:=by rw[<-hv1];simpa using hf):p:=h
theorem qcr{p:Prop}(h:p:=by show ¬(13:Int)=0;decide):p:=h
theorem qct{p:Prop}(h:p:=by have:=h.1;omega):p:=h
theorem qcw{p:Prop}(h:p:=by cases hx):p:=h
instance aNZ {X R:Type} [Inhabited R]:Inhabited (X⊕R):=⟨.inr default⟩
structure Ix (X Y:Type) where
 gi:X->Int
 gy:X->Y
 mx:Int->Y->X
 h1:∀i y,gi (mx i y)=i
 h2:∀i y,gy (mx i y)=y
def oZ {Y:Type}:Ix (Int×Y) Y:=⟨Prod.fst,Prod.snd,Prod.mk,fun _ _=>rfl,fun _ _=>rfl⟩
def uj:Ix Int Unit:=⟨id,fun _=>(),fun i _=>i,fun _ _=>rfl,fun _ _=>rfl⟩
inductive Pg:Type->Type 1 where
 | ret {R:Type} (r:R):Pg R
 | no {R:Type} (r:R):Pg R
 | ob {R:Type} (p:Prop) (k:Pg R):Pg R
 | obD {R:Type} (p:Prop) (d:Decidable p) (k:Pg R):Pg R
 | as {R:Type} (p:Prop) (k:Pg R):Pg R
 | br {R:Type} (b:Bool) (t e:Pg R):Pg R
 | unk {R:Type} (s:Bool) (p:Bool->Prop) (t e:Pg R):Pg R
 | lt {R A:Type} (v:A) (k:A->Pg R):Pg R
 | cut {R X:Type} (k:X->Pg R) (a:Pg (X⊕R)):Pg R
 | wh {R X:Type} (n:Nat) (r:R) (step:X->Pg (X⊕R)) (x:X):Pg R
 | each {R A X Y:Type} (h:Bool) (s:Ix X Y) (l:List A) (d:A) (body:Int->A->Y->Pg (Y⊕R)) (fin:Int->Y->Pg R) (y:Y):Pg R
 | cnt {R X Y:Type} (s:Ix X Y) (a b:Int) (body:Int->Y->Pg (Y⊕R)) (fin:Int->Y->Pg R) (y:Y):Pg R
 | ab5 {R A X Y:Type} (ps:List Prop) (h:Bool) (s:Ix X Y) (l:List A) (d:A) (body:Int->A->Y->Pg (Y⊕R)) (fin:Int->Y->Pg R) (y:Y):Pg R
 | Qp {R X Y:Type} (ps:List Prop) (q:Option Prop) (s:Ix X Y) (a b:Int) (body:Int->Y->Pg (Y⊕R)) (fin:Int->Y->Pg R) (y:Y):Pg R
section
variable {R R' A X Y:Type}
def nxI (s:Ix X Y)(i:Int):Y⊕R->X⊕R
 | .inl y=> .inl (s.mx (dA .i64 (i+1)) y)
 | .inr r=> .inr r
noncomputable def aie:List Prop->Option R->Option R
 | [],k=>k
 | p::a,k=>need p (aie a k)
noncomputable def aHT (q:Option Prop)(e:R)(k:Option R):Option R:=
 match q with
 | none=>k
 | some q=>asm q e k
def aqT:List Prop->Prop
 | []=>True
 | p::a=>p/\aqT a
theorem Ij:∀{a:List Prop} {k:Option R},aqT a->aie a k=k
 | [],_,_=>rfl
 | p::a,k,h=>by unfold aie;rw[Bc h.1,Ij h.2]
theorem awF {q:Option Prop}{e:R}{k:Option R}(h:qW q):aHT q e k=k:=by
 cases q with
 | none=>rfl
 | some q=>exact zB h
theorem axQ {q:Option Prop}{e:R}{k:Option R}(h:¬qW q):aHT q e k=some e:=by
 cases q with
 | none=>exact(h trivial).elim
 | some q=>exact DJ h
noncomputable def Pg.runK:{R:Type}->Pg R->(c:Type)->(R->c)->c->Option c
 | _, .ret r,_,f,_=>some (f r)
 | _, .no _,_,_,_=>none
 | _, .ob p k,c,f,e=>need p (k.runK c f e)
 | _, .obD p _ k,c,f,e=>need p (k.runK c f e)
 | _, .as p k,c,f,e=>asm p e (k.runK c f e)
 | _, .br b t m,c,f,e=>cond b (t.runK c f e) (m.runK c f e)
 | _, .unk _ p t m,c,f,e=>both p (t.runK c f e) (m.runK c f e)
 | _, .lt v k,c,f,e=>(k v).runK c f e
 | _, .cut (X:=X) k a,c,f,e=>ana (a.runK (X⊕c) (Sum.map id f) (.inr e)) fun x=>(k x).runK c f e
 | _, .wh (X:=X) _ _ step x,c,f,e=>rV (fun y=>(step y).runK (X⊕c) (Sum.map id f) (.inr e)) x
 | _, .each (X:=X) h s l d g i y,c,f,e=>rV (fun x=>
   cond h (asm (l.length<=9223372036854775807) (.inr e) (cond (decide (s.gi x < (↑l.length:Int))) ((g (s.gi x) (l.getD (s.gi x).toNat d) (s.gy x)).runK (X⊕c) (fun z=>nxI s (s.gi x) (Sum.map id f z)) (.inr e)) ((i (s.gi x) (s.gy x)).runK (X⊕c) (fun r=> .inr (f r)) (.inr e))))
    (cond (decide (s.gi x < (↑l.length:Int))) ((g (s.gi x) (l.getD (s.gi x).toNat d) (s.gy x)).runK (X⊕c) (fun z=>nxI s (s.gi x) (Sum.map id f z)) (.inr e)) ((i (s.gi x) (s.gy x)).runK (X⊕c) (fun r=> .inr (f r)) (.inr e)))) (s.mx 0 y)
 | _, .ab5 (X:=X) j h s l d g i y,c,f,e=>rV (fun x=>aie j (
   cond h (asm (l.length<=9223372036854775807) (.inr e) (cond (decide (s.gi x < (↑l.length:Int))) ((g (s.gi x) (l.getD (s.gi x).toNat d) (s.gy x)).runK (X⊕c) (fun z=>nxI s (s.gi x) (Sum.map id f z)) (.inr e)) ((i (s.gi x) (s.gy x)).runK (X⊕c) (fun r=> .inr (f r)) (.inr e))))
    (cond (decide (s.gi x < (↑l.length:Int))) ((g (s.gi x) (l.getD (s.gi x).toNat d) (s.gy x)).runK (X⊕c) (fun z=>nxI s (s.gi x) (Sum.map id f z)) (.inr e)) ((i (s.gi x) (s.gy x)).runK (X⊕c) (fun r=> .inr (f r)) (.inr e))))) (s.mx 0 y)
 | _, .Qp (X:=X) j q s a b g i y,c,f,e=>rV (fun x=>aie j (aHT q (.inr e) (cond (decide (s.gi x < b)) ((g (s.gi x) (s.gy x)).runK (X⊕c) (fun z=>nxI s (s.gi x) (Sum.map id f z)) (.inr e)) ((i (s.gi x) (s.gy x)).runK (X⊕c) (fun r=> .inr (f r)) (.inr e))))) (s.mx a y)
 | _, .cnt (X:=X) s a b g i y,c,f,e=>rV (fun x=>cond (decide (s.gi x < b)) ((g (s.gi x) (s.gy x)).runK (X⊕c) (fun z=>nxI s (s.gi x) (Sum.map id f z)) (.inr e)) ((i (s.gi x) (s.gy x)).runK (X⊕c) (fun r=> .inr (f r)) (.inr e))) (s.mx a y)
noncomputable def Pg.run (t:Pg R)(e:R):Option R:=t.runK R id e
abbrev Pg.ix (i:Int)(n:Nat)(k:Pg R):Pg R:= .ob (0<=i/\i < ↑n) k
def wY {A:Type}(n:Nat)(d:A)(l:List A):List A:=(List.range n).map fun i=>l.getD i d
def mJ (b:Nat->A->Y->Y⊕R)(f:Nat->Y->R):List A->Nat->Y->R
 | [],k,y=>f k y
 | a::l,k,y=>match b k a y with
  | .inl c=>mJ b f l (k+1) c
  | .inr r=>r
def o5 (b:Int->Y->Y⊕R)(f:Int->Y->R):Nat->Int->Y->R
 | 0,i,y=>f i y
 | n+1,i,y=>match b i y with
  | .inl a=>o5 b f n (i+1) a
  | .inr r=>r
def RV (step:X->X⊕R)(a:R):Nat->X->R
 | 0,_=>a
 | n+1,x=>match step x with
  | .inl b=>RV step a n b
  | .inr r=>r
def thenS (a:X⊕R)(k:X->R):R:=
 match a with
 | .inl x=>k x
 | .inr r=>r
@[simp] theorem jc (x:X) (k:X->R):thenS (.inl x) k=k x:=rfl
@[simp] theorem aJx (r:R) (k:X->R):thenS (.inr r) k=r:=rfl
def Pg.val:{R:Type}->Pg R->R
 | _, .ret r=>r
 | _, .no r=>r
 | _, .ob _ k=>k.val
 | _, .obD _ _ k=>k.val
 | _, .as _ k=>k.val
 | _, .br b t e=>cond b t.val e.val
 | _, .unk s _ t e=>cond s t.val e.val
 | _, .lt v k=>(k v).val
 | _, .cut k a=>thenS a.val fun x=>(k x).val
 | _, .wh n r step x=>RV (fun y=>(step y).val) r n x
 | _, .each _ _ l _ c d y=>mJ (fun k a y=>(c (↑k:Int) a y).val) (fun k y=>(d (↑k:Int) y).val) l 0 y
 | _, .cnt _ a b c d y=>o5 (fun i y=>(c i y).val) (fun i y=>(d i y).val) (b - a).toNat a y
 | _, .ab5 _ _ _ l _ c d y=>mJ (fun k a y=>(c (↑k:Int) a y).val) (fun k y=>(d (↑k:Int) y).val) l 0 y
 | _, .Qp _ _ _ a b c d y=>o5 (fun i y=>(c i y).val) (fun i y=>(d i y).val) (b - a).toNat a y
@[simp] theorem aI (r:R):(Pg.ret r).val=r:=rfl
@[simp] theorem aNj (r:R):(Pg.no r).val=r:=rfl
@[simp] theorem bY (p:Prop) (k:Pg R):(Pg.ob p k).val=k.val:=rfl
@[simp] theorem aM_ (p:Prop) (d:Decidable p) (k:Pg R):(Pg.obD p d k).val=k.val:=rfl
@[simp] theorem eU (i:Int) (n:Nat) (k:Pg R):(Pg.ix i n k).val=k.val:=rfl
@[simp] theorem iG (p:Prop) (k:Pg R):(Pg.as p k).val=k.val:=rfl
@[simp] theorem bf (b:Bool) (t e:Pg R):(Pg.br b t e).val=cond b t.val e.val:=rfl
@[simp] theorem aCu (s:Bool) (p:Bool->Prop) (t e:Pg R):(Pg.unk s p t e).val=cond s t.val e.val:=rfl
@[simp] theorem cZ (v:A) (k:A->Pg R):(Pg.lt v k).val=(k v).val:=rfl
@[simp] theorem jk (a:Pg (X⊕R)) (k:X->Pg R):(Pg.cut k a).val=thenS a.val fun x=>(k x).val:=rfl
@[simp] theorem tq (n:Nat) (r:R) (step:X->Pg (X⊕R)) (x:X):(Pg.wh n r step x).val=RV (fun y=>(step y).val) r n x:=rfl
@[simp] theorem jD (h:Bool) (s:Ix X Y) (l:List A) (d:A) (b:Int->A->Y->Pg (Y⊕R)) (c:Int->Y->Pg R) (y:Y):
  (Pg.each h s l d b c y).val=mJ (fun k a y=>(b (↑k:Int) a y).val) (fun k y=>(c (↑k:Int) y).val) l 0 y:=rfl
@[simp] theorem qC (s:Ix X Y) (a b:Int) (c:Int->Y->Pg (Y⊕R)) (d:Int->Y->Pg R) (y:Y):
  (Pg.cnt s a b c d y).val=o5 (fun i y=>(c i y).val) (fun i y=>(d i y).val) (b - a).toNat a y:=rfl
@[simp] theorem apG (e:List Prop) (h:Bool) (s:Ix X Y) (l:List A) (d:A) (b:Int->A->Y->Pg (Y⊕R)) (c:Int->Y->Pg R) (y:Y):
  (Pg.ab5 e h s l d b c y).val=mJ (fun k a y=>(b (↑k:Int) a y).val) (fun k y=>(c (↑k:Int) y).val) l 0 y:=rfl
@[simp] theorem avS (e:List Prop) (q:Option Prop) (s:Ix X Y) (a b:Int) (c:Int->Y->Pg (Y⊕R)) (d:Int->Y->Pg R) (y:Y):
  (Pg.Qp e q s a b c d y).val=o5 (fun i y=>(c i y).val) (fun i y=>(d i y).val) (b - a).toNat a y:=rfl
def Is (t:Pg R):Prop:=∀(R':Type) (f:R->R') (e:R'),t.runK R' f e=some (f t.val)\/t.runK R' f e=some e
def Is1 (t:Pg R):Prop:=∀(R':Type) (f:R->R') (e:R'),t.runK R' f e=some (f t.val)
theorem Is1.is {t:Pg R}(h:Is1 t):Is t:=fun R' f e=> .inl (h R' f e)
theorem Is.run {t:Pg R}(h:Is t):t.run t.val=some t.val:=by
 rcases h R id t.val with h | h<;>exact h
theorem aQ {r:R}:Is (.ret r):=fun _ _ _=> .inl rfl
theorem aY {p:Prop}{k:Pg R}(b:p)(a:Is k):Is (.ob p k):=fun R' f e=>by
 simp only[Pg.runK,Bc b];exact a R' f e
theorem b_ {i:Int}{n:Nat}{k:Pg R}(b:0<=i)(c:i < ↑n)(a:Is k):Is (.ix i n k):=aY ⟨b,c⟩ a
theorem gp {p:Prop}{k:Pg R}(b:p->Is k):Is (.as p k):=fun R' f e=>by
 by_cases a:p
 ·simp only[Pg.runK,zB a];exact b a R' f e
 ·simp only[Pg.runK,DJ a]
  grind
theorem aT {b:Bool}{t e:Pg R}(d:b=true->Is t)(c:b=false->Is e):Is (.br b t e):=fun R' f a=>by
 cases b with
 | true=>exact d rfl R' f a
 | false=>exact c rfl R' f a
theorem dB {p:Prop}{a:Decidable p}{t e:Pg R}(b:p->Is t)(c:¬p->Is e):Is (.br (@decide p a) t e):=
 aT (fun h=>b (Eh h)) (fun h=>c (Qbz h))
theorem dY {a b:A}[h:BEq A][f:LawfulBEq A]{t e:Pg R}(c:a=b->Is t)(d:¬a=b->Is e):Is (.br (a==b) t e):=
 aT (fun h=>c qbt) (fun h=>d qbt)
theorem iW {a b:A}[h:BEq A][f:LawfulBEq A]{t e:Pg R}(c:¬a=b->Is t)(d:a=b->Is e):Is (.br (a !=b) t e):=
 aT (fun h=>c qbt) (fun h=>d qbt)
theorem dm {n b:Nat}(c:n<=1099511627776)(a:n*b<=140737488355328):bZ n b:=⟨c,a⟩
theorem dI {v:A}{k:A->Pg R}(h:∀x,x=v->Is (k x)):Is (.lt v k):=h v rfl
theorem ni {n:Int}{k:Int->Pg R}(h:∀x,x=dA .i64 n->(-9223372036854775808<=n/\n<=9223372036854775807->x=n)->Is (k x)):Is (.lt (dA .i64 n) k):=
 h _ rfl fun a=>dU (k:= .i64) a
theorem kX {a:Pg (X⊕R)}{k:X->Pg R}(b:Is a)(c:∀x,a.val= .inl x->Is (k x)):Is (.cut k a):=fun R' f e=>by
 have h:=b (X⊕R') (Sum.map id f) (.inr e);simp only[Pg.runK,jk];rcases h with h | h
 ·rw[h];cases d:a.val with
  | inl x=>exact c x d R' f e
  | inr r=>exact .inl rfl
 ·rw[h];exact .inr rfl
theorem aGk {s:Bool}{p:Bool->Prop}{t e:Pg R}(g:∃b,p b)(c:p true->Is1 t/\t.val=cond s t.val e.val)(d:p false->Is1 e/\e.val=cond s t.val e.val):Is (.unk s p t e):=fun R' f a=>by
 refine .inl ?_;simp only[Pg.runK,aCu];refine acg g (fun h=> ?_) (fun h=> ?_)
 ·rw[(c h).1 R' f a,<-(c h).2]
 ·rw[(d h).1 R' f a,<-(d h).2]
theorem r_ {l:List A}{b:Nat}(h:bZ (0+l.length) b):Is (.unk false (fun b=>b=true->l.length=0) (.ret []) (.ob (bZ (0+l.length) b) (.ret l))):=
 aGk ⟨false,fun e=>by cases e⟩ (fun a=>⟨fun _ _ _=>rfl,by simp_all⟩) (fun _=>⟨fun R' f e=>by simp only[Pg.runK,Bc h];rfl,rfl⟩)
theorem aao {l:List A}{s:Ix X Y}{i:Type}{step:X->Option (X⊕i)}{f:R->i}{e:i}{b:Nat->A->Y->Y⊕R}{g:Nat->Y->R}{d:A}(I:Nat->Y->Prop)
  (p:∀(k:Nat) (y:Y),k < l.length->I k y->step (s.mx ↑k y)=some (match b k (l.getD k d) y with | .inl a=> .inl (s.mx (↑(k+1)) a) | .inr r=> .inr (f r))/\(∀a,b k (l.getD k d) y= .inl a->I (k+1) a)\/step (s.mx ↑k y)=some (.inr e))
  (q:∀y,I l.length y->step (s.mx ↑l.length y)=some (.inr (f (g l.length y)))\/step (s.mx ↑l.length y)=some (.inr e)):
  ∀(n k:Nat) (y:Y),k+n=l.length->I k y->rV step (s.mx ↑k y)=some (f (mJ b g (l.drop k) k y))\/rV step (s.mx ↑k y)=some e
 | 0,k,y,c,m=>by
  have c:k=l.length:=by omega
  subst c;rw[yP,List.drop_length];rcases q y m with h | h<;>rw[h]
  ·exact .inl rfl
  grind
 | n+1,k,y,c,m=>by
  have o:k < l.length:=by omega
  rw[yP];have u:l.drop k=l.getD k d::l.drop (k+1):=by
   simp_all
  rw[u];rcases p k y o m with⟨h,t⟩ | h
  ·rw[h];cases j:b k (l.getD k d) y with
   | inl a=>
    have:=aao I p q n (k+1) a au (t a j);simp only[mJ,j];exact this
   | inr r=>
    simp only[mJ,j]
    grind
  grind
theorem ru {k:Nat}(h:k < 9223372036854775807):dA .i64 ((↑k:Int)+1)=↑(k+1):=by
 rw[dU (k:= .i64) tZ];omega
theorem BC {h:Bool}{s:Ix X Y}{l:List A}{d:A}{c:Int->A->Y->Pg (Y⊕R)}{i:Int->Y->Pg R}{y:Y}(I:Nat->Y->Prop)(v:I 0 y)
  (E:h=true\/l.length<=9223372036854775807)
  (C:∀(k:Nat) (y:Y),k < l.length->l.length<=9223372036854775807->I k y->Is (c ↑k (l.getD k d) y)/\∀o,(c ↑k (l.getD k d) y).val= .inl o->I (k+1) o)
  (B:∀y,l.length<=9223372036854775807->I l.length y->Is (i ↑l.length y)):Is (.each h s l d c i y):=fun R' f e=>by
 simp only[Pg.runK,jD];have p:=fun(step:X->Option (X⊕R'))=>aao (l:=l) (s:=s) (step:=step) (f:=f) (e:=e) (b:=fun k a y=>(c (↑k:Int) a y).val) (g:=fun k y=>(i (↑k:Int) y).val) (d:=d) I
 have m:∀(j:l.length<=9223372036854775807) (step:X->Option (X⊕R')),(∀x,step x=cond (decide (s.gi x < (↑l.length:Int))) ((c (s.gi x) (l.getD (s.gi x).toNat d) (s.gy x)).runK (X⊕R') (fun z=>nxI s (s.gi x) (Sum.map id f z)) (.inr e)) ((i (s.gi x) (s.gy x)).runK (X⊕R') (fun r=> .inr (f r)) (.inr e)))->
   (rV step (s.mx 0 y)=some (f (mJ (fun k a y=>(c (↑k:Int) a y).val) (fun k y=>(i (↑k:Int) y).val) l 0 y))\/rV step (s.mx 0 y)=some e):=by
  intro j step q;have:=p step (fun k y u n=> ?_) (fun y n=> ?_) l.length 0 y au v
  ·grind
  ·obtain⟨D,w⟩:=C k y u j n;rw[q,s.h1,s.h2];have t:((k:Nat):Int) < ↑l.length:=by omega
   simp only[t,decide_true,uu,xw];rcases D (X⊕R') (fun z=>nxI s ↑k (Sum.map id f z)) (.inr e)with h | h
   ·refine .inl ⟨?_,w⟩;rw[h];cases(c ↑k (l.getD k d) y).val with
    | inl o=>simp only[Sum.map_inl,id_eq,nxI,ru (show k < 9223372036854775807 by omega)]
    | inr r=>rfl
   ·exact .inr h
  ·rw[q,s.h1,s.h2];simp only[Int.lt_irrefl,decide_false,mX];exact(B y j n) (X⊕R') (fun r=> .inr (f r)) (.inr e)
 cases h with
 | false=>
  grind
 | true=>
  by_cases j:l.length<=9223372036854775807
  ·exact m j _ fun x=>by simp only[uu,zB j]
  ·refine .inr ?_;rw[yP];simp only[uu,DJ j]
theorem gU {h:Bool}{s:Ix X Y}{l:List A}{d:A}{a:Int->A->Y->Pg (Y⊕R)}{b:Int->Y->Pg R}{y:Y}(c:h=true\/l.length<=9223372036854775807)
  (g:∀(k:Nat) (y:Y),k < l.length->l.length<=9223372036854775807->Is (a ↑k (l.getD k d) y)) (e:∀y,l.length<=9223372036854775807->Is (b ↑l.length y)):Is (.each h s l d a b y):=
 BC (fun _ _=>True) trivial c (fun k y f i _=>⟨g k y f i,fun _ _=>trivial⟩) fun y h _=>e y h
theorem ail {b:Int}{s:Ix X Y}{c:Type}{step:X->Option (X⊕c)}{f:R->c}{e:c}{bd:Int->Y->Y⊕R}{g:Int->Y->R}(I:Int->Y->Prop)(q:b<=9223372036854775807)
  (l:∀(i:Int) (y:Y),i < b->I i y->step (s.mx i y)=some (match bd i y with | .inl a=> .inl (s.mx (i+1) a) | .inr r=> .inr (f r))/\(∀a,bd i y= .inl a->I (i+1) a)\/step (s.mx i y)=some (.inr e))
  (m:∀i y,b<=i->I i y->step (s.mx i y)=some (.inr (f (g i y)))\/step (s.mx i y)=some (.inr e)):
  ∀(n:Nat) (i:Int) (y:Y),(b - i).toNat=n->I i y->rV step (s.mx i y)=some (f (o5 bd g n i y))\/rV step (s.mx i y)=some e
 | 0,i,y,o,j=>by
  rw[yP];rcases m i y au j with h | h<;>rw[h]
  ·exact .inl rfl
  grind
 | n+1,i,y,o,j=>by
  have k:i < b:=by omega
  rw[yP];rcases l i y k j with⟨h,p⟩ | h
  ·rw[h];cases d:bd i y with
   | inl a=>
    have:=ail I q l m n (i+1) a au (p a d);simp only[o5,d];exact this
   | inr r=>
    simp only[o5,d]
    grind
  grind
theorem Hm {s:Ix X Y}{a b:Int}{c:Int->Y->Pg (Y⊕R)}{d:Int->Y->Pg R}{y:Y}(I:Int->Y->Prop)(o:I a y)(A: -9223372036854775808<=a)(q:b<=9223372036854775807)
  (u:∀(i:Int) (y:Y),a<=i->i < b->I i y->Is (c i y)/\∀l,(c i y).val= .inl l->I (i+1) l)
  (t:∀i y,a<=i->b<=i->I i y->Is (d i y)):Is (.cnt s a b c d y):=fun R' f e=>by
 simp only[Pg.runK,qC];refine ail (s:=s) (f:=f) (e:=e) (bd:=fun i y=>(c i y).val) (g:=fun i y=>(d i y).val) (fun i y=>a<=i/\I i y) q (fun i y m j=> ?_) (fun i y n j=> ?_) _ a y rfl ⟨MS _,o⟩
 ·obtain⟨w,p⟩:=u i y j.1 m j.2;simp only[s.h1,s.h2,m,decide_true,uu];rcases w (X⊕R') (fun z=>nxI s i (Sum.map id f z)) (.inr e)with h | h
  ·refine .inl ⟨?_,fun l x=>⟨by omega,p l x⟩⟩;rw[h];have v:dA .i64 (i+1)=i+1:=dU (k:= .i64) tZ;cases(c i y).val with
   | inl l=>simp only[Sum.map_inl,id_eq,nxI,v]
   | inr r=>rfl
  ·exact .inr h
 ·simp only[s.h1,s.h2,show ¬i < b by omega,decide_false,mX];exact(t i y j.1 n j.2) (X⊕R') (fun r=> .inr (f r)) (.inr e)
theorem O7 {s:Ix X Y}{a b:Int}{c:Int->Y->Pg (Y⊕R)}{d:Int->Y->Pg R}{y:Y}(g: -9223372036854775808<=a)(k:b<=9223372036854775807)
  (j:∀(i:Int) (y:Y),a<=i->i < b->Is (c i y)) (h:∀i y,a<=i->b<=i->Is (d i y)):Is (.cnt s a b c d y):=
 Hm (fun _ _=>True) trivial g k (fun i y e f _=>⟨j i y e f,fun _ _=>trivial⟩) fun i y e f _=>h i y e f
theorem apo {c:List Prop}{h:Bool}{s:Ix X Y}{l:List A}{d:A}{a:Int->A->Y->Pg (Y⊕R)}{b:Int->Y->Pg R}{y:Y}(I:Nat->Y->Prop)(m:I 0 y)(o:aqT c)
  (i:h=true\/l.length<=9223372036854775807)
  (n:∀(k:Nat) (y:Y),k < l.length->l.length<=9223372036854775807->I k y->Is (a ↑k (l.getD k d) y)/\∀g,(a ↑k (l.getD k d) y).val= .inl g->I (k+1) g)
  (j:∀y,l.length<=9223372036854775807->I l.length y->Is (b ↑l.length y)):Is (.ab5 c h s l d a b y):=fun R' f e=>by
 have:=BC (s:=s) I m i n j R' f e;simp only[Pg.runK,Ij o]at this⊢;exact this
theorem au5 {c:List Prop}{h:Bool}{s:Ix X Y}{l:List A}{d:A}{a:Int->A->Y->Pg (Y⊕R)}{b:Int->Y->Pg R}{y:Y}(m:aqT c)(e:h=true\/l.length<=9223372036854775807)
  (i:∀(k:Nat) (y:Y),k < l.length->l.length<=9223372036854775807->Is (a ↑k (l.getD k d) y)) (f:∀y,l.length<=9223372036854775807->Is (b ↑l.length y)):Is (.ab5 c h s l d a b y):=
 apo (fun _ _=>True) trivial m e (fun k y g j _=>⟨i k y g j,fun _ _=>trivial⟩) fun y h _=>f y h
theorem avm {j:List Prop}{q:Option Prop}{s:Ix X Y}{a b:Int}{c:Int->Y->Pg (Y⊕R)}{g:Int->Y->Pg R}{y:Y}(I:Int->Y->Prop)(m:I a y)(k:aqT j)(n: -9223372036854775808<=a)(h:qW q->b<=9223372036854775807)
  (p:∀(i:Int) (y:Y),a<=i->i < b->b<=9223372036854775807->I i y->Is (c i y)/\∀l,(c i y).val= .inl l->I (i+1) l)
  (o:∀i y,a<=i->b<=i->I i y->Is (g i y)):Is (.Qp j q s a b c g y):=fun R' f e=>by
 by_cases d:qW q
 ·have:=Hm (s:=s) I m n (h d) (fun i y r t=>p i y r t (h d)) o R' f e;simp only[Pg.runK,Ij k,awF d]at this⊢;exact this
 ·refine .inr ?_;simp only[Pg.runK,Ij k,axQ d];rw[yP]
theorem zT {g:List Prop}{q:Option Prop}{s:Ix X Y}{a b:Int}{c:Int->Y->Pg (Y⊕R)}{d:Int->Y->Pg R}{y:Y}(n:aqT g)(h: -9223372036854775808<=a)(m:qW q->b<=9223372036854775807)
  (k:∀(i:Int) (y:Y),a<=i->i < b->b<=9223372036854775807->Is (c i y)) (j:∀i y,a<=i->b<=i->Is (d i y)):Is (.Qp g q s a b c d y):=
 avm (fun _ _=>True) trivial n h m (fun i y e f l _=>⟨k i y e f l,fun _ _=>trivial⟩) fun i y e f _=>j i y e f
theorem Ep {n:Nat}{g:R}{step:X->Pg (X⊕R)}{x:X}(I:X->Prop)(b:X->Nat)(d:I x)(l:b x < n)
  (k:∀x,I x->Is (step x)/\∀a,(step x).val= .inl a->I a/\b a < b x):Is (.wh n g step x):=fun R' f e=>by
 simp only[Pg.runK,tq];induction n generalizing x with
 | zero=>omega
 | succ n p=>
  rw[yP];obtain⟨i,j⟩:=k x d;rcases i (X⊕R') (Sum.map id f) (.inr e)with h | h
  ·rw[h];cases c:(step x).val with
   | inl a=>
    obtain⟨m,o⟩:=j a c;simp only[Sum.map_inl,id_eq,RV,c]
    grind
   | inr r=>
    simp only[Sum.map_inr,RV,c]
    grind
  grind
end
end Go.Vc
namespace Go.Vc
open Go.RowKit
structure Seat (D:Type) where
 P:Program
 S:Sh D
 T:TypeId->Option Ty
 mx:P.follows .mixedOrders=true
 hT:∀t ty,T t=some ty->gW P t ty
 hS:jE S
structure aZ {D:Type}(Z:Seat D) where
 f:FuncId
 ct:Ct D
 ok:gZ Z.P Z.S f ct
section
variable {D:Type}{Z:Seat D}
def Et:List (aZ Z)->FuncId->Option (Ct D)
 | [],_=>none
 | e::r,f=>if Nat.beq f e.f then(match Et r f with
  | some c=>some (aHD e.ct c)
  | none=>some e.ct)else Et r f
theorem Gz:∀{l:List (aZ Z)} {f:FuncId} {a:Ct D},Et l f=some a->gZ Z.P Z.S f a
 | [],f,a,h=>by cases h
 | e::r,f,a,h=>by
  unfold Et at h;split at h
  ·rename_i b;have b:=Qa b;subst b;split at h
   ·rename_i c d;injection h with h
    subst h;exact aAv e.ok (Gz d)
   ·injection h with h
    subst h;exact e.ok
  ·exact Gz h
structure Sh1 (S:Sh D):Type 1 where
 i:Nat
 sh:Iz D
 ok:sF S sh
def jS {S:Sh D}(i:Nat)(a:Iz D)[h:sF S a]:Sh1 S:=⟨i,a,h⟩
def jL {S:Sh D}:List (Sh1 S)->Nat->Option (Iz D)
 | [],_=>none
 | s::r,n=>if Nat.beq n s.i then some s.sh else jL r n
theorem aFb {S:Sh D}:∀{l:List (Sh1 S)} {i:Nat} {a:Iz D},jL l i=some a->sF S a
 | [],i,a,h=>by cases h
 | s::r,i,a,h=>by
  unfold jL at h;split at h
  ·injection h with h
   subst h;exact s.ok
  ·exact aFb h
def IC (a:Func):Code:=a.body.getD .skip
def zg (a:Func):Bool:=a.body.isSome && (a.name != "runtime.NumGoroutine" && sV (IC a))
def Af (Z:Seat D)(f:FuncId->Option (Ct D))(J:Nat->Option (Iz D))(c:xk D)(d:Iz D)(g:Nat)(b:List Nat)(e:Func)(n:Nat)(a:c.A):Tr D d.X:=
 Vp Z.T Z.S f n J (IC e) d.X (St.init (c.enc a).1 (c.enc a).2) (aLA Z.T Z.S e.results.toList d g b)
theorem aww {w:FuncId->Option (Ct D)}(y:∀f u,w f=some u->gZ Z.P Z.S f u){J:List (Sh1 Z.S)}{d:xk D}{j:Iz D}{x n:Nat}{m:List Nat}{f:FuncId}{g:Func}(z:R_ Z.S d x n)(s:sF Z.S j)
  (G:Z.P.funcs[f]? =some g) (E:g.ntmps=n) (A:zg g=true) (k:Nat) (B:g.results.toList.length=k) (F:d.A->Pg j.X) (b:d.A->Option Prop) (p:∀a e,qW (b a)->(F a).run e=(Af Z w (jL J) d j x m g n a).run e)
  (q:d.A->j.X) (r:∀a,qW (b a)->Is (F a)/\(F a).val=q a):gZ Z.P Z.S f (qj d j k m b q):=by
 subst B;simp only[zg,kW,Qdd,ne_eq]at A;obtain⟨L,I,K⟩:=A;obtain⟨c,v⟩:=Qbt.1 L;have o:IC g=c:=by simp[IC,v]
 refine aHa (J:=jL J) Z.mx Z.hT y Z.hS (fun i M h=>aFb (l:=J) h) G v (by simpa using I) E rfl (by rw[<-o];exact K) z s b q fun a t=> ?_;obtain⟨H,C⟩:=r a t;have h:=p a (F a).val t;rw[H.run,C]at h;unfold Af at h;rw[o]at h;exact h.symm
theorem je {h:xk D}{j:Iz D}{k:Nat}{e:List Nat}{f:FuncId}{l:Func}(o:Z.P.funcs[f]? =some l)(m:zg l=true){d:h.A->Option Prop}{t:h.A->j.X}(s:∀a,qW (d a)->False):
  gZ Z.P Z.S f (qj h j k e d t):=by
 simp only[zg,kW,Qdd,ne_eq]at m;obtain⟨x,v,C⟩:=m;obtain⟨c,q⟩:=Qbt.1 x;refine⟨fun args w=>by simp[callFunc,o,v,q],fun X N g w args z E p r y B A n b i=> ?_⟩;unfold qj at b;split at b
 ·cases b
 ·injection b with b
  injection b with u b
  subst u;exact(s _ (F7.1 i)).elim
noncomputable def vF (Z:Seat D)(p:List (aZ Z))(J:List (Sh1 Z.S))(c:xk D){o n:Nat}(q:R_ Z.S c o n)(d:Iz D)[m:sF Z.S d](g:List Nat){f:FuncId}{h:Func}
  (t:Z.P.funcs[f]? =some h) (s:h.ntmps=n) (u:zg h=true) (k:Nat) (r:h.results.toList.length=k) (F:c.A->Pg d.X) (b:c.A->Option Prop) (i:∀a e,qW (b a)->(F a).run e=(Af Z (Et p) (jL J) c d o g h n a).run e)
  (j:c.A->d.X) (l:∀a,qW (b a)->Is (F a)/\(F a).val=j a):aZ Z:=
 ⟨f,qj c d k g b j,aww (fun _ _=>Gz) q m t s u k r F b i j l⟩
end
end Go.Vc
namespace Go.Vc
section
variable {A R Y:Type}
def wV (p:A->Bool):List A->Nat->Int
 | [],_=> -1
 | a::l,k=>bif p a then(↑k:Int)else wV p l (k+1)
def fM (p:A->Bool)(l:List A):Int:=wV p l 0
theorem oK (p:A->Bool):∀(l:List A) (k:Nat),mJ (fun k a (_:Unit)=>cond (p a) (.inr (↑k:Int)) (.inl ())) (fun _ _=>(-1:Int)) l k ()=wV p l k
 | [],_=>rfl
 | a::l,k=>by
  unfold mJ wV;cases p a with
  | true=>rfl
  | false=>exact oK p l (k+1)
theorem Rk (p:A->Bool):∀(l:List A) (k:Nat),(wV p l k= -1/\∀a∈l,p a=false)\/∃(u:List A) (a:A) (v:List A),l=u++a::v/\p a=true/\(∀x∈u,p x=false)/\wV p l k=↑(k+u.length)
 | [],k=> .inl ⟨rfl,fun a h=>by simp at h⟩
 | a::l,k=>by
  unfold wV;cases c:p a with
  | true=>exact .inr ⟨[],a,l,rfl,c,(fun x h=>by simp at h),rfl⟩
  | false=>
   rcases Rk p l (k+1)with⟨e,g⟩ | ⟨u,b,v,e,g,j,i⟩
   ·refine .inl ⟨e,fun b f=> ?_⟩;rcases EC.1 f with rfl | f
    ·exact c
    ·exact g b f
   ·refine .inr ⟨a::u,b,v,by rw[e];rfl,g,fun x d=> ?_,?_⟩
    ·rcases EC.1 d with rfl | d
     ·exact c
     ·exact j x d
    ·simp only[mX,i,yG];congr 1;omega
theorem ql (p:A->Bool)(l:List A):(fM p l= -1/\∀a∈l,p a=false)\/∃(u:List A) (a:A) (v:List A),l=u++a::v/\p a=true/\(∀x∈u,p x=false)/\fM p l=↑u.length:=by
 have:=Rk p l 0;unfold fM;simpa only[Dw]using this
theorem mO (p:A->Bool)(l:List A):fM p l < l.length/\ -1<=fM p l:=by
 rcases ql p l with⟨h,_⟩ | ⟨u,a,v,rfl,_,_,h⟩
 ·rw[h];omega
 ·rw[h];simp;omega
theorem aAZ (p:A->Bool)(l:List A)(d:A)(h:0<=fM p l):p (l.getD (fM p l).toNat d)=true:=by
 rcases ql p l with⟨b,_⟩ | ⟨u,a,v,rfl,c,_,b⟩
 ·omega
 ·rw[b,xw];simpa[List.getD]using c
theorem ZV {b c:Nat->A->Y->Y⊕R}{f e:Nat->Y->R}:∀(l:List A) (k:Nat) (y:Y),(∀j a y,k<=j->j < k+l.length->b j a y=c j a y)->(∀y,f (k+l.length) y=e (k+l.length) y)->mJ b f l k y=mJ c e l k y
 | [],k,y,_,h=>h y
 | a::l,k,y,d,g=>by
  unfold mJ;rw[d k a y (nO _) qb];cases c k a y with
  | inl i=>exact ZV l (k+1) i (fun j a y m n=>d j a y au (by simp only[yG];omega)) (fun y=>by have:=g y;rwa [show k+(a::l).length=k+1+l.length by simp only[yG];omega]at this)
  | inr r=>rfl
theorem aaj (g:Y->A->Y)(f:Nat->Y->R):∀(l:List A) (k:Nat) (y:Y),mJ (fun _ a y=> .inl (g y a)) f l k y=f (k+l.length) (l.foldl g y)
 | [],k,y=>rfl
 | a::l,k,y=>by
  have:=aaj g f l (k+1) (g y a);show mJ (fun _ a y=> .inl (g y a)) f l (k+1) (g y a)=_
  rw[this];simp only[yG,List.foldl_cons];congr 1;omega
theorem BR {X:Type}{step:X->X⊕R}{f:R}(I:X->Prop)(b:X->Nat)(Q:R->Prop)(e:∀x,I x->(∃a,step x= .inl a/\I a/\b a < b x)\/∃r,step x= .inr r/\Q r):∀(n:Nat) (x:X),I x->b x < n->Q (RV step f n x)
 | 0,x,_,h=>by omega
 | n+1,x,g,h=>by
  unfold RV;rcases e x g with⟨a,c,d,i⟩ | ⟨r,c,d⟩
  ·rw[c];exact BR I b Q e n a d au
  ·rw[c];exact d
def af7 (p:A->Bool)(d:A)(l:List A):Pg (List A):=
 .lt (fM p l) fun b=> .br (b==(-1)) (.ret l)
  (.lt (dA .i64 (b+1)) fun f=>
   .wh (l.length+1) default
    (fun(a:Int×Int×List A)=>
     .as (a.snd.snd.length<=9223372036854775807)
      (.br (decide (a.fst < (↑a.snd.snd.length:Int)))
       (.ix a.fst a.snd.snd.length
        (.ob (a.fst.toNat < a.snd.snd.length)
         (.lt (dA .i64 (a.fst+1)) fun(e:Int)=>
          .br (!p (a.snd.snd.getD a.fst.toNat d))
           (.ix a.snd.fst a.snd.snd.length
            (.ob (a.snd.fst.toNat < a.snd.snd.length)
             (.ret (.inl (e,dA .i64 (a.snd.fst+1),a.snd.snd.set a.snd.fst.toNat (a.snd.snd.getD a.fst.toNat d))))))
           (.ret (.inl (e,a.snd))))))
       (.ob (0<=a.snd.fst/\a.snd.fst<=(↑a.snd.snd.length:Int)/\(↑a.snd.snd.length:Int)<=(↑a.snd.snd.length:Int))
        (.ob (a.snd.snd.length=a.snd.snd.length)
         (.lt (List.take a.snd.fst.toNat a.snd.snd++List.replicate (a.snd.snd.length - a.snd.fst.toNat) d) fun(c:List A)=>
          .ob ((0:Int)<=0/\0<=a.snd.fst/\a.snd.fst<=(↑c.length:Int)) (.ret (.inr (List.take a.snd.fst.toNat c))))))))
    (f,b,l))
structure ar6 (p:A->Bool)(l:List A)(x:Int×Int×List A)(j i:Nat):Prop where
 hj:x.1=↑j
 hi:x.2.1=↑i
 lt:i < j
 le:j<=l.length
 len:x.2.2.length=l.length
 tk:x.2.2.take i=(l.take j).filter fun a=> !p a
 dr:x.2.2.drop j=l.drop j
theorem PU (p:A->Bool)(d:A)(l:List A)(hl:l.length<=9223372036854775806):Is (af7 p d l)/\(af7 p d l).val=l.filter fun a=> !p a:=by
 unfold af7;rcases ql p l with⟨T,V⟩ | ⟨u,a,v,D,z,O,b⟩
 ·rw[T];refine⟨dI fun Q t=>by subst t;exact aT (fun _=>aQ) (fun h=>by cases h),?_⟩;simp only[cZ,bf,aI];refine(Qdk.2 fun a z=> ?_).symm;rw[V a z];rfl
 ·rw[b];have N:l.length=u.length+(v.length+1):=by rw[D];simp
  have I:(((u.length:Int))== -1)=false:=by
   rw[Qbu];omega
  have P:dA .i64 ((u.length:Int)+1)=((u.length+1:Nat):Int):=by
   rw[dU (k:= .i64) tZ];omega
  have E:ar6 p l (dA .i64 ((u.length:Int)+1),(u.length:Int),l) (u.length+1) u.length:=by
   refine⟨P,rfl,by omega,by omega,rfl,?_,rfl⟩;show l.take u.length=_
   rw[D];have:(u++a::v).take (u.length+1)=u++[a]:=by
    rw[show u++a::v=(u++[a])++v by simp,show u.length+1=(u++[a]).length by simp,Qdc]
   rw[this,Qbn,Qdc];have C:u.filter (fun a=> !p a)=u:=Qdk.2 fun x b=>by rw[O x b];rfl
   rw[C];simp[z]
  have o:∀(x:Int×Int×List A) (j i:Nat),ar6 p l x j i->j < l.length->x.2.2.getD j d=l.getD j d/\l.take (j+1)=l.take j++[l.getD j d]/\x.2.2.drop (j+1)=l.drop (j+1):=by
   intro x j i b c;have y:j < x.2.2.length:=by rw[b.len];exact c
   have C:=Qb c;have U:=Qb y;have:=b.dr;rw[C,U]at this;injection this with s w
   refine⟨by rw[getD_some c,getD_some y,s],?_,w⟩;rw[getD_some c,Qbk c]
  have step:∀(x:Int×Int×List A) (j i:Nat),ar6 p l x j i->j < l.length->∀q,p (l.getD j d)=q->
    ar6 p l (dA .i64 (x.1+1),(cond (!q) (dA .i64 (x.2.1+1),x.2.2.set x.2.1.toNat (x.2.2.getD x.1.toNat d)) x.2)) (j+1) (cond (!q) (i+1) i):=by
   intro x j i b c q g;obtain⟨n,L,K⟩:=o x j i b c
   have m:dA .i64 (x.1+1)=((j+1:Nat):Int):=by rw[b.hj,dU (k:= .i64) tZ];omega
   have W:=b.lt;cases q with
   | true=>
    refine⟨m,b.hi,?_,by omega,b.len,?_,K⟩
    ·simp;omega
    ·show x.2.2.take i=_
     rw[b.tk,L,Qbn,Qb7,g];simp
   | false=>
    refine⟨m,?_,?_,by omega,?_,?_,?_⟩
    ·show dA .i64 (x.2.1+1)=_
     rw[b.hi,dU (k:= .i64) tZ];simp
    ·simp;omega
    ·simp[b.len]
    ·show(x.2.2.set x.2.1.toNat (x.2.2.getD x.1.toNat d)).take (i+1)=_
     rw[b.hi,b.hj,xw,xw,n];have G:i < (x.2.2.set i (l.getD j d)).length:=by rw[Qbo,b.len];omega
     rw[Qbk G,List.getElem_set_self,List.take_set_of_le (nO i),b.tk,L,Qbn,Qb7,g];simp
    ·show(x.2.2.set x.2.1.toNat (x.2.2.getD x.1.toNat d)).drop (j+1)=_
     rw[b.hi,xw,Qdj au];exact K
  refine⟨dI fun Q t=>aT (fun _=>aQ) fun _=>dI fun Z J=> ?_,?_⟩
  ·subst t J;refine Ep (fun x=>∃j i,ar6 p l x j i) (fun x=>l.length - x.1.toNat) ⟨_,_,E⟩ au ?_;rintro x ⟨j,i,b⟩;have s:=b.hj;have w:=b.hi;have S:=b.lt;have M:=b.le;have R:=b.len;refine⟨gp fun _=>dB (fun h=>b_ au au (aY au (dI fun v5 X=>aT (fun _=>b_ au au (aY au aQ)) (fun _=>aQ)))) (fun h=>aY au (aY rfl (dI fun v6 hv6=>aY qb8 aQ))),fun Y H=> ?_⟩;revert H;simp only[iG,bf,eU,bY,cZ,aI];by_cases h:x.1 < (↑x.2.2.length:Int)
   ·simp only[h,decide_true,uu];intro e;have c:j < l.length:=by omega
    obtain⟨n,_,_⟩:=o x j i b c
    have f:=step x j i b c _ rfl;have B:x.2.2.getD x.1.toNat d=l.getD j d:=by rw[s,xw];exact n
    rw[B]at e f;have m:dA .i64 (x.1+1)=((j+1:Nat):Int):=f.hj;cases g:p (l.getD j d)with
    | true=>
     rw[g]at e f;injection e with e
     subst e;exact⟨⟨_,_,f⟩,by
       have:(dA .i64 (x.1+1)).toNat=j+1:=by rw[m];rfl
       show l.length - (dA .i64 (x.1+1)).toNat < _
       omega⟩
    | false=>
     rw[g]at e f;injection e with e
     subst e;exact⟨⟨_,_,f⟩,by
       have:(dA .i64 (x.1+1)).toNat=j+1:=by rw[m];rfl
       show l.length - (dA .i64 (x.1+1)).toNat < _
       omega⟩
   ·simp only[h,decide_false,mX];intro e;cases e
  ·simp only[cZ,bf,I,mX,tq];refine BR (fun x=>∃j i,ar6 p l x j i) (fun x=>l.length - x.1.toNat) (fun r=>r=l.filter fun a=> !p a) ?_ _ _ ⟨_,_,E⟩ au;rintro x ⟨j,i,b⟩;have s:=b.hj;have w:=b.hi;have S:=b.lt;have M:=b.le;have R:=b.len;simp only[iG,bf,eU,bY,cZ,aI];by_cases h:x.1 < (↑x.2.2.length:Int)
   ·left
    simp only[h,decide_true,uu];have c:j < l.length:=by omega
    obtain⟨n,_,_⟩:=o x j i b c
    have f:=step x j i b c _ rfl;have B:x.2.2.getD x.1.toNat d=l.getD j d:=by rw[s,xw];exact n
    rw[B]at f⊢;have m:dA .i64 (x.1+1)=((j+1:Nat):Int):=f.hj;have F:l.length - (dA .i64 (x.1+1)).toNat < l.length - x.1.toNat:=by
     have:(dA .i64 (x.1+1)).toNat=j+1:=by rw[m];rfl
     omega
    cases g:p (l.getD j d)with
    | true=>rw[g]at f;exact⟨_,rfl,⟨_,_,f⟩,F⟩
    | false=>rw[g]at f;exact⟨_,rfl,⟨_,_,f⟩,F⟩
   ·right
    simp only[h,decide_false,mX];refine⟨_,rfl,?_⟩;have c:j=l.length:=by omega
    rw[w,xw];have e:=b.tk;rw[c,Kr]at e;rw[<-e,Qce qbu,List.take_take,Nat.min_self]
theorem XB (p:A->Bool):∀(u:List A) (a:A) (v:List A) (k:Nat),(∀x∈u,p x=false)->p a=true->wV p (u++a::v) k=↑(k+u.length)
 | [],a,v,k,_,h=>by simp[wV,h]
 | x::u,a,v,k,b,h=>by
  simp only[Qbp,wV,b x qb,mX];rw[XB p u a v (k+1) (fun y hy=>b y qcy) h];simp only[yG];congr 1;omega
theorem ah4 (p:A->Bool)(u:List A)(a:A)(v:List A)(b:∀x∈u,p x=false)(h:p a=true):fM p (u++a::v)=↑u.length:=by
 have:=XB p u a v 0 b h;rwa [Dw]at this
theorem Yk (u:List A)(a d:A)(v:List A):(u++a::v).getD u.length d=a:=by simp[List.getD]
theorem set_mid (u:List A)(a b:A)(v:List A):(u++a::v).set u.length b=u++b::v:=by
 rw[Qdt _ _ (nO _)];simp
theorem agm (g:A->A)(d:A)(f:Int->List A->R):∀(v u:List A),o5 (fun i y=> .inl (y.set i.toNat (g (y.getD i.toNat d)))) f v.length ↑u.length (u++v)=f ↑(u.length+v.length) (u++v.map g)
 | [],u=>rfl
 | a::v,u=>by
  show o5 _ f v.length (↑u.length+1) ((u++a::v).set (↑u.length:Int).toNat (g ((u++a::v).getD (↑u.length:Int).toNat d)))=_
  rw[xw,Yk,set_mid];have:=agm g d f v (u++[g a]);simp only[Qbc,Qbp,Qch,um,Qbw]at this;rw[show((u.length:Int)+1)=((u.length+1:Nat):Int) by omega,this];simp only[yG,Kq];congr 2;omega
theorem aqm (g:A->A)(d:A)(f:Int->List A->R)(l:List A):o5 (fun i y=> .inl (y.set i.toNat (g (y.getD i.toNat d)))) f (↑l.length - 0:Int).toNat 0 l=f ↑l.length (l.map g):=by
 have:=agm g d f l [];simpa using this
theorem getD_mem {l:List A}{i:Nat}{d:A}(h:i < l.length):l.getD i d∈l:=by
 rw[getD_some h];exact Qdw h
theorem aqJ (b:Int->Y->Y⊕R)(f:Int->Y->R)(n:Nat)(i:Int)(y:Y):o5 b f (n+1) i y=thenS (b i y) (o5 b f n (i+1)):=by
 unfold o5 thenS;cases b i y<;>rfl
theorem GG (b:Int->Unit->Unit⊕R)(f:Int->Unit->R)(n:Nat)(i:Int):o5 b f (n+1) i ()=thenS (b i ()) fun _=>o5 b f n (i+1) ():=
 (aqJ b f n i ()).trans (XQ (thenS (b i ())) (funext fun u=>rfl))
theorem OY (b:Int->Y->Y⊕R)(f:Int->Y->R)(i:Int)(y:Y):o5 b f 0 i y=f i y:=rfl
theorem aiO {X:Type}(c:Bool)(a b:X⊕R)(k:X->R):thenS (cond c a b) k=cond c (thenS a k) (thenS b k):=by cases c<;>rfl
end
end Go.Vc
namespace Go.Vc
section
variable {R A X Y:Type}
def j_ (t:Pg R)(Q:R->Prop):Prop:=Is t/\Q t.val
theorem j_.is {t:Pg R}{Q:R->Prop}(h:j_ t Q):Is t:=h.1
theorem af {Q:R->Prop}{r:R}(h:Q r):j_ (.ret r) Q:=⟨aQ,h⟩
theorem ai {Q:R->Prop}{p:Prop}{k:Pg R}(b:p)(a:j_ k Q):j_ (.ob p k) Q:=⟨aY b a.1,a.2⟩
theorem aW {Q:R->Prop}{i:Int}{n:Nat}{k:Pg R}(b:0<=i)(c:i < ↑n)(a:j_ k Q):j_ (.ix i n k) Q:=ai ⟨b,c⟩ a
theorem bW {Q:R->Prop}{p:Prop}{k:Pg R}(a:j_ k Q):j_ (.as p k) Q:=⟨gp fun _=>a.1,a.2⟩
theorem dJ {Q:R->Prop}{b:Bool}{t e:Pg R}(a:b=true->j_ t Q)(c:b=false->j_ e Q):j_ (.br b t e) Q:=
 ⟨aT (fun h=>(a h).1) (fun h=>(c h).1),by
  cases b with
  | true=>exact(a rfl).2
  | false=>exact(c rfl).2⟩
theorem bG {Q:R->Prop}{p:Prop}{a:Decidable p}{t e:Pg R}(b:p->j_ t Q)(c:¬p->j_ e Q):j_ (.br (@decide p a) t e) Q:=
 dJ (fun h=>b (Eh h)) (fun h=>c (Qbz h))
theorem dK {Q:R->Prop}{a b:A}[h:BEq A][f:LawfulBEq A]{t e:Pg R}(c:a=b->j_ t Q)(d:¬a=b->j_ e Q):j_ (.br (a==b) t e) Q:=
 dJ (fun h=>c qbt) (fun h=>d qbt)
theorem dM {Q:R->Prop}{a b:A}[h:BEq A][f:LawfulBEq A]{t e:Pg R}(c:¬a=b->j_ t Q)(d:a=b->j_ e Q):j_ (.br (a !=b) t e) Q:=
 dJ (fun h=>c qbt) (fun h=>d qbt)
theorem az {Q:R->Prop}{v:A}{k:A->Pg R}(h:∀x,x=v->j_ (k x) Q):j_ (.lt v k) Q:=h v rfl
theorem nC {Q:R->Prop}{n:Int}{k:Int->Pg R}(h:∀x,x=dA .i64 n->(-9223372036854775808<=n/\n<=9223372036854775807->x=n)->j_ (k x) Q):j_ (.lt (dA .i64 n) k) Q:=
 h _ rfl fun a=>dU (k:= .i64) a
theorem bP {Q:R->Prop}(d:X->Prop){a:Pg (X⊕R)}{k:X->Pg R}(c:j_ a (Sum.elim d Q))(e:∀x,d x->j_ (k x) Q):j_ (.cut k a) Q:=by
 have b:∀x,a.val= .inl x->d x:=fun x f=>by
  have:=c.2
  grind
 refine⟨kX c.1 fun x f=>(e x (b x f)).1,?_⟩;rw[jk];have h:=c.2;cases g:a.val with
 | inl x=>exact(e x (b x g)).2
 | inr r=>simp_all
theorem Ig {b:Nat->A->Y->Y⊕R}{f:Nat->Y->R}{d:A}{Q:R->Prop}(I:Nat->Y->Prop):∀(l:List A) (k:Nat) (y:Y),I k y->(∀j y,j < l.length->I (k+j) y->Sum.elim (I (k+j+1)) Q (b (k+j) (l.getD j d) y))->(∀y,I (k+l.length) y->Q (f (k+l.length) y))->Q (mJ b f l k y)
 | [],k,y,g,_,h=>h y g
 | a::l,k,y,g,i,h=>by
  unfold mJ;have c:=i 0 y qb g;have e:(a::l).getD 0 d=a:=rfl;rw[e]at c;simp only[UX]at c;cases n:b k a y with
  | inr r=>grind
  | inl o=>
   rw[n]at c;refine Ig (d:=d) I l (k+1) o c (fun j z p m=> ?_) (fun z m=> ?_)
   ·have:=i (j+1) z qb6 rf
    grind
   grind
theorem dh {Q:R->Prop}{h:Bool}{s:Ix X Y}{l:List A}{d:A}{b:Int->A->Y->Pg (Y⊕R)}{c:Int->Y->Pg R}{y:Y}(I:Nat->Y->Prop)(f:I 0 y)(n:l.length<=9223372036854775807)
  (e:∀(k:Nat) (y:Y),k < l.length->I k y->j_ (b ↑k (l.getD k d) y) (Sum.elim (I (k+1)) Q)) (g:∀y,I l.length y->j_ (c ↑l.length y) Q):j_ (.each h s l d b c y) Q:=by
 refine⟨BC I f (.inr n) (fun k y i _ m=>⟨(e k y i m).1,fun q p=> ?_⟩) (fun y _ h=>(g y h).1),?_⟩
 ·have:=(e k y i m).2
  grind
 ·rw[jD];refine Ig (d:=d) I l 0 y f (fun j y o a=> ?_) (fun y a=> ?_)
  ·rw[Dw]at a⊢;exact(e j y o a).2
  ·rw[Dw]at a⊢;exact(g y a).2
theorem GY {b:Int->Y->Y⊕R}{f:Int->Y->R}{Q:R->Prop}(I:Int->Y->Prop)(e:Int):∀(n:Nat) (i:Int) (y:Y),(e - i).toNat=n->I i y->(∀i y,i < e->I i y->Sum.elim (I (i+1)) Q (b i y))->(∀i y,e<=i->I i y->Q (f i y))->Q (o5 b f n i y)
 | 0,i,y,h,c,_,a=>a i y au c
 | n+1,i,y,h,c,g,a=>by
  unfold o5;have d:=g i y au c;cases j:b i y with
  | inr r=>grind
  | inl k=>rw[j]at d;exact GY I e n (i+1) k au d g a
theorem sQ {Q:R->Prop}{s:Ix X Y}{a b:Int}{e:Int->Y->Pg (Y⊕R)}{g:Int->Y->Pg R}{y:Y}(I:Int->Y->Prop)(k:I a y)(n: -9223372036854775808<=a)(m:b<=9223372036854775807)
  (j:∀(i:Int) (y:Y),a<=i->i < b->I i y->j_ (e i y) (Sum.elim (I (i+1)) Q)) (l:∀i y,a<=i->b<=i->I i y->j_ (g i y) Q):j_ (.cnt s a b e g y) Q:=by
 refine⟨Hm I k n m (fun i y d f c=>⟨(j i y d f c).1,fun o q=> ?_⟩) (fun i y d f h=>(l i y d f h).1),?_⟩
 ·have:=(j i y d f c).2
  grind
 ·rw[qC];refine GY (fun i y=>a<=i/\I i y) b _ a y rfl ⟨MS _,k⟩ (fun i y d c=> ?_) (fun i y d c=>(l i y c.1 d c.2).2);have:=(j i y c.1 d c.2).2;cases p:(e i y).val with
  | inr r=>grind
  | inl o=>grind
theorem qo {Q:R->Prop}{n:Nat}{g:R}{step:X->Pg (X⊕R)}{x:X}(I:X->Prop)(a:X->Nat)(f:I x)(e:a x < n)
  (d:∀x,I x->j_ (step x) (Sum.elim (fun c=>I c/\a c < a x) Q)):j_ (.wh n g step x) Q:=by
 refine⟨Ep I a f e fun x b=>⟨(d x b).1,fun c h=> ?_⟩,?_⟩
 ·have:=(d x b).2
  grind
 ·rw[tq];refine BR I a Q (fun x b=> ?_) n x f e;have:=(d x b).2;cases i:(step x).val with
  | inl c=>grind
  | inr r=>grind
end
end Go.Vc
namespace Go.Vc
open Go.RowKit Go.ChangeShapes Go.WideShapes Go.ChangeAt Go.Joins
structure Sz (P:Program) where
 M:{H:Type}->TypeId->DataW H->Nat->Prop
 str:∀{H:Type} {t:TypeId} {s:List UInt8} {n:Nat},M (H:=H) t (.lit (.string s)) n->s.length<=n
 sl:∀{H:Type} {t e:TypeId} {el sp:List (DataW H)} {n:Nat},P.underlying t=some (.slice e)->1<=P.bytesOf e->M t (.slice el sp) n->el.length<=n/\∀d∈el,M e d n
 st:∀{H:Type} {t:TypeId} {fs:Array Field} {ps:List (DataW H)} {n:Nat},P.underlying t=some (.struct fs)->M t (.agg ps) n->∀(i:Nat) (f:Field) (p:DataW H),fs[i]? =some f->ps[i]? =some p->M f.type p n
section
variable {D α β:Type}{S:Sh D}{P:Program}{Z:Sz P}{F:Nat}
def fZ (F:Nat)(P:Program)(S:Sh D)(Z:Sz P)(t:TypeId)(c:jQ D α)(g:Nat->α->Prop):Prop:=
 ∀{H:Type} {enc:TypeId×Value->H} {w:World} {e:Nat} {d:Nat->Bool} {f:Bool} {b:Nat} {cs:List Value} {x:DataW H×List MemPlace},
  b < F->DataW.trod enc P w e d f b t cs=some x->∃a,bu S NoN w noG (c.enc a) cs/\∀n,Z.M t x.1 n->g n a
theorem fF {t:TypeId}{c:jQ D α}{b:α->Prop}(h:amT P S t c b):fZ F P S Z t c fun _ a=>b a:=by
 intro H enc w e d f i cs x _ g;obtain⟨a,j,k⟩:=h g
 grind
theorem EG {t:TypeId}{c:jQ D α}{d b:Nat->α->Prop}(h:fZ F P S Z t c d)(m:∀n a,d n a->b n a):fZ F P S Z t c b:=by
 intro H enc w f e g j cs x k i;obtain⟨a,l,o⟩:=h k i
 grind
theorem Xu {t:TypeId}{c:jQ D α}{a:Nat->α->Prop}:fZ 0 P S Z t c a:=by
 intro H enc w d b e f cs x g;omega
theorem ik {t:TypeId}(e:P.underlying t=some .string):fZ F P S Z t cStr fun n s=>s.length<=n:=by
 intro H enc w g f h j cs x _ d;obtain⟨a,b,l⟩:=aq3 (S:=S) e d;obtain⟨s,i,k,_⟩:=DataW.trod_string e d;refine⟨a,b,fun n c=> ?_⟩;rw[k]at c;have:=Z.str c;rw[i]at b;have b:Value.string s= .string ⟨a.toArray⟩/\_:=b.1
 grind
def Kw (F:Nat)(P:Program)(S:Sh D)(Z:Sz P)(j:List Field)(d:Nat)(c:jQ D α)(h:Nat->α->Prop):Prop:=
 ∀{H:Type} {enc:TypeId×Value->H} {w:World} {e:Nat} {b:Nat->Bool} {g:Bool} {m:Nat} {cs:List Value} (k:List (DataW H)),m < F->
  (∀(i:Nat) (f:Field),j[i]? =some f->∃x:DataW H×List MemPlace,DataW.trod enc P w e b g m f.type ((cs.drop f.offset).take (P.cellsOf f.type))=some x/\k[i]? =some x.1)->cs.length=d+c.n->
  ∃a,bu S NoN w noG (c.enc a) (cs.drop d)/\∀n,(∀(i:Nat) (f:Field) (p:DataW H),j[i]? =some f->k[i]? =some p->Z.M f.type p n)->h n a
theorem g_ {f:Field}{d:Nat}{c:jQ D α}{b:Nat->α->Prop}(o:f.offset=d)(j:P.cellsOf f.type=c.n)(h:fZ F P S Z f.type c b):Kw F P S Z [f] d c b:=by
 intro H enc w l g i m cs p n k s;obtain⟨x,e,q⟩:=k 0 f rfl;rw[o,j,Qck qb6]at e;obtain⟨a,t,r⟩:=h n e
 grind
theorem aU {f:Field}{s:List Field}{k:Nat}{c:jQ D α}{d:jQ D β}{g:Nat->α->Prop}{e:Nat->β->Prop}(M:f.offset=k)(C:P.cellsOf f.type=c.n)(h:fZ F P S Z f.type c g)(N:Kw F P S Z s (k+c.n) d e):
  Kw F P S Z (f::s) k (di c d) fun n p=>g n p.1/\e n p.2:=by
 intro H enc w J z A m cs E u q K;obtain⟨x,t,I⟩:=q 0 f rfl;rw[M,C]at t;obtain⟨a,B,r⟩:=h u t;obtain⟨b,G,v⟩:=N (E.drop 1) u (fun i l j=>by
  obtain⟨y,L,Q⟩:=q (i+1) l (by simpa using j);exact⟨y,L,by grind⟩) (by simp only[di]at K;omega)
 refine⟨(a,b),?_,fun n o=>⟨r n (o 0 f x.1 rfl I),v n fun i l p j O=>o (i+1) l p (by simpa using j) rf⟩⟩;have:=bu.app B G;rw[<-List.drop_drop,Qcr]at this;exact this
theorem uB {t:TypeId}{o:Array Field}{c:jQ D α}{d:Nat->α->Prop}{f:α->β}{g:β->α}(s:P.underlying t=some (.struct o))(M:P.cellsOf t=c.n)(y:∀a,g (f a)=a)(h:Kw F P S Z o.toList 0 c d):
  fZ (F+1) P S Z t (oh c f g) fun n b=>d n (g b):=by
 intro H enc w J z A B cs x O K;obtain⟨l,m,L,v,N,E,G⟩:=DataW.trod_struct s K;obtain⟨a,C,u⟩:=h (m:=m) (cs:=cs) (l.map (·.1)) au (fun i j e=>by
  have r:o[i]? =some j:=by simpa using e
  have k:i < l.length:=by grind
  exact⟨l[i],by rw[G i j r];simp[k],by simp[k]⟩) au
 refine⟨f a,by simp only[oh,y];simpa using C,fun n q=> ?_⟩;show d n (g (f a))
 rw[y];rw[v]at q;exact u n fun i j p e I=>Z.st s q i j p (by simpa using e) I
theorem fZ.mono {b:Nat}{t:TypeId}{c:jQ D α}{a:Nat->α->Prop}(h:fZ F P S Z t c a)(k:b<=F):fZ b P S Z t c a:=by
 intro H enc w e d f i cs x j g;exact h au g
theorem gz {t:TypeId}{e:Array Field}{c:jQ D α}{d:Nat->α->Prop}{f:α->β}{g:β->α}(l:P.underlying t=some (.struct e))(m:P.cellsOf t=c.n)(q:∀a,g (f a)=a)(h:Kw F P S Z e.toList 0 c d):
  fZ F P S Z t (oh c f g) fun n b=>d n (g b):=by
 intro H enc w o i j k cs x r p;exact uB l m q h au p
theorem iD {t e:TypeId}{b:jQ D α}{k:Nat->α->Prop}{f:List α->D}{Qq:D->Option (List α)}{dflt:α}(J:P.underlying t=some (.slice e))(Q:1<=P.bytesOf e)(hn:P.cellsOf e=b.n)(r:dG S b)(h:fZ F P S Z e b k)
  (V:∀l,S.size (f l)=b.n) (B:∀l,S.len (f l)=l.length) (R:∀l i j,S.cell (f l) i j=(b.enc (l.getD i dflt)).getD j .any) (M:∀l,S.mp (f l)=none:=by intro _;rfl):
  fZ F P S Z t (rU f Qq []) fun n l=>l.length<=n/\∀a∈l,k n a:=by
 intro H enc w E X Y fuel cs x hF hx;rcases DataW.trod_slice J hx with⟨rfl,_⟩ | ⟨z,s,cap,p,rest,m,hfm,rfl,T,hb,hl,hm,hlen,O,_,_⟩
 ·refine⟨[],⟨?_,trivial⟩,fun n _=>⟨by simp,fun a A=>by simp at A⟩⟩;have hz:S.len (f [])=0:=B [];intro w' _;have:=Cf.mk (S:=S) (w:=w') (f []) (M []) none 0 (fun _ _=> .bool false) au au (fun i j c _=>by omega) (fun i j c _=>by omega) (fun i j _ c _=>by omega)
  grind
 ·have G:∀i,i < s->∃a,(∃C,w.cells? E (z.add (i*b.n)) b.n=some C/\bu S NoN w noG (b.enc a) C)/\∀n,(∀y,p[i]? =some y->Z.M e y.1 n)->k n a:=by
   intro i c;have:=O i c;have q:i < p.length:=by omega
   rw[Qay q,hn,Option.bind_eq_some_iff]at this;obtain⟨C,L,hy⟩:=this;obtain⟨a,A,hga⟩:=h au hy
   grind
  obtain⟨l,N,hq⟩:=ahU s G;refine⟨l,⟨?_,trivial⟩,fun n I=> ?_⟩
  ·have key:∀i j,i < l.length->j < b.n->∃u,w.cell? (z.add (i*b.n+j))=some u/\((b.enc (l.getD i dflt)).getD j .any).Rel S NoN w noG u/\((b.enc (l.getD i dflt)).getD j .any).kF=true:=by
    intro i j c g;obtain⟨⟨C,L,o⟩,_⟩:=hq i c;obtain⟨_,hvl,v⟩:=World.cells?_some L;rw[getD_some c];obtain⟨u,hu,W⟩:=o.getD' (j:=j) (by rw[r.len];exact g);have:=v j g;rw[add_add',hu]at this;refine⟨u,this,W,?_⟩;have q:j < (b.enc l[i]).length:=by rw[r.len];exact g
    rw[getD_some q];exact r.data _ _ (Qdw q)
   have U:∀i j,∃u,i < l.length->j < b.n->w.cell? (z.add (i*b.n+j))=some u/\((b.enc (l.getD i dflt)).getD j .any).Rel S NoN w noG u/\((b.enc (l.getD i dflt)).getD j .any).kF=true:=by
    intro i j;by_cases c:i < l.length
    ·by_cases g:j < b.n
     ·grind
     ·exact⟨undef,fun _ h=>absurd h g⟩
    ·exact⟨undef,fun h=>absurd h c⟩
   have:=ahT (S:=S) (w:=w) (d:=f l) (a:=some z) (n:=s) (cap:=cap) (by rw[B,N]) hl (by unfold maxLen at hm;omega) (fun i j=>Classical.choose (U i j)) (fun i j c g=> ?_) (fun i j c g=> ?_) (fun i j d' c g K=> ?_)
   ·exact this (M l)
   ·grind
   ·rw[B]at c;rw[V]at g;rw[R l i j];obtain⟨_,o,hd⟩:=Qcd (U i j) c g;exact(Jo (w':=w) hd o (fun _ _ _=>rfl)).1
   ·rw[B]at c;rw[V]at g;rw[R l i j]at K;have o:=(Qcd (U i j) c g).2.1;generalize Classical.choose (U i j)=u at o⊢;rw[K]at o;exact o
  ·rw[T]at I;obtain⟨k1,k2⟩:=Z.sl J Q I;refine⟨by grind,fun a A=> ?_⟩;obtain⟨i,c,rfl⟩:=Qdl A
   grind
def aeW (P:Program)(S:Sh D)(Z:Sz P)(t:TypeId)(c:Arg D α)(e:Nat->α->Prop):Prop:=
 ∀{H:Type} {enc:TypeId×Value->H} {w:World} {r:Reach} {b:Nat} {v:Value} {d:DataW H} {f:List MemPlace},Value.okWide P w r b t v->DataW.Trod enc P w 0 (fun _=>true) true t v d f->∃a,(c.enc a).Rel S NoN w noG v/\∀n,Z.M t d n->e n a
theorem aay {t:TypeId}{g:TypeDesc}{c:jQ D α}{b:Nat->α->Prop}(k:P.underlying t=some g)(n:aLW g=true)(y:dG S c)(o:c.n=1)(h:∀F,fZ F P S Z t c b):aeW P S Z t (bC c) b:=by
 intro H enc w r s v d z e q;obtain⟨f,l⟩:=q;have p:v.cells.toList=[v]:=by
  simp only[Value.okWide,k]at e;cases g<;>simp[aLW]at n
  all_goals (simp only[Cell.okWide,k]at e;cases v<;>simp_all [Cell.ok,Value.cells])
 rw[p]at l;obtain⟨a,i,u⟩:=h (f+1) (Qcz _) l;refine⟨a,?_,u⟩;have m:=y.len a;simp only[bC];generalize c.enc a=j at i m;cases j with
 | nil=>exact i.elim
 | cons x j=>
  cases j with
  | cons _ _=>simp[o]at m
  | nil=>exact i.1
theorem ak1 {t:TypeId}{k:Array Field}{c:jQ D α}{b:Nat->α->Prop}(l:P.underlying t=some (.struct k))(h:∀F,fZ F P S Z t c b):aeW P S Z t (aJ c) b:=by
 intro H enc w r i v d o e n;obtain⟨f,j⟩:=n;simp only[Value.okWide,l]at e;obtain⟨cs,rfl,_⟩:=e;obtain⟨a,g,m⟩:=h (f+1) (Qcz _) j;exact⟨a,⟨cs.toList,by simp,by simpa[Value.cells]using g⟩,m⟩
def aes (P:Program)(S:Sh D)(Z:Sz P)(g:List TypeId)(c:zh D α)(f:Nat->α->Prop):Prop:=
 ∀{H:Type} {enc:TypeId×Value->H} {w:World} {r:Reach} {b:Nat} {e:List Value} {h:List (DataW H)} {i:List MemPlace},(∀(j:Nat) t v,g[j]? =some t->e[j]? =some v->Value.okWide P w r b t v)->
  DataW.TrodAll enc P w 0 (fun _=>true) true g e h i->∃a,iY S NoN w noG (c.enc a) e/\∀n,(∀(j:Nat) t d,g[j]? =some t->h[j]? =some d->Z.M t d n)->f n a
theorem aw3 {t:TypeId}{c:Arg D α}{b:Nat->α->Prop}(h:aeW P S Z t c b):aes P S Z [t] (a1 c) b:=by
 intro H enc w r j y u x e i;obtain⟨v,s,d,o,p,q,rfl,rfl,rfl,k,m⟩:=trodAll_cons i;obtain⟨rfl,rfl,rfl⟩:=trodAll_nil m;obtain⟨a,g,l⟩:=h (e 0 t v rfl rfl) k;exact⟨a,⟨g,trivial⟩,fun n f=>l n (f 0 t d rfl rfl)⟩
theorem Rz {t:TypeId}{m:List TypeId}{c:Arg D α}{r:zh D β}{f:Nat->α->Prop}{e:Nat->β->Prop}(h:aeW P S Z t c f)(F:aes P S Z m r e):aes P S Z (t::m) (ak c r) fun n p=>f n p.1/\e n p.2:=by
 intro H enc w r A L J K g x;obtain⟨v,I,d,G,p,q,rfl,rfl,rfl,h1,k⟩:=trodAll_cons x;obtain⟨a,u,E⟩:=h (g 0 t v rfl rfl) h1;obtain⟨b,y,o⟩:=F (fun j i z h1 k=>g (j+1) i z qcv (by simpa using k)) k;exact⟨(a,b),⟨u,y⟩,fun n l=>⟨E n (l 0 t d rfl rfl),o n fun j i C B s=>l (j+1) i C (by simpa using B) (by simpa using s)⟩⟩
theorem alF {f:FuncId}{c:zh D α}{i:α->Option Prop}{m:Nat->α->Prop}{ts:List TypeId}(n:Nat)(B:gZ P S f (qj (args c) axc 1 [] i (fun _=>true)))(u:∀a,c.dec (c.enc a)=some a)(o:aes P S Z ts c m)
  (x:∀a,m n a->qW (i a)) {H:Type} {A:TypeId×Value->H} {w:World} {r:Reach} {s:Nat} {vs:List Value} {z:List (DataW H)} {I:List MemPlace}
  (N:ae9 S NoN w) (E:∀(j:Nat) t d,ts[j]? =some t->z[j]? =some d->Z.M t d n) (p:∀(j:Nat) t v,ts[j]? =some t->vs[j]? =some v->Value.okWide P w r s t v) (G:DataW.TrodAll A P w 0 (fun _=>true) true ts vs z I):
  Calls P f vs.toArray w fun e C=>e= .returned (.bool true)/\Below w.heap.size w C:=by
 obtain⟨a,T,L⟩:=o p G;have y:=x a (L n E);have M:bi NoN (mQ ([]:List (Bk D))) noG=NoN:=by
  funext b;simp[bi,mQ,hot]
 have K:Hp S ⟨w,fun _=>False⟩ NoN (mQ ([]:List (Bk D))) noG (· < ([]:List (Bk D)).length) w:=
  ⟨Gg.refl ⟨w,fun _=>False⟩,fun b J=>J.elim,fun l Q h=>by simp[mQ]at h,fun l R v O b h=>by simp[mQ,hot]at h,fun l v h=>by simp[noG]at h,fun l v h=>by simp[noG]at h,by grind⟩
 refine(B.calls (fun _=>False) NoN noG w vs (c.enc a) [] ((i a).map dq) (.one (.lf (.bool true))) [] [] K rf ?_ (F7.2 y)).mono ?_
 ·show qj (args c) axc 1 [] i (fun _=>true) (c.enc a) []=_
  unfold qj;have:(args c).dec (c.enc a) []=some a:=u a;rw[this];rfl
 ·rintro e C ⟨v,g',rfl,_,g,q⟩;have q:v= .bool true:=q;exact⟨by rw[q],⟨g.below.os,g.below.tape,g.below.output,g.below.size,fun k F=>g.below.block k F (fun h=>h)⟩⟩
end
end Go.Vc
namespace Go.Vc
open Go.RowKit
theorem kr {p:Prop}(h:p:=by kernel_rfl):p:=h
theorem iR {A:Sort _}{R:Type}{r:R}:A->Is (.ret r):=fun _=>aQ
theorem isA {R:Type}{t:Pg R}(h:Is t:=by
 repeat' first
  | exact aQ
  | exact r_ (dm au au)
  | refine ni (fun _ _ _=> ?_)
  | refine dI (fun _ _=> ?_)
  | refine gp (fun _=> ?_)
  | refine b_ au au ?_
  | refine dB (fun _=> ?_) (fun _=> ?_)
  | refine dY (fun _=> ?_) (fun _=> ?_)
  | refine iW (fun _=> ?_) (fun _=> ?_)
  | refine aT (fun _=> ?_) (fun _=> ?_)
  | refine aY (by first | assumption | omega | decide | exact dm au au | exact And.intro rfl (by assumption)) ?_
  | refine kX ?_ (fun _ _=> ?_)
  | refine gU (.inr au) (fun _ _ _ _=> ?_) (fun _ _=> ?_)
  | refine O7 au au (fun _ _ _ _ _=> ?_) (fun _ _=> ?_)):Is t:=h
abbrev cI {D:Type}:jQ D Int:=h_ .i64
abbrev s0 (n:Nat):It:= .slot n false [none]
abbrev nn (n:Nat):List (Option TypeId):=List.replicate n none
abbrev R1 {D A:Type}(c:jQ D A):Iz D:=shr [.slot 0 false [none]] (l1 c)
abbrev rl {X R:Type}(x:X):Pg (X⊕R):= .ret (.inl x)
abbrev u2 {A B:Type}{R:Sort _}(f:A->B->R):A×B->R:=fun a=>f a.1 a.2
abbrev u3 {A B C:Type}{R:Sort _}(f:A->B->C->R):A×B×C->R:=fun a=>f a.1 a.2.1 a.2.2
abbrev u4 {A B C E:Type}{R:Sort _}(f:A->B->C->E->R):A×B×C×E->R:=fun a=>f a.1 a.2.1 a.2.2.1 a.2.2.2
abbrev u11 {A B U:Type}{R:Sort _}(f:A->B->R):(A×U)×B->R:=fun a=>f a.1.1 a.2
abbrev aL {A R:Type}(l:List A)(k:Pg R):Pg R:= .as (l.length<=9223372036854775807) k
section
variable {D:Type}{Z:Seat D}{α β:Type}
noncomputable def E0 (i:List (aZ Z))(J:List (Sh1 Z.S))(c:zh D α){m:Nat}[s:oq Z.S m c](g:Iz D)[r:sF Z.S g](d:List Nat){f:FuncId}{b:Func}(o:Z.P.funcs[f]? =some b)(k:Nat)(F:α->Pg g.X)
  (l:∀a,Is (F a):=by intro a;exact isA) (p:Nat.ble m b.ntmps=true:=by kernel_rfl) (q:zg b=true:=by kernel_rfl) (n:b.results.toList.length=k:=by kernel_rfl) (j:∀a e,qW none->(F a).run e=(Af Z (Et i) (jL J) (args c) g 0 d b b.ntmps a).run e:=by intro a e _;kernel_rfl):aZ Z:=
 vF Z i J (args c) (lJ p) g d o rfl q k n F (fun _=>none) (fun a e h=>j a e h) (fun a=>(F a).val) fun a _=>⟨l a,rfl⟩
noncomputable def xx (j:List (aZ Z))(J:List (Sh1 Z.S))(c:zh D α)(b:J8 D β){m l:Nat}[u:oq Z.S m c][v:uU Z.S l b](i:Iz D)[t:sF Z.S i](g:List Nat){f:FuncId}{d:Func}(r:Z.P.funcs[f]? =some d)(k:Nat)(F:α×β->Pg i.X)
  (o:∀a,Is (F a):=by intro a;exact isA) (q:Nat.ble m d.ntmps=true:=by kernel_rfl) (s:zg d=true:=by kernel_rfl) (p:d.results.toList.length=k:=by kernel_rfl) (n:∀a e,qW none->(F a).run e=(Af Z (Et j) (jL J) (kN c b) i l g d d.ntmps a).run e:=by intro a e _;kernel_rfl):aZ Z:=
 vF Z j J (kN c b) (pz q) i g r rfl s k p F (fun _=>none) (fun a e h=>n a e h) (fun a=>(F a).val) fun a _=>⟨o a,rfl⟩
noncomputable def E1 (j:List (aZ Z))(J:List (Sh1 Z.S))(c:zh D α){m:Nat}[t:oq Z.S m c](i:Iz D)[s:sF Z.S i](d:List Nat){f:FuncId}{b:Func}(p:Z.P.funcs[f]? =some b)(k:Nat)(F:α->Pg i.X)(g:α->Prop)
  (n:∀a,g a->Is (F a):=by intro a h;exact isA) (q:Nat.ble m b.ntmps=true:=by kernel_rfl) (r:zg b=true:=by kernel_rfl) (o:b.results.toList.length=k:=by kernel_rfl) (l:∀a e,g a->(F a).run e=(Af Z (Et j) (jL J) (args c) i 0 d b b.ntmps a).run e:=by intro a e _;kernel_rfl):aZ Z:=
 vF Z j J (args c) (lJ q) i d p rfl r k o F (fun a=>some (g a)) (fun a e h=>l a e h) (fun a=>(F a).val) fun a h=>⟨n a h,rfl⟩
noncomputable def H7 (n:List (aZ Z))(J:List (Sh1 Z.S))(c:zh D α)(b:J8 D β){m l:Nat}[v:oq Z.S m c][w:uU Z.S l b](j:Iz D)[u:sF Z.S j](g:List Nat){f:FuncId}{d:Func}(s:Z.P.funcs[f]? =some d)(k:Nat)(F:α×β->Pg j.X)(i:α×β->Prop)
  (p:∀a,i a->Is (F a):=by intro a h;exact isA) (r:Nat.ble m d.ntmps=true:=by kernel_rfl) (t:zg d=true:=by kernel_rfl) (q:d.results.toList.length=k:=by kernel_rfl) (o:∀a e,i a->(F a).run e=(Af Z (Et n) (jL J) (kN c b) j l g d d.ntmps a).run e:=by intro a e _;kernel_rfl):aZ Z:=
 vF Z n J (kN c b) (pz r) j g s rfl t k q F (fun a=>some (i a)) (fun a e h=>o a e h) (fun a=>(F a).val) fun a h=>⟨p a h,rfl⟩
noncomputable def E2 (i:List (aZ Z))(J:List (Sh1 Z.S))(c:zh D α){m:Nat}[t:oq Z.S m c](d:Iz D)[s:sF Z.S d](g:List Nat){f:FuncId}{b:Func}(q:Z.P.funcs[f]? =some b)(k:Nat)(F:α->Pg d.X)(h:α->Option Prop)(n:α->d.X)
  (l:∀a,qW (h a)->Is (F a)/\(F a).val=n a) (p:Nat.ble m b.ntmps=true:=by kernel_rfl) (r:zg b=true:=by kernel_rfl) (o:b.results.toList.length=k:=by kernel_rfl) (j:∀a e,qW (h a)->(F a).run e=(Af Z (Et i) (jL J) (args c) d 0 g b b.ntmps a).run e:=by intro a e _;kernel_rfl):aZ Z:=
 vF Z i J (args c) (lJ p) d g q rfl r k o F h j n l
noncomputable def SI (j:List (aZ Z))(J:List (Sh1 Z.S))(c:zh D α)(b:J8 D β){m l:Nat}[v:oq Z.S m c][w:uU Z.S l b](g:Iz D)[u:sF Z.S g](h:List Nat){f:FuncId}{d:Func}(s:Z.P.funcs[f]? =some d)(k:Nat)(F:α×β->Pg g.X)(i:α×β->Option Prop)(p:α×β->g.X)
  (o:∀a,qW (i a)->Is (F a)/\(F a).val=p a) (r:Nat.ble m d.ntmps=true:=by kernel_rfl) (t:zg d=true:=by kernel_rfl) (q:d.results.toList.length=k:=by kernel_rfl) (n:∀a e,qW (i a)->(F a).run e=(Af Z (Et j) (jL J) (kN c b) g l h d d.ntmps a).run e:=by intro a e _;kernel_rfl):aZ Z:=
 vF Z j J (kN c b) (pz r) g h s rfl t k q F i n p o
abbrev aqA {A:Type}(l:List A)(d:A)(p:A->Bool):Pg Int:=aL l (.each false uj l d (fun i a (_:Unit)=> .ix i l.length (.br (p a) (.ret (.inr i)) (.ret (.inl ())))) (fun _ _=> .ret (-1)) ())
theorem aod {A:Type}(l:List A)(d:A)(p:A->Bool):Is (aqA l d p)/\(aqA l d p).val=fM p l:=⟨isA,oK p l 0⟩
abbrev apd {A:Type}(l:List A)(p:A->Bool):Pg Bool:= .lt (fM p l) fun v=> .ret (decide (0<=v))
theorem anc {A:Type}(l:List A)(p:A->Bool):Is (apd l p)/\(apd l p).val=l.any p:=⟨isA,by
 show decide (0<=fM p l)=l.any p
 rcases ql p l with⟨h,k⟩ | ⟨u,a,v,rfl,b,d,h⟩
 ·rw[h,qM au];exact(Qc.2 fun x c=>by rw[k x c];simp).symm
 ·rw[h,rY au];simp[b]⟩
abbrev jX {S:Sh D}:List (Sh1 S):=[jS 2 (bI (fun a=>[s0 8]) (l1 cI))]
noncomputable def EI {A:Type}(c:List (aZ Z))(h:jQ D (List A))(n:Nat){m:Nat}[o:oq Z.S m (ak (bC h) (a1 (lH n [])))]{f:FuncId}{b:Func}(j:Z.P.funcs[f]? =some b)(d:A)(p:A->Bool)
  (k:Nat.ble m b.ntmps=true:=by kernel_rfl) (l:zg b=true:=by kernel_rfl) (i:b.results.toList.length=1:=by kernel_rfl) (g:∀(a:List A×Unit) e,qW none->(aqA a.1 d p).run e=(Af Z (Et c) (jL (S:=Z.S) jX) (args (ak (bC h) (a1 (lH n [])))) (R1 cI) 0 [] b b.ntmps a).run e:=by intro a e _;kernel_rfl):aZ Z:=
 E2 c jX (ak (bC h) (a1 (lH n []))) (R1 cI) [] j 1 (fun a=>aqA a.1 d p) (fun _=>none) (fun a=>fM p a.1) (fun a _=>aod a.1 d p) k l i g
noncomputable def Jf {A:Type}(g:List (aZ Z))(i:jQ D (List A))(n:Nat)(cs:List Nat)(b:J8 D β){m l:Nat}[s:oq Z.S m (ak (bC i) (a1 (lH n cs)))][r:uU Z.S l b]{f:FuncId}{c:Func}(k:Z.P.funcs[f]? =some c)(d:A)(p:A->β->Bool)
  (o:Nat.ble m c.ntmps=true:=by kernel_rfl) (q:zg c=true:=by kernel_rfl) (j:c.results.toList.length=1:=by kernel_rfl) (h:∀(a:(List A×Unit)×β) e,qW none->(aqA a.1.1 d fun x=>p x a.2).run e=(Af Z (Et g) (jL (S:=Z.S) jX) (kN (ak (bC i) (a1 (lH n cs))) b) (R1 cI) l cs c c.ntmps a).run e:=by intro a e _;kernel_rfl):aZ Z:=
 SI g jX (ak (bC i) (a1 (lH n cs))) b (R1 cI) cs k 1 (fun a=>aqA a.1.1 d fun x=>p x a.2) (fun _=>none) (fun a=>fM (fun x=>p x a.2) a.1.1) (fun a _=>aod a.1.1 d fun x=>p x a.2) o q j h
noncomputable def EA {A:Type}(c:List (aZ Z))(g:jQ D (List A))(n:Nat){m:Nat}[l:oq Z.S m (ak (bC g) (a1 (lH n [])))]{f:FuncId}{b:Func}(i:Z.P.funcs[f]? =some b)(p:A->Bool)
  (j:Nat.ble m b.ntmps=true:=by kernel_rfl) (k:zg b=true:=by kernel_rfl) (h:b.results.toList.length=1:=by kernel_rfl) (d:∀(a:List A×Unit) e,qW none->(apd a.1 p).run e=(Af Z (Et c) (jL (S:=Z.S) []) (args (ak (bC g) (a1 (lH n [])))) (R1 aG) 0 [] b b.ntmps a).run e:=by intro a e _;kernel_rfl):aZ Z:=
 E2 c [] (ak (bC g) (a1 (lH n []))) (R1 aG) [] i 1 (fun a=>apd a.1 p) (fun _=>none) (fun a=>a.1.any p) (fun a _=>anc a.1 p) j k h d
noncomputable def EAB {A:Type}(d:List (aZ Z))(h:jQ D (List A))(n:Nat)(cs:List Nat)(b:J8 D β){m l:Nat}[r:oq Z.S m (ak (bC h) (a1 (lH n cs)))][q:uU Z.S l b]{f:FuncId}{c:Func}(j:Z.P.funcs[f]? =some c)(p:A->β->Bool)
  (k:Nat.ble m c.ntmps=true:=by kernel_rfl) (o:zg c=true:=by kernel_rfl) (i:c.results.toList.length=1:=by kernel_rfl) (g:∀(a:(List A×Unit)×β) e,qW none->(apd a.1.1 fun x=>p x a.2).run e=(Af Z (Et d) (jL (S:=Z.S) []) (kN (ak (bC h) (a1 (lH n cs))) b) (R1 aG) l cs c c.ntmps a).run e:=by intro a e _;kernel_rfl):aZ Z:=
 SI d [] (ak (bC h) (a1 (lH n cs))) b (R1 aG) cs j 1 (fun a=>apd a.1.1 fun x=>p x a.2) (fun _=>none) (fun a=>a.1.1.any fun x=>p x a.2) (fun a _=>anc a.1.1 fun x=>p x a.2) k o i g
theorem GU {c:xk D}{d:Iz D}{k o n:Nat}{g:List Nat}{b:c.A->Option Prop}{j:c.A->d.X}{f:FuncId}{h:Func}(p:List (aZ Z))(J:List (Sh1 Z.S))[m:sF Z.S d](t:Z.P.funcs[f]? =some h)(s:h.ntmps=n)(F:c.A->Pg d.X)(l:∀a,qW (b a)->Is (F a)/\(F a).val=j a)
  (q:R_ Z.S c o n) (u:zg h=true:=by kernel_rfl) (r:h.results.toList.length=k:=by kernel_rfl) (i:∀a e,qW (b a)->(F a).run e=(Af Z (Et p) (jL J) c d o g h n a).run e:=by intro a e _;kernel_rfl):gZ Z.P Z.S f (qj c d k g b j):=
 aww (fun _ _=>Gz) q m t s u k r F b i j l
end
end Go.Vc
