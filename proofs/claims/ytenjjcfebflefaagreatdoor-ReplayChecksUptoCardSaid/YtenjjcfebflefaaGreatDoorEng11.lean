/- Own engine: Vdy, Vdz, Vdk, Vdx, Vd0, Vez. -/
import Derived.Test.YtenjjcfebflefaaGreatDoorEng10
import Derived.SizedLaws
set_option linter.unusedVariables false
set_option linter.unusedSimpArgs false
namespace Go.Vc
theorem xY{p:Prop}(h:p:=by(try simp only[Sum.elim_inl,Sum.elim_inr])<;>(first | trivial | omega | (dsimp only;omega) | (refine KF (ads (by omega) rfl) ?_;omega) | (refine⟨Int.le_trans (Int.ofNat_le.2 (ads (by omega) rfl)) ?_,?_⟩<;>omega) | (refine KF (an8 _ _ _) ?_;first | omega | (dsimp only at*;omega) | (simp only[BP]at*;omega)) | (refine KF (aox _ _ _) ?_;first | omega | (dsimp only at*;omega) | (simp only[BP]at*;omega)))):p:=h
theorem AQ{p:Prop}(h:p:=by(try simp only[Sum.elim_inl,Sum.elim_inr])<;>(first | trivial | omega | (refine KF (agl _ _ _ _) ?_;(first | omega | (simp only[BP]at*;omega) | simp)) | (refine KF (aBJ _ _ _ _) ?_;(first | omega | (simp only[BP]at*;omega) | simp)))):p:=h
theorem qad{p:Prop}(h:p:=by(try simp only[Sum.elim_inl,Sum.elim_inr])<;>(first | trivial | omega | (dsimp only;omega) | (refine KF (ads (by omega) rfl) ?_;omega) | (refine⟨Int.le_trans (Int.ofNat_le.2 (ads (by omega) rfl)) ?_,?_⟩<;>omega) | (refine KF (an8 _ _ _) ?_;first | omega | (dsimp only at*;omega) | (simp only[BP]at*;omega)) | (refine KF (aox _ _ _) ?_;first | omega | (dsimp only at*;omega) | (simp only[BP]at*;omega)) | (simp only[tK];omega))):p:=h
theorem qae{p:Prop}(h:p:=by first | omega | (dsimp only at*;omega) | (simp only[BP]at*;omega) | exact h | exact h.2.2.2.1 _ (getD_mem (by omega)) | exact h.2.2.2.2.1 _ (getD_mem (by omega)) | exact h.2.2.2.2.2 _ (getD_mem (by omega)) | exact⟨by omega,fun m hm=>(h.2.2.2.1 m hm).1⟩ | exact dw (by omega) (by omega)):p:=h
theorem AL{p:Prop}(h:p:=by first | omega | (dsimp only at*;omega) | (simp only[BP]at*;omega)):p:=h
theorem TU{p:Prop}(h:p:=by first | omega | (simp only[BP]at*;omega) | (have:=h.1.2.2.2.2 _ (getD_mem (d:=[]) aGn);omega)):p:=h
theorem qah{p:Prop}(h:p:=by(try simp only[Sum.elim_inl,Sum.elim_inr])<;>(first | exact azR uC hI (by simp only[af.dn];exact ih.2.2 _ _ _ (aDz h uC)) | exact azH hI | exact azz acs hI ⟨⟨by simp only[af.dn];rw[(Ar _).1];exact(aAf h hv7 acs).2.1,by simp only[af.dn];exact ad4 (aAf h hv7 acs).2.2⟩,by simp only[af.dn,aer];exact rC _⟩ (by simp only[af.dn];exact ih.2.2 _ _ _ (aAf h hv7 acs).1) | exact aAh h hv7 hI | (simp only[af.dn];exact ih.2.2 _ _ _ (I7 h)))):p:=h
theorem qai{p:Prop}(h:p:=by first | omega | exact hl.1 | exact hl.2.1 | (show xH 2 fu _;rw[af.dn];exact aH2 h hv5 (by omega)) | (have h5:=Xw hl.2.1 hv5;exact dw (by have:=hI.2.2.1;omega) (by have:=hI.2.2.1;omega)) | exact ayi hI hv4 hl.1):p:=h
theorem Bo{p:Prop}(h:p:=by first | omega | (simp only[BP]at*;omega)):p:=h
theorem fO{p:Prop}(h:p:=by kernel_rfl):p:=h
theorem qal{p:Prop}(h:p:=by(try simp only[Sum.elim_inl,Sum.elim_inr])<;>(first | exact aI5 h hv4 | exact av8 hI | (refine az8 uC hI ?_ hv6;simp only[af.dn];exact ih.2.1 _ _ _ (aH2 h hv5 uC)) | exact aBf h hv4 hv5 hI)):p:=h
theorem qam{p:Prop}(h:p:=by(try simp only[Sum.elim_inl,Sum.elim_inr])<;>(first | (rw[af.dn];exact⟨asZ hI.1,hI.2⟩) | (refine⟨?_,by have e:=hI.2;rw[e];rfl⟩;show v4.Sublist _;rw[hv4];exact ax3 hI.1 (by omega) (by rw[Qbg];exact beq_false_of_ne (by omega))) | (exact⟨y2.Slots,by simpa using hI.1,by rw[af.dn];have e:=hI.2;rw[e];rfl⟩))):p:=h
theorem qan{p:Prop}(h:p:=by first | omega | exact hl.2.2.2 | (show xH 1 fu _;rw[af.dn];first | exact aDz h (by omega) | exact(aAf h hv7 (by omega)).1 | exact I7 h) | exact dw (by have:=hI.2.2;omega) (by have:=hI.2.2;omega) | (have h5:=JO hl.2.2.2 hv7;exact dw (by have:=hI.2.2;omega) (by have:=hI.2.2;omega))):p:=h
theorem qap{p:Prop}(h:p:=by(try simp only[Sum.elim_inl,Sum.elim_inr])<;>(first | exact fun y hy=> .inl hy | exact fun y hy=> .inr (.inl (hI.2 y hy)) | exact fun y hy=> .inr (.inr (by rw[FY.1 hy,af.dn])) | exact⟨by(have:=hI.1;simp only[tK,zx,BP];omega),fun z hz=>(vN.1 hz).elim (hI.2 z) fun e=>⟨_,getD_mem (d:=fH) uC,(FY.1 e).trans (af.dn _)⟩⟩)):p:=h
theorem qaq{p:Prop}(h:p:=by first | omega | (dsimp only at*;omega) | (simp only[BP]at*;omega) | exact KF (h.2.2.2.2 _ (getD_mem (by omega))) (by decide)):p:=h
theorem qar{p:Prop}(h:p:=by(try simp only[Sum.elim_inl,Sum.elim_inr])<;>(first | exact fun e=>absurd e (by decide) | (rw[hI,JG];done) | (rw[hI,iI (d:=b_) (by omega)];done) | (rw[hI,iI (d:=fF) (by omega)];done) | (intro _;rw[hI,JG];exact⟨by simpa using ‹(!nK s)=false›,rfl⟩))):p:=h
theorem qat{p:Prop}(h:p:=by(have:=MM (mY h) hv4;have:=h.1;first | omega | exact dw (by have:=hI.1.length_le;simp only[C9]at this;omega) (by have:=hI.1.length_le;simp only[C9]at this;omega) | exact⟨aaK (aut h hv4) (by omega),aaK (aut h hv4) (by omega)⟩)):p:=h
theorem qau{p:Prop}(h:p:=by(try simp only[Sum.elim_inl,Sum.elim_inr])<;>(first | exact hI.2 | exact⟨by first | (have:=hI.1;omega) | (rw[hv6];have:=hI.1;simp only[tK,zx,BP];omega),by have:=hI.2.1;simp only[tK,zx,BP];omega,hI.2.2.1,by rw[hv4,hv5];exact axU hI.2.2.2 (getD_mem (d:=aB) uC)⟩)):p:=h
theorem qav{p:Prop}(h:p:=by(try subst_vars);(try simp only[tK,zx,BP]);omega):p:=h
theorem qaw{p:Prop}(h:p:=by first | omega | exact h | exact(h.2.2.2.1 _ (getD_mem (by omega))).1 | exact⟨(h.2.2.2.2.1 _ (getD_mem (by omega))).2.1,(h.2.2.2.2.1 _ (getD_mem (by omega))).1⟩ | (rw[hI];simp only[Qby,C9];exact dw (by omega) (by omega))):p:=h
theorem qay{p:Prop}(h:p:=by first | omega | exact KF (an8 _ _ _) (by(first | omega | (simp only[BP]at*;omega) | simp)) | exact KF (anV (by omega) rfl) (by omega)):p:=h
theorem qaz{p:Prop}(h:p:=by(try simp only[Sum.elim_inl,Sum.elim_inr])<;>((have:=MM (mY h) hv4;have:=h.1;first | trivial | omega | exact⟨ai9 hI.1,by omega,by omega⟩ | (refine⟨?_,by omega,by omega⟩;rw[hv5];exact ahn hI.1 (by omega) (by rw[af.dn,af.dn,Pair.eta])) | (rw[<-hv4];simpa using hI.1)))):p:=h
theorem qa1{p:Prop}(h:p:=by(try simp only[Sum.elim_inl,Sum.elim_inr])<;>(first | trivial | (simp only[Qc,Qca,tK,zx,BP];omega))):p:=h
theorem qa2{p:Prop}(h:p:=by(try simp only[Sum.elim_inl,Sum.elim_inr])<;>((have:=MW h hv4;first | trivial | omega | exact⟨ai9 hI.1,by omega⟩ | (refine⟨?_,by omega⟩;rw[hv5];exact ahn hI.1 (by omega) (by rw[af.dn,Slot.eta])) | (rw[<-hv4];simpa using hI.1)))):p:=h
theorem qa3{p:Prop}(h:p:=by(have:=MW h hv4;first | omega | exact dw (by have:=hI.1.length_le;simp only[C9]at this;omega) (by have:=hI.1.length_le;simp only[C9]at this;omega))):p:=h
theorem qa5{p:Prop}(h:p:=by first | omega | exact KF (agl _ _ _ _) (by(first | omega | (simp only[BP]at*;omega) | simp)) | exact KF (aua (by omega) rfl) (by omega)):p:=h
theorem qa7{p:Prop}(h:p:=by(try simp only[Sum.elim_inl,Sum.elim_inr])<;>(first | trivial | omega | (simp only[Qcl];omega))):p:=h
theorem qa9{p:Prop}(h:p:=by(try simp only[Sum.elim_inl,Sum.elim_inr])<;>(first | trivial | omega | (simp only[tK,zx,BP];omega))):p:=h
theorem qbb{p:Prop}(h:p:=by first | omega | exact dw (by have:=hI.1;omega) (by have:=hI.1;omega) | exact dw (by have:=hI.2.1;omega) (by have:=hI.2.1;omega)):p:=h
theorem qbd{p:Prop}(h:p:=by first | omega | exact dw (by omega) (by omega)):p:=h
theorem qbe{p:Prop}(h:p:=by(try simp only[Sum.elim_inl,Sum.elim_inr])<;>(first | exact hI | exact⟨by simp only[tK,zx,BP];omega,hI.2⟩)):p:=h
theorem qbh{p:Prop}(h:p:=by(try simp only[Sum.elim_inl,Sum.elim_inr])<;>(first | (simp only[af.dn];exact ih.1 _ _ _ (I7 h)) | (simp only[af.dn];exact⟨ad4 h.1.1,Qdo (aer _)⟩))):p:=h
theorem qbi{p:Prop}(h:p:=by have k:0<=c.Depth:=h.2.1.1.2.1.1;have e:=h.2.2.2.2;omega):p:=h
theorem qbm{p:Prop}(h:p:=by first | omega | (have hq:=aAu hI.1;exact dw (by omega) (by omega))):p:=h
theorem qbq{p:Prop}(h:p:=by first | (simp;done) | (simp only[Qc,Qca];omega)):p:=h
theorem qbt{p:Prop}(h:p:=by have k:=h.1.1.2.1.1;have e:=h.2.2;omega):p:=h
theorem qbu{p:Prop}(h:p:=by first | omega | exact h.1 | exact dw (by omega) (by omega)):p:=h
theorem qbw{p:Prop}(h:p:=by rw[hv1,ug,af.dn];have:=h.2;omega):p:=h
theorem qby{p:Prop}(h:p:=by have:=hI.1;omega):p:=h
theorem qbz{p:Prop}(h:p:=by rw[k];decide):p:=h
theorem qcf{p:Prop}(h:p:=by show ¬(13:Int)=0;decide):p:=h
theorem qcj{p:Prop}(h:p:=by simp[Op.bytesLess]):p:=h
theorem qcl{p:Prop}(h:p:=by rw[k1]):p:=h
instance aJL {X R:Type} [Inhabited R]:Inhabited (X⊕R):=⟨.inr default⟩
structure Ix (X Y:Type) where
 gi:X->Int
 gy:X->Y
 mx:Int->Y->X
 h1:∀i y,gi (mx i y)=i
 h2:∀i y,gy (mx i y)=y
def rP {Y:Type}:Ix (Int×Y) Y:=⟨Prod.fst,Prod.snd,Prod.mk,fun _ _=>rfl,fun _ _=>rfl⟩
def Ec:Ix Int Unit:=⟨id,fun _=>(),fun i _=>i,fun _ _=>rfl,fun _ _=>rfl⟩
inductive Pg:Type->Type 1 where
 | ret {R:Type} (r:R):Pg R
 | no {R:Type} (r:R):Pg R
 | ob {R:Type} (p:Prop) (k:Pg R):Pg R
 | obD {R:Type} (p:Prop) (d:Decidable p) (k:Pg R):Pg R
 | as {R:Type} (p:Prop) (k:Pg R):Pg R
 | br {R:Type} (b:Bool) (t e:Pg R):Pg R
 | unk {R:Type} (s:Bool) (p:Bool->Prop) (t e:Pg R):Pg R
 | lt {R A:Type} (v:A) (k:A->Pg R):Pg R
 | cut {R X:Type} (k:X->Pg R) (a:Pg (X⊕R)):Pg R
 | wh {R X:Type} (n:Nat) (r:R) (step:X->Pg (X⊕R)) (x:X):Pg R
 | each {R A X Y:Type} (h:Bool) (s:Ix X Y) (l:List A) (d:A) (body:Int->A->Y->Pg (Y⊕R)) (fin:Int->Y->Pg R) (y:Y):Pg R
 | cnt {R X Y:Type} (s:Ix X Y) (a b:Int) (body:Int->Y->Pg (Y⊕R)) (fin:Int->Y->Pg R) (y:Y):Pg R
 | Hr {R A X Y:Type} (ps:List Prop) (h:Bool) (s:Ix X Y) (l:List A) (d:A) (body:Int->A->Y->Pg (Y⊕R)) (fin:Int->Y->Pg R) (y:Y):Pg R
 | TN {R X Y:Type} (ps:List Prop) (q:Option Prop) (s:Ix X Y) (a b:Int) (body:Int->Y->Pg (Y⊕R)) (fin:Int->Y->Pg R) (y:Y):Pg R
section
variable {R R' A X Y:Type}
def nxI (s:Ix X Y)(i:Int):Y⊕R->X⊕R
 | .inl y=> .inl (s.mx (bJ .i64 (i+1)) y)
 | .inr r=> .inr r
noncomputable def agj:List Prop->Option R->Option R
 | [],k=>k
 | p::a,k=>need p (agj a k)
noncomputable def aEw (q:Option Prop)(e:R)(k:Option R):Option R:=
 match q with
 | none=>k
 | some q=>asm q e k
def ahz:List Prop->Prop
 | []=>True
 | p::a=>p/\ahz a
theorem IP:∀{a:List Prop} {k:Option R},ahz a->agj a k=k
 | [],_,_=>rfl
 | p::a,k,h=>by unfold agj;rw[zi h.1,IP h.2]
theorem axk {q:Option Prop}{e:R}{k:Option R}(h:tN q):aEw q e k=k:=by
 cases q with
 | none=>rfl
 | some q=>exact AO h
theorem aug {q:Option Prop}{e:R}{k:Option R}(h:¬tN q):aEw q e k=some e:=by
 cases q with
 | none=>exact(h trivial).elim
 | some q=>exact ER h
noncomputable def Pg.runK:{R:Type}->Pg R->(c:Type)->(R->c)->c->Option c
 | _, .ret r,_,f,_=>some (f r)
 | _, .no _,_,_,_=>none
 | _, .ob p k,c,f,e=>need p (k.runK c f e)
 | _, .obD p _ k,c,f,e=>need p (k.runK c f e)
 | _, .as p k,c,f,e=>asm p e (k.runK c f e)
 | _, .br b t m,c,f,e=>cond b (t.runK c f e) (m.runK c f e)
 | _, .unk _ p t m,c,f,e=>both p (t.runK c f e) (m.runK c f e)
 | _, .lt v k,c,f,e=>(k v).runK c f e
 | _, .cut (X:=X) k a,c,f,e=>amW (a.runK (X⊕c) (Sum.map id f) (.inr e)) fun x=>(k x).runK c f e
 | _, .wh (X:=X) _ _ step x,c,f,e=>rW (fun y=>(step y).runK (X⊕c) (Sum.map id f) (.inr e)) x
 | _, .each (X:=X) h s l d g i y,c,f,e=>rW (fun x=>
   cond h (asm (l.length<=9223372036854775807) (.inr e) (cond (decide (s.gi x < (↑l.length:Int))) ((g (s.gi x) (l.getD (s.gi x).toNat d) (s.gy x)).runK (X⊕c) (fun z=>nxI s (s.gi x) (Sum.map id f z)) (.inr e)) ((i (s.gi x) (s.gy x)).runK (X⊕c) (fun r=> .inr (f r)) (.inr e))))
    (cond (decide (s.gi x < (↑l.length:Int))) ((g (s.gi x) (l.getD (s.gi x).toNat d) (s.gy x)).runK (X⊕c) (fun z=>nxI s (s.gi x) (Sum.map id f z)) (.inr e)) ((i (s.gi x) (s.gy x)).runK (X⊕c) (fun r=> .inr (f r)) (.inr e)))) (s.mx 0 y)
 | _, .Hr (X:=X) j h s l d g i y,c,f,e=>rW (fun x=>agj j (
   cond h (asm (l.length<=9223372036854775807) (.inr e) (cond (decide (s.gi x < (↑l.length:Int))) ((g (s.gi x) (l.getD (s.gi x).toNat d) (s.gy x)).runK (X⊕c) (fun z=>nxI s (s.gi x) (Sum.map id f z)) (.inr e)) ((i (s.gi x) (s.gy x)).runK (X⊕c) (fun r=> .inr (f r)) (.inr e))))
    (cond (decide (s.gi x < (↑l.length:Int))) ((g (s.gi x) (l.getD (s.gi x).toNat d) (s.gy x)).runK (X⊕c) (fun z=>nxI s (s.gi x) (Sum.map id f z)) (.inr e)) ((i (s.gi x) (s.gy x)).runK (X⊕c) (fun r=> .inr (f r)) (.inr e))))) (s.mx 0 y)
 | _, .TN (X:=X) j q s a b g i y,c,f,e=>rW (fun x=>agj j (aEw q (.inr e) (cond (decide (s.gi x < b)) ((g (s.gi x) (s.gy x)).runK (X⊕c) (fun z=>nxI s (s.gi x) (Sum.map id f z)) (.inr e)) ((i (s.gi x) (s.gy x)).runK (X⊕c) (fun r=> .inr (f r)) (.inr e))))) (s.mx a y)
 | _, .cnt (X:=X) s a b g i y,c,f,e=>rW (fun x=>cond (decide (s.gi x < b)) ((g (s.gi x) (s.gy x)).runK (X⊕c) (fun z=>nxI s (s.gi x) (Sum.map id f z)) (.inr e)) ((i (s.gi x) (s.gy x)).runK (X⊕c) (fun r=> .inr (f r)) (.inr e))) (s.mx a y)
noncomputable def Pg.run (t:Pg R)(e:R):Option R:=t.runK R id e
abbrev Pg.ix (i:Int)(n:Nat)(k:Pg R):Pg R:= .ob (0<=i/\i < ↑n) k
def jZ (b:Nat->A->Y->Y⊕R)(f:Nat->Y->R):List A->Nat->Y->R
 | [],k,y=>f k y
 | a::l,k,y=>match b k a y with
  | .inl c=>jZ b f l (k+1) c
  | .inr r=>r
def oq (b:Int->Y->Y⊕R)(f:Int->Y->R):Nat->Int->Y->R
 | 0,i,y=>f i y
 | n+1,i,y=>match b i y with
  | .inl a=>oq b f n (i+1) a
  | .inr r=>r
def JE (step:X->X⊕R)(a:R):Nat->X->R
 | 0,_=>a
 | n+1,x=>match step x with
  | .inl b=>JE step a n b
  | .inr r=>r
def thenS (a:X⊕R)(k:X->R):R:=
 match a with
 | .inl x=>k x
 | .inr r=>r
@[simp] theorem fG (x:X) (k:X->R):thenS (.inl x) k=k x:=rfl
@[simp] theorem aaD (r:R) (k:X->R):thenS (.inr r) k=r:=rfl
def Pg.val:{R:Type}->Pg R->R
 | _, .ret r=>r
 | _, .no r=>r
 | _, .ob _ k=>k.val
 | _, .obD _ _ k=>k.val
 | _, .as _ k=>k.val
 | _, .br b t e=>cond b t.val e.val
 | _, .unk s _ t e=>cond s t.val e.val
 | _, .lt v k=>(k v).val
 | _, .cut k a=>thenS a.val fun x=>(k x).val
 | _, .wh n r step x=>JE (fun y=>(step y).val) r n x
 | _, .each _ _ l _ c d y=>jZ (fun k a y=>(c (↑k:Int) a y).val) (fun k y=>(d (↑k:Int) y).val) l 0 y
 | _, .cnt _ a b c d y=>oq (fun i y=>(c i y).val) (fun i y=>(d i y).val) (b - a).toNat a y
 | _, .Hr _ _ _ l _ c d y=>jZ (fun k a y=>(c (↑k:Int) a y).val) (fun k y=>(d (↑k:Int) y).val) l 0 y
 | _, .TN _ _ _ a b c d y=>oq (fun i y=>(c i y).val) (fun i y=>(d i y).val) (b - a).toNat a y
@[simp] theorem ay (r:R):(Pg.ret r).val=r:=rfl
@[simp] theorem aI0 (r:R):(Pg.no r).val=r:=rfl
@[simp] theorem bG (p:Prop) (k:Pg R):(Pg.ob p k).val=k.val:=rfl
@[simp] theorem aIS (p:Prop) (d:Decidable p) (k:Pg R):(Pg.obD p d k).val=k.val:=rfl
@[simp] theorem dN (i:Int) (n:Nat) (k:Pg R):(Pg.ix i n k).val=k.val:=rfl
@[simp] theorem gm (p:Prop) (k:Pg R):(Pg.as p k).val=k.val:=rfl
@[simp] theorem aN (b:Bool) (t e:Pg R):(Pg.br b t e).val=cond b t.val e.val:=rfl
@[simp] theorem aBZ (s:Bool) (p:Bool->Prop) (t e:Pg R):(Pg.unk s p t e).val=cond s t.val e.val:=rfl
@[simp] theorem bF (v:A) (k:A->Pg R):(Pg.lt v k).val=(k v).val:=rfl
@[simp] theorem gz (a:Pg (X⊕R)) (k:X->Pg R):(Pg.cut k a).val=thenS a.val fun x=>(k x).val:=rfl
@[simp] theorem sS (n:Nat) (r:R) (step:X->Pg (X⊕R)) (x:X):(Pg.wh n r step x).val=JE (fun y=>(step y).val) r n x:=rfl
@[simp] theorem fM (h:Bool) (s:Ix X Y) (l:List A) (d:A) (b:Int->A->Y->Pg (Y⊕R)) (c:Int->Y->Pg R) (y:Y):
  (Pg.each h s l d b c y).val=jZ (fun k a y=>(b (↑k:Int) a y).val) (fun k y=>(c (↑k:Int) y).val) l 0 y:=rfl
@[simp] theorem qx (s:Ix X Y) (a b:Int) (c:Int->Y->Pg (Y⊕R)) (d:Int->Y->Pg R) (y:Y):
  (Pg.cnt s a b c d y).val=oq (fun i y=>(c i y).val) (fun i y=>(d i y).val) (b - a).toNat a y:=rfl
@[simp] theorem aby (e:List Prop) (h:Bool) (s:Ix X Y) (l:List A) (d:A) (b:Int->A->Y->Pg (Y⊕R)) (c:Int->Y->Pg R) (y:Y):
  (Pg.Hr e h s l d b c y).val=jZ (fun k a y=>(b (↑k:Int) a y).val) (fun k y=>(c (↑k:Int) y).val) l 0 y:=rfl
@[simp] theorem aum (e:List Prop) (q:Option Prop) (s:Ix X Y) (a b:Int) (c:Int->Y->Pg (Y⊕R)) (d:Int->Y->Pg R) (y:Y):
  (Pg.TN e q s a b c d y).val=oq (fun i y=>(c i y).val) (fun i y=>(d i y).val) (b - a).toNat a y:=rfl
def Is (t:Pg R):Prop:=∀(R':Type) (f:R->R') (e:R'),t.runK R' f e=some (f t.val)\/t.runK R' f e=some e
def Is1 (t:Pg R):Prop:=∀(R':Type) (f:R->R') (e:R'),t.runK R' f e=some (f t.val)
theorem Is1.is {t:Pg R}(h:Is1 t):Is t:=fun R' f e=> .inl (h R' f e)
theorem Is.run {t:Pg R}(h:Is t):t.run t.val=some t.val:=by
 rcases h R id t.val with h | h<;>exact h
theorem aZ {r:R}:Is (.ret r):=fun _ _ _=> .inl rfl
theorem bM {p:Prop}{k:Pg R}(a:p)(b:Is k):Is (.ob p k):=fun R' f e=>by
 simp only[Pg.runK,zi a];exact b R' f e
theorem dJ {i:Int}{n:Nat}{k:Pg R}(c:0<=i)(a:i < ↑n)(b:Is k):Is (.ix i n k):=bM ⟨c,a⟩ b
theorem jH {p:Prop}{k:Pg R}(b:p->Is k):Is (.as p k):=fun R' f e=>by
 by_cases a:p
 ·simp only[Pg.runK,AO a];exact b a R' f e
 ·simp only[Pg.runK,ER a]
  grind
theorem aS {b:Bool}{t e:Pg R}(d:b=true->Is t)(c:b=false->Is e):Is (.br b t e):=fun R' f a=>by
 cases b with
 | true=>exact d rfl R' f a
 | false=>exact c rfl R' f a
theorem bn {p:Prop}{a:Decidable p}{t e:Pg R}(c:p->Is t)(b:¬p->Is e):Is (.br (@decide p a) t e):=
 aS (fun h=>c (EU h)) (fun h=>b (Qbm h))
theorem bK {a b:A}[h:BEq A][f:LawfulBEq A]{t e:Pg R}(d:a=b->Is t)(c:¬a=b->Is e):Is (.br (a==b) t e):=
 aS (fun h=>d qbr) (fun h=>c qbr)
theorem gQ {a b:A}[h:BEq A][f:LawfulBEq A]{t e:Pg R}(d:¬a=b->Is t)(c:a=b->Is e):Is (.br (a !=b) t e):=
 aS (fun h=>d qbr) (fun h=>c qbr)
theorem dw {n b:Nat}(c:n<=1099511627776)(a:n*b<=140737488355328):dE n b:=⟨c,a⟩
theorem dm {v:A}{k:A->Pg R}(h:∀x,x=v->Is (k x)):Is (.lt v k):=h v rfl
theorem mO {n:Int}{k:Int->Pg R}(h:∀x,x=bJ .i64 n->(-9223372036854775808<=n/\n<=9223372036854775807->x=n)->Is (k x)):Is (.lt (bJ .i64 n) k):=
 h _ rfl fun a=>bY (k:= .i64) a
theorem lK {a:Pg (X⊕R)}{k:X->Pg R}(d:Is a)(c:∀x,a.val= .inl x->Is (k x)):Is (.cut k a):=fun R' f e=>by
 have h:=d (X⊕R') (Sum.map id f) (.inr e);simp only[Pg.runK,gz];rcases h with h | h
 ·rw[h];cases b:a.val with
  | inl x=>exact c x b R' f e
  | inr r=>exact .inl rfl
 ·rw[h];exact .inr rfl
theorem auI {s:Bool}{p:Bool->Prop}{t e:Pg R}(g:∃b,p b)(c:p true->Is1 t/\t.val=cond s t.val e.val)(a:p false->Is1 e/\e.val=cond s t.val e.val):Is (.unk s p t e):=fun R' f d=>by
 refine .inl ?_;simp only[Pg.runK,aBZ];refine aeV g (fun h=> ?_) (fun h=> ?_)
 ·rw[(c h).1 R' f d,<-(c h).2]
 ·rw[(a h).1 R' f d,<-(a h).2]
theorem FZ {l:List A}{b:Nat}(h:dE (0+l.length) b):Is (.unk false (fun b=>b=true->l.length=0) (.ret []) (.ob (dE (0+l.length) b) (.ret l))):=
 auI ⟨false,fun e=>by cases e⟩ (fun a=>⟨fun _ _ _=>rfl,by simp_all⟩) (fun _=>⟨fun R' f e=>by simp only[Pg.runK,zi h];rfl,rfl⟩)
theorem abU {l:List A}{s:Ix X Y}{m:Type}{step:X->Option (X⊕m)}{f:R->m}{e:m}{b:Nat->A->Y->Y⊕R}{g:Nat->Y->R}{d:A}(I:Nat->Y->Prop)
  (q:∀(k:Nat) (y:Y),k < l.length->I k y->step (s.mx ↑k y)=some (match b k (l.getD k d) y with | .inl a=> .inl (s.mx (↑(k+1)) a) | .inr r=> .inr (f r))/\(∀a,b k (l.getD k d) y= .inl a->I (k+1) a)\/step (s.mx ↑k y)=some (.inr e))
  (p:∀y,I l.length y->step (s.mx ↑l.length y)=some (.inr (f (g l.length y)))\/step (s.mx ↑l.length y)=some (.inr e)):
  ∀(n k:Nat) (y:Y),k+n=l.length->I k y->rW step (s.mx ↑k y)=some (f (jZ b g (l.drop k) k y))\/rW step (s.mx ↑k y)=some e
 | 0,k,y,i,j=>by
  have i:k=l.length:=by omega
  subst i;rw[zh,Qc1];rcases p y j with h | h<;>rw[h]
  ·exact .inl rfl
  grind
 | n+1,k,y,i,j=>by
  have o:k < l.length:=by omega
  rw[zh];have t:l.drop k=l.getD k d::l.drop (k+1):=by
   simp_all
  rw[t];rcases q k y o j with⟨h,u⟩ | h
  ·rw[h];cases c:b k (l.getD k d) y with
   | inl a=>
    have:=abU I q p n (k+1) a au (u a c);simp only[jZ,c];exact this
   | inr r=>
    simp only[jZ,c]
    grind
  grind
theorem lX {k:Nat}(h:k < 9223372036854775807):bJ .i64 ((↑k:Int)+1)=↑(k+1):=by
 rw[bY (k:= .i64) p_];omega
theorem Dc {h:Bool}{s:Ix X Y}{l:List A}{d:A}{c:Int->A->Y->Pg (Y⊕R)}{i:Int->Y->Pg R}{y:Y}(I:Nat->Y->Prop)(D:I 0 y)
  (E:h=true\/l.length<=9223372036854775807)
  (u:∀(k:Nat) (y:Y),k < l.length->l.length<=9223372036854775807->I k y->Is (c ↑k (l.getD k d) y)/\∀n,(c ↑k (l.getD k d) y).val= .inl n->I (k+1) n)
  (v:∀y,l.length<=9223372036854775807->I l.length y->Is (i ↑l.length y)):Is (.each h s l d c i y):=fun R' f e=>by
 simp only[Pg.runK,fM];have t:=fun(step:X->Option (X⊕R'))=>abU (l:=l) (s:=s) (step:=step) (f:=f) (e:=e) (b:=fun k a y=>(c (↑k:Int) a y).val) (g:=fun k y=>(i (↑k:Int) y).val) (d:=d) I
 have m:∀(j:l.length<=9223372036854775807) (step:X->Option (X⊕R')),(∀x,step x=cond (decide (s.gi x < (↑l.length:Int))) ((c (s.gi x) (l.getD (s.gi x).toNat d) (s.gy x)).runK (X⊕R') (fun z=>nxI s (s.gi x) (Sum.map id f z)) (.inr e)) ((i (s.gi x) (s.gy x)).runK (X⊕R') (fun r=> .inr (f r)) (.inr e)))->
   (rW step (s.mx 0 y)=some (f (jZ (fun k a y=>(c (↑k:Int) a y).val) (fun k y=>(i (↑k:Int) y).val) l 0 y))\/rW step (s.mx 0 y)=some e):=by
  intro j step q;have:=t step (fun k y C o=> ?_) (fun y o=> ?_) l.length 0 y au D
  ·grind
  ·obtain⟨w,B⟩:=u k y C j o;rw[q,s.h1,s.h2];have p:((k:Nat):Int) < ↑l.length:=by omega
   simp only[p,decide_true,cond_true,uZ];rcases w (X⊕R') (fun z=>nxI s ↑k (Sum.map id f z)) (.inr e)with h | h
   ·refine .inl ⟨?_,B⟩;rw[h];cases(c ↑k (l.getD k d) y).val with
    | inl n=>simp only[Sum.map_inl,id_eq,nxI,lX (show k < 9223372036854775807 by omega)]
    | inr r=>rfl
   ·exact .inr h
  ·rw[q,s.h1,s.h2];simp only[Qem,decide_false,jm];exact(v y j o) (X⊕R') (fun r=> .inr (f r)) (.inr e)
 cases h with
 | false=>
  grind
 | true=>
  by_cases j:l.length<=9223372036854775807
  ·exact m j _ fun x=>by simp only[cond_true,AO j]
  ·refine .inr ?_;rw[zh];simp only[cond_true,ER j]
theorem jG {h:Bool}{s:Ix X Y}{l:List A}{d:A}{a:Int->A->Y->Pg (Y⊕R)}{b:Int->Y->Pg R}{y:Y}(i:h=true\/l.length<=9223372036854775807)
  (e:∀(k:Nat) (y:Y),k < l.length->l.length<=9223372036854775807->Is (a ↑k (l.getD k d) y)) (f:∀y,l.length<=9223372036854775807->Is (b ↑l.length y)):Is (.each h s l d a b y):=
 Dc (fun _ _=>True) trivial i (fun k y g c _=>⟨e k y g c,fun _ _=>trivial⟩) fun y h _=>f y h
theorem agm {b:Int}{s:Ix X Y}{j:Type}{step:X->Option (X⊕j)}{f:R->j}{e:j}{bd:Int->Y->Y⊕R}{g:Int->Y->R}(I:Int->Y->Prop)(p:b<=9223372036854775807)
  (m:∀(i:Int) (y:Y),i < b->I i y->step (s.mx i y)=some (match bd i y with | .inl a=> .inl (s.mx (i+1) a) | .inr r=> .inr (f r))/\(∀a,bd i y= .inl a->I (i+1) a)\/step (s.mx i y)=some (.inr e))
  (l:∀i y,b<=i->I i y->step (s.mx i y)=some (.inr (f (g i y)))\/step (s.mx i y)=some (.inr e)):
  ∀(n:Nat) (i:Int) (y:Y),(b - i).toNat=n->I i y->rW step (s.mx i y)=some (f (oq bd g n i y))\/rW step (s.mx i y)=some e
 | 0,i,y,o,d=>by
  rw[zh];rcases l i y au d with h | h<;>rw[h]
  ·exact .inl rfl
  grind
 | n+1,i,y,o,d=>by
  have k:i < b:=by omega
  rw[zh];rcases m i y k d with⟨h,q⟩ | h
  ·rw[h];cases c:bd i y with
   | inl a=>
    have:=agm I p m l n (i+1) a au (q a c);simp only[oq,c];exact this
   | inr r=>
    simp only[oq,c]
    grind
  grind
theorem NH {s:Ix X Y}{a b:Int}{c:Int->Y->Pg (Y⊕R)}{j:Int->Y->Pg R}{y:Y}(I:Int->Y->Prop)(w:I a y)(A: -9223372036854775808<=a)(x:b<=9223372036854775807)
  (o:∀(i:Int) (y:Y),a<=i->i < b->I i y->Is (c i y)/\∀d,(c i y).val= .inl d->I (i+1) d)
  (q:∀i y,a<=i->b<=i->I i y->Is (j i y)):Is (.cnt s a b c j y):=fun R' f e=>by
 simp only[Pg.runK,qx];refine agm (s:=s) (f:=f) (e:=e) (bd:=fun i y=>(c i y).val) (g:=fun i y=>(j i y).val) (fun i y=>a<=i/\I i y) x (fun i y m l=> ?_) (fun i y n l=> ?_) _ a y rfl ⟨ZU _,w⟩
 ·obtain⟨t,u⟩:=o i y l.1 m l.2;simp only[s.h1,s.h2,m,decide_true,cond_true];rcases t (X⊕R') (fun z=>nxI s i (Sum.map id f z)) (.inr e)with h | h
  ·refine .inl ⟨?_,fun d p=>⟨by omega,u d p⟩⟩;rw[h];have v:bJ .i64 (i+1)=i+1:=bY (k:= .i64) p_;cases(c i y).val with
   | inl d=>simp only[Sum.map_inl,id_eq,nxI,v]
   | inr r=>rfl
  ·exact .inr h
 ·simp only[s.h1,s.h2,show ¬i < b by omega,decide_false,jm];exact(q i y l.1 n l.2) (X⊕R') (fun r=> .inr (f r)) (.inr e)
theorem Yl {s:Ix X Y}{a b:Int}{c:Int->Y->Pg (Y⊕R)}{d:Int->Y->Pg R}{y:Y}(k: -9223372036854775808<=a)(j:b<=9223372036854775807)
  (g:∀(i:Int) (y:Y),a<=i->i < b->Is (c i y)) (h:∀i y,a<=i->b<=i->Is (d i y)):Is (.cnt s a b c d y):=
 NH (fun _ _=>True) trivial k j (fun i y f e _=>⟨g i y f e,fun _ _=>trivial⟩) fun i y f e _=>h i y f e
theorem acl {c:List Prop}{h:Bool}{s:Ix X Y}{l:List A}{d:A}{a:Int->A->Y->Pg (Y⊕R)}{b:Int->Y->Pg R}{y:Y}(I:Nat->Y->Prop)(n:I 0 y)(j:ahz c)
  (o:h=true\/l.length<=9223372036854775807)
  (i:∀(k:Nat) (y:Y),k < l.length->l.length<=9223372036854775807->I k y->Is (a ↑k (l.getD k d) y)/\∀g,(a ↑k (l.getD k d) y).val= .inl g->I (k+1) g)
  (m:∀y,l.length<=9223372036854775807->I l.length y->Is (b ↑l.length y)):Is (.Hr c h s l d a b y):=fun R' f e=>by
 have:=Dc (s:=s) I n o i m R' f e;simp only[Pg.runK,IP j]at this⊢;exact this
theorem ag_ {c:List Prop}{h:Bool}{s:Ix X Y}{l:List A}{d:A}{a:Int->A->Y->Pg (Y⊕R)}{b:Int->Y->Pg R}{y:Y}(g:ahz c)(m:h=true\/l.length<=9223372036854775807)
  (f:∀(k:Nat) (y:Y),k < l.length->l.length<=9223372036854775807->Is (a ↑k (l.getD k d) y)) (i:∀y,l.length<=9223372036854775807->Is (b ↑l.length y)):Is (.Hr c h s l d a b y):=
 acl (fun _ _=>True) trivial g m (fun k y j e _=>⟨f k y j e,fun _ _=>trivial⟩) fun y h _=>i y h
theorem af4 {h:List Prop}{q:Option Prop}{s:Ix X Y}{a b:Int}{c:Int->Y->Pg (Y⊕R)}{g:Int->Y->Pg R}{y:Y}(I:Int->Y->Prop)(r:I a y)(j:ahz h)(t: -9223372036854775808<=a)(l:tN q->b<=9223372036854775807)
  (m:∀(i:Int) (y:Y),a<=i->i < b->b<=9223372036854775807->I i y->Is (c i y)/\∀k,(c i y).val= .inl k->I (i+1) k)
  (o:∀i y,a<=i->b<=i->I i y->Is (g i y)):Is (.TN h q s a b c g y):=fun R' f e=>by
 by_cases d:tN q
 ·have:=NH (s:=s) I r t (l d) (fun i y p n=>m i y p n (l d)) o R' f e;simp only[Pg.runK,IP j,axk d]at this⊢;exact this
 ·refine .inr ?_;simp only[Pg.runK,IP j,aug d];rw[zh]
theorem Vb {g:List Prop}{q:Option Prop}{s:Ix X Y}{a b:Int}{c:Int->Y->Pg (Y⊕R)}{d:Int->Y->Pg R}{y:Y}(k:ahz g)(n: -9223372036854775808<=a)(m:tN q->b<=9223372036854775807)
  (h:∀(i:Int) (y:Y),a<=i->i < b->b<=9223372036854775807->Is (c i y)) (l:∀i y,a<=i->b<=i->Is (d i y)):Is (.TN g q s a b c d y):=
 af4 (fun _ _=>True) trivial k n m (fun i y f e j _=>⟨h i y f e j,fun _ _=>trivial⟩) fun i y f e _=>l i y f e
theorem L_ {n:Nat}{j:R}{step:X->Pg (X⊕R)}{x:X}(I:X->Prop)(c:X->Nat)(k:I x)(o:c x < n)
  (i:∀x,I x->Is (step x)/\∀a,(step x).val= .inl a->I a/\c a < c x):Is (.wh n j step x):=fun R' f e=>by
 simp only[Pg.runK,sS];induction n generalizing x with
 | zero=>omega
 | succ n m=>
  rw[zh];obtain⟨d,g⟩:=i x k;rcases d (X⊕R') (Sum.map id f) (.inr e)with h | h
  ·rw[h];cases b:(step x).val with
   | inl a=>
    obtain⟨p,l⟩:=g a b;simp only[Sum.map_inl,id_eq,JE,b]
    grind
   | inr r=>
    simp only[Sum.map_inr,JE,b]
    grind
  grind
end
end Go.Vc
namespace Go.Vc
open Go.RowKit
structure Seat (D:Type) where
 P:Program
 S:Sh D
 T:TypeId->Option Ty
 mx:P.follows .mixedOrders=true
 hT:∀t ty,T t=some ty->eP P t ty
 hS:iZ S
structure bT {D:Type}(Z:Seat D) where
 f:FuncId
 ct:Ct D
 ok:fK Z.P Z.S f ct
section
variable {D:Type}{Z:Seat D}
def Gq:List (bT Z)->FuncId->Option (Ct D)
 | [],_=>none
 | e::r,f=>if Nat.beq f e.f then(match Gq r f with
  | some c=>some (auu e.ct c)
  | none=>some e.ct)else Gq r f
theorem L8:∀{l:List (bT Z)} {f:FuncId} {a:Ct D},Gq l f=some a->fK Z.P Z.S f a
 | [],f,a,h=>by cases h
 | e::r,f,a,h=>by
  unfold Gq at h;split at h
  ·rename_i b;have b:=Qa b;subst b;split at h
   ·rename_i c d;injection h with h
    subst h;exact ae1 e.ok (L8 d)
   ·injection h with h
    subst h;exact e.ok
  ·exact L8 h
structure Sh1 (S:Sh D):Type 1 where
 i:Nat
 sh:FT D
 ok:rD S sh
def jS {S:Sh D}(i:Nat)(a:FT D)[h:rD S a]:Sh1 S:=⟨i,a,h⟩
def jL {S:Sh D}:List (Sh1 S)->Nat->Option (FT D)
 | [],_=>none
 | s::r,n=>if Nat.beq n s.i then some s.sh else jL r n
theorem aCX {S:Sh D}:∀{l:List (Sh1 S)} {i:Nat} {a:FT D},jL l i=some a->rD S a
 | [],i,a,h=>by cases h
 | s::r,i,a,h=>by
  unfold jL at h;split at h
  ·injection h with h
   subst h;exact s.ok
  ·exact aCX h
def FH (a:Func):Code:=a.body.getD .skip
def y_ (a:Func):Bool:=a.body.isSome && (a.name != "runtime.NumGoroutine" && sG (FH a))
def yV (Z:Seat D)(f:FuncId->Option (Ct D))(J:Nat->Option (FT D))(b:uV D)(d:FT D)(g:Nat)(c:List Nat)(e:Func)(n:Nat)(a:b.A):Tr D d.X:=
 MQ Z.T Z.S f n J (FH e) d.X (St.init (b.enc a).1 (b.enc a).2) (aHW Z.T Z.S e.results.toList d g c)
theorem ajH {Γ:FuncId->Option (Ct D)}(v:∀f s,Γ f=some s->fK Z.P Z.S f s){J:List (Sh1 Z.S)}{AS:uV D}{RS:FT D}{fU n:Nat}{keep:List Nat}{f:FuncId}{d:Func}(p:Tn Z.S AS fU n)(q:rD Z.S RS)
  (x:Z.P.funcs[f]? =some d) (E:d.ntmps=n) (t:y_ d=true) (k:Nat) (C:d.results.toList.length=k) (F:AS.A->Pg RS.X) (b:AS.A->Option Prop) (j:∀a e,tN (b a)->(F a).run e=(yV Z Γ (jL J) AS RS fU keep d n a).run e)
  (m:AS.A->RS.X) (r:∀a,tN (b a)->Is (F a)/\(F a).val=m a):fK Z.P Z.S f (xK AS RS k keep b m):=by
 subst C;simp only[y_,jA,Qdd,ne_eq]at t;obtain⟨A,w,B⟩:=t;obtain⟨c,o⟩:=Qb2.1 A;have g:FH d=c:=by simp[FH,o]
 refine aFj (J:=jL J) Z.mx Z.hT v Z.hS (fun i G h=>aCX (l:=J) h) x o (by simpa using w) E rfl (by rw[<-g];exact B) p q b m fun a u=> ?_;obtain⟨y,z⟩:=r a u;have h:=j a (F a).val u;rw[y.run,z]at h;unfold yV at h;rw[g]at h;exact h.symm
theorem jU {h:uV D}{l:FT D}{k:Nat}{e:List Nat}{f:FuncId}{j:Func}(s:Z.P.funcs[f]? =some j)(m:y_ j=true){d:h.A->Option Prop}{q:h.A->l.X}(u:∀a,tN (d a)->False):
  fK Z.P Z.S f (xK h l k e d q):=by
 simp only[y_,jA,Qdd,ne_eq]at m;obtain⟨y,o,E⟩:=m;obtain⟨c,n⟩:=Qb2.1 y;refine⟨fun args w=>by simp[callFunc,s,o,n],fun X N g w args A C p r v z B t b i=> ?_⟩;unfold xK at b;split at b
 ·cases b
 ·injection b with b
  injection b with x b
  subst x;exact(u _ (Gj.1 i)).elim
noncomputable def yQ (Z:Seat D)(o:List (bT Z))(J:List (Sh1 Z.S))(c:uV D){q n:Nat}(l:Tn Z.S c q n)(h:FT D)[m:rD Z.S h](g:List Nat){f:FuncId}{d:Func}
  (r:Z.P.funcs[f]? =some d) (u:d.ntmps=n) (s:y_ d=true) (k:Nat) (t:d.results.toList.length=k) (F:c.A->Pg h.X) (b:c.A->Option Prop) (i:∀a e,tN (b a)->(F a).run e=(yV Z (Gq o) (jL J) c h q g d n a).run e)
  (j:c.A->h.X) (p:∀a,tN (b a)->Is (F a)/\(F a).val=j a):bT Z:=
 ⟨f,xK c h k g b j,ajH (fun _ _=>L8) l m r u s k t F b i j p⟩
end
end Go.Vc
namespace Go.Vc
section
variable {A R Y:Type}
def nZ (p:A->Bool):List A->Nat->Int
 | [],_=> -1
 | a::l,k=>bif p a then(↑k:Int)else nZ p l (k+1)
def dP (p:A->Bool)(l:List A):Int:=nZ p l 0
theorem yc (p:A->Bool):∀(l:List A) (k:Nat),jZ (fun k a (_:Unit)=>cond (p a) (.inr (↑k:Int)) (.inl ())) (fun _ _=>(-1:Int)) l k ()=nZ p l k
 | [],_=>rfl
 | a::l,k=>by
  unfold jZ nZ;cases p a with
  | true=>rfl
  | false=>exact yc p l (k+1)
theorem S_ (p:A->Bool):∀(l:List A) (k:Nat),(nZ p l k= -1/\∀a∈l,p a=false)\/∃(u:List A) (a:A) (v:List A),l=u++a::v/\p a=true/\(∀x∈u,p x=false)/\nZ p l k=↑(k+u.length)
 | [],k=> .inl ⟨rfl,fun a h=>by simp at h⟩
 | a::l,k=>by
  unfold nZ;cases g:p a with
  | true=>exact .inr ⟨[],a,l,rfl,g,(fun x h=>by simp at h),rfl⟩
  | false=>
   rcases S_ p l (k+1)with⟨f,c⟩ | ⟨u,b,v,f,c,j,i⟩
   ·refine .inl ⟨f,fun b d=> ?_⟩;rcases zN.1 d with rfl | d
    ·exact g
    ·exact c b d
   ·refine .inr ⟨a::u,b,v,by rw[f];rfl,c,fun x e=> ?_,?_⟩
    ·rcases zN.1 e with rfl | e
     ·exact g
     ·exact j x e
    ·simp only[jm,i,zx];congr 1;omega
theorem uk (p:A->Bool)(l:List A):(dP p l= -1/\∀a∈l,p a=false)\/∃(u:List A) (a:A) (v:List A),l=u++a::v/\p a=true/\(∀x∈u,p x=false)/\dP p l=↑u.length:=by
 have:=S_ p l 0;unfold dP;simpa only[zM]using this
theorem kU (p:A->Bool)(l:List A):dP p l < l.length/\ -1<=dP p l:=by
 rcases uk p l with⟨h,_⟩ | ⟨u,a,v,rfl,_,_,h⟩
 ·rw[h];omega
 ·rw[h];simp;omega
theorem anN (p:A->Bool)(l:List A)(d:A)(h:0<=dP p l):p (l.getD (dP p l).toNat d)=true:=by
 rcases uk p l with⟨b,_⟩ | ⟨u,a,v,rfl,c,_,b⟩
 ·omega
 ·rw[b,uZ];simpa[List.getD]using c
theorem aaS {b c:Nat->A->Y->Y⊕R}{f e:Nat->Y->R}:∀(l:List A) (k:Nat) (y:Y),(∀j a y,k<=j->j < k+l.length->b j a y=c j a y)->(∀y,f (k+l.length) y=e (k+l.length) y)->jZ b f l k y=jZ c e l k y
 | [],k,y,_,h=>h y
 | a::l,k,y,d,g=>by
  unfold jZ;rw[d k a y (rC _) kM];cases c k a y with
  | inl i=>exact aaS l (k+1) i (fun j a y n m=>d j a y au (by simp only[zx];omega)) (fun y=>by have:=g y;rwa [show k+(a::l).length=k+1+l.length by simp only[zx];omega]at this)
  | inr r=>rfl
theorem abV (g:Y->A->Y)(f:Nat->Y->R):∀(l:List A) (k:Nat) (y:Y),jZ (fun _ a y=> .inl (g y a)) f l k y=f (k+l.length) (l.foldl g y)
 | [],k,y=>rfl
 | a::l,k,y=>by
  have:=abV g f l (k+1) (g y a);show jZ (fun _ a y=> .inl (g y a)) f l (k+1) (g y a)=_
  rw[this];simp only[zx,Qde];congr 1;omega
theorem Oe {X:Type}{step:X->X⊕R}{f:R}(I:X->Prop)(b:X->Nat)(Q:R->Prop)(e:∀x,I x->(∃a,step x= .inl a/\I a/\b a < b x)\/∃r,step x= .inr r/\Q r):∀(n:Nat) (x:X),I x->b x < n->Q (JE step f n x)
 | 0,x,_,h=>by omega
 | n+1,x,g,h=>by
  unfold JE;rcases e x g with⟨a,d,c,i⟩ | ⟨r,d,c⟩
  ·rw[d];exact Oe I b Q e n a c au
  ·rw[d];exact c
theorem Zh (p:A->Bool):∀(u:List A) (a:A) (v:List A) (k:Nat),(∀x∈u,p x=false)->p a=true->nZ p (u++a::v) k=↑(k+u.length)
 | [],a,v,k,_,h=>by simp[nZ,h]
 | x::u,a,v,k,b,h=>by
  simp only[Qb1,nZ,b x kM,jm];rw[Zh p u a v (k+1) (fun y c=>b y (by simp[c])) h];simp only[zx];congr 1;omega
theorem avz (p:A->Bool)(u:List A)(a:A)(v:List A)(b:∀x∈u,p x=false)(h:p a=true):dP p (u++a::v)=↑u.length:=by
 have:=Zh p u a v 0 b h;rwa [zM]at this
theorem getD_mem {l:List A}{i:Nat}{d:A}(h:i < l.length):l.getD i d∈l:=by
 rw[getD_some h];exact Qea h
theorem ar6 (b:Int->Y->Y⊕R)(f:Int->Y->R)(n:Nat)(i:Int)(y:Y):oq b f (n+1) i y=thenS (b i y) (oq b f n (i+1)):=by
 unfold oq thenS;cases b i y<;>rfl
theorem Iw (b:Int->Unit->Unit⊕R)(f:Int->Unit->R)(n:Nat)(i:Int):oq b f (n+1) i ()=thenS (b i ()) fun _=>oq b f n (i+1) ():=
 (ar6 b f n i ()).trans (Ll (thenS (b i ())) (funext fun u=>rfl))
theorem QJ (b:Int->Y->Y⊕R)(f:Int->Y->R)(i:Int)(y:Y):oq b f 0 i y=f i y:=rfl
theorem akS {X:Type}(c:Bool)(a b:X⊕R)(k:X->R):thenS (cond c a b) k=cond c (thenS a k) (thenS b k):=by cases c<;>rfl
end
end Go.Vc
namespace Go.Vc
section
variable {R A X Y:Type}
def kw (t:Pg R)(Q:R->Prop):Prop:=Is t/\Q t.val
theorem kw.is {t:Pg R}{Q:R->Prop}(h:kw t Q):Is t:=h.1
theorem ai {Q:R->Prop}{r:R}(h:Q r):kw (.ret r) Q:=⟨aZ,h⟩
theorem aj {Q:R->Prop}{p:Prop}{k:Pg R}(b:p)(a:kw k Q):kw (.ob p k) Q:=⟨bM b a.1,a.2⟩
theorem aX {Q:R->Prop}{i:Int}{n:Nat}{k:Pg R}(c:0<=i)(a:i < ↑n)(b:kw k Q):kw (.ix i n k) Q:=aj ⟨c,a⟩ b
theorem fD {Q:R->Prop}{p:Prop}{k:Pg R}(a:kw k Q):kw (.as p k) Q:=⟨jH fun _=>a.1,a.2⟩
theorem dL {Q:R->Prop}{b:Bool}{t e:Pg R}(c:b=true->kw t Q)(a:b=false->kw e Q):kw (.br b t e) Q:=
 ⟨aS (fun h=>(c h).1) (fun h=>(a h).1),by
  cases b with
  | true=>exact(c rfl).2
  | false=>exact(a rfl).2⟩
theorem bQ {Q:R->Prop}{p:Prop}{a:Decidable p}{t e:Pg R}(c:p->kw t Q)(b:¬p->kw e Q):kw (.br (@decide p a) t e) Q:=
 dL (fun h=>c (EU h)) (fun h=>b (Qbm h))
theorem dR {Q:R->Prop}{a b:A}[h:BEq A][f:LawfulBEq A]{t e:Pg R}(d:a=b->kw t Q)(c:¬a=b->kw e Q):kw (.br (a==b) t e) Q:=
 dL (fun h=>d qbr) (fun h=>c qbr)
theorem dY {Q:R->Prop}{a b:A}[h:BEq A][f:LawfulBEq A]{t e:Pg R}(d:¬a=b->kw t Q)(c:a=b->kw e Q):kw (.br (a !=b) t e) Q:=
 dL (fun h=>d qbr) (fun h=>c qbr)
theorem aI {Q:R->Prop}{v:A}{k:A->Pg R}(h:∀x,x=v->kw (k x) Q):kw (.lt v k) Q:=h v rfl
theorem sH {Q:R->Prop}{n:Int}{k:Int->Pg R}(h:∀x,x=bJ .i64 n->(-9223372036854775808<=n/\n<=9223372036854775807->x=n)->kw (k x) Q):kw (.lt (bJ .i64 n) k) Q:=
 h _ rfl fun a=>bY (k:= .i64) a
theorem bP {Q:R->Prop}(d:X->Prop){a:Pg (X⊕R)}{k:X->Pg R}(c:kw a (Sum.elim d Q))(f:∀x,d x->kw (k x) Q):kw (.cut k a) Q:=by
 have b:∀x,a.val= .inl x->d x:=fun x e=>by
  have:=c.2
  grind
 refine⟨lK c.1 fun x e=>(f x (b x e)).1,?_⟩;rw[gz];have h:=c.2;cases g:a.val with
 | inl x=>exact(f x (b x g)).2
 | inr r=>simp_all
theorem IR {b:Nat->A->Y->Y⊕R}{f:Nat->Y->R}{d:A}{Q:R->Prop}(I:Nat->Y->Prop):∀(l:List A) (k:Nat) (y:Y),I k y->(∀j y,j < l.length->I (k+j) y->Sum.elim (I (k+j+1)) Q (b (k+j) (l.getD j d) y))->(∀y,I (k+l.length) y->Q (f (k+l.length) y))->Q (jZ b f l k y)
 | [],k,y,g,_,i=>i y g
 | a::l,k,y,g,h,i=>by
  unfold jZ;have c:=h 0 y kM g;have e:(a::l).getD 0 d=a:=rfl;rw[e]at c;simp only[Qb]at c;cases m:b k a y with
  | inr r=>grind
  | inl o=>
   rw[m]at c;refine IR (d:=d) I l (k+1) o c (fun j z p n=> ?_) (fun z n=> ?_)
   ·have:=h (j+1) z xI qg
    grind
   grind
theorem dA {Q:R->Prop}{h:Bool}{s:Ix X Y}{l:List A}{d:A}{a:Int->A->Y->Pg (Y⊕R)}{c:Int->Y->Pg R}{y:Y}(I:Nat->Y->Prop)(i:I 0 y)(o:l.length<=9223372036854775807)
  (e:∀(k:Nat) (y:Y),k < l.length->I k y->kw (a ↑k (l.getD k d) y) (Sum.elim (I (k+1)) Q)) (g:∀y,I l.length y->kw (c ↑l.length y) Q):kw (.each h s l d a c y) Q:=by
 refine⟨Dc I i (.inr o) (fun k y m _ f=>⟨(e k y m f).1,fun p q=> ?_⟩) (fun y _ h=>(g y h).1),?_⟩
 ·have:=(e k y m f).2
  grind
 ·rw[fM];refine IR (d:=d) I l 0 y i (fun j y n b=> ?_) (fun y b=> ?_)
  ·rw[zM]at b⊢;exact(e j y n b).2
  ·rw[zM]at b⊢;exact(g y b).2
theorem QN {Q:R->Prop}{f:List Prop}{h:Bool}{s:Ix X Y}{l:List A}{d:A}{a:Int->A->Y->Pg (Y⊕R)}{b:Int->Y->Pg R}{y:Y}(I:Nat->Y->Prop)(i:I 0 y)(n:ahz f)(m:l.length<=9223372036854775807)
  (c:∀(k:Nat) (y:Y),k < l.length->I k y->kw (a ↑k (l.getD k d) y) (Sum.elim (I (k+1)) Q)) (g:∀y,I l.length y->kw (b ↑l.length y) Q):kw (.Hr f h s l d a b y) Q:=by
 have:=dA (h:=h) (s:=s) I i m c g;refine⟨acl I i n (.inr m) (fun k y j _ e=>⟨(c k y j e).1,fun p o=> ?_⟩) (fun y _ h=>(g y h).1),this.2⟩;have:=(c k y j e).2
 grind
theorem Iz {b:Int->Y->Y⊕R}{f:Int->Y->R}{Q:R->Prop}(I:Int->Y->Prop)(e:Int):∀(n:Nat) (i:Int) (y:Y),(e - i).toNat=n->I i y->(∀i y,i < e->I i y->Sum.elim (I (i+1)) Q (b i y))->(∀i y,e<=i->I i y->Q (f i y))->Q (oq b f n i y)
 | 0,i,y,k,a,_,c=>c i y au a
 | n+1,i,y,k,a,d,c=>by
  unfold oq;have g:=d i y au a;cases h:b i y with
  | inr r=>grind
  | inl j=>rw[h]at g;exact Iz I e n (i+1) j au g d c
theorem yl {Q:R->Prop}{s:Ix X Y}{a b:Int}{e:Int->Y->Pg (Y⊕R)}{g:Int->Y->Pg R}{y:Y}(I:Int->Y->Prop)(l:I a y)(o: -9223372036854775808<=a)(n:b<=9223372036854775807)
  (j:∀(i:Int) (y:Y),a<=i->i < b->I i y->kw (e i y) (Sum.elim (I (i+1)) Q)) (k:∀i y,a<=i->b<=i->I i y->kw (g i y) Q):kw (.cnt s a b e g y) Q:=by
 refine⟨NH I l o n (fun i y d f c=>⟨(j i y d f c).1,fun m q=> ?_⟩) (fun i y d f h=>(k i y d f h).1),?_⟩
 ·have:=(j i y d f c).2
  grind
 ·rw[qx];refine Iz (fun i y=>a<=i/\I i y) b _ a y rfl ⟨ZU _,l⟩ (fun i y d c=> ?_) (fun i y d c=>(k i y c.1 d c.2).2);have:=(j i y c.1 d c.2).2;cases p:(e i y).val with
  | inr r=>grind
  | inl m=>grind
theorem qJ {Q:R->Prop}{n:Nat}{g:R}{step:X->Pg (X⊕R)}{x:X}(I:X->Prop)(a:X->Nat)(e:I x)(f:a x < n)
  (d:∀x,I x->kw (step x) (Sum.elim (fun b=>I b/\a b < a x) Q)):kw (.wh n g step x) Q:=by
 refine⟨L_ I a e f fun x c=>⟨(d x c).1,fun b h=> ?_⟩,?_⟩
 ·have:=(d x c).2
  grind
 ·rw[sS];refine Oe I a Q (fun x c=> ?_) n x e f;have:=(d x c).2;cases i:(step x).val with
  | inl b=>grind
  | inr r=>grind
end
end Go.Vc
namespace Go.Vc
open Go.RowKit Go.ChangeShapes Go.WideShapes Go.ChangeAt Go.Joins
structure Sz (P:Program) where
 M:{H:Type}->TypeId->DataW H->Nat->Prop
 str:∀{H:Type} {t:TypeId} {s:List UInt8} {n:Nat},M (H:=H) t (.lit (.string s)) n->s.length<=n
 sl:∀{H:Type} {t e:TypeId} {el sp:List (DataW H)} {n:Nat},P.underlying t=some (.slice e)->1<=P.bytesOf e->M t (.slice el sp) n->el.length<=n/\∀d∈el,M e d n
 st:∀{H:Type} {t:TypeId} {fs:Array Field} {ps:List (DataW H)} {n:Nat},P.underlying t=some (.struct fs)->M t (.agg ps) n->∀(i:Nat) (f:Field) (p:DataW H),fs[i]? =some f->ps[i]? =some p->M f.type p n
section
variable {D α β:Type}{S:Sh D}{P:Program}{Z:Sz P}{F:Nat}
def gU (F:Nat)(P:Program)(S:Sh D)(Z:Sz P)(t:TypeId)(c:kF D α)(f:Nat->α->Prop):Prop:=
 ∀{H:Type} {enc:TypeId×Value->H} {w:World} {e:Nat} {d:Nat->Bool} {g:Bool} {b:Nat} {cs:List Value} {x:DataW H×List MemPlace},
  b < F->DataW.trod enc P w e d g b t cs=some x->∃a,bf S NoN w noG (c.enc a) cs/\∀n,Z.M t x.1 n->f n a
theorem jO {t:TypeId}{c:kF D α}{b:α->Prop}(h:aos P S t c b):gU F P S Z t c fun _ a=>b a:=by
 intro H enc w e d g i cs x _ f;obtain⟨a,k,j⟩:=h f
 grind
theorem Gv {t:TypeId}{c:kF D α}{d b:Nat->α->Prop}(h:gU F P S Z t c d)(m:∀n a,d n a->b n a):gU F P S Z t c b:=by
 intro H enc w f e i k cs x j g;obtain⟨a,o,l⟩:=h j g
 grind
theorem YQ {t:TypeId}{c:kF D α}{a:Nat->α->Prop}:gU 0 P S Z t c a:=by
 intro H enc w d b e f cs x g;omega
theorem jo {t:TypeId}(d:P.underlying t=some .string):gU F P S Z t cStr fun n s=>s.length<=n:=by
 intro H enc w g f i k cs x _ c;obtain⟨a,b,l⟩:=ary (S:=S) d c;obtain⟨s,j,h,_⟩:=DataW.trod_string d c;refine⟨a,b,fun n e=> ?_⟩;rw[h]at e;have:=Z.str e;rw[j]at b;have b:Value.string s= .string ⟨a.toArray⟩/\_:=b.1
 grind
def LW (F:Nat)(P:Program)(S:Sh D)(Z:Sz P)(k:List Field)(d:Nat)(c:kF D α)(g:Nat->α->Prop):Prop:=
 ∀{H:Type} {enc:TypeId×Value->H} {w:World} {e:Nat} {b:Nat->Bool} {h:Bool} {m:Nat} {cs:List Value} (j:List (DataW H)),m < F->
  (∀(i:Nat) (f:Field),k[i]? =some f->∃x:DataW H×List MemPlace,DataW.trod enc P w e b h m f.type ((cs.drop f.offset).take (P.cellsOf f.type))=some x/\j[i]? =some x.1)->cs.length=d+c.n->
  ∃a,bf S NoN w noG (c.enc a) (cs.drop d)/\∀n,(∀(i:Nat) (f:Field) (p:DataW H),k[i]? =some f->j[i]? =some p->Z.M f.type p n)->g n a
theorem iQ {f:Field}{d:Nat}{c:kF D α}{b:Nat->α->Prop}(i:f.offset=d)(o:P.cellsOf f.type=c.n)(h:gU F P S Z f.type c b):LW F P S Z [f] d c b:=by
 intro H enc w k g l m cs q n j t;obtain⟨x,e,r⟩:=j 0 f rfl;rw[i,o,Qcz xI]at e;obtain⟨a,s,p⟩:=h n e
 grind
theorem bD {f:Field}{t:List Field}{k:Nat}{c:kF D α}{d:kF D β}{g:Nat->α->Prop}{e:Nat->β->Prop}(C:f.offset=k)(N:P.cellsOf f.type=c.n)(h:gU F P S Z f.type c g)(I:LW F P S Z t (k+c.n) d e):
  LW F P S Z (f::t) k (dM c d) fun n p=>g n p.1/\e n p.2:=by
 intro H enc w J z K m cs E v s L;obtain⟨x,o,G⟩:=s 0 f rfl;rw[C,N]at o;obtain⟨a,M,u⟩:=h v o;obtain⟨b,A,r⟩:=I (E.drop 1) v (fun i l j=>by
  obtain⟨y,B,Q⟩:=s (i+1) l (by simpa using j);exact⟨y,B,by grind⟩) (by simp only[dM]at L;omega)
 refine⟨(a,b),?_,fun n q=>⟨u n (q 0 f x.1 rfl G),r n fun i l p j O=>q (i+1) l p (by simpa using j) qg⟩⟩;have:=bf.app M A;rw[<-List.drop_drop,Qbf]at this;exact this
theorem uO {t:TypeId}{l:Array Field}{c:kF D α}{d:Nat->α->Prop}{f:α->β}{g:β->α}(q:P.underlying t=some (.struct l))(O:P.cellsOf t=c.n)(u:∀a,g (f a)=a)(h:LW F P S Z l.toList 0 c d):
  gU (F+1) P S Z t (rH c f g) fun n b=>d n (g b):=by
 intro H enc w E z G I cs x N A;obtain⟨o,m,M,s,L,J,B⟩:=DataW.trod_struct q A;obtain⟨a,K,v⟩:=h (m:=m) (cs:=cs) (o.map (·.1)) au (fun i j e=>by
  have y:l[i]? =some j:=by simpa using e
  have k:i < o.length:=by grind
  exact⟨o[i],by rw[B i j y];simp[k],by simp[k]⟩) au
 refine⟨f a,by simp only[rH,u];simpa using K,fun n r=> ?_⟩;show d n (g (f a))
 rw[u];rw[s]at r;exact v n fun i j p e C=>Z.st q r i j p (by simpa using e) C
theorem gU.mono {b:Nat}{t:TypeId}{c:kF D α}{a:Nat->α->Prop}(h:gU F P S Z t c a)(k:b<=F):gU b P S Z t c a:=by
 intro H enc w e d g i cs x j f;exact h au f
theorem iJ {t:TypeId}{e:Array Field}{c:kF D α}{d:Nat->α->Prop}{f:α->β}{g:β->α}(j:P.underlying t=some (.struct e))(q:P.cellsOf t=c.n)(o:∀a,g (f a)=a)(h:LW F P S Z e.toList 0 c d):
  gU F P S Z t (rH c f g) fun n b=>d n (g b):=by
 intro H enc w l i m p cs x r k;exact uO j q o h au k
theorem jk {t e:TypeId}{b:kF D α}{k:Nat->α->Prop}{f:List α->D}{QV:D->Option (List α)}{dflt:α}(J:P.underlying t=some (.slice e))(R:1<=P.bytesOf e)(hn:P.cellsOf e=b.n)(s:dK S b)(h:gU F P S Z e b k)
  (T:∀l,S.size (f l)=b.n) (v:∀l,S.len (f l)=l.length) (W:∀l i j,S.cell (f l) i j=(b.enc (l.getD i dflt)).getD j .any) (O:∀l,S.mp (f l)=none:=by intro _;rfl):
  gU F P S Z t (x8 f QV []) fun n l=>l.length<=n/\∀a∈l,k n a:=by
 intro H enc w E X held fuel cs x hF hx;rcases DataW.trod_slice J hx with⟨rfl,_⟩ | ⟨z,r,cap,q,Y,m,hfm,rfl,N,hb,hl,hm,hlen,Q,_,_⟩
 ·refine⟨[],⟨?_,trivial⟩,fun n _=>⟨by simp,fun a C=>by simp at C⟩⟩;have hz:S.len (f [])=0:=v [];intro w' _;have:=Fp.mk (S:=S) (w:=w') (f []) (O []) none 0 (fun _ _=> .bool false) au au (fun i j c _=>by omega) (fun i j c _=>by omega) (fun i j _ c _=>by omega)
  grind
 ·have G:∀i,i < r->∃a,(∃B,w.cells? E (z.add (i*b.n)) b.n=some B/\bf S NoN w noG (b.enc a) B)/\∀n,(∀y,q[i]? =some y->Z.M e y.1 n)->k n a:=by
   intro i c;have:=Q i c;have p:i < q.length:=by omega
   rw[Qav p,hn,Option.bind_eq_some_iff]at this;obtain⟨B,I,hy⟩:=this;obtain⟨a,C,hga⟩:=h au hy
   grind
  obtain⟨l,K,hq⟩:=agV r G;refine⟨l,⟨?_,trivial⟩,fun n M=> ?_⟩
  ·have key:∀i j,i < l.length->j < b.n->∃u,w.cell? (z.add (i*b.n+j))=some u/\((b.enc (l.getD i dflt)).getD j .any).Rel S NoN w noG u/\((b.enc (l.getD i dflt)).getD j .any).jY=true:=by
    intro i j c g;obtain⟨⟨B,I,o⟩,_⟩:=hq i c;obtain⟨_,hvl,A⟩:=World.cells?_some I;rw[getD_some c];obtain⟨u,hu,V⟩:=o.getD' (j:=j) (by rw[s.len];exact g);have:=A j g;rw[add_add',hu]at this;refine⟨u,this,V,?_⟩;have p:j < (b.enc l[i]).length:=by rw[s.len];exact g
    rw[getD_some p];exact s.data _ _ (Qea p)
   have U:∀i j,∃u,i < l.length->j < b.n->w.cell? (z.add (i*b.n+j))=some u/\((b.enc (l.getD i dflt)).getD j .any).Rel S NoN w noG u/\((b.enc (l.getD i dflt)).getD j .any).jY=true:=by
    intro i j;by_cases c:i < l.length
    ·by_cases g:j < b.n
     ·grind
     ·exact⟨undef,fun _ h=>absurd h g⟩
    ·exact⟨undef,fun h=>absurd h c⟩
   have:=ais (S:=S) (w:=w) (d:=f l) (a:=some z) (n:=r) (cap:=cap) (by rw[v,K]) hl (by unfold maxLen at hm;omega) (fun i j=>Classical.choose (U i j)) (fun i j c g=> ?_) (fun i j c g=> ?_) (fun i j d' c g L=> ?_)
   ·exact this (O l)
   ·grind
   ·rw[v]at c;rw[T]at g;rw[W l i j];obtain⟨_,o,hd⟩:=Qcp (U i j) c g;exact(KX (w':=w) hd o (fun _ _ _=>rfl)).1
   ·rw[v]at c;rw[T]at g;rw[W l i j]at L;have o:=(Qcp (U i j) c g).2.1;generalize Classical.choose (U i j)=u at o⊢;rw[L]at o;exact o
  ·rw[N]at M;obtain⟨k1,k2⟩:=Z.sl J R M;refine⟨by grind,fun a C=> ?_⟩;obtain⟨i,c,rfl⟩:=Qds C
   grind
def alu (P:Program)(S:Sh D)(Z:Sz P)(t:TypeId)(c:Arg D α)(e:Nat->α->Prop):Prop:=
 ∀{H:Type} {enc:TypeId×Value->H} {w:World} {r:Reach} {b:Nat} {v:Value} {d:DataW H} {f:List MemPlace},Value.okWide P w r b t v->DataW.Trod enc P w 0 (fun _=>true) true t v d f->∃a,(c.enc a).Rel S NoN w noG v/\∀n,Z.M t d n->e n a
theorem X9 {t:TypeId}{m:Array Field}{c:kF D α}{e:Nat->α->Prop}(l:P.underlying t=some (.struct m))(h:∀F,gU F P S Z t c e):alu P S Z t (aQ c) e:=by
 intro H enc w r g v d o b j;obtain⟨f,k⟩:=j;simp only[Value.okWide,l]at b;obtain⟨cs,rfl,_⟩:=b;obtain⟨a,i,n⟩:=h (f+1) (Qdp _) k;exact⟨a,⟨cs.toList,by simp,by simpa[Value.cells]using i⟩,n⟩
def adq (P:Program)(S:Sh D)(Z:Sz P)(g:List TypeId)(c:zQ D α)(f:Nat->α->Prop):Prop:=
 ∀{H:Type} {enc:TypeId×Value->H} {w:World} {r:Reach} {b:Nat} {e:List Value} {h:List (DataW H)} {i:List MemPlace},(∀(j:Nat) t v,g[j]? =some t->e[j]? =some v->Value.okWide P w r b t v)->
  DataW.TrodAll enc P w 0 (fun _=>true) true g e h i->∃a,ik S NoN w noG (c.enc a) e/\∀n,(∀(j:Nat) t d,g[j]? =some t->h[j]? =some d->Z.M t d n)->f n a
theorem asX {t:TypeId}{c:Arg D α}{b:Nat->α->Prop}(h:alu P S Z t c b):adq P S Z [t] (a1 c) b:=by
 intro H enc w r i y u x e j;obtain⟨v,s,d,o,p,q,rfl,rfl,rfl,l,f⟩:=trodAll_cons j;obtain⟨rfl,rfl,rfl⟩:=trodAll_nil f;obtain⟨a,m,k⟩:=h (e 0 t v rfl rfl) l;exact⟨a,⟨m,trivial⟩,fun n g=>k n (g 0 t d rfl rfl)⟩
theorem ag2 {t:TypeId}{o:List TypeId}{c:Arg D α}{r:zQ D β}{f:Nat->α->Prop}{e:Nat->β->Prop}(h:alu P S Z t c f)(F:adq P S Z o r e):adq P S Z (t::o) (ax c r) fun n p=>f n p.1/\e n p.2:=by
 intro H enc w r z L J K g A;obtain⟨v,I,d,G,p,q,rfl,rfl,rfl,h1,k⟩:=trodAll_cons A;obtain⟨a,E,B⟩:=h (g 0 t v rfl rfl) h1;obtain⟨b,s,m⟩:=F (fun j i C h1 k=>g (j+1) i C qcg (by simpa using k)) k;exact⟨(a,b),⟨E,s⟩,fun n l=>⟨B n (l 0 t d rfl rfl),m n fun j i u x y=>l (j+1) i u (by simpa using x) (by simpa using y)⟩⟩
theorem ak8 {f:FuncId}{c:zQ D α}{i:α->Option Prop}{m:Nat->α->Prop}{ts:List TypeId}(n:Nat)(C:fK P S f (xK (args c) auz 1 [] i (fun _=>true)))(s:∀a,c.dec (c.enc a)=some a)(o:adq P S Z ts c m)
  (q:∀a,m n a->tN (i a)) {H:Type} {B:TypeId×Value->H} {w:World} {r:Reach} {u:Nat} {vs:List Value} {z:List (DataW H)} {G:List MemPlace}
  (N:afD S NoN w) (F:∀(j:Nat) t d,ts[j]? =some t->z[j]? =some d->Z.M t d n) (x:∀(j:Nat) t v,ts[j]? =some t->vs[j]? =some v->Value.okWide P w r u t v) (J:DataW.TrodAll B P w 0 (fun _=>true) true ts vs z G):
  Calls P f vs.toArray w fun e y=>e= .returned (.bool true)/\Below w.heap.size w y:=by
 obtain⟨a,T,K⟩:=o x J;have A:=q a (K n F);have M:aY NoN (lQ ([]:List (Bk D))) noG=NoN:=by
  funext b;simp[aY,lQ,hot]
 have I:Hp S ⟨w,fun _=>False⟩ NoN (lQ ([]:List (Bk D))) noG (· < ([]:List (Bk D)).length) w:=
  ⟨BH.refl ⟨w,fun _=>False⟩,fun b E=>E.elim,fun l O h=>by simp[lQ]at h,fun l R v Q b h=>by simp[lQ,hot]at h,fun l v h=>by simp[noG]at h,fun l v h=>by simp[noG]at h,by grind⟩
 refine(C.calls (fun _=>False) NoN noG w vs (c.enc a) [] ((i a).map dq) (.one (.lf (.bool true))) [] [] I qg ?_ (Gj.2 A)).mono ?_
 ·show xK (args c) auz 1 [] i (fun _=>true) (c.enc a) []=_
  unfold xK;have:(args c).dec (c.enc a) []=some a:=s a;rw[this];rfl
 ·rintro e y ⟨v,g',rfl,_,g,p⟩;have p:v= .bool true:=p;exact⟨by rw[p],⟨g.below.os,g.below.tape,g.below.output,g.below.size,fun k L=>g.below.block k L (fun h=>h)⟩⟩
end
end Go.Vc
namespace Go.Vc
open Go.RowKit
theorem kr {p:Prop}(h:p:=by kernel_rfl):p:=h
theorem iR {A:Sort _}{R:Type}{r:R}:A->Is (.ret r):=fun _=>aZ
theorem isA {R:Type}{t:Pg R}(h:Is t:=by
 repeat' first
  | exact aZ
  | exact FZ (dw au au)
  | refine mO (fun _ _ _=> ?_)
  | refine dm (fun _ _=> ?_)
  | refine jH (fun _=> ?_)
  | refine dJ au au ?_
  | refine bn (fun _=> ?_) (fun _=> ?_)
  | refine bK (fun _=> ?_) (fun _=> ?_)
  | refine gQ (fun _=> ?_) (fun _=> ?_)
  | refine aS (fun _=> ?_) (fun _=> ?_)
  | refine bM (by first | assumption | omega | decide | exact dw au au | exact And.intro rfl (by assumption)) ?_
  | refine lK ?_ (fun _ _=> ?_)
  | refine jG (.inr au) (fun _ _ _ _=> ?_) (fun _ _=> ?_)
  | refine Yl au au (fun _ _ _ _ _=> ?_) (fun _ _=> ?_)):Is t:=h
abbrev cI {D:Type}:kF D Int:=gW .i64
abbrev s0 (n:Nat):It:= .slot n false [none]
abbrev nn (n:Nat):List (Option TypeId):=List.replicate n none
abbrev R1 {D A:Type}(c:kF D A):FT D:=shr [.slot 0 false [none]] (l1 c)
abbrev rl {X R:Type}(x:X):Pg (X⊕R):= .ret (.inl x)
abbrev u2 {A B:Type}{R:Sort _}(f:A->B->R):A×B->R:=fun a=>f a.1 a.2
abbrev u3 {A B C:Type}{R:Sort _}(f:A->B->C->R):A×B×C->R:=fun a=>f a.1 a.2.1 a.2.2
abbrev u4 {A B C E:Type}{R:Sort _}(f:A->B->C->E->R):A×B×C×E->R:=fun a=>f a.1 a.2.1 a.2.2.1 a.2.2.2
abbrev u11 {A B U:Type}{R:Sort _}(f:A->B->R):(A×U)×B->R:=fun a=>f a.1.1 a.2
abbrev aL {A R:Type}(l:List A)(k:Pg R):Pg R:= .as (l.length<=9223372036854775807) k
section
variable {D:Type}{Z:Seat D}{α β:Type}
noncomputable def E0 (i:List (bT Z))(J:List (Sh1 Z.S))(c:zQ D α){m:Nat}[s:n_ Z.S m c](g:FT D)[r:rD Z.S g](d:List Nat){f:FuncId}{b:Func}(p:Z.P.funcs[f]? =some b)(k:Nat)(F:α->Pg g.X)
  (l:∀a,Is (F a):=by intro a;exact isA) (q:Nat.ble m b.ntmps=true:=by kernel_rfl) (n:y_ b=true:=by kernel_rfl) (o:b.results.toList.length=k:=by kernel_rfl) (j:∀a e,tN none->(F a).run e=(yV Z (Gq i) (jL J) (args c) g 0 d b b.ntmps a).run e:=by intro a e _;kernel_rfl):bT Z:=
 yQ Z i J (args c) (oP q) g d p rfl n k o F (fun _=>none) (fun a e h=>j a e h) (fun a=>(F a).val) fun a _=>⟨l a,rfl⟩
noncomputable def UH (j:List (bT Z))(J:List (Sh1 Z.S))(c:zQ D α)(b:Lc D β){m l:Nat}[u:n_ Z.S m c][v:uX Z.S l b](i:FT D)[t:rD Z.S i](g:List Nat){f:FuncId}{d:Func}(p:Z.P.funcs[f]? =some d)(k:Nat)(F:α×β->Pg i.X)
  (o:∀a,Is (F a):=by intro a;exact isA) (s:Nat.ble m d.ntmps=true:=by kernel_rfl) (q:y_ d=true:=by kernel_rfl) (r:d.results.toList.length=k:=by kernel_rfl) (n:∀a e,tN none->(F a).run e=(yV Z (Gq j) (jL J) (lH c b) i l g d d.ntmps a).run e:=by intro a e _;kernel_rfl):bT Z:=
 yQ Z j J (lH c b) (tJ s) i g p rfl q k r F (fun _=>none) (fun a e h=>n a e h) (fun a=>(F a).val) fun a _=>⟨o a,rfl⟩
noncomputable def E1 (j:List (bT Z))(J:List (Sh1 Z.S))(c:zQ D α){m:Nat}[t:n_ Z.S m c](i:FT D)[s:rD Z.S i](g:List Nat){f:FuncId}{b:Func}(q:Z.P.funcs[f]? =some b)(k:Nat)(F:α->Pg i.X)(d:α->Prop)
  (n:∀a,d a->Is (F a):=by intro a h;exact isA) (r:Nat.ble m b.ntmps=true:=by kernel_rfl) (o:y_ b=true:=by kernel_rfl) (p:b.results.toList.length=k:=by kernel_rfl) (l:∀a e,d a->(F a).run e=(yV Z (Gq j) (jL J) (args c) i 0 g b b.ntmps a).run e:=by intro a e _;kernel_rfl):bT Z:=
 yQ Z j J (args c) (oP r) i g q rfl o k p F (fun a=>some (d a)) (fun a e h=>l a e h) (fun a=>(F a).val) fun a h=>⟨n a h,rfl⟩
noncomputable def E1B (n:List (bT Z))(J:List (Sh1 Z.S))(c:zQ D α)(b:Lc D β){m l:Nat}[v:n_ Z.S m c][w:uX Z.S l b](j:FT D)[u:rD Z.S j](i:List Nat){f:FuncId}{d:Func}(q:Z.P.funcs[f]? =some d)(k:Nat)(F:α×β->Pg j.X)(g:α×β->Prop)
  (p:∀a,g a->Is (F a):=by intro a h;exact isA) (t:Nat.ble m d.ntmps=true:=by kernel_rfl) (r:y_ d=true:=by kernel_rfl) (s:d.results.toList.length=k:=by kernel_rfl) (o:∀a e,g a->(F a).run e=(yV Z (Gq n) (jL J) (lH c b) j l i d d.ntmps a).run e:=by intro a e _;kernel_rfl):bT Z:=
 yQ Z n J (lH c b) (tJ t) j i q rfl r k s F (fun a=>some (g a)) (fun a e h=>o a e h) (fun a=>(F a).val) fun a h=>⟨p a h,rfl⟩
noncomputable def E2 (i:List (bT Z))(J:List (Sh1 Z.S))(c:zQ D α){m:Nat}[t:n_ Z.S m c](h:FT D)[s:rD Z.S h](g:List Nat){f:FuncId}{b:Func}(o:Z.P.funcs[f]? =some b)(k:Nat)(F:α->Pg h.X)(d:α->Option Prop)(l:α->h.X)
  (n:∀a,tN (d a)->Is (F a)/\(F a).val=l a) (r:Nat.ble m b.ntmps=true:=by kernel_rfl) (p:y_ b=true:=by kernel_rfl) (q:b.results.toList.length=k:=by kernel_rfl) (j:∀a e,tN (d a)->(F a).run e=(yV Z (Gq i) (jL J) (args c) h 0 g b b.ntmps a).run e:=by intro a e _;kernel_rfl):bT Z:=
 yQ Z i J (args c) (oP r) h g o rfl p k q F d j l n
noncomputable def E2B (j:List (bT Z))(J:List (Sh1 Z.S))(c:zQ D α)(b:Lc D β){m l:Nat}[v:n_ Z.S m c][w:uX Z.S l b](i:FT D)[u:rD Z.S i](h:List Nat){f:FuncId}{d:Func}(q:Z.P.funcs[f]? =some d)(k:Nat)(F:α×β->Pg i.X)(g:α×β->Option Prop)(o:α×β->i.X)
  (p:∀a,tN (g a)->Is (F a)/\(F a).val=o a) (t:Nat.ble m d.ntmps=true:=by kernel_rfl) (r:y_ d=true:=by kernel_rfl) (s:d.results.toList.length=k:=by kernel_rfl) (n:∀a e,tN (g a)->(F a).run e=(yV Z (Gq j) (jL J) (lH c b) i l h d d.ntmps a).run e:=by intro a e _;kernel_rfl):bT Z:=
 yQ Z j J (lH c b) (tJ t) i h q rfl r k s F g n o p
abbrev apO {A:Type}(l:List A)(d:A)(p:A->Bool):Pg Int:=aL l (.each false Ec l d (fun i a (_:Unit)=> .ix i l.length (.br (p a) (.ret (.inr i)) (.ret (.inl ())))) (fun _ _=> .ret (-1)) ())
theorem aoi {A:Type}(l:List A)(d:A)(p:A->Bool):Is (apO l d p)/\(apO l d p).val=dP p l:=⟨isA,yc p l 0⟩
abbrev apP {A:Type}(l:List A)(p:A->Bool):Pg Bool:= .lt (dP p l) fun v=> .ret (decide (0<=v))
theorem anJ {A:Type}(l:List A)(p:A->Bool):Is (apP l p)/\(apP l p).val=l.any p:=⟨isA,by
 show decide (0<=dP p l)=l.any p
 rcases uk p l with⟨h,k⟩ | ⟨u,a,v,rfl,c,d,h⟩
 ·rw[h,jF au];exact(Qc5.2 fun x b=>by rw[k x b];simp).symm
 ·rw[h,jK au];simp[c]⟩
abbrev jX {S:Sh D}:List (Sh1 S):=[jS 2 (dh (fun a=>[s0 8]) (l1 cI))]
noncomputable def EI {A:Type}(c:List (bT Z))(h:kF D (List A))(n:Nat){m:Nat}[o:n_ Z.S m (ax (df h) (a1 (zO n [])))]{f:FuncId}{b:Func}(k:Z.P.funcs[f]? =some b)(d:A)(p:A->Bool)
  (l:Nat.ble m b.ntmps=true:=by kernel_rfl) (i:y_ b=true:=by kernel_rfl) (j:b.results.toList.length=1:=by kernel_rfl) (g:∀(a:List A×Unit) e,tN none->(apO a.1 d p).run e=(yV Z (Gq c) (jL (S:=Z.S) jX) (args (ax (df h) (a1 (zO n [])))) (R1 cI) 0 [] b b.ntmps a).run e:=by intro a e _;kernel_rfl):bT Z:=
 E2 c jX (ax (df h) (a1 (zO n []))) (R1 cI) [] k 1 (fun a=>apO a.1 d p) (fun _=>none) (fun a=>dP p a.1) (fun a _=>aoi a.1 d p) l i j g
noncomputable def EIB {A:Type}(g:List (bT Z))(i:kF D (List A))(n:Nat)(cs:List Nat)(b:Lc D β){m l:Nat}[r:n_ Z.S m (ax (df i) (a1 (zO n cs)))][s:uX Z.S l b]{f:FuncId}{c:Func}(o:Z.P.funcs[f]? =some c)(d:A)(p:A->β->Bool)
  (q:Nat.ble m c.ntmps=true:=by kernel_rfl) (j:y_ c=true:=by kernel_rfl) (k:c.results.toList.length=1:=by kernel_rfl) (h:∀(a:(List A×Unit)×β) e,tN none->(apO a.1.1 d fun x=>p x a.2).run e=(yV Z (Gq g) (jL (S:=Z.S) jX) (lH (ax (df i) (a1 (zO n cs))) b) (R1 cI) l cs c c.ntmps a).run e:=by intro a e _;kernel_rfl):bT Z:=
 E2B g jX (ax (df i) (a1 (zO n cs))) b (R1 cI) cs o 1 (fun a=>apO a.1.1 d fun x=>p x a.2) (fun _=>none) (fun a=>dP (fun x=>p x a.2) a.1.1) (fun a _=>aoi a.1.1 d fun x=>p x a.2) q j k h
noncomputable def EA {A:Type}(c:List (bT Z))(g:kF D (List A))(n:Nat){m:Nat}[l:n_ Z.S m (ax (df g) (a1 (zO n [])))]{f:FuncId}{b:Func}(j:Z.P.funcs[f]? =some b)(p:A->Bool)
  (k:Nat.ble m b.ntmps=true:=by kernel_rfl) (h:y_ b=true:=by kernel_rfl) (i:b.results.toList.length=1:=by kernel_rfl) (d:∀(a:List A×Unit) e,tN none->(apP a.1 p).run e=(yV Z (Gq c) (jL (S:=Z.S) []) (args (ax (df g) (a1 (zO n [])))) (R1 aW) 0 [] b b.ntmps a).run e:=by intro a e _;kernel_rfl):bT Z:=
 E2 c [] (ax (df g) (a1 (zO n []))) (R1 aW) [] j 1 (fun a=>apP a.1 p) (fun _=>none) (fun a=>a.1.any p) (fun a _=>anJ a.1 p) k h i d
noncomputable def EAB {A:Type}(d:List (bT Z))(h:kF D (List A))(n:Nat)(cs:List Nat)(b:Lc D β){m l:Nat}[q:n_ Z.S m (ax (df h) (a1 (zO n cs)))][r:uX Z.S l b]{f:FuncId}{c:Func}(k:Z.P.funcs[f]? =some c)(p:A->β->Bool)
  (o:Nat.ble m c.ntmps=true:=by kernel_rfl) (i:y_ c=true:=by kernel_rfl) (j:c.results.toList.length=1:=by kernel_rfl) (g:∀(a:(List A×Unit)×β) e,tN none->(apP a.1.1 fun x=>p x a.2).run e=(yV Z (Gq d) (jL (S:=Z.S) []) (lH (ax (df h) (a1 (zO n cs))) b) (R1 aW) l cs c c.ntmps a).run e:=by intro a e _;kernel_rfl):bT Z:=
 E2B d [] (ax (df h) (a1 (zO n cs))) b (R1 aW) cs k 1 (fun a=>apP a.1.1 fun x=>p x a.2) (fun _=>none) (fun a=>a.1.1.any fun x=>p x a.2) (fun a _=>anJ a.1.1 fun x=>p x a.2) o i j g
theorem Um {c:uV D}{h:FT D}{k q n:Nat}{g:List Nat}{b:c.A->Option Prop}{j:c.A->h.X}{f:FuncId}{d:Func}(o:List (bT Z))(J:List (Sh1 Z.S))[m:rD Z.S h](r:Z.P.funcs[f]? =some d)(u:d.ntmps=n)(F:c.A->Pg h.X)(p:∀a,tN (b a)->Is (F a)/\(F a).val=j a)
  (l:Tn Z.S c q n) (s:y_ d=true:=by kernel_rfl) (t:d.results.toList.length=k:=by kernel_rfl) (i:∀a e,tN (b a)->(F a).run e=(yV Z (Gq o) (jL J) c h q g d n a).run e:=by intro a e _;kernel_rfl):fK Z.P Z.S f (xK c h k g b j):=
 ajH (fun _ _=>L8) l m r u s k t F b i j p
end
end Go.Vc
