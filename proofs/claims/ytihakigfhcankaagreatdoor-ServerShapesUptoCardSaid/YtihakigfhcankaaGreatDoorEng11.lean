/- Own engine: Vdy, Vdz, Vdk, Vdx, Vd0, Vez. -/
import Derived.Test.YtihakigfhcankaaGreatDoorEng10
import Derived.SizedLaws
set_option linter.unusedVariables false
set_option linter.unusedSimpArgs false
namespace Go.Vc
theorem qa{p:Prop}(h:p:=by(try simp only[Sum.elim_inl,Sum.elim_inr])<;>(first | trivial | omega | (dsimp only;omega) | (refine Ak (aa5 (by omega) rfl) ?_;omega) | (refine⟨Int.le_trans (Int.ofNat_le.2 (aa5 (by omega) rfl)) ?_,?_⟩<;>omega) | (refine Ak (ajn _ _ _) ?_;first | omega | (dsimp only at*;omega) | (simp only[A7]at*;omega)) | (refine Ak (akd _ _ _) ?_;first | omega | (dsimp only at*;omega) | (simp only[A7]at*;omega)))):p:=h
theorem qab{p:Prop}(h:p:=by(try simp only[Sum.elim_inl,Sum.elim_inr])<;>(first | trivial | omega | (dsimp only;omega) | (refine Ak (aa5 (by omega) rfl) ?_;omega) | (refine⟨Int.le_trans (Int.ofNat_le.2 (aa5 (by omega) rfl)) ?_,?_⟩<;>omega) | (refine Ak (ajn _ _ _) ?_;first | omega | (dsimp only at*;omega) | (simp only[A7]at*;omega)) | (refine Ak (akd _ _ _) ?_;first | omega | (dsimp only at*;omega) | (simp only[A7]at*;omega)) | (simp only[pz];omega))):p:=h
theorem qac{p:Prop}(h:p:=by first | omega | (dsimp only at*;omega) | (simp only[A7]at*;omega) | exact h | exact h.2.2.2.1 _ (getD_mem (by omega)) | exact h.2.2.2.2.1 _ (getD_mem (by omega)) | exact h.2.2.2.2.2 _ (getD_mem (by omega)) | exact⟨by omega,fun m hm=>(h.2.2.2.1 m hm).1⟩ | exact b_ (by omega) (by omega)):p:=h
theorem xO{p:Prop}(h:p:=by first | omega | (dsimp only at*;omega) | (simp only[A7]at*;omega)):p:=h
theorem dS{p:Prop}(h:p:=by kernel_rfl):p:=h
theorem qaf{p:Prop}(h:p:=by(try simp only[Sum.elim_inl,Sum.elim_inr])<;>(first | exact avM qP hI (by simp only[af.dM];exact ih.2.2 _ _ _ (aFE h qP)) | exact axO hI | exact avX afa hI ⟨⟨by simp only[af.dM];rw[(x8 _).1];exact(avl h hv7 afa).2.1,by simp only[af.dM];exact P8 (avl h hv7 afa).2.2⟩,by simp only[af.dM,Zl];exact lU _⟩ (by simp only[af.dM];exact ih.2.2 _ _ _ (avl h hv7 afa).1) | exact awC h hv7 hI | (simp only[af.dM];exact ih.2.2 _ _ _ (P7 h)))):p:=h
theorem qag{p:Prop}(h:p:=by first | omega | exact hl.1 | exact hl.2.1 | (show xC 2 fu _;rw[af.dM];exact aFx h hv5 (by omega)) | (have h5:=SE hl.2.1 hv5;exact b_ (by have:=hI.2.2.1;omega) (by have:=hI.2.2.1;omega)) | exact aqR hI hv4 hl.1):p:=h
theorem qah{p:Prop}(h:p:=by(try simp only[Sum.elim_inl,Sum.elim_inr])<;>(first | exact aH2 h hv4 | exact ar4 hI | (refine auO qP hI ?_ hv6;simp only[af.dM];exact ih.2.1 _ _ _ (aFx h hv5 qP)) | exact auT h hv4 hv5 hI)):p:=h
theorem qai{p:Prop}(h:p:=by(try simp only[Sum.elim_inl,Sum.elim_inr])<;>(first | (rw[af.dM];exact⟨aoy hI.1,hI.2⟩) | (refine⟨?_,by have e:=hI.2;rw[e];rfl⟩;show v4.Sublist _;rw[hv4];exact atU hI.1 (by omega) (by rw[Qbi];exact beq_false_of_ne (by omega))) | (exact⟨y2.Slots,by simpa using hI.1,by rw[af.dM];have e:=hI.2;rw[e];rfl⟩))):p:=h
theorem qaj{p:Prop}(h:p:=by(try simp only[Sum.elim_inl,Sum.elim_inr])<;>(first | exact hI | exact⟨by have:=hI.1;omega,hI.2⟩ | exact⟨by have:=hI.1;simp only[pz,xH,A7];omega,o6 hI.2 (ajN (by rw[af.dM];exact(akY (getD_mem qP)).1) (by rw[af.dM];exact(akY (getD_mem qP)).2))⟩ | exact⟨by have:=hI.1;simp only[pz,xH,A7];omega,o6 hI.2 (kG (by rw[af.dM];exact au7 (getD_mem auE)))⟩)):p:=h
theorem qak{p:Prop}(h:p:=by first | omega | exact hl.2.2.2 | (show xC 1 fu _;rw[af.dM];first | exact aFE h (by omega) | exact(avl h hv7 (by omega)).1 | exact P7 h) | exact b_ (by have:=hI.2.2;omega) (by have:=hI.2.2;omega) | (have h5:=RU hl.2.2.2 hv7;exact b_ (by have:=hI.2.2;omega) (by have:=hI.2.2;omega))):p:=h
theorem qal{p:Prop}(h:p:=by(try simp only[Sum.elim_inl,Sum.elim_inr])<;>(first | exact fun y hy=> .inl hy | exact fun y hy=> .inr (.inl (hI.2 y hy)) | exact fun y hy=> .inr (.inr (by rw[Aj.1 hy,af.dM])) | exact⟨by(have:=hI.1;simp only[pz,xH,A7];omega),fun z hz=>(tY.1 hz).elim (hI.2 z) fun e=>⟨_,getD_mem (d:=gG) qP,(Aj.1 e).trans (af.dM _)⟩⟩)):p:=h
theorem qam{p:Prop}(h:p:=by first | omega | (dsimp only at*;omega) | (simp only[A7]at*;omega) | exact Ak (h.2.2.2.2 _ (getD_mem (by omega))) (by decide)):p:=h
theorem qan{p:Prop}(h:p:=by(try simp only[Sum.elim_inl,Sum.elim_inr])<;>(first | exact fun e=>absurd e (by decide) | (rw[hI,DT];done) | (rw[hI,F6 (d:=iW) (by omega)];done) | (rw[hI,F6 (d:=nD) (by omega)];done) | (intro _;rw[hI,DT];exact⟨by simpa using ‹(!o_ s)=false›,rfl⟩))):p:=h
theorem qap{p:Prop}(h:p:=by(try subst_vars);(try simp only[pz,xH,A7]);omega):p:=h
theorem qaq{p:Prop}(h:p:=by(have:=IK (nX h) hv4;have:=h.1;first | omega | exact b_ (by have:=hI.1.length_le;simp only[uP]at this;omega) (by have:=hI.1.length_le;simp only[uP]at this;omega) | exact⟨YZ (ar8 h hv4) (by omega),YZ (ar8 h hv4) (by omega)⟩)):p:=h
theorem qar{p:Prop}(h:p:=by(try simp only[Sum.elim_inl,Sum.elim_inr])<;>(first | exact hI.2 | exact⟨by first | (have:=hI.1;omega) | (rw[hv6];have:=hI.1;simp only[pz,xH,A7];omega),by have:=hI.2.1;simp only[pz,xH,A7];omega,hI.2.2.1,by rw[hv4,hv5];exact aot hI.2.2.2 (getD_mem (d:=aN) qP)⟩)):p:=h
theorem qas{p:Prop}(h:p:=by first | omega | exact h | exact(h.2.2.2.1 _ (getD_mem (by omega))).1 | exact⟨(h.2.2.2.2.1 _ (getD_mem (by omega))).2.1,(h.2.2.2.2.1 _ (getD_mem (by omega))).1⟩ | (rw[hI];simp only[Qbl,uP];exact b_ (by omega) (by omega))):p:=h
theorem qat{p:Prop}(h:p:=by first | omega | exact Ak (ajn _ _ _) (by(first | omega | (simp only[A7]at*;omega) | simp)) | exact Ak (aiS (by omega) rfl) (by omega)):p:=h
theorem qau{p:Prop}(h:p:=by(try simp only[Sum.elim_inl,Sum.elim_inr])<;>((have:=IK (nX h) hv4;have:=h.1;first | trivial | omega | exact⟨aek hI.1,by omega,by omega⟩ | (refine⟨?_,by omega,by omega⟩;rw[hv5];exact acg hI.1 (by omega) (by rw[af.dM,af.dM,Pair.eta])) | (rw[<-hv4];simpa using hI.1)))):p:=h
theorem qaw{p:Prop}(h:p:=by(try simp only[Sum.elim_inl,Sum.elim_inr])<;>(first | trivial | (simp only[Qea,Qeb,pz,xH,A7];omega))):p:=h
theorem qax{p:Prop}(h:p:=by(try simp only[Sum.elim_inl,Sum.elim_inr])<;>((have:=II h hv4;first | trivial | omega | exact⟨aek hI.1,by omega⟩ | (refine⟨?_,by omega⟩;rw[hv5];exact acg hI.1 (by omega) (by rw[af.dM,Slot.eta])) | (rw[<-hv4];simpa using hI.1)))):p:=h
theorem qa0{p:Prop}(h:p:=by(have:=II h hv4;first | omega | exact b_ (by have:=hI.1.length_le;simp only[uP]at this;omega) (by have:=hI.1.length_le;simp only[uP]at this;omega))):p:=h
theorem qa1{p:Prop}(h:p:=by(try simp only[Sum.elim_inl,Sum.elim_inr])<;>(first | trivial | omega | (simp only[pz,xH,A7];omega))):p:=h
theorem qa2{p:Prop}(h:p:=by first | omega | exact b_ (by have:=hI.1;omega) (by have:=hI.1;omega) | exact b_ (by have:=hI.2.1;omega) (by have:=hI.2.1;omega)):p:=h
theorem qa4{p:Prop}(h:p:=by first | omega | exact fun x hx hk=>by rw[hI];exact((h.2 _ (getD_mem (d:=bU) aHo)).2 x hx).1 hk):p:=h
theorem qa6{p:Prop}(h:p:=by first | omega | exact b_ (by omega) (by omega)):p:=h
theorem qa7{p:Prop}(h:p:=by(try simp only[Sum.elim_inl,Sum.elim_inr])<;>(first | exact hI | exact⟨by simp only[pz,xH,A7];omega,hI.2⟩)):p:=h
theorem qba{p:Prop}(h:p:=by have:=hI.1;omega):p:=h
theorem qbb{p:Prop}(h:p:=by(try simp only[Sum.elim_inl,Sum.elim_inr])<;>(first | trivial | exact hI | (rw[Qbq];exact hI))):p:=h
theorem qbd{p:Prop}(h:p:=by(try simp only[Sum.elim_inl,Sum.elim_inr])<;>(first | (simp only[af.dM];exact ih.1 _ _ _ (P7 h)) | (simp only[af.dM];exact⟨P8 h.1.1,Qdn (Zl _)⟩))):p:=h
theorem qbi{p:Prop}(h:p:=by first | omega | (have hq:=axy hI.1;exact b_ (by omega) (by omega))):p:=h
theorem qbj{p:Prop}(h:p:=by first | omega | exact b_ (by have:=hI.1;omega) (by have:=hI.1;omega)):p:=h
theorem qbn{p:Prop}(h:p:=by first | (simp;done) | (simp only[Qea,Qeb];omega)):p:=h
theorem qbr{p:Prop}(h:p:=by(try simp only[Sum.elim_inl,Sum.elim_inr])<;>(first | (rw[Qbq];exact hI) | (rw[EU];exact hI))):p:=h
theorem qbs{p:Prop}(h:p:=by rw[DT]at hI;exact hI):p:=h
theorem qbv{p:Prop}(h:p:=by have k:=h.1.1.2.1.1;have e:=h.2.2;omega):p:=h
theorem qby{p:Prop}(h:p:=by first | omega | exact h.1 | exact b_ (by omega) (by omega)):p:=h
theorem qbz{p:Prop}(h:p:=by first | omega | exact ww (fun _=>rfl) _):p:=h
theorem qb0{p:Prop}(h:p:=by simp[Act.eval,Act.put]):p:=h
theorem qb1{p:Prop}(h:p:=by have k:=h.2.2.2;have:=lV v;omega):p:=h
theorem qca{p:Prop}(h:p:=by show(0:Int) < (((a::t).length:Nat):Int);simp only[xH];omega):p:=h
theorem qcc{p:Prop}(h:p:=by have:=h _ (getD_mem (d:=r_) (show i1 < l.length by omega));omega):p:=h
theorem qce{p:Prop}(h:p:=by rw[hI];exact b_ (by omega) (by omega)):p:=h
theorem qcg{p:Prop}(h:p:=by rw[uP,PW,uP];omega):p:=h
theorem qcl{p:Prop}(h:p:=by obtain⟨_,_,_,k1,k2⟩:=h;exact b_ (by omega) (by omega)):p:=h
theorem qco{p:Prop}(h:p:=by rw[<-hv1];simpa using hf):p:=h
theorem qcq{p:Prop}(h:p:=by show ¬(13:Int)=0;decide):p:=h
theorem qcs{p:Prop}(h:p:=by have:=h.1;omega):p:=h
theorem qcw{p:Prop}(h:p:=by cases hx):p:=h
instance aIC {X R:Type} [Inhabited R]:Inhabited (X⊕R):=⟨.inr default⟩
structure Ix (X Y:Type) where
 gi:X->Int
 gy:X->Y
 mx:Int->Y->X
 h1:∀i y,gi (mx i y)=i
 h2:∀i y,gy (mx i y)=y
def qw {Y:Type}:Ix (Int×Y) Y:=⟨Prod.fst,Prod.snd,Prod.mk,fun _ _=>rfl,fun _ _=>rfl⟩
def tX:Ix Int Unit:=⟨id,fun _=>(),fun i _=>i,fun _ _=>rfl,fun _ _=>rfl⟩
inductive Pg:Type->Type 1 where
 | ret {R:Type} (r:R):Pg R
 | no {R:Type} (r:R):Pg R
 | ob {R:Type} (p:Prop) (k:Pg R):Pg R
 | obD {R:Type} (p:Prop) (d:Decidable p) (k:Pg R):Pg R
 | as {R:Type} (p:Prop) (k:Pg R):Pg R
 | br {R:Type} (b:Bool) (t e:Pg R):Pg R
 | unk {R:Type} (s:Bool) (p:Bool->Prop) (t e:Pg R):Pg R
 | lt {R A:Type} (v:A) (k:A->Pg R):Pg R
 | cut {R X:Type} (k:X->Pg R) (a:Pg (X⊕R)):Pg R
 | wh {R X:Type} (n:Nat) (r:R) (step:X->Pg (X⊕R)) (x:X):Pg R
 | each {R A X Y:Type} (h:Bool) (s:Ix X Y) (l:List A) (d:A) (body:Int->A->Y->Pg (Y⊕R)) (fin:Int->Y->Pg R) (y:Y):Pg R
 | cnt {R X Y:Type} (s:Ix X Y) (a b:Int) (body:Int->Y->Pg (Y⊕R)) (fin:Int->Y->Pg R) (y:Y):Pg R
 | auB {R A X Y:Type} (ps:List Prop) (h:Bool) (s:Ix X Y) (l:List A) (d:A) (body:Int->A->Y->Pg (Y⊕R)) (fin:Int->Y->Pg R) (y:Y):Pg R
 | Pn {R X Y:Type} (ps:List Prop) (q:Option Prop) (s:Ix X Y) (a b:Int) (body:Int->Y->Pg (Y⊕R)) (fin:Int->Y->Pg R) (y:Y):Pg R
section
variable {R R' A X Y:Type}
def nxI (s:Ix X Y)(i:Int):Y⊕R->X⊕R
 | .inl y=> .inl (s.mx (dD .i64 (i+1)) y)
 | .inr r=> .inr r
noncomputable def adm:List Prop->Option R->Option R
 | [],k=>k
 | p::ps,k=>need p (adm ps k)
noncomputable def aBs (q:Option Prop)(e:R)(k:Option R):Option R:=
 match q with
 | none=>k
 | some q=>asm q e k
def awS:List Prop->Prop
 | []=>True
 | p::ps=>p/\awS ps
theorem MW:∀{ps:List Prop} {k:Option R},awS ps->adm ps k=k
 | [],_,_=>rfl
 | p::ps,k,h=>by unfold adm;rw[wG h.1,MW h.2]
theorem asJ {q:Option Prop}{e:R}{k:Option R}(h:ql q):aBs q e k=k:=by
 cases q with
 | none=>rfl
 | some q=>exact x_ h
theorem atK {q:Option Prop}{e:R}{k:Option R}(h:¬ql q):aBs q e k=some e:=by
 cases q with
 | none=>exact(h trivial).elim
 | some q=>exact Bq h
noncomputable def Pg.runK:{R:Type}->Pg R->(R':Type)->(R->R')->R'->Option R'
 | _, .ret r,_,f,_=>some (f r)
 | _, .no _,_,_,_=>none
 | _, .ob p k,R',f,e=>need p (k.runK R' f e)
 | _, .obD p _ k,R',f,e=>need p (k.runK R' f e)
 | _, .as p k,R',f,e=>asm p e (k.runK R' f e)
 | _, .br b t t',R',f,e=>cond b (t.runK R' f e) (t'.runK R' f e)
 | _, .unk _ p t t',R',f,e=>both p (t.runK R' f e) (t'.runK R' f e)
 | _, .lt v k,R',f,e=>(k v).runK R' f e
 | _, .cut (X:=X) k a,R',f,e=>ajZ (a.runK (X⊕R') (Sum.map id f) (.inr e)) fun x=>(k x).runK R' f e
 | _, .wh (X:=X) _ _ step x,R',f,e=>qE (fun y=>(step y).runK (X⊕R') (Sum.map id f) (.inr e)) x
 | _, .each (X:=X) h s l d body fin y,R',f,e=>qE (fun x=>
   cond h (asm (l.length<=9223372036854775807) (.inr e) (cond (decide (s.gi x < (↑l.length:Int))) ((body (s.gi x) (l.getD (s.gi x).toNat d) (s.gy x)).runK (X⊕R') (fun z=>nxI s (s.gi x) (Sum.map id f z)) (.inr e)) ((fin (s.gi x) (s.gy x)).runK (X⊕R') (fun r=> .inr (f r)) (.inr e))))
    (cond (decide (s.gi x < (↑l.length:Int))) ((body (s.gi x) (l.getD (s.gi x).toNat d) (s.gy x)).runK (X⊕R') (fun z=>nxI s (s.gi x) (Sum.map id f z)) (.inr e)) ((fin (s.gi x) (s.gy x)).runK (X⊕R') (fun r=> .inr (f r)) (.inr e)))) (s.mx 0 y)
 | _, .auB (X:=X) ps h s l d body fin y,R',f,e=>qE (fun x=>adm ps (
   cond h (asm (l.length<=9223372036854775807) (.inr e) (cond (decide (s.gi x < (↑l.length:Int))) ((body (s.gi x) (l.getD (s.gi x).toNat d) (s.gy x)).runK (X⊕R') (fun z=>nxI s (s.gi x) (Sum.map id f z)) (.inr e)) ((fin (s.gi x) (s.gy x)).runK (X⊕R') (fun r=> .inr (f r)) (.inr e))))
    (cond (decide (s.gi x < (↑l.length:Int))) ((body (s.gi x) (l.getD (s.gi x).toNat d) (s.gy x)).runK (X⊕R') (fun z=>nxI s (s.gi x) (Sum.map id f z)) (.inr e)) ((fin (s.gi x) (s.gy x)).runK (X⊕R') (fun r=> .inr (f r)) (.inr e))))) (s.mx 0 y)
 | _, .Pn (X:=X) ps q s a b body fin y,R',f,e=>qE (fun x=>adm ps (aBs q (.inr e) (cond (decide (s.gi x < b)) ((body (s.gi x) (s.gy x)).runK (X⊕R') (fun z=>nxI s (s.gi x) (Sum.map id f z)) (.inr e)) ((fin (s.gi x) (s.gy x)).runK (X⊕R') (fun r=> .inr (f r)) (.inr e))))) (s.mx a y)
 | _, .cnt (X:=X) s a b body fin y,R',f,e=>qE (fun x=>cond (decide (s.gi x < b)) ((body (s.gi x) (s.gy x)).runK (X⊕R') (fun z=>nxI s (s.gi x) (Sum.map id f z)) (.inr e)) ((fin (s.gi x) (s.gy x)).runK (X⊕R') (fun r=> .inr (f r)) (.inr e))) (s.mx a y)
noncomputable def Pg.run (t:Pg R)(e:R):Option R:=t.runK R id e
abbrev Pg.ix (i:Int)(n:Nat)(k:Pg R):Pg R:= .ob (0<=i/\i < ↑n) k
def vI {A:Type}(n:Nat)(d:A)(l:List A):List A:=(List.range n).map fun i=>l.getD i d
def BA (b:Nat->A->Y->Y⊕R)(f:Nat->Y->R):List A->Nat->Y->R
 | [],k,y=>f k y
 | a::l,k,y=>match b k a y with
  | .inl y'=>BA b f l (k+1) y'
  | .inr r=>r
def vW (b:Int->Y->Y⊕R)(f:Int->Y->R):Nat->Int->Y->R
 | 0,i,y=>f i y
 | n+1,i,y=>match b i y with
  | .inl y'=>vW b f n (i+1) y'
  | .inr r=>r
def V8 (step:X->X⊕R)(r0:R):Nat->X->R
 | 0,_=>r0
 | n+1,x=>match step x with
  | .inl x'=>V8 step r0 n x'
  | .inr r=>r
def thenS (a:X⊕R)(k:X->R):R:=
 match a with
 | .inl x=>k x
 | .inr r=>r
@[simp] theorem oO (x:X) (k:X->R):thenS (.inl x) k=k x:=rfl
@[simp] theorem aEl (r:R) (k:X->R):thenS (.inr r) k=r:=rfl
def Pg.val:{R:Type}->Pg R->R
 | _, .ret r=>r
 | _, .no r=>r
 | _, .ob _ k=>k.val
 | _, .obD _ _ k=>k.val
 | _, .as _ k=>k.val
 | _, .br b t e=>cond b t.val e.val
 | _, .unk s _ t e=>cond s t.val e.val
 | _, .lt v k=>(k v).val
 | _, .cut k a=>thenS a.val fun x=>(k x).val
 | _, .wh n r step x=>V8 (fun y=>(step y).val) r n x
 | _, .each _ _ l _ body fin y=>BA (fun k a y=>(body (↑k:Int) a y).val) (fun k y=>(fin (↑k:Int) y).val) l 0 y
 | _, .cnt _ a b body fin y=>vW (fun i y=>(body i y).val) (fun i y=>(fin i y).val) (b - a).toNat a y
 | _, .auB _ _ _ l _ body fin y=>BA (fun k a y=>(body (↑k:Int) a y).val) (fun k y=>(fin (↑k:Int) y).val) l 0 y
 | _, .Pn _ _ _ a b body fin y=>vW (fun i y=>(body i y).val) (fun i y=>(fin i y).val) (b - a).toNat a y
@[simp] theorem aV (r:R):(Pg.ret r).val=r:=rfl
@[simp] theorem aHR (r:R):(Pg.no r).val=r:=rfl
@[simp] theorem dK (p:Prop) (k:Pg R):(Pg.ob p k).val=k.val:=rfl
@[simp] theorem aHI (p:Prop) (d:Decidable p) (k:Pg R):(Pg.obD p d k).val=k.val:=rfl
@[simp] theorem iV (i:Int) (n:Nat) (k:Pg R):(Pg.ix i n k).val=k.val:=rfl
@[simp] theorem kN (p:Prop) (k:Pg R):(Pg.as p k).val=k.val:=rfl
@[simp] theorem bH (b:Bool) (t e:Pg R):(Pg.br b t e).val=cond b t.val e.val:=rfl
@[simp] theorem axl (s:Bool) (p:Bool->Prop) (t e:Pg R):(Pg.unk s p t e).val=cond s t.val e.val:=rfl
@[simp] theorem dE (v:A) (k:A->Pg R):(Pg.lt v k).val=(k v).val:=rfl
@[simp] theorem mr (a:Pg (X⊕R)) (k:X->Pg R):(Pg.cut k a).val=thenS a.val fun x=>(k x).val:=rfl
@[simp] theorem Bv (n:Nat) (r:R) (step:X->Pg (X⊕R)) (x:X):(Pg.wh n r step x).val=V8 (fun y=>(step y).val) r n x:=rfl
@[simp] theorem qJ (h:Bool) (s:Ix X Y) (l:List A) (d:A) (body:Int->A->Y->Pg (Y⊕R)) (fin:Int->Y->Pg R) (y:Y):
  (Pg.each h s l d body fin y).val=BA (fun k a y=>(body (↑k:Int) a y).val) (fun k y=>(fin (↑k:Int) y).val) l 0 y:=rfl
@[simp] theorem BM (s:Ix X Y) (a b:Int) (body:Int->Y->Pg (Y⊕R)) (fin:Int->Y->Pg R) (y:Y):
  (Pg.cnt s a b body fin y).val=vW (fun i y=>(body i y).val) (fun i y=>(fin i y).val) (b - a).toNat a y:=rfl
@[simp] theorem aEk (ps:List Prop) (h:Bool) (s:Ix X Y) (l:List A) (d:A) (body:Int->A->Y->Pg (Y⊕R)) (fin:Int->Y->Pg R) (y:Y):
  (Pg.auB ps h s l d body fin y).val=BA (fun k a y=>(body (↑k:Int) a y).val) (fun k y=>(fin (↑k:Int) y).val) l 0 y:=rfl
@[simp] theorem apl (ps:List Prop) (q:Option Prop) (s:Ix X Y) (a b:Int) (body:Int->Y->Pg (Y⊕R)) (fin:Int->Y->Pg R) (y:Y):
  (Pg.Pn ps q s a b body fin y).val=vW (fun i y=>(body i y).val) (fun i y=>(fin i y).val) (b - a).toNat a y:=rfl
def Is (t:Pg R):Prop:=∀(R':Type) (f:R->R') (e:R'),t.runK R' f e=some (f t.val)\/t.runK R' f e=some e
def Is1 (t:Pg R):Prop:=∀(R':Type) (f:R->R') (e:R'),t.runK R' f e=some (f t.val)
theorem Is1.is {t:Pg R}(h:Is1 t):Is t:=fun R' f e=> .inl (h R' f e)
theorem Is.run {t:Pg R}(h:Is t):t.run t.val=some t.val:=by
 rcases h R id t.val with h | h<;>exact h
theorem aT {r:R}:Is (.ret r):=fun _ _ _=> .inl rfl
theorem aX {p:Prop}{k:Pg R}(hp:p)(hk:Is k):Is (.ob p k):=fun R' f e=>by
 simp only[Pg.runK,wG hp];exact hk R' f e
theorem dm {i:Int}{n:Nat}{k:Pg R}(h1:0<=i)(h2:i < ↑n)(hk:Is k):Is (.ix i n k):=aX ⟨h1,h2⟩ hk
theorem iH {p:Prop}{k:Pg R}(hk:p->Is k):Is (.as p k):=fun R' f e=>by
 by_cases hp:p
 ·simp only[Pg.runK,x_ hp];exact hk hp R' f e
 ·simp only[Pg.runK,Bq hp];exact .inr trivial
theorem di {b:Bool}{t e:Pg R}(ht:b=true->Is t)(he:b=false->Is e):Is (.br b t e):=fun R' f e0=>by
 cases b with
 | true=>exact ht rfl R' f e0
 | false=>exact he rfl R' f e0
theorem dV {p:Prop}{inst:Decidable p}{t e:Pg R}(ht:p->Is t)(he:¬p->Is e):Is (.br (@decide p inst) t e):=
 di (fun h=>ht (Cj h)) (fun h=>he (Qcf h))
theorem lh {a b:A}[h:BEq A][lw:LawfulBEq A]{t e:Pg R}(ht:a=b->Is t)(he:¬a=b->Is e):Is (.br (a==b) t e):=
 di (fun h=>ht qbq) (fun h=>he qbq)
theorem jG {a b:A}[h:BEq A][lw:LawfulBEq A]{t e:Pg R}(ht:¬a=b->Is t)(he:a=b->Is e):Is (.br (a !=b) t e):=
 di (fun h=>ht qbq) (fun h=>he qbq)
theorem b_ {n b:Nat}(h1:n<=1099511627776)(h2:n*b<=140737488355328):bT n b:=⟨h1,h2⟩
theorem dB {v:A}{k:A->Pg R}(h:∀x,x=v->Is (k x)):Is (.lt v k):=h v rfl
theorem pK {n:Int}{k:Int->Pg R}(h:∀x,x=dD .i64 n->(-9223372036854775808<=n/\n<=9223372036854775807->x=n)->Is (k x)):Is (.lt (dD .i64 n) k):=
 h _ rfl fun hn=>fO (k:= .i64) hn
theorem oQ {a:Pg (X⊕R)}{k:X->Pg R}(ha:Is a)(hk:∀x,a.val= .inl x->Is (k x)):Is (.cut k a):=fun R' f e=>by
 have h:=ha (X⊕R') (Sum.map id f) (.inr e);simp only[Pg.runK,mr];rcases h with h | h
 ·rw[h];cases hv:a.val with
  | inl x=>exact hk x hv R' f e
  | inr r=>exact .inl rfl
 ·rw[h];exact .inr rfl
theorem aBA {s:Bool}{p:Bool->Prop}{t e:Pg R}(hp:∃b,p b)(ht:p true->Is1 t/\t.val=cond s t.val e.val)(he:p false->Is1 e/\e.val=cond s t.val e.val):Is (.unk s p t e):=fun R' f e0=>by
 refine .inl ?_;simp only[Pg.runK,axl];refine abv hp (fun h=> ?_) (fun h=> ?_)
 ·rw[(ht h).1 R' f e0,<-(ht h).2]
 ·rw[(he h).1 R' f e0,<-(he h).2]
theorem qI {l:List A}{b:Nat}(h:bT (0+l.length) b):Is (.unk false (fun b=>b=true->l.length=0) (.ret []) (.ob (bT (0+l.length) b) (.ret l))):=
 aBA ⟨false,fun e=>by cases e⟩ (fun hp=>⟨fun _ _ _=>rfl,by have h0:=hp rfl;cases l with | nil=>rfl | cons a l=>simp at h0⟩) (fun _=>⟨fun R' f e=>by simp only[Pg.runK,wG h];rfl,rfl⟩)
theorem XG {l:List A}{s:Ix X Y}{R':Type}{step:X->Option (X⊕R')}{f:R->R'}{e:R'}{b:Nat->A->Y->Y⊕R}{g:Nat->Y->R}{d:A}(I:Nat->Y->Prop)
  (h1:∀(k:Nat) (y:Y),k < l.length->I k y->step (s.mx ↑k y)=some (match b k (l.getD k d) y with | .inl y'=> .inl (s.mx (↑(k+1)) y') | .inr r=> .inr (f r))/\(∀y',b k (l.getD k d) y= .inl y'->I (k+1) y')\/step (s.mx ↑k y)=some (.inr e))
  (h2:∀y,I l.length y->step (s.mx ↑l.length y)=some (.inr (f (g l.length y)))\/step (s.mx ↑l.length y)=some (.inr e)):
  ∀(n k:Nat) (y:Y),k+n=l.length->I k y->qE step (s.mx ↑k y)=some (f (BA b g (l.drop k) k y))\/qE step (s.mx ↑k y)=some e
 | 0,k,y,hk,hi=>by
  have hk:k=l.length:=by omega
  subst hk;rw[wK,List.drop_length];rcases h2 y hi with h | h<;>rw[h]
  ·exact .inl rfl
  ·exact .inr rfl
 | n+1,k,y,hk,hi=>by
  have hlt:k < l.length:=by omega
  rw[wK];have hd:l.drop k=l.getD k d::l.drop (k+1):=by
   rw[Qbm hlt];congr 1;simp[List.getD,hlt]
  rw[hd];rcases h1 k y hlt hi with⟨h,hI⟩ | h
  ·rw[h];cases hb:b k (l.getD k d) y with
   | inl y'=>
    have:=XG I h1 h2 n (k+1) y' au (hI y' hb);simp only[BA,hb];exact this
   | inr r=>
    simp only[BA,hb];exact .inl trivial
  ·rw[h];exact .inr rfl
theorem pU {k:Nat}(h:k < 9223372036854775807):dD .i64 ((↑k:Int)+1)=↑(k+1):=by
 rw[fO (k:= .i64) zO];omega
theorem Ku {h:Bool}{s:Ix X Y}{l:List A}{d:A}{body:Int->A->Y->Pg (Y⊕R)}{fin:Int->Y->Pg R}{y:Y}(I:Nat->Y->Prop)(h0:I 0 y)
  (hl:h=true\/l.length<=9223372036854775807)
  (hb:∀(k:Nat) (y:Y),k < l.length->l.length<=9223372036854775807->I k y->Is (body ↑k (l.getD k d) y)/\∀y',(body ↑k (l.getD k d) y).val= .inl y'->I (k+1) y')
  (hf:∀y,l.length<=9223372036854775807->I l.length y->Is (fin ↑l.length y)):Is (.each h s l d body fin y):=fun R' f e=>by
 simp only[Pg.runK,qJ];have key:=fun(step:X->Option (X⊕R'))=>XG (l:=l) (s:=s) (step:=step) (f:=f) (e:=e) (b:=fun k a y=>(body (↑k:Int) a y).val) (g:=fun k y=>(fin (↑k:Int) y).val) (d:=d) I
 have core:∀(hm:l.length<=9223372036854775807) (step:X->Option (X⊕R')),(∀x,step x=cond (decide (s.gi x < (↑l.length:Int))) ((body (s.gi x) (l.getD (s.gi x).toNat d) (s.gy x)).runK (X⊕R') (fun z=>nxI s (s.gi x) (Sum.map id f z)) (.inr e)) ((fin (s.gi x) (s.gy x)).runK (X⊕R') (fun r=> .inr (f r)) (.inr e)))->
   (qE step (s.mx 0 y)=some (f (BA (fun k a y=>(body (↑k:Int) a y).val) (fun k y=>(fin (↑k:Int) y).val) l 0 y))\/qE step (s.mx 0 y)=some e):=by
  intro hm step hs;have:=key step (fun k y hk hi=> ?_) (fun y hi=> ?_) l.length 0 y au h0
  ·simpa using this
  ·obtain⟨q1,q2⟩:=hb k y hk hm hi;rw[hs,s.h1,s.h2];have hlt:((k:Nat):Int) < ↑l.length:=by omega
   simp only[hlt,decide_true,wB,zk];rcases q1 (X⊕R') (fun z=>nxI s ↑k (Sum.map id f z)) (.inr e)with h | h
   ·refine .inl ⟨?_,q2⟩;rw[h];cases(body ↑k (l.getD k d) y).val with
    | inl y'=>simp only[Sum.map_inl,id_eq,nxI,pU (show k < 9223372036854775807 by omega)]
    | inr r=>rfl
   ·exact .inr h
  ·rw[hs,s.h1,s.h2];simp only[Int.lt_irrefl,decide_false,nR];exact(hf y hm hi) (X⊕R') (fun r=> .inr (f r)) (.inr e)
 cases h with
 | false=>
  rcases hl with hl | hl
  ·cases hl
  ·exact core hl _ fun x=>rfl
 | true=>
  by_cases hm:l.length<=9223372036854775807
  ·exact core hm _ fun x=>by simp only[wB,x_ hm]
  ·refine .inr ?_;rw[wK];simp only[wB,Bq hm]
theorem gU {h:Bool}{s:Ix X Y}{l:List A}{d:A}{body:Int->A->Y->Pg (Y⊕R)}{fin:Int->Y->Pg R}{y:Y}(hl:h=true\/l.length<=9223372036854775807)
  (hb:∀(k:Nat) (y:Y),k < l.length->l.length<=9223372036854775807->Is (body ↑k (l.getD k d) y)) (hf:∀y,l.length<=9223372036854775807->Is (fin ↑l.length y)):Is (.each h s l d body fin y):=
 Ku (fun _ _=>True) trivial hl (fun k y h1 h2 _=>⟨hb k y h1 h2,fun _ _=>trivial⟩) fun y h _=>hf y h
theorem aeo {b:Int}{s:Ix X Y}{R':Type}{step:X->Option (X⊕R')}{f:R->R'}{e:R'}{bd:Int->Y->Y⊕R}{g:Int->Y->R}(I:Int->Y->Prop)(hm:b<=9223372036854775807)
  (h1:∀(i:Int) (y:Y),i < b->I i y->step (s.mx i y)=some (match bd i y with | .inl y'=> .inl (s.mx (i+1) y') | .inr r=> .inr (f r))/\(∀y',bd i y= .inl y'->I (i+1) y')\/step (s.mx i y)=some (.inr e))
  (h2:∀i y,b<=i->I i y->step (s.mx i y)=some (.inr (f (g i y)))\/step (s.mx i y)=some (.inr e)):
  ∀(n:Nat) (i:Int) (y:Y),(b - i).toNat=n->I i y->qE step (s.mx i y)=some (f (vW bd g n i y))\/qE step (s.mx i y)=some e
 | 0,i,y,hk,hi=>by
  rw[wK];rcases h2 i y au hi with h | h<;>rw[h]
  ·exact .inl rfl
  ·exact .inr rfl
 | n+1,i,y,hk,hi=>by
  have hlt:i < b:=by omega
  rw[wK];rcases h1 i y hlt hi with⟨h,hI⟩ | h
  ·rw[h];cases hb:bd i y with
   | inl y'=>
    have:=aeo I hm h1 h2 n (i+1) y' au (hI y' hb);simp only[vW,hb];exact this
   | inr r=>
    simp only[vW,hb];exact .inl trivial
  ·rw[h];exact .inr rfl
theorem I9 {s:Ix X Y}{a b:Int}{body:Int->Y->Pg (Y⊕R)}{fin:Int->Y->Pg R}{y:Y}(I:Int->Y->Prop)(h0:I a y)(ha: -9223372036854775808<=a)(hm:b<=9223372036854775807)
  (hb:∀(i:Int) (y:Y),a<=i->i < b->I i y->Is (body i y)/\∀y',(body i y).val= .inl y'->I (i+1) y')
  (hf:∀i y,a<=i->b<=i->I i y->Is (fin i y)):Is (.cnt s a b body fin y):=fun R' f e=>by
 simp only[Pg.runK,BM];refine aeo (s:=s) (f:=f) (e:=e) (bd:=fun i y=>(body i y).val) (g:=fun i y=>(fin i y).val) (fun i y=>a<=i/\I i y) hm (fun i y hlt hi=> ?_) (fun i y hge hi=> ?_) _ a y rfl ⟨PE _,h0⟩
 ·obtain⟨q1,q2⟩:=hb i y hi.1 hlt hi.2;simp only[s.h1,s.h2,hlt,decide_true,wB];rcases q1 (X⊕R') (fun z=>nxI s i (Sum.map id f z)) (.inr e)with h | h
  ·refine .inl ⟨?_,fun y' hy=>⟨by omega,q2 y' hy⟩⟩;rw[h];have hw:dD .i64 (i+1)=i+1:=fO (k:= .i64) zO;cases(body i y).val with
   | inl y'=>simp only[Sum.map_inl,id_eq,nxI,hw]
   | inr r=>rfl
  ·exact .inr h
 ·simp only[s.h1,s.h2,show ¬i < b by omega,decide_false,nR];exact(hf i y hi.1 hge hi.2) (X⊕R') (fun r=> .inr (f r)) (.inr e)
theorem RX {s:Ix X Y}{a b:Int}{body:Int->Y->Pg (Y⊕R)}{fin:Int->Y->Pg R}{y:Y}(ha: -9223372036854775808<=a)(hm:b<=9223372036854775807)
  (hb:∀(i:Int) (y:Y),a<=i->i < b->Is (body i y)) (hf:∀i y,a<=i->b<=i->Is (fin i y)):Is (.cnt s a b body fin y):=
 I9 (fun _ _=>True) trivial ha hm (fun i y h1 h2 _=>⟨hb i y h1 h2,fun _ _=>trivial⟩) fun i y h1 h2 _=>hf i y h1 h2
theorem aoa {ps:List Prop}{q:Option Prop}{s:Ix X Y}{a b:Int}{body:Int->Y->Pg (Y⊕R)}{fin:Int->Y->Pg R}{y:Y}(I:Int->Y->Prop)(h0:I a y)(hp:awS ps)(ha: -9223372036854775808<=a)(hm:ql q->b<=9223372036854775807)
  (hb:∀(i:Int) (y:Y),a<=i->i < b->b<=9223372036854775807->I i y->Is (body i y)/\∀y',(body i y).val= .inl y'->I (i+1) y')
  (hf:∀i y,a<=i->b<=i->I i y->Is (fin i y)):Is (.Pn ps q s a b body fin y):=fun R' f e=>by
 by_cases hq:ql q
 ·have:=I9 (s:=s) I h0 ha (hm hq) (fun i y h1 h2=>hb i y h1 h2 (hm hq)) hf R' f e;simp only[Pg.runK,MW hp,asJ hq]at this⊢;exact this
 ·refine .inr ?_;simp only[Pg.runK,MW hp,atK hq];rw[wK]
theorem Bc {ps:List Prop}{q:Option Prop}{s:Ix X Y}{a b:Int}{body:Int->Y->Pg (Y⊕R)}{fin:Int->Y->Pg R}{y:Y}(hp:awS ps)(ha: -9223372036854775808<=a)(hm:ql q->b<=9223372036854775807)
  (hb:∀(i:Int) (y:Y),a<=i->i < b->b<=9223372036854775807->Is (body i y)) (hf:∀i y,a<=i->b<=i->Is (fin i y)):Is (.Pn ps q s a b body fin y):=
 aoa (fun _ _=>True) trivial hp ha hm (fun i y h1 h2 h3 _=>⟨hb i y h1 h2 h3,fun _ _=>trivial⟩) fun i y h1 h2 _=>hf i y h1 h2
theorem Gg {n:Nat}{r0:R}{step:X->Pg (X⊕R)}{x:X}(I:X->Prop)(mu:X->Nat)(h0:I x)(hn:mu x < n)
  (hs:∀x,I x->Is (step x)/\∀x',(step x).val= .inl x'->I x'/\mu x' < mu x):Is (.wh n r0 step x):=fun R' f e=>by
 simp only[Pg.runK,Bv];induction n generalizing x with
 | zero=>omega
 | succ n ih=>
  rw[wK];obtain⟨q1,q2⟩:=hs x h0;rcases q1 (X⊕R') (Sum.map id f) (.inr e)with h | h
  ·rw[h];cases hv:(step x).val with
   | inl x'=>
    obtain⟨q3,q4⟩:=q2 x' hv;simp only[Sum.map_inl,id_eq,V8,hv];exact ih q3 au
   | inr r=>
    simp only[Sum.map_inr,V8,hv];exact .inl trivial
  ·rw[h];exact .inr rfl
end
end Go.Vc
namespace Go.Vc
open Go.RowKit
structure Seat (D:Type) where
 P:Program
 S:Sh D
 T:TypeId->Option Ty
 mx:P.follows .mixedOrders=true
 hT:∀t ty,T t=some ty->fU P t ty
 hS:jd S
structure aU {D:Type}(Z:Seat D) where
 f:FuncId
 ct:Ct D
 ok:fV Z.P Z.S f ct
section
variable {D:Type}{Z:Seat D}
def CB:List (aU Z)->FuncId->Option (Ct D)
 | [],_=>none
 | e::r,f=>if Nat.beq f e.f then(match CB r f with
  | some c=>some (aAL e.ct c)
  | none=>some e.ct)else CB r f
theorem E5:∀{l:List (aU Z)} {f:FuncId} {ct:Ct D},CB l f=some ct->fV Z.P Z.S f ct
 | [],f,ct,h=>by cases h
 | e::r,f,ct,h=>by
  unfold CB at h;split at h
  ·rename_i he;have he:=Qa he;subst he;split at h
   ·rename_i c hc;injection h with h
    subst h;exact aya e.ok (E5 hc)
   ·injection h with h
    subst h;exact e.ok
  ·exact E5 h
structure Sh1 (S:Sh D):Type 1 where
 i:Nat
 sh:FU D
 ok:qN S sh
def jS {S:Sh D}(i:Nat)(sh:FU D)[h:qN S sh]:Sh1 S:=⟨i,sh,h⟩
def jL {S:Sh D}:List (Sh1 S)->Nat->Option (FU D)
 | [],_=>none
 | s::r,n=>if Nat.beq n s.i then some s.sh else jL r n
theorem azr {S:Sh D}:∀{l:List (Sh1 S)} {i:Nat} {sh:FU D},jL l i=some sh->qN S sh
 | [],i,sh,h=>by cases h
 | s::r,i,sh,h=>by
  unfold jL at h;split at h
  ·injection h with h
   subst h;exact s.ok
  ·exact azr h
def F8 (fn:Func):Code:=fn.body.getD .skip
def xy (fn:Func):Bool:=fn.body.isSome && (fn.name != "runtime.NumGoroutine" && qU (F8 fn))
def yK (Z:Seat D)(Γ:FuncId->Option (Ct D))(J:Nat->Option (FU D))(AS:vJ D)(RS:FU D)(iJ:Nat)(keep:List Nat)(fn:Func)(n:Nat)(a:AS.A):Tr D RS.X:=
 U_ Z.T Z.S Γ n J (F8 fn) RS.X (St.init (AS.enc a).1 (AS.enc a).2) (aGS Z.T Z.S fn.results.toList RS iJ keep)
theorem ati {Γ:FuncId->Option (Ct D)}(hΓ:∀f ct,Γ f=some ct->fV Z.P Z.S f ct){J:List (Sh1 Z.S)}{AS:vJ D}{RS:FU D}{iJ n:Nat}{keep:List Nat}{f:FuncId}{fn:Func}(hAS:OY Z.S AS iJ n)(hRS:qN Z.S RS)
  (hf:Z.P.funcs[f]? =some fn) (hn:fn.ntmps=n) (hc:xy fn=true) (k:Nat) (hk:fn.results.toList.length=k) (F:AS.A->Pg RS.X) (pre:AS.A->Option Prop) (hrun:∀a e,ql (pre a)->(F a).run e=(yK Z Γ (jL J) AS RS iJ keep fn n a).run e)
  (fv:AS.A->RS.X) (his:∀a,ql (pre a)->Is (F a)/\(F a).val=fv a):fV Z.P Z.S f (oL AS RS k keep pre fv):=by
 subst hk;simp only[xy,jY,Qd5,ne_eq]at hc;obtain⟨h1,h2,h3⟩:=hc;obtain⟨c,hb⟩:=Qb2.1 h1;have hbf:F8 fn=c:=by simp[F8,hb]
 refine aDp (J:=jL J) Z.mx Z.hT hΓ Z.hS (fun i sh h=>azr (l:=J) h) hf hb (by simpa using h2) hn rfl (by rw[<-hbf];exact h3) hAS hRS pre fv fun a ha=> ?_;obtain⟨q1,q2⟩:=his a ha;have h:=hrun a (F a).val ha;rw[q1.run,q2]at h;unfold yK at h;rw[hbf]at h;exact h.symm
theorem iG {AS:vJ D}{RS:FU D}{k:Nat}{keep:List Nat}{f:FuncId}{fn:Func}(hf:Z.P.funcs[f]? =some fn)(hc:xy fn=true){pre:AS.A->Option Prop}{fv:AS.A->RS.X}(hz:∀a,ql (pre a)->False):
  fV Z.P Z.S f (oL AS RS k keep pre fv):=by
 simp only[xy,jY,Qd5,ne_eq]at hc;obtain⟨h1,h2,h3⟩:=hc;obtain⟨c,hb⟩:=Qb2.1 h1;refine⟨fun args w=>by simp[callFunc,hf,h2,hb],fun X N g w args nT dH p r post kp hp hrel hct hpre=> ?_⟩;unfold oL at hct;split at hct
 ·cases hct
 ·injection hct with hct
  injection hct with q1 hct
  subst q1;exact(hz _ (C_.1 hpre)).elim
noncomputable def vS (Z:Seat D)(env:List (aU Z))(J:List (Sh1 Z.S))(AS:vJ D){iJ n:Nat}(hAS:OY Z.S AS iJ n)(RS:FU D)[hRS:qN Z.S RS](keep:List Nat){f:FuncId}{fn:Func}
  (hf:Z.P.funcs[f]? =some fn) (hn:fn.ntmps=n) (hc:xy fn=true) (k:Nat) (hk:fn.results.toList.length=k) (F:AS.A->Pg RS.X) (pre:AS.A->Option Prop) (hrun:∀a e,ql (pre a)->(F a).run e=(yK Z (CB env) (jL J) AS RS iJ keep fn n a).run e)
  (fv:AS.A->RS.X) (his:∀a,ql (pre a)->Is (F a)/\(F a).val=fv a):aU Z:=
 ⟨f,oL AS RS k keep pre fv,ati (fun _ _=>E5) hAS hRS hf hn hc k hk F pre hrun fv his⟩
end
end Go.Vc
namespace Go.Vc
section
variable {A R Y:Type}
def mQ (p:A->Bool):List A->Nat->Int
 | [],_=> -1
 | a::l,k=>bif p a then(↑k:Int)else mQ p l (k+1)
def fG (p:A->Bool)(l:List A):Int:=mQ p l 0
theorem o5 (p:A->Bool):∀(l:List A) (k:Nat),BA (fun k a (_:Unit)=>cond (p a) (.inr (↑k:Int)) (.inl ())) (fun _ _=>(-1:Int)) l k ()=mQ p l k
 | [],_=>rfl
 | a::l,k=>by
  unfold BA mQ;cases p a with
  | true=>rfl
  | false=>exact o5 p l (k+1)
theorem NW (p:A->Bool):∀(l:List A) (k:Nat),(mQ p l k= -1/\∀a∈l,p a=false)\/∃(u:List A) (a:A) (v:List A),l=u++a::v/\p a=true/\(∀x∈u,p x=false)/\mQ p l k=↑(k+u.length)
 | [],k=> .inl ⟨rfl,fun a h=>by simp at h⟩
 | a::l,k=>by
  unfold mQ;cases ha:p a with
  | true=>exact .inr ⟨[],a,l,rfl,ha,(fun x h=>by simp at h),rfl⟩
  | false=>
   rcases NW p l (k+1)with⟨h1,h2⟩ | ⟨u,b,v,h1,h2,h3,h4⟩
   ·refine .inl ⟨h1,fun b hb=> ?_⟩;rcases yR.1 hb with rfl | hb
    ·exact ha
    ·exact h2 b hb
   ·refine .inr ⟨a::u,b,v,by rw[h1];rfl,h2,fun x hx=> ?_,?_⟩
    ·rcases yR.1 hx with rfl | hx
     ·exact ha
     ·exact h3 x hx
    ·simp only[nR,h4,xH];congr 1;omega
theorem rF (p:A->Bool)(l:List A):(fG p l= -1/\∀a∈l,p a=false)\/∃(u:List A) (a:A) (v:List A),l=u++a::v/\p a=true/\(∀x∈u,p x=false)/\fG p l=↑u.length:=by
 have:=NW p l 0;unfold fG;simpa only[BZ]using this
theorem lF (p:A->Bool)(l:List A):fG p l < l.length/\ -1<=fG p l:=by
 rcases rF p l with⟨h,_⟩ | ⟨u,a,v,rfl,_,_,h⟩
 ·rw[h];omega
 ·rw[h];simp;omega
theorem KC {X:Type}{step:X->X⊕R}{r0:R}(I:X->Prop)(mu:X->Nat)(Q:R->Prop)(hs:∀x,I x->(∃x',step x= .inl x'/\I x'/\mu x' < mu x)\/∃r,step x= .inr r/\Q r):∀(n:Nat) (x:X),I x->mu x < n->Q (V8 step r0 n x)
 | 0,x,_,h=>by omega
 | n+1,x,hI,h=>by
  unfold V8;rcases hs x hI with⟨x',h1,h2,h3⟩ | ⟨r,h1,h2⟩
  ·rw[h1];exact KC I mu Q hs n x' h2 au
  ·rw[h1];exact h2
def acK (p:A->Bool)(d:A)(l:List A):Pg (List A):=
 .lt (fG p l) fun v1=> .br (v1==(-1)) (.ret l)
  (.lt (dD .i64 (v1+1)) fun v4=>
   .wh (l.length+1) default
    (fun(x3:Int×Int×List A)=>
     .as (x3.snd.snd.length<=9223372036854775807)
      (.br (decide (x3.fst < (↑x3.snd.snd.length:Int)))
       (.ix x3.fst x3.snd.snd.length
        (.ob (x3.fst.toNat < x3.snd.snd.length)
         (.lt (dD .i64 (x3.fst+1)) fun(v5:Int)=>
          .br (!p (x3.snd.snd.getD x3.fst.toNat d))
           (.ix x3.snd.fst x3.snd.snd.length
            (.ob (x3.snd.fst.toNat < x3.snd.snd.length)
             (.ret (.inl (v5,dD .i64 (x3.snd.fst+1),x3.snd.snd.set x3.snd.fst.toNat (x3.snd.snd.getD x3.fst.toNat d))))))
           (.ret (.inl (v5,x3.snd))))))
       (.ob (0<=x3.snd.fst/\x3.snd.fst<=(↑x3.snd.snd.length:Int)/\(↑x3.snd.snd.length:Int)<=(↑x3.snd.snd.length:Int))
        (.ob (x3.snd.snd.length=x3.snd.snd.length)
         (.lt (List.take x3.snd.fst.toNat x3.snd.snd++List.replicate (x3.snd.snd.length - x3.snd.fst.toNat) d) fun(v6:List A)=>
          .ob ((0:Int)<=0/\0<=x3.snd.fst/\x3.snd.fst<=(↑v6.length:Int)) (.ret (.inr (List.take x3.snd.fst.toNat v6))))))))
    (v4,v1,l))
structure anw (p:A->Bool)(l:List A)(x:Int×Int×List A)(j i:Nat):Prop where
 hj:x.1=↑j
 hi:x.2.1=↑i
 lt:i < j
 le:j<=l.length
 len:x.2.2.length=l.length
 tk:x.2.2.take i=(l.take j).filter fun a=> !p a
 dr:x.2.2.drop j=l.drop j
theorem LG (p:A->Bool)(d:A)(l:List A)(hl:l.length<=9223372036854775806):Is (acK p d l)/\(acK p d l).val=l.filter fun a=> !p a:=by
 unfold acK;rcases rF p l with⟨h1,h2⟩ | ⟨u,a,v,hu,ha,hb,hx⟩
 ·rw[h1];refine⟨dB fun v1 hv1=>by subst hv1;exact di (fun _=>aT) (fun h=>by cases h),?_⟩;simp only[dE,bH,aV];refine(Qdt.2 fun a ha=> ?_).symm;rw[h2 a ha];rfl
 ·rw[hx];have hlen:l.length=u.length+(v.length+1):=by rw[hu];simp
  have hne:(((u.length:Int))== -1)=false:=by
   rw[Qb7];omega
  have hw:dD .i64 ((u.length:Int)+1)=((u.length+1:Nat):Int):=by
   rw[fO (k:= .i64) zO];omega
  have h0:anw p l (dD .i64 ((u.length:Int)+1),(u.length:Int),l) (u.length+1) u.length:=by
   refine⟨hw,rfl,by omega,by omega,rfl,?_,rfl⟩;show l.take u.length=_
   rw[hu];have:(u++a::v).take (u.length+1)=u++[a]:=by
    rw[show u++a::v=(u++[a])++v by simp,show u.length+1=(u++[a]).length by simp,Qc7]
   rw[this,Qbw,Qc7];have e1:u.filter (fun a=> !p a)=u:=Qdt.2 fun x hx=>by rw[hb x hx];rfl
   rw[e1];simp[ha]
  have at_:∀(x:Int×Int×List A) (j i:Nat),anw p l x j i->j < l.length->x.2.2.getD j d=l.getD j d/\l.take (j+1)=l.take j++[l.getD j d]/\x.2.2.drop (j+1)=l.drop (j+1):=by
   intro x j i hx hj;have hj2:j < x.2.2.length:=by rw[hx.len];exact hj
   have e1:=Qbm hj;have e2:=Qbm hj2;have:=hx.dr;rw[e1,e2]at this;injection this with q1 q2
   refine⟨by rw[getD_some hj,getD_some hj2,q1],?_,q2⟩;rw[getD_some hj,Qbv hj]
  have step:∀(x:Int×Int×List A) (j i:Nat),anw p l x j i->j < l.length->∀q,p (l.getD j d)=q->
    anw p l (dD .i64 (x.1+1),(cond (!q) (dD .i64 (x.2.1+1),x.2.2.set x.2.1.toNat (x.2.2.getD x.1.toNat d)) x.2)) (j+1) (cond (!q) (i+1) i):=by
   intro x j i hx hj q hq;obtain⟨k1,k2,k3⟩:=at_ x j i hx hj
   have w1:dD .i64 (x.1+1)=((j+1:Nat):Int):=by rw[hx.hj,fO (k:= .i64) zO];omega
   have hlt:=hx.lt;cases q with
   | true=>
    refine⟨w1,hx.hi,?_,by omega,hx.len,?_,k3⟩
    ·simp;omega
    ·show x.2.2.take i=_
     rw[hx.tk,k2,Qbw,Qcg,hq];simp
   | false=>
    refine⟨w1,?_,?_,by omega,?_,?_,?_⟩
    ·show dD .i64 (x.2.1+1)=_
     rw[hx.hi,fO (k:= .i64) zO];simp
    ·simp;omega
    ·simp[hx.len]
    ·show(x.2.2.set x.2.1.toNat (x.2.2.getD x.1.toNat d)).take (i+1)=_
     rw[hx.hi,hx.hj,zk,zk,k1];have hi2:i < (x.2.2.set i (l.getD j d)).length:=by rw[Qbq,hx.len];omega
     rw[Qbv hi2,List.getElem_set_self,List.take_set_of_le (lU i),hx.tk,k2,Qbw,Qcg,hq];simp
    ·show(x.2.2.set x.2.1.toNat (x.2.2.getD x.1.toNat d)).drop (j+1)=_
     rw[hx.hi,zk,Qdr au];exact k3
  refine⟨dB fun v1 hv1=>di (fun _=>aT) fun _=>dB fun v4 hv4=> ?_,?_⟩
  ·subst hv1 hv4;refine Gg (fun x=>∃j i,anw p l x j i) (fun x=>l.length - x.1.toNat) ⟨_,_,h0⟩ au ?_;rintro x ⟨j,i,hx⟩;have q1:=hx.hj;have q2:=hx.hi;have q3:=hx.lt;have q4:=hx.le;have q5:=hx.len;refine⟨iH fun _=>dV (fun h=>dm au au (aX au (dB fun v5 hv5=>di (fun _=>dm au au (aX au aT)) (fun _=>aT)))) (fun h=>aX au (aX rfl (dB fun v6 hv6=>aX qb4 aT))),fun x' hx'=> ?_⟩;revert hx';simp only[kN,bH,iV,dK,dE,aV];by_cases h:x.1 < (↑x.2.2.length:Int)
   ·simp only[h,decide_true,wB];intro e;have hj:j < l.length:=by omega
    obtain⟨k1,_,_⟩:=at_ x j i hx hj
    have hs:=step x j i hx hj _ rfl;have ek:x.2.2.getD x.1.toNat d=l.getD j d:=by rw[q1,zk];exact k1
    rw[ek]at e hs;have w1:dD .i64 (x.1+1)=((j+1:Nat):Int):=hs.hj;cases hq:p (l.getD j d)with
    | true=>
     rw[hq]at e hs;injection e with e
     subst e;exact⟨⟨_,_,hs⟩,by
       have:(dD .i64 (x.1+1)).toNat=j+1:=by rw[w1];rfl
       show l.length - (dD .i64 (x.1+1)).toNat < _
       omega⟩
    | false=>
     rw[hq]at e hs;injection e with e
     subst e;exact⟨⟨_,_,hs⟩,by
       have:(dD .i64 (x.1+1)).toNat=j+1:=by rw[w1];rfl
       show l.length - (dD .i64 (x.1+1)).toNat < _
       omega⟩
   ·simp only[h,decide_false,nR];intro e;cases e
  ·simp only[dE,bH,hne,nR,Bv];refine KC (fun x=>∃j i,anw p l x j i) (fun x=>l.length - x.1.toNat) (fun r=>r=l.filter fun a=> !p a) ?_ _ _ ⟨_,_,h0⟩ au;rintro x ⟨j,i,hx⟩;have q1:=hx.hj;have q2:=hx.hi;have q3:=hx.lt;have q4:=hx.le;have q5:=hx.len;simp only[kN,bH,iV,dK,dE,aV];by_cases h:x.1 < (↑x.2.2.length:Int)
   ·left
    simp only[h,decide_true,wB];have hj:j < l.length:=by omega
    obtain⟨k1,_,_⟩:=at_ x j i hx hj
    have hs:=step x j i hx hj _ rfl;have ek:x.2.2.getD x.1.toNat d=l.getD j d:=by rw[q1,zk];exact k1
    rw[ek]at hs⊢;have w1:dD .i64 (x.1+1)=((j+1:Nat):Int):=hs.hj;have hm:l.length - (dD .i64 (x.1+1)).toNat < l.length - x.1.toNat:=by
     have:(dD .i64 (x.1+1)).toNat=j+1:=by rw[w1];rfl
     omega
    cases hq:p (l.getD j d)with
    | true=>rw[hq]at hs;exact⟨_,rfl,⟨_,_,hs⟩,hm⟩
    | false=>rw[hq]at hs;exact⟨_,rfl,⟨_,_,hs⟩,hm⟩
   ·right
    simp only[h,decide_false,nR];refine⟨_,rfl,?_⟩;have hj:j=l.length:=by omega
    rw[q2,zk];have e:=hx.tk;rw[hj,DT]at e;rw[<-e,Qbs qa8,Qc8,Nat.min_self]
theorem Rf (p:A->Bool):∀(u:List A) (a:A) (v:List A) (k:Nat),(∀x∈u,p x=false)->p a=true->mQ p (u++a::v) k=↑(k+u.length)
 | [],a,v,k,_,h=>by simp[mQ,h]
 | x::u,a,v,k,hu,h=>by
  simp only[Qbu,mQ,hu x oJ,nR];rw[Rf p u a v (k+1) (fun y hy=>hu y qcu) h];simp only[xH];congr 1;omega
theorem aew (p:A->Bool)(u:List A)(a:A)(v:List A)(hu:∀x∈u,p x=false)(h:p a=true):fG p (u++a::v)=↑u.length:=by
 have:=Rf p u a v 0 hu h;rwa [BZ]at this
theorem Vz (u:List A)(a d:A)(v:List A):(u++a::v).getD u.length d=a:=by simp[List.getD]
theorem set_mid (u:List A)(a b:A)(v:List A):(u++a::v).set u.length b=u++b::v:=by
 rw[Qd3 _ _ (lU _)];simp
theorem adK (g:A->A)(d:A)(f:Int->List A->R):∀(v u:List A),vW (fun i y=> .inl (y.set i.toNat (g (y.getD i.toNat d)))) f v.length ↑u.length (u++v)=f ↑(u.length+v.length) (u++v.map g)
 | [],u=>rfl
 | a::v,u=>by
  show vW _ f v.length (↑u.length+1) ((u++a::v).set (↑u.length:Int).toNat (g ((u++a::v).getD (↑u.length:Int).toNat d)))=_
  rw[zk,Vz,set_mid];have:=adK g d f v (u++[g a]);simp only[Qba,Qbu,Qcc,pz,Qcp]at this;rw[show((u.length:Int)+1)=((u.length+1:Nat):Int) by omega,this];simp only[xH,F_];congr 2;omega
theorem amQ (g:A->A)(d:A)(f:Int->List A->R)(l:List A):vW (fun i y=> .inl (y.set i.toNat (g (y.getD i.toNat d)))) f (↑l.length - 0:Int).toNat 0 l=f ↑l.length (l.map g):=by
 have:=adK g d f l [];simpa using this
theorem getD_mem {l:List A}{i:Nat}{d:A}(h:i < l.length):l.getD i d∈l:=by
 rw[getD_some h];exact List.getElem_mem h
theorem am9 (b:Int->Y->Y⊕R)(f:Int->Y->R)(n:Nat)(i:Int)(y:Y):vW b f (n+1) i y=thenS (b i y) (vW b f n (i+1)):=by
 unfold vW thenS;cases b i y<;>rfl
theorem amZ (b:Int->Unit->Unit⊕R)(f:Int->Unit->R)(n:Nat)(i:Int):vW b f (n+1) i ()=thenS (b i ()) fun _=>vW b f n (i+1) ():=
 (am9 b f n i ()).trans (Qd (thenS (b i ())) (funext fun u=>rfl))
end
end Go.Vc
namespace Go.Vc
section
variable {R A X Y:Type}
def jP (t:Pg R)(Q:R->Prop):Prop:=Is t/\Q t.val
theorem jP.is {t:Pg R}{Q:R->Prop}(h:jP t Q):Is t:=h.1
theorem ah {Q:R->Prop}{r:R}(h:Q r):jP (.ret r) Q:=⟨aT,h⟩
theorem ak {Q:R->Prop}{p:Prop}{k:Pg R}(hp:p)(hk:jP k Q):jP (.ob p k) Q:=⟨aX hp hk.1,hk.2⟩
theorem bi {Q:R->Prop}{i:Int}{n:Nat}{k:Pg R}(h1:0<=i)(h2:i < ↑n)(hk:jP k Q):jP (.ix i n k) Q:=ak ⟨h1,h2⟩ hk
theorem bZ {Q:R->Prop}{p:Prop}{k:Pg R}(hk:jP k Q):jP (.as p k) Q:=⟨iH fun _=>hk.1,hk.2⟩
theorem dR {Q:R->Prop}{b:Bool}{t e:Pg R}(ht:b=true->jP t Q)(he:b=false->jP e Q):jP (.br b t e) Q:=
 ⟨di (fun h=>(ht h).1) (fun h=>(he h).1),by
  cases b with
  | true=>exact(ht rfl).2
  | false=>exact(he rfl).2⟩
theorem bV {Q:R->Prop}{p:Prop}{inst:Decidable p}{t e:Pg R}(ht:p->jP t Q)(he:¬p->jP e Q):jP (.br (@decide p inst) t e) Q:=
 dR (fun h=>ht (Cj h)) (fun h=>he (Qcf h))
theorem dO {Q:R->Prop}{a b:A}[h:BEq A][lw:LawfulBEq A]{t e:Pg R}(ht:a=b->jP t Q)(he:¬a=b->jP e Q):jP (.br (a==b) t e) Q:=
 dR (fun h=>ht qbq) (fun h=>he qbq)
theorem dw {Q:R->Prop}{a b:A}[h:BEq A][lw:LawfulBEq A]{t e:Pg R}(ht:¬a=b->jP t Q)(he:a=b->jP e Q):jP (.br (a !=b) t e) Q:=
 dR (fun h=>ht qbq) (fun h=>he qbq)
theorem aC {Q:R->Prop}{v:A}{k:A->Pg R}(h:∀x,x=v->jP (k x) Q):jP (.lt v k) Q:=h v rfl
theorem pG {Q:R->Prop}{n:Int}{k:Int->Pg R}(h:∀x,x=dD .i64 n->(-9223372036854775808<=n/\n<=9223372036854775807->x=n)->jP (k x) Q):jP (.lt (dD .i64 n) k) Q:=
 h _ rfl fun hn=>fO (k:= .i64) hn
theorem dh {Q:R->Prop}(Q1:X->Prop){a:Pg (X⊕R)}{k:X->Pg R}(ha:jP a (Sum.elim Q1 Q))(hk:∀x,Q1 x->jP (k x) Q):jP (.cut k a) Q:=by
 have key:∀x,a.val= .inl x->Q1 x:=fun x hx=>by
  have:=ha.2;rw[hx]at this;exact this
 refine⟨oQ ha.1 fun x hx=>(hk x (key x hx)).1,?_⟩;rw[mr];have h2:=ha.2;cases hv:a.val with
 | inl x=>exact(hk x (key x hv)).2
 | inr r=>rw[hv]at h2;exact h2
theorem EL {b:Nat->A->Y->Y⊕R}{f:Nat->Y->R}{d:A}{Q:R->Prop}(I:Nat->Y->Prop):∀(l:List A) (k:Nat) (y:Y),I k y->(∀j y,j < l.length->I (k+j) y->Sum.elim (I (k+j+1)) Q (b (k+j) (l.getD j d) y))->(∀y,I (k+l.length) y->Q (f (k+l.length) y))->Q (BA b f l k y)
 | [],k,y,h0,_,hf=>hf y h0
 | a::l,k,y,h0,hb,hf=>by
  unfold BA;have h1:=hb 0 y oJ h0;have e:(a::l).getD 0 d=a:=rfl;rw[e]at h1;simp only[MB]at h1;cases hv:b k a y with
  | inr r=>rw[hv]at h1;exact h1
  | inl y'=>
   rw[hv]at h1;refine EL (d:=d) I l (k+1) y' h1 (fun j z hj hz=> ?_) (fun z hz=> ?_)
   ·have:=hb (j+1) z qbo (by rw[<-Qc4,Nat.add_right_comm];exact hz);rw[show k+(j+1)=k+1+j by omega]at this;exact this
   ·have:=hf z (by simp only[xH];rw[show k+(l.length+1)=k+1+l.length by omega];exact hz);simp only[xH]at this;rw[show k+(l.length+1)=k+1+l.length by omega]at this;exact this
theorem df {Q:R->Prop}{h:Bool}{s:Ix X Y}{l:List A}{d:A}{body:Int->A->Y->Pg (Y⊕R)}{fin:Int->Y->Pg R}{y:Y}(I:Nat->Y->Prop)(h0:I 0 y)(hl:l.length<=9223372036854775807)
  (hb:∀(k:Nat) (y:Y),k < l.length->I k y->jP (body ↑k (l.getD k d) y) (Sum.elim (I (k+1)) Q)) (hf:∀y,I l.length y->jP (fin ↑l.length y) Q):jP (.each h s l d body fin y) Q:=by
 refine⟨Ku I h0 (.inr hl) (fun k y h1 _ h2=>⟨(hb k y h1 h2).1,fun y' hy=> ?_⟩) (fun y _ h=>(hf y h).1),?_⟩
 ·have:=(hb k y h1 h2).2;rw[hy]at this;exact this
 ·rw[qJ];refine EL (d:=d) I l 0 y h0 (fun j y hj hI=> ?_) (fun y hI=> ?_)
  ·rw[BZ]at hI⊢;exact(hb j y hj hI).2
  ·rw[BZ]at hI⊢;exact(hf y hI).2
theorem EE {b:Int->Y->Y⊕R}{f:Int->Y->R}{Q:R->Prop}(I:Int->Y->Prop)(e:Int):∀(n:Nat) (i:Int) (y:Y),(e - i).toNat=n->I i y->(∀i y,i < e->I i y->Sum.elim (I (i+1)) Q (b i y))->(∀i y,e<=i->I i y->Q (f i y))->Q (vW b f n i y)
 | 0,i,y,hn,h0,_,hf=>hf i y au h0
 | n+1,i,y,hn,h0,hb,hf=>by
  unfold vW;have h1:=hb i y au h0;cases hv:b i y with
  | inr r=>rw[hv]at h1;exact h1
  | inl y'=>rw[hv]at h1;exact EE I e n (i+1) y' au h1 hb hf
theorem vO {Q:R->Prop}{s:Ix X Y}{a b:Int}{body:Int->Y->Pg (Y⊕R)}{fin:Int->Y->Pg R}{y:Y}(I:Int->Y->Prop)(h0:I a y)(ha: -9223372036854775808<=a)(hm:b<=9223372036854775807)
  (hb:∀(i:Int) (y:Y),a<=i->i < b->I i y->jP (body i y) (Sum.elim (I (i+1)) Q)) (hf:∀i y,a<=i->b<=i->I i y->jP (fin i y) Q):jP (.cnt s a b body fin y) Q:=by
 refine⟨I9 I h0 ha hm (fun i y h1 h2 hI=>⟨(hb i y h1 h2 hI).1,fun y' hy=> ?_⟩) (fun i y h1 h2 h=>(hf i y h1 h2 h).1),?_⟩
 ·have:=(hb i y h1 h2 hI).2;rw[hy]at this;exact this
 ·rw[BM];refine EE (fun i y=>a<=i/\I i y) b _ a y rfl ⟨PE _,h0⟩ (fun i y h1 hI=> ?_) (fun i y h1 hI=>(hf i y hI.1 h1 hI.2).2);have:=(hb i y hI.1 h1 hI.2).2;cases hv:(body i y).val with
  | inr r=>rw[hv]at this;exact this
  | inl y'=>rw[hv]at this;exact⟨by omega,this⟩
theorem wX {Q:R->Prop}{n:Nat}{r0:R}{step:X->Pg (X⊕R)}{x:X}(I:X->Prop)(mu:X->Nat)(h0:I x)(hn:mu x < n)
  (hs:∀x,I x->jP (step x) (Sum.elim (fun x'=>I x'/\mu x' < mu x) Q)):jP (.wh n r0 step x) Q:=by
 refine⟨Gg I mu h0 hn fun x hx=>⟨(hs x hx).1,fun x' hx'=> ?_⟩,?_⟩
 ·have:=(hs x hx).2;rw[hx']at this;exact this
 ·rw[Bv];refine KC I mu Q (fun x hx=> ?_) n x h0 hn;have:=(hs x hx).2;cases hv:(step x).val with
  | inl x'=>rw[hv]at this;exact .inl ⟨x',rfl,this⟩
  | inr r=>rw[hv]at this;exact .inr ⟨r,rfl,this⟩
end
end Go.Vc
namespace Go.Vc
open Go.RowKit Go.ChangeShapes Go.WideShapes Go.ChangeAt Go.Joins
structure Sz (P:Program) where
 M:{H:Type}->TypeId->DataW H->Nat->Prop
 str:∀{H:Type} {t:TypeId} {s:List UInt8} {n:Nat},M (H:=H) t (.lit (.string s)) n->s.length<=n
 sl:∀{H:Type} {t e:TypeId} {el sp:List (DataW H)} {n:Nat},P.underlying t=some (.slice e)->1<=P.bytesOf e->M t (.slice el sp) n->el.length<=n/\∀d∈el,M e d n
 st:∀{H:Type} {t:TypeId} {fs:Array Field} {ps:List (DataW H)} {n:Nat},P.underlying t=some (.struct fs)->M t (.agg ps) n->∀(i:Nat) (f:Field) (p:DataW H),fs[i]? =some f->ps[i]? =some p->M f.type p n
section
variable {D α β:Type}{S:Sh D}{P:Program}{Z:Sz P}{F:Nat}
def eX (F:Nat)(P:Program)(S:Sh D)(Z:Sz P)(t:TypeId)(c:jq D α)(good:Nat->α->Prop):Prop:=
 ∀{H:Type} {enc:TypeId×Value->H} {w:World} {base:Nat} {spare:Nat->Bool} {held:Bool} {fuel:Nat} {cs:List Value} {x:DataW H×List MemPlace},
  fuel < F->DataW.trod enc P w base spare held fuel t cs=some x->∃a,aZ S NoN w noG (c.enc a) cs/\∀n,Z.M t x.1 n->good n a
theorem eQ {t:TypeId}{c:jq D α}{good:α->Prop}(h:aiu P S t c good):eX F P S Z t c fun _ a=>good a:=by
 intro H enc w base spare held fuel cs x _ hx;obtain⟨a,h1,h2⟩:=h hx;exact⟨a,h1,fun _ _=>h2⟩
theorem Dv {t:TypeId}{c:jq D α}{good good':Nat->α->Prop}(h:eX F P S Z t c good)(hg:∀n a,good n a->good' n a):eX F P S Z t c good':=by
 intro H enc w base spare held fuel cs x hF hx;obtain⟨a,h1,h2⟩:=h hF hx;exact⟨a,h1,fun n hn=>hg n a (h2 n hn)⟩
theorem Uu {t:TypeId}{c:jq D α}{good:Nat->α->Prop}:eX 0 P S Z t c good:=by
 intro H enc w base spare held fuel cs x hF;omega
theorem gq {t:TypeId}(ht:P.underlying t=some .string):eX F P S Z t cStr fun n s=>s.length<=n:=by
 intro H enc w base spare held fuel cs x _ hx;obtain⟨a,h1,h2⟩:=al1 (S:=S) ht hx;obtain⟨s,e1,e2,_⟩:=DataW.trod_string ht hx;refine⟨a,h1,fun n hn=> ?_⟩;rw[e2]at hn;have:=Z.str hn;rw[e1]at h1;have h1:Value.string s= .string ⟨a.toArray⟩/\_:=h1.1;injection h1.1 with h3
 rw[h3]at this;simpa using this
def Jz (F:Nat)(P:Program)(S:Sh D)(Z:Sz P)(fs:List Field)(off:Nat)(c:jq D α)(good:Nat->α->Prop):Prop:=
 ∀{H:Type} {enc:TypeId×Value->H} {w:World} {base:Nat} {spare:Nat->Bool} {held:Bool} {m:Nat} {cs:List Value} (ps:List (DataW H)),m < F->
  (∀(i:Nat) (f:Field),fs[i]? =some f->∃x:DataW H×List MemPlace,DataW.trod enc P w base spare held m f.type ((cs.drop f.offset).take (P.cellsOf f.type))=some x/\ps[i]? =some x.1)->cs.length=off+c.n->
  ∃a,aZ S NoN w noG (c.enc a) (cs.drop off)/\∀n,(∀(i:Nat) (f:Field) (p:DataW H),fs[i]? =some f->ps[i]? =some p->Z.M f.type p n)->good n a
theorem fZ {f:Field}{off:Nat}{c:jq D α}{good:Nat->α->Prop}(ho:f.offset=off)(hn:P.cellsOf f.type=c.n)(h:eX F P S Z f.type c good):Jz F P S Z [f] off c good:=by
 intro H enc w base spare held m cs ps hF hf hl;obtain⟨x,hx,hp⟩:=hf 0 f rfl;rw[ho,hn,Qb0 qbo]at hx;obtain⟨a,h1,h2⟩:=h hF hx;exact⟨a,h1,fun n hM=>h2 n (hM 0 f x.1 rfl hp)⟩
theorem aO {f:Field}{fs:List Field}{off:Nat}{c:jq D α}{d:jq D β}{good:Nat->α->Prop}{good':Nat->β->Prop}(ho:f.offset=off)(hn:P.cellsOf f.type=c.n)(h:eX F P S Z f.type c good)(hr:Jz F P S Z fs (off+c.n) d good'):
  Jz F P S Z (f::fs) off (bQ c d) fun n p=>good n p.1/\good' n p.2:=by
 intro H enc w base spare held m cs ps hF hf hl;obtain⟨x,hx,hp⟩:=hf 0 f rfl;rw[ho,hn]at hx;obtain⟨a,ha,hga⟩:=h hF hx;obtain⟨b,hb,hgb⟩:=hr (ps.drop 1) hF (fun i f' hf'=>by
  obtain⟨y,hy,hq⟩:=hf (i+1) f' (by simpa using hf');exact⟨y,hy,by rw[Qbk,Qdm];exact hq⟩) (by simp only[bQ]at hl;omega)
 refine⟨(a,b),?_,fun n hM=>⟨hga n (hM 0 f x.1 rfl hp),hgb n fun i f' p hf' hp'=>hM (i+1) f' p (by simpa using hf') (by rw[Qbk,Qdm]at hp';exact hp')⟩⟩;have:=aZ.app ha hb;rw[<-List.drop_drop,Qcq]at this;exact this
theorem rY {t:TypeId}{fs:Array Field}{c:jq D α}{good:Nat->α->Prop}{f:α->β}{g:β->α}(ht:P.underlying t=some (.struct fs))(hn:P.cellsOf t=c.n)(hg:∀a,g (f a)=a)(h:Jz F P S Z fs.toList 0 c good):
  eX (F+1) P S Z t (ni c f g) fun n b=>good n (g b):=by
 intro H enc w base spare held fuel cs x hF hx;obtain⟨xs,m,hm,hxe,hl,hlen,hf⟩:=DataW.trod_struct ht hx;obtain⟨a,ha,hga⟩:=h (m:=m) (cs:=cs) (xs.map (·.1)) au (fun i f' hf'=>by
  have hi':fs[i]? =some f':=by simpa using hf'
  have hlt:i < xs.length:=by rw[hlen];exact(Qcj.1 hi').1
  exact⟨xs[i],by rw[hf i f' hi'];simp[hlt],by simp[hlt]⟩) (by rw[hl,hn];omega)
 refine⟨f a,by simp only[ni,hg];simpa using ha,fun n hM=> ?_⟩;show good n (g (f a))
 rw[hg];rw[hxe]at hM;exact hga n fun i f' p hf' hp=>Z.st ht hM i f' p (by simpa using hf') hp
theorem eX.mono {F':Nat}{t:TypeId}{c:jq D α}{good:Nat->α->Prop}(h:eX F P S Z t c good)(hF:F'<=F):eX F' P S Z t c good:=by
 intro H enc w base spare held fuel cs x hf hx;exact h au hx
theorem fJ {t:TypeId}{fs:Array Field}{c:jq D α}{good:Nat->α->Prop}{f:α->β}{g:β->α}(ht:P.underlying t=some (.struct fs))(hn:P.cellsOf t=c.n)(hg:∀a,g (f a)=a)(h:Jz F P S Z fs.toList 0 c good):
  eX F P S Z t (ni c f g) fun n b=>good n (g b):=by
 intro H enc w base spare held fuel cs x hF hx;exact rY ht hn hg h au hx
theorem gJ {t e:TypeId}{ce:jq D α}{good:Nat->α->Prop}{inj:List α->D}{Nz:D->Option (List α)}{dflt:α}(ht:P.underlying t=some (.slice e))(hb1:1<=P.bytesOf e)(hn:P.cellsOf e=ce.n)(hce:cZ S ce)(h:eX F P S Z e ce good)
  (h1:∀l,S.size (inj l)=ce.n) (h2:∀l,S.len (inj l)=l.length) (h3:∀l i j,S.cell (inj l) i j=(ce.enc (l.getD i dflt)).getD j .any) (h4:∀l,S.mp (inj l)=none:=by intro _;rfl):
  eX F P S Z t (qK inj Nz []) fun n l=>l.length<=n/\∀a∈l,good n a:=by
 intro H enc w base spare held fuel cs x hF hx;rcases DataW.trod_slice ht hx with⟨rfl,_⟩ | ⟨ad,len,cap,elems,rest,m,hfm,rfl,hxe,hb,hl,hm,hlen,hel,_,_⟩
 ·refine⟨[],⟨?_,trivial⟩,fun n _=>⟨by simp,fun a ha=>by simp at ha⟩⟩;have hz:S.len (inj [])=0:=h2 [];intro w' _;have:=Ac.mk (S:=S) (w:=w') (inj []) (h4 []) none 0 (fun _ _=> .bool false) au au (fun i j hi _=>by omega) (fun i j hi _=>by omega) (fun i j _ hi _=>by omega);rwa [hz]at this
 ·have each:∀i,i < len->∃a,(∃vs,w.cells? base (ad.add (i*ce.n)) ce.n=some vs/\aZ S NoN w noG (ce.enc a) vs)/\∀n,(∀y,elems[i]? =some y->Z.M e y.1 n)->good n a:=by
   intro i hi;have:=hel i hi;have hlt:i < elems.length:=by omega
   rw[Wy hlt,hn,Option.bind_eq_some_iff]at this;obtain⟨vs,hv,hy⟩:=this;obtain⟨a,ha,hga⟩:=h au hy;exact⟨a,⟨vs,hv,ha⟩,fun n hM=>hga n (hM _ (Wy hlt))⟩
  obtain⟨l,hll,hq⟩:=aeJ len each;refine⟨l,⟨?_,trivial⟩,fun n hM=> ?_⟩
  ·have key:∀i j,i < l.length->j < ce.n->∃u,w.cell? (ad.add (i*ce.n+j))=some u/\((ce.enc (l.getD i dflt)).getD j .any).Rel S NoN w noG u/\((ce.enc (l.getD i dflt)).getD j .any).jJ=true:=by
    intro i j hi hj;obtain⟨⟨vs,hv,hr⟩,_⟩:=hq i hi;obtain⟨_,hvl,hcell⟩:=World.cells?_some hv;rw[getD_some hi];obtain⟨u,hu,hur⟩:=hr.getD' (j:=j) (by rw[hce.len];exact hj);have:=hcell j hj;rw[add_add',hu]at this;refine⟨u,this,hur,?_⟩;have hlt:j < (ce.enc l[i]).length:=by rw[hce.len];exact hj
    rw[getD_some hlt];exact hce.data _ _ (List.getElem_mem hlt)
   have U:∀i j,∃u,i < l.length->j < ce.n->w.cell? (ad.add (i*ce.n+j))=some u/\((ce.enc (l.getD i dflt)).getD j .any).Rel S NoN w noG u/\((ce.enc (l.getD i dflt)).getD j .any).jJ=true:=by
    intro i j;by_cases hi:i < l.length
    ·by_cases hj:j < ce.n
     ·obtain⟨u,hu⟩:=key i j hi hj;exact⟨u,fun _ _=>hu⟩
     ·exact⟨undef,fun _ h=>absurd h hj⟩
    ·exact⟨undef,fun h=>absurd h hi⟩
   have:=aec (S:=S) (w:=w) (d:=inj l) (a:=some ad) (n:=len) (cap:=cap) (by rw[h2,hll]) hl (by unfold maxLen at hm;omega) (fun i j=>Classical.choose (U i j)) (fun i j hi hj=> ?_) (fun i j hi hj=> ?_) (fun i j d' hi hj he=> ?_)
   ·exact this (h4 l)
   ·rw[h2]at hi;rw[h1]at hj⊢;exact⟨ad,rfl,(Qb9 (U i j) hi hj).1⟩
   ·rw[h2]at hi;rw[h1]at hj;rw[h3 l i j];obtain⟨_,hr,hd⟩:=Qb9 (U i j) hi hj;exact(Ht (w':=w) hd hr (fun _ _ _=>rfl)).1
   ·rw[h2]at hi;rw[h1]at hj;rw[h3 l i j]at he;have hr:=(Qb9 (U i j) hi hj).2.1;generalize Classical.choose (U i j)=u at hr⊢;rw[he]at hr;exact hr
  ·rw[hxe]at hM;obtain⟨k1,k2⟩:=Z.sl ht hb1 hM;refine⟨by rw[Qbl]at k1;omega,fun a ha=> ?_⟩;obtain⟨i,hi,rfl⟩:=Qdu ha;exact(hq i hi).2 n fun y hy=>k2 y.1 (Ik.2 ⟨y,Qbo hy,rfl⟩)
def aay (P:Program)(S:Sh D)(Z:Sz P)(t:TypeId)(c:Arg D α)(good:Nat->α->Prop):Prop:=
 ∀{H:Type} {enc:TypeId×Value->H} {w:World} {r:Reach} {base:Nat} {v:Value} {d:DataW H} {ps:List MemPlace},Value.okWide P w r base t v->DataW.Trod enc P w 0 (fun _=>true) true t v d ps->∃a,(c.enc a).Rel S NoN w noG v/\∀n,Z.M t d n->good n a
theorem amz {t:TypeId}{td:TypeDesc}{c:jq D α}{good:Nat->α->Prop}(ht:P.underlying t=some td)(hs:aG1 td=true)(hc:cZ S c)(hn:c.n=1)(h:∀F,eX F P S Z t c good):aay P S Z t (bn c) good:=by
 intro H enc w r base v d ps hval hd;obtain⟨fuel,hf⟩:=hd;have hv:v.cells.toList=[v]:=by
  simp only[Value.okWide,ht]at hval;cases td<;>simp[aG1]at hs
  all_goals (simp only[Cell.okWide,ht]at hval;cases v<;>simp_all [Cell.ok,Value.cells])
 rw[hv]at hf;obtain⟨a,ha,hg⟩:=h (fuel+1) (Qcy _) hf;refine⟨a,?_,hg⟩;have hl:=hc.len a;simp only[bn];generalize c.enc a=xs at ha hl;cases xs with
 | nil=>exact ha.elim
 | cons x xs=>
  cases xs with
  | cons _ _=>simp[hn]at hl
  | nil=>exact ha.1
theorem afu {t:TypeId}{fs:Array Field}{c:jq D α}{good:Nat->α->Prop}(ht:P.underlying t=some (.struct fs))(h:∀F,eX F P S Z t c good):aay P S Z t (aF c) good:=by
 intro H enc w r base v d ps hval hd;obtain⟨fuel,hf⟩:=hd;simp only[Value.okWide,ht]at hval;obtain⟨cs,rfl,_⟩:=hval;obtain⟨a,ha,hg⟩:=h (fuel+1) (Qcy _) hf;exact⟨a,⟨cs.toList,by simp,by simpa[Value.cells]using ha⟩,hg⟩
def ZC (P:Program)(S:Sh D)(Z:Sz P)(ts:List TypeId)(c:xI D α)(good:Nat->α->Prop):Prop:=
 ∀{H:Type} {enc:TypeId×Value->H} {w:World} {r:Reach} {base:Nat} {vs:List Value} {ds:List (DataW H)} {ps:List MemPlace},(∀(j:Nat) t v,ts[j]? =some t->vs[j]? =some v->Value.okWide P w r base t v)->
  DataW.TrodAll enc P w 0 (fun _=>true) true ts vs ds ps->∃a,iw S NoN w noG (c.enc a) vs/\∀n,(∀(j:Nat) t d,ts[j]? =some t->ds[j]? =some d->Z.M t d n)->good n a
theorem asb {t:TypeId}{c:Arg D α}{good:Nat->α->Prop}(h:aay P S Z t c good):ZC P S Z [t] (a1 c) good:=by
 intro H enc w r base vs ds ps hval hA;obtain⟨v,vs',d,ds',p,q,rfl,rfl,rfl,h1,h2⟩:=trodAll_cons hA;obtain⟨rfl,rfl,rfl⟩:=trodAll_nil h2;obtain⟨a,ha,hg⟩:=h (hval 0 t v rfl rfl) h1;exact⟨a,⟨ha,trivial⟩,fun n hM=>hg n (hM 0 t d rfl rfl)⟩
theorem aeR {t:TypeId}{ts:List TypeId}{c:Arg D α}{r:xI D β}{good:Nat->α->Prop}{good':Nat->β->Prop}(h:aay P S Z t c good)(hr:ZC P S Z ts r good'):ZC P S Z (t::ts) (aj c r) fun n p=>good n p.1/\good' n p.2:=by
 intro H enc w r base vs ds ps hval hA;obtain⟨v,vs',d,ds',p,q,rfl,rfl,rfl,h1,h2⟩:=trodAll_cons hA;obtain⟨a,ha,hg⟩:=h (hval 0 t v rfl rfl) h1;obtain⟨b,hb,hgb⟩:=hr (fun j t' v' h1 h2=>hval (j+1) t' v' qcv (by simpa using h2)) h2;exact⟨(a,b),⟨ha,hb⟩,fun n hM=>⟨hg n (hM 0 t d rfl rfl),hgb n fun j t' d' q1 q2=>hM (j+1) t' d' (by simpa using q1) (by simpa using q2)⟩⟩
theorem afH {f:FuncId}{c:xI D α}{pre:α->Option Prop}{good:Nat->α->Prop}{ts:List TypeId}(n:Nat)(hok:fV P S f (oL (args c) as3 1 [] pre (fun _=>true)))(hdec:∀a,c.dec (c.enc a)=some a)(hopen:ZC P S Z ts c good)
  (hpre:∀a,good n a->ql (pre a)) {H:Type} {enc:TypeId×Value->H} {w:World} {r:Reach} {base:Nat} {vs:List Value} {ds:List (DataW H)} {ps:List MemPlace}
  (hgl:ab4 S NoN w) (hM:∀(j:Nat) t d,ts[j]? =some t->ds[j]? =some d->Z.M t d n) (hval:∀(j:Nat) t v,ts[j]? =some t->vs[j]? =some v->Value.okWide P w r base t v) (hA:DataW.TrodAll enc P w 0 (fun _=>true) true ts vs ds ps):
  Calls P f vs.toArray w fun e w'=>e= .returned (.bool true)/\Below w.heap.size w w':=by
 obtain⟨a,hr,hg⟩:=hopen hval hA;have hpa:=hpre a (hg n hM);have hM0:aW NoN (kQ ([]:List (Bk D))) noG=NoN:=by
  funext b;simp[aW,kQ,hot]
 have hp:Hp S ⟨w,fun _=>False⟩ NoN (kQ ([]:List (Bk D))) noG (· < ([]:List (Bk D)).length) w:=
  ⟨Ee.refl ⟨w,fun _=>False⟩,fun b hb=>hb.elim,fun l bk h=>by simp[kQ]at h,fun l l' v v' b h=>by simp[kQ,hot]at h,fun l v h=>by simp[noG]at h,fun l v h=>by simp[noG]at h,by rw[hM0];exact hgl⟩
 refine(hok.calls (fun _=>False) NoN noG w vs (c.enc a) [] ((pre a).map dq) (.one (.lf (.bool true))) [] [] hp (by rw[hM0];exact hr) ?_ (C_.2 hpa)).mono ?_
 ·show oL (args c) as3 1 [] pre (fun _=>true) (c.enc a) []=_
  unfold oL;have:(args c).dec (c.enc a) []=some a:=hdec a;rw[this];rfl
 ·rintro e w' ⟨v,g',rfl,_,hp',hv⟩;have hv:v= .bool true:=hv;exact⟨by rw[hv],⟨hp'.below.os,hp'.below.tape,hp'.below.output,hp'.below.size,fun k hk=>hp'.below.block k hk (fun h=>h)⟩⟩
end
end Go.Vc
namespace Go.Vc
open Go.RowKit
theorem kr {p:Prop}(h:p:=by kernel_rfl):p:=h
theorem iR {A:Sort _}{R:Type}{r:R}:A->Is (.ret r):=fun _=>aT
theorem isA {R:Type}{t:Pg R}(h:Is t:=by
 repeat' first
  | exact aT
  | exact qI (b_ au au)
  | refine pK (fun _ _ _=> ?_)
  | refine dB (fun _ _=> ?_)
  | refine iH (fun _=> ?_)
  | refine dm au au ?_
  | refine dV (fun _=> ?_) (fun _=> ?_)
  | refine lh (fun _=> ?_) (fun _=> ?_)
  | refine jG (fun _=> ?_) (fun _=> ?_)
  | refine di (fun _=> ?_) (fun _=> ?_)
  | refine aX (by first | assumption | omega | decide | exact b_ au au | exact And.intro rfl (by assumption)) ?_
  | refine oQ ?_ (fun _ _=> ?_)
  | refine gU (.inr au) (fun _ _ _ _=> ?_) (fun _ _=> ?_)
  | refine RX au au (fun _ _ _ _ _=> ?_) (fun _ _=> ?_)):Is t:=h
abbrev cI {D:Type}:jq D Int:=gz .i64
abbrev s0 (n:Nat):It:= .slot n false [none]
abbrev nn (n:Nat):List (Option TypeId):=List.replicate n none
abbrev R1 {D A:Type}(c:jq D A):FU D:=shr [.slot 0 false [none]] (l1 c)
abbrev rl {X R:Type}(x:X):Pg (X⊕R):= .ret (.inl x)
abbrev u2 {A B:Type}{R:Sort _}(f:A->B->R):A×B->R:=fun a=>f a.1 a.2
abbrev u3 {A B C:Type}{R:Sort _}(f:A->B->C->R):A×B×C->R:=fun a=>f a.1 a.2.1 a.2.2
abbrev u4 {A B C E:Type}{R:Sort _}(f:A->B->C->E->R):A×B×C×E->R:=fun a=>f a.1 a.2.1 a.2.2.1 a.2.2.2
abbrev u11 {A B U:Type}{R:Sort _}(f:A->B->R):(A×U)×B->R:=fun a=>f a.1.1 a.2
abbrev aL {A R:Type}(l:List A)(k:Pg R):Pg R:= .as (l.length<=9223372036854775807) k
section
variable {D:Type}{Z:Seat D}{α β:Type}
noncomputable def E0 (env:List (aU Z))(J:List (Sh1 Z.S))(c:xI D α){m:Nat}[hA:mY Z.S m c](RS:FU D)[hRS:qN Z.S RS](keep:List Nat){f:FuncId}{fn:Func}(hf:Z.P.funcs[f]? =some fn)(k:Nat)(F:α->Pg RS.X)
  (his:∀a,Is (F a):=by intro a;exact isA) (hm:Nat.ble m fn.ntmps=true:=by kernel_rfl) (hc:xy fn=true:=by kernel_rfl) (hk:fn.results.toList.length=k:=by kernel_rfl) (hrun:∀a e,ql none->(F a).run e=(yK Z (CB env) (jL J) (args c) RS 0 keep fn fn.ntmps a).run e:=by intro a e _;kernel_rfl):aU Z:=
 vS Z env J (args c) (kL hm) RS keep hf rfl hc k hk F (fun _=>none) (fun a e h=>hrun a e h) (fun a=>(F a).val) fun a _=>⟨his a,rfl⟩
noncomputable def vX (env:List (aU Z))(J:List (Sh1 Z.S))(c:xI D α)(b:Ig D β){m l:Nat}[hA:mY Z.S m c][hB:tq Z.S l b](RS:FU D)[hRS:qN Z.S RS](keep:List Nat){f:FuncId}{fn:Func}(hf:Z.P.funcs[f]? =some fn)(k:Nat)(F:α×β->Pg RS.X)
  (his:∀a,Is (F a):=by intro a;exact isA) (hm:Nat.ble m fn.ntmps=true:=by kernel_rfl) (hc:xy fn=true:=by kernel_rfl) (hk:fn.results.toList.length=k:=by kernel_rfl) (hrun:∀a e,ql none->(F a).run e=(yK Z (CB env) (jL J) (kz c b) RS l keep fn fn.ntmps a).run e:=by intro a e _;kernel_rfl):aU Z:=
 vS Z env J (kz c b) (oq hm) RS keep hf rfl hc k hk F (fun _=>none) (fun a e h=>hrun a e h) (fun a=>(F a).val) fun a _=>⟨his a,rfl⟩
noncomputable def E1 (env:List (aU Z))(J:List (Sh1 Z.S))(c:xI D α){m:Nat}[hA:mY Z.S m c](RS:FU D)[hRS:qN Z.S RS](keep:List Nat){f:FuncId}{fn:Func}(hf:Z.P.funcs[f]? =some fn)(k:Nat)(F:α->Pg RS.X)(pre:α->Prop)
  (his:∀a,pre a->Is (F a):=by intro a h;exact isA) (hm:Nat.ble m fn.ntmps=true:=by kernel_rfl) (hc:xy fn=true:=by kernel_rfl) (hk:fn.results.toList.length=k:=by kernel_rfl) (hrun:∀a e,pre a->(F a).run e=(yK Z (CB env) (jL J) (args c) RS 0 keep fn fn.ntmps a).run e:=by intro a e _;kernel_rfl):aU Z:=
 vS Z env J (args c) (kL hm) RS keep hf rfl hc k hk F (fun a=>some (pre a)) (fun a e h=>hrun a e h) (fun a=>(F a).val) fun a h=>⟨his a h,rfl⟩
noncomputable def EK (env:List (aU Z))(J:List (Sh1 Z.S))(c:xI D α)(b:Ig D β){m l:Nat}[hA:mY Z.S m c][hB:tq Z.S l b](RS:FU D)[hRS:qN Z.S RS](keep:List Nat){f:FuncId}{fn:Func}(hf:Z.P.funcs[f]? =some fn)(k:Nat)(F:α×β->Pg RS.X)(pre:α×β->Prop)
  (his:∀a,pre a->Is (F a):=by intro a h;exact isA) (hm:Nat.ble m fn.ntmps=true:=by kernel_rfl) (hc:xy fn=true:=by kernel_rfl) (hk:fn.results.toList.length=k:=by kernel_rfl) (hrun:∀a e,pre a->(F a).run e=(yK Z (CB env) (jL J) (kz c b) RS l keep fn fn.ntmps a).run e:=by intro a e _;kernel_rfl):aU Z:=
 vS Z env J (kz c b) (oq hm) RS keep hf rfl hc k hk F (fun a=>some (pre a)) (fun a e h=>hrun a e h) (fun a=>(F a).val) fun a h=>⟨his a h,rfl⟩
noncomputable def E2 (env:List (aU Z))(J:List (Sh1 Z.S))(c:xI D α){m:Nat}[hA:mY Z.S m c](RS:FU D)[hRS:qN Z.S RS](keep:List Nat){f:FuncId}{fn:Func}(hf:Z.P.funcs[f]? =some fn)(k:Nat)(F:α->Pg RS.X)(pre:α->Option Prop)(fv:α->RS.X)
  (his:∀a,ql (pre a)->Is (F a)/\(F a).val=fv a) (hm:Nat.ble m fn.ntmps=true:=by kernel_rfl) (hc:xy fn=true:=by kernel_rfl) (hk:fn.results.toList.length=k:=by kernel_rfl) (hrun:∀a e,ql (pre a)->(F a).run e=(yK Z (CB env) (jL J) (args c) RS 0 keep fn fn.ntmps a).run e:=by intro a e _;kernel_rfl):aU Z:=
 vS Z env J (args c) (kL hm) RS keep hf rfl hc k hk F pre hrun fv his
noncomputable def O6 (env:List (aU Z))(J:List (Sh1 Z.S))(c:xI D α)(b:Ig D β){m l:Nat}[hA:mY Z.S m c][hB:tq Z.S l b](RS:FU D)[hRS:qN Z.S RS](keep:List Nat){f:FuncId}{fn:Func}(hf:Z.P.funcs[f]? =some fn)(k:Nat)(F:α×β->Pg RS.X)(pre:α×β->Option Prop)(fv:α×β->RS.X)
  (his:∀a,ql (pre a)->Is (F a)/\(F a).val=fv a) (hm:Nat.ble m fn.ntmps=true:=by kernel_rfl) (hc:xy fn=true:=by kernel_rfl) (hk:fn.results.toList.length=k:=by kernel_rfl) (hrun:∀a e,ql (pre a)->(F a).run e=(yK Z (CB env) (jL J) (kz c b) RS l keep fn fn.ntmps a).run e:=by intro a e _;kernel_rfl):aU Z:=
 vS Z env J (kz c b) (oq hm) RS keep hf rfl hc k hk F pre hrun fv his
abbrev amj {A:Type}(l:List A)(d:A)(p:A->Bool):Pg Int:=aL l (.each false tX l d (fun i a (_:Unit)=> .ix i l.length (.br (p a) (.ret (.inr i)) (.ret (.inl ())))) (fun _ _=> .ret (-1)) ())
theorem ai5 {A:Type}(l:List A)(d:A)(p:A->Bool):Is (amj l d p)/\(amj l d p).val=fG p l:=⟨isA,o5 p l 0⟩
abbrev alh {A:Type}(l:List A)(p:A->Bool):Pg Bool:= .lt (fG p l) fun v=> .ret (decide (0<=v))
theorem aiV {A:Type}(l:List A)(p:A->Bool):Is (alh l p)/\(alh l p).val=l.any p:=⟨isA,by
 show decide (0<=fG p l)=l.any p
 rcases rF p l with⟨h,k⟩ | ⟨u,a,v,rfl,ha,hu,h⟩
 ·rw[h,qo au];exact(Qck.2 fun x hx=>by rw[k x hx];simp).symm
 ·rw[h,qW au];simp[ha]⟩
abbrev jX {S:Sh D}:List (Sh1 S):=[jS 2 (bP (fun sl=>[s0 8]) (l1 cI))]
noncomputable def EI {A:Type}(env:List (aU Z))(cl:jq D (List A))(n:Nat){m:Nat}[hA:mY Z.S m (aj (bn cl) (a1 (kJ n [])))]{f:FuncId}{fn:Func}(hf:Z.P.funcs[f]? =some fn)(d:A)(p:A->Bool)
  (hm:Nat.ble m fn.ntmps=true:=by kernel_rfl) (hc:xy fn=true:=by kernel_rfl) (hk:fn.results.toList.length=1:=by kernel_rfl) (hrun:∀(a:List A×Unit) e,ql none->(amj a.1 d p).run e=(yK Z (CB env) (jL (S:=Z.S) jX) (args (aj (bn cl) (a1 (kJ n [])))) (R1 cI) 0 [] fn fn.ntmps a).run e:=by intro a e _;kernel_rfl):aU Z:=
 E2 env jX (aj (bn cl) (a1 (kJ n []))) (R1 cI) [] hf 1 (fun a=>amj a.1 d p) (fun _=>none) (fun a=>fG p a.1) (fun a _=>ai5 a.1 d p) hm hc hk hrun
noncomputable def GG {A:Type}(env:List (aU Z))(cl:jq D (List A))(n:Nat)(cs:List Nat)(b:Ig D β){m l:Nat}[hA:mY Z.S m (aj (bn cl) (a1 (kJ n cs)))][hB:tq Z.S l b]{f:FuncId}{fn:Func}(hf:Z.P.funcs[f]? =some fn)(d:A)(p:A->β->Bool)
  (hm:Nat.ble m fn.ntmps=true:=by kernel_rfl) (hc:xy fn=true:=by kernel_rfl) (hk:fn.results.toList.length=1:=by kernel_rfl) (hrun:∀(a:(List A×Unit)×β) e,ql none->(amj a.1.1 d fun x=>p x a.2).run e=(yK Z (CB env) (jL (S:=Z.S) jX) (kz (aj (bn cl) (a1 (kJ n cs))) b) (R1 cI) l cs fn fn.ntmps a).run e:=by intro a e _;kernel_rfl):aU Z:=
 O6 env jX (aj (bn cl) (a1 (kJ n cs))) b (R1 cI) cs hf 1 (fun a=>amj a.1.1 d fun x=>p x a.2) (fun _=>none) (fun a=>fG (fun x=>p x a.2) a.1.1) (fun a _=>ai5 a.1.1 d fun x=>p x a.2) hm hc hk hrun
noncomputable def EA {A:Type}(env:List (aU Z))(cl:jq D (List A))(n:Nat){m:Nat}[hA:mY Z.S m (aj (bn cl) (a1 (kJ n [])))]{f:FuncId}{fn:Func}(hf:Z.P.funcs[f]? =some fn)(p:A->Bool)
  (hm:Nat.ble m fn.ntmps=true:=by kernel_rfl) (hc:xy fn=true:=by kernel_rfl) (hk:fn.results.toList.length=1:=by kernel_rfl) (hrun:∀(a:List A×Unit) e,ql none->(alh a.1 p).run e=(yK Z (CB env) (jL (S:=Z.S) []) (args (aj (bn cl) (a1 (kJ n [])))) (R1 aG) 0 [] fn fn.ntmps a).run e:=by intro a e _;kernel_rfl):aU Z:=
 E2 env [] (aj (bn cl) (a1 (kJ n []))) (R1 aG) [] hf 1 (fun a=>alh a.1 p) (fun _=>none) (fun a=>a.1.any p) (fun a _=>aiV a.1 p) hm hc hk hrun
noncomputable def EAB {A:Type}(env:List (aU Z))(cl:jq D (List A))(n:Nat)(cs:List Nat)(b:Ig D β){m l:Nat}[hA:mY Z.S m (aj (bn cl) (a1 (kJ n cs)))][hB:tq Z.S l b]{f:FuncId}{fn:Func}(hf:Z.P.funcs[f]? =some fn)(p:A->β->Bool)
  (hm:Nat.ble m fn.ntmps=true:=by kernel_rfl) (hc:xy fn=true:=by kernel_rfl) (hk:fn.results.toList.length=1:=by kernel_rfl) (hrun:∀(a:(List A×Unit)×β) e,ql none->(alh a.1.1 fun x=>p x a.2).run e=(yK Z (CB env) (jL (S:=Z.S) []) (kz (aj (bn cl) (a1 (kJ n cs))) b) (R1 aG) l cs fn fn.ntmps a).run e:=by intro a e _;kernel_rfl):aU Z:=
 O6 env [] (aj (bn cl) (a1 (kJ n cs))) b (R1 aG) cs hf 1 (fun a=>alh a.1.1 fun x=>p x a.2) (fun _=>none) (fun a=>a.1.1.any fun x=>p x a.2) (fun a _=>aiV a.1.1 fun x=>p x a.2) hm hc hk hrun
theorem Eo {AS:vJ D}{RS:FU D}{k iJ n:Nat}{keep:List Nat}{pre:AS.A->Option Prop}{fv:AS.A->RS.X}{f:FuncId}{fn:Func}(env:List (aU Z))(J:List (Sh1 Z.S))[hRS:qN Z.S RS](hf:Z.P.funcs[f]? =some fn)(hn:fn.ntmps=n)(F:AS.A->Pg RS.X)(his:∀a,ql (pre a)->Is (F a)/\(F a).val=fv a)
  (hAS:OY Z.S AS iJ n) (hc:xy fn=true:=by kernel_rfl) (hk:fn.results.toList.length=k:=by kernel_rfl) (hrun:∀a e,ql (pre a)->(F a).run e=(yK Z (CB env) (jL J) AS RS iJ keep fn n a).run e:=by intro a e _;kernel_rfl):fV Z.P Z.S f (oL AS RS k keep pre fv):=
 ati (fun _ _=>E5) hAS hRS hf hn hc k hk F pre hrun fv his
end
end Go.Vc
