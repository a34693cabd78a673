/- Own engine: Vdy, Vdz, Vdk, Vdx, Vd0, Vez. -/
import Derived.Test.YtjojefbphdmnjaaGreatDoorEng11
import Derived.SizedLaws
set_option linter.unusedVariables false
set_option linter.unusedSimpArgs false
namespace Go.Vc
theorem sW{p:Prop}(h:p:=by(try simp only[Sum.elim_inl,Sum.elim_inr])<;>(first | trivial | omega | (dsimp only;omega) | (refine zW (Zo (by omega) rfl) ?_;omega) | (refine⟨Int.le_trans (Int.ofNat_le.2 (Zo (by omega) rfl)) ?_,?_⟩<;>omega) | (refine zW (ahF _ _ _) ?_;first | omega | (dsimp only at*;omega) | (simp only[uF]at*;omega)) | (refine zW (ahX _ _ _) ?_;first | omega | (dsimp only at*;omega) | (simp only[uF]at*;omega)))):p:=h
theorem vV{p:Prop}(h:p:=by(try simp only[Sum.elim_inl,Sum.elim_inr])<;>(first | trivial | omega | (refine zW (acQ _ _ _ _) ?_;(first | omega | (simp only[uF]at*;omega) | simp)) | (refine zW (awV _ _ _ _) ?_;(first | omega | (simp only[uF]at*;omega) | simp)))):p:=h
theorem qad{p:Prop}(h:p:=by(try simp only[Sum.elim_inl,Sum.elim_inr])<;>(first | trivial | omega | (dsimp only;omega) | (refine zW (Zo (by omega) rfl) ?_;omega) | (refine⟨Int.le_trans (Int.ofNat_le.2 (Zo (by omega) rfl)) ?_,?_⟩<;>omega) | (refine zW (ahF _ _ _) ?_;first | omega | (dsimp only at*;omega) | (simp only[uF]at*;omega)) | (refine zW (ahX _ _ _) ?_;first | omega | (dsimp only at*;omega) | (simp only[uF]at*;omega)) | (simp only[kG];omega))):p:=h
theorem qae{p:Prop}(h:p:=by first | omega | (dsimp only at*;omega) | (simp only[uF]at*;omega) | exact h | exact h.2.2.2.1 _ (getD_mem (by omega)) | exact h.2.2.2.2.1 _ (getD_mem (by omega)) | exact h.2.2.2.2.2 _ (getD_mem (by omega)) | exact⟨by omega,fun m hm=>(h.2.2.2.1 m hm).1⟩ | exact room_of (by omega) (by omega)):p:=h
theorem wB{p:Prop}(h:p:=by first | omega | (dsimp only at*;omega) | (simp only[uF]at*;omega)):p:=h
theorem dE{p:Prop}(h:p:=by kernel_rfl):p:=h
theorem Nb{p:Prop}(h:p:=by first | omega | (simp only[uF]at*;omega) | (have:=h.1.2.2.2.2 _ (getD_mem (d:=[]) aE2);omega)):p:=h
theorem qai{p:Prop}(h:p:=by(try simp only[Sum.elim_inl,Sum.elim_inr])<;>(first | exact ax2 nO hI (by simp only[AVal.cZ];exact ih.2.2 _ _ _ (aFI h nO)) | exact awZ hI | exact avH Xh hI ⟨⟨by simp only[AVal.cZ];rw[(wP _).1];exact(avt h hv7 Xh).2.1,by simp only[AVal.cZ];exact Nr (avt h hv7 Xh).2.2⟩,by simp only[AVal.cZ,X3];exact lH _⟩ (by simp only[AVal.cZ];exact ih.2.2 _ _ _ (avt h hv7 Xh).1) | exact ax4 h hv7 hI | (simp only[AVal.cZ];exact ih.2.2 _ _ _ (NR h)))):p:=h
theorem qaj{p:Prop}(h:p:=by first | omega | exact hl.1 | exact hl.2.1 | (show vg 2 fu _;rw[AVal.cZ];exact aGC h hv5 (by omega)) | (have h5:=PG hl.2.1 hv5;exact room_of (by have:=hI.2.2.1;omega) (by have:=hI.2.2.1;omega)) | exact apg hI hv4 hl.1):p:=h
theorem xk{p:Prop}(h:p:=by first | omega | (simp only[uF]at*;omega)):p:=h
theorem qal{p:Prop}(h:p:=by(try simp only[Sum.elim_inl,Sum.elim_inr])<;>(first | exact aI6 h hv4 | exact aq2 hI | (refine axO nO hI ?_ hv6;simp only[AVal.cZ];exact ih.2.1 _ _ _ (aGC h hv5 nO)) | exact av2 h hv4 hv5 hI)):p:=h
theorem qam{p:Prop}(h:p:=by(try simp only[Sum.elim_inl,Sum.elim_inr])<;>(first | (rw[AVal.cZ];exact⟨atp hI.1,hI.2⟩) | (refine⟨?_,by have e:=hI.2;rw[e];rfl⟩;show v4.Sublist _;rw[hv4];exact aps hI.1 (by omega) (by rw[Qa5];exact beq_false_of_ne (by omega))) | (exact⟨y2.Slots,by simpa using hI.1,by rw[AVal.cZ];have e:=hI.2;rw[e];rfl⟩))):p:=h
theorem qan{p:Prop}(h:p:=by(try simp only[Sum.elim_inl,Sum.elim_inr])<;>(first | exact hI | exact⟨by have:=hI.1;omega,hI.2⟩ | exact⟨by have:=hI.1;simp only[kG,uU,uF];omega,nT hI.2 (ajI (by rw[AVal.cZ];exact(Zd (getD_mem nO)).1) (by rw[AVal.cZ];exact(Zd (getD_mem nO)).2))⟩ | exact⟨by have:=hI.1;simp only[kG,uU,uF];omega,nT hI.2 (jq (by rw[AVal.cZ];exact akl (getD_mem au9)))⟩)):p:=h
theorem qao{p:Prop}(h:p:=by first | omega | exact hl.2.2.2 | (show vg 1 fu _;rw[AVal.cZ];first | exact aFI h (by omega) | exact(avt h hv7 (by omega)).1 | exact NR h) | exact room_of (by have:=hI.2.2;omega) (by have:=hI.2.2;omega) | (have h5:=R_ hl.2.2.2 hv7;exact room_of (by have:=hI.2.2;omega) (by have:=hI.2.2;omega))):p:=h
theorem qap{p:Prop}(h:p:=by(try simp only[Sum.elim_inl,Sum.elim_inr])<;>(first | exact fun y hy=> .inl hy | exact fun y hy=> .inr (.inl (hI.2 y hy)) | exact fun y hy=> .inr (.inr (by rw[Be.1 hy,AVal.cZ])) | exact⟨by(have:=hI.1;simp only[kG,uU,uF];omega),fun z hz=>(xN.1 hz).elim (hI.2 z) fun e=>⟨_,getD_mem (d:=dJ) nO,(Be.1 e).trans (AVal.cZ _)⟩⟩)):p:=h
theorem qaq{p:Prop}(h:p:=by(try subst_vars);(try simp only[kG,uU,uF]);omega):p:=h
theorem qar{p:Prop}(h:p:=by first | omega | (dsimp only at*;omega) | (simp only[uF]at*;omega) | exact zW (h.2.2.2.2 _ (getD_mem (by omega))) (by decide)):p:=h
theorem qas{p:Prop}(h:p:=by(try simp only[Sum.elim_inl,Sum.elim_inr])<;>(first | exact fun e=>absurd e (by decide) | (rw[hI,yS];done) | (rw[hI,DL (d:=dP) (by omega)];done) | (rw[hI,DL (d:=jg) (by omega)];done) | (intro _;rw[hI,yS];exact⟨by simpa using ‹(!oQ s)=false›,rfl⟩))):p:=h
theorem qau{p:Prop}(h:p:=by(have:=GL (lY h) hv4;have:=h.1;first | omega | exact room_of (by have:=hI.1.length_le;simp only[zU]at this;omega) (by have:=hI.1.length_le;simp only[zU]at this;omega) | exact⟨Xa (aqi h hv4) (by omega),Xa (aqi h hv4) (by omega)⟩)):p:=h
theorem qav{p:Prop}(h:p:=by(try simp only[Sum.elim_inl,Sum.elim_inr])<;>(first | exact hI.2 | exact⟨by first | (have:=hI.1;omega) | (rw[hv6];have:=hI.1;simp only[kG,uU,uF];omega),by have:=hI.2.1;simp only[kG,uU,uF];omega,hI.2.2.1,by rw[hv4,hv5];exact ar5 hI.2.2.2 (getD_mem (d:=ax) nO)⟩)):p:=h
theorem qaw{p:Prop}(h:p:=by first | omega | exact h | exact(h.2.2.2.1 _ (getD_mem (by omega))).1 | exact⟨(h.2.2.2.2.1 _ (getD_mem (by omega))).2.1,(h.2.2.2.2.1 _ (getD_mem (by omega))).1⟩ | (rw[hI];simp only[Na,zU];exact room_of (by omega) (by omega))):p:=h
theorem qax{p:Prop}(h:p:=by first | omega | exact zW (ahF _ _ _) (by(first | omega | (simp only[uF]at*;omega) | simp)) | exact zW (ajt (by omega) rfl) (by omega)):p:=h
theorem qaz{p:Prop}(h:p:=by(try simp only[Sum.elim_inl,Sum.elim_inr])<;>((have:=GL (lY h) hv4;have:=h.1;first | trivial | omega | exact⟨acN hI.1,by omega,by omega⟩ | (refine⟨?_,by omega,by omega⟩;rw[hv5];exact acg hI.1 (by omega) (by rw[AVal.cZ,AVal.cZ,Pair.eta])) | (rw[<-hv4];simpa using hI.1)))):p:=h
theorem qa1{p:Prop}(h:p:=by(try simp only[Sum.elim_inl,Sum.elim_inr])<;>(first | trivial | (simp only[Qcz,Qc0,kG,uU,uF];omega))):p:=h
theorem qa2{p:Prop}(h:p:=by(try simp only[Sum.elim_inl,Sum.elim_inr])<;>((have:=Iy h hv4;first | trivial | omega | exact⟨acN hI.1,by omega⟩ | (refine⟨?_,by omega⟩;rw[hv5];exact acg hI.1 (by omega) (by rw[AVal.cZ,Slot.eta])) | (rw[<-hv4];simpa using hI.1)))):p:=h
theorem qa3{p:Prop}(h:p:=by(have:=Iy h hv4;first | omega | exact room_of (by have:=hI.1.length_le;simp only[zU]at this;omega) (by have:=hI.1.length_le;simp only[zU]at this;omega))):p:=h
theorem qa4{p:Prop}(h:p:=by first | omega | exact zW (acQ _ _ _ _) (by(first | omega | (simp only[uF]at*;omega) | simp)) | exact zW (ary (by omega) rfl) (by omega)):p:=h
theorem qa6{p:Prop}(h:p:=by(try simp only[Sum.elim_inl,Sum.elim_inr])<;>(first | trivial | omega | (simp only[Qbs];omega))):p:=h
theorem qa7{p:Prop}(h:p:=by(try simp only[Sum.elim_inl,Sum.elim_inr])<;>(first | trivial | omega | (simp only[kG,uU,uF];omega))):p:=h
theorem qa8{p:Prop}(h:p:=by first | omega | exact room_of (by have:=hI.1;omega) (by have:=hI.1;omega) | exact room_of (by have:=hI.2.1;omega) (by have:=hI.2.1;omega)):p:=h
theorem qa9{p:Prop}(h:p:=by first | omega | exact fun x hx hk=>by rw[hI];exact((h.2 _ (getD_mem (d:=bH) au8)).2 x hx).1 hk):p:=h
theorem qba{p:Prop}(h:p:=by first | omega | exact room_of (by omega) (by omega)):p:=h
theorem qbd{p:Prop}(h:p:=by(try simp only[Sum.elim_inl,Sum.elim_inr])<;>(first | exact hI | exact⟨by simp only[kG,uU,uF];omega,hI.2⟩)):p:=h
theorem qbf{p:Prop}(h:p:=by(try simp only[Sum.elim_inl,Sum.elim_inr])<;>(first | trivial | exact hI | (rw[Qbs];exact hI))):p:=h
theorem qbg{p:Prop}(h:p:=by simp only[kG,uU,uF,Na,zU];omega):p:=h
theorem qbh{p:Prop}(h:p:=by have:=hI.1;omega):p:=h
theorem qbi{p:Prop}(h:p:=by(try simp only[Sum.elim_inl,Sum.elim_inr])<;>(first | (simp only[AVal.cZ];exact ih.1 _ _ _ (NR h)) | (simp only[AVal.cZ];exact⟨Nr h.1.1,Qcu (X3 _)⟩))):p:=h
theorem qbm{p:Prop}(h:p:=by first | omega | (have hq:=avN hI.1;exact room_of (by omega) (by omega))):p:=h
theorem qbn{p:Prop}(h:p:=by first | omega | exact room_of (by have:=hI.1;omega) (by have:=hI.1;omega)):p:=h
theorem qbp{p:Prop}(h:p:=by rw[yS]at hI;exact hI):p:=h
theorem qbq{p:Prop}(h:p:=by first | (simp;done) | (simp only[Qcz,Qc0];omega)):p:=h
theorem qbr{p:Prop}(h:p:=by(try simp only[Sum.elim_inl,Sum.elim_inr])<;>(first | (rw[Qbs];exact hI) | (rw[txU_len];exact hI))):p:=h
theorem qbt{p:Prop}(h:p:=by have k:=h.1.1.2.1.1;have e:=h.2.2;omega):p:=h
theorem qbu{p:Prop}(h:p:=by obtain⟨_,_,k1,k2⟩:=h;have e:l.length=0:=Qb3 List.length k1;exact room_of (by omega) (by omega)):p:=h
theorem qbx{p:Prop}(h:p:=by first | omega | exact h.1 | exact room_of (by omega) (by omega)):p:=h
theorem qby{p:Prop}(h:p:=by first | omega | exact mW (fun _=>rfl) _):p:=h
theorem qbz{p:Prop}(h:p:=by have k:=h.2.2.2;have:=jH v;omega):p:=h
theorem qb7{p:Prop}(h:p:=by show(0:Int) < (((a::t).length:Nat):Int);simp only[uU];omega):p:=h
theorem qcb{p:Prop}(h:p:=by have e:=Qb3 List.length h;simp only[uF]at e;omega):p:=h
theorem qcc{p:Prop}(h:p:=by simp only[uU,Na,zU];omega):p:=h
theorem qcd{p:Prop}(h:p:=by rw[hI];exact room_of (by omega) (by omega)):p:=h
theorem qch{p:Prop}(h:p:=by first | exact⟨h,Ik⟩ | exact trivial | exact h):p:=h
theorem qci{p:Prop}(h:p:=by rw[<-hv1];simpa using hf):p:=h
theorem qck{p:Prop}(h:p:=by show ¬(13:Int)=0;decide):p:=h
theorem qcn{p:Prop}(h:p:=by rw[zU];omega):p:=h
theorem qcq{p:Prop}(h:p:=by cases hx):p:=h
instance aJH {X R:Type} [Inhabited R]:Inhabited (X⊕R):=⟨.inr default⟩
structure Ix (X Y:Type) where
 gi:X->Int
 gy:X->Y
 mx:Int->Y->X
 h1:∀i y,gi (mx i y)=i
 h2:∀i y,gy (mx i y)=y
def lF {Y:Type}:Ix (Int×Y) Y:=⟨Prod.fst,Prod.snd,Prod.mk,fun _ _=>rfl,fun _ _=>rfl⟩
def m_:Ix Int Unit:=⟨id,fun _=>(),fun i _=>i,fun _ _=>rfl,fun _ _=>rfl⟩
inductive Pg:Type->Type 1 where
 | ret {R:Type} (r:R):Pg R
 | no {R:Type} (r:R):Pg R
 | ob {R:Type} (p:Prop) (k:Pg R):Pg R
 | obD {R:Type} (p:Prop) (d:Decidable p) (k:Pg R):Pg R
 | as {R:Type} (p:Prop) (k:Pg R):Pg R
 | br {R:Type} (b:Bool) (t e:Pg R):Pg R
 | unk {R:Type} (s:Bool) (p:Bool->Prop) (t e:Pg R):Pg R
 | lt {R A:Type} (v:A) (k:A->Pg R):Pg R
 | cut {R X:Type} (k:X->Pg R) (a:Pg (X⊕R)):Pg R
 | wh {R X:Type} (n:Nat) (r:R) (step:X->Pg (X⊕R)) (x:X):Pg R
 | each {R A X Y:Type} (h:Bool) (s:Ix X Y) (l:List A) (d:A) (body:Int->A->Y->Pg (Y⊕R)) (fin:Int->Y->Pg R) (y:Y):Pg R
 | cnt {R X Y:Type} (s:Ix X Y) (a b:Int) (body:Int->Y->Pg (Y⊕R)) (fin:Int->Y->Pg R) (y:Y):Pg R
 | Xg {R A X Y:Type} (ps:List Prop) (h:Bool) (s:Ix X Y) (l:List A) (d:A) (body:Int->A->Y->Pg (Y⊕R)) (fin:Int->Y->Pg R) (y:Y):Pg R
 | II {R X Y:Type} (ps:List Prop) (q:Option Prop) (s:Ix X Y) (a b:Int) (body:Int->Y->Pg (Y⊕R)) (fin:Int->Y->Pg R) (y:Y):Pg R
section
variable {R R' A X Y:Type}
def nxI (s:Ix X Y)(i:Int):Y⊕R->X⊕R
 | .inl y=> .inl (s.mx (wrp .i64 (i+1)) y)
 | .inr r=> .inr r
noncomputable def acp:List Prop->Option R->Option R
 | [],k=>k
 | p::a,k=>need p (acp a k)
noncomputable def aBu (q:Option Prop)(e:R)(k:Option R):Option R:=
 match q with
 | none=>k
 | some q=>asm q e k
def amf:List Prop->Prop
 | []=>True
 | p::a=>p/\amf a
theorem CW:∀{a:List Prop} {k:Option R},amf a->acp a k=k
 | [],_,_=>rfl
 | p::a,k,h=>by unfold acp;rw[yl h.1,CW h.2]
theorem aqP {q:Option Prop}{e:R}{k:Option R}(h:nG q):aBu q e k=k:=by
 cases q with
 | none=>rfl
 | some q=>exact wK h
theorem atV {q:Option Prop}{e:R}{k:Option R}(h:¬nG q):aBu q e k=some e:=by
 cases q with
 | none=>exact(h trivial).elim
 | some q=>exact zG h
noncomputable def Pg.runK:{R:Type}->Pg R->(c:Type)->(R->c)->c->Option c
 | _, .ret r,_,f,_=>some (f r)
 | _, .no _,_,_,_=>none
 | _, .ob p k,c,f,e=>need p (k.runK c f e)
 | _, .obD p _ k,c,f,e=>need p (k.runK c f e)
 | _, .as p k,c,f,e=>asm p e (k.runK c f e)
 | _, .br b t m,c,f,e=>cond b (t.runK c f e) (m.runK c f e)
 | _, .unk _ p t m,c,f,e=>both p (t.runK c f e) (m.runK c f e)
 | _, .lt v k,c,f,e=>(k v).runK c f e
 | _, .cut (X:=X) k a,c,f,e=>aiM (a.runK (X⊕c) (Sum.map id f) (.inr e)) fun x=>(k x).runK c f e
 | _, .wh (X:=X) _ _ step x,c,f,e=>oD (fun y=>(step y).runK (X⊕c) (Sum.map id f) (.inr e)) x
 | _, .each (X:=X) h s l d g i y,c,f,e=>oD (fun x=>
   cond h (asm (l.length<=9223372036854775807) (.inr e) (cond (decide (s.gi x < (↑l.length:Int))) ((g (s.gi x) (l.getD (s.gi x).toNat d) (s.gy x)).runK (X⊕c) (fun z=>nxI s (s.gi x) (Sum.map id f z)) (.inr e)) ((i (s.gi x) (s.gy x)).runK (X⊕c) (fun r=> .inr (f r)) (.inr e))))
    (cond (decide (s.gi x < (↑l.length:Int))) ((g (s.gi x) (l.getD (s.gi x).toNat d) (s.gy x)).runK (X⊕c) (fun z=>nxI s (s.gi x) (Sum.map id f z)) (.inr e)) ((i (s.gi x) (s.gy x)).runK (X⊕c) (fun r=> .inr (f r)) (.inr e)))) (s.mx 0 y)
 | _, .Xg (X:=X) j h s l d g i y,c,f,e=>oD (fun x=>acp j (
   cond h (asm (l.length<=9223372036854775807) (.inr e) (cond (decide (s.gi x < (↑l.length:Int))) ((g (s.gi x) (l.getD (s.gi x).toNat d) (s.gy x)).runK (X⊕c) (fun z=>nxI s (s.gi x) (Sum.map id f z)) (.inr e)) ((i (s.gi x) (s.gy x)).runK (X⊕c) (fun r=> .inr (f r)) (.inr e))))
    (cond (decide (s.gi x < (↑l.length:Int))) ((g (s.gi x) (l.getD (s.gi x).toNat d) (s.gy x)).runK (X⊕c) (fun z=>nxI s (s.gi x) (Sum.map id f z)) (.inr e)) ((i (s.gi x) (s.gy x)).runK (X⊕c) (fun r=> .inr (f r)) (.inr e))))) (s.mx 0 y)
 | _, .II (X:=X) j q s a b g i y,c,f,e=>oD (fun x=>acp j (aBu q (.inr e) (cond (decide (s.gi x < b)) ((g (s.gi x) (s.gy x)).runK (X⊕c) (fun z=>nxI s (s.gi x) (Sum.map id f z)) (.inr e)) ((i (s.gi x) (s.gy x)).runK (X⊕c) (fun r=> .inr (f r)) (.inr e))))) (s.mx a y)
 | _, .cnt (X:=X) s a b g i y,c,f,e=>oD (fun x=>cond (decide (s.gi x < b)) ((g (s.gi x) (s.gy x)).runK (X⊕c) (fun z=>nxI s (s.gi x) (Sum.map id f z)) (.inr e)) ((i (s.gi x) (s.gy x)).runK (X⊕c) (fun r=> .inr (f r)) (.inr e))) (s.mx a y)
noncomputable def Pg.run (t:Pg R)(e:R):Option R:=t.runK R id e
abbrev Pg.ix (i:Int)(n:Nat)(k:Pg R):Pg R:= .ob (0<=i/\i < ↑n) k
def Jz (b:Nat->A->Y->Y⊕R)(f:Nat->Y->R):List A->Nat->Y->R
 | [],k,y=>f k y
 | a::l,k,y=>match b k a y with
  | .inl c=>Jz b f l (k+1) c
  | .inr r=>r
def Aa (b:Int->Y->Y⊕R)(f:Int->Y->R):Nat->Int->Y->R
 | 0,i,y=>f i y
 | n+1,i,y=>match b i y with
  | .inl a=>Aa b f n (i+1) a
  | .inr r=>r
def VB (step:X->X⊕R)(a:R):Nat->X->R
 | 0,_=>a
 | n+1,x=>match step x with
  | .inl b=>VB step a n b
  | .inr r=>r
def thenS (a:X⊕R)(k:X->R):R:=
 match a with
 | .inl x=>k x
 | .inr r=>r
@[simp] theorem pJ (x:X) (k:X->R):thenS (.inl x) k=k x:=rfl
@[simp] theorem aFd (r:R) (k:X->R):thenS (.inr r) k=r:=rfl
def Pg.val:{R:Type}->Pg R->R
 | _, .ret r=>r
 | _, .no r=>r
 | _, .ob _ k=>k.val
 | _, .obD _ _ k=>k.val
 | _, .as _ k=>k.val
 | _, .br b t e=>cond b t.val e.val
 | _, .unk s _ t e=>cond s t.val e.val
 | _, .lt v k=>(k v).val
 | _, .cut k a=>thenS a.val fun x=>(k x).val
 | _, .wh n r step x=>VB (fun y=>(step y).val) r n x
 | _, .each _ _ l _ c d y=>Jz (fun k a y=>(c (↑k:Int) a y).val) (fun k y=>(d (↑k:Int) y).val) l 0 y
 | _, .cnt _ a b c d y=>Aa (fun i y=>(c i y).val) (fun i y=>(d i y).val) (b - a).toNat a y
 | _, .Xg _ _ _ l _ c d y=>Jz (fun k a y=>(c (↑k:Int) a y).val) (fun k y=>(d (↑k:Int) y).val) l 0 y
 | _, .II _ _ _ a b c d y=>Aa (fun i y=>(c i y).val) (fun i y=>(d i y).val) (b - a).toNat a y
@[simp] theorem val_ret (r:R):(Pg.ret r).val=r:=rfl
@[simp] theorem aJf (r:R):(Pg.no r).val=r:=rfl
@[simp] theorem val_ob (p:Prop) (k:Pg R):(Pg.ob p k).val=k.val:=rfl
@[simp] theorem aIU (p:Prop) (d:Decidable p) (k:Pg R):(Pg.obD p d k).val=k.val:=rfl
@[simp] theorem iY (i:Int) (n:Nat) (k:Pg R):(Pg.ix i n k).val=k.val:=rfl
@[simp] theorem val_as (p:Prop) (k:Pg R):(Pg.as p k).val=k.val:=rfl
@[simp] theorem a_ (b:Bool) (t e:Pg R):(Pg.br b t e).val=cond b t.val e.val:=rfl
@[simp] theorem axz (s:Bool) (p:Bool->Prop) (t e:Pg R):(Pg.unk s p t e).val=cond s t.val e.val:=rfl
@[simp] theorem val_lt (v:A) (k:A->Pg R):(Pg.lt v k).val=(k v).val:=rfl
@[simp] theorem jv (a:Pg (X⊕R)) (k:X->Pg R):(Pg.cut k a).val=thenS a.val fun x=>(k x).val:=rfl
@[simp] theorem EJ (n:Nat) (r:R) (step:X->Pg (X⊕R)) (x:X):(Pg.wh n r step x).val=VB (fun y=>(step y).val) r n x:=rfl
@[simp] theorem Ar (h:Bool) (s:Ix X Y) (l:List A) (d:A) (b:Int->A->Y->Pg (Y⊕R)) (c:Int->Y->Pg R) (y:Y):
  (Pg.each h s l d b c y).val=Jz (fun k a y=>(b (↑k:Int) a y).val) (fun k y=>(c (↑k:Int) y).val) l 0 y:=rfl
@[simp] theorem tJ (s:Ix X Y) (a b:Int) (c:Int->Y->Pg (Y⊕R)) (d:Int->Y->Pg R) (y:Y):
  (Pg.cnt s a b c d y).val=Aa (fun i y=>(c i y).val) (fun i y=>(d i y).val) (b - a).toNat a y:=rfl
@[simp] theorem aFe (e:List Prop) (h:Bool) (s:Ix X Y) (l:List A) (d:A) (b:Int->A->Y->Pg (Y⊕R)) (c:Int->Y->Pg R) (y:Y):
  (Pg.Xg e h s l d b c y).val=Jz (fun k a y=>(b (↑k:Int) a y).val) (fun k y=>(c (↑k:Int) y).val) l 0 y:=rfl
@[simp] theorem aGl (e:List Prop) (q:Option Prop) (s:Ix X Y) (a b:Int) (c:Int->Y->Pg (Y⊕R)) (d:Int->Y->Pg R) (y:Y):
  (Pg.II e q s a b c d y).val=Aa (fun i y=>(c i y).val) (fun i y=>(d i y).val) (b - a).toNat a y:=rfl
def Is (t:Pg R):Prop:=∀(R':Type) (f:R->R') (e:R'),t.runK R' f e=some (f t.val)\/t.runK R' f e=some e
def Is1 (t:Pg R):Prop:=∀(R':Type) (f:R->R') (e:R'),t.runK R' f e=some (f t.val)
theorem Is1.is {t:Pg R}(h:Is1 t):Is t:=fun R' f e=> .inl (h R' f e)
theorem Is.run {t:Pg R}(h:Is t):t.run t.val=some t.val:=by
 rcases h R id t.val with h | h<;>exact h
theorem is_ret {r:R}:Is (.ret r):=fun _ _ _=> .inl rfl
theorem az {p:Prop}{k:Pg R}(b:p)(a:Is k):Is (.ob p k):=fun R' f e=>by
 simp only[Pg.runK,yl b];exact a R' f e
theorem aW {i:Int}{n:Nat}{k:Pg R}(b:0<=i)(a:i < ↑n)(c:Is k):Is (.ix i n k):=az ⟨b,a⟩ c
theorem bW {p:Prop}{k:Pg R}(b:p->Is k):Is (.as p k):=fun R' f e=>by
 by_cases a:p
 ·simp only[Pg.runK,wK a];exact b a R' f e
 ·simp only[Pg.runK,zG a]
  grind
theorem is_br {b:Bool}{t e:Pg R}(d:b=true->Is t)(c:b=false->Is e):Is (.br b t e):=fun R' f a=>by
 cases b with
 | true=>exact d rfl R' f a
 | false=>exact c rfl R' f a
theorem aQ {p:Prop}{a:Decidable p}{t e:Pg R}(c:p->Is t)(b:¬p->Is e):Is (.br (@decide p a) t e):=
 is_br (fun h=>c (xe h)) (fun h=>b (of_decide_eq_false h))
theorem bu {a b:A}[h:BEq A][f:LawfulBEq A]{t e:Pg R}(d:a=b->Is t)(c:¬a=b->Is e):Is (.br (a==b) t e):=
 is_br (fun h=>d qbs) (fun h=>c qbs)
theorem dm {a b:A}[h:BEq A][f:LawfulBEq A]{t e:Pg R}(d:¬a=b->Is t)(c:a=b->Is e):Is (.br (a !=b) t e):=
 is_br (fun h=>d qbs) (fun h=>c qbs)
theorem room_of {n b:Nat}(a:n<=1099511627776)(c:n*b<=140737488355328):bM n b:=⟨a,c⟩
theorem bg {v:A}{k:A->Pg R}(h:∀x,x=v->Is (k x)):Is (.lt v k):=h v rfl
theorem jh {n:Int}{k:Int->Pg R}(h:∀x,x=wrp .i64 n->(-9223372036854775808<=n/\n<=9223372036854775807->x=n)->Is (k x)):Is (.lt (wrp .i64 n) k):=
 h _ rfl fun a=>wrp_in (k:= .i64) a
theorem gG {a:Pg (X⊕R)}{k:X->Pg R}(c:Is a)(b:∀x,a.val= .inl x->Is (k x)):Is (.cut k a):=fun R' f e=>by
 have h:=c (X⊕R') (Sum.map id f) (.inr e);simp only[Pg.runK,jv];rcases h with h | h
 ·rw[h];cases d:a.val with
  | inl x=>exact b x d R' f e
  | inr r=>exact .inl rfl
 ·rw[h];exact .inr rfl
theorem aDY {s:Bool}{p:Bool->Prop}{t e:Pg R}(g:∃b,p b)(d:p true->Is1 t/\t.val=cond s t.val e.val)(c:p false->Is1 e/\e.val=cond s t.val e.val):Is (.unk s p t e):=fun R' f a=>by
 refine .inl ?_;simp only[Pg.runK,axz];refine Xo g (fun h=> ?_) (fun h=> ?_)
 ·rw[(d h).1 R' f a,<-(d h).2]
 ·rw[(c h).1 R' f a,<-(c h).2]
theorem uz {l:List A}{b:Nat}(h:bM (0+l.length) b):Is (.unk false (fun b=>b=true->l.length=0) (.ret []) (.ob (bM (0+l.length) b) (.ret l))):=
 aDY ⟨false,fun e=>by cases e⟩ (fun a=>⟨fun _ _ _=>rfl,by simp_all⟩) (fun _=>⟨fun R' f e=>by simp only[Pg.runK,yl h];rfl,rfl⟩)
theorem Va {l:List A}{s:Ix X Y}{m:Type}{step:X->Option (X⊕m)}{f:R->m}{e:m}{b:Nat->A->Y->Y⊕R}{g:Nat->Y->R}{d:A}(I:Nat->Y->Prop)
  (p:∀(k:Nat) (y:Y),k < l.length->I k y->step (s.mx ↑k y)=some (match b k (l.getD k d) y with | .inl a=> .inl (s.mx (↑(k+1)) a) | .inr r=> .inr (f r))/\(∀a,b k (l.getD k d) y= .inl a->I (k+1) a)\/step (s.mx ↑k y)=some (.inr e))
  (o:∀y,I l.length y->step (s.mx ↑l.length y)=some (.inr (f (g l.length y)))\/step (s.mx ↑l.length y)=some (.inr e)):
  ∀(n k:Nat) (y:Y),k+n=l.length->I k y->oD step (s.mx ↑k y)=some (f (Jz b g (l.drop k) k y))\/oD step (s.mx ↑k y)=some e
 | 0,k,y,j,i=>by
  have j:k=l.length:=by omega
  subst j;rw[uq,List.drop_length];rcases o y i with h | h<;>rw[h]
  ·exact .inl rfl
  grind
 | n+1,k,y,j,i=>by
  have q:k < l.length:=by omega
  rw[uq];have u:l.drop k=l.getD k d::l.drop (k+1):=by
   simp_all
  rw[u];rcases p k y q i with⟨h,t⟩ | h
  ·rw[h];cases c:b k (l.getD k d) y with
   | inl a=>
    have:=Va I p o n (k+1) a ah (t a c);simp only[Jz,c];exact this
   | inr r=>
    simp only[Jz,c]
    grind
  grind
theorem wrp_next {k:Nat}(h:k < 9223372036854775807):wrp .i64 ((↑k:Int)+1)=↑(k+1):=by
 rw[wrp_in (k:= .i64) oC];omega
theorem Bc {h:Bool}{s:Ix X Y}{l:List A}{d:A}{c:Int->A->Y->Pg (Y⊕R)}{i:Int->Y->Pg R}{y:Y}(I:Nat->Y->Prop)(C:I 0 y)
  (E:h=true\/l.length<=9223372036854775807)
  (u:∀(k:Nat) (y:Y),k < l.length->l.length<=9223372036854775807->I k y->Is (c ↑k (l.getD k d) y)/\∀n,(c ↑k (l.getD k d) y).val= .inl n->I (k+1) n)
  (v:∀y,l.length<=9223372036854775807->I l.length y->Is (i ↑l.length y)):Is (.each h s l d c i y):=fun R' f e=>by
 simp only[Pg.runK,Ar];have o:=fun(step:X->Option (X⊕R'))=>Va (l:=l) (s:=s) (step:=step) (f:=f) (e:=e) (b:=fun k a y=>(c (↑k:Int) a y).val) (g:=fun k y=>(i (↑k:Int) y).val) (d:=d) I
 have D:∀(m:l.length<=9223372036854775807) (step:X->Option (X⊕R')),(∀x,step x=cond (decide (s.gi x < (↑l.length:Int))) ((c (s.gi x) (l.getD (s.gi x).toNat d) (s.gy x)).runK (X⊕R') (fun z=>nxI s (s.gi x) (Sum.map id f z)) (.inr e)) ((i (s.gi x) (s.gy x)).runK (X⊕R') (fun r=> .inr (f r)) (.inr e)))->
   (oD step (s.mx 0 y)=some (f (Jz (fun k a y=>(c (↑k:Int) a y).val) (fun k y=>(i (↑k:Int) y).val) l 0 y))\/oD step (s.mx 0 y)=some e):=by
  intro m step p;have:=o step (fun k y B j=> ?_) (fun y j=> ?_) l.length 0 y ah C
  ·grind
  ·obtain⟨t,w⟩:=u k y B m j;rw[p,s.h1,s.h2];have q:((k:Nat):Int) < ↑l.length:=by omega
   simp only[q,decide_true,xU,u_];rcases t (X⊕R') (fun z=>nxI s ↑k (Sum.map id f z)) (.inr e)with h | h
   ·refine .inl ⟨?_,w⟩;rw[h];cases(c ↑k (l.getD k d) y).val with
    | inl n=>simp only[Sum.map_inl,id_eq,nxI,wrp_next (show k < 9223372036854775807 by omega)]
    | inr r=>rfl
   ·exact .inr h
  ·rw[p,s.h1,s.h2];simp only[Qds,decide_false,og];exact(v y m j) (X⊕R') (fun r=> .inr (f r)) (.inr e)
 grind [zG,wK,uq]
theorem dh {h:Bool}{s:Ix X Y}{l:List A}{d:A}{a:Int->A->Y->Pg (Y⊕R)}{b:Int->Y->Pg R}{y:Y}(i:h=true\/l.length<=9223372036854775807)
  (f:∀(k:Nat) (y:Y),k < l.length->l.length<=9223372036854775807->Is (a ↑k (l.getD k d) y)) (c:∀y,l.length<=9223372036854775807->Is (b ↑l.length y)):Is (.each h s l d a b y):=
 Bc (fun _ _=>True) trivial i (fun k y g e _=>⟨f k y g e,fun _ _=>trivial⟩) fun y h _=>c y h
theorem ab4 {b:Int}{s:Ix X Y}{j:Type}{step:X->Option (X⊕j)}{f:R->j}{e:j}{bd:Int->Y->Y⊕R}{g:Int->Y->R}(I:Int->Y->Prop)(q:b<=9223372036854775807)
  (l:∀(i:Int) (y:Y),i < b->I i y->step (s.mx i y)=some (match bd i y with | .inl a=> .inl (s.mx (i+1) a) | .inr r=> .inr (f r))/\(∀a,bd i y= .inl a->I (i+1) a)\/step (s.mx i y)=some (.inr e))
  (k:∀i y,b<=i->I i y->step (s.mx i y)=some (.inr (f (g i y)))\/step (s.mx i y)=some (.inr e)):
  ∀(n:Nat) (i:Int) (y:Y),(b - i).toNat=n->I i y->oD step (s.mx i y)=some (f (Aa bd g n i y))\/oD step (s.mx i y)=some e
 | 0,i,y,p,d=>by
  rw[uq];rcases k i y ah d with h | h<;>rw[h]
  ·exact .inl rfl
  grind
 | n+1,i,y,p,d=>by
  have m:i < b:=by omega
  rw[uq];rcases l i y m d with⟨h,o⟩ | h
  ·rw[h];cases c:bd i y with
   | inl a=>
    have:=ab4 I q l k n (i+1) a ah (o a c);simp only[Aa,c];exact this
   | inr r=>
    simp only[Aa,c]
    grind
  grind
theorem CJ {s:Ix X Y}{a b:Int}{c:Int->Y->Pg (Y⊕R)}{j:Int->Y->Pg R}{y:Y}(I:Int->Y->Prop)(x:I a y)(A: -9223372036854775808<=a)(p:b<=9223372036854775807)
  (t:∀(i:Int) (y:Y),a<=i->i < b->I i y->Is (c i y)/\∀l,(c i y).val= .inl l->I (i+1) l)
  (v:∀i y,a<=i->b<=i->I i y->Is (j i y)):Is (.cnt s a b c j y):=fun R' f e=>by
 simp only[Pg.runK,tJ];refine ab4 (s:=s) (f:=f) (e:=e) (bd:=fun i y=>(c i y).val) (g:=fun i y=>(j i y).val) (fun i y=>a<=i/\I i y) p (fun i y m d=> ?_) (fun i y n d=> ?_) _ a y rfl ⟨AA _,x⟩
 ·obtain⟨q,w⟩:=t i y d.1 m d.2;simp only[s.h1,s.h2,m,decide_true,xU];rcases q (X⊕R') (fun z=>nxI s i (Sum.map id f z)) (.inr e)with h | h
  ·refine .inl ⟨?_,fun l u=>⟨by omega,w l u⟩⟩;rw[h];have o:wrp .i64 (i+1)=i+1:=wrp_in (k:= .i64) oC;cases(c i y).val with
   | inl l=>simp only[Sum.map_inl,id_eq,nxI,o]
   | inr r=>rfl
  ·exact .inr h
 ·simp only[s.h1,s.h2,show ¬i < b by omega,decide_false,og];exact(v i y d.1 n d.2) (X⊕R') (fun r=> .inr (f r)) (.inr e)
theorem EX {s:Ix X Y}{a b:Int}{c:Int->Y->Pg (Y⊕R)}{d:Int->Y->Pg R}{y:Y}(k: -9223372036854775808<=a)(j:b<=9223372036854775807)
  (h:∀(i:Int) (y:Y),a<=i->i < b->Is (c i y)) (g:∀i y,a<=i->b<=i->Is (d i y)):Is (.cnt s a b c d y):=
 CJ (fun _ _=>True) trivial k j (fun i y f e _=>⟨h i y f e,fun _ _=>trivial⟩) fun i y f e _=>g i y f e
theorem akN {c:List Prop}{h:Bool}{s:Ix X Y}{l:List A}{d:A}{a:Int->A->Y->Pg (Y⊕R)}{b:Int->Y->Pg R}{y:Y}(I:Nat->Y->Prop)(n:I 0 y)(o:amf c)
  (m:h=true\/l.length<=9223372036854775807)
  (j:∀(k:Nat) (y:Y),k < l.length->l.length<=9223372036854775807->I k y->Is (a ↑k (l.getD k d) y)/\∀g,(a ↑k (l.getD k d) y).val= .inl g->I (k+1) g)
  (i:∀y,l.length<=9223372036854775807->I l.length y->Is (b ↑l.length y)):Is (.Xg c h s l d a b y):=fun R' f e=>by
 have:=Bc (s:=s) I n m j i R' f e;simp only[Pg.runK,CW o]at this⊢;exact this
theorem ara {c:List Prop}{h:Bool}{s:Ix X Y}{l:List A}{d:A}{a:Int->A->Y->Pg (Y⊕R)}{b:Int->Y->Pg R}{y:Y}(m:amf c)(j:h=true\/l.length<=9223372036854775807)
  (g:∀(k:Nat) (y:Y),k < l.length->l.length<=9223372036854775807->Is (a ↑k (l.getD k d) y)) (f:∀y,l.length<=9223372036854775807->Is (b ↑l.length y)):Is (.Xg c h s l d a b y):=
 akN (fun _ _=>True) trivial m j (fun k y i e _=>⟨g k y i e,fun _ _=>trivial⟩) fun y h _=>f y h
theorem apx {h:List Prop}{q:Option Prop}{s:Ix X Y}{a b:Int}{c:Int->Y->Pg (Y⊕R)}{g:Int->Y->Pg R}{y:Y}(I:Int->Y->Prop)(t:I a y)(l:amf h)(n: -9223372036854775808<=a)(j:nG q->b<=9223372036854775807)
  (m:∀(i:Int) (y:Y),a<=i->i < b->b<=9223372036854775807->I i y->Is (c i y)/\∀k,(c i y).val= .inl k->I (i+1) k)
  (o:∀i y,a<=i->b<=i->I i y->Is (g i y)):Is (.II h q s a b c g y):=fun R' f e=>by
 by_cases d:nG q
 ·have:=CJ (s:=s) I t n (j d) (fun i y r p=>m i y r p (j d)) o R' f e;simp only[Pg.runK,CW l,aqP d]at this⊢;exact this
 ·refine .inr ?_;simp only[Pg.runK,CW l,atV d];rw[uq]
theorem tu {g:List Prop}{q:Option Prop}{s:Ix X Y}{a b:Int}{c:Int->Y->Pg (Y⊕R)}{d:Int->Y->Pg R}{y:Y}(l:amf g)(n: -9223372036854775808<=a)(m:nG q->b<=9223372036854775807)
  (j:∀(i:Int) (y:Y),a<=i->i < b->b<=9223372036854775807->Is (c i y)) (h:∀i y,a<=i->b<=i->Is (d i y)):Is (.II g q s a b c d y):=
 apx (fun _ _=>True) trivial l n m (fun i y f e k _=>⟨j i y f e k,fun _ _=>trivial⟩) fun i y f e _=>h i y f e
theorem AY {n:Nat}{k:R}{step:X->Pg (X⊕R)}{x:X}(I:X->Prop)(b:X->Nat)(i:I x)(m:b x < n)
  (d:∀x,I x->Is (step x)/\∀a,(step x).val= .inl a->I a/\b a < b x):Is (.wh n k step x):=fun R' f e=>by
 simp only[Pg.runK,EJ];induction n generalizing x with
 | zero=>omega
 | succ n l=>
  rw[uq];obtain⟨j,g⟩:=d x i;rcases j (X⊕R') (Sum.map id f) (.inr e)with h | h
  ·rw[h];cases c:(step x).val with
   | inl a=>
    obtain⟨o,p⟩:=g a c;simp only[Sum.map_inl,id_eq,VB,c]
    grind
   | inr r=>
    simp only[Sum.map_inr,VB,c]
    grind
  grind
end
end Go.Vc
namespace Go.Vc
open Go.RowKit
structure Seat (D:Type) where
 P:Program
 S:Sh D
 T:TypeId->Option Ty
 mx:P.follows .mixedOrders=true
 hT:∀t ty,T t=some ty->TyOk P t ty
 hS:ShOk S
structure Ent {D:Type}(Z:Seat D) where
 f:FuncId
 ct:Ct D
 ok:CtOk Z.P Z.S f ct
section
variable {D:Type}{Z:Seat D}
def Ad:List (Ent Z)->FuncId->Option (Ct D)
 | [],_=>none
 | e::r,f=>if Nat.beq f e.f then(match Ad r f with
  | some c=>some (aDf e.ct c)
  | none=>some e.ct)else Ad r f
theorem Dh:∀{l:List (Ent Z)} {f:FuncId} {a:Ct D},Ad l f=some a->CtOk Z.P Z.S f a
 | [],f,a,h=>by cases h
 | e::r,f,a,h=>by
  unfold Ad at h;split at h
  ·rename_i b;have b:=Qa b;subst b;split at h
   ·rename_i c d;injection h with h
    subst h;exact axV e.ok (Dh d)
   ·injection h with h
    subst h;exact e.ok
  ·exact Dh h
structure Sh1 (S:Sh D):Type 1 where
 i:Nat
 sh:Shp D
 ok:ShpOk S sh
def jS {S:Sh D}(i:Nat)(a:Shp D)[h:ShpOk S a]:Sh1 S:=⟨i,a,h⟩
def jL {S:Sh D}:List (Sh1 S)->Nat->Option (Shp D)
 | [],_=>none
 | s::r,n=>if Nat.beq n s.i then some s.sh else jL r n
theorem aAk {S:Sh D}:∀{l:List (Sh1 S)} {i:Nat} {a:Shp D},jL l i=some a->ShpOk S a
 | [],i,a,h=>by cases h
 | s::r,i,a,h=>by
  unfold jL at h;split at h
  ·injection h with h
   subst h;exact s.ok
  ·exact aAk h
def DI (a:Func):Code:=a.body.getD .skip
def vC (a:Func):Bool:=a.body.isSome && (a.name != "runtime.NumGoroutine" && drawsOk (DI a))
def wE (Z:Seat D)(g:FuncId->Option (Ct D))(J:Nat->Option (Shp D))(c:sU D)(d:Shp D)(f:Nat)(b:List Nat)(e:Func)(n:Nat)(a:c.A):Tr D d.X:=
 evT Z.T Z.S g n J (DI e) d.X (St.init (c.enc a).1 (c.enc a).2) (aGA Z.T Z.S e.results.toList d f b)
theorem aqG {z:FuncId->Option (Ct D)}(v:∀f y,z f=some y->CtOk Z.P Z.S f y){J:List (Sh1 Z.S)}{d:sU D}{m:Shp D}{r n:Nat}{j:List Nat}{f:FuncId}{g:Func}(q:MF Z.S d r n)(w:ShpOk Z.S m)
  (B:Z.P.funcs[f]? =some g) (E:g.ntmps=n) (t:vC g=true) (k:Nat) (I:g.results.toList.length=k) (F:d.A->Pg m.X) (b:d.A->Option Prop) (o:∀a e,nG (b a)->(F a).run e=(wE Z z (jL J) d m r j g n a).run e)
  (p:d.A->m.X) (u:∀a,nG (b a)->Is (F a)/\(F a).val=p a):CtOk Z.P Z.S f (ctN d m k j b p):=by
 subst I;simp only[vC,iW,Qdf,ne_eq]at t;obtain⟨H,C,L⟩:=t;obtain⟨c,s⟩:=Qbi.1 H;have K:DI g=c:=by simp[DI,s]
 refine aCP (J:=jL J) Z.mx Z.hT v Z.hS (fun i M h=>aAk (l:=J) h) B s (by simpa using C) E rfl qP q w b p fun a x=> ?_;obtain⟨A,G⟩:=u a x;have h:=o a (F a).val x;rw[A.run,G]at h;unfold wE at h
 grind
theorem dH {e:sU D}{l:Shp D}{k:Nat}{d:List Nat}{f:FuncId}{j:Func}(s:Z.P.funcs[f]? =some j)(i:vC j=true){b:e.A->Option Prop}{n:e.A->l.X}(B:∀a,nG (b a)->False):
  CtOk Z.P Z.S f (ctN e l k d b n):=by
 simp only[vC,iW,Qdf,ne_eq]at i;obtain⟨v,t,A⟩:=i;obtain⟨c,m⟩:=Qbi.1 v;refine⟨fun args w=>by simp[callFunc,s,t,m],fun X N g w args C z p r q x y u h o=> ?_⟩;unfold ctN at h
 grind [AL]
noncomputable def rE (Z:Seat D)(q:List (Ent Z))(J:List (Sh1 Z.S))(c:sU D){m n:Nat}(l:MF Z.S c m n)(h:Shp D)[p:ShpOk Z.S h](d:List Nat){f:FuncId}{g:Func}
  (s:Z.P.funcs[f]? =some g) (t:g.ntmps=n) (r:vC g=true) (k:Nat) (u:g.results.toList.length=k) (F:c.A->Pg h.X) (b:c.A->Option Prop) (i:∀a e,nG (b a)->(F a).run e=(wE Z (Ad q) (jL J) c h m d g n a).run e)
  (j:c.A->h.X) (o:∀a,nG (b a)->Is (F a)/\(F a).val=j a):Ent Z:=
 ⟨f,ctN c h k d b j,aqG (fun _ _=>Dh) l p s t r k u F b i j o⟩
end
end Go.Vc
namespace Go.Vc
section
variable {A R Y:Type}
def pg (p:A->Bool):List A->Nat->Int
 | [],_=> -1
 | a::l,k=>bif p a then(↑k:Int)else pg p l (k+1)
def eX (p:A->Bool)(l:List A):Int:=pg p l 0
theorem lJ (p:A->Bool):∀(l:List A) (k:Nat),Jz (fun k a (_:Unit)=>cond (p a) (.inr (↑k:Int)) (.inl ())) (fun _ _=>(-1:Int)) l k ()=pg p l k
 | [],_=>rfl
 | a::l,k=>by
  unfold Jz pg;cases p a with
  | true=>rfl
  | false=>exact lJ p l (k+1)
theorem LY (p:A->Bool):∀(l:List A) (k:Nat),(pg p l k= -1/\∀a∈l,p a=false)\/∃(u:List A) (a:A) (v:List A),l=u++a::v/\p a=true/\(∀x∈u,p x=false)/\pg p l k=↑(k+u.length)
 | [],k=> .inl ⟨rfl,fun a h=>by simp at h⟩
 | a::l,k=>by
  unfold pg;cases g:p a with
  | true=>exact .inr ⟨[],a,l,rfl,g,(fun x h=>by simp at h),rfl⟩
  | false=>
   rcases LY p l (k+1)with⟨e,c⟩ | ⟨u,b,v,e,c,i,j⟩
   ·refine .inl ⟨e,fun b d=> ?_⟩;rcases IP.1 d with rfl | d
    ·exact g
    ·exact c b d
   ·refine .inr ⟨a::u,b,v,by rw[e];rfl,c,fun x f=> ?_,?_⟩
    ·rcases IP.1 f with rfl | f
     ·exact g
     ·exact i x f
    ·simp only[og,j,uU];congr 1;omega
theorem ug (p:A->Bool)(l:List A):(eX p l= -1/\∀a∈l,p a=false)\/∃(u:List A) (a:A) (v:List A),l=u++a::v/\p a=true/\(∀x∈u,p x=false)/\eX p l=↑u.length:=by
 have:=LY p l 0;unfold eX
 grind
theorem lI (p:A->Bool)(l:List A):eX p l < l.length/\ -1<=eX p l:=by
 grind [ug]
theorem Bl {X:Type}{step:X->X⊕R}{g:R}(I:X->Prop)(b:X->Nat)(Q:R->Prop)(e:∀x,I x->(∃a,step x= .inl a/\I a/\b a < b x)\/∃r,step x= .inr r/\Q r):∀(n:Nat) (x:X),I x->b x < n->Q (VB step g n x)
 | 0,x,_,h=>by omega
 | n+1,x,f,h=>by
  unfold VB;rcases e x f with⟨a,d,c,i⟩ | ⟨r,d,c⟩
  ·rw[d];exact Bl I b Q e n a c ah
  grind
def abl (p:A->Bool)(d:A)(l:List A):Pg (List A):=
 .lt (eX p l) fun b=> .br (b==(-1)) (.ret l)
  (.lt (wrp .i64 (b+1)) fun f=>
   .wh (l.length+1) default
    (fun(a:Int×Int×List A)=>
     .as (a.snd.snd.length<=9223372036854775807)
      (.br (decide (a.fst < (↑a.snd.snd.length:Int)))
       (.ix a.fst a.snd.snd.length
        (.ob (a.fst.toNat < a.snd.snd.length)
         (.lt (wrp .i64 (a.fst+1)) fun(c:Int)=>
          .br (!p (a.snd.snd.getD a.fst.toNat d))
           (.ix a.snd.fst a.snd.snd.length
            (.ob (a.snd.fst.toNat < a.snd.snd.length)
             (.ret (.inl (c,wrp .i64 (a.snd.fst+1),a.snd.snd.set a.snd.fst.toNat (a.snd.snd.getD a.fst.toNat d))))))
           (.ret (.inl (c,a.snd))))))
       (.ob (0<=a.snd.fst/\a.snd.fst<=(↑a.snd.snd.length:Int)/\(↑a.snd.snd.length:Int)<=(↑a.snd.snd.length:Int))
        (.ob (a.snd.snd.length=a.snd.snd.length)
         (.lt (List.take a.snd.fst.toNat a.snd.snd++List.replicate (a.snd.snd.length - a.snd.fst.toNat) d) fun(e:List A)=>
          .ob ((0:Int)<=0/\0<=a.snd.fst/\a.snd.fst<=(↑e.length:Int)) (.ret (.inr (List.take a.snd.fst.toNat e))))))))
    (f,b,l))
structure ag9 (p:A->Bool)(l:List A)(x:Int×Int×List A)(j i:Nat):Prop where
 hj:x.1=↑j
 hi:x.2.1=↑i
 lt:i < j
 le:j<=l.length
 len:x.2.2.length=l.length
 tk:x.2.2.take i=(l.take j).filter fun a=> !p a
 dr:x.2.2.drop j=l.drop j
theorem aqT (p:A->Bool)(d:A)(l:List A)(U:l.length<=9223372036854775806):Is (abl p d l)/\(abl p d l).val=l.filter fun a=> !p a:=by
 unfold abl;rcases ug p l with⟨R,Y⟩ | ⟨u,a,v,B,N,W,b⟩
 ·rw[R];refine⟨bg fun P s=>by grind [is_br,is_ret],?_⟩;simp only[val_lt,a_,val_ret];refine(Qcy.2 fun a N=> ?_).symm
  grind
 ·rw[b];have O:l.length=u.length+(v.length+1):=by rw[B];simp
  have F:(((u.length:Int))== -1)=false:=by
   rfl
  have J:wrp .i64 ((u.length:Int)+1)=((u.length+1:Nat):Int):=by
   rw[wrp_in (k:= .i64) oC];omega
  have I:ag9 p l (wrp .i64 ((u.length:Int)+1),(u.length:Int),l) (u.length+1) u.length:=by
   refine⟨J,rfl,by omega,by omega,rfl,?_,rfl⟩;show l.take u.length=_
   rw[B];have:(u++a::v).take (u.length+1)=u++[a]:=by
    grind
   rw[this,Qb1,Qch];have L:u.filter (fun a=> !p a)=u:=Qcy.2 fun x b=>by grind
   grind
  have m:∀(x:Int×Int×List A) (j i:Nat),ag9 p l x j i->j < l.length->x.2.2.getD j d=l.getD j d/\l.take (j+1)=l.take j++[l.getD j d]/\x.2.2.drop (j+1)=l.drop (j+1):=by
   intro x j i b c;have D:j < x.2.2.length:=by rw[b.len];exact c
   have L:=Qa7 c;have e2:=Qa7 D
   grind [ag9.dr,getD_some]
  have step:∀(x:Int×Int×List A) (j i:Nat),ag9 p l x j i->j < l.length->∀q,p (l.getD j d)=q->
    ag9 p l (wrp .i64 (x.1+1),(cond (!q) (wrp .i64 (x.2.1+1),x.2.2.set x.2.1.toNat (x.2.2.getD x.1.toNat d)) x.2)) (j+1) (cond (!q) (i+1) i):=by
   intro x j i b c q g;obtain⟨n,H,C⟩:=m x j i b c
   have o:wrp .i64 (x.1+1)=((j+1:Nat):Int):=by rw[b.hj,wrp_in (k:= .i64) oC];omega
   have T:=b.lt;cases q with
   | true=>
    refine⟨o,b.hi,?_,by omega,b.len,?_,C⟩
    ·simp;omega
    ·show x.2.2.take i=_
     rw[b.tk,H,Qb1,Qct,g];simp
   | false=>
    refine⟨o,?_,?_,by omega,?_,?_,?_⟩
    ·show wrp .i64 (x.2.1+1)=_
     rw[b.hi,wrp_in (k:= .i64) oC];simp
    ·simp;omega
    ·simp[b.len]
    ·show(x.2.2.set x.2.1.toNat (x.2.2.getD x.1.toNat d)).take (i+1)=_
     rw[b.hi,b.hj,u_,u_,n];have z:i < (x.2.2.set i (l.getD j d)).length:=by rw[Qbs,b.len];omega
     rw[Qbk z,List.getElem_set_self,List.take_set_of_le (lH i),b.tk,H,Qb1,Qct,g];simp
    ·show(x.2.2.set x.2.1.toNat (x.2.2.getD x.1.toNat d)).drop (j+1)=_
     rw[b.hi,u_,Qcx ah];exact C
  refine⟨bg fun P s=>is_br (fun _=>is_ret) fun _=>bg fun Z E=> ?_,?_⟩
  ·subst s E;refine AY (fun x=>∃j i,ag9 p l x j i) (fun x=>l.length - x.1.toNat) ⟨_,_,I⟩ ah ?_;rintro x ⟨j,i,b⟩;have t:=b.hj;have G:=b.hi;have K:=b.lt;have Q:=b.le;have M:=b.len;refine⟨bW fun _=>aQ (fun h=>aW ah ah (az ah (bg fun X S=>is_br (fun _=>aW ah ah (az ah is_ret)) (fun _=>is_ret)))) (fun h=>az ah (az rfl (bg fun v6 hv6=>az qb1 is_ret))),fun x' y=> ?_⟩;revert y;simp only[val_as,a_,iY,val_ob,val_lt,val_ret];by_cases h:x.1 < (↑x.2.2.length:Int)
   ·simp only[h,decide_true,xU];intro e;have c:j < l.length:=by omega
    obtain⟨n,_,_⟩:=m x j i b c
    have f:=step x j i b c _ rfl;have w:x.2.2.getD x.1.toNat d=l.getD j d:=by rw[t,u_];exact n
    rw[w]at e f;have o:wrp .i64 (x.1+1)=((j+1:Nat):Int):=f.hj;cases g:p (l.getD j d)with
    | true=>
     rw[g]at e f;injection e with e
     subst e;exact⟨⟨_,_,f⟩,by omega⟩
    | false=>
     rw[g]at e f;injection e with e
     subst e;exact⟨⟨_,_,f⟩,by omega⟩
   grind
  ·simp only[val_lt,a_,F,og,EJ];refine Bl (fun x=>∃j i,ag9 p l x j i) (fun x=>l.length - x.1.toNat) (fun r=>r=l.filter fun a=> !p a) ?_ _ _ ⟨_,_,I⟩ ah;rintro x ⟨j,i,b⟩;have t:=b.hj;have G:=b.hi;have K:=b.lt;have Q:=b.le;have M:=b.len;simp only[val_as,a_,iY,val_ob,val_lt,val_ret];by_cases h:x.1 < (↑x.2.2.length:Int)
   ·left
    simp only[h,decide_true,xU];have c:j < l.length:=by omega
    obtain⟨n,_,_⟩:=m x j i b c
    have f:=step x j i b c _ rfl;have w:x.2.2.getD x.1.toNat d=l.getD j d:=by rw[t,u_];exact n
    rw[w]at f⊢;have o:wrp .i64 (x.1+1)=((j+1:Nat):Int):=f.hj;have V:l.length - (wrp .i64 (x.1+1)).toNat < l.length - x.1.toNat:=by
     omega
    cases g:p (l.getD j d)with
    | true=>grind
    | false=>grind
   ·right
    simp only[h,decide_false,og];refine⟨_,rfl,?_⟩;have c:j=l.length:=by omega
    rw[G,u_];have e:=b.tk;rw[c,yS]at e;rw[<-e,List.take_append_of_le_length qP,List.take_take,Nat.min_self]
theorem getD_mem {l:List A}{i:Nat}{d:A}(h:i < l.length):l.getD i d∈l:=by
 grind
theorem amV (b:Int->Y->Y⊕R)(f:Int->Y->R)(n:Nat)(i:Int)(y:Y):Aa b f (n+1) i y=thenS (b i y) (Aa b f n (i+1)):=by
 rfl
theorem JY (b:Int->Unit->Unit⊕R)(f:Int->Unit->R)(n:Nat)(i:Int):Aa b f (n+1) i ()=thenS (b i ()) fun _=>Aa b f n (i+1) ():=
 (amV b f n i ()).trans (Qb3 (thenS (b i ())) (funext fun u=>rfl))
theorem Jt (b:Int->Y->Y⊕R)(f:Int->Y->R)(i:Int)(y:Y):Aa b f 0 i y=f i y:=rfl
theorem afe {X:Type}(c:Bool)(a b:X⊕R)(k:X->R):thenS (cond c a b) k=cond c (thenS a k) (thenS b k):=by cases c<;>rfl
end
end Go.Vc
namespace Go.Vc
section
variable {R A X Y:Type}
def IsP (t:Pg R)(Q:R->Prop):Prop:=Is t/\Q t.val
theorem IsP.is {t:Pg R}{Q:R->Prop}(h:IsP t Q):Is t:=h.1
theorem isP_ret {Q:R->Prop}{r:R}(h:Q r):IsP (.ret r) Q:=⟨is_ret,h⟩
theorem isP_ob {Q:R->Prop}{p:Prop}{k:Pg R}(b:p)(a:IsP k Q):IsP (.ob p k) Q:=⟨az b a.1,a.2⟩
theorem isP_ix {Q:R->Prop}{i:Int}{n:Nat}{k:Pg R}(b:0<=i)(a:i < ↑n)(c:IsP k Q):IsP (.ix i n k) Q:=isP_ob ⟨b,a⟩ c
theorem isP_as {Q:R->Prop}{p:Prop}{k:Pg R}(a:IsP k Q):IsP (.as p k) Q:=⟨bW fun _=>a.1,a.2⟩
theorem isP_br {Q:R->Prop}{b:Bool}{t e:Pg R}(c:b=true->IsP t Q)(a:b=false->IsP e Q):IsP (.br b t e) Q:=
 ⟨is_br (fun h=>(c h).1) (fun h=>(a h).1),by
  cases b with
  | true=>exact(c rfl).2
  | false=>exact(a rfl).2⟩
theorem isP_brd {Q:R->Prop}{p:Prop}{a:Decidable p}{t e:Pg R}(c:p->IsP t Q)(b:¬p->IsP e Q):IsP (.br (@decide p a) t e) Q:=
 isP_br (fun h=>c (xe h)) (fun h=>b (of_decide_eq_false h))
theorem isP_beq {Q:R->Prop}{a b:A}[h:BEq A][f:LawfulBEq A]{t e:Pg R}(d:a=b->IsP t Q)(c:¬a=b->IsP e Q):IsP (.br (a==b) t e) Q:=
 isP_br (fun h=>d qbs) (fun h=>c qbs)
theorem isP_bne {Q:R->Prop}{a b:A}[h:BEq A][f:LawfulBEq A]{t e:Pg R}(d:¬a=b->IsP t Q)(c:a=b->IsP e Q):IsP (.br (a !=b) t e) Q:=
 isP_br (fun h=>d qbs) (fun h=>c qbs)
theorem isP_lt {Q:R->Prop}{v:A}{k:A->Pg R}(h:∀x,x=v->IsP (k x) Q):IsP (.lt v k) Q:=h v rfl
theorem kT {Q:R->Prop}{n:Int}{k:Int->Pg R}(h:∀x,x=wrp .i64 n->(-9223372036854775808<=n/\n<=9223372036854775807->x=n)->IsP (k x) Q):IsP (.lt (wrp .i64 n) k) Q:=
 h _ rfl fun a=>wrp_in (k:= .i64) a
theorem isP_cut {Q:R->Prop}(c:X->Prop){a:Pg (X⊕R)}{k:X->Pg R}(d:IsP a (Sum.elim c Q))(e:∀x,c x->IsP (k x) Q):IsP (.cut k a) Q:=by
 have b:∀x,a.val= .inl x->c x:=fun x f=>by
  have:=d.2
  grind
 refine⟨gG d.1 fun x f=>(e x (b x f)).1,?_⟩;rw[jv];have h:=d.2;cases g:a.val with
 | inl x=>exact(e x (b x g)).2
 | inr r=>simp_all
theorem BO {b:Nat->A->Y->Y⊕R}{f:Nat->Y->R}{d:A}{Q:R->Prop}(I:Nat->Y->Prop):∀(l:List A) (k:Nat) (y:Y),I k y->(∀j y,j < l.length->I (k+j) y->Sum.elim (I (k+j+1)) Q (b (k+j) (l.getD j d) y))->(∀y,I (k+l.length) y->Q (f (k+l.length) y))->Q (Jz b f l k y)
 | [],k,y,g,_,i=>i y g
 | a::l,k,y,g,h,i=>by
  unfold Jz;have c:=h 0 y oG g;have e:(a::l).getD 0 d=a:=rfl;rw[e]at c;simp only[Qba]at c;cases n:b k a y with
  | inr r=>grind
  | inl m=>
   rw[n]at c;refine BO (d:=d) I l (k+1) m c (fun j z p o=> ?_) (fun z o=> ?_)
   ·have:=h (j+1) z qb8 qP
    grind
   grind
theorem isP_each {Q:R->Prop}{h:Bool}{s:Ix X Y}{l:List A}{d:A}{a:Int->A->Y->Pg (Y⊕R)}{c:Int->Y->Pg R}{y:Y}(I:Nat->Y->Prop)(m:I 0 y)(n:l.length<=9223372036854775807)
  (e:∀(k:Nat) (y:Y),k < l.length->I k y->IsP (a ↑k (l.getD k d) y) (Sum.elim (I (k+1)) Q)) (f:∀y,I l.length y->IsP (c ↑l.length y) Q):IsP (.each h s l d a c y) Q:=by
 refine⟨Bc I m (.inr n) (fun k y i _ g=>⟨(e k y i g).1,fun q p=> ?_⟩) (fun y _ h=>(f y h).1),?_⟩
 ·have:=(e k y i g).2
  grind
 ·rw[Ar];refine BO (d:=d) I l 0 y m (fun j y o b=> ?_) (fun y b=> ?_)
  ·rw[JH]at b⊢;exact(e j y o b).2
  ·rw[JH]at b⊢;exact(f y b).2
theorem CE {b:Int->Y->Y⊕R}{f:Int->Y->R}{Q:R->Prop}(I:Int->Y->Prop)(e:Int):∀(n:Nat) (i:Int) (y:Y),(e - i).toNat=n->I i y->(∀i y,i < e->I i y->Sum.elim (I (i+1)) Q (b i y))->(∀i y,e<=i->I i y->Q (f i y))->Q (Aa b f n i y)
 | 0,i,y,h,c,_,a=>a i y ah c
 | n+1,i,y,h,c,d,a=>by
  unfold Aa;have g:=d i y ah c;cases k:b i y with
  | inr r=>grind
  | inl j=>rw[k]at g;exact CE I e n (i+1) j ah g d a
theorem isP_cnt {Q:R->Prop}{s:Ix X Y}{a b:Int}{e:Int->Y->Pg (Y⊕R)}{g:Int->Y->Pg R}{y:Y}(I:Int->Y->Prop)(l:I a y)(o: -9223372036854775808<=a)(m:b<=9223372036854775807)
  (j:∀(i:Int) (y:Y),a<=i->i < b->I i y->IsP (e i y) (Sum.elim (I (i+1)) Q)) (k:∀i y,a<=i->b<=i->I i y->IsP (g i y) Q):IsP (.cnt s a b e g y) Q:=by
 refine⟨CJ I l o m (fun i y d f c=>⟨(j i y d f c).1,fun n p=> ?_⟩) (fun i y d f h=>(k i y d f h).1),?_⟩
 ·have:=(j i y d f c).2
  grind
 ·rw[tJ];refine CE (fun i y=>a<=i/\I i y) b _ a y rfl ⟨AA _,l⟩ (fun i y d c=> ?_) (fun i y d c=>(k i y c.1 d c.2).2);have:=(j i y c.1 d c.2).2;cases q:(e i y).val with
  | inr r=>grind
  | inl n=>grind
theorem isP_wh {Q:R->Prop}{n:Nat}{g:R}{step:X->Pg (X⊕R)}{x:X}(I:X->Prop)(a:X->Nat)(f:I x)(e:a x < n)
  (d:∀x,I x->IsP (step x) (Sum.elim (fun c=>I c/\a c < a x) Q)):IsP (.wh n g step x) Q:=by
 refine⟨AY I a f e fun x b=>⟨(d x b).1,fun c h=> ?_⟩,?_⟩
 ·have:=(d x b).2
  grind
 ·rw[EJ];refine Bl I a Q (fun x b=> ?_) n x f e;have:=(d x b).2;cases i:(step x).val with
  | inl c=>grind
  | inr r=>grind
end
end Go.Vc
namespace Go.Vc
open Go.RowKit Go.ChangeShapes Go.WideShapes Go.ChangeAt Go.Joins
structure Sz (P:Program) where
 M:{H:Type}->TypeId->DataW H->Nat->Prop
 str:∀{H:Type} {t:TypeId} {s:List UInt8} {n:Nat},M (H:=H) t (.lit (.string s)) n->s.length<=n
 sl:∀{H:Type} {t e:TypeId} {el sp:List (DataW H)} {n:Nat},P.underlying t=some (.slice e)->1<=P.bytesOf e->M t (.slice el sp) n->el.length<=n/\∀d∈el,M e d n
 st:∀{H:Type} {t:TypeId} {fs:Array Field} {ps:List (DataW H)} {n:Nat},P.underlying t=some (.struct fs)->M t (.agg ps) n->∀(i:Nat) (f:Field) (p:DataW H),fs[i]? =some f->ps[i]? =some p->M f.type p n
section
variable {D α β:Type}{S:Sh D}{P:Program}{Z:Sz P}{F:Nat}
def dV (F:Nat)(P:Program)(S:Sh D)(Z:Sz P)(t:TypeId)(c:gK D α)(f:Nat->α->Prop):Prop:=
 ∀{H:Type} {enc:TypeId×Value->H} {w:World} {e:Nat} {d:Nat->Bool} {g:Bool} {b:Nat} {cs:List Value} {x:DataW H×List MemPlace},
  b < F->DataW.trod enc P w e d g b t cs=some x->∃a,aN S NoN w noG (c.enc a) cs/\∀n,Z.M t x.1 n->f n a
theorem gq {t:TypeId}{c:gK D α}{b:α->Prop}(h:ajn P S t c b):dV F P S Z t c fun _ a=>b a:=by
 intro H enc w e d g i cs x _ f;obtain⟨a,k,j⟩:=h f
 grind
theorem Bz {t:TypeId}{c:gK D α}{d b:Nat->α->Prop}(h:dV F P S Z t c d)(o:∀n a,d n a->b n a):dV F P S Z t c b:=by
 intro H enc w g e j k cs x f i;obtain⟨a,m,l⟩:=h f i
 grind
theorem Qy {t:TypeId}{c:gK D α}{a:Nat->α->Prop}:dV 0 P S Z t c a:=by
 intro H enc w d b e f cs x g;omega
theorem iG {t:TypeId}(e:P.underlying t=some .string):dV F P S Z t cStr fun n s=>s.length<=n:=by
 intro H enc w i f j k cs x _ d;obtain⟨a,b,l⟩:=amG (S:=S) e d;obtain⟨s,g,h,_⟩:=DataW.trod_string e d;refine⟨a,b,fun n c=> ?_⟩;rw[h]at c;have:=Z.str c;rw[g]at b;have b:Value.string s= .string ⟨a.toArray⟩/\_:=b.1
 grind
def Hz (F:Nat)(P:Program)(S:Sh D)(Z:Sz P)(k:List Field)(d:Nat)(c:gK D α)(g:Nat->α->Prop):Prop:=
 ∀{H:Type} {enc:TypeId×Value->H} {w:World} {e:Nat} {b:Nat->Bool} {h:Bool} {m:Nat} {cs:List Value} (j:List (DataW H)),m < F->
  (∀(i:Nat) (f:Field),k[i]? =some f->∃x:DataW H×List MemPlace,DataW.trod enc P w e b h m f.type ((cs.drop f.offset).take (P.cellsOf f.type))=some x/\j[i]? =some x.1)->cs.length=d+c.n->
  ∃a,aN S NoN w noG (c.enc a) (cs.drop d)/\∀n,(∀(i:Nat) (f:Field) (p:DataW H),k[i]? =some f->j[i]? =some p->Z.M f.type p n)->g n a
theorem fZ {f:Field}{d:Nat}{c:gK D α}{b:Nat->α->Prop}(n:f.offset=d)(k:P.cellsOf f.type=c.n)(h:dV F P S Z f.type c b):Hz F P S Z [f] d c b:=by
 intro H enc w l g o m cs p i j q;obtain⟨x,e,r⟩:=j 0 f rfl;rw[n,k,Qda qb8]at e;obtain⟨a,t,s⟩:=h i e
 grind
theorem aS {f:Field}{v:List Field}{k:Nat}{c:gK D α}{d:gK D β}{g:Nat->α->Prop}{e:Nat->β->Prop}(L:f.offset=k)(J:P.cellsOf f.type=c.n)(h:dV F P S Z f.type c g)(M:Hz F P S Z v (k+c.n) d e):
  Hz F P S Z (f::v) k (bD c d) fun n p=>g n p.1/\e n p.2:=by
 intro H enc w K z N m cs A o s B;obtain⟨x,u,G⟩:=s 0 f rfl;rw[L,J]at u;obtain⟨a,I,r⟩:=h o u;obtain⟨b,C,q⟩:=M (A.drop 1) o (fun i l j=>by
  obtain⟨y,E,Q⟩:=s (i+1) l (by simpa using j);exact⟨y,E,by grind⟩) (by simp only[bD]at B;omega)
 refine⟨(a,b),?_,fun n t=>⟨r n (t 0 f x.1 rfl G),q n fun i l p j O=>t (i+1) l p (by simpa using j) qP⟩⟩;have:=aN.app I C;rw[<-List.drop_drop,Qcn]at this;exact this
theorem qo {t:TypeId}{k:Array Field}{c:gK D α}{d:Nat->α->Prop}{f:α->β}{g:β->α}(r:P.underlying t=some (.struct k))(L:P.cellsOf t=c.n)(B:∀a,g (f a)=a)(h:Hz F P S Z k.toList 0 c d):
  dV (F+1) P S Z t (kK c f g) fun n b=>d n (g b):=by
 intro H enc w y q C z cs x I A;obtain⟨j,m,K,G,J,v,u⟩:=DataW.trod_struct r A;obtain⟨a,s,E⟩:=h (m:=m) (cs:=cs) (j.map (·.1)) ah (fun i l p=>by
  have o:k[i]? =some l:=by simpa using p
  have e:i < j.length:=by grind
  exact⟨j[i],by rw[u i l o];simp[e],by simp[e]⟩) ah
 refine⟨f a,by simp only[kK,B];simpa using s,fun n M=> ?_⟩
 grind [Sz.st]
theorem dV.mono {b:Nat}{t:TypeId}{c:gK D α}{a:Nat->α->Prop}(h:dV F P S Z t c a)(k:b<=F):dV b P S Z t c a:=by
 intro H enc w e d g i cs x j f;exact h ah f
theorem fV {t:TypeId}{e:Array Field}{c:gK D α}{d:Nat->α->Prop}{f:α->β}{g:β->α}(q:P.underlying t=some (.struct e))(j:P.cellsOf t=c.n)(m:∀a,g (f a)=a)(h:Hz F P S Z e.toList 0 c d):
  dV F P S Z t (kK c f g) fun n b=>d n (g b):=by
 intro H enc w k i o p cs x r l;exact qo q j m h ah l
theorem fM {t e:TypeId}{b:gK D α}{k:Nat->α->Prop}{f:List α->D}{W:D->Option (List α)}{dflt:α}(C:P.underlying t=some (.slice e))(G:1<=P.bytesOf e)(hn:P.cellsOf e=b.n)(hce:bz S b)(h:dV F P S Z e b k)
  (Q:∀l,S.size (f l)=b.n) (v:∀l,S.len (f l)=l.length) (N:∀l i j,S.cell (f l) i j=(b.enc (l.getD i dflt)).getD j .any) (E:∀l,S.mp (f l)=none:=by intro _;rfl):
  dV F P S Z t (nD f W []) fun n l=>l.length<=n/\∀a∈l,k n a:=by
 intro H enc w A T held fuel cs x hF hx;rcases DataW.trod_slice C hx with⟨rfl,_⟩ | ⟨r,q,cap,o,rest,m,hfm,rfl,K,hb,Y,hm,hlen,J,_,_⟩
 ·refine⟨[],⟨?_,trivial⟩,fun n _=>⟨by simp,fun a s=>by simp at s⟩⟩;have hz:S.len (f [])=0:=v [];intro w' _;have:=zL.mk (S:=S) (w:=w') (f []) (E []) none 0 (fun _ _=> .bool false) ah ah (fun i j c _=>by omega) (fun i j c _=>by omega) (fun i j _ c _=>by omega)
  grind
 ·have B:∀i,i < q->∃a,(∃z,w.cells? A (r.add (i*b.n)) b.n=some z/\aN S NoN w noG (b.enc a) z)/\∀n,(∀y,o[i]? =some y->Z.M e y.1 n)->k n a:=by
   intro i c;have:=J i c;have R:i < o.length:=by omega
   rw[Qa4 R,hn,Option.bind_eq_some_iff]at this;obtain⟨z,L,hy⟩:=this;obtain⟨a,s,hga⟩:=h ah hy
   grind
  obtain⟨l,M,hq⟩:=adc q B;refine⟨l,⟨?_,trivial⟩,fun n O=> ?_⟩
  ·have key:∀i j,i < l.length->j < b.n->∃u,w.cell? (r.add (i*b.n+j))=some u/\((b.enc (l.getD i dflt)).getD j .any).Rel S NoN w noG u/\((b.enc (l.getD i dflt)).getD j .any).iT=true:=by
    intro i j c g;obtain⟨⟨z,L,p⟩,_⟩:=hq i c;obtain⟨_,hvl,V⟩:=World.cells?_some L
    grind [bz.data,bz.len,aN.getD',add_add',getD_some]
   have U:∀i j,∃u,i < l.length->j < b.n->w.cell? (r.add (i*b.n+j))=some u/\((b.enc (l.getD i dflt)).getD j .any).Rel S NoN w noG u/\((b.enc (l.getD i dflt)).getD j .any).iT=true:=by
    intro i j;by_cases c:i < l.length
    ·by_cases g:j < b.n
     ·grind
     ·exact⟨undef,fun _ h=>absurd h g⟩
    ·exact⟨undef,fun h=>absurd h c⟩
   have:=aaE (S:=S) (w:=w) (d:=f l) (a:=some r) (n:=q) (cap:=cap) (by rw[v,M]) Y (by unfold maxLen at hm;omega) (fun i j=>Classical.choose (U i j)) (fun i j c g=> ?_) (fun i j c g=> ?_) (fun i j d' c g I=> ?_)
   ·exact this (E l)
   ·grind
   ·rw[v]at c;rw[Q]at g;rw[N l i j];obtain⟨_,p,X⟩:=Qc (U i j) c g;exact(EW (w':=w) X p (fun _ _ _=>rfl)).1
   ·rw[v]at c;rw[Q]at g;rw[N l i j]at I;have p:=(Qc (U i j) c g).2.1;generalize Classical.choose (U i j)=u at p⊢;rw[I]at p;exact p
  ·rw[K]at O;obtain⟨k1,k2⟩:=Z.sl C G O;refine⟨by grind,fun a s=> ?_⟩;obtain⟨i,c,rfl⟩:=Qc1 s
   grind
def aac (P:Program)(S:Sh D)(Z:Sz P)(t:TypeId)(c:Arg D α)(e:Nat->α->Prop):Prop:=
 ∀{H:Type} {enc:TypeId×Value->H} {w:World} {r:Reach} {b:Nat} {v:Value} {d:DataW H} {f:List MemPlace},Value.okWide P w r b t v->DataW.Trod enc P w 0 (fun _=>true) true t v d f->∃a,(c.enc a).Rel S NoN w noG v/\∀n,Z.M t d n->e n a
theorem U9 {t:TypeId}{f:TypeDesc}{c:gK D α}{b:Nat->α->Prop}(l:P.underlying t=some f)(p:aGY f=true)(o:bz S c)(s:c.n=1)(h:∀F,dV F P S Z t c b):aac P S Z t (aLf c) b:=by
 intro H enc w r u v d z e n;obtain⟨j,m⟩:=n;have q:v.cells.toList=[v]:=by
  simp only[Value.okWide,l]at e;cases f<;>simp[aGY]at p
  all_goals (simp only[Cell.okWide,l]at e;cases v<;>simp_all [Cell.ok,Value.cells])
 rw[q]at m;obtain⟨a,i,y⟩:=h (j+1) (Qcv _) m;refine⟨a,?_,y⟩;have k:=o.len a;simp only[aLf];generalize c.enc a=g at i k;cases g with
 | nil=>exact i.elim
 | cons x g=>
  cases g with
  | cons _ _=>simp[s]at k
  | nil=>exact i.1
theorem adZ {t:TypeId}{i:Array Field}{c:gK D α}{b:Nat->α->Prop}(n:P.underlying t=some (.struct i))(h:∀F,dV F P S Z t c b):aac P S Z t (aAgg c) b:=by
 intro H enc w r k v d o e j;obtain⟨f,g⟩:=j;simp only[Value.okWide,n]at e;obtain⟨cs,rfl,_⟩:=e;obtain⟨a,m,l⟩:=h (f+1) (Qcv _) g;exact⟨a,⟨cs.toList,by simp,by simpa[Value.cells]using m⟩,l⟩
def YW (P:Program)(S:Sh D)(Z:Sz P)(g:List TypeId)(c:vH D α)(e:Nat->α->Prop):Prop:=
 ∀{H:Type} {enc:TypeId×Value->H} {w:World} {r:Reach} {b:Nat} {f:List Value} {h:List (DataW H)} {i:List MemPlace},(∀(j:Nat) t v,g[j]? =some t->f[j]? =some v->Value.okWide P w r b t v)->
  DataW.TrodAll enc P w 0 (fun _=>true) true g f h i->∃a,d_ S NoN w noG (c.enc a) f/\∀n,(∀(j:Nat) t d,g[j]? =some t->h[j]? =some d->Z.M t d n)->e n a
theorem aqj {t:TypeId}{c:Arg D α}{b:Nat->α->Prop}(h:aac P S Z t c b):YW P S Z [t] (a1 c) b:=by
 intro H enc w r i y x u e k;obtain⟨v,o,d,s,p,q,rfl,rfl,rfl,l,g⟩:=trodAll_cons k;obtain⟨rfl,rfl,rfl⟩:=trodAll_nil g;obtain⟨a,f,m⟩:=h (e 0 t v rfl rfl) l;exact⟨a,⟨f,trivial⟩,fun n j=>m n (j 0 t d rfl rfl)⟩
theorem Ls {t:TypeId}{o:List TypeId}{c:Arg D α}{r:vH D β}{f:Nat->α->Prop}{e:Nat->β->Prop}(h:aac P S Z t c f)(C:YW P S Z o r e):YW P S Z (t::o) (aCons c r) fun n p=>f n p.1/\e n p.2:=by
 intro H enc w r A L K J g E;obtain⟨v,G,d,I,p,q,rfl,rfl,rfl,h1,i⟩:=trodAll_cons E;obtain⟨a,z,F⟩:=h (g 0 t v rfl rfl) h1;obtain⟨b,y,l⟩:=C (fun j k u h1 i=>g (j+1) k u qcp (by simpa using i)) i;exact⟨(a,b),⟨z,y⟩,fun n m=>⟨F n (m 0 t d rfl rfl),l n fun j k s x B=>m (j+1) k s (by simpa using x) (by simpa using B)⟩⟩
theorem ag2 {f:FuncId}{c:vH D α}{i:α->Option Prop}{m:Nat->α->Prop}{ts:List TypeId}(n:Nat)(B:CtOk P S f (ctN (args c) aoQ 1 [] i (fun _=>true)))(p:∀a,c.dec (c.enc a)=some a)(o:YW P S Z ts c m)
  (q:∀a,m n a->nG (i a)) {H:Type} {y:TypeId×Value->H} {w:World} {r:Reach} {u:Nat} {vs:List Value} {z:List (DataW H)} {E:List MemPlace}
  (N:aai S NoN w) (I:∀(j:Nat) t d,ts[j]? =some t->z[j]? =some d->Z.M t d n) (x:∀(j:Nat) t v,ts[j]? =some t->vs[j]? =some v->Value.okWide P w r u t v) (J:DataW.TrodAll y P w 0 (fun _=>true) true ts vs z E):
  Calls P f vs.toArray w fun e C=>e= .returned (.bool true)/\Below w.heap.size w C:=by
 obtain⟨a,T,L⟩:=o x J;have A:=q a (L n I);have M:aJ NoN (jC ([]:List (Bk D))) noG=NoN:=by
  funext b;simp[aJ,jC,hot]
 have G:Hp S ⟨w,fun _=>False⟩ NoN (jC ([]:List (Bk D))) noG (· < ([]:List (Bk D)).length) w:=
  ⟨zK.refl ⟨w,fun _=>False⟩,fun b F=>F.elim,fun l O h=>by simp[jC]at h,fun l R v Q b h=>by simp[jC,hot]at h,fun l v h=>by simp[noG]at h,fun l v h=>by simp[noG]at h,by grind⟩
 refine(B.calls (fun _=>False) NoN noG w vs (c.enc a) [] ((i a).map dq) (.one (.lf (.bool true))) [] [] G qP ?_ (AL.2 A)).mono ?_
 ·show ctN (args c) aoQ 1 [] i (fun _=>true) (c.enc a) []=_
  unfold ctN;have:(args c).dec (c.enc a) []=some a:=p a;rw[this];rfl
 ·rintro e C ⟨v,g',rfl,_,g,s⟩;have s:v= .bool true:=s;exact⟨by rw[s],⟨g.below.os,g.below.tape,g.below.output,g.below.size,fun k K=>g.below.block k K (fun h=>h)⟩⟩
end
end Go.Vc
namespace Go.Vc
open Go.RowKit
theorem kr {p:Prop}(h:p:=by kernel_rfl):p:=h
theorem iR {A:Sort _}{R:Type}{r:R}:A->Is (.ret r):=fun _=>is_ret
theorem isA {R:Type}{t:Pg R}(h:Is t:=by
 repeat' first
  | exact is_ret
  | exact uz (room_of ah ah)
  | refine jh (fun _ _ _=> ?_)
  | refine bg (fun _ _=> ?_)
  | refine bW (fun _=> ?_)
  | refine aW ah ah ?_
  | refine aQ (fun _=> ?_) (fun _=> ?_)
  | refine bu (fun _=> ?_) (fun _=> ?_)
  | refine dm (fun _=> ?_) (fun _=> ?_)
  | refine is_br (fun _=> ?_) (fun _=> ?_)
  | refine az (by first | assumption | omega | decide | exact room_of ah ah | exact And.intro rfl (by assumption)) ?_
  | refine gG ?_ (fun _ _=> ?_)
  | refine dh (.inr ah) (fun _ _ _ _=> ?_) (fun _ _=> ?_)
  | refine EX ah ah (fun _ _ _ _ _=> ?_) (fun _ _=> ?_)):Is t:=h
abbrev cI {D:Type}:gK D Int:=cInt .i64
abbrev s0 (n:Nat):It:= .slot n false [none]
abbrev nn (n:Nat):List (Option TypeId):=List.replicate n none
abbrev R1 {D A:Type}(c:gK D A):Shp D:=shr [.slot 0 false [none]] (l1 c)
abbrev rl {X R:Type}(x:X):Pg (X⊕R):= .ret (.inl x)
abbrev u2 {A B:Type}{R:Sort _}(f:A->B->R):A×B->R:=fun a=>f a.1 a.2
abbrev u3 {A B C:Type}{R:Sort _}(f:A->B->C->R):A×B×C->R:=fun a=>f a.1 a.2.1 a.2.2
abbrev u4 {A B C E:Type}{R:Sort _}(f:A->B->C->E->R):A×B×C×E->R:=fun a=>f a.1 a.2.1 a.2.2.1 a.2.2.2
abbrev u11 {A B U:Type}{R:Sort _}(f:A->B->R):(A×U)×B->R:=fun a=>f a.1.1 a.2
abbrev aL {A R:Type}(l:List A)(k:Pg R):Pg R:= .as (l.length<=9223372036854775807) k
section
variable {D:Type}{Z:Seat D}{α β:Type}
noncomputable def E0 (i:List (Ent Z))(J:List (Sh1 Z.S))(c:vH D α){m:Nat}[s:lu Z.S m c](g:Shp D)[r:ShpOk Z.S g](d:List Nat){f:FuncId}{b:Func}(n:Z.P.funcs[f]? =some b)(k:Nat)(F:α->Pg g.X)
  (l:∀a,Is (F a):=by intro a;exact isA) (q:Nat.ble m b.ntmps=true:=by kernel_rfl) (o:vC b=true:=by kernel_rfl) (p:b.results.toList.length=k:=by kernel_rfl) (j:∀a e,nG none->(F a).run e=(wE Z (Ad i) (jL J) (args c) g 0 d b b.ntmps a).run e:=by intro a e _;kernel_rfl):Ent Z:=
 rE Z i J (args c) (iE q) g d n rfl o k p F (fun _=>none) (fun a e h=>j a e h) (fun a=>(F a).val) fun a _=>⟨l a,rfl⟩
noncomputable def vz (j:List (Ent Z))(J:List (Sh1 Z.S))(c:vH D α)(b:E_ D β){m l:Nat}[v:lu Z.S m c][u:qG Z.S l b](i:Shp D)[t:ShpOk Z.S i](g:List Nat){f:FuncId}{d:Func}(r:Z.P.funcs[f]? =some d)(k:Nat)(F:α×β->Pg i.X)
  (o:∀a,Is (F a):=by intro a;exact isA) (p:Nat.ble m d.ntmps=true:=by kernel_rfl) (q:vC d=true:=by kernel_rfl) (s:d.results.toList.length=k:=by kernel_rfl) (n:∀a e,nG none->(F a).run e=(wE Z (Ad j) (jL J) (iM c b) i l g d d.ntmps a).run e:=by intro a e _;kernel_rfl):Ent Z:=
 rE Z j J (iM c b) (l_ p) i g r rfl q k s F (fun _=>none) (fun a e h=>n a e h) (fun a=>(F a).val) fun a _=>⟨o a,rfl⟩
noncomputable def E1 (j:List (Ent Z))(J:List (Sh1 Z.S))(c:vH D α){m:Nat}[t:lu Z.S m c](i:Shp D)[s:ShpOk Z.S i](d:List Nat){f:FuncId}{b:Func}(o:Z.P.funcs[f]? =some b)(k:Nat)(F:α->Pg i.X)(g:α->Prop)
  (n:∀a,g a->Is (F a):=by intro a h;exact isA) (r:Nat.ble m b.ntmps=true:=by kernel_rfl) (p:vC b=true:=by kernel_rfl) (q:b.results.toList.length=k:=by kernel_rfl) (l:∀a e,g a->(F a).run e=(wE Z (Ad j) (jL J) (args c) i 0 d b b.ntmps a).run e:=by intro a e _;kernel_rfl):Ent Z:=
 rE Z j J (args c) (iE r) i d o rfl p k q F (fun a=>some (g a)) (fun a e h=>l a e h) (fun a=>(F a).val) fun a h=>⟨n a h,rfl⟩
noncomputable def Ae (n:List (Ent Z))(J:List (Sh1 Z.S))(c:vH D α)(b:E_ D β){m l:Nat}[w:lu Z.S m c][v:qG Z.S l b](j:Shp D)[u:ShpOk Z.S j](g:List Nat){f:FuncId}{d:Func}(s:Z.P.funcs[f]? =some d)(k:Nat)(F:α×β->Pg j.X)(i:α×β->Prop)
  (p:∀a,i a->Is (F a):=by intro a h;exact isA) (q:Nat.ble m d.ntmps=true:=by kernel_rfl) (r:vC d=true:=by kernel_rfl) (t:d.results.toList.length=k:=by kernel_rfl) (o:∀a e,i a->(F a).run e=(wE Z (Ad n) (jL J) (iM c b) j l g d d.ntmps a).run e:=by intro a e _;kernel_rfl):Ent Z:=
 rE Z n J (iM c b) (l_ q) j g s rfl r k t F (fun a=>some (i a)) (fun a e h=>o a e h) (fun a=>(F a).val) fun a h=>⟨p a h,rfl⟩
noncomputable def E2 (i:List (Ent Z))(J:List (Sh1 Z.S))(c:vH D α){m:Nat}[t:lu Z.S m c](g:Shp D)[s:ShpOk Z.S g](d:List Nat){f:FuncId}{b:Func}(q:Z.P.funcs[f]? =some b)(k:Nat)(F:α->Pg g.X)(h:α->Option Prop)(l:α->g.X)
  (n:∀a,nG (h a)->Is (F a)/\(F a).val=l a) (o:Nat.ble m b.ntmps=true:=by kernel_rfl) (p:vC b=true:=by kernel_rfl) (r:b.results.toList.length=k:=by kernel_rfl) (j:∀a e,nG (h a)->(F a).run e=(wE Z (Ad i) (jL J) (args c) g 0 d b b.ntmps a).run e:=by intro a e _;kernel_rfl):Ent Z:=
 rE Z i J (args c) (iE o) g d q rfl p k r F h j l n
noncomputable def WO (j:List (Ent Z))(J:List (Sh1 Z.S))(c:vH D α)(b:E_ D β){m l:Nat}[w:lu Z.S m c][v:qG Z.S l b](h:Shp D)[u:ShpOk Z.S h](g:List Nat){f:FuncId}{d:Func}(s:Z.P.funcs[f]? =some d)(k:Nat)(F:α×β->Pg h.X)(i:α×β->Option Prop)(o:α×β->h.X)
  (p:∀a,nG (i a)->Is (F a)/\(F a).val=o a) (q:Nat.ble m d.ntmps=true:=by kernel_rfl) (r:vC d=true:=by kernel_rfl) (t:d.results.toList.length=k:=by kernel_rfl) (n:∀a e,nG (i a)->(F a).run e=(wE Z (Ad j) (jL J) (iM c b) h l g d d.ntmps a).run e:=by intro a e _;kernel_rfl):Ent Z:=
 rE Z j J (iM c b) (l_ q) h g s rfl r k t F i n o p
abbrev alV {A:Type}(l:List A)(d:A)(p:A->Bool):Pg Int:=aL l (.each false m_ l d (fun i a (_:Unit)=> .ix i l.length (.br (p a) (.ret (.inr i)) (.ret (.inl ())))) (fun _ _=> .ret (-1)) ())
theorem aj6 {A:Type}(l:List A)(d:A)(p:A->Bool):Is (alV l d p)/\(alV l d p).val=eX p l:=⟨isA,lJ p l 0⟩
abbrev akO {A:Type}(l:List A)(p:A->Bool):Pg Bool:= .lt (eX p l) fun v=> .ret (decide (0<=v))
theorem aiN {A:Type}(l:List A)(p:A->Bool):Is (akO l p)/\(akO l p).val=l.any p:=⟨isA,by
 show decide (0<=eX p l)=l.any p
 grind [ug]⟩
abbrev jX {S:Sh D}:List (Sh1 S):=[jS 2 (aT (fun a=>[s0 8]) (l1 cI))]
noncomputable def EI {A:Type}(c:List (Ent Z))(g:gK D (List A))(n:Nat){m:Nat}[o:lu Z.S m (aCons (aLf g) (a1 (ja n [])))]{f:FuncId}{b:Func}(i:Z.P.funcs[f]? =some b)(d:A)(p:A->Bool)
  (l:Nat.ble m b.ntmps=true:=by kernel_rfl) (j:vC b=true:=by kernel_rfl) (k:b.results.toList.length=1:=by kernel_rfl) (h:∀(a:List A×Unit) e,nG none->(alV a.1 d p).run e=(wE Z (Ad c) (jL (S:=Z.S) jX) (args (aCons (aLf g) (a1 (ja n [])))) (R1 cI) 0 [] b b.ntmps a).run e:=by intro a e _;kernel_rfl):Ent Z:=
 E2 c jX (aCons (aLf g) (a1 (ja n []))) (R1 cI) [] i 1 (fun a=>alV a.1 d p) (fun _=>none) (fun a=>eX p a.1) (fun a _=>aj6 a.1 d p) l j k h
noncomputable def Me {A:Type}(g:List (Ent Z))(i:gK D (List A))(n:Nat)(cs:List Nat)(b:E_ D β){m l:Nat}[s:lu Z.S m (aCons (aLf i) (a1 (ja n cs)))][r:qG Z.S l b]{f:FuncId}{c:Func}(j:Z.P.funcs[f]? =some c)(d:A)(p:A->β->Bool)
  (q:Nat.ble m c.ntmps=true:=by kernel_rfl) (k:vC c=true:=by kernel_rfl) (o:c.results.toList.length=1:=by kernel_rfl) (h:∀(a:(List A×Unit)×β) e,nG none->(alV a.1.1 d fun x=>p x a.2).run e=(wE Z (Ad g) (jL (S:=Z.S) jX) (iM (aCons (aLf i) (a1 (ja n cs))) b) (R1 cI) l cs c c.ntmps a).run e:=by intro a e _;kernel_rfl):Ent Z:=
 WO g jX (aCons (aLf i) (a1 (ja n cs))) b (R1 cI) cs j 1 (fun a=>alV a.1.1 d fun x=>p x a.2) (fun _=>none) (fun a=>eX (fun x=>p x a.2) a.1.1) (fun a _=>aj6 a.1.1 d fun x=>p x a.2) q k o h
noncomputable def EA {A:Type}(c:List (Ent Z))(d:gK D (List A))(n:Nat){m:Nat}[l:lu Z.S m (aCons (aLf d) (a1 (ja n [])))]{f:FuncId}{b:Func}(h:Z.P.funcs[f]? =some b)(p:A->Bool)
  (k:Nat.ble m b.ntmps=true:=by kernel_rfl) (i:vC b=true:=by kernel_rfl) (j:b.results.toList.length=1:=by kernel_rfl) (g:∀(a:List A×Unit) e,nG none->(akO a.1 p).run e=(wE Z (Ad c) (jL (S:=Z.S) []) (args (aCons (aLf d) (a1 (ja n [])))) (R1 aj) 0 [] b b.ntmps a).run e:=by intro a e _;kernel_rfl):Ent Z:=
 E2 c [] (aCons (aLf d) (a1 (ja n []))) (R1 aj) [] h 1 (fun a=>akO a.1 p) (fun _=>none) (fun a=>a.1.any p) (fun a _=>aiN a.1 p) k i j g
noncomputable def EAB {A:Type}(d:List (Ent Z))(h:gK D (List A))(n:Nat)(cs:List Nat)(b:E_ D β){m l:Nat}[r:lu Z.S m (aCons (aLf h) (a1 (ja n cs)))][q:qG Z.S l b]{f:FuncId}{c:Func}(i:Z.P.funcs[f]? =some c)(p:A->β->Bool)
  (o:Nat.ble m c.ntmps=true:=by kernel_rfl) (j:vC c=true:=by kernel_rfl) (k:c.results.toList.length=1:=by kernel_rfl) (g:∀(a:(List A×Unit)×β) e,nG none->(akO a.1.1 fun x=>p x a.2).run e=(wE Z (Ad d) (jL (S:=Z.S) []) (iM (aCons (aLf h) (a1 (ja n cs))) b) (R1 aj) l cs c c.ntmps a).run e:=by intro a e _;kernel_rfl):Ent Z:=
 WO d [] (aCons (aLf h) (a1 (ja n cs))) b (R1 aj) cs i 1 (fun a=>akO a.1.1 fun x=>p x a.2) (fun _=>none) (fun a=>a.1.1.any fun x=>p x a.2) (fun a _=>aiN a.1.1 fun x=>p x a.2) o j k g
theorem xM {c:sU D}{h:Shp D}{k m n:Nat}{d:List Nat}{b:c.A->Option Prop}{j:c.A->h.X}{f:FuncId}{g:Func}(q:List (Ent Z))(J:List (Sh1 Z.S))[p:ShpOk Z.S h](s:Z.P.funcs[f]? =some g)(t:g.ntmps=n)(F:c.A->Pg h.X)(o:∀a,nG (b a)->Is (F a)/\(F a).val=j a)
  (l:MF Z.S c m n) (r:vC g=true:=by kernel_rfl) (u:g.results.toList.length=k:=by kernel_rfl) (i:∀a e,nG (b a)->(F a).run e=(wE Z (Ad q) (jL J) c h m d g n a).run e:=by intro a e _;kernel_rfl):CtOk Z.P Z.S f (ctN c h k d b j):=
 aqG (fun _ _=>Dh) l p s t r k u F b i j o
end
end Go.Vc
