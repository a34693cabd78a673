/- Codecs: plan.Norm. -/
import Derived.Test.YtenjnekcoapajaaGreatDoorP2
namespace Go.Proofs.YtenjnekcoapajaaGreatDoor
noncomputable section
open Go.RowKit Go.Vc
open Tryz
set_option linter.unusedVariables false
set_option linter.unusedSimpArgs false
set_option maxRecDepth 100000
def arK (o:aC->Int->ae->ae)(rE:aC->Int->ae->Prop)(i:aC->Op->ae->ae)(lX:aC->Op->ae->Prop)(t:aC->Op->ae->ae)(lY:aC->Op->ae->Prop)(p:aC)(prog:Int)(v:ae):Pg ae:=.ob (v.Raws.length<=1048576) (.lt (match v with | ae.mk k s m l q n a=>a) fun(h:List Raw)=> .br (decide (prog < 0)) (.ret (ae.mk (Int.ofNat (nat_lit 10)) (Int.ofNat (nat_lit 0)) [] [] [] [] h)) (aL p.Progs (.br (decide ((↑p.Progs.length:Int)<=prog)) (.ret (ae.mk (Int.ofNat (nat_lit 10)) (Int.ofNat (nat_lit 0)) [] [] [] [] h)) (.ob (v.Slots.length<=1048576) (.lt (oQ v.Slots) fun g=> aL g (.each false mg g gZ (fun j c (b:ae)=> .ix j g.length (.ix prog p.Progs.length (.lt (b.Slots++[Slot.mk c.Num (i p (pz (p.Progs.getD prog.toNat aO) c.Num).1 c.Val.re).re]) fun(e:List Slot)=> .lt (Gg (i p (pz (p.Progs.getD prog.toNat aO) c.Num).1 c.Val.re).re) fun f=> .lt (pz (p.Progs.getD prog.toNat aO) c.Num) fun d=> .br (d.1.Card==3) (.ob (lX p d.1 c.Val.re) (.br (!f) (.ob (bG (b.Slots.length+1) 136) (rl (ae.mk b.Kind b.Bits b.Text b.List b.Pairs e b.Raws))) (rl b.re))) (.br (d.1.Card==4) (.ob (lX p d.1 c.Val.re) (.br (!f) (.ob (bG (b.Slots.length+1) 136) (rl (ae.mk b.Kind b.Bits b.Text b.List b.Pairs e b.Raws))) (rl b.re))) (.ob (lX p d.1 c.Val.re) (.br (!d.1.Card==5) (.ob (bG (b.Slots.length+1) 136) (rl (ae.mk b.Kind b.Bits b.Text b.List b.Pairs e b.Raws))) (.br (!f) (.ob (bG (b.Slots.length+1) 136) (rl (ae.mk b.Kind b.Bits b.Text b.List b.Pairs e b.Raws))) (rl b.re)))))))) (fun j (b:ae)=> .ob (srtQ (fun(x r:Raw)=>True) b.Raws) (.ret (ae.mk b.Kind b.Bits b.Text b.List b.Pairs b.Slots (lm b.Raws)))) (ae.mk (Int.ofNat (nat_lit 10)) (Int.ofNat (nat_lit 0)) [] [] [] [] h)))))))
def Ue (i:aC->Int->ae->ae)(rE:aC->Int->ae->Prop)(j:aC->Op->ae->ae)(lX:aC->Op->ae->Prop)(c:aC->Op->ae->ae)(lY:aC->Op->ae->Prop)(p:aC)(o:Op)(v:ae):Pg ae:=.br (o.Card==4) (aL v.List (.each false mg v.List jP (fun h (g a:ae)=> .ix h v.List.length (.ob (lY p o g.re) (.ob (bG (a.List.length+1) 128) (rl (ae.mk a.Kind a.Bits a.Text (a.List++[(c p o g.re).re]) a.Pairs a.Slots a.Raws))))) (fun h (a:ae)=> .ret a.re) (ae.mk (Int.ofNat (nat_lit 11)) (Int.ofNat (nat_lit 0)) [] [] [] [] []))) (.br (o.Card==5) (.ob (pairsQ v.Pairs) (.lt (jl v.Pairs) fun e=> aL e (.each false mg e dV (fun f d (b:ae)=> .ix f e.length (.ob (lY p o d.Val.re) (.ob (bG (b.Pairs.length+1) 256) (rl (ae.mk b.Kind b.Bits b.Text b.List (b.Pairs++[Pair.mk (jo d.Key.re).re (c p o d.Val.re).re]) b.Slots b.Raws))))) (fun f (b:ae)=> .ret b.re) (ae.mk (Int.ofNat (nat_lit 12)) (Int.ofNat (nat_lit 0)) [] [] [] [] [])))) (.ob (lY p o v.re) (.ret (c p o v.re).re)))
def aa4 (a:aC->Int->ae->ae)(rE:aC->Int->ae->Prop)(b:aC->Op->ae->ae)(lX:aC->Op->ae->Prop)(c:aC->Op->ae->ae)(lY:aC->Op->ae->Prop)(p:aC)(o:Op)(v:ae):Pg ae:=.br (o.Kind==10) (.ob (rE p o.Target v.re) (.ret (a p o.Target v.re).re)) (.ret (jo v.re).re)
def rE (a:Nat)(p:aC)(prog:Int)(v:ae):Prop:=sF 0 a v
def lX (a:Nat)(p:aC)(o:Op)(v:ae):Prop:=sF 2 a v
def lY (a:Nat)(p:aC)(o:Op)(v:ae):Prop:=sF 1 a v
def qY:Nat->(aC->Int->ae->ae)×(aC->Op->ae->ae)×(aC->Op->ae->ae)
 | 0=>(fun _ _ _=>default,fun _ _ _=>default,fun _ _ _=>default)
 | a+1=>(fun p prog v=>(arK ((qY a).1) (rE a) ((qY a).2.1) (lX a) ((qY a).2.2) (lY a) p prog v).val,fun p o v=>(Ue ((qY a).1) (rE a) ((qY a).2.1) (lX a) ((qY a).2.2) (lY a) p o v).val,fun p o v=>(aa4 ((qY a).1) (rE a) ((qY a).2.1) (lX a) ((qY a).2.2) (lY a) p o v).val)
def VW (p:aC)(prog:Int)(v:ae):ae:=(qY (3*tV v)).1 p prog v
def abv (a:Nat):Prop:=(∀(p:aC) (prog:Int) (v:ae),rE a p prog v->(fun r=>kV r/\tV r<=tV v) ((qY a).1 p prog v))/\(∀(p:aC) (o:Op) (v:ae),lX a p o v->(fun r=>kV r/\tV r<=tV v) ((qY a).2.1 p o v))/\(∀(p:aC) (o:Op) (v:ae),lY a p o v->(fun r=>kV r/\tV r<=tV v) ((qY a).2.2 p o v))
def pnI (a:List Raw)(b:List Slot)(i:Nat)(y:ae):Prop:=kV y/\tV y<=1+vM tS (b.take i)+tRs a/\y.Slots.length<=i/\y.Raws=a
def pnL (l:List ae)(i:Nat)(y:ae):Prop:=kV y/\tV y<=1+vM (fun x=>1+tV x) (l.take i)/\y.List.length<=i
def pnP (l:List Pair)(i:Nat)(y:ae):Prop:=kV y/\tV y<=1+vM tP (l.take i)/\y.Pairs.length<=i
theorem aHv (y z:ae)(n:Int):tV (ae.mk y.Kind y.Bits y.Text y.List y.Pairs (y.Slots++[Slot.mk n z]) y.Raws)=tV y+(1+tV z):=by
 rw[lh,lh y];cases y;simp only[ae.Text,ae.List,ae.Pairs,ae.Slots,ae.Raws,M_,yQ,vM,aee,Slot.Val];omega
theorem aGA {y z:ae}{n:Int}(h:kV y)(a:kV z):kV (ae.mk y.Kind y.Bits y.Text y.List y.Pairs (y.Slots++[Slot.mk n z]) y.Raws):=by
 rw[jm]at h⊢;cases y;simp only[ae.Bits,ae.Text,ae.List,ae.Pairs,ae.Slots,ae.Raws]at h⊢;exact⟨h.1,h.2.1,h.2.2.1,fun x b=>(vO.1 b).elim (h.2.2.2 x) fun e=>by rw[QZ.1 e];exact a⟩
theorem aGM (y z:ae):tV (ae.mk y.Kind y.Bits y.Text (y.List++[z]) y.Pairs y.Slots y.Raws)=tV y+(1+tV z):=by
 rw[lh,lh y];cases y;simp only[ae.Text,ae.List,ae.Pairs,ae.Slots,ae.Raws,N7,yQ,vM];omega
theorem aHg {y z:ae}(h:kV y)(a:kV z):kV (ae.mk y.Kind y.Bits y.Text (y.List++[z]) y.Pairs y.Slots y.Raws):=by
 rw[jm]at h⊢;cases y;simp only[ae.Bits,ae.Text,ae.List,ae.Pairs,ae.Slots,ae.Raws]at h⊢
 grind
theorem aHf (y k z:ae):tV (ae.mk y.Kind y.Bits y.Text y.List (y.Pairs++[Pair.mk k z]) y.Slots y.Raws)=tV y+(1+tV k+tV z):=by
 rw[lh,lh y];cases y;simp only[ae.Text,ae.List,ae.Pairs,ae.Slots,ae.Raws,NV,yQ,vM,ady,Pair.Key,Pair.Val];omega
theorem aH7 {y k z:ae}(h:kV y)(a:sIsP k.Kind=true/\kV k)(b:kV z):kV (ae.mk y.Kind y.Bits y.Text y.List (y.Pairs++[Pair.mk k z]) y.Slots y.Raws):=by
 rw[jm]at h⊢;cases y;simp only[ae.Bits,ae.Text,ae.List,ae.Pairs,ae.Slots,ae.Raws]at h⊢;exact⟨h.1,h.2.1,fun x c=>(vO.1 c).elim (h.2.2.1 x) fun e=>by rw[QZ.1 e];exact⟨a,b⟩,h.2.2.2⟩
theorem aka {l:List Slot}(h:l.length<=1048576){x:Slot}(a:x∈oQ l):x∈l:=(IY h).mem_iff.1 ((Bv l h).2.subset a)
theorem aui {l:List Slot}(h:l.length<=1048576):vM tS (oQ l)<=vM tS l:=by
 rw[<-WN (IY h)];exact Ro (Bv l h).2
theorem UD {l v:List Slot}(h:l.length<=1048576)(e:v=oQ l):v.length<=1048576:=by
 have k:=(Bv l h).2.length_le;have b:=(IY h).length_eq;have a:(oQ l).length<=(J3 l).length:=k;rw[e];omega
theorem BC {l:List Pair}(h:pairsQ l){x:Pair}(a:x∈jl l):x∈l:=(wJ (kD h)).mem_iff.1 ((Bo l h).2.subset a)
theorem adz {l:List Pair}(h:pairsQ l):vM tP (jl l)<=vM tP l:=by
 rw[<-WN (wJ (kD h))];exact Ro (Bo l h).2
theorem uk {l v:List Pair}(h:pairsQ l)(e:v=jl l):v.length<=1048576:=by
 have k:(jl l).length<=(KP l).length:=(Bo l h).2.length_le;have b:=(wJ (kD h)).length_eq;have a:=h.1;rw[e];omega
theorem aEs {l:List Raw}(h:l.length<=1048576):tRs (lm l)=tRs l:=by
 rw[UR,UR];exact WN (amR h)
theorem amU {r:List Raw}(a:∀x∈r,rOk x):kV (ae.mk 10 0 [] [] [] [] r)/\tV (ae.mk 10 0 [] [] [] [] r)=1+tRs r:=by
 have a:=(amf r).2 a;simp[kV,kVs,kPs,kSs,tV,tVs,tPs,tSs,u0,a]
theorem aI2 {k:Nat}{b:Nat}{v:ae}{a:List Raw}(h:sF k b v)(e:a=v.Raws):kV (ae.mk 10 0 [] [] [] [] a)/\tV (ae.mk 10 0 [] [] [] [] a)<=tV v:=by
 subst e;obtain⟨c,d⟩:=amU ((jm v).1 h.1.1).1.2;have:=lh v
 grind
theorem aGZ {k b:Nat}{v:ae}(h:sF k (b+1) v){a:List Slot}(e:a=oQ v.Slots){i:Nat}(c:i < a.length):sF (k+2) b (a.getD i gZ).Val:=by
 subst e;have g:=aka (rU h.1).2.1 (getD_mem (d:=gZ) c);obtain⟨f,j⟩:=RV h.1 g;have:=h.2;exact⟨f,by omega⟩
theorem aso {k a:Nat}{v:ae}(h:sF (k+1) (a+1) v){i:Nat}(b:i < v.List.length):sF k a (v.List.getD i jP):=by
 obtain⟨c,e⟩:=Rz h.1 (getD_mem (d:=jP) b);have:=h.2;exact⟨c,by omega⟩
theorem ad5 {k b:Nat}{v:ae}(h:sF (k+1) (b+1) v){a:List Pair}(e:a=jl v.Pairs){i:Nat}(f:i < a.length):sF k b (a.getD i dV).Val/\sIsP (a.getD i dV).Key.Kind=true/\kV (a.getD i dV).Key:=by
 subst e;have c:=BC (rU h.1).2.2.2 (getD_mem (d:=dV) f);obtain⟨j,l,g,_⟩:=FT h.1 c;have:=h.2;exact⟨⟨j,by omega⟩,g,aiF h.1 c⟩
theorem yK {k a:Nat}{v:ae}(h:sF (k+1) (a+1) v):sF k a v:=⟨h.1,by have:=h.2;omega⟩
theorem aHj {k c:Nat}{v:ae}{a:List Raw}{d:List Slot}(h:sF k c v)(e:a=v.Raws):pnI a d 0 (ae.mk 10 0 [] [] [] [] a):=by
 obtain⟨b,f⟩:=amU (r:=a) (by rw[e];exact((jm v).1 h.1.1).1.2);exact⟨b,by omega,pJ _,rfl⟩
theorem K_ {b:List Raw}{a:List Slot}{i:Nat}{y:ae}(h:pnI b a i y):pnI b a (i+1) y.re:=by
 rw[ae.bJ];obtain⟨c,e,g,d⟩:=h;have:=Ro (f:=tS) (Qdd (l:=a) (show i<=i+1 by omega));exact⟨c,by omega,by omega,d⟩
theorem ayo {b:List Raw}{a:List Slot}{i:Nat}{y z:ae}{n:Int}(j:i < a.length)(h:pnI b a i y)(m:kV z/\tV z<=tV (a.getD i gZ).Val){c:List Slot}(e:c=y.Slots++[Slot.mk n z]):pnI b a (i+1) (ae.mk y.Kind y.Bits y.Text y.List y.Pairs c y.Raws):=by
 obtain⟨g,p,q,l⟩:=h;rw[e];have k:=UQ (f:=tS) (d:=gZ) j;have o:=aee (a.getD i gZ);refine⟨aGA g m.1,?_,?_,l⟩
 ·rw[aHv];omega
 ·show(y.Slots++[Slot.mk n z]).length<=i+1
  grind
theorem aze {k i:Nat}{v:ae}{c:List Raw}{b:List Slot}{y:ae}(h:sF k i v)(g:c=v.Raws)(n:b=oQ v.Slots)(l:pnI c b b.length y):kV (ae.mk y.Kind y.Bits y.Text y.List y.Pairs y.Slots (lm y.Raws))/\tV (ae.mk y.Kind y.Bits y.Text y.List y.Pairs y.Slots (lm y.Raws))<=tV v:=by
 obtain⟨a,e,s,q⟩:=l;have j:=rU h.1;have d:y.Raws.length<=1048576:=by grind
 have u:=aui j.2.1;have t:=lh v;have f:=aEs d;have p:=M_ v.Slots;have r:=lh y;rw[Gv,n]at e;rw[g]at e;refine⟨?_,?_⟩
 ·have o:∀x∈lm y.Raws,rOk x:=fun x m=>((jm y).1 a).1.2 x ((amR d).mem_iff.1 m)
  rw[jm]at a⊢;cases y;exact⟨⟨a.1.1,o⟩,a.2⟩
 ·rw[lh];show 1+y.Text.length+tVs y.List+tPs y.Pairs+tSs y.Slots+tRs (lm y.Raws)<=tV v
  rw[f];omega
theorem aHo {l:List ae}:pnL l 0 (ae.mk 11 0 [] [] [] [] []):=by
 obtain⟨a,b⟩:=jb 11 0 [] u0;exact⟨a,by grind,pJ _⟩
theorem ak2 {l:List ae}{i:Nat}{y z:ae}(b:i < l.length)(h:pnL l i y)(c:kV z/\tV z<=tV (l.getD i jP)):pnL l (i+1) (ae.mk y.Kind y.Bits y.Text (y.List++[z]) y.Pairs y.Slots y.Raws):=by
 obtain⟨a,e,g⟩:=h;have k:=UQ (f:=fun x=>1+tV x) (d:=jP) b;refine⟨aHg a c.1,?_,?_⟩
 ·rw[aGM];omega
 ·show(y.List++[z]).length<=i+1
  grind
theorem acD {v y:ae}(a:pnL v.List v.List.length y):kV y.re/\tV y.re<=tV v:=by
 rw[ae.bJ];obtain⟨b,c,d⟩:=a
 grind [lh,N7]
theorem aHD {l:List Pair}:pnP l 0 (ae.mk 12 0 [] [] [] [] []):=by
 obtain⟨a,b⟩:=jb 12 0 [] u0;exact⟨a,by grind,pJ _⟩
theorem alb {l:List Pair}{i:Nat}{y k z:ae}(c:i < l.length)(h:pnP l i y)(b:(sIsP k.Kind=true/\kV k)/\tV k<=tV (l.getD i dV).Key)(e:kV z/\tV z<=tV (l.getD i dV).Val):pnP l (i+1) (ae.mk y.Kind y.Bits y.Text y.List (y.Pairs++[Pair.mk k z]) y.Slots y.Raws):=by
 obtain⟨a,j,m⟩:=h;have q:=UQ (f:=tP) (d:=dV) c;have g:=ady (l.getD i dV);refine⟨aH7 a b.1 e.1,?_,?_⟩
 ·rw[aHf];omega
 ·show(y.Pairs++[Pair.mk k z]).length<=i+1
  grind
theorem aaF {k b:Nat}{v y:ae}{a:List Pair}(h:sF k b v)(e:a=jl v.Pairs)(c:pnP a a.length y):kV y.re/\tV y.re<=tV v:=by
 rw[ae.bJ];obtain⟨d,g,i⟩:=c;have f:=adz (rU h.1).2.2.2
 grind [NV,lh]
theorem asi {v:ae}{a:List Raw}{b:List Slot}{i:Nat}{y:ae}(h:pnI a b i y)(e:a=v.Raws)(c:v.Raws.length<=1048576):srtQ (fun(_ _:Raw)=>True) y.Raws:=⟨by rw[h.2.2.2,e];omega,fun _ _ _ _=>trivial⟩
abbrev Ji (a:Nat):=arK ((qY a).1) (rE a) ((qY a).2.1) (lX a) ((qY a).2.2) (lY a)
theorem ZM (fu:Nat)(ih:abv fu)(p:aC)(prog:Int)(v:ae)(h:rE (fu+1) p prog v):gU (Ji fu p prog v) (fun r=>kV r/\tV r<=tV v):=
 have h:sF 0 (fu+1) v:=h;have hl:=rU h.1;ah (aj) (au fun c hv4=>aU (fun _=>af qai) (fun _=>bZ <| aU (fun _=>af qai) (fun _=>ah (aj) (au fun b hv5=>bZ <| bC (fun(d:Nat) a=>pnI c b d a) (by exact aHj h hv4) (by(have:=UD hl.2.1 hv5;omega)) (fun d a qW e=>have hI:pnI c b d a:=e;aH aj aj (aH aj aj (au fun i hv6=>au fun k f=>au fun j g=>bI (fun _=>ah (qae) (bH (fun _=>ah (qae) (af qai)) (fun _=>af (by grind [K_])))) (fun _=>bI (fun _=>ah (qae) (bH (fun _=>ah (qae) (af qai)) (fun _=>af (by grind [K_])))) (fun _=>ah (qae) (bH (fun _=>ah (qae) (af qai)) (fun _=>bH (fun _=>ah (qae) (af qai)) (fun _=>af (by grind [K_]))))))))) (fun a hI=>have hI:pnI c b b.length a:=hI;ah (qae) (af qai))))))
abbrev rG (a:Nat):=Ue ((qY a).1) (rE a) ((qY a).2.1) (lX a) ((qY a).2.2) (lY a)
theorem U0 (fu:Nat)(ih:abv fu)(p:aC)(o:Op)(v:ae)(h:lX (fu+1) p o v):gU (rG fu p o v) (fun r=>kV r/\tV r<=tV v):=
 have h:sF 2 (fu+1) v:=h;have hl:=rU h.1;bI (fun _=>bZ <| bC (fun(e:Nat) a=>pnL v.List e a) (by exact aHo) aj (fun e a qW g=>have hI:pnL v.List e a:=g;aH aj aj (ah ((by first | omega | exact hl.2.2.2 | (show sF 1 fu _;grind [ae.bJ,aso]) | exact room_of qax qax | (have h5:=uk hl.2.2.2 hv7;exact room_of qax qax))) (ah (qat) (af qan)))) (fun a hI=>have hI:pnL v.List v.List.length a:=hI;af (by grind [acD]))) (fun _=>bI (fun _=>ah (dm) (au fun c hv7=>bZ <| bC (fun(d:Nat) b=>pnP c d b) (by exact aHD) (by(have:=uk hl.2.2.2 hv7;omega)) (fun d b Hl f=>have hI:pnP c d b:=f;aH aj aj (ah ((by first | omega | exact hl.2.2.2 | (show sF 1 fu _;grind [ae.bJ,ad5]) | exact room_of qax qax | (have h5:=uk hl.2.2.2 hv7;exact room_of qax qax))) (ah (qat) (af (by(try simp only[Sum.elim_inl,Sum.elim_inr])<;>(first | exact ak2 qW hI qba | exact acD hI | exact alb Hl hI ⟨⟨by simp only[ae.bJ];rw[(uO _).1];exact(ad5 h hv7 Hl).2.1,by simp only[ae.bJ];exact SB (ad5 h hv7 Hl).2.2⟩,by simp only[ae.bJ,Rj];omega⟩ qa8 | exact aaF h hv7 hI | (simp only[ae.bJ];exact ih.2.2 _ _ _ (yK h)))))))) (fun b hI=>have hI:pnP c c.length b:=hI;af (by grind [aaF])))) (fun _=>ah ((by first | omega | exact hl.2.2.2 | (show sF 1 fu _;grind [ae.bJ,yK]) | exact room_of qax qax | (have h5:=uk hl.2.2.2 hv7;exact room_of qax qax))) (af qan)))
abbrev SN (a:Nat):=aa4 ((qY a).1) (rE a) ((qY a).2.1) (lX a) ((qY a).2.2) (lY a)
theorem TM (a:Nat)(ih:abv a)(p:aC)(o:Op)(v:ae)(h:lY (a+1) p o v):gU (SN a p o v) (fun r=>kV r/\tV r<=tV v):=
 have h:sF 1 (a+1) v:=h;bI (fun _=>ah ((by(show sF 0 a _;rw[ae.bJ];exact yK h))) (af qay)) (fun _=>af qay)
theorem yC:∀a,abv a
 | 0=>⟨fun p prog v h=>False.elim (vF h),
  fun p o v h=>False.elim (vF h),
  fun p o v h=>False.elim (vF h)⟩
 | a+1=>⟨fun p prog v h=>(ZM a (yC a) p prog v h).2,
  fun p o v h=>(U0 a (yC a) p o v h).2,
  fun p o v h=>(TM a (yC a) p o v h).2⟩
theorem arX (a:Nat)(p:aC)(prog:Int)(v:ae)(h:rE (a+1) p prog v):Is (Ji a p prog v):=(ZM a (yC a) p prog v h).1
theorem aoB (a:Nat)(p:aC)(o:Op)(v:ae)(h:lX (a+1) p o v):Is (rG a p o v):=(U0 a (yC a) p o v h).1
theorem aoS (a:Nat)(p:aC)(o:Op)(v:ae)(h:lY (a+1) p o v):Is (SN a p o v):=(TM a (yC a) p o v h).1
theorem aeH (p:aC)(prog:Int)(v:ae)(h:gV v):(fun r=>kV r/\tV r<=tV v) (VW p prog v):=(yC (3*tV v)).1 p prog v (⟨h,pJ _⟩)
theorem aCq:∀b,CtOk Z.P Z.S 177 (qQ (args (aCons (aAgg cd_Plan) (aCons (aLf cI) (a1 (aAgg cd_AVal))))) (shr [.slot 0 true (nn 7)] (l1 cd_AVal)) 1 [] (fun a=>some (rE b (a.1) (a.2.1) (a.2.2))) (fun a=>(qY b).1 (a.1) (a.2.1) (a.2.2)))/\CtOk Z.P Z.S 247 (qQ (args (aCons (aAgg cd_Plan) (aCons (aAgg cd_Op) (a1 (aAgg cd_AVal))))) (shr [.slot 0 true (nn 7)] (l1 cd_AVal)) 1 [] (fun a=>some (lX b (a.1) (a.2.1) (a.2.2))) (fun a=>(qY b).2.1 (a.1) (a.2.1) (a.2.2)))/\CtOk Z.P Z.S 343 (qQ (args (aCons (aAgg cd_Plan) (aCons (aAgg cd_Op) (a1 (aAgg cd_AVal))))) (shr [.slot 0 true (nn 7)] (l1 cd_AVal)) 1 [] (fun a=>some (lY b (a.1) (a.2.1) (a.2.2))) (fun a=>(qY b).2.2 (a.1) (a.2.1) (a.2.2)))
 | 0=>⟨iy func177 dM (fun a h=>vF h),
  iy func247 dM (fun a h=>vF h),
  iy func343 dM (fun a h=>vF h)⟩
 | b+1=>by
  obtain⟨f,d,g⟩:=aCq b;exact⟨Rk [aG3,atx,aBs,avJ,aDc,Vl,⟨177,_,f⟩,⟨247,_,d⟩,⟨343,_,g⟩] [jS 5 (bD (fun c=>[s0 32, .cells (pid (c 7)) [none,none,none,none,none,some 309,some 316]]) (aJ cI (l1 cd_AVal))),jS 800001 (bD (fun c=>[.cells (pid (c 7)) [none,none,none,none,none,some 309,some 316]]) (l1 cd_AVal))] func177 ntmps177 (fun a=>Ji b a.1 a.2.1 a.2.2) (fun a h=>⟨arX b a.1 a.2.1 a.2.2 h,rfl⟩) (l_ (n:=86) rfl),
   Rk [ad3,RU,⟨177,_,f⟩,⟨247,_,d⟩,⟨343,_,g⟩] [jS 5 (bD (fun c=>[s0 21, .cells (pid (c 7)) [none,none,none,some 73,none,none,none]]) (aJ cI (l1 cd_AVal))),jS 13 (bD (fun c=>[s0 43, .cells (pid (c 10)) [none,none,none,none,some 341,none,none]]) (aJ cI (l1 cd_AVal))),jS 800003 (bD (fun c=>[.cells (pid (c 7)) [none,none,none,some 73,none,none,none]]) (l1 cd_AVal)),jS 800011 (bD (fun c=>[.cells (pid (c 10)) [none,none,none,none,some 341,none,none]]) (l1 cd_AVal))] func247 ntmps247 (fun a=>rG b a.1 a.2.1 a.2.2) (fun a h=>⟨aoB b a.1 a.2.1 a.2.2 h,rfl⟩) (l_ (n:=67) rfl),
   Rk [RU,⟨177,_,f⟩,⟨247,_,d⟩,⟨343,_,g⟩] [] func343 ntmps343 (fun a=>SN b a.1 a.2.1 a.2.2) (fun a h=>⟨aoS b a.1 a.2.1 a.2.2 h,rfl⟩) (l_ (n:=17) rfl)⟩
def azP:bi Z:=⟨177,qQ (args aAk) hh12 1 [] (fun a=>some (gV (a.2.2))) (fun a=>VW (a.1) (a.2.1) (a.2.2)),oh (fun n=>((aCq n).1)) _ _ (fun a h=>⟨3*tV (a.2.2),⟨h,pJ _⟩,rfl⟩)⟩
theorem ayl (s:Str):isU64 (zx s).1:=by
 unfold zx vtfix;simp only[aF,ay,lQ];cases decide ((s.length:Int) < 8)with
 | true=>exact u0
 | false=>exact ES (Q:=fun(r:Int×Int)=>isU64 r.1) (fun _ y=>isU64 y) 8 _ 0 0 rfl u0 (fun i y _ _=>by simp only[di,aT,aV,ay];exact ar0 _) (fun i y _ h=>h)
theorem afE {c:ai}:isU64 (uG c).1:=by
 have k:=ayl (vz c 8);unfold uG cFixed;simp only[aV,aT,aF,ay]
 grind [u0]
theorem atr {f:Raw}(b:1<=f.Num/\f.Num<=65535)(h:0<=f.fB/\f.fB<=6)(a:isU64 f.Bits)(d:f.fB<=2->f.Data=[])(c:3<=f.fB->f.Bits=0):rOk f:=by
 refine⟨a,?_⟩;have e:(aiw f.Num f.fB).2=0:=by
  unfold aiw uTagW;simp only[aF,aT,aV,ay]
  grind
 have g:avT f.fB=decide (f.fB<=2):=by
  unfold avT aHN;simp only[aF,ay]
  grind
 unfold amV au6;simp only[aF,ay]
 grind
theorem af1 {c:ai}(h:okC c){f:Raw}(b:0<=f.fB/\f.fB<=6)(g:f.Bits=0)(a:f.Data=[]):(dU c f).2.2.Num=f.Num/\(dU c f).2.2.fB=f.fB/\isU64 (dU c f).2.2.Bits/\(f.fB<=2->(dU c f).2.2.Data=[])/\(3<=f.fB->(dU c f).2.2.Bits=0):=by
 have d:∀K:Bool->ai×Int×Raw,(thenS (bif f.fB==0 then(Sum.inl (f.fB==0):Bool⊕(ai×Int×Raw))else Sum.inl (f.fB==1)) K)=K (bif f.fB==0 then true else f.fB==1):=fun K=>by cases e:f.fB==0<;>rfl
 unfold dU wM;simp only[aV,aT,aF,ay,dn]
 grind [afE,iw,u0]
theorem aq0 {c:ai}(a:(dJ c).2.2.2=0)(h:okC c):(1<=(dJ c).1/\(dJ c).1<=65535)/\0<=(dJ c).2.1/\(dJ c).2.1<=6:=by
 obtain⟨⟨d,u2⟩,k⟩:=iw h;unfold dJ aq4 at a⊢;simp only[aV,aT,aF,ay]at a⊢;cases e:(bP c).2.2 !=0 with
 | true=>
  grind
 | false=>
  rw[e]at a;simp only[lL]at a⊢;have j:(bP c).1.tmod 8=(bP c).1 % 8:=Int.tmod_eq_emod_of_nonneg d;have d8:(bP c).1.tdiv 8=(bP c).1 / 8:=Int.tdiv_eq_ediv_of_nonneg d;rw[j,d8]at a⊢;have g:aQ .u64 ((bP c).1 / 8)=(bP c).1 / 8:=bn (k:= .u64) kM;rw[g]at a⊢;by_cases l:(bP c).1 % 8=7
  ·grind
  have b:((bP c).1 % 8==7)=false:=beq_false_of_ne l;rw[b]at a⊢;simp only[lL]at a⊢;by_cases i:(bP c).1 / 8 < 1
  ·grind
  rw[pO i]at a⊢;by_cases f:65535 < (bP c).1 / 8
  ·grind
  rw[pO f];have m:aQ .i64 ((bP c).1 / 8)=(bP c).1 / 8:=bn (k:= .i64) kM;have n:aQ .i64 ((bP c).1 % 8)=(bP c).1 % 8:=bn (k:= .i64) kM
  grind
theorem amE {c:ai}(h:okC c)(a:(j_ c).2.2=0):rOk (j_ c).1:=by
 have k:=nV h;have kr:=fun a=>aq0 (c:=c) a h
 unfold j_ uNext at a⊢;simp only[aV,aT,aF,ay]at a⊢;generalize dJ c=b at*;cases e:b.2.2.2 !=0 with
 | true=>
  grind
 | false=>
  obtain⟨l,m⟩:=k (bU.1 e);obtain⟨o,g⟩:=kr (bU.1 e);rw[e]at a;simp only[lL]at a⊢;have s:=jJ l.1 (n:=1);generalize nO b.2.2.1 1=j at*;cases d:j.2 !=0 with
  | true=>
   grind
  | false=>
   obtain⟨i,_⟩:=s (bU.1 d);rw[d]at a;simp only[lL]at a⊢;obtain⟨t1,t2,t3,t4,t5⟩:=af1 i.1 (f:=Raw.mk b.1 b.2.1 0 []) g rfl rfl
   grind [atr]
theorem yS {wire:Int}{r:tagdec_reader}(h:okC r.c):isU64 (eQ wire r).1.Bits:=by
 unfold eQ tContents;simp only[aV,aT,aF,ay]
 grind [afE,iw,u0]
theorem aoi {c:ai}(h:okC c){a:Int}(b:(zA c a).2.2=0):((zA c a).1.length:Int)+1<=(zA c a).2.1.At - c.At:=by
 obtain⟨l,k⟩:=iw h;unfold zA uData at b⊢;simp only[aV,aT,aF,ay,dn]at b⊢;cases e:(bP c).2.2 !=0 with
 | true=>
  grind
 | false=>
  obtain⟨f,r⟩:=k (bU.1 e);have d:=f.1;have kl:=kZ d;have g:thenS (bif a==3 then(Sum.inl c.Text:Int⊕(Str×ai×Int))else Sum.inl 65536)=thenS (.inl (bif a==3 then c.Text else 65536)):=by grind
  rw[e]at b;simp only[lL]at b⊢;rw[g]at b⊢;simp only[eP]at b⊢;obtain⟨⟨w,v,p,n⟩,s⟩:=d;obtain⟨y,u2⟩:=l;rw[kl,bn (k:= .u64) kM]at b⊢;by_cases j:(bP c).2.1.End - (bP c).2.1.At < (bP c).1
  ·grind
  rw[pO j]at b⊢;rw[bn (k:= .i64) kM]at b⊢;by_cases i:(bif a==3 then c.Text else 65536) < (bP c).1
  ·grind
  rw[pO i];simp only[lL];rw[bn (k:= .i64) kM];obtain⟨_,t,m,q,x,u,o⟩:=f
  grind
theorem XL {c:ai}(h:okC c){f:Raw}(j:f.Data=[])(a:(dU c f).2.1=0):((dU c f).2.2.Data.length:Int)+1<=(dU c f).1.At - c.At:=by
 have g:=G5 h a;have d:∀K:Bool->ai×Int×Raw,(thenS (bif f.fB==0 then(Sum.inl (f.fB==0):Bool⊕(ai×Int×Raw))else Sum.inl (f.fB==1)) K)=K (bif f.fB==0 then true else f.fB==1):=fun K=>by cases e:f.fB==0<;>rfl
 have b:=g.1.2.2.2.2.2.2;unfold dU wM at a b⊢;simp only[aV,aT,aF,ay,dn]at a b⊢;rw[d]at a b⊢;cases e:(bif f.fB==0 then true else f.fB==1)with
 | true=>
  grind
 | false=>
  rw[e]at a b;cases i:f.fB==2 with
  | true=>
   grind
  | false=>rw[i]at a;exact aoi h a
theorem Y9 {c:ai}(h:okC c)(b:(j_ c).2.2=0):((j_ c).1.Data.length:Int)+1<=(j_ c).2.1.At - c.At:=by
 have k:=nV h;unfold j_ uNext at b⊢;simp only[aV,aT,aF,ay]at b⊢;generalize dJ c=a at*;cases e:a.2.2.2 !=0 with
 | true=>
  grind
 | false=>
  obtain⟨g,o⟩:=k (bU.1 e);rw[e]at b;simp only[lL]at b⊢;have s:=jJ g.1 (n:=1);generalize nO a.2.2.1 1=d at*;cases i:d.2 !=0 with
  | true=>
   grind
  | false=>
   obtain⟨l,p,r,_⟩:=s (bU.1 i);rw[i]at b;simp only[lL]at b⊢;have t:=XL l.1 (f:=Raw.mk a.1 a.2.1 0 []) rfl;generalize dU d.1 (Raw.mk a.1 a.2.1 0 [])=m at*;cases j:m.2.1 !=0 with
   | true=>
    grind
   | false=>
    have t:=t (bU.1 j);have q:=g.2.2.2.2.2.2
    grind
theorem aoW {c:ai}{n:Int}:(zn c n).1.length<=n.toNat:=by
 unfold zn cText;simp only[aV,aT,aF,ay,Z8];(repeat' split)<;>first | grind | skip
 show(Jo (Ja c n)).length<=_
 rw[qp];unfold Ja cPiece;simp only[aV,aT,ay,Iq];omega
theorem uF {wire:Int}{r:tagdec_reader}(h:okC r.c)(a:(eQ wire r).2.1=0):yu 1 r.c (eQ wire r).2.2.c/\(eQ wire r).2.2.p=r.p/\((eQ wire r).1.Data.length:Int)+1<=(eQ wire r).2.2.c.At - r.c.At/\(eQ wire r).1.Data.length<=1048576/\(eQ wire r).2.2.c.Nodes=r.c.Nodes:=by
 have j:yu 1 r.c (eQ wire r).2.2.c/\(eQ wire r).2.2.p=r.p/\((eQ wire r).1.Data.length:Int)+1<=(eQ wire r).2.2.c.At - r.c.At/\(eQ wire r).2.2.c.Nodes=r.c.Nodes:=by
  unfold eQ tContents at a⊢;simp only[aV,aT,aF,ay]at a⊢;cases g:wire==3 with
  | true=>
   rw[g]at a;simp only[cond_true]at a⊢;have k:=jW h;generalize ig r=e at*;cases d:e.2.1 !=0 with
   | true=>
    grind
   | false=>
    rw[d]at a;simp only[lL]at a⊢;obtain⟨b,f,l,m,u⟩:=k (bU.1 d);obtain⟨t1,t2,t3,t4⟩:=apx b.1 (n:=e.1) a;have t5:=aoW (c:=e.2.2.c) (n:=e.1);have i:=b.2.2.2.2.2.2;exact⟨fM (f_ b t1) dH,l,by omega,t2.trans f⟩
  | false=>
   rw[g]at a;simp only[lL]at a⊢;cases d:wire==2 with
   | true=>
    rw[d]at a;simp only[cond_true]at a⊢;obtain⟨b,f⟩:=Ti h a;have i:=b.2.2.2.2.2.2
    grind
   | false=>
    rw[d]at a;simp only[lL]at a⊢;obtain⟨b,f⟩:=(iw h).2 a;have i:=b.2.2.2.2.2.2
    grind
 obtain⟨f1,f2,f3,f4⟩:=j;refine⟨f1,f2,f3,?_,f4⟩;obtain⟨⟨s,p,o,t⟩,_⟩:=f1.1;obtain⟨⟨q,_⟩,_⟩:=h;omega
theorem uM (v:ae)(a:Int):((tFindP v a).2=true/\∃s∈v.Slots,s.Num=a/\s.Val=(tFindP v a).1)\/((tFindP v a).2=false/\(tFindP v a).1=ae.mk 0 0 [] [] [] [] []):=by
 unfold tFindP att;simp only[dW,dN];refine Gp (d:=gZ) (Q:=fun(r:ae×Bool)=>(r.2=true/\∃s∈v.Slots,s.Num=a/\s.Val=r.1)\/(r.2=false/\r.1=ae.mk 0 0 [] [] [] [] [])) (fun _ _=>True) v.Slots 0 () trivial (fun j y b _=> ?_) (fun y _=> ?_)
 ·simp only[di,aF,ay,Bc]
  grind [ae.bJ,getD_mem]
 simp_all
theorem aqs {A:Type}{f:A->Nat}(p:A->Bool)(l:List A):vM f l=vM f (l.filter p)+vM f (l.filter fun a=> !p a):=by
 induction l with
 | nil=>rfl
 | cons a l b=>
  grind [vM]
theorem Uu (g:aX)(v:ae)(o:Op)(x:ae)(h:v.Slots.length<=1048576):∃l,l.Sublist (v.Slots.filter fun s=> !(s.Num==o.Num))/\u_ g v o x=ae.mk 10 0 [] [] [] (l++[Slot.mk o.Num x]) v.Raws:=(adt g v o x h).2
theorem EG {g:aX}{v:ae}{o:Op}{x:ae}(h:v.Slots.length<=1048576):tV (u_ g v o x)+(bif (tFindP v o.Num).2 then 1+tV (tFindP v o.Num).1 else 0)<=tV v+1+tV x:=by
 obtain⟨l,d,m⟩:=Uu g v o x h;have r:=lh v;have p:vM tS l<=vM tS (v.Slots.filter fun s=> !(s.Num==o.Num)):=Ro d;have n:=aqs (f:=tS) (fun s:Slot=> !(s.Num==o.Num)) v.Slots;have q:=M_ v.Slots;have e:tV (u_ g v o x)=1+(vM tS l+(1+tV x))+tRs v.Raws:=by
  rw[m,lh];simp only[ae.Text,ae.List,ae.Pairs,ae.Slots,ae.Raws,tVs,tPs,Qa7];rw[M_,yQ];rfl
 rw[e];rcases uM v o.Num with⟨b,s,k,i,c⟩ | ⟨b,_⟩
 ·have b:(tFindP v o.Num).2=true:=b;have c:s.Val=(tFindP v o.Num).1:=c;rw[b,<-c];have j:tS s<=vM tS (v.Slots.filter fun a=> !!(a.Num==o.Num)):=QO (Qbb.2 ⟨k,by simp[i]⟩);rw[aee]at j
  grind
 grind
theorem Eh {g:aX}{v:ae}{o:Op}{x:ae}(h:v.Slots.length<=1048576)(c:kV v)(b:kV x):kV (u_ g v o x):=by
 obtain⟨l,f,e⟩:=Uu g v o x h;have d:=((jm v).1 c).1.2;have i:=((jm v).1 c).2.2.2;rw[e,jm];refine⟨⟨u0,d⟩,fun x b=>absurd b (Qbe),fun x b=>absurd b (Qbe),fun y a=> ?_⟩;have a:y∈l++[Slot.mk o.Num x]:=a;rcases vO.1 a with a | a
 ·grind
 ·rw[QZ.1 a];exact b
theorem yG {v:ae}{a:Int}(b:kV v):kV (tFindP v a).1:=by
 grind [jb,jm,uM,u0]
theorem FM {v:ae}{num:Int}:tV (tFindP v num).1<=tV v/\((tFindP v num).2=false->tV (tFindP v num).1=1):=by
 rcases uM v num with⟨b,s,a,d,c⟩ | ⟨b,a⟩
 ·have c:s.Val=(tFindP v num).1:=c;have b:(tFindP v num).2=true:=b;refine⟨?_,fun h=>by grind⟩;have:=ali a;have:=lh v
  grind
 ·have a:(tFindP v num).1=_:=a;have e:tV (tFindP v num).1=1:=by rw[a];rfl
  exact⟨by have:=BD v;omega,fun _=>e⟩
theorem yZ (l x:ae):nH l x=ae.mk 11 0 [] (l.List++[x]) [] [] []:=by
 unfold nH tLonger;simp_all
theorem Nu {l x:ae}:tV (nH l x)<=tV l+1+tV x:=by
 rw[yZ,lh,lh l];simp only[ae.Text,ae.List,ae.Pairs,ae.Slots,ae.Raws,tPs,tSs,tRs,Qa7];rw[N7,N7,yQ];simp only[vM];omega
theorem Oa {l x:ae}(c:kV l)(a:kV x):kV (nH l x):=by
 have d:=((jm l).1 c).2.1;rw[yZ,jm];refine⟨⟨u0,fun x a=>absurd a (Qbe)⟩,fun y b=> ?_,fun x a=>absurd a (Qbe),fun y b=>absurd b (Qbe)⟩;have b:y∈l.List++[x]:=b
 grind
theorem Ce (v:ae)(f:Raw):uy v f=ae.mk v.Kind v.Bits v.Text v.List v.Pairs v.Slots (v.Raws++[f]):=by
 unfold uy tAside;simp_all
theorem Us {v:ae}{f:Raw}:tV (uy v f)=tV v+1+f.Data.length:=by
 rw[Ce,lh,lh v];simp only[ae.Text,ae.List,ae.Pairs,ae.Slots,ae.Raws];rw[UR,UR,yQ];simp only[vM];omega
theorem TD {v:ae}{f:Raw}(a:kV v)(c:rOk f):kV (uy v f):=by
 have h:=(jm v).1 a;rw[Ce,jm];exact⟨⟨h.1.1,fun r b=>(vO.1 b).elim (h.1.2 r) fun e=>by grind⟩,h.2⟩
theorem Vp {p:aC}{o:Op}{f:Raw}(e:isU64 f.Bits)(d:(p_ p o f).2=0):tV (p_ p o f).1<=1+f.Data.length/\kV (p_ p o f).1/\(p_ p o f).1.Kind=o.Kind/\sIsP o.Kind=true:=by
 unfold p_ QY at d⊢;simp only[aV,aT,aF,ay,dn,ae.bJ]at d⊢;cases m:sIsP o.Kind with
 | false=>grind
 | true=>
  rw[m]at d;simp only[Qbv,lL]at d⊢;cases n:f.fB !=pg o with
  | true=>grind
  | false=>
   rw[n]at d;simp only[lL]at d⊢;cases g:f.fB==3 with
   | true=>
    rw[g]at d;simp only[cond_true]at d⊢;have k:=jb o.Kind 0 f.Data u0;cases i:o.Kind==7 with
    | true=>
     rw[i]at d;simp only[cond_true]at d⊢;cases s:EX f.Data with
     | false=>grind
     | true=>exact⟨Qdf k.2,k.1,by trivial,by trivial⟩
    | false=>exact⟨Qdf k.2,k.1,by trivial,by trivial⟩
   | false=>
    rw[g]at d;simp only[lL]at d⊢;have h:∀(c:Bool) (K:ae->ae×Int) (a b:ae),thenS (bif c then(Sum.inl a:ae⊕(ae×Int))else Sum.inl b) K=K (bif c then a else b):=fun c K a b=>by cases c<;>rfl
    rw[h]at d⊢;have e:∃bits,(bif f.fB==1 then ae.mk o.Kind (aQ .u64 (alv f.Bits)) [] [] [] [] []else ae.mk o.Kind f.Bits [] [] [] [] [])=ae.mk o.Kind bits [] [] [] [] []/\isU64 bits:=by grind [aBp]
    obtain⟨bits,e,j⟩:=e;rw[e]at d⊢;obtain⟨r,l⟩:=jb o.Kind bits [] j;have q:tV (jo (ae.mk o.Kind bits [] [] [] [] []))<=1+f.Data.length/\kV (jo (ae.mk o.Kind bits [] [] [] [] []))/\(jo (ae.mk o.Kind bits [] [] [] [] [])).Kind=o.Kind/\True:=
     ⟨by rw[Rj,l];simp,SB r,(uO _).1,trivial⟩
    grind
def ao4 (p:aC)(o:Op):Prop:=(o.Kind=10->0<=o.Target/\o.Target < p.Progs.length)/\(o.Card=5->sIsP o.Key=true)/\1<=o.Num/\o.Num<=65535
def planOk (p:aC):Prop:=∀g∈p.Progs,g.Ops.length<=1048576/\∀o∈g.Ops,ao4 p o
def inD (v:ae)(r:tagdec_reader):Prop:=okC r.c/\planOk r.p/\kV v/\(tV v:Int)+8*(r.c.End - r.c.At)<=1048576
def Dk (k s:Int)(v:ae)(r:tagdec_reader)(x:ae×Int×tagdec_reader):Prop:=x.2.1=0->x.2.2.p=r.p/\yu k r.c x.2.2.c/\kV x.1/\(tV x.1:Int)+s<=tV v+8*(x.2.2.c.At - r.c.At)
theorem aCc {v:ae}{r:tagdec_reader}(h:inD v r):gV v:=⟨h.2.2.1,by obtain⟨⟨⟨a,d,e,c⟩,_⟩,_,_,b⟩:=h;omega⟩
theorem qi {v:ae}{r:tagdec_reader}(h:inD v r):v.Raws.length<=1048576/\v.Slots.length<=1048576/\v.List.length<=1048576/\pairsQ v.Pairs:=rU (aCc h)
theorem ax_ {k s:Int}{v w:ae}{r a:tagdec_reader}(h:inD v r)(e:0<=s)(j:a.p=r.p)(b:yu k r.c a.c)(c:kV w)(i:(tV w:Int)+s<=tV v+8*(a.c.At - r.c.At)):inD w a:=by
 obtain⟨d,l,m,f⟩:=h;have g:=b.2.2.1;exact⟨b.1,by grind,c,by omega⟩
theorem fK {k s:Int}{v:ae}{r:tagdec_reader}{x:ae×Int×tagdec_reader}(h:¬x.2.1=0):Dk k s v r x:=fun e=>absurd e h
theorem Ac {v:ae}{r:tagdec_reader}(h:inD v r)(num:Int):(tFindP v num).1.List.length<=1048576/\pairsQ (tFindP v num).1.Pairs:=by
 have a:=aCc h;have b:gV (tFindP v num).1:=⟨yG a.1,by have:=(FM (v:=v) (num:=num)).1;have:=a.2;omega⟩;exact⟨(rU b).2.2.1,(rU b).2.2.2⟩
theorem wH {r:tagdec_reader}{n:Int}(h:okC r.c)(a:(mX n r).1=0):(mX n r).2.p=r.p/\yu 0 r.c (mX n r).2.c/\(mX n r).2.c.At=r.c.At:=by
 unfold mX aiv at a⊢;simp only[aT,ay]at a⊢
 grind [jJ]
theorem Yc {c:ai}(h:okC c)(a:(BL c).2.2=0):yu 1 c (BL c).2.1/\(BL c).2.1.Nodes=c.Nodes/\(BL c).2.1.At=c.At+1:=by
 have b:=kZ h;unfold BL cByte at a⊢;simp only[di,aT,aF,ay]at a⊢
 grind [F9,FW]
def lK (c:ai)(n:Int):ai:=ai.mk c.Data c.At (c.At+n) c.Depth c.Nodes c.Text
theorem JK {c:ai}{n:Int}(h:okC c)(i:0<=n)(e:n<=c.End - c.At):okC (lK c n):=by
 obtain⟨⟨a,g,f,b⟩,d⟩:=h;exact⟨⟨a,by show c.At<=c.At+n;omega,by show c.At+n<=c.Data.length;omega,b⟩,d⟩
theorem AU {r:tagdec_reader}{n:Int}(h:okC r.c)(g:0<=n)(a:n<=r.c.End - r.c.At):SI n r=(r.c,tagdec_reader.mk r.p (lK r.c n)):=by
 obtain⟨⟨d,c,b,e⟩,f⟩:=h;unfold SI atW lK;simp only[ay];rw[bn (k:= .i64) kM]
theorem V4 {c d:ai}{n:Int}(h:okC c)(k:0<=n)(m:n<=c.End - c.At)(e:yu 0 (lK c n) d):yu n c (ai.mk c.Data d.End c.End c.Depth d.Nodes c.Text):=by
 obtain⟨⟨⟨p,l,q,j⟩,u,a,t⟩,d2,d3,d4,d5,d6,d7⟩:=e;obtain⟨⟨s,r,f,b⟩,g,o,i⟩:=h;have d3:d.End=c.At+n:=d3;have d6:d.Nodes<=c.Nodes:=d6;exact⟨⟨⟨by grind,by grind,f,b⟩,g,⟨a.1,a.2⟩,i⟩,rfl,rfl,rfl,rfl,d6,by grind⟩
theorem at_end {c:ai}(h:okC c)(a:¬0 < m_ c):c.At=c.End:=by
 rw[kZ h]at a;obtain⟨⟨e,d,b,f⟩,_⟩:=h;omega
theorem atC {c d:ai}(h:okC c)(a:c.At<=d.End)(e:d.End<=c.End)(f:0<=d.Nodes)(b:d.Nodes<=c.Nodes):ER c d=ai.mk c.Data d.End c.End c.Depth d.Nodes c.Text:=by
 unfold ER ajJ;simp only[aF,ay]
 grind [F_]
theorem UA {c:ai}(h:okC c){n:Int}(a:(FI c n).2=0):FI c n=(ai.mk c.Data c.At (c.At+n) (c.Depth - 1) c.Nodes c.Text,0)/\0<=n/\n<=c.End - c.At/\1<=c.Depth:=by
 have d:=kZ h;obtain⟨⟨l,j,g,m⟩,⟨o,i⟩,p⟩:=h;unfold FI acM at a⊢;simp only[aT,aF,ay]at a⊢;rw[d]at a⊢;by_cases b:n < 0
 ·grind
 rw[pO b]at a⊢;by_cases e:c.End - c.At < n
 ·grind
 rw[pO e]at a⊢;by_cases f:c.Depth < 1
 ·grind
 rw[pO f];rw[bn (k:= .i64) (show Dw .i64 (c.At+n) by simp only[Dw];omega),bn (k:= .i64) (show Dw .i64 (c.Depth - 1) by simp only[Dw];omega)]
 grind
def tOne (g:aX)(v:ae)(o:Op)(r:tagdec_reader):Pg (ae×Int×tagdec_reader):=.lt (mX 1 r) fun c=> .br (c.1 !=0) (.ret (v.re,c)) (.ob (okC c.2.c) (.lt (eQ (pg o) c.2) fun a=> .br (a.2.1 !=0) (.ret (v.re,a.2)) (.ob (List.length a.1.Data<=1048576) (.lt (p_ a.2.2.p o a.1) fun b=> .br (b.2==16) (.ob (v.re.Raws.length<=1048576) (.ret ((uy v.re (Raw.mk o.Num 0 a.1.Bits [])).re,0,a.2.2))) (.br (b.2 !=0) (.ret (v.re,b.2,a.2.2)) (.br (o.Card !=4) (.ob (v.re.Slots.length<=1048576) (.ret ((u_ g v.re o b.1.re).re,0,a.2.2))) (.lt (u_ g v.re o (nH (tFindP v.re o.Num).1.re b.1.re).re) fun f=> .lt (tFindP v.re o.Num) fun d=> .br (!d.2) (.lt (mX 1 a.2.2) fun e=> .br (e.1 !=0) (.ret (v.re,e)) (.ob (d.1.re.List.length<=1048576) (.ob (v.re.Slots.length<=1048576) (.ret (f.re,0,e.2))))) (.ob (d.1.re.List.length<=1048576) (.ob (v.re.Slots.length<=1048576) (.ret (f.re,0,a.2.2)))))))))))
def yH (g:aX)(v:ae)(o:Op)(r:tagdec_reader):=(tOne g v o r).val
theorem J8 (g:aX)(v:ae)(o:Op)(r:tagdec_reader)(h:inD v r/\1<=o.Num/\o.Num<=65535):gU (tOne g v o r) (Dk 1 0 v r):=
 by
 obtain⟨h,F⟩:=h;have b:=qi h;have u:=Ac h o.Num;have s:=h.1;unfold tOne;simp only[ae.bJ];refine au fun X q=>bu (fun a=>af (fK a)) fun w=> ?_;rw[q]at w⊢;obtain⟨M,e,Y⟩:=wH s w;generalize mX 1 r=H at*;refine ah e.1 (au fun Z t=>bu (fun a=>af (fK a)) fun C=> ?_);rw[t]at C⊢;obtain⟨J,I,W,L,_⟩:=uF e.1 C;have y:=yS (wire:=pg o) e.1;generalize eQ (pg o) H.2=c at*;have i:c.2.2.p=r.p:=I.trans M;have d:yu 1 r.c c.2.2.c:=fM (f_ e J) dH;have S:=d.2.2.1;have T:=d.2.2.2.2.2.2;refine ah L (au fun V B=>bI (fun n=>ah b.1 (af fun _=>⟨i,d,TD h.2.2.1 (atr (f:=Raw.mk o.Num 0 c.1.Bits []) F ⟨N8 0,(by decide:(0:Int)<=6)⟩ y (fun _=>rfl) (fun n=>absurd n (by decide:¬(3:Int)<=0))),?_⟩)) fun n=>bu (fun a=>af (fK a)) fun A=> ?_)
 ·grind [Us]
 rw[B]at A⊢;obtain⟨k1,p,P,N⟩:=Vp y A;generalize p_ c.2.2.p o c.1=m at*;have t1:=EG (g:=g) (v:=v) (o:=o) (x:=m.1) b.2.1;refine bu (fun a=>ah b.2.1 (af fun _=>⟨i,d,Eh b.2.1 h.2.2.1 p,?_⟩)) fun Q=>au fun z j=>au fun U k=>bH (fun D=>au fun R E=>bu (fun a=>af (fK a)) fun l=> ?_) (fun D=> ?_)
 ·grind
 ·rw[E]at l⊢;obtain⟨K,G,O⟩:=wH d.1 l;rw[k];refine ah u.1 (ah b.2.1 (af fun _=>⟨K.trans i,fM (f_ d G) dH,by rw[j];exact Eh b.2.1 h.2.2.1 (Oa (yG h.2.2.1) p),?_⟩));show(tV z:Int)+0<=tV v+8*((mX 1 c.2.2).2.c.At - r.c.At)
  have t2:=EG (g:=g) (v:=v) (o:=o) (x:=nH (tFindP v o.Num).1 m.1) b.2.1
  grind [FM,Nu]
 ·rw[k]at D⊢;refine ah u.1 (ah b.2.1 (af fun _=>⟨i,d,by rw[j];exact Eh b.2.1 h.2.2.1 (Oa (yG h.2.2.1) p),?_⟩));show(tV z:Int)+0<=tV v+8*(c.2.2.c.At - r.c.At)
  have t2:=EG (g:=g) (v:=v) (o:=o) (x:=nH (tFindP v o.Num).1 m.1) b.2.1
  grind [Nu]
def avm:bi Z:=ZY [D9,LZ,agJ,I_,acC,ZJ,PV,YB] [] aGr afL aC9 [] func336 2 (fun a=>tOne a.1.2.1 a.1.2.2.1 a.1.2.2.2 a.2) (fun a=>inD a.1.2.2.1 a.2/\1<=a.1.2.2.2.Num/\a.1.2.2.2.Num<=65535) fun a h=>(J8 a.1.2.1 a.1.2.2.1 a.1.2.2.2 a.2 h).1
def tPack (g:aX)(v:ae)(o:Op)(r:tagdec_reader):Pg (ae×Int×tagdec_reader):=.ob (okC r.c) (.lt (ig r) fun e=> .br (e.2.1 !=0) (.ret (v.re,e.2)) (.lt (SI e.1 e.2.2) fun a=> .ob (okC a.2.c) (.lt (BL a.2.c) fun c=> .br (c.2.2 !=0) (.ret (v.re,c.2.2,a.2)) (.lt (aQ .i64 c.1) fun i=> .br (i !=pg o) (.ret (v.re,13,tagdec_reader.mk a.2.p c.2.1)) (.cut (fun(h:tagdec_reader×ae)=> .wh ((r.c.End - r.c.At).toNat+1) default (fun(b:tagdec_reader×ae)=> .lt (m_ b.1.c) fun j=> .br (decide (0 < j)) (.ob (inD b.2.re b.1/\1<=o.Num/\o.Num<=65535) (.lt (yH g b.2.re o b.1) fun d=> .br (d.2.1 !=0) (.ret (.inr (d.1.re,d.2))) (rl (d.2.2,d.1.re)))) (.ret (.inr (b.2.re,0,ae8 a.1 b.1)))) (h.1,h.2.re)) (.br (!(tFindP v.re o.Num).2) (.lt (mX 1 (tagdec_reader.mk a.2.p c.2.1)) fun f=> .br (f.1 !=0) (.ret (.inr (v.re,f))) (.ob (v.re.Slots.length<=1048576) (rl (f.2,(u_ g v.re o (ae.mk 11 0 [] [] [] [] [])).re)))) (rl (tagdec_reader.mk a.2.p c.2.1,v.re))))))))
def aD7 (g:aX)(v:ae)(o:Op)(r:tagdec_reader):=(tPack g v o r).val
theorem ZV (g:aX)(v:ae)(o:Op)(r:tagdec_reader)(h:inD v r/\1<=o.Num/\o.Num<=65535):gU (tPack g v o r) (Dk 0 0 v r):=
 by
 obtain⟨h,C⟩:=h;have n:=qi h;have f:=h.1;unfold tPack;simp only[ae.bJ];refine ah f (au fun v3 F=>bu (fun b=>af (fK b)) fun H=> ?_);rw[F]at H⊢;obtain⟨l1,l2,z,m,p⟩:=jW f H;generalize ig r=a at*;have l7:=l1.2.2.2.2.2.2;have le:=l1.2.2.1;have K:=JK l1.1 m p;rw[AU l1.1 m p];refine au fun v4 B=> ?_;subst B;refine ah K (au fun v5 A=>bu (fun b=>af (fK b)) fun q=>au fun v6 ag=>bu (fun b=>af (fK dm)) fun h6=> ?_);rw[A]at q⊢;obtain⟨b1,O,J⟩:=Yc K q;show gU (Pg.cut _ _) _
 dsimp only at b1 O J⊢;generalize BL (lK a.2.2.c a.1)=R at*;have j:(lK a.2.2.c a.1).At=a.2.2.c.At:=rfl;have t:(lK a.2.2.c a.1).End=a.2.2.c.At+a.1:=rfl;rw[j]at J;refine bg (fun y=>y.1.p=r.p/\yu 0 (lK a.2.2.c a.1) y.1.c/\kV y.2/\(tV y.2:Int)<=tV v+8*(y.1.c.At - a.2.2.c.At)) ?_ (fun y w=>kQ (fun x=>x.1.p=r.p/\yu 0 (lK a.2.2.c a.1) x.1.c/\kV x.2/\(tV x.2:Int)<=tV v+8*(x.1.c.At - a.2.2.c.At)) (fun x=>(x.1.c.End - x.1.c.At).toNat) w ?_ fun x Q=> ?_)
 ·refine bH (fun U=>au fun v9 G=>bu (fun b=>af (fK b)) fun u=> ?_) (fun U=>af ⟨z,fM b1 dH,h.2.2.1,by grind⟩);rw[G]at u⊢;obtain⟨d,c,l⟩:=wH (r:=tagdec_reader.mk a.2.2.p R.2.1) b1.1 u;refine ah n.2.1 (af ⟨d.trans z,fM (f_ b1 c) dH,Eh n.2.1 h.2.2.1 (jb 11 0 [] u0).1,?_⟩);have t2:=EG (g:=g) (v:=v) (o:=o) (x:=ae.mk 11 0 [] [] [] [] []) n.2.1
  grind [jb,u0]
 ·obtain⟨y1,⟨⟨⟨q1,q2,q3,q4⟩,_⟩,ac,ab,Y,Z,ad,aa⟩,y3,y4⟩:=w
  grind
 ·obtain⟨d,c,l,x4⟩:=Q;have N:=c.2.2.1;have W:=c.2.2.2.2.2.2;rw[t]at N;rw[j]at W;have i:inD x.2 x.1:=⟨c.1,by rw[d];exact h.2.1,l,by have:=h.2.2.2;omega⟩;refine au fun v7 L=>aU (fun X=> ?_) (fun k=>af ?_)
  ·refine ah ⟨i,C⟩ (au fun v8 T=>bu (fun b=>af (fK b)) fun s=>af ?_);rw[T]at s⊢;obtain⟨P,e,M,D⟩:=(J8 g x.2 o x.1 ⟨i,C⟩).2 s;have I:=e.2.2.2.2.2.2;have E:=e.2.2.1;have o9:=e.1.1.2.1;refine⟨⟨P.trans d,fM (f_ c e) dH,M,?_⟩,?_⟩
   ·show(tV (yH g x.2 o x.1).1:Int)<=tV v+8*((yH g x.2 o x.1).2.2.c.At - a.2.2.c.At)
    have D:(tV (yH g x.2 o x.1).1:Int)+0<=tV x.2+8*((yH g x.2 o x.1).2.2.c.At - x.1.c.At):=D;omega
   ·show((yH g x.2 o x.1).2.2.c.End - (yH g x.2 o x.1).2.2.c.At).toNat < (x.1.c.End - x.1.c.At).toNat
    have I:x.1.c.At+1<=(yH g x.2 o x.1).2.2.c.At:=I;have E:(yH g x.2 o x.1).2.2.c.End=x.1.c.End:=E;omega
  ·rw[L]at k;have S:=at_end c.1 k;have V:=V4 l1.1 m p c;refine fun _=>⟨d,fM (f_ l1 V) aj,l,?_⟩;show(tV x.2:Int)+0<=tV v+8*(x.1.c.End - r.c.At)
   omega
def azV:bi Z:=ZY [D9,LZ,yT,I_,avm,FV,alg,YN,acC,ayF] [jS 17 (bD (fun b=>[.cells (pid (b 0)) (nn 8), .cells (pid (b 6)) (nn 7)]) (aJ cd_tagdec_reader aaJ)),jS 100017 (bD (fun b=>[.cells (pid (b 0)) (nn 8), .cells (pid (b 6)) (nn 7)]) (aJ cd_tagdec_reader aaJ))] aGr afL aC9 [] func333 2 (fun a=>tPack a.1.2.1 a.1.2.2.1 a.1.2.2.2 a.2) (fun a=>inD a.1.2.2.1 a.2/\1<=a.1.2.2.2.Num/\a.1.2.2.2.Num<=65535) fun a h=>(ZV a.1.2.1 a.1.2.2.1 a.1.2.2.2 a.2 h).1
def Jd (l:Int->ae->tagdec_reader->ae×Int×tagdec_reader)(gq:Int->ae->tagdec_reader->Prop)(e:aX->ae->Op->Int->tagdec_reader->ae×Int×tagdec_reader)(iJ:aX->ae->Op->Int->tagdec_reader->Prop)(m:Int->ae->Int->tagdec_reader->ae×Int×tagdec_reader)(d_:Int->ae->Int->tagdec_reader->Prop)(k:aX->ae->Op->tagdec_reader->ae×Int×tagdec_reader)(fO:aX->ae->Op->tagdec_reader->Prop)(j:aX->ae->Op->tagdec_reader->ae×Int×tagdec_reader)(je:aX->ae->Op->tagdec_reader->Prop)(n:Op->Int->tagdec_reader->ae×Int×tagdec_reader)(jC:Op->Int->tagdec_reader->Prop)(prog:Int)(v:ae)(r:tagdec_reader):Pg (ae×Int×tagdec_reader):=.ix prog r.p.Progs.length (.wh ((r.c.End - r.c.At).toNat+1) default (fun(c:tagdec_reader×ae)=> .lt (m_ c.1.c) fun i=> .br (decide (0 < i)) (.ob (okC c.1.c) (.lt (dJ c.1.c) fun b=> .br (b.2.2.2 !=0) (.ret (.inr (c.2.re,b.2.2.2,c.1))) (.cut (fun(f:tagdec_reader×ae)=> .ob (okC c.1.c) (.lt (j_ c.1.c) fun g=> .br (g.2.2 !=0) (.ret (.inr (f.2.re,g.2.2,f.1))) (.ob (f.2.re.Raws.length<=1048576) (rl (tagdec_reader.mk f.1.p g.2.1,(uy f.2.re g.1).re))))) (.as ((r.p.Progs.getD prog.toNat aO).Ops.length<=9223372036854775807) (.each false mg (r.p.Progs.getD prog.toNat aO).Ops Gt (fun h d (a:tagdec_reader×ae)=> .ix h (r.p.Progs.getD prog.toNat aO).Ops.length (.br (d.Num !=b.1) (rl (a.1,a.2.re)) (.ob (iJ (r.p.Progs.getD prog.toNat aO) a.2.re d b.2.1 (tagdec_reader.mk a.1.p b.2.2.1)) (.br ((e (r.p.Progs.getD prog.toNat aO) a.2.re d b.2.1 (tagdec_reader.mk a.1.p b.2.2.1)).2.1 !=0) (.ret (.inr (.inr (.inr ((e (r.p.Progs.getD prog.toNat aO) a.2.re d b.2.1 (tagdec_reader.mk a.1.p b.2.2.1)).1.re, (e (r.p.Progs.getD prog.toNat aO) a.2.re d b.2.1 (tagdec_reader.mk a.1.p b.2.2.1)).2))))) (.ret (.inr (.inr (.inl ((e (r.p.Progs.getD prog.toNat aO) a.2.re d b.2.1 (tagdec_reader.mk a.1.p b.2.2.1)).2.2, (e (r.p.Progs.getD prog.toNat aO) a.2.re d b.2.1 (tagdec_reader.mk a.1.p b.2.2.1)).1.re))))))))) (fun h (a:tagdec_reader×ae)=> rl (a.1,a.2.re)) (c.1,c.2.re)))))) (.ret (.inr (c.2.re,0,c.1)))) (r,v.re))
def aaH (h:Int->ae->tagdec_reader->ae×Int×tagdec_reader)(gq:Int->ae->tagdec_reader->Prop)(f:aX->ae->Op->Int->tagdec_reader->ae×Int×tagdec_reader)(iJ:aX->ae->Op->Int->tagdec_reader->Prop)(i:Int->ae->Int->tagdec_reader->ae×Int×tagdec_reader)(d_:Int->ae->Int->tagdec_reader->Prop)(b:aX->ae->Op->tagdec_reader->ae×Int×tagdec_reader)(fO:aX->ae->Op->tagdec_reader->Prop)(c:aX->ae->Op->tagdec_reader->ae×Int×tagdec_reader)(je:aX->ae->Op->tagdec_reader->Prop)(j:Op->Int->tagdec_reader->ae×Int×tagdec_reader)(jC:Op->Int->tagdec_reader->Prop)(g:aX)(v:ae)(o:Op)(w:Int)(r:tagdec_reader):Pg (ae×Int×tagdec_reader):=.br (o.Card==5) (.br (w !=6) (.ret (v.re,13,r)) (.ob (je g v.re o r) (.ret ((c g v.re o r).1.re,(c g v.re o r).2)))) (.lt (yH g v.re o r) fun a=> .lt (pg o) fun e=> .br (w==5) (.br (Eu o) (.ob (inD v.re r/\1<=o.Num/\o.Num<=65535) (.lt (aD7 g v.re o r) fun d=> .ret (d.1.re,d.2))) (.br (w !=e) (.ret (v.re,13,r)) (.br (o.Kind==10) (.ob (fO g v.re o r) (.ret ((b g v.re o r).1.re,(b g v.re o r).2))) (.ob (inD v.re r/\1<=o.Num/\o.Num<=65535) (.ret (a.1.re,a.2)))))) (.br (w !=e) (.ret (v.re,13,r)) (.br (o.Kind==10) (.ob (fO g v.re o r) (.ret ((b g v.re o r).1.re,(b g v.re o r).2))) (.ob (inD v.re r/\1<=o.Num/\o.Num<=65535) (.ret (a.1.re,a.2))))))
def RX (d:Int->ae->tagdec_reader->ae×Int×tagdec_reader)(gq:Int->ae->tagdec_reader->Prop)(g:aX->ae->Op->Int->tagdec_reader->ae×Int×tagdec_reader)(iJ:aX->ae->Op->Int->tagdec_reader->Prop)(i:Int->ae->Int->tagdec_reader->ae×Int×tagdec_reader)(d_:Int->ae->Int->tagdec_reader->Prop)(k:aX->ae->Op->tagdec_reader->ae×Int×tagdec_reader)(fO:aX->ae->Op->tagdec_reader->Prop)(h:aX->ae->Op->tagdec_reader->ae×Int×tagdec_reader)(je:aX->ae->Op->tagdec_reader->Prop)(j:Op->Int->tagdec_reader->ae×Int×tagdec_reader)(jC:Op->Int->tagdec_reader->Prop)(prog:Int)(a:ae)(f:Int)(r:tagdec_reader):Pg (ae×Int×tagdec_reader):=.ob (okC r.c) (.lt (ig r) fun c=> .br (c.2.1 !=0) (.ret (a.re,c.2)) (.lt (FI c.2.2.c c.1) fun e=> .br (e.2 !=0) (.ret (a.re,e.2,tagdec_reader.mk c.2.2.p e.1)) (.lt (mX f (tagdec_reader.mk c.2.2.p e.1)) fun b=> .br (b.1 !=0) (.ret (a.re,b)) (.ob (gq prog a.re b.2) (.br ((d prog a.re b.2).2.1 !=0) (.ret (a.re,(d prog a.re b.2).2)) (.ret ((d prog a.re b.2).1.re,0, tagdec_reader.mk (d prog a.re b.2).2.2.p (ER c.2.2.c (d prog a.re b.2).2.2.c))))))))
def Rn (h:Int->ae->tagdec_reader->ae×Int×tagdec_reader)(gq:Int->ae->tagdec_reader->Prop)(e:aX->ae->Op->Int->tagdec_reader->ae×Int×tagdec_reader)(iJ:aX->ae->Op->Int->tagdec_reader->Prop)(a:Int->ae->Int->tagdec_reader->ae×Int×tagdec_reader)(d_:Int->ae->Int->tagdec_reader->Prop)(j:aX->ae->Op->tagdec_reader->ae×Int×tagdec_reader)(fO:aX->ae->Op->tagdec_reader->Prop)(f:aX->ae->Op->tagdec_reader->ae×Int×tagdec_reader)(je:aX->ae->Op->tagdec_reader->Prop)(i:Op->Int->tagdec_reader->ae×Int×tagdec_reader)(jC:Op->Int->tagdec_reader->Prop)(g:aX)(v:ae)(o:Op)(r:tagdec_reader):Pg (ae×Int×tagdec_reader):=.lt (tFindP v.re o.Num) fun c=> .br (o.Card==4) (.cut (fun(b:Int)=> .ob (d_ o.Target (ae.mk 10 0 [] [] [] [] []) b r) (.br ((a o.Target (ae.mk 10 0 [] [] [] [] []) b r).2.1 !=0) (.ret (v.re,(a o.Target (ae.mk 10 0 [] [] [] [] []) b r).2)) (.ob (c.1.re.List.length<=1048576) (.ob (v.re.Slots.length<=1048576) (.ret ((u_ g v.re o (nH c.1.re (a o.Target (ae.mk 10 0 [] [] [] [] []) b r).1.re).re).re,0, (a o.Target (ae.mk 10 0 [] [] [] [] []) b r).2.2)))))) (.br (!c.2) (rl 2) (rl 1))) (.cut (fun(d:ae)=> .ob (d_ o.Target d.re 1 r) (.br ((a o.Target d.re 1 r).2.1 !=0) (.ret (v.re,(a o.Target d.re 1 r).2)) (.ob (v.re.Slots.length<=1048576) (.ret ((u_ g v.re o (a o.Target d.re 1 r).1.re).re,0,(a o.Target d.re 1 r).2.2))))) (.br (!c.2) (rl (ae.mk 10 0 [] [] [] [] [])) (rl c.1.re)))
def abD (m:Int->ae->tagdec_reader->ae×Int×tagdec_reader)(gq:Int->ae->tagdec_reader->Prop)(l:aX->ae->Op->Int->tagdec_reader->ae×Int×tagdec_reader)(iJ:aX->ae->Op->Int->tagdec_reader->Prop)(n:Int->ae->Int->tagdec_reader->ae×Int×tagdec_reader)(d_:Int->ae->Int->tagdec_reader->Prop)(s:aX->ae->Op->tagdec_reader->ae×Int×tagdec_reader)(fO:aX->ae->Op->tagdec_reader->Prop)(p:aX->ae->Op->tagdec_reader->ae×Int×tagdec_reader)(je:aX->ae->Op->tagdec_reader->Prop)(d:Op->Int->tagdec_reader->ae×Int×tagdec_reader)(jC:Op->Int->tagdec_reader->Prop)(g:aX)(v:ae)(o:Op)(r:tagdec_reader):Pg (ae×Int×tagdec_reader):=.ob (okC r.c) (.lt (ig r) fun e=> .br (e.2.1 !=0) (.ret (v.re,e.2)) (.lt (tFindP v.re o.Num) fun c=> .cut (fun(j:Int)=> .lt (mX j (SI e.1 e.2.2).2) fun h=> .br (h.1 !=0) (.ret (v.re,h)) (.wh ((r.c.End - r.c.At).toNat+1) default (fun(a:Bool×Bool×tagdec_reader×Pair)=> .lt (m_ a.2.2.1.c) fun k=> .br (decide (0 < k)) (.ob (okC a.2.2.1.c) (.lt (dJ a.2.2.1.c) fun b=> .cut (fun(q:Unit)=> .br (b.1==1) (.ob (jC (Op.mk 0 [] [] 0 0 o.Key (-1) 0) b.2.1 (tagdec_reader.mk a.2.2.1.p b.2.2.1)) (.br ((d (Op.mk 0 [] [] 0 0 o.Key (-1) 0) b.2.1 (tagdec_reader.mk a.2.2.1.p b.2.2.1)).2.1 != 0) (.ret (.inr (v.re, (d (Op.mk 0 [] [] 0 0 o.Key (-1) 0) b.2.1 (tagdec_reader.mk a.2.2.1.p b.2.2.1)).2))) (rl (true,a.2.1, (d (Op.mk 0 [] [] 0 0 o.Key (-1) 0) b.2.1 (tagdec_reader.mk a.2.2.1.p b.2.2.1)).2.2, Pair.mk (d (Op.mk 0 [] [] 0 0 o.Key (-1) 0) b.2.1 (tagdec_reader.mk a.2.2.1.p b.2.2.1)).1.re a.2.2.2.Val.re)))) (.ob (jC o b.2.1 (tagdec_reader.mk a.2.2.1.p b.2.2.1)) (.br ((d o b.2.1 (tagdec_reader.mk a.2.2.1.p b.2.2.1)).2.1 !=0) (.ret (.inr (v.re,(d o b.2.1 (tagdec_reader.mk a.2.2.1.p b.2.2.1)).2))) (rl (a.1,true,(d o b.2.1 (tagdec_reader.mk a.2.2.1.p b.2.2.1)).2.2, Pair.mk a.2.2.2.Key.re (d o b.2.1 (tagdec_reader.mk a.2.2.1.p b.2.2.1)).1.re))))) (.br (b.2.2.2 !=0) (.ret (.inr (.inr (v.re,b.2.2.2,a.2.2.1)))) (.br (b.1 !=1) (.br (b.1 !=2) (.ret (.inr (.inr (v.re,18,a.2.2.1)))) (.br (b.1==1) (.br a.1 (.ret (.inr (.inr (v.re,9,a.2.2.1)))) (.br (b.1==2) (.br a.2.1 (.ret (.inr (.inr (v.re,9,a.2.2.1)))) (rl ())) (rl ()))) (.br (b.1==2) (.br a.2.1 (.ret (.inr (.inr (v.re,9,a.2.2.1)))) (rl ())) (rl ())))) (.br (b.1==1) (.br a.1 (.ret (.inr (.inr (v.re,9,a.2.2.1)))) (.br (b.1==2) (.br a.2.1 (.ret (.inr (.inr (v.re,9,a.2.2.1)))) (rl ())) (rl ()))) (.br (b.1==2) (.br a.2.1 (.ret (.inr (.inr (v.re,9,a.2.2.1)))) (rl ())) (rl ()))))))) (aL c.1.Pairs (.ob (0<=(↑c.1.Pairs.length:Int)/\ (↑c.1.Pairs.length:Int)=(↑c.1.Pairs.length:Int)/\(↑c.1.Pairs.length:Int)<=(↑c.1.Pairs.length:Int)) (.lt (List.take c.1.Pairs.length c.1.Pairs) fun i=> .ob (0 < 1/\bG (i.length+1) 256) (.lt (i++[Pair.mk a.2.2.2.Key.re a.2.2.2.Val.re]) fun(f:List Pair)=> .ob (pairsQ f) (.ob (v.re.Slots.length<=1048576) (.ret (.inr ((u_ g v.re o (ae.mk 12 0 [] [] (jl f) [] [])).re,0, ae8 (SI e.1 e.2.2).1 a.2.2.1))))))))) (false,false,h.2,Pair.mk (ae.mk o.Key 0 [] [] [] [] []) (ae.mk o.Kind 0 [] [] [] [] [])))) (.br (!c.2) (rl 3) (rl 2))))
def aly (h:Int->ae->tagdec_reader->ae×Int×tagdec_reader)(gq:Int->ae->tagdec_reader->Prop)(d:aX->ae->Op->Int->tagdec_reader->ae×Int×tagdec_reader)(iJ:aX->ae->Op->Int->tagdec_reader->Prop)(c:Int->ae->Int->tagdec_reader->ae×Int×tagdec_reader)(d_:Int->ae->Int->tagdec_reader->Prop)(g:aX->ae->Op->tagdec_reader->ae×Int×tagdec_reader)(fO:aX->ae->Op->tagdec_reader->Prop)(e:aX->ae->Op->tagdec_reader->ae×Int×tagdec_reader)(je:aX->ae->Op->tagdec_reader->Prop)(f:Op->Int->tagdec_reader->ae×Int×tagdec_reader)(jC:Op->Int->tagdec_reader->Prop)(o:Op)(w:Int)(r:tagdec_reader):Pg (ae×Int×tagdec_reader):=.br (w !=pg o) (.ret (ae.mk 0 0 [] [] [] [] [],13,r)) (.br (o.Kind==10) (.ob (d_ o.Target (ae.mk 10 0 [] [] [] [] []) 0 r) (.ret ((c o.Target (ae.mk 10 0 [] [] [] [] []) 0 r).1.re,(c o.Target (ae.mk 10 0 [] [] [] [] []) 0 r).2))) (.ob (okC r.c) (.lt (eQ w r) fun a=> .br (a.2.1 !=0) (.ret (ae.mk 0 0 [] [] [] [] [],a.2)) (.ob (List.length a.1.Data<=1048576) (.lt (p_ a.2.2.p o a.1) fun b=> .ret (b.1.re,b.2,a.2.2))))))
def gq (a:Nat)(prog:Int)(v:ae)(r:tagdec_reader):Prop:=inD v r/\(0<=prog/\prog < r.p.Progs.length)/\5*r.c.Depth+5<=a
def iJ (a:Nat)(g:aX)(v:ae)(o:Op)(w:Int)(r:tagdec_reader):Prop:=inD v r/\ao4 r.p o/\5*r.c.Depth+4<=a
def d_ (c:Nat)(prog:Int)(a:ae)(b:Int)(r:tagdec_reader):Prop:=inD a r/\(0<=prog/\prog < r.p.Progs.length)/\5*r.c.Depth+1<=c
def fO (a:Nat)(g:aX)(v:ae)(o:Op)(r:tagdec_reader):Prop:=inD v r/\(0<=o.Target/\o.Target < r.p.Progs.length)/\5*r.c.Depth+2<=a
def je (a:Nat)(g:aX)(v:ae)(o:Op)(r:tagdec_reader):Prop:=inD v r/\ao4 r.p o/\o.Card=5/\5*r.c.Depth+3<=a
def jC (a:Nat)(o:Op)(w:Int)(r:tagdec_reader):Prop:=inD (ae.mk 10 0 [] [] [] [] []) r/\(o.Kind=10->0<=o.Target/\o.Target < r.p.Progs.length)/\5*r.c.Depth+2<=a
def iF:Nat->(Int->ae->tagdec_reader->(ae×Int×tagdec_reader))×(aX->ae->Op->Int->tagdec_reader->(ae×Int×tagdec_reader))×(Int->ae->Int->tagdec_reader->(ae×Int×tagdec_reader))×(aX->ae->Op->tagdec_reader->(ae×Int×tagdec_reader))×(aX->ae->Op->tagdec_reader->(ae×Int×tagdec_reader))×(Op->Int->tagdec_reader->(ae×Int×tagdec_reader))
 | 0=>(fun _ _ _=>default,fun _ _ _ _ _=>default,fun _ _ _ _=>default,fun _ _ _ _=>default,fun _ _ _ _=>default,fun _ _ _=>default)
 | a+1=>(fun prog v r=>(Jd ((iF a).1) (gq a) ((iF a).2.1) (iJ a) ((iF a).2.2.1) (d_ a) ((iF a).2.2.2.1) (fO a) ((iF a).2.2.2.2.1) (je a) ((iF a).2.2.2.2.2) (jC a) prog v r).val,fun g v o w r=>(aaH ((iF a).1) (gq a) ((iF a).2.1) (iJ a) ((iF a).2.2.1) (d_ a) ((iF a).2.2.2.1) (fO a) ((iF a).2.2.2.2.1) (je a) ((iF a).2.2.2.2.2) (jC a) g v o w r).val,fun prog b c r=>(RX ((iF a).1) (gq a) ((iF a).2.1) (iJ a) ((iF a).2.2.1) (d_ a) ((iF a).2.2.2.1) (fO a) ((iF a).2.2.2.2.1) (je a) ((iF a).2.2.2.2.2) (jC a) prog b c r).val,fun g v o r=>(Rn ((iF a).1) (gq a) ((iF a).2.1) (iJ a) ((iF a).2.2.1) (d_ a) ((iF a).2.2.2.1) (fO a) ((iF a).2.2.2.2.1) (je a) ((iF a).2.2.2.2.2) (jC a) g v o r).val,fun g v o r=>(abD ((iF a).1) (gq a) ((iF a).2.1) (iJ a) ((iF a).2.2.1) (d_ a) ((iF a).2.2.2.1) (fO a) ((iF a).2.2.2.2.1) (je a) ((iF a).2.2.2.2.2) (jC a) g v o r).val,fun o w r=>(aly ((iF a).1) (gq a) ((iF a).2.1) (iJ a) ((iF a).2.2.1) (d_ a) ((iF a).2.2.2.1) (fO a) ((iF a).2.2.2.2.1) (je a) ((iF a).2.2.2.2.2) (jC a) o w r).val)
def TU (prog:Int)(v:ae)(r:tagdec_reader):ae×Int×tagdec_reader:=(iF ((5*r.c.Depth+5).toNat)).1 prog v r
def IL (a:Nat):Prop:=(∀(prog:Int) (v:ae) (r:tagdec_reader),gq a prog v r->(fun x=>Dk 0 0 v r x/\(x.2.1=0->x.2.2.c.At=x.2.2.c.End)) ((iF a).1 prog v r))/\(∀(g:aX) (v:ae) (o:Op) (w:Int) (r:tagdec_reader),iJ a g v o w r->(Dk 0 0 v r) ((iF a).2.1 g v o w r))/\(∀(prog:Int) (b:ae) (c:Int) (r:tagdec_reader),d_ a prog b c r->(Dk 0 8 b r) ((iF a).2.2.1 prog b c r))/\(∀(g:aX) (v:ae) (o:Op) (r:tagdec_reader),fO a g v o r->(Dk 0 0 v r) ((iF a).2.2.2.1 g v o r))/\(∀(g:aX) (v:ae) (o:Op) (r:tagdec_reader),je a g v o r->(Dk 0 0 v r) ((iF a).2.2.2.2.1 g v o r))/\(∀(o:Op) (w:Int) (r:tagdec_reader),jC a o w r->(fun x=>x.2.1=0->x.2.2.p=r.p/\yu 0 r.c x.2.2.c/\kV x.1/\(tV x.1:Int)<=8*(x.2.2.c.At - r.c.At)/\(¬o.Kind=10->sIsP x.1.Kind=true)) ((iF a).2.2.2.2.2 o w r))
theorem GL:tV (ae.mk 10 0 [] [] [] [] [])=1:=(jb 10 0 [] u0).2
theorem afx {c:ai}(h:okC c):yu 0 c c:=⟨h,rfl,rfl,rfl,rfl,N8 _,by omega⟩
theorem apV {k j s:Int}{v:ae}{r:tagdec_reader}{x:ae×Int×tagdec_reader}(h:Dk k s v r x)(a:j<=k):Dk j s v r x:=fun e=>⟨(h e).1,fM (h e).2.1 a,(h e).2.2⟩
theorem alm {v:ae}{r:tagdec_reader}(h:inD v r):inD (ae.mk 10 0 [] [] [] [] []) r:=⟨h.1,h.2.1,(jb 10 0 [] u0).1,by have:=h.2.2.2;have:=BD v;rw[GL];omega⟩
theorem aqC {c d:ai}{n:Int}(h:okC c)(q:0<=n)(l:n<=c.End - c.At)(e:d.End=c.At+n)(a:0<=d.Nodes)(b:d.Nodes<=c.Nodes):yu n c (ER c d)/\(ER c d).At=c.At+n:=by
 have g:=h;obtain⟨⟨p,o,f,i⟩,j,m,k⟩:=h;rw[atC g aj aj a b];exact⟨⟨⟨⟨by grind,by grind,f,i⟩,j,⟨a,by grind⟩,k⟩,rfl,rfl,rfl,rfl,b,by grind⟩,e⟩
theorem aGp (l:List Pair):tV (ae.mk 12 0 [] [] l [] [])=1+tPs l:=by rfl
theorem aqa {a:ae}{x:Pair}(g:kV a)(c:pairsQ (a.Pairs++[x]))(f:sIsP x.Key.Kind=true/\kV x.Key)(h:kV x.Val):kV (ae.mk 12 0 [] [] (jl (a.Pairs++[x])) [] [])/\tV (ae.mk 12 0 [] [] (jl (a.Pairs++[x])) [] [])<=tV a+1+tV x.Key+tV x.Val:=by
 have t1:=adz c;rw[yQ]at t1;simp only[vM,ady]at t1;have t2:=lh a;have t3:=NV a.Pairs;constructor
 ·have d:=((jm a).1 g).2.2.1;rw[jm];refine⟨⟨u0,fun y b=>absurd b (Qbe)⟩,fun y b=>absurd b (Qbe),fun y b=> ?_,fun y b=>absurd b (Qbe)⟩;have b:y∈jl (a.Pairs++[x]):=b;rcases vO.1 (BC c b)with e | e
  ·exact d y e
  ·rw[QZ.1 e];exact⟨f,h⟩
 ·rw[aGp,NV];omega
abbrev FU (a:Nat):=Jd ((iF a).1) (gq a) ((iF a).2.1) (iJ a) ((iF a).2.2.1) (d_ a) ((iF a).2.2.2.1) (fO a) ((iF a).2.2.2.2.1) (je a) ((iF a).2.2.2.2.2) (jC a)
theorem Pq (j:Nat)(G:IL j)(prog:Int)(v:ae)(r:tagdec_reader)(h:gq (j+1) prog v r):gU (FU j prog v r) (fun x=>Dk 0 0 v r x/\(x.2.1=0->x.2.2.c.At=x.2.2.c.End)):=
 by
 obtain⟨g,z,h3⟩:=h;have K:=g.2.1 _ (getD_mem (d:=aO) (l:=r.p.Progs) (i:=prog.toNat) aj);unfold FU Jd;simp only[ae.bJ];refine aH z.1 z.2 (kQ (fun x=>x.1.p=r.p/\yu 0 r.c x.1.c/\kV x.2/\(tV x.2:Int)+0<=tV v+8*(x.1.c.At - r.c.At)) (fun x=>(x.1.c.End - x.1.c.At).toNat) ⟨rfl,afx g.1,g.2.2.1,by grind⟩ (Qcn _) fun x I=> ?_);obtain⟨m,b,o,C⟩:=I;have s:inD x.2 x.1:=ax_ g (N8 0) m b o C;have Z:=b.2.2.2.1;refine au fun R E=>aU (fun Q=>ah b.1 (au fun T F=>bu (fun a=>af ⟨fK a,fun e=>absurd e a⟩) fun u=> ?_)) (fun D=>af ⟨fun _=>⟨m,b,o,C⟩,fun _=>at_end b.1 (E▸D)⟩);rw[F]at u⊢;obtain⟨n,u2⟩:=nV b.1 u;have N:=ZN b.1;have A:=Y9 b.1;have B:=amE b.1;generalize dJ x.1.c=c at*;have V:=n.2.2.2.1;have uE:=n.2.2.1;have Y:=n.2.2.2.2.2.2;refine bg (fun y=>y=(x.1,x.2)) (bZ <| bC (fun _ y=>y=(x.1,x.2)) rfl aj (fun i y O f=> ?_) fun y f=>af f) fun y f=> ?_
 ·subst f;have U:=K.2 _ (getD_mem (d:=Gt) O);have J:inD x.2 (tagdec_reader.mk x.1.p c.2.2.1):=⟨n.1,by show planOk x.1.p;rw[m];exact g.2.1,o,by have:=s.2.2.2;grind⟩;have t:iJ j (r.p.Progs.getD prog.toNat aO) x.2 ((r.p.Progs.getD prog.toNat aO).Ops.getD i Gt) c.2.1 (tagdec_reader.mk x.1.p c.2.2.1):=⟨J,by grind,by grind⟩;have k:=G.2.1 _ _ _ _ _ t;refine aH aj aj (bu (fun _=>af rfl) fun _=>ah t (bu (fun a=>af ⟨fK a,fun e=>absurd e a⟩) fun H=>af ?_));obtain⟨f1,f2,f3,f4⟩:=k H;dsimp only;generalize (iF j).2.1 (r.p.Progs.getD prog.toNat aO) x.2 ((r.p.Progs.getD prog.toNat aO).Ops.getD i Gt) c.2.1 (tagdec_reader.mk x.1.p c.2.2.1)=w at*;have f7:c.2.2.1.At+0<=w.2.2.c.At:=f2.2.2.2.2.2.2;have fE:w.2.2.c.End=c.2.2.1.End:=f2.2.2.1;have fL:=f2.1.1.2.1;have f4:(tV w.1:Int)+0<=tV x.2+8*(w.2.2.c.At - c.2.2.1.At):=f4;have P:yu 1 x.1.c w.2.2.c:=fM (f_ n f2) dH;exact⟨⟨f1.trans m,fM (f_ b P) dH,f3,by grind⟩,by grind⟩
 ·subst f;refine ah b.1 (au fun v8 M=>bu (fun a=>af ⟨fK a,fun e=>absurd e a⟩) fun p=>ah (qi s).1 (af ?_));rw[M]at p⊢;have q:=N p;have W:=A p;have L:=B p;generalize j_ x.1.c=w8 at*;have nE:=q.2.2.1;have S:=q.2.2.2.2.2.2;have X:=q.1.1.2.1;exact⟨⟨m,fM (f_ b q) dH,TD o L,by grind [Us]⟩,by grind⟩
abbrev AP (a:Nat):=aaH ((iF a).1) (gq a) ((iF a).2.1) (iJ a) ((iF a).2.2.1) (d_ a) ((iF a).2.2.2.1) (fO a) ((iF a).2.2.2.2.1) (je a) ((iF a).2.2.2.2.2) (jC a)
theorem TQ (c:Nat)(f:IL c)(g:aX)(v:ae)(o:Op)(w:Int)(r:tagdec_reader)(h:iJ (c+1) g v o w r):gU (AP c g v o w r) (Dk 0 0 v r):=
 by
 obtain⟨a,b,l⟩:=h;unfold AP aaH;simp only[ae.bJ];refine bI (fun d=>bu (fun _=>af (fK dm)) fun _=>ah ⟨a,b,d,by omega⟩ (af (f.2.2.2.2.1 _ _ _ _ ⟨a,b,d,by omega⟩))) fun d=>au fun m i=>au fun p k=> ?_;refine bI (fun _=>bH (fun _=>ah ⟨a,b.2.2⟩ (au fun n j=>af (by rw[j];exact(ZV g v o r ⟨a,b.2.2⟩).2))) (fun _=> ?_)) (fun _=> ?_);all_goals exact bu (fun _=>af (fK dm)) fun _=>bI (fun e=>ah ⟨a,b.1 e,by omega⟩ (af (f.2.2.2.1 _ _ _ _ ⟨a,b.1 e,by omega⟩))) fun _=>ah ⟨a,b.2.2⟩ (af (by rw[i];exact apV (J8 g v o r ⟨a,b.2.2⟩).2 dH))
abbrev wC (a:Nat):=RX ((iF a).1) (gq a) ((iF a).2.1) (iJ a) ((iF a).2.2.1) (d_ a) ((iF a).2.2.2.1) (fO a) ((iF a).2.2.2.2.1) (je a) ((iF a).2.2.2.2.2) (jC a)
theorem P5 (i:Nat)(A:IL i)(prog:Int)(b:ae)(f:Int)(r:tagdec_reader)(h:d_ (i+1) prog b f r):gU (wC i prog b f r) (Dk 0 8 b r):=
 by
 obtain⟨k,S,Y⟩:=h;have l:=k.1;unfold wC RX;simp only[ae.bJ];refine ah l (au fun W o=>bu (fun e=>af (fK e)) fun t=> ?_);rw[o]at t⊢;obtain⟨l1,Z,q,M,l5⟩:=jW l t;generalize ig r=a at*;have R:=l1.2.2.2.2.2.2;have P:=l1.2.2.1;have V:=l1.2.2.2.1;refine au fun v2 s=>bu (fun e=>af (fK e)) fun w=> ?_;rw[s]at w⊢;obtain⟨H,G,B,c4⟩:=UA l1.1 w;rw[H];refine au fun O u=>bu (fun e=>af (fK e)) fun v=> ?_;rw[u]at v⊢;have J:okC (ai.mk a.2.2.c.Data a.2.2.c.At (a.2.2.c.At+a.1) (a.2.2.c.Depth - 1) a.2.2.c.Nodes a.2.2.c.Text):=by
  obtain⟨⟨E,U,N,x⟩,Q,y⟩:=l1.1;exact⟨⟨E,by grind,by grind,x⟩,⟨by grind,by grind⟩,y⟩
 obtain⟨m,j,F⟩:=wH (r:=tagdec_reader.mk a.2.2.p (ai.mk a.2.2.c.Data a.2.2.c.At (a.2.2.c.At+a.1) (a.2.2.c.Depth - 1) a.2.2.c.Nodes a.2.2.c.Text)) J v;dsimp only at m j F⊢;generalize mX f (tagdec_reader.mk a.2.2.p (ai.mk a.2.2.c.Data a.2.2.c.At (a.2.2.c.At+a.1) (a.2.2.c.Depth - 1) a.2.2.c.Nodes a.2.2.c.Text))=g at*;have sE:g.2.c.End=a.2.2.c.At+a.1:=j.2.2.1;have X:g.2.c.Depth=a.2.2.c.Depth - 1:=j.2.2.2.1;have T:g.2.c.Nodes<=a.2.2.c.Nodes:=j.2.2.2.2.2.1;have p:gq i prog b g.2:=⟨⟨j.1,by rw[m,q];exact k.2.1,k.2.2.1,by have:=k.2.2.2;omega⟩,by grind,by omega⟩;obtain⟨I,C⟩:=A.1 prog b g.2 p;refine ah p (bu (fun e=>af (fK e)) fun n=>af fun _=> ?_);obtain⟨f1,f2,f3,f4⟩:=I n;have f5:=C n;dsimp only;generalize (iF i).1 prog b g.2=z at*;have fE:=f2.2.2.1;have K:=f2.2.2.2.2.2.1;have f0:=f2.1.2.2.1.1;obtain⟨D,L⟩:=aqC (c:=a.2.2.c) (d:=z.2.2.c) l1.1 G B aj f0 aj;refine⟨f1.trans (m.trans q),fM (f_ l1 D) aj,f3,?_⟩;omega
abbrev wL (a:Nat):=Rn ((iF a).1) (gq a) ((iF a).2.1) (iJ a) ((iF a).2.2.1) (d_ a) ((iF a).2.2.2.1) (fO a) ((iF a).2.2.2.2.1) (je a) ((iF a).2.2.2.2.2) (jC a)
theorem OA (b:Nat)(n:IL b)(g:aX)(v:ae)(o:Op)(r:tagdec_reader)(h:fO (b+1) g v o r):gU (wL b g v o r) (Dk 0 0 v r):=
 by
 obtain⟨a,q,A⟩:=h;have c:=qi a;have u:=Ac a o.Num;have s:=alm a;have t4:=FM (v:=v) (num:=o.Num);unfold wL Rn;simp only[ae.bJ];refine au fun l i=>bI (fun z=>bg (fun _=>True) (bH (fun _=>af trivial) (fun _=>af trivial)) fun m _=> ?_) (fun z=>bg (fun y=>(l.2=true/\y=l.1)\/(l.2=false/\y=ae.mk 10 0 [] [] [] [] [])) (bH (fun e=>af (.inr ⟨by simpa using e,rfl⟩)) (fun e=>af (.inl ⟨by simpa using e,rfl⟩))) fun y t=> ?_)
 ·have d:d_ b o.Target (ae.mk 10 0 [] [] [] [] []) m r:=⟨s,q,by omega⟩;have k:=n.2.2.1 _ _ _ _ d;refine ah d (bu (fun f=>af (fK f)) fun j=> ?_);obtain⟨f1,f2,f3,f4⟩:=k j;generalize (iF b).2.2.1 o.Target (ae.mk 10 0 [] [] [] [] []) m r=w at*;rw[i];refine ah u.1 (ah c.2.1 (af fun _=>⟨f1,f2,Eh c.2.1 a.2.2.1 (Oa (yG a.2.2.1) f3),?_⟩));show(tV (u_ g v o (nH (tFindP v o.Num).1 w.1)):Int)+0<=tV v+8*(w.2.2.c.At - r.c.At)
  have t2:=EG (g:=g) (v:=v) (o:=o) (x:=nH (tFindP v o.Num).1 w.1) c.2.1
  grind [GL,Nu]
 ·have p:inD y r:=by
   rcases t with⟨_,rfl⟩ | ⟨_,rfl⟩
   ·rw[i];exact⟨a.1,a.2.1,yG a.2.2.1,by have:=a.2.2.2;omega⟩
   ·exact s
  have d:d_ b o.Target y 1 r:=⟨p,q,by omega⟩;have k:=n.2.2.1 _ _ _ _ d;refine ah d (bu (fun f=>af (fK f)) fun j=> ?_);obtain⟨f1,f2,f3,f4⟩:=k j;generalize (iF b).2.2.1 o.Target y 1 r=w at*;refine ah c.2.1 (af fun _=>⟨f1,f2,Eh c.2.1 a.2.2.1 f3,?_⟩);show(tV (u_ g v o w.1):Int)+0<=tV v+8*(w.2.2.c.At - r.c.At)
  have t2:=EG (g:=g) (v:=v) (o:=o) (x:=w.1) c.2.1
  grind [GL]
abbrev Au (a:Nat):=abD ((iF a).1) (gq a) ((iF a).2.1) (iJ a) ((iF a).2.2.1) (d_ a) ((iF a).2.2.2.1) (fO a) ((iF a).2.2.2.2.1) (je a) ((iF a).2.2.2.2.2) (jC a)
theorem SV (d:Nat)(X:IL d)(g:aX)(v:ae)(o:Op)(r:tagdec_reader)(h:je (d+1) g v o r):gU (Au d g v o r) (Dk 0 0 v r):=
 by
 obtain⟨l,s,L,h4⟩:=h;have H:=qi l;have hf:=Ac l o.Num;have p:=l.1;have hb:=l.2.2.2;have t4:=FM (v:=v) (num:=o.Num);unfold Au abD;simp only[ae.bJ];refine ah p (au fun v4 W=>bu (fun c=>af (fK c)) fun N=> ?_);rw[W]at N⊢;obtain⟨l1,l2,l3,G,J⟩:=jW p N;generalize ig r=a at*;have l7:=l1.2.2.2.2.2.2;have le:=l1.2.2.1;have ld:=l1.2.2.2.1;have hc:=JK l1.1 G J;rw[AU l1.1 G J];refine au fun v5 O=>bg (fun _=>True) (bH (fun _=>af trivial) (fun _=>af trivial)) fun y1 _=>au fun v6 S=>bu (fun c=>af (fK c)) fun P=> ?_;rw[S]at P⊢;obtain⟨V,I,Y⟩:=wH (r:=tagdec_reader.mk a.2.2.p (lK a.2.2.c a.1)) hc P;dsimp only at V I Y⊢;generalize mX y1 (tagdec_reader.mk a.2.2.p (lK a.2.2.c a.1))=w6 at*;have F:(lK a.2.2.c a.1).At=a.2.2.c.At:=rfl;have A:(lK a.2.2.c a.1).End=a.2.2.c.At+a.1:=rfl;have eD:(lK a.2.2.c a.1).Depth=a.2.2.c.Depth:=rfl;rw[F]at Y;have sE:=I.2.2.1;rw[A]at sE;have h0:=p.1.1;have k1:=(jb o.Kind 0 [] u0).2;have k2:=(jb o.Key 0 [] u0).2;simp only[Qa7]at k1 k2;refine kQ (fun x=>x.2.2.1.p=r.p/\yu 0 (lK a.2.2.c a.1) x.2.2.1.c/\(sIsP x.2.2.2.Key.Kind=true/\kV x.2.2.2.Key)/\kV x.2.2.2.Val/\(tV x.2.2.2.Key:Int)+tV x.2.2.2.Val<=2+8*(x.2.2.1.c.At - a.2.2.c.At)) (fun x=>(x.2.2.1.c.End - x.2.2.1.c.At).toNat) ⟨V.trans l3,I,⟨s.2.1 L,(jb o.Key 0 [] u0).1⟩,(jb o.Kind 0 [] u0).1,by show(tV (ae.mk o.Key 0 [] [] [] [] []):Int)+tV (ae.mk o.Kind 0 [] [] [] [] [])<=2+8*(w6.2.c.At - a.2.2.c.At);omega⟩ dm fun x hx=> ?_;obtain⟨u,i,M,Z,x5⟩:=hx;have xE:=i.2.2.1;have xA:=i.2.2.2.2.2.2;have xD:=i.2.2.2.1;rw[A]at xE;rw[F]at xA;rw[eD]at xD;refine au fun v7 T=>aU (fun hlt=>ah i.1 (au fun v8 X_=>bg (fun _=>v8.2.2.2=0) ?_ fun y3 E=> ?_)) (fun D=> ?_)
 ·grind [fK,bI,bu,bH,af]
 ·rw[X_]at E⊢;obtain⟨q,u2⟩:=nV i.1 E;generalize dJ x.2.2.1.c=b at*;have uD:=q.2.2.2.1;have uE:=q.2.2.1;have uA:=q.2.2.2.2.2.2;have R:inD (ae.mk 10 0 [] [] [] [] []) (tagdec_reader.mk x.2.2.1.p b.2.2.1):=⟨q.1,by show planOk x.2.2.1.p;rw[u];exact l.2.1,(jb 10 0 [] u0).1,by grind [GL,BD]⟩;have C:∀(w:ae×Int×tagdec_reader) (n t:ae),w.2.2.p=x.2.2.1.p->yu 0 b.2.2.1 w.2.2.c->(sIsP n.Kind=true/\kV n)->kV t->(tV n:Int)+tV t<=2+8*(w.2.2.c.At - a.2.2.c.At)->(fun x=>x.2.2.1.p=r.p/\yu 0 (lK a.2.2.c a.1) x.2.2.1.c/\(sIsP x.2.2.2.Key.Kind=true/\kV x.2.2.2.Key)/\kV x.2.2.2.Val/\(tV x.2.2.2.Key:Int)+tV x.2.2.2.Val<=2+8*(x.2.2.1.c.At - a.2.2.c.At)) ((true,true,w.2.2,Pair.mk n t):Bool×Bool×tagdec_reader×Pair)/\(w.2.2.c.End - w.2.2.c.At).toNat < (x.2.2.1.c.End - x.2.2.1.c.At).toNat:=fun w n t a1 a2 a3 a4 a5=>by
   have z:yu 1 x.2.2.1.c w.2.2.c:=fM (f_ q a2) dH;have aE:=z.2.2.1;have aA:=z.2.2.2.2.2.2;have aL:=z.1.1.2.1;exact⟨⟨a1.trans u,fM (f_ i z) dH,a3,a4,a5⟩,by omega⟩
  refine bI (fun hk=> ?_) (fun hk=> ?_)
  ·have m:jC d (Op.mk 0 [] [] 0 0 o.Key (-1) 0) b.2.1 (tagdec_reader.mk x.2.2.1.p b.2.2.1):=⟨R,fun j=>(by
    have f:o.Key=10:=j;have:=s.2.1 L;rw[f]at this;exact absurd this dH),by show 5*b.2.2.1.Depth+2<=(d:Int);omega⟩
   have k:=X.2.2.2.2.2 _ _ _ m;refine ah m (bu (fun c=>af (fK c)) fun K=>af ?_);obtain⟨f1,f2,f3,f4,f5⟩:=k K;generalize (iF d).2.2.2.2.2 (Op.mk 0 [] [] 0 0 o.Key (-1) 0) b.2.1 (tagdec_reader.mk x.2.2.1.p b.2.2.1)=w at*;have f4:(tV w.1:Int)<=8*(w.2.2.c.At - b.2.2.1.At):=f4;have f7:b.2.2.1.At+0<=w.2.2.c.At:=f2.2.2.2.2.2.2;refine C w w.1 x.2.2.2.Val f1 f2 ⟨f5 fun f=> ?_,f3⟩ Z aj;have f:o.Key=10:=f;have:=s.2.1 L;rw[f]at this;exact absurd this dH
  ·have m:jC d o b.2.1 (tagdec_reader.mk x.2.2.1.p b.2.2.1):=⟨R,fun j=>by show 0<=o.Target/\o.Target < x.2.2.1.p.Progs.length;rw[u];exact s.1 j,by show 5*b.2.2.1.Depth+2<=(d:Int);omega⟩;have k:=X.2.2.2.2.2 _ _ _ m;refine ah m (bu (fun c=>af (fK c)) fun K=>af ?_);obtain⟨f1,f2,f3,f4,f5⟩:=k K;generalize (iF d).2.2.2.2.2 o b.2.1 (tagdec_reader.mk x.2.2.1.p b.2.2.1)=w at*;have f4:(tV w.1:Int)<=8*(w.2.2.c.At - b.2.2.1.At):=f4;have f7:b.2.2.1.At+0<=w.2.2.c.At:=f2.2.2.2.2.2.2;exact C w x.2.2.2.Key w.1 f1 f2 M f3 aj
 ·rw[T]at D;have hend:=at_end i.1 D;have Q:=V4 l1.1 G J i;have hpl:=acY (tFindP v o.Num).1.Pairs;have ht:=lh (tFindP v o.Num).1;have B:pairsQ ((tFindP v o.Num).1.Pairs++[x.2.2.2]):=⟨by grind,fun y hy=>(vO.1 hy).elim (hf.2.2 y) fun e=>by grind⟩;obtain⟨q1,q2⟩:=aqa (yG l.2.2.1) B M Z;have ep:Pair.mk x.2.2.2.Key x.2.2.2.Val=x.2.2.2:=Pair.eta _;rw[O,ep];refine bZ <| ah jQ (au fun v9 U=> ?_)
  rw[U,Gv];refine ah ?_ (au fun v10 Ox=> ?_)
  ·grind [room_of]
  rw[Ox];refine ah B (ah H.2.1 (af fun _=>⟨u,fM (f_ l1 Q) aj,Eh H.2.1 l.2.2.1 q1,?_⟩));show(tV (u_ g v o (ae.mk 12 0 [] [] (jl ((tFindP v o.Num).1.Pairs++[x.2.2.2])) [] [])):Int)+0<=tV v+8*(x.2.2.1.c.End - r.c.At)
  have t2:=EG (g:=g) (v:=v) (o:=o) (x:=ae.mk 12 0 [] [] (jl ((tFindP v o.Num).1.Pairs++[x.2.2.2])) [] []) H.2.1
  grind
abbrev FQ (a:Nat):=aly ((iF a).1) (gq a) ((iF a).2.1) (iJ a) ((iF a).2.2.1) (d_ a) ((iF a).2.2.2.1) (fO a) ((iF a).2.2.2.2.1) (je a) ((iF a).2.2.2.2.2) (jC a)
theorem Yf (b:Nat)(j:IL b)(o:Op)(w:Int)(r:tagdec_reader)(h:jC (b+1) o w r):gU (FQ b o w r) (fun x=>x.2.1=0->x.2.2.p=r.p/\yu 0 r.c x.2.2.c/\kV x.1/\(tV x.1:Int)<=8*(x.2.2.c.At - r.c.At)/\(¬o.Kind=10->sIsP x.1.Kind=true)):=
 by
 obtain⟨a,k,p⟩:=h;unfold FQ aly;simp only[ae.bJ];refine bu (fun _=>af (fun e=>absurd e dm)) fun _=>bI (fun i=> ?_) (fun i=>ah a.1 (au fun n c=>bu (fun f=>af (fun e=>absurd e f)) fun g=> ?_))
 ·have d:d_ b o.Target (ae.mk 10 0 [] [] [] [] []) 0 r:=⟨a,k i,by omega⟩;refine ah d (af fun e=> ?_);obtain⟨f1,f2,f3,f4⟩:=j.2.2.1 _ _ _ _ d e
  grind [GL]
 ·rw[c]at g⊢;obtain⟨s,q,m,t,_⟩:=uF a.1 g;have l:=yS (wire:=w) a.1
  grind [fM,Vp,au,ah,af]
theorem ng:∀a,IL a
 | 0=>⟨fun prog v r h=>False.elim qa5,
  fun g v o w r h=>False.elim qa5,
  fun prog b c r h=>False.elim qa5,
  fun g v o r h=>False.elim qa5,
  fun g v o r h=>False.elim (by have k:=h.1.1.2.1.1;have e:=h.2.2.2;omega),
  fun o w r h=>False.elim qa5⟩
 | a+1=>⟨fun prog v r h=>(Pq a (ng a) prog v r h).2,
  fun g v o w r h=>(TQ a (ng a) g v o w r h).2,
  fun prog b c r h=>(P5 a (ng a) prog b c r h).2,
  fun g v o r h=>(OA a (ng a) g v o r h).2,
  fun g v o r h=>(SV a (ng a) g v o r h).2,
  fun o w r h=>(Yf a (ng a) o w r h).2⟩
theorem ajG (a:Nat)(prog:Int)(v:ae)(r:tagdec_reader)(h:gq (a+1) prog v r):Is (FU a prog v r):=(Pq a (ng a) prog v r h).1
theorem anT (a:Nat)(g:aX)(v:ae)(o:Op)(w:Int)(r:tagdec_reader)(h:iJ (a+1) g v o w r):Is (AP a g v o w r):=(TQ a (ng a) g v o w r h).1
theorem aim (c:Nat)(prog:Int)(a:ae)(b:Int)(r:tagdec_reader)(h:d_ (c+1) prog a b r):Is (wC c prog a b r):=(P5 c (ng c) prog a b r h).1
theorem ake (a:Nat)(g:aX)(v:ae)(o:Op)(r:tagdec_reader)(h:fO (a+1) g v o r):Is (wL a g v o r):=(OA a (ng a) g v o r h).1
theorem apk (a:Nat)(g:aX)(v:ae)(o:Op)(r:tagdec_reader)(h:je (a+1) g v o r):Is (Au a g v o r):=(SV a (ng a) g v o r h).1
theorem auK (a:Nat)(o:Op)(w:Int)(r:tagdec_reader)(h:jC (a+1) o w r):Is (FQ a o w r):=(Yf a (ng a) o w r h).1
theorem G_ (prog:Int)(v:ae)(r:tagdec_reader)(h:inD v r/\(0<=prog/\prog < r.p.Progs.length)):(fun x=>Dk 0 0 v r x/\(x.2.1=0->x.2.2.c.At=x.2.2.c.End)) (TU prog v r):=(ng ((5*r.c.Depth+5).toNat)).1 prog v r (⟨h.1,h.2,by omega⟩)
theorem aB5:∀b,CtOk Z.P Z.S 176 (qQ (jG (aCons (aPtr 0) (aCons (aLf cI) (a1 (aAgg cd_AVal)))) (b1 (bCells cd_tagdec_reader))) (shr [.slot 0 true (nn 7), s0 1, .cells 0 (nn 8)] (aJ cd_AVal (aJ cI (l1 cd_tagdec_reader)))) 2 [] (fun a=>some (gq b (a.1.2.1) (a.1.2.2) (a.2))) (fun a=>(iF b).1 (a.1.2.1) (a.1.2.2) (a.2)))/\CtOk Z.P Z.S 241 (qQ (jG (aCons (aPtr 0) (aCons (aAgg cd_Prog) (aCons (aAgg cd_AVal) (aCons (aAgg cd_Op) (a1 (aLf cI)))))) (b1 (bCells cd_tagdec_reader))) (shr [.slot 0 true (nn 7), s0 1, .cells 0 (nn 8)] (aJ cd_AVal (aJ cI (l1 cd_tagdec_reader)))) 2 [] (fun a=>some (iJ b (a.1.2.1) (a.1.2.2.1) (a.1.2.2.2.1) (a.1.2.2.2.2) (a.2))) (fun a=>(iF b).2.1 (a.1.2.1) (a.1.2.2.1) (a.1.2.2.2.1) (a.1.2.2.2.2) (a.2)))/\CtOk Z.P Z.S 446 (qQ (jG (aCons (aPtr 0) (aCons (aLf cI) (aCons (aAgg cd_AVal) (a1 (aLf cI))))) (b1 (bCells cd_tagdec_reader))) (shr [.slot 0 true (nn 7), s0 1, .cells 0 (nn 8)] (aJ cd_AVal (aJ cI (l1 cd_tagdec_reader)))) 2 [] (fun a=>some (d_ b (a.1.2.1) (a.1.2.2.1) (a.1.2.2.2) (a.2))) (fun a=>(iF b).2.2.1 (a.1.2.1) (a.1.2.2.1) (a.1.2.2.2) (a.2)))/\CtOk Z.P Z.S 335 (qQ (jG (aCons (aPtr 0) (aCons (aAgg cd_Prog) (aCons (aAgg cd_AVal) (a1 (aAgg cd_Op))))) (b1 (bCells cd_tagdec_reader))) (shr [.slot 0 true (nn 7), s0 1, .cells 0 (nn 8)] (aJ cd_AVal (aJ cI (l1 cd_tagdec_reader)))) 2 [] (fun a=>some (fO b (a.1.2.1) (a.1.2.2.1) (a.1.2.2.2) (a.2))) (fun a=>(iF b).2.2.2.1 (a.1.2.1) (a.1.2.2.1) (a.1.2.2.2) (a.2)))/\CtOk Z.P Z.S 331 (qQ (jG (aCons (aPtr 0) (aCons (aAgg cd_Prog) (aCons (aAgg cd_AVal) (a1 (aAgg cd_Op))))) (b1 (bCells cd_tagdec_reader))) (shr [.slot 0 true (nn 7), s0 1, .cells 0 (nn 8)] (aJ cd_AVal (aJ cI (l1 cd_tagdec_reader)))) 2 [] (fun a=>some (je b (a.1.2.1) (a.1.2.2.1) (a.1.2.2.2) (a.2))) (fun a=>(iF b).2.2.2.2.1 (a.1.2.1) (a.1.2.2.1) (a.1.2.2.2) (a.2)))/\CtOk Z.P Z.S 441 (qQ (jG (aCons (aPtr 0) (aCons (aAgg cd_Op) (a1 (aLf cI)))) (b1 (bCells cd_tagdec_reader))) (shr [.slot 0 true (nn 7), s0 1, .cells 0 (nn 8)] (aJ cd_AVal (aJ cI (l1 cd_tagdec_reader)))) 2 [] (fun a=>some (jC b (a.1.2.1) (a.1.2.2) (a.2))) (fun a=>(iF b).2.2.2.2.2 (a.1.2.1) (a.1.2.2) (a.2)))
 | 0=>⟨iy func176 dM (fun a h=>by have k:=h.1.1.2.1.1;have e:=h.2.2;omega),
  iy func241 dM (fun a h=>by have k:=h.1.1.2.1.1;have e:=h.2.2;omega),
  iy func446 dM (fun a h=>by have k:=h.1.1.2.1.1;have e:=h.2.2;omega),
  iy func335 dM (fun a h=>by have k:=h.1.1.2.1.1;have e:=h.2.2;omega),
  iy func331 dM (fun a h=>by have k:=h.1.1.2.1.1;have e:=h.2.2.2;omega),
  iy func441 dM (fun a h=>by have k:=h.1.1.2.1.1;have e:=h.2.2;omega)⟩
 | b+1=>by
  obtain⟨j,d,i,l,g,f⟩:=aB5 b;exact⟨Rk [yT,aic,azl,agJ,⟨176,_,j⟩,⟨241,_,d⟩,⟨446,_,i⟩,⟨335,_,l⟩,⟨331,_,g⟩,⟨441,_,f⟩] [jS 2 (bD (fun c=>[.cells (pid (c 0)) (nn 8), .cells (pid (c 5)) (nn 7)]) (aJ cd_tagdec_reader (l1 cd_AVal))),jS 8 (bD (fun c=>[s0 49, .cells (pid (c 0)) (nn 8), .cells (pid (c 5)) (nn 7)]) (aJ cI (aJ cd_tagdec_reader (l1 cd_AVal)))),jS 100016 (bD (fun c=>[.cells (pid (c 0)) (nn 8), .cells (pid (c 5)) (nn 7)]) (aJ cd_tagdec_reader (l1 cd_AVal)))] func176 ntmps176 (fun a=>FU b a.1.2.1 a.1.2.2 a.2) (fun a h=>⟨ajG b a.1.2.1 a.1.2.2 a.2 h,rfl⟩) (qw (n:=93) rfl),
   Rk [ZE,azV,I_,avm,⟨176,_,j⟩,⟨241,_,d⟩,⟨446,_,i⟩,⟨335,_,l⟩,⟨331,_,g⟩,⟨441,_,f⟩] [] func241 ntmps241 (fun a=>AP b a.1.2.1 a.1.2.2.1 a.1.2.2.2.1 a.1.2.2.2.2 a.2) (fun a h=>⟨anT b a.1.2.1 a.1.2.2.1 a.1.2.2.2.1 a.1.2.2.2.2 a.2 h,rfl⟩) (qw (n:=64) rfl),
   Rk [D9,FV,awK,atT,⟨176,_,j⟩,⟨241,_,d⟩,⟨446,_,i⟩,⟨335,_,l⟩,⟨331,_,g⟩,⟨441,_,f⟩] [] func446 ntmps446 (fun a=>wC b a.1.2.1 a.1.2.2.1 a.1.2.2.2 a.2) (fun a h=>⟨aim b a.1.2.1 a.1.2.2.1 a.1.2.2.2 a.2 h,rfl⟩) (qw (n:=68) rfl),
   Rk [LZ,acC,ZJ,⟨176,_,j⟩,⟨241,_,d⟩,⟨446,_,i⟩,⟨335,_,l⟩,⟨331,_,g⟩,⟨441,_,f⟩] [jS 100007 (bD (fun c=>[s0 13]) (l1 cI)),jS 100013 (bD (fun c=>[.cells (pid (c 10)) (nn 7)]) (l1 cd_AVal))] func335 ntmps335 (fun a=>wL b a.1.2.1 a.1.2.2.1 a.1.2.2.2 a.2) (fun a h=>⟨ake b a.1.2.1 a.1.2.2.1 a.1.2.2.2 a.2 h,rfl⟩) (qw (n:=71) rfl),
   Rk [D9,LZ,yT,aic,ad3,FV,alg,YN,acC,⟨176,_,j⟩,⟨241,_,d⟩,⟨446,_,i⟩,⟨335,_,l⟩,⟨331,_,g⟩,⟨441,_,f⟩] [jS 14 (bD (fun c=>[s0 18, s0 19, .cells (pid (c 0)) (nn 8), .cells (pid (c 17)) (nn 14)]) (aJ cBool (aJ cBool (aJ cd_tagdec_reader (l1 vZ))))),jS 100009 (bD (fun c=>[s0 15]) (l1 cI)),jS 100022 (bD (fun c=>[]) l0)] func331 ntmps331 (fun a=>Au b a.1.2.1 a.1.2.2.1 a.1.2.2.2 a.2) (fun a h=>⟨apk b a.1.2.1 a.1.2.2.1 a.1.2.2.2 a.2 h,rfl⟩) (qw (n:=153) rfl),
   Rk [I_,PV,YB,⟨176,_,j⟩,⟨241,_,d⟩,⟨446,_,i⟩,⟨335,_,l⟩,⟨331,_,g⟩,⟨441,_,f⟩] [] func441 ntmps441 (fun a=>FQ b a.1.2.1 a.1.2.2 a.2) (fun a h=>⟨auK b a.1.2.1 a.1.2.2 a.2 h,rfl⟩) (qw (n:=44) rfl)⟩
def aqc:bi Z:=⟨176,qQ (jG (aCons (aPtr 0) (aCons (aLf cI) hh9)) afL) aC9 2 [] (fun a=>some (inD (a.1.2.2) (a.2)/\(0<=(a.1.2.1)/\(a.1.2.1) < (a.2).p.Progs.length))) (fun a=>TU (a.1.2.1) (a.1.2.2) (a.2)),oh (fun n=>((aB5 n).1)) _ _ (fun a h=>⟨(5*(a.2).c.Depth+5).toNat,⟨h.1,h.2,by omega⟩,rfl⟩)⟩
def avk (a:Str)(l:jf):Pg (ai×Int):=.br (decide (l.Bytes < 0)) (.ret (ai.mk [] 0 0 0 0 0,1)) (.br (decide (l.Depth < 0)) (.ret (ai.mk [] 0 0 0 0 0,1)) (.br (decide (l.Nodes < 0)) (.ret (ai.mk [] 0 0 0 0 0,1)) (.br (decide (l.Text < 0)) (.ret (ai.mk [] 0 0 0 0 0,1)) (.as (List.length a<=9223372036854775807) (.br (decide (l.Bytes < (↑(List.length a):Int))) (.ret (ai.mk [] 0 0 0 0 0,3)) (.as (List.length a<=9223372036854775807) (.ret (ai.mk a 0 (↑(List.length a):Int) l.Depth l.Nodes l.Text,0))))))))
def Hu (a:Str)(l:jf):=(avk a l).val
def ayr:bi Z:=E0 [] [] ayi apC [] func174 2 (u2 avk)
def arz:Pg jf:=.ret (jf.mk 65536 16 4096 4096)
def oU:jf:=(arz).val
def avi:bi Z:=E0 [] [] a0 aBD [] func65 1 fun a=>arz
def okL (l:jf):Prop:=l.Bytes<=65536/\l.Depth<=1048576/\l.Nodes<=1099511627776/\l.Text<=1099511627776
theorem UM:okL oU:=by
 show okL (jf.mk 65536 16 4096 4096)
 exact⟨by decide,by decide,by decide,by decide⟩
theorem afJ {a:Str}{l:jf}(f:okL l)(b:(Hu a l).2=0):okC (Hu a l).1/\(Hu a l).1.At=0/\(Hu a l).1.End=a.length/\a.length<=65536:=by
 obtain⟨l1,d,i,j⟩:=f;unfold Hu avk at b⊢;simp only[dW,aF,ay]at b⊢;by_cases c:l.Bytes < 0
 ·grind
 rw[pO c]at b⊢;by_cases h:l.Depth < 0
 ·grind
 rw[pO h]at b⊢;by_cases k:l.Nodes < 0
 ·grind
 rw[pO k]at b⊢;by_cases g:l.Text < 0
 ·grind
 rw[pO g]at b⊢;by_cases e:l.Bytes < (a.length:Int)
 ·grind
 rw[pO e];exact⟨⟨⟨by grind,by grind,by grind,by grind⟩,⟨by grind,d⟩,⟨by grind,i⟩,by grind,j⟩,rfl,rfl,by omega⟩
theorem Jw {p:aC}{name:Str}(h:(mF p name).2=true):0<=(mF p name).1/\(mF p name).1 < p.Progs.length:=by
 have a:=(jy (fun(x:aX)=>acR x name) p.Progs).1;unfold mF ala at h⊢;simp only[aT,ay]at h⊢
 grind
def tOnto (p:aC)(g:Str)(b:ae)(f:Str)(l:jf):Pg (ae×Int):=.lt (mF p g) fun c=> .br (!c.2) (.ret (ae.mk 0 0 [] [] [] [] [],10)) (.br (b.Kind !=10) (.ret (ae.mk 0 0 [] [] [] [] [],12)) (.lt (Hu f l) fun a=> .br (a.2 !=0) (.ret (ae.mk 0 0 [] [] [] [] [],a.2)) (.br (decide (a.1.Depth < 1)) (.ret (ae.mk 0 0 [] [] [] [] [],17)) (.lt (mX 1 (tagdec_reader.mk p (ai.mk a.1.Data a.1.At a.1.End (aQ .i64 (a.1.Depth - 1)) a.1.Nodes a.1.Text))) fun d=> .br (d.1 !=0) (.ret (ae.mk 0 0 [] [] [] [] [],d.1)) (.ob (inD b.re d.2/\0<=c.1/\c.1 < (↑d.2.p.Progs.length:Int)) (.lt (TU c.1 b.re d.2) fun e=> .br (e.2.1 !=0) (.ret (ae.mk 0 0 [] [] [] [] [],e.2.1)) (.ob (gV e.1.re) (.ret ((VW p c.1 e.1.re).re,0)))))))))
def aDV (p:aC)(b:Str)(c:ae)(a:Str)(l:jf):=(tOnto p b c a l).val
theorem NU (p:aC)(name:Str)(a:ae)(c:Str)(l:jf)(h:planOk p/\okL l/\kV a/\tV a<=1024):gU (tOnto p name a c l) (fun x=>x.2=0->kV x.1/\tV x.1<=tV a+8*c.length/\(mF p name).2=true/\c.length<=65536):=
 by
 obtain⟨R,F,y,N⟩:=h;unfold tOnto;simp only[ae.bJ];have g:∀{e:Int} (v:¬e=0),(fun x:ae×Int=>x.2=0->kV x.1/\tV x.1<=tV a+8*c.length/\(mF p name).2=true/\c.length<=65536) (ae.mk 0 0 [] [] [] [] [],e):=fun v C=>absurd C v
 refine au fun m t=>bH (fun _=>af (g dH)) fun D=>bu (fun _=>af (g dH)) fun S=>au fun v2 i=>bu (fun d=>af (g d)) fun z=>aU (fun _=>af (g dH)) fun G=>au fun f j=>bu (fun d=>af (g d)) fun s=> ?_;have O:m.2=true:=by simpa using D
 have I:=Jw (p:=p) (name:=name) dm;rw[<-t]at I;rw[i]at z G;obtain⟨L,V,Q,Y⟩:=afJ F z;rw[j,i]at s;rw[i]at j;generalize Hu c l=b at*;have M:okC (ai.mk b.1.Data b.1.At b.1.End (aQ .i64 (b.1.Depth - 1)) b.1.Nodes b.1.Text):=by
  obtain⟨J,⟨U,P⟩,B⟩:=L;rw[bn (k:= .i64) kM];exact⟨J,⟨by grind,by grind⟩,B⟩
 obtain⟨q,n,o⟩:=wH (r:=tagdec_reader.mk p (ai.mk b.1.Data b.1.At b.1.End (aQ .i64 (b.1.Depth - 1)) b.1.Nodes b.1.Text)) M s;rw[<-j]at q n o;have W:f.2.c.End=b.1.End:=n.2.2.1;have o:f.2.c.At=b.1.At:=o;have q:f.2.p=p:=q;have u:inD a f.2/\0<=m.1/\m.1 < (f.2.p.Progs.length:Int):=⟨⟨n.1,by grind,y,by omega⟩,by grind⟩;refine ah u (au fun E w=>bu (fun d=>af (g d)) fun K=> ?_);obtain⟨A,H⟩:=G_ m.1 a f.2 u;rw[<-w]at A H;obtain⟨f1,f2,f3,f4⟩:=A K;have X:=f2.2.2.1;have Z:=f2.1.1.2.1;have T:gV E.1:=⟨f3,by omega⟩
 grind [aeH,ah,af]
def azz:bi Z:=E1 [amG,ayr,D9,aqc,azP] [] aGO aiI [] func117 2 (fun a=>tOnto a.1 a.2.1 a.2.2.1 a.2.2.2.1 a.2.2.2.2) (fun a=>planOk a.1/\okL a.2.2.2.2/\kV a.2.2.1/\tV a.2.2.1<=1024) fun a h=>(NU a.1 a.2.1 a.2.2.1 a.2.2.2.1 a.2.2.2.2 h).1
def Fa (e:aC->Int->ae->Bool)(tK:aC->Int->ae->Prop)(p:aC)(prog:Int)(v:ae):Pg Bool:=.ix prog p.Progs.length (.as ((p.Progs.getD prog.toNat aO).Ops.length<=9223372036854775807) (.each false yc (p.Progs.getD prog.toNat aO).Ops Gt (fun h b (j:Unit)=> .ix h (p.Progs.getD prog.toNat aO).Ops.length (.lt (tFindP v.re b.Num) fun d=> .br (!d.2) (.br (b.Card==1) (.ret (.inr false)) (rl ())) (.br (b.Kind !=10) (rl ()) (.ob ((match d.1 with | ae.mk i q n l a o m=>a).length<= 1048576) (.lt (uB d.1.re) fun c=> aL c (.each false yc c jP (fun f g (k:Unit)=> .ix f c.length (.ob (tK p b.Target g.re) (.br (!e p b.Target g.re) (.ret (.inr (.inr false))) (rl ())))) (fun f (k:Unit)=> rl ()) ())))))) (fun h (j:Unit)=> .ret true) ()))
def tK (a:Nat)(p:aC)(prog:Int)(v:ae):Prop:=planOk p/\(0<=prog/\prog < p.Progs.length)/\gV v/\tV v<=a
def YX:Nat->(aC->Int->ae->Bool)
 | 0=>(fun _ _ _=>default)
 | a+1=>(fun p prog v=>(Fa ((YX a)) (tK a) p prog v).val)
def Hm (p:aC)(prog:Int)(v:ae):Bool:=(YX (tV v)) p prog v
abbrev uK (a:Nat):=Fa ((YX a)) (tK a)
theorem aa1 (c:Nat)(p:aC)(prog:Int)(v:ae)(h:tK (c+1) p prog v):Is (uK c p prog v):=
 by
 obtain⟨b,A,C,z⟩:=h;have t:=b _ (getD_mem (d:=aO) (l:=p.Progs) (i:=prog.toNat) aj);have x:(tFindP v 0).1.Pairs.length=(tFindP v 0).1.Pairs.length:=rfl;unfold uK Fa;simp only[ae.bJ];refine is_ix aj aj (is_as fun _=>is_each (.inr aj) (fun B w f _=>is_ix aj aj (is_lt fun a y=>is_br (fun _=>is_beq iR iR) (fun n=>is_bne iR (fun s=> ?_)))) (fun w _=>is_ret));have D:a.2=true:=by simpa using n
 have o:=t.2 _ (getD_mem (d:=Gt) f);have q:gV a.1/\tV a.1 < tV v:=by
  grind [RV,uM]
 have e:=(rU q.1).2.2.2.1;refine is_ob e (is_lt fun k u=>is_as fun _=>is_each (.inr aj) (fun g r j _=>is_ix aj aj (is_ob ?_ (is_br iR iR))) (fun r _=>is_ret));have E:=(WP a.1 e).2 _ (by have:=getD_mem (d:=jP) j;rw[u]at this;exact this);have m:gV (k.getD g jP)/\tV (k.getD g jP) < tV v:=by
  grind [Rz,FT]
 exact⟨b,o.1 s,m.1,by omega⟩
theorem aBW:∀b,CtOk Z.P Z.S 119 (qQ (args (aCons (aAgg cd_Plan) (aCons (aLf cI) (a1 (aAgg cd_AVal))))) (R1 cBool) 1 [] (fun a=>some (tK b (a.1) (a.2.1) (a.2.2))) (fun a=>(YX b) (a.1) (a.2.1) (a.2.2)))
 | 0=>iy func119 dM (fun a h=>by have k:=h.2.2.2;have:=BD (a.2.2);omega)
 | b+1=>by
  have d:=aBW b;exact Rk [LZ,atZ,⟨119,_,d⟩] [jS 2 (bD (fun c=>[s0 20]) (l1 cI)),jS 10 (bD (fun c=>[s0 42]) (l1 cI))] func119 ntmps119 (fun a=>uK b a.1 a.2.1 a.2.2) (fun a h=>⟨aa1 b a.1 a.2.1 a.2.2 h,rfl⟩) (l_ (n:=54) rfl)
def aeG:bi Z:=⟨119,qQ (args aAk) hh2 1 [] (fun a=>some (planOk (a.1)/\(0<=(a.2.1)/\(a.2.1) < (a.1).Progs.length)/\gV (a.2.2))) (fun a=>Hm (a.1) (a.2.1) (a.2.2)),oh (fun n=>((aBW n))) _ _ (fun a h=>⟨tV (a.2.2),⟨h.1,h.2.1,h.2.2,pJ _⟩,rfl⟩)⟩
def tDecode (p:aC)(a:Str)(c:Str)(l:jf):Pg (ae×Int):=.ob (planOk p/\okL l/\kV (ae.mk 10 0 [] [] [] [] [])/\tV (ae.mk 10 0 [] [] [] [] [])<=1024) (.lt (aDV p a (ae.mk 10 0 [] [] [] [] []) c l) fun b=> .br (b.2 !=0) (.ret (ae.mk 0 0 [] [] [] [] [],b.2)) (.lt (mF p a) fun d=> .ob (planOk p/\(0<=d.1/\d.1 < (↑p.Progs.length:Int))/\gV b.1.re) (.br (!Hm p d.1 b.1.re) (.ret (ae.mk 0 0 [] [] [] [] [],14)) (.ret (b.1.re,0)))))
def pW (p:aC)(b:Str)(a:Str)(l:jf):=(tDecode p b a l).val
theorem adL (p:aC)(b:Str)(a:Str)(l:jf)(h:planOk p/\okL l):gU (tDecode p b a l) (fun x=>x.2=0->kV x.1/\tV x.1<=1+8*a.length):=
 by
 obtain⟨m,s⟩:=h;have g:planOk p/\okL l/\kV (ae.mk 10 0 [] [] [] [] [])/\tV (ae.mk 10 0 [] [] [] [] [])<=1024:=⟨m,s,(jb 10 0 [] u0).1,by rw[GL];decide⟩;unfold tDecode;simp only[ae.bJ];refine ah g (au fun c d=>bu (fun j=>af fun e=>absurd e j) fun r=>au fun u f=> ?_);have k:=(NU p b (ae.mk 10 0 [] [] [] [] []) a l g).2;have k:c.2=0->kV c.1/\tV c.1<=tV (ae.mk 10 0 [] [] [] [] [])+8*a.length/\(mF p b).2=true/\a.length<=65536:=by rw[d];exact k
 obtain⟨o,n,q,t⟩:=k r;have i:=Jw q;rw[<-f]at i;rw[GL]at n;refine ah ⟨m,i,o,by omega⟩ (bH (fun _=>af fun e=>absurd e dH) fun _=>af fun _=>⟨o,n⟩)
def apt:bi Z:=E1 [azz,amG,aeG] [] aCj aiI [] func64 2 (u4 tDecode) (fun a=>planOk a.1/\okL a.2.2.2) fun a h=>(adL a.1 a.2.1 a.2.2.1 a.2.2.2 h).1
theorem JR {A:Type}(p:A->Bool)(l:List A):decide (0<=dO p l)=l.any p:=by
 grind [oN]
def isWord (s:Str):Pg Bool:=.cut (fun(a:Bool)=> .br a (.ret true) (.br (s==[105,109,112,111,114,116]) (.br (s==[105,109,112,111,114,116]) (.ret true) (.ret false)) (.br (s==[115,112,97,99,101]) (.br (s==[115,112,97,99,101]) (.ret true) (.ret false)) (.br (s==[114,112,99]) (.br (s==[114,112,99]) (.ret true) (.ret false)) (.br (s==[115,116,114,101,97,109]) (.br (s==[115,116,114,101,97,109]) (.ret true) (.ret false)) (.br (s==[114,101,116,117,114,110,115]) (.br (s==[114,101,116,117,114,110,115]) (.ret true) (.ret false)) (.br (s==[111,112,101,110]) (.br (s==[111,112,101,110]) (.ret true) (.ret false)) (.br (s==[116,114,117,101]) (.br (s==[116,114,117,101]) (.ret true) (.ret false)) (.br (s==[102,97,108,115,101]) (.br (s==[102,97,108,115,101]) (.ret true) (.ret false)) (.br (s==[110,97,110]) (.br (s==[110,97,110]) (.ret true) (.ret false)) (.br (s==[105,110,102]) (.ret true) (.ret false)))))))))))) (.br (s==[109,101,115,115,97,103,101]) (rl (s==[109,101,115,115,97,103,101])) (.br (s==[101,110,117,109]) (rl (s==[101,110,117,109])) (.br (s==[115,101,114,118,105,99,101]) (rl (s==[115,101,114,118,105,99,101])) (.br (s==[117,110,105,111,110]) (rl (s==[117,110,105,111,110])) (.br (s==[109,97,112]) (rl (s==[109,97,112])) (.br (s==[108,105,115,116]) (rl (s==[108,105,115,116])) (.br (s==[114,101,113,117,105,114,101,100]) (rl (s==[114,101,113,117,105,114,101,100])) (.br (s==[111,112,116,105,111,110,97,108]) (rl (s==[111,112,116,105,111,110,97,108])) (.br (s==[112,108,97,105,110]) (rl (s==[112,108,97,105,110])) (.br (s==[100,101,102,97,117,108,116]) (rl (s==[100,101,102,97,117,108,116])) (rl (s==[114,101,115,101,114,118,101,100]))))))))))))
def EU (s:Str):=(isWord s).val
def JG:bi Z:=E0 [] [jS 100013 (bD (fun b=>[s0 4]) oK)] hh1 hh2 [] func275 1 isWord
def aeO:bi Z:=EI [JG] cd_Lstr 275 func273 [] EU
def amI:bi Z:=EA [aeO,JG] cd_Lstr 275 func207 EU
def auT (s:Str):Pg Bool:=.br (xO s) (.ret !EU s) (.ret false)
def D6 (s:Str):=(auT s).val
def QU:bi Z:=E0 [RH,JG] [] hh1 hh2 [] func217 1 auT
def arJ (s:Str):Pg Bool:=.ob (List.length s<=4294967296) (.br (CQ s) (.ob ([46]=vI/\List.length s<=4294967296) (.ret !(fJ 46 s).any fun(x:Str)=>EU x)) (.ret false))
def Ve (s:Str):=(arJ s).val
def aaE:bi Z:=E1 [aa_,agI,amI,JG] [] hh1 hh2 [] func212 1 arJ fun a=>a.length<=4294967296
def ixS (l:List Str)(v:Str):Pg Int:=aL l (.each false yc l [] (fun a c (b:Unit)=> .ix a l.length (.br (v==c) (.ret (.inr a)) (rl ()))) (fun a (b:Unit)=> .ret (-1)) ())
theorem aEe (l:List Str)(v:Str):Is (ixS l v):=
 is_as fun _=>is_each (.inr aj) (fun b a _ _=>is_ix aj aj (is_br iR iR)) (fun a _=>is_ret)
def aCo:bi Z:=E2 [] [jS 2 (bD (fun b=>[s0 8]) iL)] aAZ jE [] func108 1 (u2 ixS) (fun a=>none) (fun a=>dO (fun(x:Str)=>a.2==x) a.1) fun a h=>⟨aEe a.1 a.2,(fun(l:List Str) (v:Str)=>vV (fun(x:Str)=>v==x) l 0) a.1 a.2⟩
def coS (l:List Str)(v:Str):Pg Bool:=.lt (dO (fun(x:Str)=>v==x) l) fun a=> .ret (decide (0<=a))
theorem aDK (l:List Str)(v:Str):Is (coS l v):=
 is_lt fun b a=>is_ret
def alV:bi Z:=E2 [aCo] [] aAZ hh2 [] func107 1 (u2 coS) (fun a=>none) (fun a=>a.1.any fun(x:Str)=>a.2==x) fun a h=>⟨aDK a.1 a.2,(fun(l:List Str) (v:Str)=>JR (fun(x:Str)=>v==x) l) a.1 a.2⟩
def aHH (x:aG)(a:Str):Pg Bool:=.ret (x.Name==a)
def arw (x:aG)(a:Str):=(aHH x a).val
def avn:bi Z:=QF [] [] (aCons (aAgg cd_Message) Dn) Qr hh2 [0] func274 1 (u11 aHH)
def asy:bi Z:=EIB [avn] vg 274 [0] Qr func165 bT fun x b=>arw x b
def cMessage (s:ax)(b:Str):Pg (aG×Bool):=.lt (dO (fun(x:aG)=>arw x b) s.Messages) fun a=> .br (decide (a < 0)) (.ret (aG.mk [] [] [] [] [],false)) (.ix a s.Messages.length (.ret (s.Messages.getD a.toNat bT,true)))
def iD (s:ax)(a:Str):=(cMessage s a).val
theorem adZ (s:ax)(a:Str):Is (cMessage s a):=
 is_lt fun c b=>is_brd iR (fun _=>is_ix aj (by have:=jy (fun(x:aG)=>arw x a) s.Messages;omega) (is_ret))
def xn:bi Z:=E0 [asy,avn] [] QB (shr ajE (aJ cd_Message oK)) [] func209 2 (u2 cMessage) fun a=>adZ a.1 a.2
def aHq (x:eu)(a:Str):Pg Bool:=.ret (x.Name==a)
def asE (x:eu)(a:Str):=(aHq x a).val
def awz:bi Z:=QF [] [] (aCons (aAgg cd_Enum) Dn) Qr hh2 [0] func476 1 (u11 aHq)
def au2:bi Z:=EIB [awz] AO 476 [0] Qr func167 dR fun x b=>asE x b
def cEnum (s:ax)(b:Str):Pg (eu×Bool):=.lt (dO (fun(x:eu)=>asE x b) s.Enums) fun a=> .br (decide (a < 0)) (.ret (eu.mk [] false [] [] [],false)) (.ix a s.Enums.length (.ret (s.Enums.getD a.toNat dR,true)))
def abW (s:ax)(a:Str):=(cEnum s a).val
theorem ato (s:ax)(a:Str):Is (cEnum s a):=
 is_lt fun c b=>is_brd iR (fun _=>is_ix aj (by have:=jy (fun(x:eu)=>asE x a) s.Enums;omega) (is_ret))
def al3:bi Z:=E0 [au2,awz] [] QB (shr ajE (aJ cd_Enum oK)) [] func364 2 (u2 cEnum) fun a=>ato a.1 a.2
def aDn (x:ny)(n:Int):Pg Bool:=.br (decide (x.From<=n)) (.ret (decide (n<=x.To))) (.ret false)
def al1 (x:ny)(n:Int):=(aDn x n).val
def ag9:bi Z:=QF [] [] (aCons (aAgg Q5) Dn) QG hh2 [0] func287 1 (u11 aDn)
def aDH:bi Z:=EIB [ag9] cd_LSpan 287 [0] QG func372 tJ fun x b=>al1 x b
def aD3:bi Z:=EAB [ag9,aDH] cd_LSpan 287 [0] QG func286 fun x b=>al1 x b
def NS (l:List ny)(n:Int):Pg Bool:=.ret (l.any fun(x:ny)=>al1 x n)
def xG (l:List ny)(n:Int):=(NS l n).val
def PS:bi Z:=E0 [aD3,ag9] [] (aCons (aLf cd_LSpan) hh5) hh2 [] func220 1 (u2 NS)
def fname (f:aN):Pg (List UInt8):=.ret f.Name
def aue (f:aN):=(fname f).val
def aa7:bi Z:=E0 [] [] (a1 (aAgg cd_AField)) Dp [] func277 1 fname
def aBr (f:Item):Pg (List UInt8):=.ret f.Name
def atP (f:Item):=(aBr f).val
def ac2:bi Z:=E0 [] [] (a1 (aAgg CG)) Dp [] func219 1 aBr
def aGT (x:aN)(a:List aN)(b:Int):Pg Bool:=.ix b a.length (.ret (aue (aN.mk x.Num x.Name x.Card x.Key x.bV x.Union x.dD x.Default.re x.Notes)== aue (aN.mk (a.getD b.toNat aB).Num (a.getD b.toNat aB).Name (a.getD b.toNat aB).Card (a.getD b.toNat aB).Key (a.getD b.toNat aB).bV (a.getD b.toNat aB).Union (a.getD b.toNat aB).dD (a.getD b.toNat aB).Default.re (a.getD b.toNat aB).Notes)))
def Zh (x:aN)(a:List aN)(b:Int):=(aGT x a b).val
def ahI:bi Z:=ZY [aa7] [] (aCons (aAgg cd_AField) aCw) (kC (bFn 277 []) (kC (bCells cd_LAField) QG)) hh2 [0,1,2] func363 1 (fun a=>aGT a.1.1 a.2.2.1 a.2.2.2) fun a=>0<=a.2.2.2/\a.2.2.2 < a.2.2.1.length
def aHI (l:List aN)(c:List aN)(d:Int):Pg Int:=aL l (.each false yc l aB (fun b a (e:Unit)=> .ix b l.length (.ix d c.length (.br (Zh (aN.mk a.Num a.Name a.Card a.Key a.bV a.Union a.dD a.Default.re a.Notes) c d) (.ret (.inr b)) (rl ())))) (fun b (e:Unit)=> .ret (-1)) ())
theorem ayO (l:List aN)(b:List aN)(a:Int)(h:0<=a/\a < b.length):Is (aHI l b a):=
 is_as fun _=>is_each (.inr aj) (fun d c _ _=>is_ix aj aj (is_ix aj aj (is_br iR iR))) (fun c _=>is_ret)
def ag1:bi Z:=E2B [ahI] [jS 2 (bD (fun d=>[s0 8]) iL)] aB4 (kC (bFn 277 []) (kC (bCells cd_LAField) QG)) jE [0,1,2] func475 1 (fun a=>aHI a.1.1 a.2.2.1 a.2.2.2) (fun a=>some (0<=a.2.2.2/\a.2.2.2 < a.2.2.1.length)) (fun a=>dO (fun(x:aN)=>(Zh x a.2.2.1 a.2.2.2)) a.1.1) fun a h=>⟨ayO a.1.1 a.2.2.1 a.2.2.2 h,(fun(l:List aN) b c _=>vV (fun(x:aN)=>(Zh x b c)) l 0) a.1.1 a.2.2.1 a.2.2.2 h⟩
def aHC (l:List aN)(a:List aN)(b:Int):Pg Bool:=.ix b a.length (.lt (dO (fun(x:aN)=>Zh x a b) l) fun c=> .ret (decide (0<=c)))
theorem aAf (l:List aN)(b:List aN)(a:Int)(h:0<=a/\a < b.length):Is (aHC l b a):=
 is_ix aj aj (is_lt fun d c=>is_ret)
def awJ:bi Z:=E2B [ahI,ag1] [] aB4 (kC (bFn 277 []) (kC (bCells cd_LAField) QG)) hh2 [0,1,2] func362 1 (fun a=>aHC a.1.1 a.2.2.1 a.2.2.2) (fun a=>some (0<=a.2.2.2/\a.2.2.2 < a.2.2.1.length)) (fun a=>a.1.1.any fun(x:aN)=>(Zh x a.2.2.1 a.2.2.2)) fun a h=>⟨aAf a.1.1 a.2.2.1 a.2.2.2 h,(fun(l:List aN) b c _=>JR _ l) a.1.1 a.2.2.1 a.2.2.2 h⟩
def aB9 (l:List aN)(i:Int):Pg Bool:=.ob ((0:Int)<=0/\0<=i/\i<=(↑l.length:Int)) (.ix i l.length (.ret ((List.take i.toNat l).any fun(x:aN)=>Zh x l i)))
def avN (l:List aN)(i:Int):=(aB9 l i).val
def axG:bi Z:=E1 [aa7,awJ,ahI] [] (aCons (aLf cd_LAField) (aCons (aLf cI) (a1 (aFn 277 [])))) hh2 [] func276 1 (fun a=>aB9 a.1 a.2.1) fun a=>0<=a.2.1/\a.2.1 < a.1.length
def aH2 (x:Item)(a:List Item)(b:Int):Pg Bool:=.ix b a.length (.ret (atP x==atP (a.getD b.toNat gQ)))
def Yx (x:Item)(a:List Item)(b:Int):=(aH2 x a b).val
def aio:bi Z:=ZY [ac2] [] (aCons (aAgg CG) aCw) (kC (bFn 219 []) (kC (bCells nD) QG)) hh2 [0,1,2] func285 1 (fun a=>aH2 a.1.1 a.2.2.1 a.2.2.2) fun a=>0<=a.2.2.2/\a.2.2.2 < a.2.2.1.length
def aHA (l:List Item)(b:List Item)(c:Int):Pg Int:=aL l (.each false yc l gQ (fun a d (e:Unit)=> .ix a l.length (.ix c b.length (.br (Yx d b c) (.ret (.inr a)) (rl ())))) (fun a (e:Unit)=> .ret (-1)) ())
theorem ay9 (l:List Item)(b:List Item)(a:Int)(h:0<=a/\a < b.length):Is (aHA l b a):=
 is_as fun _=>is_each (.inr aj) (fun d c _ _=>is_ix aj aj (is_ix aj aj (is_br iR iR))) (fun c _=>is_ret)
def aug:bi Z:=E2B [aio] [jS 2 (bD (fun d=>[s0 8]) iL)] aBZ (kC (bFn 219 []) (kC (bCells nD) QG)) jE [0,1,2] func371 1 (fun a=>aHA a.1.1 a.2.2.1 a.2.2.2) (fun a=>some (0<=a.2.2.2/\a.2.2.2 < a.2.2.1.length)) (fun a=>dO (fun(x:Item)=>(Yx x a.2.2.1 a.2.2.2)) a.1.1) fun a h=>⟨ay9 a.1.1 a.2.2.1 a.2.2.2 h,(fun(l:List Item) b c _=>vV (fun(x:Item)=>(Yx x b c)) l 0) a.1.1 a.2.2.1 a.2.2.2 h⟩
def aGX (l:List Item)(a:List Item)(b:Int):Pg Bool:=.ix b a.length (.lt (dO (fun(x:Item)=>Yx x a b) l) fun c=> .ret (decide (0<=c)))
theorem ayB (l:List Item)(b:List Item)(a:Int)(h:0<=a/\a < b.length):Is (aGX l b a):=
 is_ix aj aj (is_lt fun d c=>is_ret)
def aqT:bi Z:=E2B [aio,aug] [] aBZ (kC (bFn 219 []) (kC (bCells nD) QG)) hh2 [0,1,2] func284 1 (fun a=>aGX a.1.1 a.2.2.1 a.2.2.2) (fun a=>some (0<=a.2.2.2/\a.2.2.2 < a.2.2.1.length)) (fun a=>a.1.1.any fun(x:Item)=>(Yx x a.2.2.1 a.2.2.2)) fun a h=>⟨ayB a.1.1 a.2.2.1 a.2.2.2 h,(fun(l:List Item) b c _=>JR _ l) a.1.1 a.2.2.1 a.2.2.2 h⟩
def aBH (l:List Item)(i:Int):Pg Bool:=.ob ((0:Int)<=0/\0<=i/\i<=(↑l.length:Int)) (.ix i l.length (.ret ((List.take i.toNat l).any fun(x:Item)=>Yx x l i)))
def ag4 (l:List Item)(i:Int):=(aBH l i).val
def ayD:bi Z:=E1 [ac2,aqT,aio] [] (aCons (aLf nD) (aCons (aLf cI) (a1 (aFn 219 [])))) hh2 [] func218 1 (fun a=>aBH a.1 a.2.1) fun a=>0<=a.2.1/\a.2.1 < a.1.length
def abS (b:Int)(a:Int):Pg Bool:=.br (b !=5) (.ret (a==0)) (.br (decide (1<=a)) (.br (decide (a<=7)) (.ret (a !=6)) (.ret false)) (.ret false))
def BZ (a:Int)(b:Int):=(abS a b).val
def atG:bi Z:=E0 [] [] abf hh2 [] func278 1 (u2 abS)
def acK (s:ax)(f:aN):Pg Bool:=.lt (abW s f.bV.Name) fun a=> .lt (iD s f.bV.Name) fun b=> .br (decide (1<=f.bV.Kind)) (.br (decide (f.bV.Kind<=8)) (.ret (f.bV.Name==[])) (.br (f.bV.Kind==9) (.ret a.2) (.br (f.bV.Kind==10) (.br b.2 (.ret (f.Card !=3)) (.ret false)) (.ret false)))) (.br (f.bV.Kind==9) (.ret a.2) (.br (f.bV.Kind==10) (.br b.2 (.ret (f.Card !=3)) (.ret false)) (.ret false)))
def F6 (s:ax)(f:aN):=(acK s f).val
def awP:bi Z:=E0 [xn,al3] [] azr hh2 [] func279 1 (u2 acK)
def avI (v:ae):Pg Bool:=.br (v.Kind==0) (.br (v.Bits==0) (.br (v.Text==[]) (aL v.List (aL v.Pairs (aL v.Slots (aL v.Raws (.ret (aQ .i64 (aQ .i64 (aQ .i64 ((↑v.List.length:Int)+(↑v.Pairs.length:Int))+(↑v.Slots.length:Int))+(↑v.Raws.length:Int))== 0)))))) (.ret false)) (.ret false)) (.ret false)
def ahk (v:ae):=(avI v).val
def azG:bi Z:=E0 [] [] hh9 hh2 [] func367 1 avI
def aHZ (x:aN)(f:aN):Pg Bool:=.ret (x.Name==f.Union)
def avL (x:aN)(f:aN):=(aHZ x f).val
def ah1:bi Z:=QF [] [] (aCons (aAgg cd_AField) Dn) acH hh2 [0] func365 1 (u11 aHZ)
def aqR:bi Z:=EIB [ah1] cd_LAField 365 [0] acH func475 aB fun x b=>avL x b
def aET:bi Z:=EAB [ah1,ag1,aqR] cd_LAField 365 [0] acH func362 fun x b=>avL x b
def aHi (x:aN)(f:aN):Pg Bool:=.ret (x.Union==f.Union)
def ata (x:aN)(f:aN):=(aHi x f).val
def ag5:bi Z:=QF [] [] (aCons (aAgg cd_AField) Dn) acH hh2 [0] func366 1 (u11 aHi)
def aFs:bi Z:=EIB [ag5] cd_LAField 366 [0] acH func475 aB fun x b=>ata x b
def aFi:bi Z:=EAB [ag5,ag1,aqR,aFs] cd_LAField 366 [0] acH func362 fun x b=>ata x b
def cUnited (m:aG)(i:Int):Pg Bool:=.ix i m.Fields.length (.br ((m.Fields.getD i.toNat aB).Union==[]) (.ret true) (.br ((m.Fields.getD i.toNat aB).Card !=2) (.ret false) (.br (!D6 (m.Fields.getD i.toNat aB).Union) (.ret false) (.br (m.Fields.any fun(x:aN)=> avL x (aN.mk (m.Fields.getD i.toNat aB).Num (m.Fields.getD i.toNat aB).Name (m.Fields.getD i.toNat aB).Card (m.Fields.getD i.toNat aB).Key (m.Fields.getD i.toNat aB).bV (m.Fields.getD i.toNat aB).Union (m.Fields.getD i.toNat aB).dD (m.Fields.getD i.toNat aB).Default.re (m.Fields.getD i.toNat aB).Notes)) (.ret false) (.ob ((0:Int)<=0/\0<=i/\i<=(↑m.Fields.length:Int)) (.br (!(List.take i.toNat m.Fields).any fun(x:aN)=> ata x (aN.mk (m.Fields.getD i.toNat aB).Num (m.Fields.getD i.toNat aB).Name (m.Fields.getD i.toNat aB).Card (m.Fields.getD i.toNat aB).Key (m.Fields.getD i.toNat aB).bV (m.Fields.getD i.toNat aB).Union (m.Fields.getD i.toNat aB).dD (m.Fields.getD i.toNat aB).Default.re (m.Fields.getD i.toNat aB).Notes)) (.ret true) (.lt (aQ .i64 (i - 1)) fun a=> .ix a m.Fields.length (.ret ((m.Fields.getD a.toNat aB).Union==(m.Fields.getD i.toNat aB).Union)))))))))
def VO (m:aG)(i:Int):=(cUnited m i).val
theorem aiY (m:aG)(i:Int)(h:0<=i/\i < m.Fields.length/\m.Fields.length<=1048576):Is (cUnited m i):=
 by
 refine is_ix aj aj (is_br iR (fun _=>is_bne iR (fun _=>is_br iR (fun _=>is_br iR (fun _=>is_ob ⟨by omega,by omega,by omega⟩ (is_br iR (fun b=> ?_)))))));have a:0 < i:=by
  rcases Int.lt_or_le 0 i with a | a
  ·exact a
  ·rw[show i.toNat=0 by omega,Qds]at b;cases b
 grind [is_ix,is_ltw,is_ret]
def ap8:bi Z:=E1 [QU,awJ,aET,aFi,ah1,ag5] [] asD hh2 [] func280 1 (u2 cUnited) (fun a=>0<=a.2/\a.2 < a.1.Fields.length/\a.1.Fields.length<=1048576) fun a h=>aiY a.1 a.2 h
def aHs (x:Item)(f:aN):Pg Bool:=.ret (aQ .u64 x.Num==f.Default.Bits)
def atm (x:Item)(f:aN):=(aHs x f).val
def ajx:bi Z:=QF [] [] (aCons (aAgg CG) Dn) acH hh2 [0] func369 1 (u11 aHs)
def aDN:bi Z:=EIB [ajx] nD 369 [0] acH func371 gQ fun x b=>atm x b
def aDk:bi Z:=EAB [ajx,aug,aDN] nD 369 [0] acH func284 fun x b=>atm x b
def IU (s:ax)(f:aN):Pg Bool:=.br (!f.dD) (.ret (ahk f.Default.re)) (.br (f.Card !=2) (.ret false) (.br (f.Union !=[]) (.ret false) (.br (!NK f.bV.Kind f.Default.re) (.ret false) (.br ((jo f.Default.re).Bits !=f.Default.Bits) (.ret false) (.br (f.bV.Kind !=9) (.ret true) (.lt (abW s f.bV.Name) fun a=> .br a.2 (.ret (a.1.Items.any fun(x:Item)=>atm x (aN.mk f.Num f.Name f.Card f.Key f.bV f.Union f.dD f.Default.re f.Notes))) (.ret false)))))))
def EF (s:ax)(f:aN):=(IU s f).val
def abn:bi Z:=E0 [aqT,aDk,RU,al3,azG,acP,ajx] [] azr hh2 [] func281 1 (u2 IU)
def cNeeds (m:aG):Pg (List Str):=aL m.Fields (.each false mg m.Fields aB (fun c b (a:List Str)=> .ix c m.Fields.length (.br (b.Card==1) (.br (b.bV.Kind==10) (.ob (bG (a.length+1) 16) (rl (a++[b.bV.Name]))) (rl a)) (rl a))) (fun c (a:List Str)=> .ret a) [])
def SA (m:aG):=(cNeeds m).val
theorem ajf (m:aG)(h:m.Fields.length<=1048576):gU (cNeeds m) (fun r=>r.length<=m.Fields.length):=
 bZ <| bC (fun(c:Nat) a=>a.length<=c) jQ aj (fun c a e d=>have b:a.length<=c:=d;aH aj aj (bI (fun _=>bI (fun _=>ah ((room_of aj aj)) (af dm)) (fun _=>af dm)) (fun _=>af dm))) (fun a b=>have b:a.length<=m.Fields.length:=b;af aj)
def afa:bi Z:=E1 [] [jS 3 (bD (fun b=>[s0 9, .slot 3 false [some 9]]) ao6)] (a1 (aAgg cd_Message)) (R1 cd_Lstr) [] func210 1 cNeeds (fun a=>a.Fields.length<=1048576) fun a h=>(ajf a h).1
def aFj (n:Str)(s:ax)(a:List (Str×Bool)):Pg Bool:=.br (iD s n).2 (.ret !kX CU.z a n) (.ret false)
def PX (n:Str)(s:ax)(a:List (Str×Bool)):=(aFj n s a).val
def aj9:bi Z:=QF [xn] [] ayA (kC (bCells cd_Schema) (kC (aqY 2) aDe)) hh2 [0,1,2] func211 1 fun a=>aFj a.1.1 a.2.1 a.2.2.2
def aB_ (l:List Str)(s:ax)(b:List (Str×Bool)):Pg Int:=aL l (.each false yc l [] (fun a c (d:Unit)=> .ix a l.length (.br (PX c s b) (.ret (.inr a)) (rl ()))) (fun a (d:Unit)=> .ret (-1)) ())
theorem avg (l:List Str)(s:ax)(a:List (Str×Bool)):Is (aB_ l s a):=
 is_as fun _=>is_each (.inr aj) (fun c b _ _=>is_ix aj aj (is_br iR iR)) (fun b _=>is_ret)
def Rq:bi Z:=E2B [aj9] [jS 2 (bD (fun c=>[s0 8]) iL)] aCg (kC (bCells cd_Schema) (kC (aqY 2) aDe)) jE [0,1,2] func273 1 (fun a=>aB_ a.1.1 a.2.1 a.2.2.2) (fun a=>none) (fun a=>dO (fun(x:Str)=>PX x a.2.1 a.2.2.2) a.1.1) fun a h=>⟨avg a.1.1 a.2.1 a.2.2.2,(fun(l:List Str) s b=>vV (fun(x:Str)=>PX x s b) l 0) a.1.1 a.2.1 a.2.2.2⟩
def aHu (l:List Str)(s:ax)(a:List (Str×Bool)):Pg Bool:=.lt (dO (fun(x:Str)=>PX x s a) l) fun b=> .ret (decide (0<=b))
theorem ayu (l:List Str)(s:ax)(a:List (Str×Bool)):Is (aHu l s a):=
 is_lt fun c b=>is_ret
def ajk:bi Z:=E2B [aj9,aeO,Rq] [] aCg (kC (bCells cd_Schema) (kC (aqY 2) aDe)) hh2 [0,1,2] func207 1 (fun a=>aHu a.1.1 a.2.1 a.2.2.2) (fun a=>none) (fun a=>a.1.1.any fun(x:Str)=>PX x a.2.1 a.2.2.2) fun a h=>⟨ayu a.1.1 a.2.1 a.2.2.2,(fun(l:List Str) s b=>JR _ l) a.1.1 a.2.1 a.2.2.2⟩
theorem yU (s:ax)(a:Str):iD s a=bif decide (dO (fun(x:aG)=>x.Name==a) s.Messages < 0)then(aG.mk [] [] [] [] [],false)else(s.Messages.getD (dO (fun(x:aG)=>x.Name==a) s.Messages).toNat bT,true):=by
 unfold iD cMessage;simp only[aT,aF,di,ay];rfl
theorem Qs (s:ax)(a:Str)(h:∀m∈s.Messages,m.Fields.length<=1048576):(iD s a).1.Fields.length<=1048576:=by
 rw[yU];have c:=jy (fun(x:aG)=>x.Name==a) s.Messages;by_cases b:dO (fun(x:aG)=>x.Name==a) s.Messages < 0
 ·rw[wz b];exact Gw _
 ·rw[pO b];exact h _ (getD_mem aj)
def cFinite (s:ax):Pg (List (Str×Bool)):=.lt (aQ .i64 ((↑s.Messages.length:Int)+1)) fun f=> .cnt mg 0 f (fun g (b:List (Str×Bool))=> aL s.Messages (.each false mg s.Messages bT (fun c d (a:List (Str×Bool))=> .ix c s.Messages.length (.lt (iD s d.Name) fun e=> .ob (e.1.Fields.length<=1048576) (.br (!(SA e.1).any fun(x:Str)=>PX x s a) (rl (nS a d.Name true)) (rl a)))) (fun c (a:List (Str×Bool))=> rl a) b)) (fun g (b:List (Str×Bool))=> .ret b) []
def mf (s:ax):=(cFinite s).val
theorem ahL (s:ax)(h:s.Messages.length<=1048576/\∀m∈s.Messages,m.Fields.length<=1048576):Is (cFinite s):=
 is_ltw fun g e _=>is_cnt aj aj (fun b c _ _=>is_as fun _=>is_each (.inr aj) (fun f d _ _=>is_ix aj aj (is_lt fun i a=>is_ob (by rw[a];exact Qs s _ h.2) (is_br iR iR))) (fun d _=>is_ret)) (fun b c _ _=>is_ret)
def anX:bi Z:=E1 [amI,ajk,xn,afa,aj9] [jS 3 (bD (fun b=>[s0 14, .ada (pid (b 9))]) (aJ cI (l1 cd_Mstr_bool))),jS 5 (bD (fun b=>[s0 19, .ada (pid (b 9))]) (aJ cI (l1 cd_Mstr_bool)))] XI (R1 cd_Mstr_bool) [] func147 1 cFinite (fun a=>a.Messages.length<=1048576/\∀m∈a.Messages,m.Fields.length<=1048576) fun a h=>ahL a h
def aFJ (x:Str)(s:ax)(a:List (Str×Bool)):Pg Bool:=.br (iD s x).2 (.ret !kX CU.z a x) (.ret false)
def akK (x:Str)(s:ax)(a:List (Str×Bool)):=(aFJ x s a).val
def ahv:bi Z:=QF [xn] [] ayA (kC (bCells cd_Schema) auV) hh2 [0,1] func283 1 fun a=>aFJ a.1.1 a.2.1 a.2.2
def ahZ:bi Z:=EIB [ahv] cd_Lstr 283 [0,1] (kC (bCells cd_Schema) auV) func273 [] fun x b=>akK x b.1 b.2
def as2:bi Z:=EAB [aeO,Rq,ahZ,ahv] cd_Lstr 283 [0,1] (kC (bCells cd_Schema) auV) func207 fun x b=>akK x b.1 b.2
def abe (s:ax)(m:aG)(a:List (Str×Bool)):Pg Bool:=.ob (m.Fields.length<=1048576) (.ret ((SA m).any fun(x:Str)=>akK x s a))
def Az (s:ax)(m:aG)(a:List (Str×Bool)):=(abe s m a).val
def aoF:bi Z:=E1 [amI,ajk,as2,afa,ahv] [] aHK hh2 [] func216 1 (u3 abe) fun a=>a.2.1.Fields.length<=1048576
def unl (a:Bool)(e:Int)(x:ak):Pg ak:=.br (!a) (.ob (bG (x.out.length+1) 32) (.ret (ak.mk x.oZ x.num (x.out++[dw.mk x.oZ x.num e])))) (.ret x)
def dY (a:Bool)(e:Int)(x:ak):=(unl a e x).val
theorem aFT (a:Bool)(e:Int)(x:ak)(h:x.out.length<=68719476736):Is (unl a e x):=
 is_br (fun _=>is_ob ((room_of aj aj)) (is_ret)) iR
def U8:bi Z:=vP Z [] [] (jG (aCons (aPtr 0) (aCons (aLf cBool) hh5)) (bOwn 1 hh3 cd_check_finder)) (uN (iK (yA 0) (iK (nK JI) (OH (nK (lT _))))) (A_ (k:=1) nz (fun _=>rfl)) rfl) aAF [] func144 ntmps144 dM 0 rfl (fun a=>unl (a.1.2.1) (a.1.2.2) (a.2)) (fun a=>some ((a.2).out.length<=68719476736)) (fun a e _=>by kernel_rfl) (fun a=>dY (a.1.2.1) (a.1.2.2) (a.2)) (fun a h=>⟨aFT (a.1.2.1) (a.1.2.2) (a.2) h,rfl⟩)
theorem tN {a:Bool}{e:Int}{x v:ak}(h:v=dY a e x):v.out.length<=x.out.length+1:=by
 subst h;unfold dY unl;cases a
 ·simp[Pg.val]
 ·exact Nat.le_succ _
theorem aCt {c a:Bool}{e b:Int}{x v:ak}(h:v=dY c e (dY a b x)):v.out.length<=x.out.length+2:=by
 have d:=tN h;have f:=tN (rfl:dY a b x=_);omega
theorem Za (a:Bool)(e:Int)(x:ak):(dY a e x).out.length<=x.out.length+1:=tN rfl
def amq (l:List Note)(a:Int)(x:ak):Pg ak:=.ob (x.out.length<=68719476736) (.lt (abG l a) fun b=> .ret (dY (b==0) b x))
def jR (l:List Note)(a:Int)(x:ak):=(amq l a x).val
theorem ash (l:List Note)(a:Int)(x:ak)(h:x.out.length<=68719476736):Is (amq l a x):=
 is_ob aj (is_lt fun c b=>is_ret)
def Rl:bi Z:=vP Z [U8,asj] [] (jG (aCons (aPtr 0) atp) (bOwn 1 hh3 cd_check_finder)) (uN (iK (yA 0) (iK (nK Ql) (OH (nK (lT _))))) (A_ (k:=1) nz (fun _=>rfl)) rfl) aAF [] func215 ntmps215 dM 0 rfl (fun a=>amq (a.1.2.1) (a.1.2.2) (a.2)) (fun a=>some ((a.2).out.length<=68719476736)) (fun a e _=>by kernel_rfl) (fun a=>jR (a.1.2.1) (a.1.2.2) (a.2)) (fun a h=>⟨ash (a.1.2.1) (a.1.2.2) (a.2) h,rfl⟩)
theorem ahX {l:List Note}{a:Int}{x v:ak}(h:v=jR l a x):v.out.length<=x.out.length+1:=by
 subst h;exact Za _ _ _
theorem abL (l:List Note)(a:Int)(x:ak):(jR l a x).out.length<=x.out.length+1:=ahX rfl
def spans (l:List ny)(e:Int)(h:Int)(x:ak):Pg ak:=aL l (.each false mg l tJ (fun b c (a:ak)=> .ix b l.length (.lt (dY (decide ((l.getD (aQ .i64 (b - 1)).toNat tJ).To < c.From)) 11 (dY false 6 a)) fun i=> .lt (aQ .i64 (b - 1)) fun d=> .lt (dY true 11 (dY false 6 a)) fun j=> .lt (dY false 6 a) fun g=> .br (decide (e<=c.From)) (.br (decide (c.To<=h)) (.ob (a.out.length<=68719476736) (.lt (dY (decide (c.From<=c.To)) 6 a) fun f=> .br (b==0) (.ob (f.out.length<=68719476736) (rl (dY true 11 f))) (.ix d l.length (.ob (f.out.length<=68719476736) (rl (dY (decide ((l.getD d.toNat tJ).To < c.From)) 11 f)))))) (.ob (a.out.length<=68719476736) (.br (b==0) (.ob (g.out.length<=68719476736) (rl j)) (.ix d l.length (.ob (g.out.length<=68719476736) (rl i)))))) (.ob (a.out.length<=68719476736) (.br (b==0) (.ob (g.out.length<=68719476736) (rl j)) (.ix d l.length (.ob (g.out.length<=68719476736) (rl i))))))) (fun b (a:ak)=> .ret a) x)
def IC (l:List ny)(a:Int)(b:Int)(x:ak):=(spans l a b x).val
theorem aae (l:List ny)(b:Int)(c:Int)(x:ak)(h:x.out.length+2*l.length<=68719476736):gU (spans l b c x) (fun r=>r.out.length<=x.out.length+2*l.length):=
 bZ <| bC (fun(e:Nat) a=>a.out.length<=x.out.length+2*e) aj aj (fun e a w k=>have d:a.out.length<=x.out.length+2*e:=k;aH aj aj (au fun v g=>have n:=aCt g;qo fun u m _=>au fun s i=>have o:=aCt i;au fun t f=>have q:=tN f;aU (fun _=>aU (fun _=>ah (aj) (au fun y j=>have p:=tN j;bI (fun _=>ah (aj) (af E_)) (fun _=>aH aj aj (ah (aj) (af E_))))) (fun _=>ah (aj) (bI (fun _=>ah (aj) (af dm)) (fun _=>aH aj aj (ah (aj) (af dm)))))) (fun _=>ah (aj) (bI (fun _=>ah (aj) (af dm)) (fun _=>aH aj aj (ah (aj) (af dm))))))) (fun a d=>have d:a.out.length<=x.out.length+2*l.length:=d;af aj)
def akQ:bi Z:=vP Z [U8] [jS 1 (bD (fun b=>[s0 12, .cells (pid (b 0)) hh3]) adV)] (jG aCl (bOwn 1 hh3 cd_check_finder)) (uN (iK (yA 0) (iK (nK Qm) (iK (nK (lT _)) (OH (nK (lT _)))))) (A_ (k:=1) nz (fun _=>rfl)) rfl) aAF [] func214 ntmps214 dM 0 rfl (fun a=>spans (a.1.2.1) (a.1.2.2.1) (a.1.2.2.2) (a.2)) (fun a=>some ((a.2).out.length+2*(a.1.2.1).length<=68719476736)) (fun a e _=>by kernel_rfl) (fun a=>IC (a.1.2.1) (a.1.2.2.1) (a.1.2.2.2) (a.2)) (fun a h=>⟨(aae (a.1.2.1) (a.1.2.2.1) (a.1.2.2.2) (a.2) h).1,rfl⟩)
theorem alh {l:List ny}{a b:Int}{p v:ak}(c:p.out.length+2*l.length<=68719476736)(h:v=IC l a b p):v.out.length<=p.out.length+2*l.length:=by
 subst h;exact(aae l a b p c).2
def field (s:ax)(m:aG)(i:Int)(x:ak):Pg ak:=.ix i m.Fields.length (.cut (fun(b:ak)=> .cut (fun(d:ak)=> .cut (fun(j:ak)=> .cut (fun(n:ak)=> .cut (fun(c:ak)=> .cut (fun(a:ak)=> .cut (fun(o:ak)=> .cut (fun(k:ak)=> .cut (fun(l:ak)=> .ob (l.out.length<=68719476736) (.lt (dY (EF s (aN.mk (m.Fields.getD i.toNat aB).Num (m.Fields.getD i.toNat aB).Name (m.Fields.getD i.toNat aB).Card (m.Fields.getD i.toNat aB).Key (m.Fields.getD i.toNat aB).bV (m.Fields.getD i.toNat aB).Union (m.Fields.getD i.toNat aB).dD (m.Fields.getD i.toNat aB).Default.re (m.Fields.getD i.toNat aB).Notes)) 1 l) fun g=> .ob (g.out.length<=68719476736) (.lt (jR (m.Fields.getD i.toNat aB).Notes 2 g) fun h=> .ret (ak.mk h.oZ (-1) h.out)))) (.ob (0<=i/\i < (↑m.Fields.length:Int)/\m.Fields.length<=1048576) (.ob (k.out.length<=68719476736) (rl (dY (VO m i) 15 k))))) (.ob (o.out.length<=68719476736) (rl (dY (F6 s (aN.mk (m.Fields.getD i.toNat aB).Num (m.Fields.getD i.toNat aB).Name (m.Fields.getD i.toNat aB).Card (m.Fields.getD i.toNat aB).Key (m.Fields.getD i.toNat aB).bV (m.Fields.getD i.toNat aB).Union (m.Fields.getD i.toNat aB).dD (m.Fields.getD i.toNat aB).Default.re (m.Fields.getD i.toNat aB).Notes)) 12 o)))) (.lt (dY false 1 a) fun e=> .br (decide (1<=(m.Fields.getD i.toNat aB).Card)) (.br (decide ((m.Fields.getD i.toNat aB).Card<=5)) (.ob (a.out.length<=68719476736) (rl (dY (BZ (m.Fields.getD i.toNat aB).Card (m.Fields.getD i.toNat aB).Key) 1 a))) (.ob (a.out.length<=68719476736) (rl e))) (.ob (a.out.length<=68719476736) (rl e)))) (.br (!xG m.Reserved (m.Fields.getD i.toNat aB).Num) (.ob (c.out.length<=68719476736) (rl (dY (!m.Gone.any fun(x:Str)=>(m.Fields.getD i.toNat aB).Name==x) 21 c))) (.ob (c.out.length<=68719476736) (rl (dY false 21 c))))) (.ix i m.Fields.length (.ob (n.out.length<=68719476736) (rl (dY (!avN m.Fields i) 9 n))))) (.ob (j.out.length<=68719476736) (rl (dY (D6 (m.Fields.getD i.toNat aB).Name) 8 j)))) (.br (i==0) (.ob (d.out.length<=68719476736) (rl (dY true 11 d))) (.lt (aQ .i64 (i - 1)) fun f=> .ix f m.Fields.length (.ob (d.out.length<=68719476736) (rl (dY (decide ((m.Fields.getD f.toNat aB).Num < (m.Fields.getD i.toNat aB).Num)) 11 d)))))) (.br (decide (1<=(m.Fields.getD i.toNat aB).Num)) (.ob (b.out.length<=68719476736) (rl (dY (decide ((m.Fields.getD i.toNat aB).Num<=65535)) 6 b))) (.ob (b.out.length<=68719476736) (rl (dY false 6 b))))) (rl (ak.mk x.oZ (m.Fields.getD i.toNat aB).Num x.out)))
def BV (s:ax)(m:aG)(i:Int)(x:ak):=(field s m i x).val
theorem ZF (s:ax)(m:aG)(i:Int)(x:ak)(h:x.out.length+10<=68719476736/\0<=i/\i < m.Fields.length/\m.Fields.length<=1048576):gU (field s m i x) (fun r=>r.out.length<=x.out.length+10):=
 aH aj aj (bg (fun l=>l.out.length<=x.out.length+0) (af dm) (fun l j=>have j:l.out.length<=x.out.length+0:=j;bg (fun t=>t.out.length<=x.out.length+1) (aU (fun _=>ah (aj) (af E_)) (fun _=>ah (aj) (af E_))) (fun t k=>have k:t.out.length<=x.out.length+1:=k;bg (fun u=>u.out.length<=x.out.length+2) (bI (fun _=>ah (aj) (af E_)) (fun _=>qo fun I E _=>aH aj aj (ah (aj) (af E_)))) (fun u f=>have f:u.out.length<=x.out.length+2:=f;bg (fun p=>p.out.length<=x.out.length+3) (ah (aj) (af E_)) (fun p a=>have a:p.out.length<=x.out.length+3:=a;bg (fun o=>o.out.length<=x.out.length+4) (aH aj aj (ah (aj) (af E_))) (fun o e=>have e:o.out.length<=x.out.length+4:=e;bg (fun v=>v.out.length<=x.out.length+5) (bH (fun _=>ah (aj) (af E_)) (fun _=>ah (aj) (af E_))) (fun v d=>have d:v.out.length<=x.out.length+5:=d;bg (fun q=>q.out.length<=x.out.length+6) (au fun F y=>have G:=tN y;aU (fun _=>aU (fun _=>ah (aj) (af E_)) (fun _=>ah (aj) (af dm))) (fun _=>ah (aj) (af dm))) (fun q b=>have b:q.out.length<=x.out.length+6:=b;bg (fun n=>n.out.length<=x.out.length+7) (ah (aj) (af E_)) (fun n g=>have g:n.out.length<=x.out.length+7:=g;bg (fun w=>w.out.length<=x.out.length+8) (ah (aj) (ah (aj) (af E_))) (fun w c=>have c:w.out.length<=x.out.length+8:=c;ah (aj) (au fun D z=>have B:=tN z;ah (aj) (au fun C A=>have H:=ahX A;af dm))))))))))))
def axO:bi Z:=vP Z [alV,U8,Rl,QU,PS,axG,aa7,atG,awP,ap8,abn] [jS 100003 (bD (fun b=>[.cells (pid (b 0)) hh3]) hh4),jS 100004 (bD (fun b=>[.cells (pid (b 0)) hh3]) hh4),jS 100005 (bD (fun b=>[.cells (pid (b 0)) hh3]) hh4),jS 100006 (bD (fun b=>[.cells (pid (b 0)) hh3]) hh4),jS 100007 (bD (fun b=>[.cells (pid (b 0)) hh3]) hh4),jS 100008 (bD (fun b=>[.cells (pid (b 0)) hh3]) hh4),jS 100009 (bD (fun b=>[.cells (pid (b 0)) hh3]) hh4),jS 100010 (bD (fun b=>[.cells (pid (b 0)) hh3]) hh4),jS 100011 (bD (fun b=>[.cells (pid (b 0)) hh3]) hh4)] (jG (aCons (aPtr 0) (aCons (aAgg cd_Schema) asD)) (bOwn 1 hh3 cd_check_finder)) (uN (iK (yA 0) (iK (aco ac6) (iK (aco zH) (OH (nK (lT _)))))) (A_ (k:=1) nz (fun _=>rfl)) rfl) aAF [] func213 ntmps213 dM 0 rfl (fun a=>field (a.1.2.1) (a.1.2.2.1) (a.1.2.2.2) (a.2)) (fun a=>some ((a.2).out.length+10<=68719476736/\0<=(a.1.2.2.2)/\(a.1.2.2.2) < (a.1.2.2.1).Fields.length/\(a.1.2.2.1).Fields.length<=1048576)) (fun a e _=>by kernel_rfl) (fun a=>BV (a.1.2.1) (a.1.2.2.1) (a.1.2.2.2) (a.2)) (fun a h=>⟨(ZF (a.1.2.1) (a.1.2.2.1) (a.1.2.2.2) (a.2) h).1,rfl⟩)
theorem Ot {s:ax}{m:aG}{i:Int}{p v:ak}(a:p.out.length+10<=68719476736/\0<=i/\i < m.Fields.length/\m.Fields.length<=1048576)(h:v=BV s m i p):v.out.length<=p.out.length+10:=by
 subst h;exact(ZF s m i p a).2
end
end Go.Proofs.YtenjnekcoapajaaGreatDoor
