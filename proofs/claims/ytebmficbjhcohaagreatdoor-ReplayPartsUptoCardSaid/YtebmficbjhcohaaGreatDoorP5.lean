/- Codecs: plan.Fits, the parts. -/
import Derived.Test.YtebmficbjhcohaaGreatDoorP4
import Derived.WalkKit
import Derived.WalkSpells
import Derived.Lib.Overlaps
import Derived.Lib.AppendZeros
import Derived.Laws.Externs
import Derived.Shelf.RegionOpenPlain
import Derived.Lib.Walk
import Derived.Shelf.Spec.SlicesInsert
import Derived.Test.YtebmficbjhcohaaGreatDoorEng17
import Derived.Lib.SliceRun
namespace Go.Proofs.YtebmficbjhcohaaGreatDoor
noncomputable section
open Go.RowKit Go.Vc
open Tryz
set_option linter.unusedVariables false
set_option linter.unusedSimpArgs false
set_option maxRecDepth 100000
def clV (l:List af):Pg (List af):=.unk false (fun(b:Bool)=>b=true->l.length=0) (.ret []) (.ob (dE (0+l.length) 128) (.ret l))
theorem aCE (l:List af)(h:l.length<=1048576):Is (clV l):=
 wE (dI au au)
def aIk:aY Z:=E2 [] [] (a1 (bz iD)) (shr [.slot 0 false [some 61]] (l1 iD)) [] func362 1 clV (fun a=>some (a.length<=1048576)) (fun a=>a) fun a h=>⟨aCE a h,rfl⟩
theorem IZ {g:bD}{num:Int}(h:(lL g num).2=true):(lL g num).1∈g.Ops:=by
 have b:=(oM (fun(x:Op)=>ac7 x num) g.Ops).1;unfold lL pOp as4 alC at h⊢;simp only[dV,cO,lG,bu]at h⊢;by_cases a:iI (fun(x:Op)=>ac7 x num) g.Ops < 0
 ·rw[wO a]at h;cases h
 ·rw[sQ a];exact getD_mem au
theorem pU {A:Type}{P:A->Prop}{l m:List A}(h:∀z∈l,P z)(k:∀z∈m,P z):∀z∈l++m,P z:=fun z a=>(u_.1 a).elim (h z) (k z)
theorem kF {A:Type}{P:A->Prop}{a:A}(h:P a):∀z∈[a],P z:=fun z b=>by rw[BH.1 b];exact h
theorem ajh {A:Type}{P:A->Prop}{a b:A}(h:P a)(k:P b):∀z∈[a,b],P z:=fun z c=>by
 rcases CW.1 c with e | e
 ·rw[e];exact h
 ·rw[BH.1 e];exact k
theorem aj3 {v x:af}(h:x∈v.List):tV x < tV v:=by
 have:=aiR h;have:=iV v;omega
theorem abh {v:af}{x:Pair}(h:x∈v.Pairs):tV x.Key < tV v/\tV x.Val < tV v:=by
 have:=alh h;have:=iV v;omega
theorem ak7 {v:af}{x:Slot}(h:x∈v.Slots):tV x.Val < tV v:=by
 have:=abf h;have:=iV v;omega
theorem aG0 {v:af}(h:tV v<=1048576):v.bT.length<=1048576/\v.Slots.length<=1048576/\v.List.length<=1048576/\v.Pairs.length<=1048576:=by
 have e:=iV v;have a:=JR v.bT;have b:=PW v.Slots;have d:=Il v.List;have c:=Kw v.Pairs;omega
def aqu (v:af):Pg Bool:=.lt (dA .i64 ((↑v.Slots.length:Int)+(↑v.bT.length:Int))) fun a=> .br (v.Kind==7) (.br (v.Kind !=11) (.br (decide (0 < (↑v.List.length:Int))) (.ret true) (.br (v.Kind !=12) (.br (decide (0 < (↑v.Pairs.length:Int))) (.ret true) (.br (v.Kind !=10) (.br (decide (0 < a)) (aL v.Slots (aL v.bT (.ret true))) (.br (v.Bits !=0) (aL v.Slots (aL v.bT (.ret true))) (.br (v.Text !=[]) (aL v.Slots (aL v.bT (.ret false))) (aL v.Slots (aL v.bT (.ret false)))))) (.br (v.Bits !=0) (.ret true) (.br (v.Text !=[]) (.ret false) (.ret false))))) (.br (v.Kind !=10) (.br (decide (0 < a)) (aL v.Slots (aL v.bT (.ret true))) (.br (v.Bits !=0) (aL v.Slots (aL v.bT (.ret true))) (.br (v.Text !=[]) (aL v.Slots (aL v.bT (.ret false))) (aL v.Slots (aL v.bT (.ret false)))))) (.br (v.Bits !=0) (.ret true) (.br (v.Text !=[]) (.ret false) (.ret false)))))) (.br (v.Kind !=12) (.br (decide (0 < (↑v.Pairs.length:Int))) (.ret true) (.br (v.Kind !=10) (.br (decide (0 < a)) (aL v.Slots (aL v.bT (.ret true))) (.br (v.Bits !=0) (aL v.Slots (aL v.bT (.ret true))) (.br (v.Text !=[]) (aL v.Slots (aL v.bT (.ret false))) (aL v.Slots (aL v.bT (.ret false)))))) (.br (v.Bits !=0) (.ret true) (.br (v.Text !=[]) (.ret false) (.ret false))))) (.br (v.Kind !=10) (.br (decide (0 < a)) (aL v.Slots (aL v.bT (.ret true))) (.br (v.Bits !=0) (aL v.Slots (aL v.bT (.ret true))) (.br (v.Text !=[]) (aL v.Slots (aL v.bT (.ret false))) (aL v.Slots (aL v.bT (.ret false)))))) (.br (v.Bits !=0) (.ret true) (.br (v.Text !=[]) (.ret false) (.ret false)))))) (.br (v.Kind !=11) (.br (decide (0 < (↑v.List.length:Int))) (.ret true) (.br (v.Kind !=12) (.br (decide (0 < (↑v.Pairs.length:Int))) (.ret true) (.br (v.Kind !=10) (.br (decide (0 < a)) (aL v.Slots (aL v.bT (.ret true))) (.br (v.Bits !=0) (.br (v.Kind==8) (aL v.Slots (aL v.bT (.ret true))) (.br (decide (10<=v.Kind)) (.br (decide (v.Kind<=12)) (aL v.Slots (aL v.bT (.ret true))) (.br (v.Text !=[]) (aL v.Slots (aL v.bT (.ret !v.Kind==8))) (aL v.Slots (aL v.bT (.ret false))))) (.br (v.Text !=[]) (aL v.Slots (aL v.bT (.ret !v.Kind==8))) (aL v.Slots (aL v.bT (.ret false)))))) (.br (v.Text !=[]) (aL v.Slots (aL v.bT (.ret !v.Kind==8))) (aL v.Slots (aL v.bT (.ret false)))))) (.br (v.Bits !=0) (.br (v.Kind==8) (.ret true) (.br (decide (10<=v.Kind)) (.br (decide (v.Kind<=12)) (.ret true) (.br (v.Text !=[]) (.ret !v.Kind==8) (.ret false))) (.br (v.Text !=[]) (.ret !v.Kind==8) (.ret false)))) (.br (v.Text !=[]) (.ret !v.Kind==8) (.ret false))))) (.br (v.Kind !=10) (.br (decide (0 < a)) (aL v.Slots (aL v.bT (.ret true))) (.br (v.Bits !=0) (.br (v.Kind==8) (aL v.Slots (aL v.bT (.ret true))) (.br (decide (10<=v.Kind)) (.br (decide (v.Kind<=12)) (aL v.Slots (aL v.bT (.ret true))) (.br (v.Text !=[]) (aL v.Slots (aL v.bT (.ret !v.Kind==8))) (aL v.Slots (aL v.bT (.ret false))))) (.br (v.Text !=[]) (aL v.Slots (aL v.bT (.ret !v.Kind==8))) (aL v.Slots (aL v.bT (.ret false)))))) (.br (v.Text !=[]) (aL v.Slots (aL v.bT (.ret !v.Kind==8))) (aL v.Slots (aL v.bT (.ret false)))))) (.br (v.Bits !=0) (.br (v.Kind==8) (.ret true) (.br (decide (10<=v.Kind)) (.br (decide (v.Kind<=12)) (.ret true) (.br (v.Text !=[]) (.ret !v.Kind==8) (.ret false))) (.br (v.Text !=[]) (.ret !v.Kind==8) (.ret false)))) (.br (v.Text !=[]) (.ret !v.Kind==8) (.ret false)))))) (.br (v.Kind !=12) (.br (decide (0 < (↑v.Pairs.length:Int))) (.ret true) (.br (v.Kind !=10) (.br (decide (0 < a)) (aL v.Slots (aL v.bT (.ret true))) (.br (v.Bits !=0) (.br (v.Kind==8) (aL v.Slots (aL v.bT (.ret true))) (.br (decide (10<=v.Kind)) (.br (decide (v.Kind<=12)) (aL v.Slots (aL v.bT (.ret true))) (.br (v.Text !=[]) (aL v.Slots (aL v.bT (.ret !v.Kind==8))) (aL v.Slots (aL v.bT (.ret false))))) (.br (v.Text !=[]) (aL v.Slots (aL v.bT (.ret !v.Kind==8))) (aL v.Slots (aL v.bT (.ret false)))))) (.br (v.Text !=[]) (aL v.Slots (aL v.bT (.ret !v.Kind==8))) (aL v.Slots (aL v.bT (.ret false)))))) (.br (v.Bits !=0) (.br (v.Kind==8) (.ret true) (.br (decide (10<=v.Kind)) (.br (decide (v.Kind<=12)) (.ret true) (.br (v.Text !=[]) (.ret !v.Kind==8) (.ret false))) (.br (v.Text !=[]) (.ret !v.Kind==8) (.ret false)))) (.br (v.Text !=[]) (.ret !v.Kind==8) (.ret false))))) (.br (v.Kind !=10) (.br (decide (0 < a)) (aL v.Slots (aL v.bT (.ret true))) (.br (v.Bits !=0) (.br (v.Kind==8) (aL v.Slots (aL v.bT (.ret true))) (.br (decide (10<=v.Kind)) (.br (decide (v.Kind<=12)) (aL v.Slots (aL v.bT (.ret true))) (.br (v.Text !=[]) (aL v.Slots (aL v.bT (.ret !v.Kind==8))) (aL v.Slots (aL v.bT (.ret false))))) (.br (v.Text !=[]) (aL v.Slots (aL v.bT (.ret !v.Kind==8))) (aL v.Slots (aL v.bT (.ret false)))))) (.br (v.Text !=[]) (aL v.Slots (aL v.bT (.ret !v.Kind==8))) (aL v.Slots (aL v.bT (.ret false)))))) (.br (v.Bits !=0) (.br (v.Kind==8) (.ret true) (.br (decide (10<=v.Kind)) (.br (decide (v.Kind<=12)) (.ret true) (.br (v.Text !=[]) (.ret !v.Kind==8) (.ret false))) (.br (v.Text !=[]) (.ret !v.Kind==8) (.ret false)))) (.br (v.Text !=[]) (.ret !v.Kind==8) (.ret false))))))
def aaN (v:af):=(aqu v).val
def Rz:aY Z:=E0 [] [] (a1 (aI aK)) (R1 aG) [] func252 1 aqu
def aIc (x:az)(a:Int)(b:Int)(v:af):Pg Int:=.br (v.Kind !=a) (.ret 12) (.br (aaN v.re) (.ret 12) (.br (decide (4096 < (↑(List.length v.Text):Int))) (.ret 3) (.lt (akW x.p b v.Bits) fun c=> .lt (TU a v.re) fun d=> .br (a==7) (.ob (List.length v.Text<=9223372036854775700) (.br (!EK v.Text) (.ret 7) (.br (!d) (.ret 12) (.br (a==9) (.br (!c) (.ret 16) (.ret 0)) (.ret 0))))) (.br (!d) (.ret 12) (.br (a==9) (.br (!c) (.ret 16) (.ret 0)) (.ret 0))))))
def az_ (x:az)(b:Int)(a:Int)(v:af):=(aIc x b a v).val
def aun:aY Z:=E1 [Dz,Rz,QQ,agK] [] (ak (aI iY) (ak (bz cI) (ak (bz cI) (a1 (aI aK))))) (R1 cI) [] func447 1 (u4 aIc) fun a=>a.2.2.2.Text.length<=1048576
def aGS (x:az)(g:bD)(f:Raw):Pg Int:=.lt (lL g f.Num) fun a=> .cut (fun(b:Bool)=> .cut (fun(c:Bool)=> .br c (.ret 1) (.br (decide (f.eY<=2)) (.br (f.Data !=[]) (.ret 1) (.br (!decide (f.eY<=2)) (.br (f.Bits !=0) (.ret 1) (.br a.2 (.br (!b) (.ret 1) (.br (f.eY==3) (.br (decide (4096 < (↑(List.length f.Data):Int))) (.ret 3) (.br (decide (65536 < (↑(List.length f.Data):Int))) (.ret 3) (.ret 0))) (.br (decide (65536 < (↑(List.length f.Data):Int))) (.ret 3) (.ret 0)))) (.br (f.eY==3) (.br (decide (4096 < (↑(List.length f.Data):Int))) (.ret 3) (.br (decide (65536 < (↑(List.length f.Data):Int))) (.ret 3) (.ret 0))) (.br (decide (65536 < (↑(List.length f.Data):Int))) (.ret 3) (.ret 0))))) (.br a.2 (.br (!b) (.ret 1) (.br (f.eY==3) (.br (decide (4096 < (↑(List.length f.Data):Int))) (.ret 3) (.br (decide (65536 < (↑(List.length f.Data):Int))) (.ret 3) (.ret 0))) (.br (decide (65536 < (↑(List.length f.Data):Int))) (.ret 3) (.ret 0)))) (.br (f.eY==3) (.br (decide (4096 < (↑(List.length f.Data):Int))) (.ret 3) (.br (decide (65536 < (↑(List.length f.Data):Int))) (.ret 3) (.ret 0))) (.br (decide (65536 < (↑(List.length f.Data):Int))) (.ret 3) (.ret 0)))))) (.br (!decide (f.eY<=2)) (.br (f.Bits !=0) (.ret 1) (.br a.2 (.br (!b) (.ret 1) (.br (f.eY==3) (.br (decide (4096 < (↑(List.length f.Data):Int))) (.ret 3) (.br (decide (65536 < (↑(List.length f.Data):Int))) (.ret 3) (.ret 0))) (.br (decide (65536 < (↑(List.length f.Data):Int))) (.ret 3) (.ret 0)))) (.br (f.eY==3) (.br (decide (4096 < (↑(List.length f.Data):Int))) (.ret 3) (.br (decide (65536 < (↑(List.length f.Data):Int))) (.ret 3) (.ret 0))) (.br (decide (65536 < (↑(List.length f.Data):Int))) (.ret 3) (.ret 0))))) (.br a.2 (.br (!b) (.ret 1) (.br (f.eY==3) (.br (decide (4096 < (↑(List.length f.Data):Int))) (.ret 3) (.br (decide (65536 < (↑(List.length f.Data):Int))) (.ret 3) (.ret 0))) (.br (decide (65536 < (↑(List.length f.Data):Int))) (.ret 3) (.ret 0)))) (.br (f.eY==3) (.br (decide (4096 < (↑(List.length f.Data):Int))) (.ret 3) (.br (decide (65536 < (↑(List.length f.Data):Int))) (.ret 3) (.ret 0))) (.br (decide (65536 < (↑(List.length f.Data):Int))) (.ret 3) (.ret 0))))))) (.br (decide (f.Num < 1)) (rl true) (.br (decide (65535 < f.Num)) (rl true) (.br (decide (f.eY < 0)) (rl true) (rl (decide (6 < f.eY))))))) (.br (a.1.Kind==9) (.br (a.1.Card !=5) (.br (f.eY==0) (.br (decide (f.Bits<=2147483647)) (.ret (.inl !akW x.p a.1.Target f.Bits)) (rl false)) (rl false)) (rl false)) (rl false))
def aGk (x:az)(g:bD)(f:Raw):=(aGS x g f).val
def aEN:aY Z:=E0 [OT,agK] [jS 100004 (bJ (fun b=>[s0 10]) (l1 aG)),jS 100005 (bJ (fun b=>[s0 49]) (l1 aG))] (ak (aI iY) (ak (aI iq) (a1 (aI mQ)))) (R1 cI) [] func256 1 (u3 aGS)
def aHy (y:Slot)(o:Op):Pg Bool:=.ret (y.Num==o.Num)
def arx (y:Slot)(o:Op):=(aHy y o).val
def agR:aY Z:=yu [] [] (ak (aI kY) (a1 (iE 0))) (b1 (aS iU)) (R1 aG) [0] func358 1 (u11 aHy)
def aqb:aY Z:=Oc [agR] bH 358 [0] (b1 (aS iU)) func360 bP fun x b=>arx x b
def apL:aY Z:=EAB [agR,aqb] bH 358 [0] (b1 (aS iU)) func254 fun x b=>arx x b
def aGT (y:Slot)(o:Op):Pg Bool:=.ret (y.Num==o.Num)
def atd (y:Slot)(o:Op):=(aGT y o).val
def ahd:aY Z:=yu [] [] (ak (aI kY) (a1 (iE 0))) (b1 (aS iU)) (R1 aG) [0] func255 1 (u11 aGT)
def aB9:aY Z:=Oc [ahd] bH 255 [0] (b1 (aS iU)) func360 bP fun x b=>atd x b
def aso:aY Z:=EAB [ahd,aqb,aB9] bH 255 [0] (b1 (aS iU)) func254 fun x b=>atd x b
def aIT (q:Pair)(p:Pair):Pg Bool:=.ob (iy q.Key.re.Kind=true/\iy p.Key.re.Kind=true) (.ret (alm q.Key.re p.Key.re))
def aIB (q:Pair)(p:Pair):=(aIT q p).val
def ah0:aY Z:=Df [aee] [] (ak (aI qF) (a1 (iE 0))) (b1 (aS qF)) (R1 aG) [0] func449 1 (u11 aIT) fun a=>iy a.1.1.Key.Kind=true/\iy a.2.Key.Kind=true
def aCX (l:List Pair)(p:Pair):Pg Int:=aL l (.each false um l fO (fun b a (c:Unit)=> .ix b l.length (.ob (iy (Pair.mk a.Key.re a.Val.re).Key.Kind=true/\iy (Pair.mk p.Key.re p.Val.re).Key.Kind=true) (.br (aIB (Pair.mk a.Key.re a.Val.re) (Pair.mk p.Key.re p.Val.re)) (.ret (.inr b)) (rl ())))) (fun b (c:Unit)=> .ret (-1)) ())
def aHI (l:List Pair)(p:Pair):=(aCX l p).val
theorem awl (l:List Pair)(p:Pair)(h:(∀x∈l,iy x.Key.Kind=true)/\iy p.Key.Kind=true):Is (aCX l p):=
 eH fun _=>fU (.inr au) (fun b a _ _=>bW au au (aW (by simp only[af.dO];exact⟨h.1 (l.getD b fO) (getD_mem au),h.2⟩) (aT iR iR))) (fun a _=>aO)
def aFu:aY Z:=Df [ah0] [jS 2 (bJ (fun b=>[s0 8]) (l1 cI))] (ak (bz d_) (a1 (jP 449 [0]))) (b1 (aS qF)) (R1 cI) [0] func460 1 (u11 aCX) (fun a=>(∀x∈a.1.1,iy x.Key.Kind=true)/\iy a.2.Key.Kind=true) fun a h=>awl a.1.1 a.2 h
def aG2 (l:List Pair)(p:Pair):Pg Bool:=.ob ((∀(x:Pair),x∈l->iy x.Key.Kind=true)/\iy (Pair.mk p.Key.re p.Val.re).Key.Kind=true) (.lt (aHI l (Pair.mk p.Key.re p.Val.re)) fun a=> .ret (decide (0<=a)))
def aIV (l:List Pair)(p:Pair):=(aG2 l p).val
def aCn:aY Z:=Df [ah0,aFu] [] (ak (bz d_) (a1 (jP 449 [0]))) (b1 (aS qF)) (R1 aG) [0] func448 1 (u11 aG2) fun a=>(∀x∈a.1.1,iy x.Key.Kind=true)/\iy a.2.Key.Kind=true
def ar0 (g:az->Op->af->Int->Int)(nD:az->Op->af->Int->Prop)(e:az->Op->List Pair->Int->Int)(jm:az->Op->List Pair->Int->Prop)(d:az->Op->af->Int->Int)(lT:az->Op->af->Int->Prop)(f:az->bD->List Slot->Int->Int->Int)(oH:az->bD->List Slot->Int->Int->Prop)(c:az->bD->af->Int->Int)(jo:az->bD->af->Int->Prop)(x:az)(o:Op)(v:af)(a:Int):Pg Int:=.br (o.Kind==10) (.ix o.Target x.p.bg.length (.lt (dA .i64 (a+1)) fun b=> .ob (jo x (x.p.bg.getD o.Target.toNat bV) v.re b) (.ret (c x (x.p.bg.getD o.Target.toNat bV) v.re b)))) (.ob (List.length v.re.Text<=1048576) (.ret (az_ x o.Kind o.Target v.re)))
def VB (d:az->Op->af->Int->Int)(nD:az->Op->af->Int->Prop)(i:az->Op->List Pair->Int->Int)(jm:az->Op->List Pair->Int->Prop)(g:az->Op->af->Int->Int)(lT:az->Op->af->Int->Prop)(j:az->bD->List Slot->Int->Int->Int)(oH:az->bD->List Slot->Int->Int->Prop)(h:az->bD->af->Int->Int)(jo:az->bD->af->Int->Prop)(x:az)(o:Op)(l:List Pair)(b:Int):Pg Int:=aL l (.each false um l fO (fun c a (f:Unit)=> .ix c l.length (.ob (List.length a.Key.re.Text<=1048576) (.lt (az_ x o.Key (-1) a.Key.re) fun e=> .br (e !=0) (.ret (.inr e)) (.ob ((0:Int)<=0/\0<=c/\c<=(↑l.length:Int)) (.ob ((∀(x:Pair),x∈List.take c.toNat l->iy x.Key.Kind=true)/\iy (Pair.mk a.Key.re a.Val.re).Key.Kind=true) (.br (aIV (List.take c.toNat l) (Pair.mk a.Key.re a.Val.re)) (.ret (.inr 9)) (.ob (nD x o a.Val.re b) (.br (d x o a.Val.re b !=0) (.ret (.inr (d x o a.Val.re b))) (rl ()))))))))) (fun c (f:Unit)=> .ret 0) ())
def wQ (b:az->Op->af->Int->Int)(nD:az->Op->af->Int->Prop)(g:az->Op->List Pair->Int->Int)(jm:az->Op->List Pair->Int->Prop)(h:az->Op->af->Int->Int)(lT:az->Op->af->Int->Prop)(j:az->bD->List Slot->Int->Int->Int)(oH:az->bD->List Slot->Int->Int->Prop)(i:az->bD->af->Int->Int)(jo:az->bD->af->Int->Prop)(x:az)(o:Op)(v:af)(a:Int):Pg Int:=.lt (aaN v.re) fun d=> .br (o.Card==4) (.br (v.Kind !=11) (.ret 12) (.br d (.ret 12) (aL v.List (.each false um v.List fJ (fun e c (f:Unit)=> .ix e v.List.length (.ob (nD x o c.re a) (.br (b x o c.re a !=0) (.ret (.inr (b x o c.re a))) (rl ())))) (fun e (f:Unit)=> .ret 0) ())))) (.br (o.Card==5) (.br (v.Kind !=12) (.ret 12) (.br d (.ret 12) (.ob (jm x o v.Pairs a) (.ret (g x o v.Pairs a))))) (.ob (nD x o v.re a) (.ret (b x o v.re a))))
def atQ (m:az->Op->af->Int->Int)(nD:az->Op->af->Int->Prop)(j:az->Op->List Pair->Int->Int)(jm:az->Op->List Pair->Int->Prop)(d:az->Op->af->Int->Int)(lT:az->Op->af->Int->Prop)(k:az->bD->List Slot->Int->Int->Int)(oH:az->bD->List Slot->Int->Int->Prop)(h:az->bD->af->Int->Int)(jo:az->bD->af->Int->Prop)(x:az)(g:bD)(l:List Slot)(i:Int)(a:Int):Pg Int:=.ix i l.length (.lt (lL g (l.getD i.toNat bP).Num) fun b=> .br (!b.2) (.ret 8) (.ob ((0:Int)<=0/\0<=i/\i<=(↑l.length:Int)) (.br ((List.take i.toNat l).any fun(x:Slot)=>arx x b.1) (.ret 9) (.ob ((0:Int)<=0/\0<=i/\i<=(↑l.length:Int)) (.as ((List.take i.toNat l).length<=9223372036854775807) (.each false um (List.take i.toNat l) bP (fun c f (e:Unit)=> .ix c (List.take i.toNat l).length (.br (b.1.Union !=(-1)) (.br ((lL g f.Num).1.Union==b.1.Union) (.ret (.inr 15)) (rl ())) (rl ()))) (fun c (e:Unit)=> .ix i l.length (.ob (lT x b.1 (l.getD i.toNat bP).Val.re a) (.ret (d x b.1 (l.getD i.toNat bP).Val.re a)))) ()))))))
def UR (q:az->Op->af->Int->Int)(nD:az->Op->af->Int->Prop)(p:az->Op->List Pair->Int->Int)(jm:az->Op->List Pair->Int->Prop)(m:az->Op->af->Int->Int)(lT:az->Op->af->Int->Prop)(f:az->bD->List Slot->Int->Int->Int)(oH:az->bD->List Slot->Int->Int->Prop)(n:az->bD->af->Int->Int)(jo:az->bD->af->Int->Prop)(x:az)(g:bD)(v:af)(a:Int):Pg Int:=.cut (fun(o:Unit)=> .cut (fun(s:Unit)=> .cut (fun(r:Unit)=> aL v.bT (.each false um v.bT nH (fun i d (l:Unit)=> .ix i v.bT.length (.lt (aGk x g d) fun c=> .br (c !=0) (.ret (.inr c)) (rl ()))) (fun i (l:Unit)=> .ret 0) ())) (aL g.Ops (.each false um g.Ops Ak (fun e h (k:Unit)=> .ix e g.Ops.length (.br (h.Card==1) (.br (!v.Slots.any fun(x:Slot)=>atd x h) (.ret (.inr (.inr 14))) (rl ())) (rl ()))) (fun e (k:Unit)=> rl ()) ()))) (aL v.Slots (.cnt um 0 (↑v.Slots.length:Int) (fun b (j:Unit)=> .ob (oH x g v.Slots b a) (.br (f x g v.Slots b a !=0) (.ret (.inr (.inr (f x g v.Slots b a)))) (rl ()))) (fun b (j:Unit)=> rl ()) ()))) (.br (v.Kind !=10) (.ret (.inr 12)) (.br (aaN v.re) (.ret (.inr 12)) (.br (decide (16 < a)) (.ret (.inr 17)) (rl ()))))
def nD (b:Nat)(x:az)(o:Op)(v:af)(a:Int):Prop:=dR x.p/\TJ x.p o/\gV v/\4*tV v+1<=b
def jm (a:Nat)(x:az)(o:Op)(l:List Pair)(b:Int):Prop:=dR x.p/\TJ x.p o/\(nV l/\∀p∈l,gV p.Val/\p.Key.Text.length<=1048576)/\1<=a/\∀p∈l,4*tV p.Val+2<=a
def lT (b:Nat)(x:az)(o:Op)(v:af)(a:Int):Prop:=dR x.p/\TJ x.p o/\gV v/\4*tV v+2<=b
def oH (b:Nat)(x:az)(g:bD)(l:List Slot)(i:Int)(a:Int):Prop:=dR x.p/\g∈x.p.bg/\l.length<=1048576/\(0<=i/\i < l.length)/\gV (l.getD i.toNat bP).Val/\4*tV (l.getD i.toNat bP).Val+3<=b
def jo (b:Nat)(x:az)(g:bD)(v:af)(a:Int):Prop:=dR x.p/\g∈x.p.bg/\gV v/\4*tV v<=b
def sV:Nat->(az->Op->af->Int->Int)×(az->Op->(List Pair)->Int->Int)×(az->Op->af->Int->Int)×(az->bD->(List Slot)->Int->Int->Int)×(az->bD->af->Int->Int)
 | 0=>(fun _ _ _ _=>default,fun _ _ _ _=>default,fun _ _ _ _=>default,fun _ _ _ _ _=>default,fun _ _ _ _=>default)
 | a+1=>(fun x o v b=>(ar0 ((sV a).1) (nD a) ((sV a).2.1) (jm a) ((sV a).2.2.1) (lT a) ((sV a).2.2.2.1) (oH a) ((sV a).2.2.2.2) (jo a) x o v b).val,fun x o l b=>(VB ((sV a).1) (nD a) ((sV a).2.1) (jm a) ((sV a).2.2.1) (lT a) ((sV a).2.2.2.1) (oH a) ((sV a).2.2.2.2) (jo a) x o l b).val,fun x o v b=>(wQ ((sV a).1) (nD a) ((sV a).2.1) (jm a) ((sV a).2.2.1) (lT a) ((sV a).2.2.2.1) (oH a) ((sV a).2.2.2.2) (jo a) x o v b).val,fun x g l i b=>(atQ ((sV a).1) (nD a) ((sV a).2.1) (jm a) ((sV a).2.2.1) (lT a) ((sV a).2.2.2.1) (oH a) ((sV a).2.2.2.2) (jo a) x g l i b).val,fun x g v b=>(UR ((sV a).1) (nD a) ((sV a).2.1) (jm a) ((sV a).2.2.1) (lT a) ((sV a).2.2.2.1) (oH a) ((sV a).2.2.2.2) (jo a) x g v b).val)
def Yt (x:az)(g:bD)(v:af)(a:Int):Int:=(sV (4*tV v)).2.2.2.2 x g v a
abbrev Zi (a:Nat):=ar0 ((sV a).1) (nD a) ((sV a).2.1) (jm a) ((sV a).2.2.1) (lT a) ((sV a).2.2.2.1) (oH a) ((sV a).2.2.2.2) (jo a)
theorem aqx (e:Nat)(x:az)(o:Op)(v:af)(a:Int)(h:nD (e+1) x o v a):Is (Zi e x o v a):=
 by
 obtain⟨f,b,d,l⟩:=h;have k:=iV v;have i:=d.2;unfold Zi ar0;simp only[af.dO];exact dM (fun c=>bW (b.1 c).1 (b.1 c).2 (dC fun j g=>aW ⟨f,getD_mem (by have:=b.1 c;omega),d,by omega⟩ aO)) (fun _=>aW au aO)
abbrev Gw (a:Nat):=VB ((sV a).1) (nD a) ((sV a).2.1) (jm a) ((sV a).2.2.1) (lT a) ((sV a).2.2.2.1) (oH a) ((sV a).2.2.2.2) (jo a)
theorem acU (f:Nat)(x:az)(o:Op)(l:List Pair)(a:Int)(h:jm (f+1) x o l a):Is (Gw f x o l a):=
 by
 obtain⟨q,n,⟨b,p⟩,u,i⟩:=h;unfold Gw VB;simp only[af.dO];refine eH fun _=>fU (.inr (by have:=b.1;omega)) (fun m j e _=> ?_) (fun j _=>aO);have c:=getD_mem (d:=fO) e;obtain⟨k,g⟩:=p _ c;exact bW au au (aW g (dC fun t s=>eX iR (fun _=>aW au (aW ⟨fun x r=>b.2 x (List.mem_of_mem_take r),b.2 (l.getD m fO) c⟩ (aT iR (fun _=>aW ⟨q,n,k,by have:=i _ c;omega⟩ (eX iR iR)))))))
abbrev TA (a:Nat):=wQ ((sV a).1) (nD a) ((sV a).2.1) (jm a) ((sV a).2.2.1) (lT a) ((sV a).2.2.2.1) (oH a) ((sV a).2.2.2.2) (jo a)
theorem am_ (k:Nat)(x:az)(o:Op)(v:af)(a:Int)(h:lT (k+1) x o v a):Is (TA k x o v a):=
 by
 obtain⟨g,e,b,w⟩:=h;have l:=qg b;have u:=b.2;unfold TA wQ;simp only[af.dO];refine dC fun s r=>dM (fun _=>eX iR (fun _=>aT iR (fun _=>eH fun _=>fU (.inr au) (fun t n i _=>bW au au (aW ?_ (eX iR iR))) (fun n _=>aO)))) (fun _=>dM (fun _=>eX iR (fun _=>aT iR (fun _=>aW ?_ aO))) (fun _=>aW ⟨g,e,b,by omega⟩ aO))
 ·obtain⟨c,j⟩:=Jw b (getD_mem (d:=fJ) i);exact⟨g,e,c,by omega⟩
 ·refine⟨g,e,⟨l.2.2.2,fun p f=> ?_⟩,by have:=kZ v;omega,fun p f=> ?_⟩
  ·obtain⟨c,j,m,q⟩:=JY b f;exact⟨c,by have:=iV p.Key;omega⟩
  ·obtain⟨c,j,m,q⟩:=JY b f;omega
abbrev aa6 (a:Nat):=atQ ((sV a).1) (nD a) ((sV a).2.1) (jm a) ((sV a).2.2.1) (lT a) ((sV a).2.2.2.1) (oH a) ((sV a).2.2.2.2) (jo a)
theorem aqJ (e:Nat)(x:az)(g:bD)(l:List Slot)(i:Int)(a:Int)(h:oH (e+1) x g l i a):Is (aa6 e x g l i a):=
 by
 obtain⟨f,k,n,b,m,p⟩:=h;unfold aa6 atQ;simp only[af.dO];refine bW b.1 b.2 (dC fun o d=>aT iR (fun c=>aW au (aT iR (fun _=>aW au (eH fun _=>fU (.inr qbi) (fun q j _ _=>bW au au (eX (fun _=>dM iR iR) iR)) (fun j _=>bW b.1 b.2 (aW ⟨f,?_,m,by omega⟩ aO)))))));rw[d]at c⊢;exact(f g k).2 _ (IZ (by simpa using c))
abbrev G6 (a:Nat):=UR ((sV a).1) (nD a) ((sV a).2.1) (jm a) ((sV a).2.2.1) (lT a) ((sV a).2.2.2.1) (oH a) ((sV a).2.2.2.2) (jo a)
theorem ad5 (f:Nat)(x:az)(g:bD)(v:af)(a:Int)(h:jo (f+1) x g v a):Is (G6 f x g v a):=
 by
 obtain⟨k,j,m,E⟩:=h;have n:=qg m;have s:=k g j;unfold G6 UR;simp only[af.dO];refine kL (eX iR (fun _=>aT iR (fun _=>cZ iR iR))) (fun B t=>kL (eH fun _=>Vz au au (fun e o b c=>aW ?_ (eX iR iR)) (fun e o _ _=>aO)) (fun G z=>kL (eH fun _=>fU (.inr (by have:=s.1;omega)) (fun C p _ _=>bW au au (dM (fun _=>aT iR iR) iR)) (fun p _=>aO)) (fun F y=>eH fun _=>fU (.inr au) (fun D r _ _=>bW au au (dC fun w u=>eX iR iR)) (fun r _=>aO))));obtain⟨q,A⟩:=Qz m (getD_mem (d:=bP) (l:=v.Slots) (i:=e.toNat) au);exact⟨k,j,n.2.1,⟨b,c⟩,q,by omega⟩
theorem aBt:∀b,dJ Z.P Z.S 416 (mi (args (ak (aI iY) (ak (aI iU) (ak (aI aK) (a1 (bz cI)))))) (R1 cI) 1 [] (fun a=>some (nD b (a.1) (a.2.1) (a.2.2.1) (a.2.2.2))) (fun a=>(sV b).1 (a.1) (a.2.1) (a.2.2.1) (a.2.2.2)))/\dJ Z.P Z.S 417 (mi (args (ak (aI iY) (ak (aI iU) (ak (bz d_) (a1 (bz cI)))))) (R1 cI) 1 [] (fun a=>some (jm b (a.1) (a.2.1) (a.2.2.1) (a.2.2.2))) (fun a=>(sV b).2.1 (a.1) (a.2.1) (a.2.2.1) (a.2.2.2)))/\dJ Z.P Z.S 359 (mi (args (ak (aI iY) (ak (aI iU) (ak (aI aK) (a1 (bz cI)))))) (R1 cI) 1 [] (fun a=>some (lT b (a.1) (a.2.1) (a.2.2.1) (a.2.2.2))) (fun a=>(sV b).2.2.1 (a.1) (a.2.1) (a.2.2.1) (a.2.2.2)))/\dJ Z.P Z.S 253 (mi (args (ak (aI iY) (ak (aI iq) (ak (bz bH) (ak (bz cI) (a1 (bz cI))))))) (R1 cI) 1 [] (fun a=>some (oH b (a.1) (a.2.1) (a.2.2.1) (a.2.2.2.1) (a.2.2.2.2))) (fun a=>(sV b).2.2.2.1 (a.1) (a.2.1) (a.2.2.1) (a.2.2.2.1) (a.2.2.2.2)))/\dJ Z.P Z.S 177 (mi (args (ak (aI iY) (ak (aI iq) (ak (aI aK) (a1 (bz cI)))))) (R1 cI) 1 [] (fun a=>some (jo b (a.1) (a.2.1) (a.2.2.1) (a.2.2.2))) (fun a=>(sV b).2.2.2.2 (a.1) (a.2.1) (a.2.2.1) (a.2.2.2)))
 | 0=>⟨gp func416 eF (fun a h=>by have k:=h.2.2.2;omega),
  gp func417 eF (fun a h=>by have k:=h.2.2.2.1;omega),
  gp func359 eF (fun a h=>by have k:=h.2.2.2;omega),
  gp func253 eF (fun a h=>by have k:=h.2.2.2.2.2;omega),
  gp func177 eF (fun a h=>by have k:=h.2.2.2;have:=kZ (a.2.2.1);omega)⟩
 | b+1=>by
  obtain⟨j,i,d,f,g⟩:=aBt b;exact⟨zD [aun,⟨416,_,j⟩,⟨417,_,i⟩,⟨359,_,d⟩,⟨253,_,f⟩,⟨177,_,g⟩] [] func416 ntmps416 (fun a=>Zi b a.1 a.2.1 a.2.2.1 a.2.2.2) (fun a h=>⟨aqx b a.1 a.2.1 a.2.2.1 a.2.2.2 h,rfl⟩) (jr (n:=31) rfl),
   zD [aun,aCn,ah0,⟨416,_,j⟩,⟨417,_,i⟩,⟨359,_,d⟩,⟨253,_,f⟩,⟨177,_,g⟩] [jS 2 (bJ (fun c=>[s0 15]) (l1 cI))] func417 ntmps417 (fun a=>Gw b a.1 a.2.1 a.2.2.1 a.2.2.2) (fun a h=>⟨acU b a.1 a.2.1 a.2.2.1 a.2.2.2 h,rfl⟩) (jr (n:=44) rfl),
   zD [Rz,⟨416,_,j⟩,⟨417,_,i⟩,⟨359,_,d⟩,⟨253,_,f⟩,⟨177,_,g⟩] [jS 6 (bJ (fun c=>[s0 26]) (l1 cI))] func359 ntmps359 (fun a=>TA b a.1 a.2.1 a.2.2.1 a.2.2.2) (fun a h=>⟨am_ b a.1 a.2.1 a.2.2.1 a.2.2.2 h,rfl⟩) (jr (n:=59) rfl),
   zD [OT,apL,aso,agR,⟨416,_,j⟩,⟨417,_,i⟩,⟨359,_,d⟩,⟨253,_,f⟩,⟨177,_,g⟩] [jS 7 (bJ (fun c=>[s0 38]) (l1 cI))] func253 ntmps253 (fun a=>aa6 b a.1 a.2.1 a.2.2.1 a.2.2.2.1 a.2.2.2.2) (fun a h=>⟨aqJ b a.1 a.2.1 a.2.2.1 a.2.2.2.1 a.2.2.2.2 h,rfl⟩) (jr (n:=69) rfl),
   zD [Rz,apL,aso,ahd,aEN,⟨416,_,j⟩,⟨417,_,i⟩,⟨359,_,d⟩,⟨253,_,f⟩,⟨177,_,g⟩] [jS 6 (bJ (fun c=>[s0 30]) (l1 cI)),jS 13 (bJ (fun c=>[s0 47]) (l1 cI)),jS 19 (bJ (fun c=>[s0 65]) (l1 cI)),jS 100005 (bJ (fun c=>[]) l0),jS 100012 (bJ (fun c=>[]) l0),jS 100018 (bJ (fun c=>[]) l0)] func177 ntmps177 (fun a=>G6 b a.1 a.2.1 a.2.2.1 a.2.2.2) (fun a h=>⟨ad5 b a.1 a.2.1 a.2.2.1 a.2.2.2 h,rfl⟩) (jr (n:=77) rfl)⟩
def af8:aY Z:=⟨177,mi (args (ak (aI iY) (ak (aI iq) (ak (aI aK) (a1 (bz cI)))))) (R1 cI) 1 [] (fun a=>some (dR (a.1).p/\(a.2.1)∈(a.1).p.bg/\gV (a.2.2.1))) (fun a=>Yt (a.1) (a.2.1) (a.2.2.1) (a.2.2.2)),jH (fun n=>((aBt n).2.2.2.2)) _ _ (fun a h=>⟨4*tV (a.2.2.1),⟨h.1,h.2.1,h.2.2,oC _⟩,rfl⟩)⟩
def afx (v:af):Pg (List af):=.ob (v.List.length<=1048576) (.cut (fun(g:List af)=> aL v.Slots (.each false oG v.Slots bP (fun c f (b:List af)=> .ix c v.Slots.length (.ob (dE (b.length+1) 128) (rl (b++[f.Val.re])))) (fun c (b:List af)=> .ret b) g)) (aL v.Pairs (.each false oG v.Pairs fO (fun e d (a:List af)=> .ix e v.Pairs.length (.ob (dE (a.length+2) 128) (rl (a++[d.Key.re,d.Val.re])))) (fun e (a:List af)=> rl a) v.List)))
def axZ (v:af):=(afx v).val
theorem RH (v:af)(h:tV v<=1048576):jG (afx v) (fun r=>r.length<=4194304/\∀z∈r,tV z < tV v):=
 have k:=aG0 h;aj (qbo) (bQ (fun d=>d.length<=v.List.length+2*v.Pairs.length/\∀z∈d,tV z < tV v) (dw <| bY (fun(f:Nat) a=>a.length<=v.List.length+2*f/\∀z∈a,tV z < tV v) (by exact⟨oC _,fun z j=>aj3 j⟩) au (fun f a pJ i=>have hI:a.length<=v.List.length+2*f/\∀z∈a,tV z < tV v:=i;aU au au (aj (qbo) (ah qam))) (fun a hI=>have hI:a.length<=v.List.length+2*v.Pairs.length/\∀z∈a,tV z < tV v:=hI;ah qam)) (fun d c=>have c:d.length<=v.List.length+2*v.Pairs.length/\∀z∈d,tV z < tV v:=c;dw <| bY (fun(e:Nat) b=>b.length<=v.List.length+2*v.Pairs.length+e/\∀z∈b,tV z < tV v) (by exact c) au (fun e b avF g=>have hI:b.length<=v.List.length+2*v.Pairs.length+e/\∀z∈b,tV z < tV v:=g;aU au au (aj (qbo) (ah qam))) (fun b hI=>have hI:b.length<=v.List.length+2*v.Pairs.length+v.Slots.length/\∀z∈b,tV z < tV v:=hI;ah qam)))
def aql:aY Z:=E1 [aIk] [jS 3 (bJ (fun b=>[s0 14, .slot 3 false [some 61]]) (ay cI (l1 iD))),jS 8 (bJ (fun b=>[s0 29, .slot 3 false [some 61]]) (ay cI (l1 iD))),jS 100007 (bJ (fun b=>[.slot 3 false [some 61]]) (l1 iD))] (a1 (aI aK)) (shr [.slot 0 false [some 61]] (l1 iD)) [] func257 1 afx (fun a=>tV a<=1048576) fun a h=>(RH a h).1
def agY (d:af->Int)(FB:af->Prop)(v:af):Pg Int:=.ob (tV v.re<=1048576) (.lt (axZ v.re) fun a=> aL a (.lt (dA .i64 (1+(↑v.bT.length:Int))) fun f=> .each false oG a fJ (fun c e (b:Int)=> .ix c a.length (.ob (c.toNat < a.length) (.ob (FB e.re) (rl (dA .i64 (b+d e.re)))))) (fun(c b:Int)=> .ret b) f))
def FB (a:Nat)(v:af):Prop:=tV v<=1048576/\tV v<=a
def vcV:Nat->(af->Int)
 | 0=>(fun _=>default)
 | a+1=>(fun v=>(agY ((vcV a)) (FB a) v).val)
def akk (v:af):Int:=(vcV (tV v)) v
abbrev Rl (a:Nat):=agY ((vcV a)) (FB a)
theorem amg (c:Nat)(v:af)(h:FB (c+1) v):Is (Rl c v):=
 by
 obtain⟨e,m⟩:=h;have f:=(RH v e).2;unfold Rl agY;simp only[af.dO];refine aW e (dC fun i a=>eH fun _=>dC fun l k=>fU (.inr au) (fun j g b _=>bW au au (aW au (aW ?_ aO))) (fun g _=>aO));have:=f.2 (i.getD j fJ) (by have:=getD_mem (d:=fJ) b;rw[a]at this⊢;exact this);exact⟨by omega,by omega⟩
theorem aBg:∀b,dJ Z.P Z.S 178 (mi (args (a1 (aI aK))) (R1 cI) 1 [] (fun a=>some (FB b a)) (fun a=>(vcV b) a))
 | 0=>gp func178 eF (fun a h=>by have k:=h.2;have:=kZ a;omega)
 | b+1=>by
  have c:=aBg b;exact zD [aql,⟨178,_,c⟩] [jS 3 (bJ (fun d=>[s0 13, s0 3]) (ay cI (l1 cI)))] func178 ntmps178 (fun a=>Rl b a) (fun a h=>⟨amg b a h,rfl⟩) (jr (n:=23) rfl)
def au5:aY Z:=⟨178,mi (args (a1 (aI aK))) (R1 cI) 1 [] (fun a=>some (tV a<=1048576)) (fun a=>akk a),jH (fun n=>((aBg n))) _ _ (fun a h=>⟨tV a,⟨h,oC _⟩,rfl⟩)⟩
def ajA (p:df)(prog:Int)(v:af):Pg Int:=.br (decide (prog < 0)) (.ret 10) (aL p.bg (.br (decide ((↑p.bg.length:Int)<=prog)) (.ret 10) (.ix prog p.bg.length (.ob (dR p/\p.bg.getD prog.toNat bV∈p.bg/\gV v.re) (.lt (Yt (az.mk p) (p.bg.getD prog.toNat bV) v.re 1) fun a=> .br (a !=0) (.ret a) (.ob (tV v.re<=1048576) (.lt (akk v.re) fun b=> .br (decide (4096 < b)) (.ret 3) (.ret 0))))))))
def aC8 (p:df)(prog:Int)(v:af):=(ajA p prog v).val
theorem aup (p:df)(prog:Int)(v:af)(h:dR p/\gV v):Is (ajA p prog v):=
 by
 unfold ajA;simp only[af.dO];exact cZ iR (fun _=>eH fun _=>cZ iR (fun _=>bW au au (aW ⟨h.1,getD_mem au,h.2⟩ (dC fun c b=>eX iR (fun _=>aW h.2.2 (dC fun d a=>cZ iR iR))))))
def axr:aY Z:=E1 [af8,au5] [] (ak (aI dN) (ak (bz cI) (a1 (aI aK)))) (R1 cI) [] func118 1 (u3 ajA) (fun a=>dR a.1/\gV a.2.2) fun a h=>aup a.1 a.2.1 a.2.2 h
theorem put_pos (u:Int)(h:0<=u/\u < 18446744073709551616):1<=(Ur u).length:=by
 obtain⟨x,rfl⟩:∃x:Nat,u=(x:Int):=⟨u.toNat,by omega⟩;rw[acI x au,ET,Qbn];unfold ahG;split<;>simp
theorem axd {f:Raw}(h:Ky f=true):1<=(Bq f.Num f.eY).1.length/\(Bq f.Num f.eY).1.length<=10:=by
 have e:(Bq f.Num f.eY).2=0:=by
  unfold Ky aaf at h;simp only[cO,bu]at h;cases e:(Bq f.Num f.eY).2 !=0 with
  | true=>rw[e]at h;cases h
  | false=>exact jW.1 e
 unfold Bq adq at e⊢;simp only[cO,dV,eG,bu]at e⊢;by_cases d:f.Num < 1
 ·rw[wO d]at e;cases e
 rw[sQ d]at e⊢;by_cases a:65535 < f.Num
 ·rw[wO a]at e;cases e
 rw[sQ a]at e⊢;by_cases b:f.eY < 0
 ·rw[wO b]at e;cases e
 rw[sQ b]at e⊢;by_cases c:6 < f.eY
 ·rw[wO c]at e;cases e
 rw[sQ c];exact⟨put_pos _ (NT _),QB _ (NT _)⟩
def uX (l:List Raw):Nat:=kD (fun x=>24+x.Data.length) l
theorem aeu {l:List Raw}{i:Nat}(a:i < l.length):uX (l.take (i+1))=uX (l.take i)+(24+(l.getD i nH).Data.length):=qw (f:=fun x:Raw=>24+x.Data.length) (d:=nH) a
theorem arK {l:List Raw}{i:Nat}:uX (l.take i)<=uX l:=uq (Qc3 i l)
theorem JK (l m:List Raw):uX (l++m)=uX l+uX m:=oL l m
theorem FH (l:List Raw):l.length<=uX l:=yA fun x=>by omega
def Xa (l:List Raw):Prop:=(∀x∈l,KW x)/\uX l<=68719476736
def aDc (l:List Raw)(i:Nat)(y:List Int):Prop:=y.length<=uX (l.take i)/\(0 < i->0 < y.length)/\∀k,D_ y k=true
theorem SB {l:List Raw}{i:Nat}{y:List Int}{a b:Str}(c:i < l.length)(h:aDc l i y)(e:1<=a.length/\a.length<=10)(d:b.length<=10+(l.getD i nH).Data.length):aDc l (i+1) (y++Ub a++Ub b):=by
 refine⟨?_,fun _=> ?_,Vl (Vl h.2.2 (GL a)) (GL b)⟩
 ·rw[aeu c];simp only[qO,yI];have:=h.1;omega
 ·simp only[qO,yI];omega
theorem axA (a b:Str):Ub (a++b)=Ub a++Ub b:=by simp[Ub]
def ah_:List Raw:=[]
def ak1:Pg (List UInt8):=aL ah_ (.ob ((dp ((0:Int)=0)).p/\True) (.ret []))
def WA:Str:=(ak1).val
theorem asA:Is (ak1):=
 eH fun _=>aW ((⟨rfl,trivial⟩)) (aO)
def azP:aY Z:=uF Z [Gi,YS,abv,adX,Zy,af7,afC] [jS 600003 (bJ (fun _=>List.replicate 2 (.iter 0)) l0)] (args (a1 (bz bG))) (jr (n:=54) rfl) (R1 cStr) [] func180 ntmps180 eF 1 rfl (fun a=>ak1) (fun a=>some (a=ah_)) (fun(l) e h=>by have b:l=ah_:=h;subst b;show _=_;kernel_rfl) (fun a=>WA) (fun a h=>⟨asA,rfl⟩)
def ajw (l:List Raw):Pg (List UInt8):=aL l (.each false oG l nH (fun j a (b:List Int)=> .ix j l.length (.br (!Ky a) (rl b) (.lt (Bq a.Num a.eY) fun f=> .ob ((dp (dE (b.length+f.1.length) 1)).p/\True) (.lt (b++Ub f.1) fun(c:List Int)=> .br (a.eY==2) (.lt (aBw a.Bits) fun h=> .ob ((dp (dE (c.length+List.length h) 1)).p/\True) (rl (c++Ub h))) (.br (ake a.eY) (.ob (lK a.Bits) (.lt (Ur a.Bits) fun e=> .ob ((dp (dE (c.length+List.length e) 1)).p/\True) (rl (c++Ub e)))) (.lt (dA .u64 (↑(List.length a.Data):Int)) fun i=> .ob (lK i) (.lt (Ur i) fun g=> .ob ((dp (dE (c.length+List.length g) 1)).p/\True) (.as (List.length a.Data<=9223372036854775807) (.lt (c++Ub g) fun(d:List Int)=> .ob ((dp (dE (d.length+List.length a.Data) 1)).p/\True) (rl (d++Ub a.Data))))))))))) (fun j (b:List Int)=> .ob ((dp (0 < b.length)).p/\(dp ((↑b.length:Int)=(↑b.length:Int)/\0 < (↑b.length:Int)/\Hl (D_ b) b.length=true)).p/\True) (.ret (txU b))) [])
def as9 (l:List Raw):=(ajw l).val
theorem XQ (l:List Raw)(h:l≠[]/\Xa l):jG (ajw l) (fun r=>r.length<=uX l):=
 by
 obtain⟨A,I,N⟩:=h;have D:=FH l;unfold ajw;refine dw <| bY (aDc l) ⟨oC _,fun h=>absurd h qp,fun k=>GL [] k⟩ au (fun o m f c=> ?_) fun m c=> ?_
 ·have j:=I _ (getD_mem (d:=nH) f);have g:=axd j.2;have p:=c.1;have O:=arK (l:=l) (i:=o);have R:=aeu f;have Q:=arK (l:=l) (i:=o+1);have b:∀n,n<=uX (l.take (o+1))->(dp (dE n 1)).p/\True:=fun n M=>⟨dI au au,trivial⟩
  refine aU au au (dX (fun H=>absurd H (by rw[j.2];decide)) fun _=>aC fun E x=> ?_);rw[<-x]at g;refine aj (b _ au) (aC fun v e=> ?_);have K:v.length=m.length+E.1.length:=by rw[e,qO,yI]
  refine dZ (fun _=>aC fun G s=> ?_) fun _=>dX (fun _=>aj j.1 (aC fun F y=> ?_)) fun _=>aC fun L z=>aj (by rw[z];exact NT _) (aC fun u w=> ?_)
  ·have q:G.length=8:=by rw[s];exact(Vm _).2
   exact aj (b _ au) (ah (by rw[e];exact SB f c g au))
  ·have q:F.length<=10:=by rw[y];exact QB _ j.1
   exact aj (b _ au) (ah (by rw[e];exact SB f c g au))
  ·have q:u.length<=10:=by rw[w];exact QB _ (by rw[z];exact NT _)
   refine aj (b _ au) (dw <| aC fun C B=> ?_);have P:C.length=v.length+u.length:=by rw[B,qO,yI]
   refine aj (b _ au) (ah ?_);rw[B,e,Qb2,<-axA];exact SB f c g (by rw[qO];omega)
 ·have J:0 < m.length:=c.2.1 (by
   cases l with
   | nil=>exact absurd rfl A
   | cons a t=>simp)
  have p:=c.1;rw[Lc]at p;exact aj ⟨J,⟨rfl,by omega,vX c.2.2 _⟩,trivial⟩ (ah (by rw[ET];exact p))
def azQ:aY Z:=E1 [Gi,YS,abv,adX,Zy,af7,afC] [jS 3 (bJ (fun b=>[s0 10, .tcs (pid (b 3)) 112 [some 5]]) (ay cI (l1 LM)))] (a1 (bz bG)) (R1 cStr) [] func180 1 ajw (fun a=>a≠[]/\Xa a) fun a h=>(XQ a h).1
def Oa (l:List Raw):Str:=bif l.isEmpty then WA else as9 l
theorem acm {l:List Raw}(h:Xa l):(Oa l).length<=uX l:=by
 unfold Oa;cases l with
 | nil=>
  show WA.length<=_
  unfold WA ak1;simp only[kK,eG,bu];exact vP _
 | cons a t=>exact(XQ (a::t) ⟨by simp,h⟩).2
def apS:aY Z:=⟨180,mi (args (a1 (bz bG))) (R1 cStr) 1 [] (fun a=>some (Xa a)) (fun a=>Oa a),by
  have c:dJ Z.P Z.S 180 (mi (args (a1 (bz bG))) (R1 cStr) 1 [] (fun a=>some (List.isEmpty a=true/\Xa a)) (fun a=>WA)):=jH (fun _=>azP.ok) _ _ (fun a h=>⟨0,List.isEmpty_iff.1 h.1,rfl⟩);have b:dJ Z.P Z.S 180 (mi (args (a1 (bz bG))) (R1 cStr) 1 [] (fun a=>some (List.isEmpty a=false/\Xa a)) (fun a=>as9 a)):=jH (fun _=>azQ.ok) _ _ (fun a h=>⟨0,⟨fun e=>absurd h.1 (by rw[show a=[]from e];decide),h.2⟩,rfl⟩);exact wK c b⟩
def aEO:aY Z:=Am Z [vU] 258 [true] func258 eF
def aB_:aY Z:=Am Z [vU] 258 [false,true] func258 eF
def aD5:aY Z:=Am Z [vU] 258 [false,false,true] func258 eF
def aD6:aY Z:=Am Z [vU] 258 [false,false,false] func258 eF
def Ql (v:af):Pg Raw:=.cut (fun(b:Bool)=> .br b (.ret (Raw.mk 0 0 v.Bits [])) (.cut (fun(a:Bool)=> .br a (.ret (Raw.mk 0 1 (auI (dA .i64 v.Bits)) [])) (.br (v.Kind==6) (.ret (Raw.mk 0 2 (nC v.re).Bits [])) (.br (v.Kind==7) (.br (v.Kind==7) (.ret (Raw.mk 0 3 0 v.Text)) (.ret (Raw.mk 0 0 0 []))) (.br (v.Kind==8) (.ret (Raw.mk 0 3 0 v.Text)) (.ret (Raw.mk 0 0 0 [])))))) (.br (v.Kind==2) (rl (v.Kind==2)) (rl (v.Kind==3))))) (.br (v.Kind==1) (rl (v.Kind==1)) (.br (v.Kind==4) (rl (v.Kind==4)) (.br (v.Kind==5) (rl (v.Kind==5)) (rl (v.Kind==9)))))
def Ef (v:af):=(Ql v).val
def MI:aY Z:=E0 [IK,aDp] [jS 100006 (bJ (fun b=>[s0 5]) (l1 aG)),jS 100009 (bJ (fun b=>[s0 13]) (l1 aG))] (a1 (aI aK)) (shr [.slot 0 true (nn 4)] (l1 mQ)) [] func420 1 Ql
def Yy (a:Int)(f:Raw):Pg Raw:=.ret (Raw.mk a f.eY f.Bits f.Data)
def tZ (a:Int)(f:Raw):=(Yy a f).val
def Dn:aY Z:=E0 [] [] (ak (bz cI) (a1 (aI mQ))) (shr [.slot 0 true (nn 4)] (l1 mQ)) [] func419 1 (u2 Yy)
def eOk (f:Raw)(n:Nat):Prop:=(0<=f.eY/\f.eY<=6)/\lK f.Bits/\(f.eY<=2->f.Data=[])/\(3<=f.eY->f.Bits=0)/\f.Data.length<=n
theorem Qi {w b:Int}{n:Nat}(a:0<=w/\w<=2)(c:lK b):eOk (Raw.mk 0 w b []) n:=⟨⟨a.1,by show w<=6;omega⟩,c,fun _=>rfl,fun h=>absurd a.2 (by have h:3<=w:=h;omega),vP _⟩
theorem ajd {w:Int}{d:Str}{n:Nat}(a:3<=w/\w<=6)(b:d.length<=n):eOk (Raw.mk 0 w 0 d) n:=⟨⟨by show 0<=w;omega,a.2⟩,u0,fun h=>absurd a.1 (by have h:w<=2:=h;omega),fun _=>rfl,b⟩
theorem asT {f:Raw}{n m:Nat}(h:eOk f n)(a:n<=m):eOk f m:=⟨h.1,h.2.1,h.2.2.1,h.2.2.2.1,EZ h.2.2.2.2 a⟩
theorem aCt (n:Int):lK (auI n):=by
 unfold auI aD1;simp only[eG,bu];exact ahR _
theorem Gy {v:af}(h:kV v):eOk (Ef v) v.Text.length:=by
 have c:=((iW v).1 h).1.1;have d:=((iW _).1 (PP h)).1.1;have k:VP (Ql v) (fun f=>eOk f v.Text.length):=by
  unfold Ql;simp only[af.dO];have b:eOk (Raw.mk 0 0 0 []) v.Text.length:=Qi ⟨by decide,by decide⟩ u0;have a:eOk (Raw.mk 0 3 0 v.Text) v.Text.length:=ajd ⟨by decide,by decide⟩ (oC _);refine lZ (fun _=>True) ?_ fun g _=>jK (fun _=>di (Qi ⟨by decide,by decide⟩ c)) fun _=>lZ (fun _=>True) ?_ fun e _=>jK (fun _=>di (Qi ⟨by decide,by decide⟩ (aCt _))) fun _=>jK (fun _=>di (Qi ⟨by decide,by decide⟩ d)) fun _=>jK (fun _=>jK (fun _=>di a) fun _=>di b) fun _=>jK (fun _=>di a) fun _=>di b
  ·exact jK (fun _=>di trivial) fun _=>jK (fun _=>di trivial) fun _=>jK (fun _=>di trivial) fun _=>di trivial
  ·exact jK (fun _=>di trivial) fun _=>di trivial
 exact k
theorem yj {num:Int}{f:Raw}{n:Nat}(a:1<=num/\num<=65535)(h:eOk f n):KW (tZ num f)/\(tZ num f).Data.length<=n:=
 ⟨Rh (f:=Raw.mk num f.eY f.Bits f.Data) a h.1 h.2.1 h.2.2.1 h.2.2.2.1,h.2.2.2.2⟩
theorem awc (l:List Raw):uX l<=24*WI l:=by
 induction l with
 | nil=>exact oC _
 | cons a t b=>
  show 24+a.Data.length+uX t<=24*(1+a.Data.length+WI t)
  omega
theorem IY (x:Raw):uX [x]=24+x.Data.length:=rfl
theorem TS (x:Raw)(l:List Raw):uX (x::l)=24+x.Data.length+uX l:=rfl
def enI (v:af)(i:Nat)(y:List Raw×List Raw):Prop:=(∀x∈y.1,KW x)/\(∀x∈y.2,KW x)/\y.2.length<=v.bT.length/\uX y.1+uX y.2<=uX v.bT+64*kD tS (v.Slots.take i)
def akA (w:ai)(o:Op)(v:af):Pg (List Raw):=aL v.List (.lt (dA .u8 (agS (Op.mk o.Num o.Name o.Alias 2 o.Key o.Kind o.Target o.Union))) fun f=> .each false oG v.List fJ (fun e g (a:List Int)=> .ix e v.List.length (.lt (Ef g.re) fun b=> .br (agS (Op.mk o.Num o.Name o.Alias 2 o.Key o.Kind o.Target o.Union)==2) (.lt (aBw b.Bits) fun d=> .ob (dE (a.length+List.length d) 1) (rl (a++Ub d))) (.ob (lK b.Bits) (.lt (Ur b.Bits) fun c=> .ob (dE (a.length+List.length c) 1) (rl (a++Ub c)))))) (fun e (a:List Int)=> .ob (Hl (fun(i:Nat)=>true) a.length=true) (.ret [Raw.mk o.Num 5 0 (txU a)])) [f])
def aCQ (w:ai)(o:Op)(v:af):=(akA w o v).val
theorem XJ (w:ai)(o:Op)(v:af)(h:(1<=o.Num/\o.Num<=65535)/\gV v):jG (akA w o v) (fun r=>(∀x∈r,KW x)/\uX r<=24+64*tV v):=
 by
 obtain⟨p,c⟩:=h;have u:=qg c;have C:=c.2;have z:=iV v;have D:=Il v.List;unfold akA;simp only[af.dO];refine dw <| aC fun A t=>bY (fun i y=>y.length<=1+10*i) oI au (fun s a q n=> ?_) fun a n=>aj (vX (fun _=>rfl) _) (ah ⟨kF (Rh (f:=Raw.mk o.Num 5 0 (txU a)) p ⟨(by decide:(0:Int)<=5),(by decide:(5:Int)<=6)⟩ u0 (fun h=>absurd h (by decide:¬(5:Int)<=2)) (fun _=>rfl)),?_⟩)
 ·have e:lK (Ef (v.List.getD s fJ)).Bits:=(Gy (Jw c (getD_mem (d:=fJ) q)).1.1).2.1;refine aU au au (aC fun B b=>dZ (fun _=>aC fun k g=> ?_) fun _=>aj (by rw[b];exact e) (aC fun j l=> ?_))
  ·have m:k.length=8:=by rw[g];exact(Vm _).2
   exact aj (dI au au) (ah (by show(a++Ub k).length<=_;rw[qO,yI];omega))
  ·have m:j.length<=10:=by rw[l];exact QB _ (by rw[b];exact e)
   exact aj (dI au au) (ah (by show(a++Ub j).length<=_;rw[qO,yI];omega))
 ·rw[IY];show 24+(txU a).length<=_
  rw[ET];omega
def ax_:aY Z:=E1 [abv,af7,akK,MI] [jS 6 (bJ (fun b=>[s0 23, .slot 9 false [some 5]]) (ay cI (l1 LM)))] (ak (aI fG) (ak (aI iU) (a1 (aI aK)))) (R1 bG) [] func364 1 (u3 akA) (fun a=>(1<=a.2.1.Num/\a.2.1.Num<=65535)/\gV a.2.2) fun a h=>(XJ a.1 a.2.1 a.2.2 h).1
def Tu (f:ai->Op->af->Raw)(dH:ai->Op->af->Prop)(c:ai->Op->af->List Raw)(dU:ai->Op->af->Prop)(d:ai->Op->af->List Raw)(dG:ai->Op->af->Prop)(e:ai->Op->af->List Raw)(fC:ai->Op->af->Prop)(b:ai->Int->Slot->List Raw)(gu:ai->Int->Slot->Prop)(a:ai->Int->af->Str)(je:ai->Int->af->Prop)(w:ai)(o:Op)(v:af):Pg Raw:=.br (o.Kind==10) (.ob (je w o.Target v.re) (.ret (Raw.mk 0 4 0 (a w o.Target v.re)))) (.ret (Ef v.re))
def RJ (f:ai->Op->af->Raw)(dH:ai->Op->af->Prop)(i:ai->Op->af->List Raw)(dU:ai->Op->af->Prop)(h:ai->Op->af->List Raw)(dG:ai->Op->af->Prop)(k:ai->Op->af->List Raw)(fC:ai->Op->af->Prop)(g:ai->Int->Slot->List Raw)(gu:ai->Int->Slot->Prop)(j:ai->Int->af->Str)(je:ai->Int->af->Prop)(w:ai)(o:Op)(v:af):Pg (List Raw):=aL v.Pairs (.each false oG v.Pairs fO (fun e b (a:List Raw)=> .ix e v.Pairs.length (.ob (dH w o b.Val.re) (.lt (tZ 2 (f w o b.Val.re)) fun d=> .lt (tZ 1 (Ef b.Key.re)) fun c=> .ob (Xa [c,d]) (.ob (dE (a.length+1) 40) (rl (a++[Raw.mk o.Num 6 0 (Oa [c,d])])))))) (fun e (a:List Raw)=> .ret a) [])
def Lp (d:ai->Op->af->Raw)(dH:ai->Op->af->Prop)(f:ai->Op->af->List Raw)(dU:ai->Op->af->Prop)(g:ai->Op->af->List Raw)(dG:ai->Op->af->Prop)(i:ai->Op->af->List Raw)(fC:ai->Op->af->Prop)(e:ai->Int->Slot->List Raw)(gu:ai->Int->Slot->Prop)(h:ai->Int->af->Str)(je:ai->Int->af->Prop)(w:ai)(o:Op)(v:af):Pg (List Raw):=aL v.List (.each false oG v.List fJ (fun c b (a:List Raw)=> .ix c v.List.length (.ob (dH w o b.re) (.ob (dE (a.length+1) 40) (rl (a++[tZ o.Num (d w o b.re)]))))) (fun c (a:List Raw)=> .ret a) [])
def abZ (a:ai->Op->af->Raw)(dH:ai->Op->af->Prop)(c:ai->Op->af->List Raw)(dU:ai->Op->af->Prop)(d:ai->Op->af->List Raw)(dG:ai->Op->af->Prop)(f:ai->Op->af->List Raw)(fC:ai->Op->af->Prop)(b:ai->Int->Slot->List Raw)(gu:ai->Int->Slot->Prop)(e:ai->Int->af->Str)(je:ai->Int->af->Prop)(w:ai)(o:Op)(v:af):Pg (List Raw):=.ob (dH w o v.re) (.ret [tZ o.Num (a w o v.re)])
def aD2 (g:ai->Op->af->Raw)(dH:ai->Op->af->Prop)(b:ai->Op->af->List Raw)(dU:ai->Op->af->Prop)(d:ai->Op->af->List Raw)(dG:ai->Op->af->Prop)(f:ai->Op->af->List Raw)(fC:ai->Op->af->Prop)(c:ai->Int->Slot->List Raw)(gu:ai->Int->Slot->Prop)(e:ai->Int->af->Str)(je:ai->Int->af->Prop)(w:ai)(prog:Int)(s:Slot):Pg (List Raw):=.ix prog w.p.bg.length (.lt (lL (w.p.bg.getD prog.toNat bV) s.Num) fun a=> .br (!a.2) (.ret []) (.ob ((a.1.Card==5)=true/\True) (.ob (dU w a.1 s.Val.re) (.ret (b w a.1 s.Val.re)))))
def auG (g:ai->Op->af->Raw)(dH:ai->Op->af->Prop)(c:ai->Op->af->List Raw)(dU:ai->Op->af->Prop)(d:ai->Op->af->List Raw)(dG:ai->Op->af->Prop)(f:ai->Op->af->List Raw)(fC:ai->Op->af->Prop)(b:ai->Int->Slot->List Raw)(gu:ai->Int->Slot->Prop)(e:ai->Int->af->Str)(je:ai->Int->af->Prop)(w:ai)(prog:Int)(s:Slot):Pg (List Raw):=.ix prog w.p.bg.length (.lt (lL (w.p.bg.getD prog.toNat bV) s.Num) fun a=> .br (!a.2) (.ret []) (.ob ((a.1.Card==5)=false/\kM a.1=true/\True) (.ob ((1<=a.1.Num/\a.1.Num<=65535)/\gV s.Val.re) (.ret (aCQ w a.1 s.Val.re)))))
def aDR (g:ai->Op->af->Raw)(dH:ai->Op->af->Prop)(d:ai->Op->af->List Raw)(dU:ai->Op->af->Prop)(b:ai->Op->af->List Raw)(dG:ai->Op->af->Prop)(f:ai->Op->af->List Raw)(fC:ai->Op->af->Prop)(c:ai->Int->Slot->List Raw)(gu:ai->Int->Slot->Prop)(e:ai->Int->af->Str)(je:ai->Int->af->Prop)(w:ai)(prog:Int)(s:Slot):Pg (List Raw):=.ix prog w.p.bg.length (.lt (lL (w.p.bg.getD prog.toNat bV) s.Num) fun a=> .br (!a.2) (.ret []) (.ob ((a.1.Card==5)=false/\kM a.1=false/\(a.1.Card==4)=true/\True) (.ob (dG w a.1 s.Val.re) (.ret (b w a.1 s.Val.re)))))
def aDF (g:ai->Op->af->Raw)(dH:ai->Op->af->Prop)(d:ai->Op->af->List Raw)(dU:ai->Op->af->Prop)(e:ai->Op->af->List Raw)(dG:ai->Op->af->Prop)(b:ai->Op->af->List Raw)(fC:ai->Op->af->Prop)(c:ai->Int->Slot->List Raw)(gu:ai->Int->Slot->Prop)(f:ai->Int->af->Str)(je:ai->Int->af->Prop)(w:ai)(prog:Int)(s:Slot):Pg (List Raw):=.ix prog w.p.bg.length (.lt (lL (w.p.bg.getD prog.toNat bV) s.Num) fun a=> .br (!a.2) (.ret []) (.ob ((a.1.Card==5)=false/\kM a.1=false/\(a.1.Card==4)=false/\True) (.ob (fC w a.1 s.Val.re) (.ret (b w a.1 s.Val.re)))))
def aom (j:ai->Op->af->Raw)(dH:ai->Op->af->Prop)(k:ai->Op->af->List Raw)(dU:ai->Op->af->Prop)(i:ai->Op->af->List Raw)(dG:ai->Op->af->Prop)(m:ai->Op->af->List Raw)(fC:ai->Op->af->Prop)(f:ai->Int->Slot->List Raw)(gu:ai->Int->Slot->Prop)(l:ai->Int->af->Str)(je:ai->Int->af->Prop)(w:ai)(prog:Int)(v:af):Pg (List UInt8):=.ob (gV v.re) (.lt (TE w.p prog v.re) fun d=> aL d.Slots (.each false oG d.Slots bP (fun h b (c:List Raw×List Raw)=> .ix h d.Slots.length (.cut (fun(e:List Raw×List Raw)=> .ob (gu w prog (Slot.mk b.Num b.Val.re)) (.ob (dE (e.1.length+(f w prog (Slot.mk b.Num b.Val.re)).length) 40) (rl (e.1++f w prog (Slot.mk b.Num b.Val.re),e.2)))) (.wh (tV v+1) default (fun(a:List Raw×List Raw)=> .br (decide (0 < (↑a.2.length:Int))) (.ix 0 a.2.length (.br (decide ((a.2.getD 0 nH).Num < b.Num)) (.ix 0 a.2.length (.ob (dE (a.1.length+1) 40) (.ob ((0:Int)<=1/\1<=(↑a.2.length:Int)/\(↑a.2.length:Int)<=(↑a.2.length:Int)) (rl (a.1++[a.2.getD 0 nH],List.drop 1 (List.take a.2.length a.2)))))) (.ret (.inr (.inl a))))) (.ret (.inr (.inl a)))) c))) (fun h (c:List Raw×List Raw)=> .ob (dE (c.1.length+c.2.length) 40) (.lt (c.1++c.2) fun(g:List Raw)=> .ob (Xa g) (.ret (Oa g)))) ([],d.bT)))
def dH (a:Nat)(w:ai)(o:Op)(v:af):Prop:=dR w.p/\TJ w.p o/\gV v/\4*tV v+1<=a
def dU (a:Nat)(w:ai)(o:Op)(v:af):Prop:=dR w.p/\TJ w.p o/\gV v/\4*tV v+2<=a
def dG (a:Nat)(w:ai)(o:Op)(v:af):Prop:=dR w.p/\TJ w.p o/\gV v/\4*tV v+2<=a
def fC (a:Nat)(w:ai)(o:Op)(v:af):Prop:=dR w.p/\TJ w.p o/\gV v/\4*tV v+2<=a
def gu (a:Nat)(w:ai)(prog:Int)(s:Slot):Prop:=dR w.p/\(0<=prog/\prog < w.p.bg.length)/\gV s.Val/\4*tV s.Val+3<=a
def je (a:Nat)(w:ai)(prog:Int)(v:af):Prop:=dR w.p/\(0<=prog/\prog < w.p.bg.length)/\gV v/\4*tV v<=a
def jB:Nat->(ai->Op->af->Raw)×(ai->Op->af->(List Raw))×(ai->Op->af->(List Raw))×(ai->Op->af->(List Raw))×(ai->Int->Slot->(List Raw))×(ai->Int->af->Str)
 | 0=>(fun _ _ _=>default,fun _ _ _=>default,fun _ _ _=>default,fun _ _ _=>default,fun _ _ _=>default,fun _ _ _=>default)
 | a+1=>(fun w o v=>(Tu ((jB a).1) (dH a) ((jB a).2.1) (dU a) ((jB a).2.2.1) (dG a) ((jB a).2.2.2.1) (fC a) ((jB a).2.2.2.2.1) (gu a) ((jB a).2.2.2.2.2) (je a) w o v).val,fun w o v=>(RJ ((jB a).1) (dH a) ((jB a).2.1) (dU a) ((jB a).2.2.1) (dG a) ((jB a).2.2.2.1) (fC a) ((jB a).2.2.2.2.1) (gu a) ((jB a).2.2.2.2.2) (je a) w o v).val,fun w o v=>(Lp ((jB a).1) (dH a) ((jB a).2.1) (dU a) ((jB a).2.2.1) (dG a) ((jB a).2.2.2.1) (fC a) ((jB a).2.2.2.2.1) (gu a) ((jB a).2.2.2.2.2) (je a) w o v).val,fun w o v=>(abZ ((jB a).1) (dH a) ((jB a).2.1) (dU a) ((jB a).2.2.1) (dG a) ((jB a).2.2.2.1) (fC a) ((jB a).2.2.2.2.1) (gu a) ((jB a).2.2.2.2.2) (je a) w o v).val,fun w prog s=>bif (lL (w.p.bg.getD prog.toNat bV) s.Num).1.Card==5 then(aD2 ((jB a).1) (dH a) ((jB a).2.1) (dU a) ((jB a).2.2.1) (dG a) ((jB a).2.2.2.1) (fC a) ((jB a).2.2.2.2.1) (gu a) ((jB a).2.2.2.2.2) (je a) w prog s).val else bif kM (lL (w.p.bg.getD prog.toNat bV) s.Num).1 then(auG ((jB a).1) (dH a) ((jB a).2.1) (dU a) ((jB a).2.2.1) (dG a) ((jB a).2.2.2.1) (fC a) ((jB a).2.2.2.2.1) (gu a) ((jB a).2.2.2.2.2) (je a) w prog s).val else bif (lL (w.p.bg.getD prog.toNat bV) s.Num).1.Card==4 then(aDR ((jB a).1) (dH a) ((jB a).2.1) (dU a) ((jB a).2.2.1) (dG a) ((jB a).2.2.2.1) (fC a) ((jB a).2.2.2.2.1) (gu a) ((jB a).2.2.2.2.2) (je a) w prog s).val else(aDF ((jB a).1) (dH a) ((jB a).2.1) (dU a) ((jB a).2.2.1) (dG a) ((jB a).2.2.2.1) (fC a) ((jB a).2.2.2.2.1) (gu a) ((jB a).2.2.2.2.2) (je a) w prog s).val,fun w prog v=>(aom ((jB a).1) (dH a) ((jB a).2.1) (dU a) ((jB a).2.2.1) (dG a) ((jB a).2.2.2.1) (fC a) ((jB a).2.2.2.2.1) (gu a) ((jB a).2.2.2.2.2) (je a) w prog v).val)
def arw (w:ai)(prog:Int)(v:af):Str:=(jB (4*tV v)).2.2.2.2.2 w prog v
def zg (a:Nat):Prop:=(∀(w:ai) (o:Op) (v:af),dH a w o v->(fun r=>eOk r (64*tV v)) ((jB a).1 w o v))/\(∀(w:ai) (o:Op) (v:af),dU a w o v->(fun r=>(∀x∈r,KW x)/\uX r<=24+64*tV v) ((jB a).2.1 w o v))/\(∀(w:ai) (o:Op) (v:af),dG a w o v->(fun r=>(∀x∈r,KW x)/\uX r<=24+64*tV v) ((jB a).2.2.1 w o v))/\(∀(w:ai) (o:Op) (v:af),fC a w o v->(fun r=>(∀x∈r,KW x)/\uX r<=24+64*tV v) ((jB a).2.2.2.1 w o v))/\(∀(w:ai) (prog:Int) (s:Slot),gu a w prog s->(fun r=>(∀x∈r,KW x)/\uX r<=24+64*tV s.Val) ((jB a).2.2.2.2.1 w prog s))/\(∀(w:ai) (prog:Int) (v:af),je a w prog v->(fun r=>r.length<=64*tV v) ((jB a).2.2.2.2.2 w prog v))
abbrev Bz (a:Nat):=Tu ((jB a).1) (dH a) ((jB a).2.1) (dU a) ((jB a).2.2.1) (dG a) ((jB a).2.2.2.1) (fC a) ((jB a).2.2.2.2.1) (gu a) ((jB a).2.2.2.2.2) (je a)
theorem Jt (a:Nat)(e:zg a)(w:ai)(o:Op)(v:af)(h:dH (a+1) w o v):jG (Bz a w o v) (fun r=>eOk r (64*tV v)):=
 by
 obtain⟨g,f,b,i⟩:=h;unfold Bz Tu;simp only[af.dO];refine dZ (fun c=> ?_) (fun c=>ah ?_)
 ·have d:je a w o.Target v:=⟨g,f.1 c,b,by omega⟩;exact aj d (ah (ajd ⟨by decide,by decide⟩ (e.2.2.2.2.2 _ _ _ d)))
 ·exact asT (Gy b.1) (by have:=iV v;omega)
abbrev Bh (a:Nat):=RJ ((jB a).1) (dH a) ((jB a).2.1) (dU a) ((jB a).2.2.1) (dG a) ((jB a).2.2.2.1) (fC a) ((jB a).2.2.2.2.1) (gu a) ((jB a).2.2.2.2.2) (je a)
theorem IX (c:Nat)(B:zg c)(w:ai)(o:Op)(v:af)(h:dU (c+1) w o v):jG (Bh c w o v) (fun r=>(∀x∈r,KW x)/\uX r<=24+64*tV v):=
 by
 obtain⟨J,t,e,U⟩:=h;have m:=qg e;have S:=e.2;have N:=m.2.2.2.1;have O:=iV v;have T:=yT v.Pairs;unfold Bh RJ;simp only[af.dO];refine dw <| bY (fun i y=>y.length<=i/\(∀x∈y,KW x)/\uX y<=64*kD tP (v.Pairs.take i)) ⟨oC _,fun x L=>absurd L (Yg),vP _⟩ (by have:=m.2.2.2.1;omega) (fun g n p hI=> ?_) fun n hI=>ah ⟨hI.2.1,?_⟩
 ·have z:=getD_mem (d:=fO) p;obtain⟨I,Q,P,R⟩:=JY e z;have K:=ar7 e z;have u:dH c w o (v.Pairs.getD g fO).Val:=⟨J,t,I,by omega⟩;have E:=B.1 _ _ _ u;have D:=Gy K;have V:=iV (v.Pairs.getD g fO).Key;have G:=qw (f:=tP) (d:=fO) p;have M:=Yb (v.Pairs.getD g fO);refine aU au au (aj u (aC fun a q=>aC fun b A=> ?_));obtain⟨l,F⟩:=yj (num:=2) ⟨by decide,by decide⟩ E;obtain⟨k,H⟩:=yj (num:=1) ⟨by decide,by decide⟩ D;rw[<-q]at l F;rw[<-A]at k H;have j:uX [b,a]=24+b.Data.length+(24+a.Data.length):=rfl;have s:Xa [b,a]:=⟨ajh k l,by rw[j];omega⟩;have C:=acm s;rw[j]at C;refine aj s (aj (dI qbg qbg) (ah ⟨by have:=hI.1;simp only[qO,AB,yz];omega,pU hI.2.1 (kF ?_),?_⟩))
  ·exact Rh (f:=Raw.mk o.Num 6 0 (Oa [b,a])) t.2.2 ⟨(by decide:(0:Int)<=6),H8 6⟩ u0 (fun h=>absurd h (by decide:¬(6:Int)<=2)) (fun _=>rfl)
  ·have:=hI.2.2;rw[JK,IY,G,M];show uX n+(24+(Oa [b,a]).length)<=_
   omega
 ·have:=hI.2.2;rw[Lc]at this;omega
abbrev xH (a:Nat):=Lp ((jB a).1) (dH a) ((jB a).2.1) (dU a) ((jB a).2.2.1) (dG a) ((jB a).2.2.2.1) (fC a) ((jB a).2.2.2.2.1) (gu a) ((jB a).2.2.2.2.2) (je a)
theorem FZ (a:Nat)(j:zg a)(w:ai)(o:Op)(v:af)(h:dG (a+1) w o v):jG (xH a w o v) (fun r=>(∀x∈r,KW x)/\uX r<=24+64*tV v):=
 by
 obtain⟨s,e,b,E⟩:=h;have u:=qg b;have C:=b.2;have z:=iV v;have D:=zl v.List;unfold xH Lp;simp only[af.dO];refine dw <| bY (fun i y=>y.length<=i/\(∀x∈y,KW x)/\uX y<=64*kD (fun x=>1+tV x) (v.List.take i)) ⟨oC _,fun x t=>absurd t (Yg),vP _⟩ au (fun p l c hI=> ?_) fun l hI=>ah ⟨hI.2.1,?_⟩
 ·obtain⟨q,A⟩:=Jw b (getD_mem (d:=fJ) c);have g:dH a w o (v.List.getD p fJ):=⟨s,e,q,by omega⟩;have m:=j.1 _ _ _ g;have n:=qw (f:=fun x=>1+tV x) (d:=fJ) c;obtain⟨k,B⟩:=yj e.2.2 m;refine aU au au (aj g (aj (dI qbg qbg) (ah ⟨by have:=hI.1;simp only[qO,AB,yz];omega,pU hI.2.1 (kF k),?_⟩)));have:=hI.2.2;rw[JK,IY,n];omega
 ·have:=hI.2.2;rw[Lc]at this;omega
abbrev Fj (a:Nat):=abZ ((jB a).1) (dH a) ((jB a).2.1) (dU a) ((jB a).2.2.1) (dG a) ((jB a).2.2.2.1) (fC a) ((jB a).2.2.2.2.1) (gu a) ((jB a).2.2.2.2.2) (je a)
theorem NZ (a:Nat)(d:zg a)(w:ai)(o:Op)(v:af)(h:fC (a+1) w o v):jG (Fj a w o v) (fun r=>(∀x∈r,KW x)/\uX r<=24+64*tV v):=
 by
 obtain⟨g,b,e,j⟩:=h;unfold Fj abZ;simp only[af.dO];have c:dH a w o v:=⟨g,b,e,by omega⟩;obtain⟨f,i⟩:=yj b.2.2 (d.1 _ _ _ c);exact aj c (ah ⟨kF f,by rw[IY];omega⟩)
abbrev SA (a:Nat):=aD2 ((jB a).1) (dH a) ((jB a).2.1) (dU a) ((jB a).2.2.1) (dG a) ((jB a).2.2.2.1) (fC a) ((jB a).2.2.2.2.1) (gu a) ((jB a).2.2.2.2.2) (je a)
theorem acR (a:Nat)(k:zg a)(w:ai)(prog:Int)(s:Slot)(h:gu (a+1) w prog s)(f:((lL (w.p.bg.getD prog.toNat bV) s.Num).1.Card==5)=true):jG (SA a w prog s) (fun r=>(∀x∈r,KW x)/\uX r<=24+64*tV s.Val):=
 by
 obtain⟨j,c,n,p⟩:=h;unfold SA aD2;simp only[af.dO];refine aU c.1 c.2 (aC fun m hv1=>dX (fun _=>ah ⟨fun x o=>absurd o (Yg),vP _⟩) fun hf=> ?_);have b:=(j _ (getD_mem (d:=bV) (l:=w.p.bg) (i:=prog.toNat) au)).2 _ (IZ (g:=w.p.bg.getD prog.toNat bV) (num:=s.Num) qcq);rw[<-hv1]at b f;have e:dU a w m.1 s.Val:=⟨j,b,n,by omega⟩;exact aj ⟨f,trivial⟩ (aj e (ah (k.2.1 _ _ _ e)))
abbrev Ig (a:Nat):=auG ((jB a).1) (dH a) ((jB a).2.1) (dU a) ((jB a).2.2.1) (dG a) ((jB a).2.2.2.1) (fC a) ((jB a).2.2.2.2.1) (gu a) ((jB a).2.2.2.2.2) (je a)
theorem X5 (c:Nat)(n:zg c)(w:ai)(prog:Int)(s:Slot)(h:gu (c+1) w prog s)(b:(kM (lL (w.p.bg.getD prog.toNat bV) s.Num).1)=true/\((lL (w.p.bg.getD prog.toNat bV) s.Num).1.Card==5)=false):jG (Ig c w prog s) (fun r=>(∀x∈r,KW x)/\uX r<=24+64*tV s.Val):=
 by
 obtain⟨m,e,f,o⟩:=h;unfold Ig auG;simp only[af.dO];refine aU e.1 e.2 (aC fun j hv1=>dX (fun _=>ah ⟨fun x k=>absurd k (Yg),vP _⟩) fun hf=> ?_);have a:=(m _ (getD_mem (d:=bV) (l:=w.p.bg) (i:=prog.toNat) au)).2 _ (IZ (g:=w.p.bg.getD prog.toNat bV) (num:=s.Num) qcq);rw[<-hv1]at a b;exact aj ⟨b.2,b.1,trivial⟩ (aj ⟨a.2.2,f⟩ (ah (XJ w j.1 s.Val ⟨a.2.2,f⟩).2))
abbrev Ug (a:Nat):=aDR ((jB a).1) (dH a) ((jB a).2.1) (dU a) ((jB a).2.2.1) (dG a) ((jB a).2.2.2.1) (fC a) ((jB a).2.2.2.2.1) (gu a) ((jB a).2.2.2.2.2) (je a)
theorem aei (b:Nat)(k:zg b)(w:ai)(prog:Int)(s:Slot)(h:gu (b+1) w prog s)(a:((lL (w.p.bg.getD prog.toNat bV) s.Num).1.Card==4)=true/\(kM (lL (w.p.bg.getD prog.toNat bV) s.Num).1)=false/\((lL (w.p.bg.getD prog.toNat bV) s.Num).1.Card==5)=false):jG (Ug b w prog s) (fun r=>(∀x∈r,KW x)/\uX r<=24+64*tV s.Val):=
 by
 obtain⟨j,e,n,p⟩:=h;unfold Ug aDR;simp only[af.dO];refine aU e.1 e.2 (aC fun m hv1=>dX (fun _=>ah ⟨fun x o=>absurd o (Yg),vP _⟩) fun hf=> ?_);have c:=(j _ (getD_mem (d:=bV) (l:=w.p.bg) (i:=prog.toNat) au)).2 _ (IZ (g:=w.p.bg.getD prog.toNat bV) (num:=s.Num) qcq);rw[<-hv1]at c a;have f:dG b w m.1 s.Val:=⟨j,c,n,by omega⟩;exact aj ⟨a.2.2,a.2.1,a.1,trivial⟩ (aj f (ah (k.2.2.1 _ _ _ f)))
abbrev Ri (a:Nat):=aDF ((jB a).1) (dH a) ((jB a).2.1) (dU a) ((jB a).2.2.1) (dG a) ((jB a).2.2.2.1) (fC a) ((jB a).2.2.2.2.1) (gu a) ((jB a).2.2.2.2.2) (je a)
theorem aev (b:Nat)(k:zg b)(w:ai)(prog:Int)(s:Slot)(h:gu (b+1) w prog s)(a:((lL (w.p.bg.getD prog.toNat bV) s.Num).1.Card==4)=false/\(kM (lL (w.p.bg.getD prog.toNat bV) s.Num).1)=false/\((lL (w.p.bg.getD prog.toNat bV) s.Num).1.Card==5)=false):jG (Ri b w prog s) (fun r=>(∀x∈r,KW x)/\uX r<=24+64*tV s.Val):=
 by
 obtain⟨j,e,n,p⟩:=h;unfold Ri aDF;simp only[af.dO];refine aU e.1 e.2 (aC fun m hv1=>dX (fun _=>ah ⟨fun x o=>absurd o (Yg),vP _⟩) fun hf=> ?_);have c:=(j _ (getD_mem (d:=bV) (l:=w.p.bg) (i:=prog.toNat) au)).2 _ (IZ (g:=w.p.bg.getD prog.toNat bV) (num:=s.Num) qcq);rw[<-hv1]at c a;have f:fC b w m.1 s.Val:=⟨j,c,n,by omega⟩;exact aj ⟨a.2.2,a.2.1,a.1,trivial⟩ (aj f (ah (k.2.2.2.1 _ _ _ f)))
abbrev Qm (a:Nat):=aom ((jB a).1) (dH a) ((jB a).2.1) (dU a) ((jB a).2.2.1) (dG a) ((jB a).2.2.2.1) (fC a) ((jB a).2.2.2.2.1) (gu a) ((jB a).2.2.2.2.2) (je a)
theorem Xj (m:Nat)(L:zg m)(w:ai)(prog:Int)(v:af)(h:je (m+1) w prog v):jG (Qm m w prog v) (fun r=>r.length<=64*tV v):=
 by
 obtain⟨R,P,A,h4⟩:=h;unfold Qm aom;simp only[af.dO];obtain⟨u,N⟩:=OV w.p prog v A;have hb:=A.2;refine aj A (aC fun b C=> ?_);rw[<-C]at u N;have E:gV b:=⟨u,by omega⟩;have Z:=qg E;have ht:=iV b;have ks:=(iW b).1 u;have sR:=awc b.bT;have sL:=JR b.bT;have sS:=yU b.Slots;have q:∀i,kD tS (b.Slots.take i)<=kD tS b.Slots:=fun i=>uq (Qc3 i _)
 refine dw <| bY (enI b) ⟨fun x p=>absurd p (Yg),ks.1.2,oC _,by show uX []+uX b.bT<=_;have:uX []=0:=rfl;omega⟩ au (fun j l D n=> ?_) fun l n=> ?_
 ·refine aU au au (bQ (enI b j) (oU (enI b j) (fun x=>x.2.length) n (by have:=n.2.2.1;show l.2.length < tV v+1;omega) fun x p=> ?_) fun B K=> ?_)
  ·obtain⟨o,r⟩:=x;cases r with
   | nil=>exact bK (fun I=>absurd I (by show ¬(0:Int) < ((([]:List Raw).length:Nat):Int);simp)) fun _=>ah p
   | cons a t=>
    obtain⟨g,c,k,e⟩:=p;have k:t.length+1<=b.bT.length:=k;have e:uX o+uX (a::t)<=uX b.bT+64*kD tS (b.Slots.take j):=e;rw[TS]at e;have G:=FH o;have J:=q j;have S:List.drop 1 (List.take (a::t).length (a::t))=t:=by simp
    refine bK (fun I=>aU (H8 0) qce (bK (fun W=>aU (H8 0) qce (aj (dI (by show o.length+1<=_;omega) (by show(o.length+1)*40<=_;omega)) (aj (by simp only[AB];omega) (ah ?_)))) fun _=>ah ⟨g,c,k,by rw[TS];exact e⟩)) fun _=>ah ⟨g,c,k,by rw[TS];exact e⟩;rw[S];refine⟨⟨pU g (kF (c a (List.mem_cons_self))),fun z T=>c z (Qb0 _ T),by show t.length<=_;omega,?_⟩,by show t.length < (a::t).length;simp⟩;show uX (o++[a])+uX t<=_
    rw[JK,IY];omega
  ·have V:=getD_mem (d:=bP) D;obtain⟨Q,g2⟩:=Qz E V;have O:=qw (f:=tS) (d:=bP) D;have U:=Ai (b.Slots.getD j bP);have J:=q (j+1);generalize b.Slots.getD j bP=a at*;rw[Slot.eta];have H:gu m w prog a:=⟨R,P,Q,by omega⟩;obtain⟨M,k2⟩:=L.2.2.2.2.1 w prog a H;obtain⟨g,c,k,e⟩:=K;have G:=FH B.1;have q3:=FH ((jB m).2.2.2.2.1 w prog a);refine aj H (aj (dI au au) (ah ⟨pU g M,c,k,?_⟩));show uX (B.1++(jB m).2.2.2.2.1 w prog a)+uX B.2<=_
   rw[JK,O,U];omega
 ·obtain⟨g,c,k,e⟩:=n;have G:=FH l.1;have J:=FH l.2;rw[Lc]at e;refine aj (dI au au) (aC fun y s=> ?_);have Y:uX y=uX l.1+uX l.2:=by rw[s,JK]
  have F:Xa y:=⟨by rw[s];exact pU g c,by omega⟩;have X:=acm F;exact aj F (ah (by show(Oa y).length<=64*tV v;omega))
theorem lS:∀a,zg a
 | 0=>⟨fun w o v h=>False.elim qb5,
  fun w o v h=>False.elim qb5,
  fun w o v h=>False.elim qb5,
  fun w o v h=>False.elim qb5,
  fun w prog s h=>False.elim (by have k:=h.2.2.2;have:=kZ s.Val;omega),
  fun w prog v h=>False.elim qb5⟩
 | a+1=>⟨fun w o v h=>(Jt a (lS a) w o v h).2,
  fun w o v h=>(IX a (lS a) w o v h).2,
  fun w o v h=>(FZ a (lS a) w o v h).2,
  fun w o v h=>(NZ a (lS a) w o v h).2,
  fun w prog s h=>by
  show(fun r=>(∀x∈r,KW x)/\uX r<=24+64*tV s.Val) ((jB (a+1)).2.2.2.2.1 w prog s)
  unfold jB;dsimp only;cases b:((lL (w.p.bg.getD prog.toNat bV) s.Num).1.Card==5)with
  | true=>exact(acR a (lS a) w prog s h b).2
  | false=>
   cases c:(kM (lL (w.p.bg.getD prog.toNat bV) s.Num).1)with
   | true=>exact(X5 a (lS a) w prog s h ⟨c,b⟩).2
   | false=>
    cases d:((lL (w.p.bg.getD prog.toNat bV) s.Num).1.Card==4)with
    | true=>exact(aei a (lS a) w prog s h ⟨d,c,b⟩).2
    | false=>
     exact(aev a (lS a) w prog s h ⟨d,c,b⟩).2,
  fun w prog v h=>(Xj a (lS a) w prog v h).2⟩
theorem ac9 (a:Nat)(w:ai)(o:Op)(v:af)(h:dH (a+1) w o v):Is (Bz a w o v):=(Jt a (lS a) w o v h).1
theorem aeX (a:Nat)(w:ai)(o:Op)(v:af)(h:dU (a+1) w o v):Is (Bh a w o v):=(IX a (lS a) w o v h).1
theorem abC (a:Nat)(w:ai)(o:Op)(v:af)(h:dG (a+1) w o v):Is (xH a w o v):=(FZ a (lS a) w o v h).1
theorem af2 (a:Nat)(w:ai)(o:Op)(v:af)(h:fC (a+1) w o v):Is (Fj a w o v):=(NZ a (lS a) w o v h).1
theorem axI (a:Nat)(w:ai)(prog:Int)(s:Slot)(h:gu (a+1) w prog s)(b:((lL (w.p.bg.getD prog.toNat bV) s.Num).1.Card==5)=true):Is (SA a w prog s):=(acR a (lS a) w prog s h b).1
theorem aoX (a:Nat)(w:ai)(prog:Int)(s:Slot)(h:gu (a+1) w prog s)(b:(kM (lL (w.p.bg.getD prog.toNat bV) s.Num).1)=true/\((lL (w.p.bg.getD prog.toNat bV) s.Num).1.Card==5)=false):Is (Ig a w prog s):=(X5 a (lS a) w prog s h b).1
theorem awq (a:Nat)(w:ai)(prog:Int)(s:Slot)(h:gu (a+1) w prog s)(b:((lL (w.p.bg.getD prog.toNat bV) s.Num).1.Card==4)=true/\(kM (lL (w.p.bg.getD prog.toNat bV) s.Num).1)=false/\((lL (w.p.bg.getD prog.toNat bV) s.Num).1.Card==5)=false):Is (Ug a w prog s):=(aei a (lS a) w prog s h b).1
theorem awD (a:Nat)(w:ai)(prog:Int)(s:Slot)(h:gu (a+1) w prog s)(b:((lL (w.p.bg.getD prog.toNat bV) s.Num).1.Card==4)=false/\(kM (lL (w.p.bg.getD prog.toNat bV) s.Num).1)=false/\((lL (w.p.bg.getD prog.toNat bV) s.Num).1.Card==5)=false):Is (Ri a w prog s):=(aev a (lS a) w prog s h b).1
theorem aqU (a:Nat)(w:ai)(prog:Int)(v:af)(h:je (a+1) w prog v):Is (Qm a w prog v):=(Xj a (lS a) w prog v h).1
set_option maxHeartbeats 4000000 in
theorem aBo:∀b,dJ Z.P Z.S 421 (mi (args (ak (aI fG) (ak (aI iU) (a1 (aI aK))))) (shr [.slot 0 true (nn 4)] (l1 mQ)) 1 [] (fun a=>some (dH b (a.1) (a.2.1) (a.2.2))) (fun a=>(jB b).1 (a.1) (a.2.1) (a.2.2)))/\dJ Z.P Z.S 363 (mi (args (ak (aI fG) (ak (aI iU) (a1 (aI aK))))) (R1 bG) 1 [] (fun a=>some (dU b (a.1) (a.2.1) (a.2.2))) (fun a=>(jB b).2.1 (a.1) (a.2.1) (a.2.2)))/\dJ Z.P Z.S 365 (mi (args (ak (aI fG) (ak (aI iU) (a1 (aI aK))))) (R1 bG) 1 [] (fun a=>some (dG b (a.1) (a.2.1) (a.2.2))) (fun a=>(jB b).2.2.1 (a.1) (a.2.1) (a.2.2)))/\dJ Z.P Z.S 366 (mi (args (ak (aI fG) (ak (aI iU) (a1 (aI aK))))) (R1 bG) 1 [] (fun a=>some (fC b (a.1) (a.2.1) (a.2.2))) (fun a=>(jB b).2.2.2.1 (a.1) (a.2.1) (a.2.2)))/\dJ Z.P Z.S 179 (mi (args (ak (aI fG) (ak (bz cI) (a1 (aI kY))))) (R1 bG) 1 [] (fun a=>some (gu b (a.1) (a.2.1) (a.2.2))) (fun a=>(jB b).2.2.2.2.1 (a.1) (a.2.1) (a.2.2)))/\dJ Z.P Z.S 119 (mi (args (ak (aI fG) (ak (bz cI) (a1 (aI aK))))) (R1 cStr) 1 [] (fun a=>some (je b (a.1) (a.2.1) (a.2.2))) (fun a=>(jB b).2.2.2.2.2 (a.1) (a.2.1) (a.2.2)))
 | 0=>⟨gp func421 eF (fun a h=>by have k:=h.2.2.2;have:=kZ (a.2.2);omega),
  gp func363 eF (fun a h=>by have k:=h.2.2.2;have:=kZ (a.2.2);omega),
  gp func365 eF (fun a h=>by have k:=h.2.2.2;have:=kZ (a.2.2);omega),
  gp func366 eF (fun a h=>by have k:=h.2.2.2;have:=kZ (a.2.2);omega),
  gp func179 eF (fun a h=>by have k:=h.2.2.2;have:=kZ (a.2.2).Val;omega),
  gp func119 eF (fun a h=>by have k:=h.2.2.2;have:=kZ (a.2.2);omega)⟩
 | b+1=>by
  obtain⟨j,i,c,d,g,f⟩:=aBo b;have m:dJ Z.P Z.S 179 (mi (args (ak (aI fG) (ak (bz cI) (a1 (aI kY))))) (R1 bG) 1 [] (fun a=>some (((lL ((a.1).p.bg.getD (a.2.1).toNat bV) (a.2.2).Num).1.Card==5)=true/\(gu (b+1) (a.1) (a.2.1) (a.2.2)))) (fun a=>(SA b (a.1) (a.2.1) (a.2.2)).val)):=zD [OT,aEO,⟨421,_,j⟩,⟨363,_,i⟩,⟨365,_,c⟩,⟨366,_,d⟩,⟨179,_,g⟩,⟨119,_,f⟩] [] func179 ntmps179 (fun a=>SA b a.1 a.2.1 a.2.2) (fun a h=>⟨axI b a.1 a.2.1 a.2.2 h.2 h.1,rfl⟩) (jr (n:=30) rfl);have o:dJ Z.P Z.S 179 (mi (args (ak (aI fG) (ak (bz cI) (a1 (aI kY))))) (R1 bG) 1 [] (fun a=>some ((kM (lL ((a.1).p.bg.getD (a.2.1).toNat bV) (a.2.2).Num).1)=true/\(((lL ((a.1).p.bg.getD (a.2.1).toNat bV) (a.2.2).Num).1.Card==5)=false/\(gu (b+1) (a.1) (a.2.1) (a.2.2))))) (fun a=>(Ig b (a.1) (a.2.1) (a.2.2)).val)):=zD [OT,aB_,ax_,⟨421,_,j⟩,⟨363,_,i⟩,⟨365,_,c⟩,⟨366,_,d⟩,⟨179,_,g⟩,⟨119,_,f⟩] [] func179 ntmps179 (fun a=>Ig b a.1 a.2.1 a.2.2) (fun a h=>⟨aoX b a.1 a.2.1 a.2.2 h.2.2 ⟨h.1,h.2.1⟩,rfl⟩) (jr (n:=30) rfl);have q:dJ Z.P Z.S 179 (mi (args (ak (aI fG) (ak (bz cI) (a1 (aI kY))))) (R1 bG) 1 [] (fun a=>some (((lL ((a.1).p.bg.getD (a.2.1).toNat bV) (a.2.2).Num).1.Card==4)=true/\((kM (lL ((a.1).p.bg.getD (a.2.1).toNat bV) (a.2.2).Num).1)=false/\(((lL ((a.1).p.bg.getD (a.2.1).toNat bV) (a.2.2).Num).1.Card==5)=false/\(gu (b+1) (a.1) (a.2.1) (a.2.2)))))) (fun a=>(Ug b (a.1) (a.2.1) (a.2.2)).val)):=zD [OT,aD5,⟨421,_,j⟩,⟨363,_,i⟩,⟨365,_,c⟩,⟨366,_,d⟩,⟨179,_,g⟩,⟨119,_,f⟩] [] func179 ntmps179 (fun a=>Ug b a.1 a.2.1 a.2.2) (fun a h=>⟨awq b a.1 a.2.1 a.2.2 h.2.2.2 ⟨h.1,h.2.1,h.2.2.1⟩,rfl⟩) (jr (n:=30) rfl);have p:dJ Z.P Z.S 179 (mi (args (ak (aI fG) (ak (bz cI) (a1 (aI kY))))) (R1 bG) 1 [] (fun a=>some (((lL ((a.1).p.bg.getD (a.2.1).toNat bV) (a.2.2).Num).1.Card==4)=false/\((kM (lL ((a.1).p.bg.getD (a.2.1).toNat bV) (a.2.2).Num).1)=false/\(((lL ((a.1).p.bg.getD (a.2.1).toNat bV) (a.2.2).Num).1.Card==5)=false/\(gu (b+1) (a.1) (a.2.1) (a.2.2)))))) (fun a=>(Ri b (a.1) (a.2.1) (a.2.2)).val)):=zD [OT,aD6,⟨421,_,j⟩,⟨363,_,i⟩,⟨365,_,c⟩,⟨366,_,d⟩,⟨179,_,g⟩,⟨119,_,f⟩] [] func179 ntmps179 (fun a=>Ri b a.1 a.2.1 a.2.2) (fun a h=>⟨awD b a.1 a.2.1 a.2.2 h.2.2.2 ⟨h.1,h.2.1,h.2.2.1⟩,rfl⟩) (jr (n:=30) rfl);exact⟨zD [MI,⟨421,_,j⟩,⟨363,_,i⟩,⟨365,_,c⟩,⟨366,_,d⟩,⟨179,_,g⟩,⟨119,_,f⟩] [] func421 ntmps421 (fun a=>Bz b a.1 a.2.1 a.2.2) (fun a h=>⟨ac9 b a.1 a.2.1 a.2.2 h,rfl⟩) (jr (n:=18) rfl),
   zD [apS,Dn,MI,⟨421,_,j⟩,⟨363,_,i⟩,⟨365,_,c⟩,⟨366,_,d⟩,⟨179,_,g⟩,⟨119,_,f⟩] [jS 3 (bJ (fun l=>[s0 14, .slot 7 false [some 286]]) (ay cI (l1 bG)))] func363 ntmps363 (fun a=>Bh b a.1 a.2.1 a.2.2) (fun a h=>⟨aeX b a.1 a.2.1 a.2.2 h,rfl⟩) (jr (n:=39) rfl),
   zD [Dn,⟨421,_,j⟩,⟨363,_,i⟩,⟨365,_,c⟩,⟨366,_,d⟩,⟨179,_,g⟩,⟨119,_,f⟩] [jS 3 (bJ (fun l=>[s0 13, .slot 7 false [some 286]]) (ay cI (l1 bG)))] func365 ntmps365 (fun a=>xH b a.1 a.2.1 a.2.2) (fun a h=>⟨abC b a.1 a.2.1 a.2.2 h,rfl⟩) (jr (n:=29) rfl),
   zD [Dn,⟨421,_,j⟩,⟨363,_,i⟩,⟨365,_,c⟩,⟨366,_,d⟩,⟨179,_,g⟩,⟨119,_,f⟩] [] func366 ntmps366 (fun a=>Fj b a.1 a.2.1 a.2.2) (fun a h=>⟨af2 b a.1 a.2.1 a.2.2 h,rfl⟩) (jr (n:=15) rfl),
   wK m (wK o (wK q (p))),
   zD [aj_,apS,⟨421,_,j⟩,⟨363,_,i⟩,⟨365,_,c⟩,⟨366,_,d⟩,⟨179,_,g⟩,⟨119,_,f⟩] [jS 5 (bJ (fun l=>[s0 22, .slot 8 false [some 286], s0 9]) (ay cI (ay bG (l1 bG)))),jS 7 (bJ (fun l=>[.slot 8 false [some 286], s0 9]) (ay bG (l1 bG))),jS 100010 (bJ (fun l=>[.slot 8 false [some 286], s0 9]) (ay bG (l1 bG)))] func119 ntmps119 (fun a=>Qm b a.1 a.2.1 a.2.2) (fun a h=>⟨aqU b a.1 a.2.1 a.2.2 h,rfl⟩) (jr (n:=57) rfl)⟩
def ax4:aY Z:=⟨119,mi (args (ak (aI fG) (ak (bz cI) (a1 (aI aK))))) (R1 cStr) 1 [] (fun a=>some (dR (a.1).p/\(0<=(a.2.1)/\(a.2.1) < (a.1).p.bg.length)/\gV (a.2.2))) (fun a=>arw (a.1) (a.2.1) (a.2.2)),jH (fun n=>((aBo n).2.2.2.2.2)) _ _ (fun a h=>⟨4*tV (a.2.2),⟨h.1,h.2.1,h.2.2,oC _⟩,rfl⟩)⟩
def aku (p:df)(prog:Int):Pg Bool:=.br (decide (0<=prog)) (.br (decide (prog < (↑p.bg.length:Int))) (.ob (J4 p/\dR p) (aL p.bg (.ret (ayM p==0)))) (aL p.bg (.ret false))) (.ret false)
def aps (p:df)(prog:Int):=(aku p prog).val
def amF:aY Z:=E1 [asG] [] (ak (aI dN) (a1 (bz cI))) (R1 aG) [] func117 1 (u2 aku) fun a=>J4 a.1/\dR a.1
def Qp (p:df)(b:Str)(v:af):Pg (List UInt8×Int):=.lt (yY p b) fun a=> .br (!a.2) (.ret ([],10)) (.ob (J4 p/\dR p) (.br (!aps p a.1) (.ret ([],1)) (.ob (dR p/\gV v.re) (.lt (aC8 p a.1 v.re) fun d=> .br (d !=0) (.ret ([],d)) (.ob (dR p/\(0<=a.1/\a.1 < (↑p.bg.length:Int))/\gV v.re) (.lt (arw (ai.mk p) a.1 v.re) fun c=> .br (decide (65536 < (↑(List.length c):Int))) (.ret ([],3)) (.ret (c,0))))))))
def asv (p:df)(a:Str)(v:af):=(Qp p a v).val
theorem NU (p:df)(b:Str)(v:af)(h:J4 p/\dR p/\gV v):jG (Qp p b v) (fun r=>r.1.length<=65536):=
 by
 obtain⟨g,a,c⟩:=h;unfold Qp;simp only[af.dO];refine aC fun l d=>dX (fun _=>ah (vP _)) fun e=>aj ⟨g,a⟩ (dX (fun _=>ah (vP _)) fun _=>aj ⟨a,c⟩ (aC fun m j=>dW (fun _=>ah (vP _)) fun _=>aj ⟨a,?_,c⟩ (aC fun f k=>bK (fun _=>ah (vP _)) fun i=>ah (by show f.length<=65536;omega))));rw[d]at e⊢;exact UU (by simpa using e)
def EN:aY Z:=E1 [ZO,amF,axr,ax4] [] (ak (aI dN) (ak (bz cStr) (a1 (aI aK)))) (shr [s0 0, s0 1] (ay cStr (l1 cI))) [] func66 2 (u3 Qp) (fun a=>J4 a.1/\dR a.1/\gV a.2.2) fun a h=>(NU a.1 a.2.1 a.2.2 h).1


theorem Fp {A:Type}{l:List (List A)}{k:Nat}(h:k < l.length):(l.take (k+1)).flatten=(l.take k).flatten++l.getD k []:=by
 rw[take_snoc (d:=[]) h,List.flatten_append];simp
theorem ahZ {A:Type}(l:List (List A))(k:Nat):(l.take k).flatten.length<=l.flatten.length:=by
 have e:l.flatten=(l.take k).flatten++(l.drop k).flatten:=by rw[<-List.flatten_append,Qcd]
 rw[e,qO];omega
theorem awi (w:World):Calls Tryz.prog 444 #[.slice none 0 0, .int .i64 0] w fun e a=>e= .returned (.slice none 0 0)/\a=w:=by
 have mixed:Tryz.prog.follows Departure.mixedOrders=true:=by kernel_rfl
 go_enter func444,ntmps444
 go_wp2
 go_ret
 exact⟨rfl,rfl⟩
set_option maxHeartbeats 1000000 in
theorem ayN (n h a:Nat)(w c:World)(i:0 < n)(k:n<=a)(l:n<=9223372036854775807)(b:∀f,(Builtin.append_ #[56,3] f #[.slice none 0 0, .int .i64 n]).run Tryz.prog w= .ok (.slice (some ⟨h,0,none⟩) n a) c):
  Calls Tryz.prog 444 #[.slice none 0 0, .int .i64 n] w fun e d=>e= .returned (.slice (some ⟨h,0,none⟩) 0 a)/\d=c:=by
 have o:¬((n:Int) < 0):=by omega
 have j:IntKind.i64.wrap ((n:Int))=(n:Int):=by rw[IntKind.wrap_i64];omega
 have m:(n:Int) > 0:=by omega
 have g:(0:Int) < (n:Int):=by omega
 have mixed:Tryz.prog.follows Departure.mixedOrders=true:=by kernel_rfl
 go_enter func444,ntmps444
 go_wp2_with (at_builtin;refine Lib.wpList_append_run _ rfl _ _ 56 3 rfl _ _ rfl rfl _ _ (b _) ?_)
 all_goals (go_ret;exact⟨rfl,rfl⟩)
def akH:Ct D:=U3 S 61 7 128 ([.int .i64 0, .int .u64 0, .string ⟨#[]⟩, .slice none 0 0, .slice none 0 0, .slice none 0 0, .slice none 0 0].map fun v=>(xx v).norm)
theorem ags:dJ Tryz.prog S 444 akH:=by
 obtain⟨inf,z,h,b,d,g,f⟩:=ul (ax0 61 _ rfl);refine LG (t:=56) (ti:=3) (kn:= .i64) (inf:=inf) (z:=z) axw (fun args w=> ?_) ⟨awi,ayN⟩ qp underlying56 underlying3 h b d g ?_
 ·have i:=func444;have a:¬f444.name= "runtime.NumGoroutine" :=by decide+kernel
  obtain⟨c,e⟩:∃c,f444.body=some c:=⟨_,rfl⟩;simp[callFunc,i,a,e]
 ·rw[<-WJ,f];rfl
def aEi:aY Z:=⟨444,akH,ags⟩
def av2 (l:List (List af)):Pg (List af):=.cut (fun(c:Int)=> .ob (0<=c/\c*(128:Int)<=281474976710656/\c<=1099511627776) (aL l (.each false oG l [] (fun d (e a:List af)=> .ix d l.length (.ob (dE (a.length+e.length) 128) (rl (a++e)))) (fun d (a:List af)=> .ret a) (List.replicate 0 (af.mk 0 0 [] [] [] [] []))))) (aL l (.each false oG l [] (fun h f (b:Int)=> .ix h l.length (aL f (.lt (dA .i64 (b+(↑f.length:Int))) fun g=> .br (decide (g < 0)) (.no default) (rl g)))) (fun(h b:Int)=> rl b) 0))
def aAD (l:List (List af)):=(av2 l).val
theorem adL (l:List (List af))(h:l.flatten.length<=2097152/\l.length<=2097152):jG (av2 l) (fun r=>r=l.flatten):=
 by
 have c:=ahZ l;unfold av2;refine bQ (fun y=>y=(l.flatten.length:Int)) (dw (bY (fun k y=>y=((l.take k).flatten.length:Int)) rfl au (fun k y a hI=> ?_) (fun y hI=>ah qbx))) (fun m g=>aj ⟨by omega,by omega,by omega⟩ (dw (bY (fun k y=>y=(l.take k).flatten) rfl au (fun k y a hI=> ?_) (fun y hI=>ah qbx))))
 ·have e:=Qcw List.length (Fp a);rw[qO]at e;have d:=c (k+1);exact aU au au (dw (lU fun f i j=>bK (fun b=>absurd b au) (fun _=>ah (by show f=_;omega))))
 ·have e:=Fp a;have d:=c (k+1);rw[e,qO]at d;exact aU au au (aj qci (ah (by rw[hI];exact e.symm)))
def aEp:aY Z:=E1 [aEi] [jS 3 (bJ (fun b=>[s0 11, s0 3]) (ay cI (l1 cI))),jS 11 (bJ (fun b=>[s0 27, .slot 6 false [some 61]]) (ay cI (l1 iD))),jS 100009 (bJ (fun b=>[s0 3]) (l1 cI))] (a1 (bz Yz)) (shr [.slot 0 false [some 61]] (l1 iD)) [] func405 1 av2 (fun a=>a.flatten.length<=2097152/\a.length<=2097152) fun a h=>(adL a h).1
theorem ay6 (w:World):Calls Tryz.prog 445 #[.slice none 0 0, .int .i64 0] w fun e a=>e= .returned (.slice none 0 0)/\a=w:=by
 have mixed:Tryz.prog.follows Departure.mixedOrders=true:=by kernel_rfl
 go_enter func445,ntmps445
 go_wp2
 go_ret
 exact⟨rfl,rfl⟩
set_option maxHeartbeats 1000000 in
theorem ayv (n h a:Nat)(w c:World)(i:0 < n)(k:n<=a)(l:n<=9223372036854775807)(b:∀f,(Builtin.append_ #[57,3] f #[.slice none 0 0, .int .i64 n]).run Tryz.prog w= .ok (.slice (some ⟨h,0,none⟩) n a) c):
  Calls Tryz.prog 445 #[.slice none 0 0, .int .i64 n] w fun e d=>e= .returned (.slice (some ⟨h,0,none⟩) 0 a)/\d=c:=by
 have o:¬((n:Int) < 0):=by omega
 have j:IntKind.i64.wrap ((n:Int))=(n:Int):=by rw[IntKind.wrap_i64];omega
 have m:(n:Int) > 0:=by omega
 have g:(0:Int) < (n:Int):=by omega
 have mixed:Tryz.prog.follows Departure.mixedOrders=true:=by kernel_rfl
 go_enter func445,ntmps445
 go_wp2_with (at_builtin;refine Lib.wpList_append_run _ rfl _ _ 57 3 rfl _ _ rfl rfl _ _ (b _) ?_)
 all_goals (go_ret;exact⟨rfl,rfl⟩)
def akG:Ct D:=U3 S 297 14 256 ([.int .i64 0, .int .u64 0, .string ⟨#[]⟩, .slice none 0 0, .slice none 0 0, .slice none 0 0, .slice none 0 0, .int .i64 0, .int .u64 0, .string ⟨#[]⟩, .slice none 0 0, .slice none 0 0, .slice none 0 0, .slice none 0 0].map fun v=>(xx v).norm)
theorem ahE:dJ Tryz.prog S 445 akG:=by
 obtain⟨inf,z,h,b,d,g,f⟩:=ul (ax0 297 _ rfl);refine LG (t:=57) (ti:=3) (kn:= .i64) (inf:=inf) (z:=z) axw (fun args w=> ?_) ⟨ay6,ayv⟩ qp underlying57 underlying3 h b d g ?_
 ·have i:=func445;have a:¬f445.name= "runtime.NumGoroutine" :=by decide+kernel
  obtain⟨c,e⟩:∃c,f445.body=some c:=⟨_,rfl⟩;simp[callFunc,i,a,e]
 ·rw[<-WJ,f];rfl
def aDr:aY Z:=⟨445,akG,ahE⟩
def awI (l:List (List Pair)):Pg (List Pair):=.cut (fun(c:Int)=> .ob (0<=c/\c*(256:Int)<=281474976710656/\c<=1099511627776) (aL l (.each false oG l [] (fun d (e a:List Pair)=> .ix d l.length (.ob (dE (a.length+e.length) 256) (rl (a++e)))) (fun d (a:List Pair)=> .ret a) (List.replicate 0 (Pair.mk (af.mk 0 0 [] [] [] [] []) (af.mk 0 0 [] [] [] [] [])))))) (aL l (.each false oG l [] (fun h f (b:Int)=> .ix h l.length (aL f (.lt (dA .i64 (b+(↑f.length:Int))) fun g=> .br (decide (g < 0)) (.no default) (rl g)))) (fun(h b:Int)=> rl b) 0))
def aBF (l:List (List Pair)):=(awI l).val
theorem adr (l:List (List Pair))(h:l.flatten.length<=2097152/\l.length<=2097152):jG (awI l) (fun r=>r=l.flatten):=
 by
 have c:=ahZ l;unfold awI;refine bQ (fun y=>y=(l.flatten.length:Int)) (dw (bY (fun k y=>y=((l.take k).flatten.length:Int)) rfl au (fun k y a hI=> ?_) (fun y hI=>ah qbx))) (fun m g=>aj ⟨by omega,by omega,by omega⟩ (dw (bY (fun k y=>y=(l.take k).flatten) rfl au (fun k y a hI=> ?_) (fun y hI=>ah qbx))))
 ·have e:=Qcw List.length (Fp a);rw[qO]at e;have d:=c (k+1);exact aU au au (dw (lU fun f i j=>bK (fun b=>absurd b au) (fun _=>ah (by show f=_;omega))))
 ·have e:=Fp a;have d:=c (k+1);rw[e,qO]at d;exact aU au au (aj qci (ah (by rw[hI];exact e.symm)))
def aFf:aY Z:=E1 [aDr] [jS 3 (bJ (fun b=>[s0 11, s0 3]) (ay cI (l1 cI))),jS 11 (bJ (fun b=>[s0 27, .slot 6 false [some 297]]) (ay cI (l1 d_))),jS 100009 (bJ (fun b=>[s0 3]) (l1 cI))] (a1 (bz Xi)) (shr [.slot 0 false [some 297]] (l1 d_)) [] func406 1 awI (fun a=>a.flatten.length<=2097152/\a.length<=2097152) fun a h=>(adr a h).1
theorem ayy (w:World):Calls Tryz.prog 446 #[.slice none 0 0, .int .i64 0] w fun e a=>e= .returned (.slice none 0 0)/\a=w:=by
 have mixed:Tryz.prog.follows Departure.mixedOrders=true:=by kernel_rfl
 go_enter func446,ntmps446
 go_wp2
 go_ret
 exact⟨rfl,rfl⟩
set_option maxHeartbeats 1000000 in
theorem axM (n h a:Nat)(w c:World)(i:0 < n)(k:n<=a)(l:n<=9223372036854775807)(b:∀f,(Builtin.append_ #[59,3] f #[.slice none 0 0, .int .i64 n]).run Tryz.prog w= .ok (.slice (some ⟨h,0,none⟩) n a) c):
  Calls Tryz.prog 446 #[.slice none 0 0, .int .i64 n] w fun e d=>e= .returned (.slice (some ⟨h,0,none⟩) 0 a)/\d=c:=by
 have o:¬((n:Int) < 0):=by omega
 have j:IntKind.i64.wrap ((n:Int))=(n:Int):=by rw[IntKind.wrap_i64];omega
 have m:(n:Int) > 0:=by omega
 have g:(0:Int) < (n:Int):=by omega
 have mixed:Tryz.prog.follows Departure.mixedOrders=true:=by kernel_rfl
 go_enter func446,ntmps446
 go_wp2_with (at_builtin;refine Lib.wpList_append_run _ rfl _ _ 59 3 rfl _ _ rfl rfl _ _ (b _) ?_)
 all_goals (go_ret;exact⟨rfl,rfl⟩)
def ajg:Ct D:=U3 S 286 4 40 ([.int .i64 0, .int .i64 0, .int .u64 0, .string ⟨#[]⟩].map fun v=>(xx v).norm)
theorem ag4:dJ Tryz.prog S 446 ajg:=by
 obtain⟨inf,z,h,b,d,g,f⟩:=ul (ax0 286 _ rfl);refine LG (t:=59) (ti:=3) (kn:= .i64) (inf:=inf) (z:=z) axw (fun args w=> ?_) ⟨ayy,axM⟩ qp underlying59 underlying3 h b d g ?_
 ·have i:=func446;have a:¬f446.name= "runtime.NumGoroutine" :=by decide+kernel
  obtain⟨c,e⟩:∃c,f446.body=some c:=⟨_,rfl⟩;simp[callFunc,i,a,e]
 ·rw[<-WJ,f];rfl
def aEa:aY Z:=⟨446,ajg,ag4⟩
def aws (l:List (List Raw)):Pg (List Raw):=.cut (fun(c:Int)=> .ob (0<=c/\c*(40:Int)<=281474976710656/\c<=1099511627776) (aL l (.each false oG l [] (fun d (e a:List Raw)=> .ix d l.length (.ob (dE (a.length+e.length) 40) (rl (a++e)))) (fun d (a:List Raw)=> .ret a) (List.replicate 0 (Raw.mk 0 0 0 []))))) (aL l (.each false oG l [] (fun h f (b:Int)=> .ix h l.length (aL f (.lt (dA .i64 (b+(↑f.length:Int))) fun g=> .br (decide (g < 0)) (.no default) (rl g)))) (fun(h b:Int)=> rl b) 0))
def arI (l:List (List Raw)):=(aws l).val
theorem aep (l:List (List Raw))(h:l.flatten.length<=2097152/\l.length<=2097152):jG (aws l) (fun r=>r=l.flatten):=
 by
 have c:=ahZ l;unfold aws;refine bQ (fun y=>y=(l.flatten.length:Int)) (dw (bY (fun k y=>y=((l.take k).flatten.length:Int)) rfl au (fun k y a hI=> ?_) (fun y hI=>ah qbx))) (fun m g=>aj ⟨by omega,by omega,by omega⟩ (dw (bY (fun k y=>y=(l.take k).flatten) rfl au (fun k y a hI=> ?_) (fun y hI=>ah qbx))))
 ·have e:=Qcw List.length (Fp a);rw[qO]at e;have d:=c (k+1);exact aU au au (dw (lU fun f i j=>bK (fun b=>absurd b au) (fun _=>ah (by show f=_;omega))))
 ·have e:=Fp a;have d:=c (k+1);rw[e,qO]at d;exact aU au au (aj qci (ah (by rw[hI];exact e.symm)))
def aC4:aY Z:=E1 [aEa] [jS 3 (bJ (fun b=>[s0 11, s0 3]) (ay cI (l1 cI))),jS 11 (bJ (fun b=>[s0 27, .slot 6 false [some 286]]) (ay cI (l1 bG))),jS 100009 (bJ (fun b=>[s0 3]) (l1 cI))] (a1 (bz acf)) (shr [.slot 0 false [some 286]] (l1 bG)) [] func407 1 aws (fun a=>a.flatten.length<=2097152/\a.length<=2097152) fun a h=>(aep a h).1
def clF (l:List aP):Pg (List aP):=.unk false (fun(b:Bool)=>b=true->l.length=0) (.ret []) (.ob (dE (0+l.length) 240) (.ret l))
theorem aCc (l:List aP)(h:l.length<=1048576):Is (clF l):=
 wE (dI au au)
def aHZ:aY Z:=E2 [] [] (a1 (bz fZ)) (shr [.slot 0 false [some 64]] (l1 fZ)) [] func441 1 clF (fun a=>some (a.length<=1048576)) (fun a=>a) fun a h=>⟨aCc a h,rfl⟩
def unC (x:aP)(a:Str):Pg Bool:=.ret (x.Union !=a)
def aeG (x:aP)(a:Str):=(unC x a).val
def atl:aY Z:=yu [] [] (ak (aI dY) (a1 (iE 0))) (b1 (aS cStr)) (R1 aG) [0] func442 1 (u11 unC)
def aAw:aY Z:=Oc [atl] fZ 442 [0] (b1 (aS cStr)) func372 aJ fun x b=>aeG x b
def unD (l:List aP)(b:Str):Pg (List aP):=.lt (iI (fun(x:aP)=>aeG x b) l) fun c=> .br (c==(-1)) (.ret l) (.lt (dA .i64 (c+1)) fun f=> .wh (l.length+1) default (fun(a:Int×Int×List aP)=> aL a.2.2 (.br (decide (a.1 < (↑a.2.2.length:Int))) (.ix a.1 a.2.2.length (.ob (a.1.toNat < a.2.2.length) (.lt (dA .i64 (a.1+1)) fun e=> .br (!aeG (aP.mk (a.2.2.getD a.1.toNat aJ).Num (a.2.2.getD a.1.toNat aJ).Name (a.2.2.getD a.1.toNat aJ).Card (a.2.2.getD a.1.toNat aJ).Key (a.2.2.getD a.1.toNat aJ).dS (a.2.2.getD a.1.toNat aJ).Union (a.2.2.getD a.1.toNat aJ).dK (a.2.2.getD a.1.toNat aJ).Default.re (a.2.2.getD a.1.toNat aJ).Notes) b) (.ix a.2.1 a.2.2.length (.ob (a.2.1.toNat < a.2.2.length) (rl (e,dA .i64 (a.2.1+1), a.2.2.set a.2.1.toNat (aP.mk (a.2.2.getD a.1.toNat aJ).Num (a.2.2.getD a.1.toNat aJ).Name (a.2.2.getD a.1.toNat aJ).Card (a.2.2.getD a.1.toNat aJ).Key (a.2.2.getD a.1.toNat aJ).dS (a.2.2.getD a.1.toNat aJ).Union (a.2.2.getD a.1.toNat aJ).dK (a.2.2.getD a.1.toNat aJ).Default.re (a.2.2.getD a.1.toNat aJ).Notes))))) (rl (e,a.2))))) (.ob (0<=a.2.1/\a.2.1<=(↑a.2.2.length:Int)/\(↑a.2.2.length:Int)<=(↑a.2.2.length:Int)) (.ob (a.2.2.length=a.2.2.length) (.lt (List.take a.2.1.toNat a.2.2++ List.replicate (a.2.2.length - a.2.1.toNat) (aP.mk 0 [] 0 0 (xg.mk 0 []) [] false (af.mk 0 0 [] [] [] [] []) [])) fun d=> .ob ((0:Int)<=0/\0<=a.2.1/\a.2.1<=(↑d.length:Int)) (.ret (.inr (List.take a.2.1.toNat d)))))))) (f,c,l))
theorem akT (l:List aP)(a:Str):unD l a=adm (fun(x:aP)=>aeG x a) aJ l:=by
 unfold unD adm;(try simp only[af.dO])
 rfl
theorem aC1 (l:List aP)(a:Str)(h:l.length<=1048576):Is (unD l a):=
 by
 rw[akT];exact(arZ (fun(x:aP)=>aeG x a) aJ l au).1
def aIo:aY Z:=XX [UQ,Ze,ahY,aAw,atl] [jS 5 (bJ (fun c=>[s0 6, s0 5, .row (pid (c 0)) 64]) (ay cI (ay cI (l1 fZ))))] (ak (nM 0) (a1 (jP 442 [1]))) (gQ (kX 64 D.aP tu) (b1 (aS cStr))) (R1 fZ) [1] func440 1 (fun a=>unD a.2.1 a.2.2) (fun a=>some (a.2.1.length<=1048576)) (fun a=>a.2.1.filter fun(x:aP)=> !(aeG x a.2.2)) fun a h=>⟨aC1 a.2.1 a.2.2 h,(fun(l:List aP) b (h:l.length<=1048576)=>(Qcw Pg.val (akT l b)).trans (arZ (fun(x:aP)=>aeG x b) aJ l au).2) a.2.1 a.2.2 h⟩
def aua (m:aX)(a:Str):Pg (List aP):=.br (a==[]) (.ret []) (.ob (m.Fields.length<=1048576) (.ob (m.Fields.length<=1048576) (.ret (List.filter (fun(x:aP)=> !aeG x a) m.Fields))))
def azl (m:aX)(a:Str):=(aua m a).val
def aqt:aY Z:=E1 [aIo,aHZ,atl] [] (ak (aI fF) (a1 (bz cStr))) (R1 fZ) [] func401 1 (u2 aua) fun a=>a.1.Fields.length<=1048576
def phC (x:Slot)(a:Int):Pg Bool:=.ret (x.Num==a)
def aHa (x:Slot)(a:Int):=(phC x a).val
def aBj:aY Z:=yu [] [] (ak (aI kY) (a1 (iE 0))) (b1 (aS cI)) (R1 aG) [0] func459 1 (u11 phC)
def ao3:aY Z:=Oc [aBj] bH 459 [0] (b1 (aS cI)) func360 bP fun x b=>aHa x b
def aqW (l:List Slot)(a:Int):Pg Int:=.ret (iI (fun(x:Slot)=>aHa x a) l)
def aza (l:List Slot)(a:Int):=(aqW l a).val
def atN:aY Z:=E0 [ao3,aBj] [] (ak (bz bH) (a1 (bz cI))) (R1 cI) [] func443 1 (u2 aqW)
def aGq (v:af)(a:Int):Pg Bool:=.lt (aza v.Slots a) fun b=> .ret (decide (0<=b))
def aGY (v:af)(a:Int):=(aGq v a).val
def aEv:aY Z:=E0 [atN] [] (ak (aI aK) (a1 (bz cI))) (R1 aG) [] func403 1 (u2 aGq)
def moC (g:aP)(f:aP)(b:af):Pg Bool:=.br (g.Num !=f.Num) (.ret (aGY b.re g.Num)) (.ret false)
def aEW (g:aP)(f:aP)(b:af):=(moC g f b).val
def apb:aY Z:=yu [aEv] [] (ak (aI dY) (ak (iE 0) (a1 (iE 1)))) (gQ (aS dY) (b1 (aS aK))) (R1 aG) [0,1] func402 1 fun a=>moC a.1.1 a.2.1 a.2.2
def aHF:aY Z:=Oc [apb] fZ 402 [0,1] (gQ (aS dY) (b1 (aS aK))) func372 aJ fun x b=>aEW x b.1 b.2
def aIq:aY Z:=EAB [UQ,Ze,ahY,aAw,aHF,apb] fZ 402 [0,1] (gQ (aS dY) (b1 (aS aK))) func275 fun x b=>aEW x b.1 b.2
def akM (m:aX)(f:aP)(b:af):Pg Bool:=.ob (m.Fields.length<=1048576) (.ret ((azl m f.Union).any fun(x:aP)=>aEW x (aP.mk f.Num f.Name f.Card f.Key f.dS f.Union f.dK f.Default.re f.Notes) b.re))
def ata (m:aX)(f:aP)(b:af):=(akM m f b).val
def alT:aY Z:=E1 [ahK,aud,atU,aIq,aqt,apb] [] (ak (aI fF) (ak (aI dY) (a1 (aI aK)))) (R1 aG) [] func312 1 (u3 akM) fun a=>a.1.Fields.length<=1048576
def mgC (x:Slot)(m:aX)(b:af):Pg Bool:=.ob (m.Fields.length<=1048576) (.lt (aat m x.Num) fun a=> .ret (ata m (aP.mk a.1.Num a.1.Name a.1.Card a.1.Key a.1.dS a.1.Union a.1.dK a.1.Default.re a.1.Notes) b.re))
def LV (x:Slot)(m:aX)(b:af):=(mgC x m b).val
def asM:aY Z:=Df [SS,alT] [] (ak (aI kY) (ak (iE 0) (a1 (iE 1)))) (gQ (aS fF) (b1 (aS aK))) (R1 aG) [0,1] func311 1 (fun a=>mgC a.1.1 a.2.1 a.2.2) fun a=>a.2.1.Fields.length<=1048576
def mgI (l:List Slot)(m:aX)(b:af):Pg Int:=aL l (.each false um l bP (fun a c (d:Unit)=> .ix a l.length (.ob (a.toNat < l.length) (.ob (m.Fields.length<=1048576) (.br (LV (Slot.mk c.Num c.Val.re) m b.re) (.ret (.inr a)) (rl ()))))) (fun a (d:Unit)=> .ret (-1)) ())
theorem aC7 (l:List Slot)(m:aX)(b:af):(mgI l m b).val=iI (fun x=>LV x m b) l:=by
 unfold mgI;simp only[kK,DN,lG,eG,cO,bu,af.dO];exact m_ (fun x=>LV x m b) l 0
theorem aDh (l:List Slot)(m:aX)(b:af)(h:m.Fields.length<=1048576):Is (mgI l m b):=
 eH fun _=>fU (.inr au) (fun c a _ _=>bW au au (aW au (aW h (aT iR iR)))) (fun a _=>aO)
def aBm:aY Z:=XX [asM] [jS 2 (bJ (fun c=>[s0 8]) (l1 cI))] (ak (nM 0) (a1 (jP 311 [1,2]))) (gQ (kX 279 D.Slot jq) (gQ (aS fF) (b1 (aS aK)))) (R1 cI) [0,1,2] func360 1 (fun a=>mgI a.2.1 a.2.2.1 a.2.2.2) (fun a=>some (a.2.2.1.Fields.length<=1048576)) (fun a=>iI (fun(x:Slot)=>LV x a.2.2.1 a.2.2.2) a.2.1) fun a h=>⟨aDh a.2.1 a.2.2.1 a.2.2.2 h,(fun l m b _=>aC7 l m b) a.2.1 a.2.2.1 a.2.2.2 h⟩
def mgD (l:List Slot)(m:aX)(b:af):Pg (List Slot):=.ob (m.Fields.length<=1048576) (.lt (iI (fun(x:Slot)=>LV x m b.re) l) fun c=> .br (c==(-1)) (.ret l) (.lt (dA .i64 (c+1)) fun f=> .wh (l.length+1) default (fun(a:Int×Int×List Slot)=> aL a.2.2 (.br (decide (a.1 < (↑a.2.2.length:Int))) (.ix a.1 a.2.2.length (.ob (a.1.toNat < a.2.2.length) (.ob (m.Fields.length<=1048576) (.lt (dA .i64 (a.1+1)) fun e=> .br (!LV (Slot.mk (a.2.2.getD a.1.toNat bP).Num (a.2.2.getD a.1.toNat bP).Val.re) m b.re) (.ix a.2.1 a.2.2.length (.ob (a.2.1.toNat < a.2.2.length) (rl (e,dA .i64 (a.2.1+1), a.2.2.set a.2.1.toNat (Slot.mk (a.2.2.getD a.1.toNat bP).Num (a.2.2.getD a.1.toNat bP).Val.re))))) (rl (e,a.2)))))) (.ob (0<=a.2.1/\a.2.1<=(↑a.2.2.length:Int)/\(↑a.2.2.length:Int)<=(↑a.2.2.length:Int)) (.ob (a.2.2.length=a.2.2.length) (.lt (List.take a.2.1.toNat a.2.2++ List.replicate (a.2.2.length - a.2.1.toNat) (Slot.mk 0 (af.mk 0 0 [] [] [] [] []))) fun d=> .ob ((0:Int)<=0/\0<=a.2.1/\a.2.1<=(↑d.length:Int)) (.ret (.inr (List.take a.2.1.toNat d)))))))) (f,c,l)))
def SH {A:Type}(c:Prop)(p:A->Bool)(d:A)(l:List A):Pg (List A):=.ob c <| .lt (iI p l) fun b=> .br (b==(-1)) (.ret l) (.lt (dA .i64 (b+1)) fun g=> .wh (l.length+1) default (fun(a:Int×Int×List A)=> aL a.2.2 (.br (decide (a.1 < (↑a.2.2.length:Int))) (.ix a.1 a.2.2.length (.ob (a.1.toNat < a.2.2.length) <| .ob c (.lt (dA .i64 (a.1+1)) fun e=> .br (!p (a.2.2.getD a.1.toNat d)) (.ix a.2.1 a.2.2.length (.ob (a.2.1.toNat < a.2.2.length) (rl (e,dA .i64 (a.2.1+1),a.2.2.set a.2.1.toNat (a.2.2.getD a.1.toNat d))))) (rl (e,a.2))))) (.ob (0<=a.2.1/\a.2.1<=(↑a.2.2.length:Int)/\(↑a.2.2.length:Int)<=(↑a.2.2.length:Int)) (.ob (a.2.2.length=a.2.2.length) (.lt (List.take a.2.1.toNat a.2.2++List.replicate (a.2.2.length - a.2.1.toNat) d) fun f=> .ob ((0:Int)<=0/\0<=a.2.1/\a.2.1<=(↑f.length:Int)) (.ret (.inr (List.take a.2.1.toNat f)))))))) (g,b,l))
structure YW {A:Type}(p:A->Bool)(l:List A)(x:Int×Int×List A)(j i:Nat):Prop where
 hj:x.1=↑j
 hi:x.2.1=↑i
 lt:i < j
 le:j<=l.length
 len:x.2.2.length=l.length
 tk:x.2.2.take i=(l.take j).filter fun a=> !p a
 dr:x.2.2.drop j=l.drop j
theorem ajl {A:Type}{c:Prop}(E:c)(p:A->Bool)(d:A)(l:List A)(hl:l.length<=9223372036854775806):Is (SH c p d l)/\(SH c p d l).val=l.filter fun a=> !p a:=by
 unfold SH;rcases Ac p l with⟨W,V⟩ | ⟨u,a,v,F,C,T,b⟩
 ·rw[W];refine⟨aW E <| dC fun Q w=>by subst w;exact aT iR (fun h=>by cases h),?_⟩;simp only[eG,dV,cO,bu];refine(Qde.2 fun a C=> ?_).symm;rw[V a C];rfl
 ·rw[b];have O:l.length=u.length+(v.length+1):=by rw[F];simp
  have M:(((u.length:Int))== -1)=false:=by
   rw[Qct];omega
  have P:dA .i64 ((u.length:Int)+1)=((u.length+1:Nat):Int):=by
   rw[eQ (k:= .i64) ve];omega
  have L:YW p l (dA .i64 ((u.length:Int)+1),(u.length:Int),l) (u.length+1) u.length:=by
   refine⟨P,rfl,by omega,by omega,rfl,?_,rfl⟩;show l.take u.length=_
   rw[F];have:(u++a::v).take (u.length+1)=u++[a]:=by
    rw[show u++a::v=(u++[a])++v by simp,show u.length+1=(u++[a]).length by simp,Qc6]
   rw[this,Qce,Qc6];have D:u.filter (fun a=> !p a)=u:=Qde.2 fun x b=>by rw[T x b];rfl
   rw[D];simp[C]
  have t:∀(x:Int×Int×List A) (j i:Nat),YW p l x j i->j < l.length->x.2.2.getD j d=l.getD j d/\l.take (j+1)=l.take j++[l.getD j d]/\x.2.2.drop (j+1)=l.drop (j+1):=by
   intro x j i b f;have z:j < x.2.2.length:=by rw[b.len];exact f
   have D:=Qbo f;have X:=Qbo z;have:=b.dr;rw[D,X]at this;injection this with s y
   refine⟨by rw[getD_some f,getD_some z,s],?_,y⟩;rw[getD_some f,Qbr f]
  have step:∀(x:Int×Int×List A) (j i:Nat),YW p l x j i->j < l.length->∀q,p (l.getD j d)=q->
    YW p l (dA .i64 (x.1+1),(cond (!q) (dA .i64 (x.2.1+1),x.2.2.set x.2.1.toNat (x.2.2.getD x.1.toNat d)) x.2)) (j+1) (cond (!q) (i+1) i):=by
   intro x j i b f q m;obtain⟨o,G,J⟩:=t x j i b f
   have n:dA .i64 (x.1+1)=((j+1:Nat):Int):=by rw[b.hj,eQ (k:= .i64) ve];omega
   have Y:=b.lt;cases q with
   | true=>
    refine⟨n,b.hi,?_,by omega,b.len,?_,J⟩
    ·simp;omega
    ·show x.2.2.take i=_
     rw[b.tk,G,Qce,Qc7,m];simp
   | false=>
    refine⟨n,?_,?_,by omega,?_,?_,?_⟩
    ·show dA .i64 (x.2.1+1)=_
     rw[b.hi,eQ (k:= .i64) ve];simp
    ·simp;omega
    ·simp[b.len]
    ·show(x.2.2.set x.2.1.toNat (x.2.2.getD x.1.toNat d)).take (i+1)=_
     rw[b.hi,b.hj,DI,DI,o];have H:i < (x.2.2.set i (l.getD j d)).length:=by rw[Qb6,b.len];omega
     rw[Qbr H,List.getElem_set_self,List.take_set_of_le (oC i),b.tk,G,Qce,Qc7,m];simp
    ·show(x.2.2.set x.2.1.toNat (x.2.2.getD x.1.toNat d)).drop (j+1)=_
     rw[b.hi,DI,Qdc au];exact J
  refine⟨aW E <| dC fun Q w=>aT iR fun _=>dC fun v4 I=> ?_,?_⟩
  ·subst w I;refine Jo (fun x=>∃j i,YW p l x j i) (fun x=>l.length - x.1.toNat) ⟨_,_,L⟩ au ?_;rintro x ⟨j,i,b⟩;have s:=b.hj;have y:=b.hi;have R:=b.lt;have U:=b.le;have S:=b.len;refine⟨eH fun _=>cZ (fun h=>bW au au (aW au <| aW E (dC fun v5 Z=>aT (fun _=>bW au au (aW au aO)) iR))) (fun h=>aW au (aW rfl (dC fun v6 hv6=>aW qb8 aO))),fun x' K=> ?_⟩;revert K;simp only[kK,cO,lG,eG,dV,bu];by_cases h:x.1 < (↑x.2.2.length:Int)
   ·simp only[h,decide_true,AC];intro e;have f:j < l.length:=by omega
    obtain⟨o,_,_⟩:=t x j i b f
    have g:=step x j i b f _ rfl;have B:x.2.2.getD x.1.toNat d=l.getD j d:=by rw[s,DI];exact o
    rw[B]at e g;have n:dA .i64 (x.1+1)=((j+1:Nat):Int):=g.hj;cases m:p (l.getD j d)with
    | true=>
     rw[m]at e g;injection e with e
     subst e;exact⟨⟨_,_,g⟩,by
       have:(dA .i64 (x.1+1)).toNat=j+1:=by rw[n];rfl
       show l.length - (dA .i64 (x.1+1)).toNat < _
       omega⟩
    | false=>
     rw[m]at e g;injection e with e
     subst e;exact⟨⟨_,_,g⟩,by
       have:(dA .i64 (x.1+1)).toNat=j+1:=by rw[n];rfl
       show l.length - (dA .i64 (x.1+1)).toNat < _
       omega⟩
   ·simp only[h,decide_false,qH];intro e;cases e
  ·simp only[dV,cO,M,qH,Q7];refine Ed (fun x=>∃j i,YW p l x j i) (fun x=>l.length - x.1.toNat) (fun r=>r=l.filter fun a=> !p a) ?_ _ _ ⟨_,_,L⟩ au;rintro x ⟨j,i,b⟩;have s:=b.hj;have y:=b.hi;have R:=b.lt;have U:=b.le;have S:=b.len;simp only[kK,cO,lG,eG,dV,bu];by_cases h:x.1 < (↑x.2.2.length:Int)
   ·left
    simp only[h,decide_true,AC];have f:j < l.length:=by omega
    obtain⟨o,_,_⟩:=t x j i b f
    have g:=step x j i b f _ rfl;have B:x.2.2.getD x.1.toNat d=l.getD j d:=by rw[s,DI];exact o
    rw[B]at g⊢;have n:dA .i64 (x.1+1)=((j+1:Nat):Int):=g.hj;have N:l.length - (dA .i64 (x.1+1)).toNat < l.length - x.1.toNat:=by
     have:(dA .i64 (x.1+1)).toNat=j+1:=by rw[n];rfl
     omega
    cases m:p (l.getD j d)with
    | true=>rw[m]at g;exact⟨_,rfl,⟨_,_,g⟩,N⟩
    | false=>rw[m]at g;exact⟨_,rfl,⟨_,_,g⟩,N⟩
   ·right
    simp only[h,decide_false,qH];refine⟨_,rfl,?_⟩;have f:j=l.length:=by omega
    rw[y,DI];have e:=b.tk;rw[f,Lc]at e;rw[<-e,List.take_append_of_le_length qbi,Qd9,Nat.min_self]
theorem at6 (x:Slot):Slot.mk x.Num x.Val=x:=by cases x;rfl
theorem aiS (l:List Slot)(m:aX)(b:af):mgD l m b=SH (m.Fields.length<=1048576) (fun x=>LV x m b) bP l:=by
 unfold mgD SH;simp only[af.dO,at6];rfl
theorem aDV (l:List Slot)(m:aX)(b:af)(h:m.Fields.length<=1048576/\l.length<=1048576):(mgD l m b).val=l.filter fun(x:Slot)=> !(LV x m b):=by
 rw[aiS];exact(ajl h.1 (fun x=>LV x m b) bP l au).2
theorem aCB (l:List Slot)(m:aX)(b:af)(h:m.Fields.length<=1048576/\l.length<=1048576):Is (mgD l m b):=
 by
 rw[aiS];exact(ajl h.1 (fun x=>LV x m b) bP l au).1
def aGU:aY Z:=XX [asM,ao3,aBm] [jS 5 (bJ (fun b=>[s0 6, s0 5, .row (pid (b 0)) 279]) (ay cI (ay cI (l1 bH))))] (ak (nM 0) (a1 (jP 311 [1,2]))) (gQ (kX 279 D.Slot jq) (gQ (aS fF) (b1 (aS aK)))) (shr [.slot 0 false [some 279]] (l1 bH)) [1,2] func310 1 (fun a=>mgD a.2.1 a.2.2.1 a.2.2.2) (fun a=>some (a.2.2.1.Fields.length<=1048576/\a.2.1.length<=1048576)) (fun a=>a.2.1.filter fun(x:Slot)=> !(LV x a.2.2.1 a.2.2.2)) fun a h=>⟨aCB a.2.1 a.2.2.1 a.2.2.2 h,aDV a.2.1 a.2.2.1 a.2.2.2 h⟩
def saC (x:Slot)(a:Int):Pg Bool:=.ret (x.Num==a)
def aHg (x:Slot)(a:Int):=(saC x a).val
def aBl:aY Z:=yu [] [] (ak (aI kY) (a1 (iE 0))) (b1 (aS cI)) (R1 aG) [0] func404 1 (u11 saC)
def aHt:aY Z:=Oc [aBl] bH 404 [0] (b1 (aS cI)) func360 bP fun x b=>aHg x b
def abx (l:List Slot)(a:Int):Pg Int:=.ret (iI (fun(x:Slot)=>aHg x a) l)
def Vf (l:List Slot)(a:Int):=(abx l a).val
def amd:aY Z:=E0 [ao3,aBm,aHt,aBl] [] (ak (bz bH) (a1 (bz cI))) (R1 cI) [] func313 1 (u2 abx)
def rrC (a:Raw)(b:Raw):Pg Int:=.ret (wY a.Num b.Num)
def apy (a:Raw)(b:Raw):=(rrC a b).val
def Q_:aY Z:=E1 [uh] [] (ak (aI mQ) (a1 (aI mQ))) (R1 cI) [] func408 1 (u2 rrC) fun a=>True
def aGa (a:Int)(b:Int)(n:Int)(l:List Raw):Pg (List Raw):=VF (fun a=>a) nH a b n l
theorem axT (a:Int)(b:Int)(n:Int)(l:List Raw)(h:swQ a b n l.length):Is (aGa a b n l):=
 (LX (fun _=>rfl) h).1
def aBX:aY Z:=Df [Q_] [jS 1 (bJ (fun b=>[s0 10, .row (pid (b 0)) 286]) (ay cI (l1 bG)))] (ak (nM 0) (ak (bz cI) (ak (bz cI) (ak (bz cI) (a1 (jP 408 [])))))) (b1 (kX 286 D.Raw kT)) (shr [.row 0 286] (l1 bG)) [] func458 0 (fun a=>aGa a.1.2.1 a.1.2.2.1 a.1.2.2.2.1 a.2) (fun a=>swQ a.1.2.1 a.1.2.2.1 a.1.2.2.2.1 a.2.length) fun a h=>axT a.1.2.1 a.1.2.2.1 a.1.2.2.2.1 a.2 h
def aGm (a:Int)(m:Int)(b:Int)(l:List Raw):Pg (List Raw):=Uj (fun a=>a) nH a m b l
theorem ayl (a:Int)(m:Int)(b:Int)(l:List Raw)(h:roQ a m b l.length):Is (aGm a m b l):=
 (KZ (fun _=>rfl) h).1
def aDS:aY Z:=Df [Q_,apf,aBX] [jS 2 (bJ (fun b=>[s0 10, s0 11, .row (pid (b 0)) 286]) (ay cI (ay cI (l1 bG))))] (ak (nM 0) (ak (bz cI) (ak (bz cI) (ak (bz cI) (a1 (jP 408 [])))))) (b1 (kX 286 D.Raw kT)) (shr [.row 0 286] (l1 bG)) [] func439 0 (fun a=>aGm a.1.2.1 a.1.2.2.1 a.1.2.2.2.1 a.2) (fun a=>roQ a.1.2.1 a.1.2.2.1 a.1.2.2.2.1 a.2.length) fun a h=>ayl a.1.2.1 a.1.2.2.1 a.1.2.2.2.1 a.2 h
def aDm (a:Int)(b:Int)(l:List Raw):Pg (List Raw):=VO (fun a=>a) apy (fun _ _=>True) nH a b l
def aHh (a:Int)(b:Int)(l:List Raw):=(aDm a b l).val
theorem axQ (a:Int)(b:Int)(l:List Raw)(h:Hg (fun _ _=>True) a b l):Is (aDm a b l):=
 (LJ (fun _=>rfl) h).1
def aEA:aY Z:=uF Z [Q_] [jS 1 (bJ (fun b=>[s0 8, .row (pid (b 0)) 286]) (ay cI (l1 bG))),jS 4 (bJ (fun b=>[s0 9, .row (pid (b 0)) 286]) (ay cI (l1 bG)))] (jF (ak (nM 0) (ak (bz cI) (ak (bz cI) (a1 (jP 408 []))))) (b1 (kX 286 D.Raw kT))) (nT (n:=53) rfl) (shr [.row 0 286] (l1 bG)) [] func399 ntmps399 eF 0 rfl (fun a=>aDm (a.1.2.1) (a.1.2.2.1) (a.2)) (fun a=>some (Hg (fun _ _=>True) (a.1.2.1) (a.1.2.2.1) (a.2))) (fun a e _=>by kernel_rfl) (fun a=>aHh (a.1.2.1) (a.1.2.2.1) (a.2)) (fun a h=>⟨axQ (a.1.2.1) (a.1.2.2.1) (a.2) h,rfl⟩)
def aGj (c:Int->Int->Int->List Raw->List Raw)(NH:Int->Int->Int->List Raw->Prop)(a:Int)(m:Int)(b:Int)(l:List Raw):Pg (List Raw):=YN (fun a=>a) apy (fun _ _=>True) nH c NH a m b l
def NH (c:Nat)(a:Int)(m:Int)(b:Int)(l:List Raw):Prop:=WZ (fun _ _=>True) c a m b l
def amj:Nat->(Int->Int->Int->(List Raw)->(List Raw))
 | 0=>(fun _ _ _ _=>default)
 | c+1=>(fun a m b l=>(aGj ((amj c)) (NH c) a m b l).val)
def ajo (a:Int)(m:Int)(b:Int)(l:List Raw):List Raw:=(amj ((b - a).toNat+1)) a m b l
theorem Jn:∀(e:Nat) (a m b:Int) (l:List Raw),NH e a m b l->(amj e a m b l).Perm l
 | 0,_,_,_,_,h=>FY h
 | e+1,_,_,_,_,h=>(zo (fun _=>rfl) (c:=apy) (Pe:=amj e) (Xh:=NH e) (d:=nH) (fun _ _ _ _ h=>h) (Jn e) h).2
abbrev au1 (a:Nat):=aGj ((amj a)) (NH a)
theorem azf (c:Nat)(a:Int)(m:Int)(b:Int)(l:List Raw)(h:NH (c+1) a m b l):Is (au1 c a m b l):=
 (zo (fun _=>rfl) (fun _ _ _ _ h=>h) (Jn c) h).1
theorem arv:∀c,dJ Z.P Z.S 400 (mi (jF (ak (nM 0) (ak (bz cI) (ak (bz cI) (ak (bz cI) (a1 (jP 408 [])))))) (b1 (kX 286 D.Raw kT))) (shr [.row 0 286] (l1 bG)) 0 [] (fun a=>some (NH c (a.1.2.1) (a.1.2.2.1) (a.1.2.2.2.1) (a.2))) (fun a=>(amj c) (a.1.2.1) (a.1.2.2.1) (a.1.2.2.2.1) (a.2)))
 | 0=>gp func400 eF (fun a h=>FY h)
 | c+1=>by
  have d:=arv c;exact zD [Q_,arG,aDS,⟨400,_,d⟩] [jS 3 (bJ (fun b=>[s0 10, s0 11]) (ay cI (l1 cI))),jS 9 (bJ (fun b=>[s0 13, .row (pid (b 0)) 286]) (ay cI (l1 bG))),jS 15 (bJ (fun b=>[s0 14, s0 15]) (ay cI (l1 cI))),jS 21 (bJ (fun b=>[s0 17, .row (pid (b 0)) 286]) (ay cI (l1 bG))),jS 33 (bJ (fun b=>[s0 20, s0 21]) (ay cI (l1 cI))),jS 100008 (bJ (fun b=>[s0 10]) (l1 cI)),jS 100012 (bJ (fun b=>[.row (pid (b 0)) 286]) (l1 bG)),jS 100020 (bJ (fun b=>[s0 14]) (l1 cI)),jS 100024 (bJ (fun b=>[.row (pid (b 0)) 286]) (l1 bG)),jS 100032 (bJ (fun b=>[s0 20, s0 21]) (ay cI (l1 cI))),jS 100038 (bJ (fun b=>[s0 20]) (l1 cI)),jS 100041 (bJ (fun b=>[.row (pid (b 0)) 286]) (l1 bG)),jS 100043 (bJ (fun b=>[.row (pid (b 0)) 286]) (l1 bG))] func400 ntmps400 (fun a=>au1 c a.1.2.1 a.1.2.2.1 a.1.2.2.2.1 a.2) (fun a h=>⟨azf c a.1.2.1 a.1.2.2.1 a.1.2.2.2.1 a.2 h,rfl⟩) (nT (n:=220) rfl)
def aCx:aY Z:=⟨400,mi (jF (ak (nM 0) (ak (bz cI) (ak (bz cI) (ak (bz cI) (a1 (jP 408 [])))))) (b1 (kX 286 D.Raw kT))) (shr [.row 0 286] (l1 bG)) 0 [] (fun a=>some (WZ (fun _ _=>True) (((a.1.2.2.2.1) - (a.1.2.1)).toNat+1) (a.1.2.1) (a.1.2.2.1) (a.1.2.2.2.1) (a.2))) (fun a=>ajo (a.1.2.1) (a.1.2.2.1) (a.1.2.2.2.1) (a.2)),jH (fun n=>((arv n))) _ _ (fun a h=>⟨((a.1.2.2.2.1) - (a.1.2.1)).toNat+1,h,rfl⟩)⟩
def aDx (n:Int)(l:List Raw):Pg (List Raw):=Xo (fun a=>a) apy (fun _ _=>True) nH ajo n l
def aHL (n:Int)(l:List Raw):=(aDx n l).val
theorem av3 (n:Int)(l:List Raw)(h:stQ (fun _ _=>True) n l):Is (aDx n l):=
 (zq (fun _=>rfl) (Pe:=ajo) (fun a m b l h=>Jn _ a m b l h) h).1
def aCh:aY Z:=Df [apO,aEA,apB,aCx,Q_] [jS 2 (bJ (fun b=>[s0 7, s0 8, .row (pid (b 0)) 286]) (ay cI (ay cI (l1 bG)))),jS 7 (bJ (fun b=>[s0 6, .row (pid (b 0)) 286]) (ay cI (l1 bG))),jS 9 (bJ (fun b=>[s0 7, s0 8, .row (pid (b 0)) 286]) (ay cI (ay cI (l1 bG)))),jS 100006 (bJ (fun b=>[s0 7, .row (pid (b 0)) 286]) (ay cI (l1 bG))),jS 100013 (bJ (fun b=>[s0 7, .row (pid (b 0)) 286]) (ay cI (l1 bG)))] (ak (nM 0) (ak (bz cI) (a1 (jP 408 [])))) (b1 (kX 286 D.Raw kT)) (shr [.row 0 286] (l1 bG)) [] func309 0 (fun a=>aDx a.1.2.1 a.2) (fun a=>stQ (fun _ _=>True) a.1.2.1 a.2) fun a h=>av3 a.1.2.1 a.2 h
def aFh (l:List Raw):Pg (List Raw):=.ob (stQ (fun(x b:Raw)=>True) (↑l.length:Int) l) (.lt (aHL (↑l.length:Int) l) fun a=> aL a (.ret a))
def aAr (l:List Raw):=(aFh l).val
theorem ayF (l:List Raw)(h:rE (fun _ _=>True) l):Is (aFh l):=
 aW ((⟨h,rfl⟩)) (dC fun b a=>eH fun _=>aO)
def aEd:aY Z:=Df [aoG,aCh,Q_] [] (ak (nM 0) (a1 (jP 408 []))) (b1 (kX 286 D.Raw kT)) (shr [.row 0 286] (l1 bG)) [] func238 0 (fun a=>aFh a.2) (fun a=>rE (fun _ _=>True) a.2) fun a h=>ayF a.2 h
theorem an4 {l:List Raw}(h:rE (fun _ _=>True) l):(aAr l).Perm l:=
 (zq (fun _=>rfl) (c:=apy) (q:=(fun _ _=>True)) (d:=nH) (Pe:=ajo) (fun a m b l h=>Jn _ a m b l h) ⟨h,rfl⟩).2
def ssC (x:Slot)(y:Slot):Pg Int:=.ret (wY x.Num y.Num)
def arb (x:Slot)(y:Slot):=(ssC x y).val
def Uy:aY Z:=E1 [uh] [] (ak (aI kY) (a1 (aI kY))) (R1 cI) [] func315 1 (u2 ssC) fun a=>True
def aIE (a:Int)(b:Int)(n:Int)(l:List Slot):Pg (List Slot):=VF uV bP a b n l
theorem awK (a:Int)(b:Int)(n:Int)(l:List Slot)(h:swQ a b n l.length):Is (aIE a b n l):=
 (LX kH h).1
def aDI:aY Z:=Df [Uy] [jS 1 (bJ (fun b=>[s0 10, .row (pid (b 0)) 279]) (ay cI (l1 bH)))] (ak (nM 0) (ak (bz cI) (ak (bz cI) (ak (bz cI) (a1 (jP 315 [])))))) (b1 (kX 279 D.Slot jq)) (shr [.row 0 279] (l1 bH)) [] func463 0 (fun a=>aIE a.1.2.1 a.1.2.2.1 a.1.2.2.2.1 a.2) (fun a=>swQ a.1.2.1 a.1.2.2.1 a.1.2.2.2.1 a.2.length) fun a h=>awK a.1.2.1 a.1.2.2.1 a.1.2.2.2.1 a.2 h
def aHO (a:Int)(m:Int)(b:Int)(l:List Slot):Pg (List Slot):=Uj uV bP a m b l
theorem ay1 (a:Int)(m:Int)(b:Int)(l:List Slot)(h:roQ a m b l.length):Is (aHO a m b l):=
 (KZ kH h).1
def aFr:aY Z:=Df [Uy,aoH,aDI] [jS 2 (bJ (fun b=>[s0 10, s0 11, .row (pid (b 0)) 279]) (ay cI (ay cI (l1 bH))))] (ak (nM 0) (ak (bz cI) (ak (bz cI) (ak (bz cI) (a1 (jP 315 [])))))) (b1 (kX 279 D.Slot jq)) (shr [.row 0 279] (l1 bH)) [] func455 0 (fun a=>aHO a.1.2.1 a.1.2.2.1 a.1.2.2.2.1 a.2) (fun a=>roQ a.1.2.1 a.1.2.2.1 a.1.2.2.2.1 a.2.length) fun a h=>ay1 a.1.2.1 a.1.2.2.1 a.1.2.2.2.1 a.2 h
def aC0 (a:Int)(b:Int)(l:List Slot):Pg (List Slot):=VO uV arb (fun _ _=>True) bP a b l
def aG3 (a:Int)(b:Int)(l:List Slot):=(aC0 a b l).val
theorem awu (a:Int)(b:Int)(l:List Slot)(h:Hg (fun _ _=>True) a b l):Is (aC0 a b l):=
 (LJ kH h).1
def aBW:aY Z:=uF Z [Uy] [jS 1 (bJ (fun b=>[s0 8, .row (pid (b 0)) 279]) (ay cI (l1 bH))),jS 4 (bJ (fun b=>[s0 9, .row (pid (b 0)) 279]) (ay cI (l1 bH)))] (jF (ak (nM 0) (ak (bz cI) (ak (bz cI) (a1 (jP 315 []))))) (b1 (kX 279 D.Slot jq))) (nT (n:=53) rfl) (shr [.row 0 279] (l1 bH)) [] func436 ntmps436 eF 0 rfl (fun a=>aC0 (a.1.2.1) (a.1.2.2.1) (a.2)) (fun a=>some (Hg (fun _ _=>True) (a.1.2.1) (a.1.2.2.1) (a.2))) (fun a e _=>by kernel_rfl) (fun a=>aG3 (a.1.2.1) (a.1.2.2.1) (a.2)) (fun a h=>⟨awu (a.1.2.1) (a.1.2.2.1) (a.2) h,rfl⟩)
def aHA (c:Int->Int->Int->List Slot->List Slot)(NW:Int->Int->Int->List Slot->Prop)(a:Int)(m:Int)(b:Int)(l:List Slot):Pg (List Slot):=YN uV arb (fun _ _=>True) bP c NW a m b l
def NW (c:Nat)(a:Int)(m:Int)(b:Int)(l:List Slot):Prop:=WZ (fun _ _=>True) c a m b l
def ana:Nat->(Int->Int->Int->(List Slot)->(List Slot))
 | 0=>(fun _ _ _ _=>default)
 | c+1=>(fun a m b l=>(aHA ((ana c)) (NW c) a m b l).val)
def ajT (a:Int)(m:Int)(b:Int)(l:List Slot):List Slot:=(ana ((b - a).toNat+1)) a m b l
theorem JM:∀(e:Nat) (a m b:Int) (l:List Slot),NW e a m b l->(ana e a m b l).Perm l
 | 0,_,_,_,_,h=>FY h
 | e+1,_,_,_,_,h=>(zo kH (c:=arb) (Pe:=ana e) (Xh:=NW e) (d:=bP) (fun _ _ _ _ h=>h) (JM e) h).2
abbrev atr (a:Nat):=aHA ((ana a)) (NW a)
theorem azp (c:Nat)(a:Int)(m:Int)(b:Int)(l:List Slot)(h:NW (c+1) a m b l):Is (atr c a m b l):=
 (zo kH (fun _ _ _ _ h=>h) (JM c) h).1
theorem apx:∀c,dJ Z.P Z.S 437 (mi (jF (ak (nM 0) (ak (bz cI) (ak (bz cI) (ak (bz cI) (a1 (jP 315 [])))))) (b1 (kX 279 D.Slot jq))) (shr [.row 0 279] (l1 bH)) 0 [] (fun a=>some (NW c (a.1.2.1) (a.1.2.2.1) (a.1.2.2.2.1) (a.2))) (fun a=>(ana c) (a.1.2.1) (a.1.2.2.1) (a.1.2.2.2.1) (a.2)))
 | 0=>gp func437 eF (fun a h=>FY h)
 | c+1=>by
  have d:=apx c;exact zD [Uy,arC,aFr,⟨437,_,d⟩] [jS 3 (bJ (fun b=>[s0 10, s0 11]) (ay cI (l1 cI))),jS 9 (bJ (fun b=>[s0 13, .row (pid (b 0)) 279]) (ay cI (l1 bH))),jS 15 (bJ (fun b=>[s0 14, s0 15]) (ay cI (l1 cI))),jS 21 (bJ (fun b=>[s0 17, .row (pid (b 0)) 279]) (ay cI (l1 bH))),jS 33 (bJ (fun b=>[s0 20, s0 21]) (ay cI (l1 cI))),jS 100008 (bJ (fun b=>[s0 10]) (l1 cI)),jS 100012 (bJ (fun b=>[.row (pid (b 0)) 279]) (l1 bH)),jS 100020 (bJ (fun b=>[s0 14]) (l1 cI)),jS 100024 (bJ (fun b=>[.row (pid (b 0)) 279]) (l1 bH)),jS 100032 (bJ (fun b=>[s0 20, s0 21]) (ay cI (l1 cI))),jS 100038 (bJ (fun b=>[s0 20]) (l1 cI)),jS 100041 (bJ (fun b=>[.row (pid (b 0)) 279]) (l1 bH)),jS 100043 (bJ (fun b=>[.row (pid (b 0)) 279]) (l1 bH))] func437 ntmps437 (fun a=>atr c a.1.2.1 a.1.2.2.1 a.1.2.2.2.1 a.2) (fun a h=>⟨azp c a.1.2.1 a.1.2.2.1 a.1.2.2.2.1 a.2 h,rfl⟩) (nT (n:=220) rfl)
def aCV:aY Z:=⟨437,mi (jF (ak (nM 0) (ak (bz cI) (ak (bz cI) (ak (bz cI) (a1 (jP 315 [])))))) (b1 (kX 279 D.Slot jq))) (shr [.row 0 279] (l1 bH)) 0 [] (fun a=>some (WZ (fun _ _=>True) (((a.1.2.2.2.1) - (a.1.2.1)).toNat+1) (a.1.2.1) (a.1.2.2.1) (a.1.2.2.2.1) (a.2))) (fun a=>ajT (a.1.2.1) (a.1.2.2.1) (a.1.2.2.2.1) (a.2)),jH (fun n=>((apx n))) _ _ (fun a h=>⟨((a.1.2.2.2.1) - (a.1.2.1)).toNat+1,h,rfl⟩)⟩
def aEl (n:Int)(l:List Slot):Pg (List Slot):=Xo uV arb (fun _ _=>True) bP ajT n l
def aHS (n:Int)(l:List Slot):=(aEl n l).val
theorem aw1 (n:Int)(l:List Slot)(h:stQ (fun _ _=>True) n l):Is (aEl n l):=
 (zq kH (Pe:=ajT) (fun a m b l h=>JM _ a m b l h) h).1
def aDw:aY Z:=Df [Uy,aoo,aBW,aph,aCV] [jS 2 (bJ (fun b=>[s0 7, s0 8, .row (pid (b 0)) 279]) (ay cI (ay cI (l1 bH)))),jS 7 (bJ (fun b=>[s0 6, .row (pid (b 0)) 279]) (ay cI (l1 bH))),jS 9 (bJ (fun b=>[s0 7, s0 8, .row (pid (b 0)) 279]) (ay cI (ay cI (l1 bH)))),jS 100006 (bJ (fun b=>[s0 7, .row (pid (b 0)) 279]) (ay cI (l1 bH))),jS 100013 (bJ (fun b=>[s0 7, .row (pid (b 0)) 279]) (ay cI (l1 bH)))] (ak (nM 0) (ak (bz cI) (a1 (jP 315 [])))) (b1 (kX 279 D.Slot jq)) (shr [.row 0 279] (l1 bH)) [] func394 0 (fun a=>aEl a.1.2.1 a.2) (fun a=>stQ (fun _ _=>True) a.1.2.1 a.2) fun a h=>aw1 a.1.2.1 a.2 h
def aFs (l:List Slot):Pg (List Slot):=.ob (stQ (fun(x b:Slot)=>True) (↑l.length:Int) l) (.lt (aHS (↑l.length:Int) l) fun a=> aL a (.ret a))
def aBq (l:List Slot):=(aFs l).val
theorem awd (l:List Slot)(h:rE (fun _ _=>True) l):Is (aFs l):=
 aW ((⟨h,rfl⟩)) (dC fun b a=>eH fun _=>aO)
def aFi:aY Z:=Df [Uy,aqz,aDw] [] (ak (nM 0) (a1 (jP 315 []))) (b1 (kX 279 D.Slot jq)) (shr [.row 0 279] (l1 bH)) [] func302 0 (fun a=>aFs a.2) (fun a=>rE (fun _ _=>True) a.2) fun a h=>awd a.2 h
theorem ane {l:List Slot}(h:rE (fun _ _=>True) l):(aBq l).Perm l:=
 (zq kH (c:=arb) (q:=(fun _ _=>True)) (d:=bP) (Pe:=ajT) (fun a m b l h=>JM _ a m b l h) ⟨h,rfl⟩).2
def ase (a:List Raw)(b:List Raw):Pg (List Raw):=.ob ([a,b].flatten.length<=2097152/\2<=2097152) (.lt (arI [a,b]) fun c=> .ob (rE (fun(x d:Raw)=>True) c) (.ret (aAr c)))
def ash (a:List Raw)(b:List Raw):=(ase a b).val
theorem Xv (a:List Raw)(b:List Raw)(h:a.length+b.length<=1048576):jG (ase a b) (fun r=>r.Perm (a++b)):=
 by
 have q:[a,b].flatten.length<=2097152/\(2:Nat)<=2097152:=⟨by simp only[List.flatten_cons,List.flatten_nil,Qd1,qO];omega,by decide⟩;have c:arI [a,b]=a++b:=((aep [a,b] q).2).trans oI;have d:rE (fun(_ _:Raw)=>True) (arI [a,b]):=by rw[c];exact⟨by rw[qO];omega,fun _ _ _ _=>trivial⟩
 refine aj q (aC fun f e=> ?_);rw[e];refine aj d (ah ?_);have k:=an4 d;rw[c]at k;rw[c];exact k
def aw4:aY Z:=E1 [arF,aEd,aC4,Q_] [] (ak (bz bG) (a1 (bz bG))) (R1 bG) [] func316 1 (u2 ase) (fun a=>a.1.length+a.2.length<=1048576) fun a h=>(Xv a.1 a.2 h).1
end
end Go.Proofs.YtebmficbjhcohaaGreatDoor
