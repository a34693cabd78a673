/- Codecs: tagenc. -/
import Derived.Test.YtgdmjfkdbfafjaaGreatDoorP4
import Derived.WalkKit
import Derived.WalkSpells
import Derived.Lib.Overlaps
import Derived.Lib.AppendZeros
import Derived.Laws.Externs
import Derived.Shelf.RegionOpenPlain
import Derived.Lib.Walk
import Derived.Shelf.Spec.SlicesInsert
import Derived.Test.YtgdmjfkdbfafjaaGreatDoorEng17
import Derived.Lib.SliceRun
namespace Go.Proofs.YtgdmjfkdbfafjaaGreatDoor
noncomputable section
open Go.RowKit Go.Vc
open Tryz
set_option linter.unusedVariables false
set_option linter.unusedSimpArgs false
set_option maxRecDepth 100000
def aFR:aZ Z:=Nu Z [xO] 257 [true] func257 eQ
def aGS:aZ Z:=Nu Z [xO] 257 [false,true] func257 eQ
def aGo:aZ Z:=Nu Z [xO] 257 [false,false,true] func257 eQ
def aH_:aZ Z:=Nu Z [xO] 257 [false,false,false] func257 eQ
def UJ (v:ah):Pg Raw:=.cut (fun(a:Bool)=> .br a (.ret (Raw.mk 0 0 v.Bits [])) (.cut (fun(b:Bool)=> .br b (.ret (Raw.mk 0 1 (atL (dA .i64 v.Bits)) [])) (.br (v.Kind==6) (.ret (Raw.mk 0 2 (nK v.re).Bits [])) (.br (v.Kind==7) (.br (v.Kind==7) (.ret (Raw.mk 0 3 0 v.Text)) (.ret (Raw.mk 0 0 0 []))) (.br (v.Kind==8) (.ret (Raw.mk 0 3 0 v.Text)) (.ret (Raw.mk 0 0 0 [])))))) (.br (v.Kind==2) (rl (v.Kind==2)) (rl (v.Kind==3))))) (.br (v.Kind==1) (rl (v.Kind==1)) (.br (v.Kind==4) (rl (v.Kind==4)) (.br (v.Kind==5) (rl (v.Kind==5)) (rl (v.Kind==9)))))
def EH (v:ah):=(UJ v).val
def Ph:aZ Z:=E0 [KT,aHr] [jS 100006 (bI (fun b=>[s0 5]) (l1 aG)),jS 100009 (bI (fun b=>[s0 13]) (l1 aG))] (a1 (aJ aP)) (shr [.slot 0 true (nn 4)] (l1 pF)) [] func438 1 UJ
def aas (a:Int)(f:Raw):Pg Raw:=.ret (Raw.mk a f.iy f.Bits f.Data)
def vT (a:Int)(f:Raw):=(aas a f).val
def Fz:aZ Z:=E0 [] [] (ak (bC cI) (a1 (aJ pF))) (shr [.slot 0 true (nn 4)] (l1 pF)) [] func437 1 (u2 aas)
def eOk (f:Raw)(n:Nat):Prop:=(0<=f.iy/\f.iy<=6)/\m_ f.Bits/\(f.iy<=2->f.Data=[])/\(3<=f.iy->f.Bits=0)/\f.Data.length<=n
theorem UD {w b:Int}{n:Nat}(a:0<=w/\w<=2)(c:m_ b):eOk (Raw.mk 0 w b []) n:=⟨⟨a.1,by show w<=6;omega⟩,c,fun _=>rfl,fun h=>absurd a.2 (by have h:3<=w:=h;omega),ve _⟩
theorem amn {w:Int}{d:Str}{n:Nat}(a:3<=w/\w<=6)(b:d.length<=n):eOk (Raw.mk 0 w 0 d) n:=⟨⟨by show 0<=w;omega,a.2⟩,u0,fun h=>absurd a.1 (by have h:w<=2:=h;omega),fun _=>rfl,b⟩
theorem axo {f:Raw}{n m:Nat}(h:eOk f n)(a:n<=m):eOk f m:=⟨h.1,h.2.1,h.2.2.1,h.2.2.2.1,yI h.2.2.2.2 a⟩
theorem aIZ (n:Int):m_ (atL n):=by
 unfold atL aFV;simp only[bY,aI];exact aiN _
theorem Jn {v:ah}(h:kV v):eOk (EH v) v.Text.length:=by
 have d:=((iV v).1 h).1.1;have c:=((iV _).1 (TR h)).1.1;have k:VP (UJ v) (fun f=>eOk f v.Text.length):=by
  unfold UJ;simp only[ah.dR];have a:eOk (Raw.mk 0 0 0 []) v.Text.length:=UD ⟨by decide,by decide⟩ u0;have b:eOk (Raw.mk 0 3 0 v.Text) v.Text.length:=amn ⟨by decide,by decide⟩ (nO _);refine kz (fun _=>True) ?_ fun e _=>fD (fun _=>a_ (UD ⟨by decide,by decide⟩ d)) fun _=>kz (fun _=>True) ?_ fun g _=>fD (fun _=>a_ (UD ⟨by decide,by decide⟩ (aIZ _))) fun _=>fD (fun _=>a_ (UD ⟨by decide,by decide⟩ c)) fun _=>fD (fun _=>fD (fun _=>a_ b) fun _=>a_ a) fun _=>fD (fun _=>a_ b) fun _=>a_ a
  ·exact fD (fun _=>a_ trivial) fun _=>fD (fun _=>a_ trivial) fun _=>fD (fun _=>a_ trivial) fun _=>a_ trivial
  ·exact fD (fun _=>a_ trivial) fun _=>a_ trivial
 exact k
theorem Ac {num:Int}{f:Raw}{n:Nat}(a:1<=num/\num<=65535)(h:eOk f n):Ov (vT num f)/\(vT num f).Data.length<=n:=
 ⟨XO (f:=Raw.mk num f.iy f.Bits f.Data) a h.1 h.2.1 h.2.2.1 h.2.2.2.1,h.2.2.2.2⟩
theorem aAl (l:List Raw):w_ l<=24*Vq l:=by
 induction l with
 | nil=>exact nO _
 | cons a t b=>
  show 24+a.Data.length+w_ t<=24*(1+a.Data.length+Vq t)
  omega
theorem Np (x:Raw):w_ [x]=24+x.Data.length:=rfl
theorem WY (x:Raw)(l:List Raw):w_ (x::l)=24+x.Data.length+w_ l:=rfl
def enI (v:ah)(i:Nat)(y:List Raw×List Raw):Prop:=(∀x∈y.1,Ov x)/\(∀x∈y.2,Ov x)/\y.2.length<=v.bM.length/\w_ y.1+w_ y.2<=w_ v.bM+64*kG tS (v.Slots.take i)
def anx (w:aj)(o:Op)(v:ah):Pg (List Raw):=aL v.List (.lt (dA .u8 (ajC (Op.mk o.Num o.Name o.Alias 2 o.Key o.Kind o.Target o.Union))) fun g=> .each false oZ v.List gQ (fun e f (a:List Int)=> .ix e v.List.length (.lt (EH f.re) fun b=> .br (ajC (Op.mk o.Num o.Name o.Alias 2 o.Key o.Kind o.Target o.Union)==2) (.lt (aEM b.Bits) fun c=> .ob (bZ (a.length+List.length c) 1) (rl (a++Ya c))) (.ob (m_ b.Bits) (.lt (Xy b.Bits) fun d=> .ob (bZ (a.length+List.length d) 1) (rl (a++Ya d)))))) (fun e (a:List Int)=> .ob (JQ (fun(i:Nat)=>true) a.length=true) (.ret [Raw.mk o.Num 5 0 (txU a)])) [g])
def aH8 (w:aj)(o:Op)(v:ah):=(anx w o v).val
theorem aaM (w:aj)(o:Op)(v:ah)(h:(1<=o.Num/\o.Num<=65535)/\gV v):j_ (anx w o v) (fun r=>(∀x∈r,Ov x)/\w_ r<=24+64*tV v):=
 by
 obtain⟨q,c⟩:=h;have D:=qm c;have B:=c.2;have u:=iZ v;have A:=KP v.List;unfold anx;simp only[ah.dR];refine bW <| az fun z t=>dh (fun i y=>y.length<=1+10*i) qb au (fun p a s m=> ?_) fun a m=>ai (xY (fun _=>rfl) _) (af ⟨lD (XO (f:=Raw.mk o.Num 5 0 (txU a)) q ⟨(by decide:(0:Int)<=5),(by decide:(5:Int)<=6)⟩ u0 (fun h=>absurd h (by decide:¬(5:Int)<=2)) (fun _=>rfl)),?_⟩)
 ·have e:m_ (EH (v.List.getD p gQ)).Bits:=(Jn (D5 c (getD_mem (d:=gQ) s)).1.1).2.1;refine aW au au (az fun C b=>dK (fun _=>az fun j g=> ?_) fun _=>ai (by rw[b];exact e) (az fun l k=> ?_))
  ·have n:j.length=8:=by rw[g];exact(WT _).2
   exact ai (dm au au) (af (by show(a++Ya j).length<=_;rw[um,zo];omega))
  ·have n:l.length<=10:=by rw[k];exact Tj _ (by rw[b];exact e)
   exact ai (dm au au) (af (by show(a++Ya l).length<=_;rw[um,zo];omega))
 ·rw[Np];show 24+(txU a).length<=_
  rw[G9];omega
def aA_:aZ Z:=E1 [alv,acb,aoN,Ph] [jS 6 (bI (fun b=>[s0 23, .slot 9 false [some 5]]) (aB cI (l1 PM)))] (ak (aJ gK) (ak (aJ jF) (a1 (aJ aP)))) (R1 bU) [] func375 1 (u3 anx) (fun a=>(1<=a.2.1.Num/\a.2.1.Num<=65535)/\gV a.2.2) fun a h=>(aaM a.1 a.2.1 a.2.2 h).1
def X3 (b:aj->Op->ah->Raw)(dX:aj->Op->ah->Prop)(d:aj->Op->ah->List Raw)(eH:aj->Op->ah->Prop)(f:aj->Op->ah->List Raw)(dS:aj->Op->ah->Prop)(e:aj->Op->ah->List Raw)(f_:aj->Op->ah->Prop)(c:aj->Int->Slot->List Raw)(iJ:aj->Int->Slot->Prop)(a:aj->Int->ah->Str)(jT:aj->Int->ah->Prop)(w:aj)(o:Op)(v:ah):Pg Raw:=.br (o.Kind==10) (.ob (jT w o.Target v.re) (.ret (Raw.mk 0 4 0 (a w o.Target v.re)))) (.ret (EH v.re))
def VK (f:aj->Op->ah->Raw)(dX:aj->Op->ah->Prop)(i:aj->Op->ah->List Raw)(eH:aj->Op->ah->Prop)(k:aj->Op->ah->List Raw)(dS:aj->Op->ah->Prop)(j:aj->Op->ah->List Raw)(f_:aj->Op->ah->Prop)(h:aj->Int->Slot->List Raw)(iJ:aj->Int->Slot->Prop)(g:aj->Int->ah->Str)(jT:aj->Int->ah->Prop)(w:aj)(o:Op)(v:ah):Pg (List Raw):=aL v.Pairs (.each false oZ v.Pairs iE (fun c b (a:List Raw)=> .ix c v.Pairs.length (.ob (dX w o b.Val.re) (.lt (vT 2 (f w o b.Val.re)) fun e=> .lt (vT 1 (EH b.Key.re)) fun d=> .ob (ZI [d,e]) (.ob (bZ (a.length+1) 40) (rl (a++[Raw.mk o.Num 6 0 (RQ [d,e])])))))) (fun c (a:List Raw)=> .ret a) [])
def PO (d:aj->Op->ah->Raw)(dX:aj->Op->ah->Prop)(g:aj->Op->ah->List Raw)(eH:aj->Op->ah->Prop)(i:aj->Op->ah->List Raw)(dS:aj->Op->ah->Prop)(h:aj->Op->ah->List Raw)(f_:aj->Op->ah->Prop)(f:aj->Int->Slot->List Raw)(iJ:aj->Int->Slot->Prop)(e:aj->Int->ah->Str)(jT:aj->Int->ah->Prop)(w:aj)(o:Op)(v:ah):Pg (List Raw):=aL v.List (.each false oZ v.List gQ (fun c b (a:List Raw)=> .ix c v.List.length (.ob (dX w o b.re) (.ob (bZ (a.length+1) 40) (rl (a++[vT o.Num (d w o b.re)]))))) (fun c (a:List Raw)=> .ret a) [])
def acj (a:aj->Op->ah->Raw)(dX:aj->Op->ah->Prop)(d:aj->Op->ah->List Raw)(eH:aj->Op->ah->Prop)(f:aj->Op->ah->List Raw)(dS:aj->Op->ah->Prop)(e:aj->Op->ah->List Raw)(f_:aj->Op->ah->Prop)(c:aj->Int->Slot->List Raw)(iJ:aj->Int->Slot->Prop)(b:aj->Int->ah->Str)(jT:aj->Int->ah->Prop)(w:aj)(o:Op)(v:ah):Pg (List Raw):=.ob (dX w o v.re) (.ret [vT o.Num (a w o v.re)])
def aFG (d:aj->Op->ah->Raw)(dX:aj->Op->ah->Prop)(b:aj->Op->ah->List Raw)(eH:aj->Op->ah->Prop)(g:aj->Op->ah->List Raw)(dS:aj->Op->ah->Prop)(f:aj->Op->ah->List Raw)(f_:aj->Op->ah->Prop)(e:aj->Int->Slot->List Raw)(iJ:aj->Int->Slot->Prop)(c:aj->Int->ah->Str)(jT:aj->Int->ah->Prop)(w:aj)(prog:Int)(s:Slot):Pg (List Raw):=.ix prog w.p.bD.length (.lt (mY (w.p.bD.getD prog.toNat dC) s.Num) fun a=> .br (!a.2) (.ret []) (.ob ((a.1.Card==5)=true/\True) (.ob (eH w a.1 s.Val.re) (.ret (b w a.1 s.Val.re)))))
def avu (c:aj->Op->ah->Raw)(dX:aj->Op->ah->Prop)(e:aj->Op->ah->List Raw)(eH:aj->Op->ah->Prop)(g:aj->Op->ah->List Raw)(dS:aj->Op->ah->Prop)(f:aj->Op->ah->List Raw)(f_:aj->Op->ah->Prop)(d:aj->Int->Slot->List Raw)(iJ:aj->Int->Slot->Prop)(b:aj->Int->ah->Str)(jT:aj->Int->ah->Prop)(w:aj)(prog:Int)(s:Slot):Pg (List Raw):=.ix prog w.p.bD.length (.lt (mY (w.p.bD.getD prog.toNat dC) s.Num) fun a=> .br (!a.2) (.ret []) (.ob ((a.1.Card==5)=false/\mf a.1=true/\True) (.ob ((1<=a.1.Num/\a.1.Num<=65535)/\gV s.Val.re) (.ret (aH8 w a.1 s.Val.re)))))
def aGq (d:aj->Op->ah->Raw)(dX:aj->Op->ah->Prop)(f:aj->Op->ah->List Raw)(eH:aj->Op->ah->Prop)(b:aj->Op->ah->List Raw)(dS:aj->Op->ah->Prop)(g:aj->Op->ah->List Raw)(f_:aj->Op->ah->Prop)(e:aj->Int->Slot->List Raw)(iJ:aj->Int->Slot->Prop)(c:aj->Int->ah->Str)(jT:aj->Int->ah->Prop)(w:aj)(prog:Int)(s:Slot):Pg (List Raw):=.ix prog w.p.bD.length (.lt (mY (w.p.bD.getD prog.toNat dC) s.Num) fun a=> .br (!a.2) (.ret []) (.ob ((a.1.Card==5)=false/\mf a.1=false/\(a.1.Card==4)=true/\True) (.ob (dS w a.1 s.Val.re) (.ret (b w a.1 s.Val.re)))))
def aGr (d:aj->Op->ah->Raw)(dX:aj->Op->ah->Prop)(f:aj->Op->ah->List Raw)(eH:aj->Op->ah->Prop)(g:aj->Op->ah->List Raw)(dS:aj->Op->ah->Prop)(b:aj->Op->ah->List Raw)(f_:aj->Op->ah->Prop)(e:aj->Int->Slot->List Raw)(iJ:aj->Int->Slot->Prop)(c:aj->Int->ah->Str)(jT:aj->Int->ah->Prop)(w:aj)(prog:Int)(s:Slot):Pg (List Raw):=.ix prog w.p.bD.length (.lt (mY (w.p.bD.getD prog.toNat dC) s.Num) fun a=> .br (!a.2) (.ret []) (.ob ((a.1.Card==5)=false/\mf a.1=false/\(a.1.Card==4)=false/\True) (.ob (f_ w a.1 s.Val.re) (.ret (b w a.1 s.Val.re)))))
def awI (j:aj->Op->ah->Raw)(dX:aj->Op->ah->Prop)(k:aj->Op->ah->List Raw)(eH:aj->Op->ah->Prop)(m:aj->Op->ah->List Raw)(dS:aj->Op->ah->Prop)(l:aj->Op->ah->List Raw)(f_:aj->Op->ah->Prop)(g:aj->Int->Slot->List Raw)(iJ:aj->Int->Slot->Prop)(i:aj->Int->ah->Str)(jT:aj->Int->ah->Prop)(w:aj)(prog:Int)(v:ah):Pg (List UInt8):=.ob (gV v.re) (.lt (Yx w.p prog v.re) fun d=> aL d.Slots (.each false oZ d.Slots cO (fun h b (c:List Raw×List Raw)=> .ix h d.Slots.length (.cut (fun(e:List Raw×List Raw)=> .ob (iJ w prog (Slot.mk b.Num b.Val.re)) (.ob (bZ (e.1.length+(g w prog (Slot.mk b.Num b.Val.re)).length) 40) (rl (e.1++g w prog (Slot.mk b.Num b.Val.re),e.2)))) (.wh (tV v+1) default (fun(a:List Raw×List Raw)=> .br (decide (0 < (↑a.2.length:Int))) (.ix 0 a.2.length (.br (decide ((a.2.getD 0 qf).Num < b.Num)) (.ix 0 a.2.length (.ob (bZ (a.1.length+1) 40) (.ob ((0:Int)<=1/\1<=(↑a.2.length:Int)/\(↑a.2.length:Int)<=(↑a.2.length:Int)) (rl (a.1++[a.2.getD 0 qf],List.drop 1 (List.take a.2.length a.2)))))) (.ret (.inr (.inl a))))) (.ret (.inr (.inl a)))) c))) (fun h (c:List Raw×List Raw)=> .ob (bZ (c.1.length+c.2.length) 40) (.lt (c.1++c.2) fun(f:List Raw)=> .ob (ZI f) (.ret (RQ f)))) ([],d.bM)))
def dX (a:Nat)(w:aj)(o:Op)(v:ah):Prop:=ig w.p/\Vk w.p o/\gV v/\4*tV v+1<=a
def eH (a:Nat)(w:aj)(o:Op)(v:ah):Prop:=ig w.p/\Vk w.p o/\gV v/\4*tV v+2<=a
def dS (a:Nat)(w:aj)(o:Op)(v:ah):Prop:=ig w.p/\Vk w.p o/\gV v/\4*tV v+2<=a
def f_ (a:Nat)(w:aj)(o:Op)(v:ah):Prop:=ig w.p/\Vk w.p o/\gV v/\4*tV v+2<=a
def iJ (a:Nat)(w:aj)(prog:Int)(s:Slot):Prop:=ig w.p/\(0<=prog/\prog < w.p.bD.length)/\gV s.Val/\4*tV s.Val+3<=a
def jT (a:Nat)(w:aj)(prog:Int)(v:ah):Prop:=ig w.p/\(0<=prog/\prog < w.p.bD.length)/\gV v/\4*tV v<=a
def kK:Nat->(aj->Op->ah->Raw)×(aj->Op->ah->(List Raw))×(aj->Op->ah->(List Raw))×(aj->Op->ah->(List Raw))×(aj->Int->Slot->(List Raw))×(aj->Int->ah->Str)
 | 0=>(fun _ _ _=>default,fun _ _ _=>default,fun _ _ _=>default,fun _ _ _=>default,fun _ _ _=>default,fun _ _ _=>default)
 | a+1=>(fun w o v=>(X3 ((kK a).1) (dX a) ((kK a).2.1) (eH a) ((kK a).2.2.1) (dS a) ((kK a).2.2.2.1) (f_ a) ((kK a).2.2.2.2.1) (iJ a) ((kK a).2.2.2.2.2) (jT a) w o v).val,fun w o v=>(VK ((kK a).1) (dX a) ((kK a).2.1) (eH a) ((kK a).2.2.1) (dS a) ((kK a).2.2.2.1) (f_ a) ((kK a).2.2.2.2.1) (iJ a) ((kK a).2.2.2.2.2) (jT a) w o v).val,fun w o v=>(PO ((kK a).1) (dX a) ((kK a).2.1) (eH a) ((kK a).2.2.1) (dS a) ((kK a).2.2.2.1) (f_ a) ((kK a).2.2.2.2.1) (iJ a) ((kK a).2.2.2.2.2) (jT a) w o v).val,fun w o v=>(acj ((kK a).1) (dX a) ((kK a).2.1) (eH a) ((kK a).2.2.1) (dS a) ((kK a).2.2.2.1) (f_ a) ((kK a).2.2.2.2.1) (iJ a) ((kK a).2.2.2.2.2) (jT a) w o v).val,fun w prog s=>bif (mY (w.p.bD.getD prog.toNat dC) s.Num).1.Card==5 then(aFG ((kK a).1) (dX a) ((kK a).2.1) (eH a) ((kK a).2.2.1) (dS a) ((kK a).2.2.2.1) (f_ a) ((kK a).2.2.2.2.1) (iJ a) ((kK a).2.2.2.2.2) (jT a) w prog s).val else bif mf (mY (w.p.bD.getD prog.toNat dC) s.Num).1 then(avu ((kK a).1) (dX a) ((kK a).2.1) (eH a) ((kK a).2.2.1) (dS a) ((kK a).2.2.2.1) (f_ a) ((kK a).2.2.2.2.1) (iJ a) ((kK a).2.2.2.2.2) (jT a) w prog s).val else bif (mY (w.p.bD.getD prog.toNat dC) s.Num).1.Card==4 then(aGq ((kK a).1) (dX a) ((kK a).2.1) (eH a) ((kK a).2.2.1) (dS a) ((kK a).2.2.2.1) (f_ a) ((kK a).2.2.2.2.1) (iJ a) ((kK a).2.2.2.2.2) (jT a) w prog s).val else(aGr ((kK a).1) (dX a) ((kK a).2.1) (eH a) ((kK a).2.2.1) (dS a) ((kK a).2.2.2.1) (f_ a) ((kK a).2.2.2.2.1) (iJ a) ((kK a).2.2.2.2.2) (jT a) w prog s).val,fun w prog v=>(awI ((kK a).1) (dX a) ((kK a).2.1) (eH a) ((kK a).2.2.1) (dS a) ((kK a).2.2.2.1) (f_ a) ((kK a).2.2.2.2.1) (iJ a) ((kK a).2.2.2.2.2) (jT a) w prog v).val)
def asN (w:aj)(prog:Int)(v:ah):Str:=(kK (4*tV v)).2.2.2.2.2 w prog v
def Ap (a:Nat):Prop:=(∀(w:aj) (o:Op) (v:ah),dX a w o v->(fun r=>eOk r (64*tV v)) ((kK a).1 w o v))/\(∀(w:aj) (o:Op) (v:ah),eH a w o v->(fun r=>(∀x∈r,Ov x)/\w_ r<=24+64*tV v) ((kK a).2.1 w o v))/\(∀(w:aj) (o:Op) (v:ah),dS a w o v->(fun r=>(∀x∈r,Ov x)/\w_ r<=24+64*tV v) ((kK a).2.2.1 w o v))/\(∀(w:aj) (o:Op) (v:ah),f_ a w o v->(fun r=>(∀x∈r,Ov x)/\w_ r<=24+64*tV v) ((kK a).2.2.2.1 w o v))/\(∀(w:aj) (prog:Int) (s:Slot),iJ a w prog s->(fun r=>(∀x∈r,Ov x)/\w_ r<=24+64*tV s.Val) ((kK a).2.2.2.2.1 w prog s))/\(∀(w:aj) (prog:Int) (v:ah),jT a w prog v->(fun r=>r.length<=64*tV v) ((kK a).2.2.2.2.2 w prog v))
abbrev DU (a:Nat):=X3 ((kK a).1) (dX a) ((kK a).2.1) (eH a) ((kK a).2.2.1) (dS a) ((kK a).2.2.2.1) (f_ a) ((kK a).2.2.2.2.1) (iJ a) ((kK a).2.2.2.2.2) (jT a)
theorem MK (a:Nat)(f:Ap a)(w:aj)(o:Op)(v:ah)(h:dX (a+1) w o v):j_ (DU a w o v) (fun r=>eOk r (64*tV v)):=
 by
 obtain⟨e,g,c,i⟩:=h;unfold DU X3;simp only[ah.dR];refine dK (fun b=> ?_) (fun b=>af ?_)
 ·have d:jT a w o.Target v:=⟨e,g.1 b,c,by omega⟩;exact ai d (af (amn ⟨by decide,by decide⟩ (f.2.2.2.2.2 _ _ _ d)))
 ·exact axo (Jn c.1) (by have:=iZ v;omega)
abbrev DR (a:Nat):=VK ((kK a).1) (dX a) ((kK a).2.1) (eH a) ((kK a).2.2.1) (dS a) ((kK a).2.2.2.1) (f_ a) ((kK a).2.2.2.2.1) (iJ a) ((kK a).2.2.2.2.2) (jT a)
theorem KJ (c:Nat)(H:Ap c)(w:aj)(o:Op)(v:ah)(h:eH (c+1) w o v):j_ (DR c w o v) (fun r=>(∀x∈r,Ov x)/\w_ r<=24+64*tV v):=
 by
 obtain⟨K,p,e,U⟩:=h;have u:=qm e;have S:=e.2;have N:=u.2.2.2.1;have P:=iZ v;have R:=xg v.Pairs;unfold DR VK;simp only[ah.dR];refine bW <| dh (fun i y=>y.length<=i/\(∀x∈y,Ov x)/\w_ y<=64*kG tP (v.Pairs.take i)) ⟨nO _,fun x J=>absurd J (Zc),ve _⟩ (by have:=u.2.2.2.1;omega) (fun g n A hI=> ?_) fun n hI=>af ⟨hI.2.1,?_⟩
 ·have l:=getD_mem (d:=iE) A;obtain⟨B,O,T,Q⟩:=zL e l;have D:=alB e l;have k:dX c w o (v.Pairs.getD g iE).Val:=⟨K,p,B,by omega⟩;have E:=H.1 _ _ _ k;have M:=Jn D;have V:=iZ (v.Pairs.getD g iE).Key;have F:=qZ (f:=tP) (d:=iE) A;have L:=Qy (v.Pairs.getD g iE);refine aW au au (ai k (az fun a s=>az fun b t=> ?_));obtain⟨q,C⟩:=Ac (num:=2) ⟨by decide,by decide⟩ E;obtain⟨j,G⟩:=Ac (num:=1) ⟨by decide,by decide⟩ M;rw[<-s]at q C;rw[<-t]at j G;have z:w_ [b,a]=24+b.Data.length+(24+a.Data.length):=rfl;have m:ZI [b,a]:=⟨aoi j q,by rw[z];omega⟩;have I:=age m;rw[z]at I;refine ai m (ai (dm qbg qbg) (af ⟨by have:=hI.1;simp only[um,yG,CJ];omega,qJ hI.2.1 (lD ?_),?_⟩))
  ·exact XO (f:=Raw.mk o.Num 6 0 (RQ [b,a])) p.2.2 ⟨(by decide:(0:Int)<=6),MS 6⟩ u0 (fun h=>absurd h (by decide:¬(6:Int)<=2)) (fun _=>rfl)
  ·have:=hI.2.2;rw[Kz,Np,F,L];show w_ n+(24+(RQ [b,a]).length)<=_
   omega
 ·have:=hI.2.2;rw[Kr]at this;omega
abbrev Ai (a:Nat):=PO ((kK a).1) (dX a) ((kK a).2.1) (eH a) ((kK a).2.2.1) (dS a) ((kK a).2.2.2.1) (f_ a) ((kK a).2.2.2.2.1) (iJ a) ((kK a).2.2.2.2.2) (jT a)
theorem IX (a:Nat)(q:Ap a)(w:aj)(o:Op)(v:ah)(h:dS (a+1) w o v):j_ (Ai a w o v) (fun r=>(∀x∈r,Ov x)/\w_ r<=24+64*tV v):=
 by
 obtain⟨t,e,b,D⟩:=h;have E:=qm b;have C:=b.2;have A:=iZ v;have B:=vI v.List;unfold Ai PO;simp only[ah.dR];refine bW <| dh (fun i y=>y.length<=i/\(∀x∈y,Ov x)/\w_ y<=64*kG (fun x=>1+tV x) (v.List.take i)) ⟨nO _,fun x s=>absurd s (Zc),ve _⟩ au (fun n l g hI=> ?_) fun l hI=>af ⟨hI.2.1,?_⟩
 ·obtain⟨j,z⟩:=D5 b (getD_mem (d:=gQ) g);have c:dX a w o (v.List.getD n gQ):=⟨t,e,j,by omega⟩;have k:=q.1 _ _ _ c;have m:=qZ (f:=fun x=>1+tV x) (d:=gQ) g;obtain⟨p,u⟩:=Ac e.2.2 k;refine aW au au (ai c (ai (dm qbg qbg) (af ⟨by have:=hI.1;simp only[um,yG,CJ];omega,qJ hI.2.1 (lD p),?_⟩)));have:=hI.2.2;rw[Kz,Np,m];omega
 ·have:=hI.2.2;rw[Kr]at this;omega
abbrev Hu (a:Nat):=acj ((kK a).1) (dX a) ((kK a).2.1) (eH a) ((kK a).2.2.1) (dS a) ((kK a).2.2.2.1) (f_ a) ((kK a).2.2.2.2.1) (iJ a) ((kK a).2.2.2.2.2) (jT a)
theorem QH (a:Nat)(g:Ap a)(w:aj)(o:Op)(v:ah)(h:f_ (a+1) w o v):j_ (Hu a w o v) (fun r=>(∀x∈r,Ov x)/\w_ r<=24+64*tV v):=
 by
 obtain⟨e,c,d,i⟩:=h;unfold Hu acj;simp only[ah.dR];have b:dX a w o v:=⟨e,c,d,by omega⟩;obtain⟨f,j⟩:=Ac c.2.2 (g.1 _ _ _ b);exact ai b (af ⟨lD f,by rw[Np];omega⟩)
abbrev VQ (a:Nat):=aFG ((kK a).1) (dX a) ((kK a).2.1) (eH a) ((kK a).2.2.1) (dS a) ((kK a).2.2.2.1) (f_ a) ((kK a).2.2.2.2.1) (iJ a) ((kK a).2.2.2.2.2) (jT a)
theorem ahK (a:Nat)(o:Ap a)(w:aj)(prog:Int)(s:Slot)(h:iJ (a+1) w prog s)(j:((mY (w.p.bD.getD prog.toNat dC) s.Num).1.Card==5)=true):j_ (VQ a w prog s) (fun r=>(∀x∈r,Ov x)/\w_ r<=24+64*tV s.Val):=
 by
 obtain⟨b,c,k,p⟩:=h;unfold VQ aFG;simp only[ah.dR];refine aW c.1 c.2 (az fun n hv1=>dJ (fun _=>af ⟨fun x m=>absurd m (Zc),ve _⟩) fun hf=> ?_);have f:=(b _ (getD_mem (d:=dC) (l:=w.p.bD) (i:=prog.toNat) au)).2 _ (LC (g:=w.p.bD.getD prog.toNat dC) (num:=s.Num) qco);rw[<-hv1]at f j;have e:eH a w n.1 s.Val:=⟨b,f,k,by omega⟩;exact ai ⟨j,trivial⟩ (ai e (af (o.2.1 _ _ _ e)))
abbrev ML (a:Nat):=avu ((kK a).1) (dX a) ((kK a).2.1) (eH a) ((kK a).2.2.1) (dS a) ((kK a).2.2.2.1) (f_ a) ((kK a).2.2.2.2.1) (iJ a) ((kK a).2.2.2.2.2) (jT a)
theorem abJ (a:Nat)(o:Ap a)(w:aj)(prog:Int)(s:Slot)(h:iJ (a+1) w prog s)(c:(mf (mY (w.p.bD.getD prog.toNat dC) s.Num).1)=true/\((mY (w.p.bD.getD prog.toNat dC) s.Num).1.Card==5)=false):j_ (ML a w prog s) (fun r=>(∀x∈r,Ov x)/\w_ r<=24+64*tV s.Val):=
 by
 obtain⟨m,f,e,n⟩:=h;unfold ML avu;simp only[ah.dR];refine aW f.1 f.2 (az fun k hv1=>dJ (fun _=>af ⟨fun x j=>absurd j (Zc),ve _⟩) fun hf=> ?_);have b:=(m _ (getD_mem (d:=dC) (l:=w.p.bD) (i:=prog.toNat) au)).2 _ (LC (g:=w.p.bD.getD prog.toNat dC) (num:=s.Num) qco);rw[<-hv1]at b c;exact ai ⟨c.2,c.1,trivial⟩ (ai ⟨b.2.2,e⟩ (af (aaM w k.1 s.Val ⟨b.2.2,e⟩).2))
abbrev Yp (a:Nat):=aGq ((kK a).1) (dX a) ((kK a).2.1) (eH a) ((kK a).2.2.1) (dS a) ((kK a).2.2.2.1) (f_ a) ((kK a).2.2.2.2.1) (iJ a) ((kK a).2.2.2.2.2) (jT a)
theorem ahY (a:Nat)(o:Ap a)(w:aj)(prog:Int)(s:Slot)(h:iJ (a+1) w prog s)(b:((mY (w.p.bD.getD prog.toNat dC) s.Num).1.Card==4)=true/\(mf (mY (w.p.bD.getD prog.toNat dC) s.Num).1)=false/\((mY (w.p.bD.getD prog.toNat dC) s.Num).1.Card==5)=false):j_ (Yp a w prog s) (fun r=>(∀x∈r,Ov x)/\w_ r<=24+64*tV s.Val):=
 by
 obtain⟨c,e,k,p⟩:=h;unfold Yp aGq;simp only[ah.dR];refine aW e.1 e.2 (az fun n hv1=>dJ (fun _=>af ⟨fun x m=>absurd m (Zc),ve _⟩) fun hf=> ?_);have j:=(c _ (getD_mem (d:=dC) (l:=w.p.bD) (i:=prog.toNat) au)).2 _ (LC (g:=w.p.bD.getD prog.toNat dC) (num:=s.Num) qco);rw[<-hv1]at j b;have f:dS a w n.1 s.Val:=⟨c,j,k,by omega⟩;exact ai ⟨b.2.2,b.2.1,b.1,trivial⟩ (ai f (af (o.2.2.1 _ _ _ f)))
abbrev Xi (a:Nat):=aGr ((kK a).1) (dX a) ((kK a).2.1) (eH a) ((kK a).2.2.1) (dS a) ((kK a).2.2.2.1) (f_ a) ((kK a).2.2.2.2.1) (iJ a) ((kK a).2.2.2.2.2) (jT a)
theorem afG (a:Nat)(o:Ap a)(w:aj)(prog:Int)(s:Slot)(h:iJ (a+1) w prog s)(b:((mY (w.p.bD.getD prog.toNat dC) s.Num).1.Card==4)=false/\(mf (mY (w.p.bD.getD prog.toNat dC) s.Num).1)=false/\((mY (w.p.bD.getD prog.toNat dC) s.Num).1.Card==5)=false):j_ (Xi a w prog s) (fun r=>(∀x∈r,Ov x)/\w_ r<=24+64*tV s.Val):=
 by
 obtain⟨c,e,k,p⟩:=h;unfold Xi aGr;simp only[ah.dR];refine aW e.1 e.2 (az fun n hv1=>dJ (fun _=>af ⟨fun x m=>absurd m (Zc),ve _⟩) fun hf=> ?_);have j:=(c _ (getD_mem (d:=dC) (l:=w.p.bD) (i:=prog.toNat) au)).2 _ (LC (g:=w.p.bD.getD prog.toNat dC) (num:=s.Num) qco);rw[<-hv1]at j b;have f:f_ a w n.1 s.Val:=⟨c,j,k,by omega⟩;exact ai ⟨b.2.2,b.2.1,b.1,trivial⟩ (ai f (af (o.2.2.2.1 _ _ _ f)))
abbrev Tv (a:Nat):=awI ((kK a).1) (dX a) ((kK a).2.1) (eH a) ((kK a).2.2.1) (dS a) ((kK a).2.2.2.1) (f_ a) ((kK a).2.2.2.2.1) (iJ a) ((kK a).2.2.2.2.2) (jT a)
theorem aaZ (l:Nat)(S:Ap l)(w:aj)(prog:Int)(v:ah)(h:jT (l+1) w prog v):j_ (Tv l w prog v) (fun r=>r.length<=64*tV v):=
 by
 obtain⟨T,R,B,h4⟩:=h;unfold Tv awI;simp only[ah.dR];obtain⟨y,M⟩:=Ry w.p prog v B;have hb:=B.2;refine ai B (az fun b F=> ?_);rw[<-F]at y M;have J:gV b:=⟨y,by omega⟩;have hl:=qm J;have Z:=iZ b;have ks:=(iV b).1 y;have sR:=aAl b.bM;have X:=LH b.bM;have sS:=xe b.Slots;have s:∀i,kG tS (b.Slots.take i)<=kG tS b.Slots:=fun i=>wu (Qd i _)
 refine bW <| dh (enI b) ⟨fun x p=>absurd p (Zc),ks.1.2,nO _,by show w_ []+w_ b.bM<=_;have:w_ []=0:=rfl;omega⟩ au (fun k m K n=> ?_) fun m n=> ?_
 ·refine aW au au (bP (enI b k) (qo (enI b k) (fun x=>x.2.length) n (by have:=n.2.2.1;show m.2.length < tV v+1;omega) fun x p=> ?_) fun u G=> ?_)
  ·obtain⟨o,r⟩:=x;cases r with
   | nil=>exact bG (fun H=>absurd H (by show ¬(0:Int) < ((([]:List Raw).length:Nat):Int);simp)) fun _=>af p
   | cons a t=>
    obtain⟨g,e,j,c⟩:=p;have j:t.length+1<=b.bM.length:=j;have c:w_ o+w_ (a::t)<=w_ b.bM+64*kG tS (b.Slots.take k):=c;rw[WY]at c;have I:=Hl o;have D:=s k;have V:List.drop 1 (List.take (a::t).length (a::t))=t:=by simp
    refine bG (fun H=>aW (MS 0) qcc (bG (fun W=>aW (MS 0) qcc (ai (dm (by show o.length+1<=_;omega) (by show(o.length+1)*40<=_;omega)) (ai (by simp only[yG];omega) (af ?_)))) fun _=>af ⟨g,e,j,by rw[WY];exact c⟩)) fun _=>af ⟨g,e,j,by rw[WY];exact c⟩;rw[V];refine⟨⟨qJ g (lD (e a (List.mem_cons_self))),fun z P=>e z (Qb9 _ P),by show t.length<=_;omega,?_⟩,by show t.length < (a::t).length;simp⟩;show w_ (o++[a])+w_ t<=_
    rw[Kz,Np];omega
  ·have N:=getD_mem (d:=cO) K;obtain⟨L,Y⟩:=MB J N;have Q:=qZ (f:=tS) (d:=cO) K;have U:=zD (b.Slots.getD k cO);have D:=s (k+1);generalize b.Slots.getD k cO=a at*;rw[Slot.eta];have C:iJ l w prog a:=⟨T,R,L,by omega⟩;obtain⟨O,k2⟩:=S.2.2.2.2.1 w prog a C;obtain⟨g,e,j,c⟩:=G;have I:=Hl u.1;have q3:=Hl ((kK l).2.2.2.2.1 w prog a);refine ai C (ai (dm au au) (af ⟨qJ g O,e,j,?_⟩));show w_ (u.1++(kK l).2.2.2.2.1 w prog a)+w_ u.2<=_
   rw[Kz,Q,U];omega
 ·obtain⟨g,e,j,c⟩:=n;have I:=Hl m.1;have D:=Hl m.2;rw[Kr]at c;refine ai (dm au au) (az fun A q=> ?_);have e7:w_ A=w_ m.1+w_ m.2:=by rw[q,Kz]
  have E:ZI A:=⟨by rw[q];exact qJ g e,by omega⟩;have pl:=age E;exact ai E (af (by show(RQ A).length<=64*tV v;omega))
theorem nG:∀a,Ap a
 | 0=>⟨fun w o v h=>False.elim qb4,
  fun w o v h=>False.elim qb4,
  fun w o v h=>False.elim qb4,
  fun w o v h=>False.elim qb4,
  fun w prog s h=>False.elim (by have k:=h.2.2.2;have:=nI s.Val;omega),
  fun w prog v h=>False.elim qb4⟩
 | a+1=>⟨fun w o v h=>(MK a (nG a) w o v h).2,
  fun w o v h=>(KJ a (nG a) w o v h).2,
  fun w o v h=>(IX a (nG a) w o v h).2,
  fun w o v h=>(QH a (nG a) w o v h).2,
  fun w prog s h=>by
  show(fun r=>(∀x∈r,Ov x)/\w_ r<=24+64*tV s.Val) ((kK (a+1)).2.2.2.2.1 w prog s)
  unfold kK;dsimp only;cases b:((mY (w.p.bD.getD prog.toNat dC) s.Num).1.Card==5)with
  | true=>exact(ahK a (nG a) w prog s h b).2
  | false=>
   cases c:(mf (mY (w.p.bD.getD prog.toNat dC) s.Num).1)with
   | true=>exact(abJ a (nG a) w prog s h ⟨c,b⟩).2
   | false=>
    cases d:((mY (w.p.bD.getD prog.toNat dC) s.Num).1.Card==4)with
    | true=>exact(ahY a (nG a) w prog s h ⟨d,c,b⟩).2
    | false=>
     exact(afG a (nG a) w prog s h ⟨d,c,b⟩).2,
  fun w prog v h=>(aaZ a (nG a) w prog v h).2⟩
theorem aic (a:Nat)(w:aj)(o:Op)(v:ah)(h:dX (a+1) w o v):Is (DU a w o v):=(MK a (nG a) w o v h).1
theorem ahR (a:Nat)(w:aj)(o:Op)(v:ah)(h:eH (a+1) w o v):Is (DR a w o v):=(KJ a (nG a) w o v h).1
theorem adr (a:Nat)(w:aj)(o:Op)(v:ah)(h:dS (a+1) w o v):Is (Ai a w o v):=(IX a (nG a) w o v h).1
theorem ak5 (a:Nat)(w:aj)(o:Op)(v:ah)(h:f_ (a+1) w o v):Is (Hu a w o v):=(QH a (nG a) w o v h).1
theorem aDG (a:Nat)(w:aj)(prog:Int)(s:Slot)(h:iJ (a+1) w prog s)(b:((mY (w.p.bD.getD prog.toNat dC) s.Num).1.Card==5)=true):Is (VQ a w prog s):=(ahK a (nG a) w prog s h b).1
theorem ayn (a:Nat)(w:aj)(prog:Int)(s:Slot)(h:iJ (a+1) w prog s)(b:(mf (mY (w.p.bD.getD prog.toNat dC) s.Num).1)=true/\((mY (w.p.bD.getD prog.toNat dC) s.Num).1.Card==5)=false):Is (ML a w prog s):=(abJ a (nG a) w prog s h b).1
theorem aBx (a:Nat)(w:aj)(prog:Int)(s:Slot)(h:iJ (a+1) w prog s)(b:((mY (w.p.bD.getD prog.toNat dC) s.Num).1.Card==4)=true/\(mf (mY (w.p.bD.getD prog.toNat dC) s.Num).1)=false/\((mY (w.p.bD.getD prog.toNat dC) s.Num).1.Card==5)=false):Is (Yp a w prog s):=(ahY a (nG a) w prog s h b).1
theorem aCd (a:Nat)(w:aj)(prog:Int)(s:Slot)(h:iJ (a+1) w prog s)(b:((mY (w.p.bD.getD prog.toNat dC) s.Num).1.Card==4)=false/\(mf (mY (w.p.bD.getD prog.toNat dC) s.Num).1)=false/\((mY (w.p.bD.getD prog.toNat dC) s.Num).1.Card==5)=false):Is (Xi a w prog s):=(afG a (nG a) w prog s h b).1
theorem awf (a:Nat)(w:aj)(prog:Int)(v:ah)(h:jT (a+1) w prog v):Is (Tv a w prog v):=(aaZ a (nG a) w prog v h).1
set_option maxHeartbeats 4000000 in
theorem aET:∀b,gZ Z.P Z.S 439 (qj (args (ak (aJ gK) (ak (aJ jF) (a1 (aJ aP))))) (shr [.slot 0 true (nn 4)] (l1 pF)) 1 [] (fun a=>some (dX b (a.1) (a.2.1) (a.2.2))) (fun a=>(kK b).1 (a.1) (a.2.1) (a.2.2)))/\gZ Z.P Z.S 374 (qj (args (ak (aJ gK) (ak (aJ jF) (a1 (aJ aP))))) (R1 bU) 1 [] (fun a=>some (eH b (a.1) (a.2.1) (a.2.2))) (fun a=>(kK b).2.1 (a.1) (a.2.1) (a.2.2)))/\gZ Z.P Z.S 376 (qj (args (ak (aJ gK) (ak (aJ jF) (a1 (aJ aP))))) (R1 bU) 1 [] (fun a=>some (dS b (a.1) (a.2.1) (a.2.2))) (fun a=>(kK b).2.2.1 (a.1) (a.2.1) (a.2.2)))/\gZ Z.P Z.S 377 (qj (args (ak (aJ gK) (ak (aJ jF) (a1 (aJ aP))))) (R1 bU) 1 [] (fun a=>some (f_ b (a.1) (a.2.1) (a.2.2))) (fun a=>(kK b).2.2.2.1 (a.1) (a.2.1) (a.2.2)))/\gZ Z.P Z.S 171 (qj (args (ak (aJ gK) (ak (bC cI) (a1 (aJ nR))))) (R1 bU) 1 [] (fun a=>some (iJ b (a.1) (a.2.1) (a.2.2))) (fun a=>(kK b).2.2.2.2.1 (a.1) (a.2.1) (a.2.2)))/\gZ Z.P Z.S 98 (qj (args (ak (aJ gK) (ak (bC cI) (a1 (aJ aP))))) (R1 cStr) 1 [] (fun a=>some (jT b (a.1) (a.2.1) (a.2.2))) (fun a=>(kK b).2.2.2.2.2 (a.1) (a.2.1) (a.2.2)))
 | 0=>⟨je func439 eQ (fun a h=>by have k:=h.2.2.2;have:=nI (a.2.2);omega),
  je func374 eQ (fun a h=>by have k:=h.2.2.2;have:=nI (a.2.2);omega),
  je func376 eQ (fun a h=>by have k:=h.2.2.2;have:=nI (a.2.2);omega),
  je func377 eQ (fun a h=>by have k:=h.2.2.2;have:=nI (a.2.2);omega),
  je func171 eQ (fun a h=>by have k:=h.2.2.2;have:=nI (a.2.2).Val;omega),
  je func98 eQ (fun a h=>by have k:=h.2.2.2;have:=nI (a.2.2);omega)⟩
 | b+1=>by
  obtain⟨g,i,j,f,c,d⟩:=aET b;have o:gZ Z.P Z.S 171 (qj (args (ak (aJ gK) (ak (bC cI) (a1 (aJ nR))))) (R1 bU) 1 [] (fun a=>some (((mY ((a.1).p.bD.getD (a.2.1).toNat dC) (a.2.2).Num).1.Card==5)=true/\(iJ (b+1) (a.1) (a.2.1) (a.2.2)))) (fun a=>(VQ b (a.1) (a.2.1) (a.2.2)).val)):=GU [Qu,aFR,⟨439,_,g⟩,⟨374,_,i⟩,⟨376,_,j⟩,⟨377,_,f⟩,⟨171,_,c⟩,⟨98,_,d⟩] [] func171 ntmps171 (fun a=>VQ b a.1 a.2.1 a.2.2) (fun a h=>⟨aDG b a.1 a.2.1 a.2.2 h.2 h.1,rfl⟩) (lJ (n:=30) rfl);have p:gZ Z.P Z.S 171 (qj (args (ak (aJ gK) (ak (bC cI) (a1 (aJ nR))))) (R1 bU) 1 [] (fun a=>some ((mf (mY ((a.1).p.bD.getD (a.2.1).toNat dC) (a.2.2).Num).1)=true/\(((mY ((a.1).p.bD.getD (a.2.1).toNat dC) (a.2.2).Num).1.Card==5)=false/\(iJ (b+1) (a.1) (a.2.1) (a.2.2))))) (fun a=>(ML b (a.1) (a.2.1) (a.2.2)).val)):=GU [Qu,aGS,aA_,⟨439,_,g⟩,⟨374,_,i⟩,⟨376,_,j⟩,⟨377,_,f⟩,⟨171,_,c⟩,⟨98,_,d⟩] [] func171 ntmps171 (fun a=>ML b a.1 a.2.1 a.2.2) (fun a h=>⟨ayn b a.1 a.2.1 a.2.2 h.2.2 ⟨h.1,h.2.1⟩,rfl⟩) (lJ (n:=30) rfl);have q:gZ Z.P Z.S 171 (qj (args (ak (aJ gK) (ak (bC cI) (a1 (aJ nR))))) (R1 bU) 1 [] (fun a=>some (((mY ((a.1).p.bD.getD (a.2.1).toNat dC) (a.2.2).Num).1.Card==4)=true/\((mf (mY ((a.1).p.bD.getD (a.2.1).toNat dC) (a.2.2).Num).1)=false/\(((mY ((a.1).p.bD.getD (a.2.1).toNat dC) (a.2.2).Num).1.Card==5)=false/\(iJ (b+1) (a.1) (a.2.1) (a.2.2)))))) (fun a=>(Yp b (a.1) (a.2.1) (a.2.2)).val)):=GU [Qu,aGo,⟨439,_,g⟩,⟨374,_,i⟩,⟨376,_,j⟩,⟨377,_,f⟩,⟨171,_,c⟩,⟨98,_,d⟩] [] func171 ntmps171 (fun a=>Yp b a.1 a.2.1 a.2.2) (fun a h=>⟨aBx b a.1 a.2.1 a.2.2 h.2.2.2 ⟨h.1,h.2.1,h.2.2.1⟩,rfl⟩) (lJ (n:=30) rfl);have m:gZ Z.P Z.S 171 (qj (args (ak (aJ gK) (ak (bC cI) (a1 (aJ nR))))) (R1 bU) 1 [] (fun a=>some (((mY ((a.1).p.bD.getD (a.2.1).toNat dC) (a.2.2).Num).1.Card==4)=false/\((mf (mY ((a.1).p.bD.getD (a.2.1).toNat dC) (a.2.2).Num).1)=false/\(((mY ((a.1).p.bD.getD (a.2.1).toNat dC) (a.2.2).Num).1.Card==5)=false/\(iJ (b+1) (a.1) (a.2.1) (a.2.2)))))) (fun a=>(Xi b (a.1) (a.2.1) (a.2.2)).val)):=GU [Qu,aH_,⟨439,_,g⟩,⟨374,_,i⟩,⟨376,_,j⟩,⟨377,_,f⟩,⟨171,_,c⟩,⟨98,_,d⟩] [] func171 ntmps171 (fun a=>Xi b a.1 a.2.1 a.2.2) (fun a h=>⟨aCd b a.1 a.2.1 a.2.2 h.2.2.2 ⟨h.1,h.2.1,h.2.2.1⟩,rfl⟩) (lJ (n:=30) rfl);exact⟨GU [Ph,⟨439,_,g⟩,⟨374,_,i⟩,⟨376,_,j⟩,⟨377,_,f⟩,⟨171,_,c⟩,⟨98,_,d⟩] [] func439 ntmps439 (fun a=>DU b a.1 a.2.1 a.2.2) (fun a h=>⟨aic b a.1 a.2.1 a.2.2 h,rfl⟩) (lJ (n:=18) rfl),
   GU [atD,Fz,Ph,⟨439,_,g⟩,⟨374,_,i⟩,⟨376,_,j⟩,⟨377,_,f⟩,⟨171,_,c⟩,⟨98,_,d⟩] [jS 3 (bI (fun l=>[s0 14, .slot 7 false [some 295]]) (aB cI (l1 bU)))] func374 ntmps374 (fun a=>DR b a.1 a.2.1 a.2.2) (fun a h=>⟨ahR b a.1 a.2.1 a.2.2 h,rfl⟩) (lJ (n:=39) rfl),
   GU [Fz,⟨439,_,g⟩,⟨374,_,i⟩,⟨376,_,j⟩,⟨377,_,f⟩,⟨171,_,c⟩,⟨98,_,d⟩] [jS 3 (bI (fun l=>[s0 13, .slot 7 false [some 295]]) (aB cI (l1 bU)))] func376 ntmps376 (fun a=>Ai b a.1 a.2.1 a.2.2) (fun a h=>⟨adr b a.1 a.2.1 a.2.2 h,rfl⟩) (lJ (n:=29) rfl),
   GU [Fz,⟨439,_,g⟩,⟨374,_,i⟩,⟨376,_,j⟩,⟨377,_,f⟩,⟨171,_,c⟩,⟨98,_,d⟩] [] func377 ntmps377 (fun a=>Hu b a.1 a.2.1 a.2.2) (fun a h=>⟨ak5 b a.1 a.2.1 a.2.2 h,rfl⟩) (lJ (n:=15) rfl),
   JV o (JV p (JV q (m))),
   GU [aow,atD,⟨439,_,g⟩,⟨374,_,i⟩,⟨376,_,j⟩,⟨377,_,f⟩,⟨171,_,c⟩,⟨98,_,d⟩] [jS 5 (bI (fun l=>[s0 22, .slot 8 false [some 295], s0 9]) (aB cI (aB bU (l1 bU)))),jS 7 (bI (fun l=>[.slot 8 false [some 295], s0 9]) (aB bU (l1 bU))),jS 100010 (bI (fun l=>[.slot 8 false [some 295], s0 9]) (aB bU (l1 bU)))] func98 ntmps98 (fun a=>Tv b a.1 a.2.1 a.2.2) (fun a h=>⟨awf b a.1 a.2.1 a.2.2 h,rfl⟩) (lJ (n:=57) rfl)⟩
def aCQ:aZ Z:=⟨98,qj (args (ak (aJ gK) (ak (bC cI) (a1 (aJ aP))))) (R1 cStr) 1 [] (fun a=>some (ig (a.1).p/\(0<=(a.2.1)/\(a.2.1) < (a.1).p.bD.length)/\gV (a.2.2))) (fun a=>asN (a.1) (a.2.1) (a.2.2)),kQ (fun n=>((aET n).2.2.2.2.2)) _ _ (fun a h=>⟨4*tV (a.2.2),⟨h.1,h.2.1,h.2.2,nO _⟩,rfl⟩)⟩
def amC (p:dO)(prog:Int):Pg Bool:=.br (decide (0<=prog)) (.br (decide (prog < (↑p.bD.length:Int))) (.ob (IM p/\ig p) (aL p.bD (.ret (aAN p==0)))) (aL p.bD (.ret false))) (.ret false)
def ayP (p:dO)(prog:Int):=(amC p prog).val
def apq:aZ Z:=E1 [ayf] [] (ak (aJ eX) (a1 (bC cI))) (R1 aG) [] func96 1 (u2 amC) fun a=>IM a.1/\ig a.1
def Tz (p:dO)(b:Str)(v:ah):Pg (List UInt8×Int):=.lt (AB p b) fun a=> .br (!a.2) (.ret ([],10)) (.ob (IM p/\ig p) (.br (!ayP p a.1) (.ret ([],1)) (.ob (ig p/\gV v.re) (.lt (aH4 p a.1 v.re) fun d=> .br (d !=0) (.ret ([],d)) (.ob (ig p/\(0<=a.1/\a.1 < (↑p.bD.length:Int))/\gV v.re) (.lt (asN (aj.mk p) a.1 v.re) fun c=> .br (decide (65536 < (↑(List.length c):Int))) (.ret ([],3)) (.ret (c,0))))))))
def agw (p:dO)(a:Str)(v:ah):=(Tz p a v).val
theorem Gf (p:dO)(a:Str)(v:ah)(h:IM p/\ig p/\gV v):j_ (Tz p a v) (fun r=>r.1.length<=65536):=
 by
 obtain⟨f,b,d⟩:=h;unfold Tz;simp only[ah.dR];refine az fun l c=>dJ (fun _=>af (ve _)) fun e=>ai ⟨f,b⟩ (dJ (fun _=>af (ve _)) fun _=>ai ⟨b,d⟩ (az fun m k=>dM (fun _=>af (ve _)) fun _=>ai ⟨b,?_,d⟩ (az fun g j=>bG (fun _=>af (ve _)) fun i=>af (by show g.length<=65536;omega))));rw[c]at e⊢;exact Xj (by simpa using e)
def BF:aZ Z:=E1 [adH,apq,aA9,aCQ] [] (ak (aJ eX) (ak (bC cStr) (a1 (aJ aP)))) (shr [s0 0, s0 1] (aB cStr (l1 cI))) [] func45 2 (u3 Tz) (fun a=>IM a.1/\ig a.1/\gV a.2.2) fun a h=>(Gf a.1 a.2.1 a.2.2 h).1
def vS (s:Server)(a:Str):Pg (dF×Bool):=aL s.Handlers (.each false uj s.Handlers lm (fun c b (d:Unit)=> .ix c s.Handlers.length (.br (b.Method==a) (.ret (.inr (b,true))) (rl ()))) (fun c (d:Unit)=> .ret (dF.mk [] 0 0 0,false)) ())
def kD (s:Server)(a:Str):=(vS s a).val
def FC:aZ Z:=E0 [] [jS 2 (bI (fun b=>[s0 11]) (l1 cI))] (ak (aJ iC) (a1 (bC cStr))) (shr [.slot 0 true (nn 4), s0 1] (aB jR (l1 aG))) [] func26 2 (u2 vS)
def Ua (s:Server)(a:Int)(id:Int):Pg Int:=aL s.Tasks (.each false uj s.Tasks bF (fun b c (d:Unit)=> .ix b s.Tasks.length (.br (c.qy==a) (.br (c.Id==id) (.ret (.inr b)) (rl ())) (rl ()))) (fun b (d:Unit)=> .ret (-1)) ())
def jP (s:Server)(a:Int)(id:Int):=(Ua s a id).val
def P_:aZ Z:=E0 [] [jS 2 (bI (fun b=>[s0 12]) (l1 cI))] (ak (aJ iC) (ak (bC cI) (a1 (bC cI)))) (R1 cI) [] func27 1 (u3 Ua)
theorem avt {s:Server}{c i:Int}:jP s c i < s.Tasks.length/\(0<=jP s c i->((s.Tasks.getD (jP s c i).toNat bF).qy=c/\(s.Tasks.getD (jP s c i).toNat bF).Id=i)):=by
 have k:VP (Ua s c i) (fun r=>r < s.Tasks.length/\(0<=r->((s.Tasks.getD r.toNat bF).qy=c/\(s.Tasks.getD r.toNat bF).Id=i))):=by
  unfold Ua;refine qK (lF (fun _ _=>True) trivial (fun k y d _=>oP (fD (fun a=>fD (fun b=>a_ ⟨by omega,fun _=> ?_⟩) fun _=>a_ trivial) fun _=>a_ trivial)) fun y _=>a_ ⟨by omega,fun h=>absurd h mi⟩);rw[xw];exact⟨eq_of_beq a,eq_of_beq b⟩
 exact k
def yw (s:Server):Prop:=okS s.ay/\okN s.ay/\s.Tasks.length<=1048576/\∀t∈s.Tasks,t.Method.length<=1048576/\t.In.length<=1048576
def ai1 (s:Server)(i:Int)(t:gG):Pg Server:=.ob (bZ (0+s.Tasks.length) 152) (.ix i s.Tasks.length (.ob (i.toNat < s.Tasks.length) (.ret (Server.mk s.Name s.ay s.Handlers s.iO s.Traces (s.Tasks.set i.toNat t) s.Most s.nX))))
def uJ (s:Server)(i:Int)(t:gG):=(ai1 s i t).val
def ahV:aZ Z:=E1 [] [] (ak (aJ iC) (ak (bC cI) (a1 (aJ Gm)))) (shr [.slot 0 true (nn 10)] (l1 iC)) [] func48 1 (u3 ai1) fun a=>a.1.Tasks.length<=1048576/\0<=a.2.1/\a.2.1 < a.1.Tasks.length
def anC (shape:Int):Pg Bool:=.br (decide (1<=shape)) (.ret (decide (shape<=4))) (.ret false)
def ay7 (shape:Int):=(anC shape).val
def arE:aZ Z:=E0 [] [] (a1 (bC cI)) (R1 aG) [] func99 1 anC
def aot (shape:Int):Pg (Int×Int×Int×Int):=.br (!ay7 shape) (.ret (0,0,0,0)) (.lt (lV shape) fun b=> .cut (fun(a:Int×Int)=> .br b.2 (.ret (a.1,a.2,0,(-1))) (.ret (a.1,a.2,1,1))) (.br b.1 (rl (0,(-1))) (rl (1,1))))
def lQ (shape:Int):=(aot shape).val
def aaD:aZ Z:=E0 [vM,arE] [jS 100007 (bI (fun b=>[s0 8, s0 9]) (aB cI (l1 cI)))] (a1 (bC cI)) (shr [s0 0, s0 1, s0 2, s0 3] (aB cI (aB cI (aB cI (l1 cI))))) [] func47 4 aot
def H8 (s:ay)(c:Str)(b:Str):Pg (ah×Int):=.ob (okS s) (.lt (uN s) fun a=> .br (a.2 !=0) (.ret (ah.mk 0 0 [] [] [] [] [],a.2)) (.ob (ig a.1/\okL wo) (.lt (EK a.1 c b wo) fun d=> .ret (d.1.re,d.2))))
def yJ (s:ay)(a:Str)(b:Str):=(H8 s a b).val
theorem IR (s:ay)(b:Str)(a:Str)(h:okS s):j_ (H8 s b a) (fun x=>x.2=0->kV x.1/\tV x.1<=1+8*a.length):=
 by
 unfold H8;simp only[ah.dR];refine ai h (az fun j c=>dM (fun f=>af fun e=>absurd e f) fun d=> ?_);rw[c]at d⊢;have g:=ae0 h d;exact ai ⟨g,LV⟩ (az fun k i=>af (by rw[i];exact(FH _ b a wo ⟨g,LV⟩).2))
def Q7:aZ Z:=E1 [Ia,BB,EX] [] (ak (aJ bH) (ak (bC cStr) (a1 (bC cStr)))) (shr [.slot 0 true (nn 7), s0 1] (aB aP (l1 cI))) [] func51 2 (u3 H8) (fun a=>okS a.1) fun a h=>(IR a.1 a.2.1 a.2.2 h).1
def Hq (s:ay)(b:Str)(v:ah):Pg (List UInt8×Int):=.ob (okS s) (.lt (uN s) fun a=> .br (a.2 !=0) (.ret ([],a.2)) (.ob (IM a.1/\ig a.1/\gV v.re) (.ret (agw a.1 b v.re))))
def ajQ (s:ay)(a:Str)(v:ah):=(Hq s a v).val
theorem Zy (s:ay)(a:Str)(v:ah)(h:okS s/\okN s/\gV v):j_ (Hq s a v) (fun r=>r.1.length<=65536):=
 by
 obtain⟨h,d,e⟩:=h;unfold Hq;simp only[ah.dR];refine ai h (az fun g c=>dM (fun f=>af (ve _)) fun b=> ?_);rw[c]at b⊢;have q:=And.intro (auX h d b) (And.intro (ae0 h b) e);exact ai q (af (Gf _ a v q).2)
def ah0:aZ Z:=E1 [Ia,BF] [] (ak (aJ bH) (ak (bC cStr) (a1 (aJ aP)))) (shr [s0 0, s0 1] (aB cStr (l1 cI))) [] func56 2 (u3 Hq) (fun a=>okS a.1/\okN a.1/\gV a.2.2) fun a h=>(Zy a.1 a.2.1 a.2.2 h).1
def akU (t:gG)(x:Status):Pg gG:=.ret (gG.mk t.qy t.Id t.Method t.dL t.fK t.In t.Ready t.fQ x true)
def Df (t:gG)(x:Status):=(akU t x).val
def ahs:aZ Z:=E0 [] [] (ak (aJ Gm) (a1 (aJ jZ))) (shr [.slot 0 true (nn 11)] (l1 Gm)) [] func49 1 (u2 akU)
def ac4 (s:Server)(b:Int)(id:Int):Pg Int:=.lt (jP s b id) fun a=> .br (decide (a < 0)) (.ret (-1)) (.ix a s.Tasks.length (.br (s.Tasks.getD a.toNat bF).oC (.ret (-1)) (.ix a s.Tasks.length (.br ((s.Tasks.getD a.toNat bF).Ready !=(-1)) (.ret (-1)) (.ret a)))))
def sO (s:Server)(a:Int)(id:Int):=(ac4 s a id).val
theorem ape (s:Server)(a:Int)(id:Int):Is (ac4 s a id):=
 dI fun e d=>dB iR (fun f=>by have b:=(avt (s:=s) (c:=a) (i:=id)).1;rw[<-d]at b;exact b_ au b (aT iR (fun _=>b_ au b (iW iR iR))))
def aiu:aZ Z:=E0 [P_] [] (ak (aJ iC) (ak (bC cI) (a1 (bC cI)))) (R1 cI) [] func46 1 (u3 ac4) fun a=>ape a.1 a.2.1 a.2.2
theorem azM {s:Server}{c i:Int}(h:0<=sO s c i):sO s c i=jP s c i/\jP s c i < s.Tasks.length/\(s.Tasks.getD (jP s c i).toNat bF).oC=false/\(s.Tasks.getD (jP s c i).toNat bF).Ready= -1:=by
 have f:=(avt (s:=s) (c:=c) (i:=i)).1;unfold sO ac4 at h⊢;simp only[cZ,bf,eU,aI]at h⊢;by_cases e:jP s c i < 0
 ·rw[rY e]at h;exact absurd (show(0:Int)<= -1 from h) mi
 rw[qM e]at h⊢;cases d:(s.Tasks.getD (jP s c i).toNat bF).oC with
 | true=>rw[d]at h;exact absurd (show(0:Int)<= -1 from h) mi
 | false=>
  rw[d]at h;by_cases b:(s.Tasks.getD (jP s c i).toNat bF).Ready= -1
  ·have a:((s.Tasks.getD (jP s c i).toNat bF).Ready != -1)=false:=by rw[b];rfl
   rw[a];exact⟨rfl,f,rfl,b⟩
  ·have a:((s.Tasks.getD (jP s c i).toNat bF).Ready != -1)=true:=bne_iff_ne.2 b;rw[a]at h;exact absurd (show(0:Int)<= -1 from h) mi
theorem agW {s:Server}{c i:Int}(h:¬sO s c i < 0):0<=sO s c i/\sO s c i < s.Tasks.length/\s.Tasks.getD (sO s c i).toNat bF∈s.Tasks:=by
 obtain⟨e,b,_⟩:=azM (s:=s) (c:=c) (i:=i) au;have a:0<=sO s c i:=by omega
 exact⟨a,by omega,getD_mem au⟩
theorem afQ (s:Server)(i:Int)(t:gG):uJ s i t=Server.mk s.Name s.ay s.Handlers s.iO s.Traces (s.Tasks.set i.toNat t) s.Most s.nX:=by
 unfold uJ ai1;simp only[bY,eU,aI]
theorem LU (t:gG)(x:Status):Df t x=gG.mk t.qy t.Id t.Method t.dL t.fK t.In t.Ready t.fQ x true:=by
 unfold Df akU;simp only[aI]
def aNk (s:Server)(v:Nat)(t:gG):Server:=Server.mk s.Name s.ay s.Handlers s.iO s.Traces (s.Tasks.set v t) s.Most s.nX
def af_ (t a:gG):Prop:=a.qy=t.qy/\a.Id=t.Id/\a.Method=t.Method/\a.dL=t.dL/\a.fK=t.fK
def stepT (s:Server)(c i:Int)(r:Server)(P:gG->gG->Prop):Prop:=(sO s c i < 0/\r=s)\/∃v:Nat,v < s.Tasks.length/\sO s c i=v/\∃a,(af_ (s.Tasks.getD v bF) a/\P (s.Tasks.getD v bF) a)/\r=aNk s v a
def leT (s:Server)(t:gG):Int:=(lQ (gX s.ay t.Method).1.Shape).1
def moT (s:Server)(t:gG):Int:=(lQ (gX s.ay t.Method).1.Shape).2.1
def atg (s:Server)(b:Str)(t a:gG):Prop:=(a.Ready=t.Ready/\a.fQ=t.fQ)/\((a.In=t.In/\a.oC=true/\a.Status.Code≠0)\/(a.In=t.In++[b]/\a.oC=t.oC/\a.Status=t.Status/\(0<=moT s t->(t.In.length:Int) < moT s t)))
theorem aCc {e:Int}(h:e≠0):(WW e).Code≠0:=by
 have k:VP (atx e) (fun r=>r.Code≠0):=by
  unfold atx;refine kz (fun y=>y≠0) (fD (fun _=>fD (fun _=>a_ (by show(2:Int)≠0;decide)) fun _=>a_ (by show(11:Int)≠0;decide)) fun _=>a_ (by show(11:Int)≠0;decide)) fun l f=>kz (fun y=>y≠0) (fO (aue (fun _ y=>y≠0) f (fun i y m g a=>fO (fD (fun b=>a_ ?_) fun _=>a_ a)) fun i y _ _ a=>a_ a)) fun j c=>fD (fun d=>absurd (eq_of_beq d) h) fun _=>a_ c;obtain⟨n,rfl⟩:∃n:Nat,i=n:=⟨i.toNat,by omega⟩;rw[xw]at b;simp only[xw];obtain rfl | rfl | rfl | rfl | rfl | rfl | rfl | rfl | rfl | rfl | rfl | rfl | rfl:n=0\/n=1\/n=2\/n=3\/n=4\/n=5\/n=6\/n=7\/n=8\/n=9\/n=10\/n=11\/n=12:=by omega
  ·exact absurd (eq_of_beq b).symm h
  all_goals (show(_:Int)≠0;decide)
 exact k
theorem aqF (b a:Int):0<=WR b a/\WR b a<=1099511627776:=by
 unfold WR after;simp only[cZ,aI,bf,bY];rw[dU (k:= .i64) tZ];omega
def aA6 (s:Server)(t a:gG):Prop:=(a.In=t.In/\a.fQ=t.fQ)/\((a.oC=true/\a.Ready=t.Ready/\a.Status.Code≠0)\/(a.oC=t.oC/\a.Status=t.Status/\(0<=a.Ready/\a.Ready<=1099511627776)/\leT s t<=(t.In.length:Int)))
def Gx (s:Server)(c:Int)(id:Int)(b:Str):Pg Server:=.lt (sO s c id) fun a=> .br (decide (a < 0)) (.ret s) (.ix a s.Tasks.length (.ob (List.length (s.Tasks.getD a.toNat bF).Method<=1048576) (.lt (gX s.ay (s.Tasks.getD a.toNat bF).Method) fun f=> .cut (fun(i:Unit)=> .as (List.length b<=9223372036854775807) (.lt (axf s.iO (↑(List.length b):Int)) fun h=> .br (h.Code !=0) (.ob (s.Tasks.length<=1048576/\0<=a/\a < (↑s.Tasks.length:Int)) (.ret (uJ s a (Df (s.Tasks.getD a.toNat bF) h)))) (.ob (okS s.ay) (.lt (yJ s.ay f.1.In b) fun g=> .br (g.2 !=0) (.ob (s.Tasks.length<=1048576/\0<=a/\a < (↑s.Tasks.length:Int)) (.ret (uJ s a (Df (s.Tasks.getD a.toNat bF) (WW g.2))))) (.as ((s.Tasks.getD a.toNat bF).In.length<=9223372036854775807) (.ob (0<=(↑(s.Tasks.getD a.toNat bF).In.length:Int)/\ (↑(s.Tasks.getD a.toNat bF).In.length:Int)=(↑(s.Tasks.getD a.toNat bF).In.length:Int)/\ (↑(s.Tasks.getD a.toNat bF).In.length:Int)<=(↑(s.Tasks.getD a.toNat bF).In.length:Int)) (.lt (List.take (s.Tasks.getD a.toNat bF).In.length (s.Tasks.getD a.toNat bF).In) fun d=> .ob (0 < 1/\bZ (d.length+1) 16) (.ob (s.Tasks.length<=1048576/\0<=a/\a < (↑s.Tasks.length:Int)) (.ret (uJ s a (gG.mk (s.Tasks.getD a.toNat bF).qy (s.Tasks.getD a.toNat bF).Id (s.Tasks.getD a.toNat bF).Method (s.Tasks.getD a.toNat bF).dL (s.Tasks.getD a.toNat bF).fK (d++[b]) (s.Tasks.getD a.toNat bF).Ready (s.Tasks.getD a.toNat bF).fQ (s.Tasks.getD a.toNat bF).Status (s.Tasks.getD a.toNat bF).oC))))))))))) (.lt (lQ f.1.Shape) fun e=> .br (decide (0<=e.2.1)) (.as ((s.Tasks.getD a.toNat bF).In.length<=9223372036854775807) (.br (decide (e.2.1<=(↑(s.Tasks.getD a.toNat bF).In.length:Int))) (.ob (s.Tasks.length<=1048576/\0<=a/\a < (↑s.Tasks.length:Int)) (.ret (.inr (uJ s a (Df (s.Tasks.getD a.toNat bF) (Status.mk 2 [])))))) (rl ()))) (rl ())))))
def akd (s:Server)(a:Int)(id:Int)(b:Str):=(Gx s a id b).val
theorem IP (s:Server)(d:Int)(id:Int)(b:Str)(h:yw s):j_ (Gx s d id b) (fun r=>stepT s d id r (atg s b)):=
 by
 obtain⟨G,M,D,F⟩:=h;unfold Gx;refine az fun a f=>bG (fun o=>af (.inl ⟨by rw[<-f];exact o,rfl⟩)) fun o=> ?_;obtain⟨p,q,u⟩:=agW (s:=s) (c:=d) (i:=id) (by rw[<-f];exact o);rw[<-f]at p q u;obtain⟨B,P⟩:=F _ u;have k:s.Tasks.length<=1048576/\0<=a/\a < s.Tasks.length:=⟨D,p,q⟩;have m:∀g,af_ (s.Tasks.getD a.toNat bF) g->atg s b (s.Tasks.getD a.toNat bF) g->stepT s d id (uJ s a g) (atg s b):=fun g C A=> .inr ⟨a.toNat,by omega,by rw[<-f];omega,g,⟨C,A⟩,afQ s a g⟩
 have e:∀x:Status,x.Code≠0->stepT s d id (uJ s a (Df (s.Tasks.getD a.toNat bF) x)) (atg s b):=fun x j=>m _ (by rw[LU];exact⟨rfl,rfl,rfl,rfl,rfl⟩) (by rw[LU];exact⟨⟨rfl,rfl⟩, .inl ⟨rfl,rfl,j⟩⟩)
 refine aW p q (ai B (az fun J w=>bP (fun _=>0<=moT s (s.Tasks.getD a.toNat bF)->((s.Tasks.getD a.toNat bF).In.length:Int) < moT s (s.Tasks.getD a.toNat bF)) ?_ fun O t=>bW <| az fun K H=>dM (fun j=>ai k (af (e _ j))) fun _=>ai G (az fun N I=>dM (fun j=>ai k (af (e _ (aCc j)))) fun _=>bW <| ai au (az fun L l=> ?_))))
 ·refine az fun E v=> ?_;have z:E.2.1=moT s (s.Tasks.getD a.toNat bF):=by rw[v,w];rfl
  rw[z];exact bG (fun _=>bW <| bG (fun _=>ai k (af (e _ (by show(2:Int)≠0;decide)))) fun n=>af fun _=>by omega) fun n=>af fun y=>absurd y n
 ·rw[Kr]at l;rw[l];exact ai ⟨by decide,dm au au⟩ (ai k (af (m _ ⟨rfl,rfl,rfl,rfl,rfl⟩ ⟨⟨rfl,rfl⟩, .inr ⟨rfl,rfl,rfl,t⟩⟩)))
def agp:aZ Z:=E1 [v_,aiu,aaD,ahV,ahs,arW,Q7,akE] [jS 100009 (bI (fun b=>[]) l0)] (ak (aJ iC) (ak (bC cI) (ak (bC cI) (a1 (bC cStr))))) (shr [.slot 0 true (nn 10)] (l1 iC)) [] func22 1 (u4 Gx) (fun a=>yw a.1) fun a h=>(IP a.1 a.2.1 a.2.2.1 a.2.2.2 h).1
def anw (s:Server)(c:Int)(b:Int)(id:Int):Pg Server:=.lt (sO s b id) fun a=> .br (decide (a < 0)) (.ret s) (.ix a s.Tasks.length (.ob (List.length (s.Tasks.getD a.toNat bF).Method<=1048576) (.as ((s.Tasks.getD a.toNat bF).In.length<=9223372036854775807) (.lt (lQ (gX s.ay (s.Tasks.getD a.toNat bF).Method).1.Shape) fun d=> .br (decide ((↑(s.Tasks.getD a.toNat bF).In.length:Int) < d.1)) (.ob (s.Tasks.length<=1048576/\0<=a/\a < (↑s.Tasks.length:Int)) (.ret (uJ s a (Df (s.Tasks.getD a.toNat bF) (Status.mk 2 []))))) (.ob (s.Tasks.length<=1048576/\0<=a/\a < (↑s.Tasks.length:Int)) (.ret (uJ s a (gG.mk (s.Tasks.getD a.toNat bF).qy (s.Tasks.getD a.toNat bF).Id (s.Tasks.getD a.toNat bF).Method (s.Tasks.getD a.toNat bF).dL (s.Tasks.getD a.toNat bF).fK (s.Tasks.getD a.toNat bF).In (WR c (kD s (s.Tasks.getD a.toNat bF).Method).1.ay_) (s.Tasks.getD a.toNat bF).fQ (s.Tasks.getD a.toNat bF).Status (s.Tasks.getD a.toNat bF).oC))))))))
def aFU (s:Server)(b:Int)(a:Int)(id:Int):=(anw s b a id).val
theorem abL (s:Server)(n:Int)(a:Int)(id:Int)(h:yw s):j_ (anw s n a id) (fun r=>stepT s a id r (aA6 s)):=
 by
 obtain⟨z,y,v,w⟩:=h;unfold anw;refine az fun b d=>bG (fun g=>af (.inl ⟨by rw[<-d];exact g,rfl⟩)) fun g=> ?_;obtain⟨j,k,m⟩:=agW (s:=s) (c:=a) (i:=id) (by rw[<-d];exact g);rw[<-d]at j k m;obtain⟨t,A⟩:=w _ m;have o:s.Tasks.length<=1048576/\0<=b/\b < s.Tasks.length:=⟨v,j,k⟩;have f:∀e,af_ (s.Tasks.getD b.toNat bF) e->aA6 s (s.Tasks.getD b.toNat bF) e->stepT s a id (uJ s b e) (aA6 s):=fun e u q=> .inr ⟨b.toNat,by omega,by rw[<-d];omega,e,⟨u,q⟩,afQ s b e⟩
 exact aW j k (ai t (bW <| az fun x p=>bG (fun _=>ai o (af (f _ (by rw[LU];exact⟨rfl,rfl,rfl,rfl,rfl⟩) (by rw[LU];exact⟨⟨rfl,rfl⟩, .inl ⟨rfl,rfl,by show(2:Int)≠0;decide⟩⟩)))) fun l=>ai o (af (f _ ⟨rfl,rfl,rfl,rfl,rfl⟩ ⟨⟨rfl,rfl⟩, .inr ⟨rfl,rfl,aqF _ _,by rw[p]at l;show leT s _<=_;unfold leT;omega⟩⟩))))
def aBT:aZ Z:=E1 [v_,FC,aiu,aaD,ahV,ahs,anq] [] (ak (aJ iC) (ak (bC cI) (ak (bC cI) (a1 (bC cI))))) (shr [.slot 0 true (nn 10)] (l1 iC)) [] func23 1 (u4 anw) (fun a=>yw a.1) fun a h=>(abL a.1 a.2.1 a.2.2.1 a.2.2.2 h).1
def Oj (s:Server)(c:Int)(id:Int):Pg Server:=.lt (jP s c id) fun a=> .br (decide (a < 0)) (.ret s) (.ob ((0:Int)<=0/\0<=a/\a<=(↑s.Tasks.length:Int)) (.ob (bZ (0+(List.take a.toNat s.Tasks).length) 152) (.lt (dA .i64 (a+1)) fun b=> .ob (0<=b/\b<=(↑s.Tasks.length:Int)/\(↑s.Tasks.length:Int)<=(↑s.Tasks.length:Int)) (.ob (bZ ((List.take a.toNat s.Tasks).length+(List.drop b.toNat (List.take s.Tasks.length s.Tasks)).length) 152) (.ret (Server.mk s.Name s.ay s.Handlers s.iO s.Traces (List.take a.toNat s.Tasks++List.drop b.toNat (List.take s.Tasks.length s.Tasks)) s.Most s.nX))))))
def aqf (s:Server)(a:Int)(id:Int):=(Oj s a id).val
theorem MR (s:Server)(a:Int)(id:Int)(h:yw s):j_ (Oj s a id) (fun r=>(jP s a id < 0/\r=s)\/∃v:Nat,v < s.Tasks.length/\jP s a id=v/\r=Server.mk s.Name s.ay s.Handlers s.iO s.Traces (s.Tasks.take v++s.Tasks.drop (v+1)) s.Most s.nX):=
 by
 obtain⟨n,k,o,m⟩:=h;have f:=(avt (s:=s) (c:=a) (i:=id)).1;unfold Oj;refine az fun d b=>bG (fun e=>af (.inl ⟨by rw[<-b];exact e,rfl⟩)) fun e=> ?_;rw[<-b]at f;refine ai au (ai (dm qbu qbu) (nC fun g j l=>ai au (ai (dm qcj qcj) (af (.inr ⟨d.toNat,by omega,by rw[<-b];omega,?_⟩)))));rw[Kr,show g.toNat=d.toNat+1 by omega]
def aiV:aZ Z:=E1 [P_] [] (ak (aJ iC) (ak (bC cI) (a1 (bC cI)))) (shr [.slot 0 true (nn 10)] (l1 iC)) [] func24 1 (u3 Oj) (fun a=>yw a.1) fun a h=>(MR a.1 a.2.1 a.2.2 h).1
def adE (s:Server):Pg Server:=.ret (Server.mk s.Name s.ay s.Handlers s.iO s.Traces s.Tasks s.Most true)
def Nl (s:Server):=(adE s).val
def abv:aZ Z:=E0 [] [] (a1 (aJ iC)) (shr [.slot 0 true (nn 10)] (l1 iC)) [] func9 1 adE
def auW (s:Server):Pg Bool:=.ret ((↑s.Tasks.length:Int)==0)
def aBl (s:Server):=(auW s).val
def awi:aZ Z:=E0 [] [] (a1 (aJ iC)) (R1 aG) [] func21 1 auW
def gtS (a b:Str):Bool:= !(Op.bytesLess a b || a==b)
def cloneM (l:List nV):Pg (List nV):=.unk false (fun(b:Bool)=>b=true->l.length=0) (.ret []) (.ob (bZ (0+l.length) 32) (.ret l))
theorem aqQ (l:List nV)(h:l.length<=1000000):Is (cloneM l):=
 r_ (dm au au)
def awL:aZ Z:=E2 [] [] (a1 (bC uw)) (shr [.slot 0 false [some 106]] (l1 uw)) [] func173 1 cloneM (fun a=>some (a.length<=1000000)) (fun a=>a) fun a h=>⟨aqQ a h,rfl⟩
def ax_ (l:List Trace):Pg (List Trace):=.unk false (fun(b:Bool)=>b=true->l.length=0) (.ret []) (.ob (bZ (0+l.length) 40) (.ret l))
theorem api (l:List Trace)(h:l.length<=1000000):Is (ax_ l):=
 r_ (dm au au)
def ast:aZ Z:=E2 [] [] (a1 (bC jY)) (shr [.slot 0 false [some 222]] (l1 jY)) [] func105 1 ax_ (fun a=>some (a.length<=1000000)) (fun a=>a) fun a h=>⟨api a h,rfl⟩
def ate (l:List Int):Pg (List Int):=.unk false (fun(b:Bool)=>b=true->l.length=0) (.ret []) (.ob (bZ (0+l.length) 8) (.ret l))
theorem aqv (l:List Int)(h:l.length<=1000000):Is (ate l):=
 r_ (dm au au)
def aun:aZ Z:=E2 [] [] (a1 (bC Dq)) (shr [.slot 0 false [some 3]] (l1 Dq)) [] func110 1 ate (fun a=>some (a.length<=1000000)) (fun a=>a) fun a h=>⟨aqv a h,rfl⟩
def avn:aZ Z:=xx [] [] (ak (aJ MZ) (a1 (jf 0))) (b1 (aV cStr)) (R1 aG) [0] func175 1 fun a=>.ret (a.1.1.Key==a.2)
def auA:aZ Z:=xx [] [] (ak (aJ MZ) (a1 (jf 0))) (b1 (aV cStr)) (R1 aG) [0] func176 1 fun a=>.ret (gtS a.1.1.Key a.2)
def aGx:aZ Z:=Jf [avn] uw 175 [0] (b1 (aV cStr)) func174 Aq fun m b=>m.Key==b
def aFE:aZ Z:=Jf [auA] uw 176 [0] (b1 (aV cStr)) func174 Aq fun m b=>gtS m.Key b
set_option maxHeartbeats 1000000 in
theorem VL (b n c i m f h:Nat)(w k o:World)(J:i < n)(H:0 < m)(p:n+m<=c)(I:c<=9223372036854775807)
  (l:∀t r x,(callFunc 265 #[.slice (some ⟨f,0,none⟩) m h, .slice (some ⟨b,x,none⟩) t r]).run Tryz.prog w= .ok (.value (.bool false)) w)
  (d:∀j a q,(Builtin.copy_ #[46,46] j #[.slice (some ⟨b,(i+m)*2,none⟩) (n+m - (i+m)) a, .slice (some ⟨b,i*2,none⟩) (n+m - i) q]).run Tryz.prog w.drew= .ok (goInt (n - i:Nat)) k)
  (g:∀j a,(Builtin.copy_ #[46,46] j #[.slice (some ⟨b,i*2,none⟩) (n+m - i) a, .slice (some ⟨f,0,none⟩) m h]).run Tryz.prog k= .ok (goInt m) o):
  Calls Tryz.prog 177 #[.slice (some ⟨b,0,none⟩) n c, .int .i64 i, .slice (some ⟨f,0,none⟩) m h] w fun e s=>e= .returned (.slice (some ⟨b,0,none⟩) (n+m) c)/\s=o:=by
 have z:¬((m:Int)=0):=by omega
 have F:¬((i:Int)=(n:Int)):=by omega
 have B:IntKind.i64.wrap ((i:Int)+(m:Int))=(i:Int)+(m:Int):=by rw[IntKind.wrap_i64];omega
 have D:IntKind.i64.wrap ((n:Int)+(m:Int))=(n:Int)+(m:Int):=by rw[IntKind.wrap_i64];omega
 have C:(0:Int)<=(i:Int)+(m:Int):=by omega
 have u:i<=n:=by omega
 have v:((i:Int)+(m:Int)).toNat=i+m:=by omega
 have y:((n:Int)+(m:Int)).toNat=n+m:=by omega
 have A:¬(c=i+m):=by omega
 have G:(i:Int)<=(n:Int)+(m:Int):=by omega
 have E:¬(c=i):=by omega
 have mixed:Tryz.prog.follows Departure.mixedOrders=true:=by kernel_rfl
 go_enter func177,ntmps177
 go_wp2_with (simp only[l])
 go_region_law_o (refine step_copy_runI rfl _ _ 46 46 rfl _ _ qb3 qb3 (d _ _ _) ?_)
 go_wp2_with (at_builtin;refine wpList_copy_runI _ rfl _ _ 46 46 rfl _ _ rfl rfl (g _ _) ?_)
 go_ret
 exact⟨rfl,rfl⟩
set_option maxHeartbeats 1000000 in
theorem Zt (b n c i m h d p r:Nat)(w k o q:World)(S:i < n)(Q:0 < m)(G:n<=c)(s:c < n+m)(H:n+m<=d)(R:n+m<=9223372036854775807)
  (l:∀a,(Builtin.append_ #[46,3] a #[.slice (some ⟨b,0,none⟩) i c, .int .i64 ((n:Int)+m - i)]).run Tryz.prog w= .ok (.slice (some ⟨h,0,none⟩) (n+m) d) k)
  (g:∀a f,(Builtin.copy_ #[46,46] a #[.slice (some ⟨h,i*2,none⟩) (n+m - i) f, .slice (some ⟨p,0,none⟩) m r]).run Tryz.prog k= .ok (goInt m) o)
  (j:∀a f t,(Builtin.copy_ #[46,46] a #[.slice (some ⟨h,(i+m)*2,none⟩) (n+m - (i+m)) f, .slice (some ⟨b,i*2,none⟩) (n - i) t]).run Tryz.prog o.drew= .ok (goInt (n - i:Nat)) q):
  Calls Tryz.prog 177 #[.slice (some ⟨b,0,none⟩) n c, .int .i64 i, .slice (some ⟨p,0,none⟩) m r] w fun e u=>e= .returned (.slice (some ⟨h,0,none⟩) (n+m) d)/\u=q:=by
 have C:¬((m:Int)=0):=by omega
 have O:¬((i:Int)=(n:Int)):=by omega
 have E:IntKind.i64.wrap ((i:Int)+(m:Int))=(i:Int)+(m:Int):=by rw[IntKind.wrap_i64];omega
 have L:IntKind.i64.wrap ((n:Int)+(m:Int))=(n:Int)+(m:Int):=by rw[IntKind.wrap_i64];omega
 have A:IntKind.i64.wrap ((n:Int)+(m:Int) - (i:Int))=(n:Int)+(m:Int) - (i:Int):=by rw[IntKind.wrap_i64];omega
 have K:(0:Int)<=(i:Int)+(m:Int):=by omega
 have v:i<=n:=by omega
 have z:i<=c:=by omega
 have x:((i:Int)+(m:Int)).toNat=i+m:=by omega
 have y:((n:Int)+(m:Int)).toNat=n+m:=by omega
 have D:¬(d=i+m):=by omega
 have P:(i:Int)<=(n:Int)+(m:Int):=by omega
 have N:¬(c=i):=by omega
 have F:¬(d=i):=by omega
 have M:i<=n+m:=by omega
 have I:i+m<=n+m:=by omega
 have B:¬((n:Int)+(m:Int)<=(c:Int)):=by omega
 have J:(c:Int) < (n:Int)+(m:Int):=by omega
 have mixed:Tryz.prog.follows Departure.mixedOrders=true:=by kernel_rfl
 go_enter func177,ntmps177
 go_wp2_with (at_builtin;refine Lib.wpList_append_run _ rfl _ _ 46 3 rfl _ _ rfl rfl _ _ (l _) ?_)
 go_wp2_with (at_builtin;refine wpList_copy_runI _ rfl _ _ 46 46 rfl _ _ rfl rfl (g _ _) ?_)
 go_region_law_o (refine step_copy_runI rfl _ _ 46 46 rfl _ _ qb3 qb3 (j _ _ _) ?_)
 go_wp2
 go_ret
 exact⟨rfl,rfl⟩
set_option maxHeartbeats 1000000 in
theorem aeJ (a a2:Option Addr)(n c m f:Nat)(g:Value)(w b:World)(o:0 < m)(j:n<=c)(k:n<=9223372036854775807)
  (d:∀h,(Builtin.append_ #[46,46] h #[.slice a n c, .slice a2 m f]).run Tryz.prog w= .ok g b):
  Calls Tryz.prog 177 #[.slice a n c, .int .i64 n, .slice a2 m f] w fun e i=>e= .returned g/\i=b:=by
 have l:¬((m:Int)=0):=by omega
 have mixed:Tryz.prog.follows Departure.mixedOrders=true:=by kernel_rfl
 go_enter func177,ntmps177
 go_wp2_with (at_builtin;refine Lib.wpList_append_run _ rfl _ _ 46 46 rfl _ _ rfl rfl _ _ (d _) ?_)
 all_goals (go_ret;exact⟨rfl,rfl⟩)
theorem ZC:Ip Tryz.prog 177 46 3 265 2:=
 ⟨fun b n c i m j p w d e l o g a f k q=>VL b n c i m j p w d e l o g a f k q,fun b n c i m h t j p w d e u l o g a f k q r s=>Zt b n c i m h t j p w d e u l o g a f k q r s,aeJ⟩
def aoe:Ct D:=amc S 106 2 32
theorem aju:gZ Tryz.prog S 177 aoe:=by
 obtain⟨inf,z,g,i,e,b,d⟩:=sJ (aib 106 _ rfl);refine aht (tb:=4) (kn:= .i64) (inf:=inf) (z:=z) arS (fun args w=> ?_) ZC mi underlying46 underlying3 (fun w=>lG (aib 106 _ rfl) w) (fun args w=> ?_) g i e b ?_
 ·have f:=func177;have a:¬f177.name= "runtime.NumGoroutine" :=by decide+kernel
  obtain⟨c,h⟩:∃c,f177.body=some c:=⟨_,rfl⟩;simp[callFunc,f,a,h]
 ·exact run_callFunc_extern func265 eQ eQ eQ eQ args w
 ·rw[<-Qbf,d];rfl
def aI4:aZ Z:=⟨177,aoe,aju⟩
set_option maxHeartbeats 1000000 in
theorem YA (b n c i m f h:Nat)(w k o:World)(J:i < n)(H:0 < m)(p:n+m<=c)(I:c<=9223372036854775807)
  (l:∀t r x,(callFunc 179 #[.slice (some ⟨f,0,none⟩) m h, .slice (some ⟨b,x,none⟩) t r]).run Tryz.prog w= .ok (.value (.bool false)) w)
  (d:∀j a q,(Builtin.copy_ #[34,34] j #[.slice (some ⟨b,(i+m)*2,none⟩) (n+m - (i+m)) a, .slice (some ⟨b,i*2,none⟩) (n+m - i) q]).run Tryz.prog w.drew= .ok (goInt (n - i:Nat)) k)
  (g:∀j a,(Builtin.copy_ #[34,34] j #[.slice (some ⟨b,i*2,none⟩) (n+m - i) a, .slice (some ⟨f,0,none⟩) m h]).run Tryz.prog k= .ok (goInt m) o):
  Calls Tryz.prog 109 #[.slice (some ⟨b,0,none⟩) n c, .int .i64 i, .slice (some ⟨f,0,none⟩) m h] w fun e s=>e= .returned (.slice (some ⟨b,0,none⟩) (n+m) c)/\s=o:=by
 have z:¬((m:Int)=0):=by omega
 have F:¬((i:Int)=(n:Int)):=by omega
 have B:IntKind.i64.wrap ((i:Int)+(m:Int))=(i:Int)+(m:Int):=by rw[IntKind.wrap_i64];omega
 have D:IntKind.i64.wrap ((n:Int)+(m:Int))=(n:Int)+(m:Int):=by rw[IntKind.wrap_i64];omega
 have C:(0:Int)<=(i:Int)+(m:Int):=by omega
 have u:i<=n:=by omega
 have v:((i:Int)+(m:Int)).toNat=i+m:=by omega
 have y:((n:Int)+(m:Int)).toNat=n+m:=by omega
 have A:¬(c=i+m):=by omega
 have G:(i:Int)<=(n:Int)+(m:Int):=by omega
 have E:¬(c=i):=by omega
 have mixed:Tryz.prog.follows Departure.mixedOrders=true:=by kernel_rfl
 go_enter func109,ntmps109
 go_wp2_with (simp only[l])
 go_region_law_o (refine step_copy_runI rfl _ _ 34 34 rfl _ _ qb3 qb3 (d _ _ _) ?_)
 go_wp2_with (at_builtin;refine wpList_copy_runI _ rfl _ _ 34 34 rfl _ _ rfl rfl (g _ _) ?_)
 go_ret
 exact⟨rfl,rfl⟩
set_option maxHeartbeats 1000000 in
theorem ZK (b n c i m h d p r:Nat)(w k o q:World)(S:i < n)(Q:0 < m)(G:n<=c)(s:c < n+m)(H:n+m<=d)(R:n+m<=9223372036854775807)
  (l:∀a,(Builtin.append_ #[34,3] a #[.slice (some ⟨b,0,none⟩) i c, .int .i64 ((n:Int)+m - i)]).run Tryz.prog w= .ok (.slice (some ⟨h,0,none⟩) (n+m) d) k)
  (g:∀a f,(Builtin.copy_ #[34,34] a #[.slice (some ⟨h,i*2,none⟩) (n+m - i) f, .slice (some ⟨p,0,none⟩) m r]).run Tryz.prog k= .ok (goInt m) o)
  (j:∀a f t,(Builtin.copy_ #[34,34] a #[.slice (some ⟨h,(i+m)*2,none⟩) (n+m - (i+m)) f, .slice (some ⟨b,i*2,none⟩) (n - i) t]).run Tryz.prog o.drew= .ok (goInt (n - i:Nat)) q):
  Calls Tryz.prog 109 #[.slice (some ⟨b,0,none⟩) n c, .int .i64 i, .slice (some ⟨p,0,none⟩) m r] w fun e u=>e= .returned (.slice (some ⟨h,0,none⟩) (n+m) d)/\u=q:=by
 have C:¬((m:Int)=0):=by omega
 have O:¬((i:Int)=(n:Int)):=by omega
 have E:IntKind.i64.wrap ((i:Int)+(m:Int))=(i:Int)+(m:Int):=by rw[IntKind.wrap_i64];omega
 have L:IntKind.i64.wrap ((n:Int)+(m:Int))=(n:Int)+(m:Int):=by rw[IntKind.wrap_i64];omega
 have A:IntKind.i64.wrap ((n:Int)+(m:Int) - (i:Int))=(n:Int)+(m:Int) - (i:Int):=by rw[IntKind.wrap_i64];omega
 have K:(0:Int)<=(i:Int)+(m:Int):=by omega
 have v:i<=n:=by omega
 have z:i<=c:=by omega
 have x:((i:Int)+(m:Int)).toNat=i+m:=by omega
 have y:((n:Int)+(m:Int)).toNat=n+m:=by omega
 have D:¬(d=i+m):=by omega
 have P:(i:Int)<=(n:Int)+(m:Int):=by omega
 have N:¬(c=i):=by omega
 have F:¬(d=i):=by omega
 have M:i<=n+m:=by omega
 have I:i+m<=n+m:=by omega
 have B:¬((n:Int)+(m:Int)<=(c:Int)):=by omega
 have J:(c:Int) < (n:Int)+(m:Int):=by omega
 have mixed:Tryz.prog.follows Departure.mixedOrders=true:=by kernel_rfl
 go_enter func109,ntmps109
 go_wp2_with (at_builtin;refine Lib.wpList_append_run _ rfl _ _ 34 3 rfl _ _ rfl rfl _ _ (l _) ?_)
 go_wp2_with (at_builtin;refine wpList_copy_runI _ rfl _ _ 34 34 rfl _ _ rfl rfl (g _ _) ?_)
 go_region_law_o (refine step_copy_runI rfl _ _ 34 34 rfl _ _ qb3 qb3 (j _ _ _) ?_)
 go_wp2
 go_ret
 exact⟨rfl,rfl⟩
set_option maxHeartbeats 1000000 in
theorem aeO (a a2:Option Addr)(n c m f:Nat)(g:Value)(w b:World)(o:0 < m)(j:n<=c)(k:n<=9223372036854775807)
  (d:∀h,(Builtin.append_ #[34,34] h #[.slice a n c, .slice a2 m f]).run Tryz.prog w= .ok g b):
  Calls Tryz.prog 109 #[.slice a n c, .int .i64 n, .slice a2 m f] w fun e i=>e= .returned g/\i=b:=by
 have l:¬((m:Int)=0):=by omega
 have mixed:Tryz.prog.follows Departure.mixedOrders=true:=by kernel_rfl
 go_enter func109,ntmps109
 go_wp2_with (at_builtin;refine Lib.wpList_append_run _ rfl _ _ 34 34 rfl _ _ rfl rfl _ _ (d _) ?_)
 all_goals (go_ret;exact⟨rfl,rfl⟩)
theorem Zq:Ip Tryz.prog 109 34 3 179 2:=
 ⟨fun b n c i m j p w d e l o g a f k q=>YA b n c i m j p w d e l o g a f k q,fun b n c i m h t j p w d e u l o g a f k q r s=>ZK b n c i m h t j p w d e u l o g a f k q r s,aeO⟩
def aof:Ct D:=amc S 222 2 40
theorem akC:gZ Tryz.prog S 109 aof:=by
 obtain⟨inf,z,g,i,e,b,d⟩:=sJ (aib 222 _ rfl);refine aht (tb:=4) (kn:= .i64) (inf:=inf) (z:=z) arS (fun args w=> ?_) Zq mi underlying34 underlying3 (fun w=>lG (aib 222 _ rfl) w) (fun args w=> ?_) g i e b ?_
 ·have f:=func109;have a:¬f109.name= "runtime.NumGoroutine" :=by decide+kernel
  obtain⟨c,h⟩:∃c,f109.body=some c:=⟨_,rfl⟩;simp[callFunc,f,a,h]
 ·exact run_callFunc_extern func179 eQ eQ eQ eQ args w
 ·rw[<-Qbf,d];rfl
def aHK:aZ Z:=⟨109,aof,akC⟩
def avz:aZ Z:=xx [] [] (ak (aJ FT) (a1 (jf 0))) (b1 (aV cStr)) (R1 aG) [0] func178 1 fun a=>.ret (a.1.1.Method==a.2)
def aso:aZ Z:=xx [] [] (ak (aJ FT) (a1 (jf 0))) (b1 (aV cStr)) (R1 aG) [0] func108 1 fun a=>.ret (gtS a.1.1.Method a.2)
def aC8 (x:Trace):Pg Bool:=.ret ((↑x.Times.length:Int)==0)
theorem aAp (x:Trace):(aC8 x).val=x.Times.isEmpty:=by
 unfold aC8;rw[aI];cases x.Times with
 | nil=>rfl
 | cons a l=>simp;omega
theorem aDb (x:Trace):Is (aC8 x):=
 aQ
def ajb:aZ Z:=E2 [] [] (a1 (aJ FT)) (R1 aG) [] func114 1 aC8 (fun a=>none) (fun a=>a.Times.isEmpty) fun a h=>⟨aDb a,aAp a⟩
def ad4:aZ Z:=xx [] [] (ak (bC cI) (a1 (jf 0))) (b1 (aV cI)) (R1 aG) [0] func112 1 fun a=>.ret (decide (a.1.1<=a.2))
def ajJ:aZ Z:=Jf [avz] jY 178 [0] (b1 (aV cStr)) func107 kY fun x b=>x.Method==b
def ajm:aZ Z:=Jf [aso] jY 108 [0] (b1 (aV cStr)) func107 kY fun x b=>gtS x.Method b
def akV:aZ Z:=EI [ajb] jY 114 func107 kY fun x=>x.Times.isEmpty
def aIe:aZ Z:=Jf [ad4] Dq 112 [0] (b1 (aV cI)) func181 0 fun x b=>decide (x<=b)
def al_:aZ Z:=E0 [ajJ,ajm,akV,avz] [] (ak (bC jY) (a1 (bC cStr))) (R1 cI) [] func106 1 fun a=>.ret (fM (fun(x:Trace)=>x.Method==a.2) a.1)
def recent (l:List Trace)(c:Str)(d:Int):Pg Int:=.lt (fM (fun(x:Trace)=>x.Method==c) l) fun a=> .br (decide (0<=a)) (.ix a l.length (.as ((l.getD a.toNat kY).Times.length<=9223372036854775807) (.each false oZ (l.getD a.toNat kY).Times 0 (fun(e f b:Int)=> .ix e (l.getD a.toNat kY).Times.length (.br (decide (d < f)) (rl (dA .i64 (b+1))) (rl b))) (fun(e b:Int)=> .ret b) 0))) (.ret 0)
def aAc (l:List Trace)(a:Str)(b:Int):=(recent l a b).val
theorem arQ (l:List Trace)(a:Str)(b:Int):Is (recent l a b):=
 dI fun f d=>dB (fun _=>b_ au (by have:=mO (fun(x:Trace)=>x.Method==a) l;omega) (gp fun _=>gU (.inr au) (fun e c _ _=>b_ au au (dB iR iR)) (fun c _=>aQ))) iR
def auB:aZ Z:=E0 [al_] [jS 5 (bI (fun b=>[s0 22, s0 8]) (aB cI (l1 cI)))] (ak (bC jY) (ak (bC cStr) (a1 (bC cI)))) (R1 cI) [] func102 1 (u3 recent) fun a=>arQ a.1 a.2.1 a.2.2
def aKZ (l:List Int)(b:Int):Pg (List Int):=.lt (fM (fun(x:Int)=>decide (x<=b)) l) fun c=> .br (c==(-1)) (.ret l) (.lt (dA .i64 (c+1)) fun f=> .wh (l.length+1) default (fun(a:Int×Int×List Int)=> aL a.2.2 (.br (decide (a.1 < (↑a.2.2.length:Int))) (.ix a.1 a.2.2.length (.ob (a.1.toNat < a.2.2.length) (.lt (dA .i64 (a.1+1)) fun d=> .br (!decide (a.2.2.getD a.1.toNat 0<=b)) (.ix a.2.1 a.2.2.length (.ob (a.2.1.toNat < a.2.2.length) (rl (d,dA .i64 (a.2.1+1),a.2.2.set a.2.1.toNat (a.2.2.getD a.1.toNat 0))))) (rl (d,a.2))))) (.ob (0<=a.2.1/\a.2.1<=(↑a.2.2.length:Int)/\(↑a.2.2.length:Int)<=(↑a.2.2.length:Int)) (.ob (a.2.2.length=a.2.2.length) (.lt (List.take a.2.1.toNat a.2.2++avV (a.2.2.length - a.2.1.toNat) 0) fun e=> .ob ((0:Int)<=0/\0<=a.2.1/\a.2.1<=(↑e.length:Int)) (.ret (.inr (List.take a.2.1.toNat e)))))))) (f,c,l))
theorem aBp (l:List Int)(a:Int)(h:l.length<=1000000):Is (aKZ l a):=
 (PU (fun(x:Int)=>decide (x<=a)) 0 l au).1
def aID:aZ Z:=SI [ad4,aIe] [jS 5 (bI (fun c=>[s0 6, s0 5, .row (pid (c 0)) 3]) (aB cI (aB cI (l1 Dq))))] (ak (oD 0) (a1 (lH 112 [1]))) (ja (lh 3 D.i64 G_) (b1 (aV cI))) (R1 Dq) [1] func111 1 (fun a=>aKZ a.2.1 a.2.2) (fun a=>some (a.2.1.length<=1000000)) (fun a=>a.2.1.filter fun(x:Int)=> !decide (x<=a.2.2)) fun a h=>⟨aBp a.2.1 a.2.2 h,(fun(l:List Int) (b:Int) (h:l.length<=1000000)=>(PU (fun(x:Int)=>decide (x<=b)) 0 l au).2) a.2.1 a.2.2 h⟩
def aJQ (l:List Trace):Pg (List Trace):=.lt (fM (fun(x:Trace)=>x.Times.isEmpty) l) fun b=> .br (b==(-1)) (.ret l) (.lt (dA .i64 (b+1)) fun e=> .wh (l.length+1) default (fun(a:Int×Int×List Trace)=> aL a.2.2 (.br (decide (a.1 < (↑a.2.2.length:Int))) (.ix a.1 a.2.2.length (.ob (a.1.toNat < a.2.2.length) (.lt (dA .i64 (a.1+1)) fun c=> .br (!(a.2.2.getD a.1.toNat kY).Times.isEmpty) (.ix a.2.1 a.2.2.length (.ob (a.2.1.toNat < a.2.2.length) (rl (c,dA .i64 (a.2.1+1),a.2.2.set a.2.1.toNat (a.2.2.getD a.1.toNat kY))))) (rl (c,a.2))))) (.ob (0<=a.2.1/\a.2.1<=(↑a.2.2.length:Int)/\(↑a.2.2.length:Int)<=(↑a.2.2.length:Int)) (.ob (a.2.2.length=a.2.2.length) (.lt (List.take a.2.1.toNat a.2.2++List.replicate (a.2.2.length - a.2.1.toNat) (Trace.mk [] [])) fun d=> .ob ((0:Int)<=0/\0<=a.2.1/\a.2.1<=(↑d.length:Int)) (.ret (.inr (List.take a.2.1.toNat d)))))))) (e,b,l))
theorem aAi (l:List Trace)(h:l.length<=1000000):Is (aJQ l):=
 (PU (fun(x:Trace)=>x.Times.isEmpty) kY l au).1
def aHv:aZ Z:=SI [ajJ,ajm,akV,ajb] [jS 5 (bI (fun b=>[s0 6, s0 5, .row (pid (b 0)) 222]) (aB cI (aB cI (l1 jY))))] (ak (oD 0) (a1 (lH 114 []))) (b1 (lh 222 D.Trace xN)) (R1 jY) [] func113 1 (fun a=>aJQ a.2) (fun a=>some (a.2.length<=1000000)) (fun a=>a.2.filter fun(x:Trace)=> !x.Times.isEmpty) fun a h=>⟨aAi a.2 h,(fun(l:List Trace) (h:l.length<=1000000)=>(PU (fun(x:Trace)=>x.Times.isEmpty) kY l au).2) a.2 h⟩
def Ud (t:List Trace)(b:Str)(i:Int)(h:Int):Pg (List Trace):=.ob (t.length<=1000000) (.cut (fun(c:List Trace)=> .lt (fM (fun(x:Trace)=>x.Method==b) c) fun e=> .ix e c.length (.ob (e.toNat < c.length) (.ob ((c.getD e.toNat kY).Times.length<=1000000) (.ob (bZ ((c.getD e.toNat kY).Times.length+1) 8) (.ix e c.length (.ob (e.toNat < c.length) (.lt (c.set e.toNat (Trace.mk (c.getD e.toNat kY).Method ((c.getD e.toNat kY).Times++[i]))) fun g=> aL g (.cnt oZ 0 (↑g.length:Int) (fun d (a:List Trace)=> .ix d a.length (.ob (d.toNat < a.length) (.ob ((a.getD d.toNat kY).Times.length<=1000000) (.ob ((a.getD d.toNat kY).Times.length<=1000000) (.ix d a.length (.ob (d.toNat < a.length) (rl (a.set d.toNat (Trace.mk (a.getD d.toNat kY).Method (List.filter (fun(x:Int)=> !decide (x<=h)) (a.getD d.toNat kY).Times)))))))))) (fun d (a:List Trace)=> .ob (a.length<=1000000) (.ret (List.filter (fun(x:Trace)=> !x.Times.isEmpty) a))) g)))))))) (.lt (fM (fun(x:Trace)=>x.Method==b) t) fun j=> .br (decide (j < 0)) (.lt (fM (fun(x:Trace)=>gtS x.Method b) t) fun f=> .br (decide (f < 0)) (aL t (.ob (0<=(↑t.length:Int)/\(↑t.length:Int)<=(↑t.length:Int)/\0 < 1/\bZ (t.length+1) 40) (rl (List.take t.length t++([Trace.mk b []]++List.drop t.length (List.take t.length t)))))) (.ob (0<=f/\f<=(↑t.length:Int)/\0 < 1/\bZ (t.length+1) 40) (rl (List.take f.toNat t++([Trace.mk b []]++List.drop f.toNat (List.take t.length t)))))) (rl t)))
def UA (a:Str)(x:Trace):Bool:=x.Method==a
def gtM (a:Str)(x:Trace):Bool:=gtS x.Method a
def aii (a:Str)(b:Int):List Trace->List Trace
 | []=>[]
 | x::t=>bif UA a x then⟨x.Method,x.Times++[b]⟩::t else x::aii a b t
def A8 (a:Str)(b:List Int):List Trace->List Trace
 | []=>[⟨a,b⟩]
 | x::t=>bif gtM a x then⟨a,b⟩::x::t else x::A8 a b t
def Xe (t:List Trace)(a:Str)(b:Int):List Trace:=bif t.any (UA a)then aii a b t else A8 a [b] t
def aLr (a:Int)(x:Trace):Trace:=⟨x.Method,x.Times.filter fun y=> !decide (y<=a)⟩
def afS (a:Int)(t:List Trace):List Trace:=(t.map (aLr a)).filter fun x=> !x.Times.isEmpty
def Zi (t:List Trace)(a:Str):List Trace:=bif t.any (UA a)then t else A8 a [] t
def okT (t:List Trace):Prop:=t.length<=1000/\∀x∈t,x.Times.length<=1000
theorem Yd (a:Str)(b:List Int)(t:List Trace):∃u v,t=u++v/\A8 a b t=u++⟨a,b⟩::v:=by
 induction t with
 | nil=>exact⟨[],[],rfl,rfl⟩
 | cons x t d=>
  unfold A8;cases gtM a x with
  | true=>exact⟨[],x::t,rfl,rfl⟩
  | false=>
   obtain⟨u,v,c,e⟩:=d;exact⟨x::u,v,by rw[c];rfl,by rw[mX,e];rfl⟩
theorem aqZ (a:Str)(c b:List Int)(t:List Trace):∃u v,t=u++v/\A8 a c t=u++⟨a,c⟩::v/\A8 a b t=u++⟨a,b⟩::v:=by
 induction t with
 | nil=>exact⟨[],[],rfl,rfl,rfl⟩
 | cons x t f=>
  unfold A8;cases gtM a x with
  | true=>exact⟨[],x::t,rfl,rfl,rfl⟩
  | false=>
   obtain⟨u,v,e,g,d⟩:=f;exact⟨x::u,v,by rw[e];rfl,by rw[mX,g];rfl,by rw[mX,d];rfl⟩
theorem agN (b:Str)(c:List Int):∀(u:List Trace) (a:Trace) (v:List Trace),(∀x∈u,gtM b x=false)->gtM b a=true->A8 b c (u++a::v)=u++⟨b,c⟩::a::v
 | [],a,v,_,h=>by simp[A8,h]
 | x::u,a,v,d,h=>by
  simp only[Qbp,A8,d x qb,mX];rw[agN b c u a v (fun y hy=>d y qcy) h]
theorem agt (a:Str)(b:List Int):∀(u:List Trace),(∀x∈u,gtM a x=false)->A8 a b u=u++[⟨a,b⟩]
 | [],_=>rfl
 | x::u,c=>by
  simp only[Qbp,A8,c x qb,mX];rw[agt a b u (fun y hy=>c y qcy)]
theorem agY (b:Str)(c:Int):∀(u:List Trace) (a:Trace) (v:List Trace),(∀x∈u,UA b x=false)->UA b a=true->aii b c (u++a::v)=u++⟨a.Method,a.Times++[c]⟩::v
 | [],a,v,_,h=>by simp[aii,h]
 | x::u,a,v,d,h=>by
  simp only[Qbp,aii,d x qb,mX];rw[agY b c u a v (fun y hy=>d y qcy) h]
theorem ZR (t:List Trace)(b:Str)(c:Int):∃u a v,Zi t b=u++a::v/\(∀x∈u,UA b x=false)/\UA b a=true/\Xe t b c=u++⟨a.Method,a.Times++[c]⟩::v:=by
 unfold Zi Xe;rcases ql (UA b) t with⟨_,h⟩ | ⟨u,a,v,d,e,f,_⟩
 ·have:t.any (UA b)=false:=by
   rw[Qc];exact fun x g=>by rw[h x g];simp
  rw[this];obtain⟨u,v,d,e,f⟩:=aqZ b [] [c] t;exact⟨u,⟨b,[]⟩,v,e,fun x g=>h x (by rw[d];simp[g]),by simp[UA],f⟩
 ·have:t.any (UA b)=true:=by
   rw[Qbi];exact⟨a,by rw[d];simp,e⟩
  rw[this];exact⟨u,a,v,d,f,e,by rw[uu,d,agY b c u a v f e]⟩
theorem aCL (t:List Trace)(a:Str)(h:okT t):(Zi t a).length<=1001/\∀x∈Zi t a,x.Times.length<=1000:=by
 unfold Zi;cases t.any (UA a)with
 | true=>exact⟨by have:=h.1;simp only[uu];omega,h.2⟩
 | false=>
  obtain⟨u,v,c,e⟩:=Yd a [] t;have d:=h.1;rw[mX,e];refine⟨by rw[c]at d;simp at d⊢;omega,fun x b=> ?_⟩;rcases yH.1 b with b | b
  ·exact h.2 x (by rw[c];simp[b])
  ·rcases EC.1 b with rfl | b
   ·simp
   ·exact h.2 x (by rw[c];simp[b])
theorem Qw (t:List Trace)(b:Str):(bif decide (fM (UA b) t < 0)then
   bif decide (fM (gtM b) t < 0)then(List.take t.length t++([Trace.mk b []]++List.drop t.length (List.take t.length t)))
   else(List.take (fM (gtM b) t).toNat t++([Trace.mk b []]++List.drop (fM (gtM b) t).toNat (List.take t.length t)))
  else t)=Zi t b:=by
 unfold Zi;rcases ql (UA b) t with⟨i,h⟩ | ⟨u,a,v,j,l,o,e⟩
 ·have:t.any (UA b)=false:=by
   rw[Qc];exact fun x f=>by rw[h x f];simp
  rw[this,i];simp only[show decide ((-1:Int) < 0)=true from rfl,uu,mX];rcases ql (gtM b) t with⟨g0,g⟩ | ⟨u,a,v,d,k,m,n⟩
  ·rw[g0,agt b [] t g];simp
  ·have c:decide ((u.length:Int) < 0)=false:=qM au;rw[n,c,mX,xw,Kr,d,agN b [] u a v m k,Qdc,List.drop_left];rfl
 ·have:t.any (UA b)=true:=by
   rw[Qbi];exact⟨a,by rw[j];simp,l⟩
  have c:decide ((u.length:Int) < 0)=false:=qM au;rw[this,e,c];rfl
theorem akp (t:List Trace)(d:Str)(f e:Int)(h:okT t):(Ud t d f e).val=afS e (Xe t d f):=by
 unfold Ud;simp only[bY,jk,cZ,bf,iG,aI,eU,qC];have j:=Qw t d;unfold UA gtM at j;have l:∀(i g:Bool) (a b c:List Trace),(bif i then bif g then(Sum.inl a:List Trace⊕List Trace)else .inl b else .inl c)= .inl (bif i then bif g then a else b else c):=by
  intro i g a b c;cases i<;>cases g<;>rfl
 rw[l,j,jc];obtain⟨u,a,v,n,p,m,o⟩:=ZR t d f;have k:=ah4 (UA d) u a v p m;unfold UA at k;rw[n,k,xw,Yk,set_mid,<-o];exact aqm (aLr e) kY (fun _ (y:List Trace)=>y.filter fun x=> !x.Times.isEmpty) _
theorem ald (t:List Trace)(b:Str)(g:Int)(o:Int)(h:okT t):Is (Ud t b g o):=
 by
 refine aY qct (kX (dI fun K F=>dB (fun _=>dI fun O H=>dB (fun _=>gp fun _=>aY ⟨by omega,by omega,by omega,dm qct qct⟩ aQ)
  (fun _=>aY ⟨by omega,by have:=mO (fun(x:Trace)=>gtS x.Method b) t;omega,by omega,dm qct qct⟩ aQ)) iR) (fun A r=> ?_))
 have B:A=Zi t b:=by
  have k:=Qw t b;unfold UA gtM at k;rw[<-k];revert r;simp only[cZ,bf,iG,bY,aI];cases decide (fM (fun(x:Trace)=>x.Method==b) t < 0)<;>cases decide (fM (fun(x:Trace)=>gtS x.Method b) t < 0)<;>intro e<;>injection e with e<;>exact e.symm
 subst B;obtain⟨I,p⟩:=aCL t b h;obtain⟨u,a,v,f,C,z,M⟩:=ZR t b g;have c:=ah4 (UA b) u a v C z;unfold UA at c;have L:=p a (by rw[f];simp);have N:(Zi t b).length=u.length+(v.length+1):=by rw[f];simp
 refine dI fun J m=> ?_;rw[f,c]at m;subst m;have D:(Zi t b).getD ((u.length:Int)).toNat kY=a:=by rw[f,xw,Yk]
 rw[D];refine b_ au au (aY au (aY au (aY (dm au au) (b_ au au (aY au (dI fun n w=>gp fun _=> ?_))))));have s:n=u++⟨a.Method,a.Times++[g]⟩::v:=by rw[w,f,xw,set_mid]
 have G:n.length=u.length+(v.length+1):=by rw[s];simp
 refine Hm (fun _ y=>y.length=n.length/\∀x∈y,x.Times.length<=1001) ⟨rfl,fun x c=> ?_⟩ au au (fun i q P Q j=> ?_) (fun i q _ _ j=>aY au aQ)
 ·rw[s]at c;rcases yH.1 c with c | c
  ·have:=p x (by rw[f];simp[c]);omega
  ·rcases EC.1 c with rfl | c
   ·simp;omega
   ·have:=p x (by rw[f];simp[c]);omega
 ·have E:i.toNat < q.length:=by omega
  have k:=j.2 _ (getD_mem (d:=kY) E);refine⟨b_ au au (aY au (aY au (aY au (b_ au au (aY au aQ))))),fun R l=> ?_⟩;simp only[eU,bY,aI,Sum.inl.injEq]at l;subst l;refine⟨by rw[Qbo];exact j.1,fun x c=> ?_⟩;rcases Qcs c with c | rfl
  ·exact j.2 x c
  ·exact yI (Qbv _ _) k
def aqk:aZ Z:=E2 [ast,al_,ajJ,ajm,akV,aso,aHK,aun,aID,ad4,aHv,ajb] [jS 10 (bI (fun b=>[s0 49, .row (pid (b 0)) 222]) (aB cI (l1 jY))),jS 100007 (bI (fun b=>[.slot 0 false [some 222]]) (l1 jY))] (ak (bC jY) (ak (bC cStr) (ak (bC cI) (a1 (bC cI))))) (R1 jY) [] func55 1 (u4 Ud) (fun a=>some (okT a.1)) (fun a=>afS a.2.2.2 (Xe a.1 a.2.1 a.2.2.1)) fun a h=>⟨ald a.1 a.2.1 a.2.2.1 a.2.2.2 h,akp a.1 a.2.1 a.2.2.1 a.2.2.2 h⟩
theorem GM {A:Type}{l:List (List A)}{k:Nat}(h:k < l.length):(l.take (k+1)).flatten=(l.take k).flatten++l.getD k []:=by
 rw[take_snoc (d:=[]) h,List.flatten_append];simp
theorem alK {A:Type}(l:List (List A))(k:Nat):(l.take k).flatten.length<=l.flatten.length:=by
 have e:l.flatten=(l.take k).flatten++(l.drop k).flatten:=by rw[<-List.flatten_append,Qcr]
 rw[e,um];omega
theorem aAz (w:World):Calls Tryz.prog 469 #[.slice none 0 0, .int .i64 0] w fun e a=>e= .returned (.slice none 0 0)/\a=w:=by
 have mixed:Tryz.prog.follows Departure.mixedOrders=true:=by kernel_rfl
 go_enter func469,ntmps469
 go_wp2
 go_ret
 exact⟨rfl,rfl⟩
set_option maxHeartbeats 1000000 in
theorem azJ (n h a:Nat)(w b:World)(j:0 < n)(m:n<=a)(l:n<=9223372036854775807)(c:∀d,(Builtin.append_ #[73,3] d #[.slice none 0 0, .int .i64 n]).run Tryz.prog w= .ok (.slice (some ⟨h,0,none⟩) n a) b):
  Calls Tryz.prog 469 #[.slice none 0 0, .int .i64 n] w fun e f=>e= .returned (.slice (some ⟨h,0,none⟩) 0 a)/\f=b:=by
 have k:¬((n:Int) < 0):=by omega
 have o:IntKind.i64.wrap ((n:Int))=(n:Int):=by rw[IntKind.wrap_i64];omega
 have g:(n:Int) > 0:=by omega
 have i:(0:Int) < (n:Int):=by omega
 have mixed:Tryz.prog.follows Departure.mixedOrders=true:=by kernel_rfl
 go_enter func469,ntmps469
 go_wp2_with (at_builtin;refine Lib.wpList_append_run _ rfl _ _ 73 3 rfl _ _ rfl rfl _ _ (c _) ?_)
 all_goals (go_ret;exact⟨rfl,rfl⟩)
def am8:Ct D:=V8 S 78 7 128 ([.int .i64 0, .int .u64 0, .string ⟨#[]⟩, .slice none 0 0, .slice none 0 0, .slice none 0 0, .slice none 0 0].map fun v=>(zf v).norm)
theorem ak8:gZ Tryz.prog S 469 am8:=by
 obtain⟨inf,z,g,i,e,b,d⟩:=sJ (aib 78 _ rfl);refine PT (t:=73) (ti:=3) (kn:= .i64) (inf:=inf) (z:=z) arS (fun args w=> ?_) ⟨aAz,azJ⟩ mi underlying73 underlying3 g i e b ?_
 ·have f:=func469;have a:¬f469.name= "runtime.NumGoroutine" :=by decide+kernel
  obtain⟨c,h⟩:∃c,f469.body=some c:=⟨_,rfl⟩;simp[callFunc,f,a,h]
 ·rw[<-Qbf,d];rfl
def aGR:aZ Z:=⟨469,am8,ak8⟩
def aCn (l:List (List ah)):Pg (List ah):=.cut (fun(b:Int)=> .ob (0<=b/\b*(128:Int)<=281474976710656/\b<=1099511627776) (aL l (.each false oZ l [] (fun e (d a:List ah)=> .ix e l.length (.ob (bZ (a.length+d.length) 128) (rl (a++d)))) (fun e (a:List ah)=> .ret a) (List.replicate 0 (ah.mk 0 0 [] [] [] [] []))))) (aL l (.each false oZ l [] (fun g f (c:Int)=> .ix g l.length (aL f (.lt (dA .i64 (c+(↑f.length:Int))) fun h=> .br (decide (h < 0)) (.no default) (rl h)))) (fun(g c:Int)=> rl c) 0))
def aER (l:List (List ah)):=(aCn l).val
theorem afo (l:List (List ah))(h:l.flatten.length<=2097152/\l.length<=2097152):j_ (aCn l) (fun r=>r=l.flatten):=
 by
 have b:=alK l;unfold aCn;refine bP (fun y=>y=(l.flatten.length:Int)) (bW (dh (fun k y=>y=((l.take k).flatten.length:Int)) rfl au (fun k y a hI=> ?_) (fun y hI=>af qbw))) (fun i g=>ai ⟨by omega,by omega,by omega⟩ (bW (dh (fun k y=>y=(l.take k).flatten) rfl au (fun k y a hI=> ?_) (fun y hI=>af qbw))))
 ·have e:=XQ List.length (GM a);rw[um]at e;have d:=b (k+1);exact aW au au (bW (nC fun f m j=>bG (fun c=>absurd c au) (fun _=>af (by show f=_;omega))))
 ·have e:=GM a;have d:=b (k+1);rw[e,um]at d;exact aW au au (ai qcf (af (by rw[hI];exact e.symm)))
def aHB:aZ Z:=E1 [aGR] [jS 3 (bI (fun b=>[s0 11, s0 3]) (aB cI (l1 cI))),jS 11 (bI (fun b=>[s0 27, .slot 6 false [some 78]]) (aB cI (l1 jO))),jS 100009 (bI (fun b=>[s0 3]) (l1 cI))] (a1 (bC aaO)) (shr [.slot 0 false [some 78]] (l1 jO)) [] func423 1 aCn (fun a=>a.flatten.length<=2097152/\a.length<=2097152) fun a h=>(afo a h).1
theorem aDA (w:World):Calls Tryz.prog 470 #[.slice none 0 0, .int .i64 0] w fun e a=>e= .returned (.slice none 0 0)/\a=w:=by
 have mixed:Tryz.prog.follows Departure.mixedOrders=true:=by kernel_rfl
 go_enter func470,ntmps470
 go_wp2
 go_ret
 exact⟨rfl,rfl⟩
set_option maxHeartbeats 1000000 in
theorem aBD (n h a:Nat)(w b:World)(j:0 < n)(m:n<=a)(l:n<=9223372036854775807)(c:∀d,(Builtin.append_ #[74,3] d #[.slice none 0 0, .int .i64 n]).run Tryz.prog w= .ok (.slice (some ⟨h,0,none⟩) n a) b):
  Calls Tryz.prog 470 #[.slice none 0 0, .int .i64 n] w fun e f=>e= .returned (.slice (some ⟨h,0,none⟩) 0 a)/\f=b:=by
 have k:¬((n:Int) < 0):=by omega
 have o:IntKind.i64.wrap ((n:Int))=(n:Int):=by rw[IntKind.wrap_i64];omega
 have g:(n:Int) > 0:=by omega
 have i:(0:Int) < (n:Int):=by omega
 have mixed:Tryz.prog.follows Departure.mixedOrders=true:=by kernel_rfl
 go_enter func470,ntmps470
 go_wp2_with (at_builtin;refine Lib.wpList_append_run _ rfl _ _ 74 3 rfl _ _ rfl rfl _ _ (c _) ?_)
 all_goals (go_ret;exact⟨rfl,rfl⟩)
def an_:Ct D:=V8 S 355 14 256 ([.int .i64 0, .int .u64 0, .string ⟨#[]⟩, .slice none 0 0, .slice none 0 0, .slice none 0 0, .slice none 0 0, .int .i64 0, .int .u64 0, .string ⟨#[]⟩, .slice none 0 0, .slice none 0 0, .slice none 0 0, .slice none 0 0].map fun v=>(zf v).norm)
theorem ajc:gZ Tryz.prog S 470 an_:=by
 obtain⟨inf,z,g,i,e,b,d⟩:=sJ (aib 355 _ rfl);refine PT (t:=74) (ti:=3) (kn:= .i64) (inf:=inf) (z:=z) arS (fun args w=> ?_) ⟨aDA,aBD⟩ mi underlying74 underlying3 g i e b ?_
 ·have f:=func470;have a:¬f470.name= "runtime.NumGoroutine" :=by decide+kernel
  obtain⟨c,h⟩:∃c,f470.body=some c:=⟨_,rfl⟩;simp[callFunc,f,a,h]
 ·rw[<-Qbf,d];rfl
def aIh:aZ Z:=⟨470,an_,ajc⟩
def aAe (l:List (List Pair)):Pg (List Pair):=.cut (fun(b:Int)=> .ob (0<=b/\b*(256:Int)<=281474976710656/\b<=1099511627776) (aL l (.each false oZ l [] (fun e (d a:List Pair)=> .ix e l.length (.ob (bZ (a.length+d.length) 256) (rl (a++d)))) (fun e (a:List Pair)=> .ret a) (List.replicate 0 (Pair.mk (ah.mk 0 0 [] [] [] [] []) (ah.mk 0 0 [] [] [] [] [])))))) (aL l (.each false oZ l [] (fun g f (c:Int)=> .ix g l.length (aL f (.lt (dA .i64 (c+(↑f.length:Int))) fun h=> .br (decide (h < 0)) (.no default) (rl h)))) (fun(g c:Int)=> rl c) 0))
def aE1 (l:List (List Pair)):=(aAe l).val
theorem agJ (l:List (List Pair))(h:l.flatten.length<=2097152/\l.length<=2097152):j_ (aAe l) (fun r=>r=l.flatten):=
 by
 have b:=alK l;unfold aAe;refine bP (fun y=>y=(l.flatten.length:Int)) (bW (dh (fun k y=>y=((l.take k).flatten.length:Int)) rfl au (fun k y a hI=> ?_) (fun y hI=>af qbw))) (fun i g=>ai ⟨by omega,by omega,by omega⟩ (bW (dh (fun k y=>y=(l.take k).flatten) rfl au (fun k y a hI=> ?_) (fun y hI=>af qbw))))
 ·have e:=XQ List.length (GM a);rw[um]at e;have d:=b (k+1);exact aW au au (bW (nC fun f m j=>bG (fun c=>absurd c au) (fun _=>af (by show f=_;omega))))
 ·have e:=GM a;have d:=b (k+1);rw[e,um]at d;exact aW au au (ai qcf (af (by rw[hI];exact e.symm)))
def aHE:aZ Z:=E1 [aIh] [jS 3 (bI (fun b=>[s0 11, s0 3]) (aB cI (l1 cI))),jS 11 (bI (fun b=>[s0 27, .slot 6 false [some 355]]) (aB cI (l1 fB))),jS 100009 (bI (fun b=>[s0 3]) (l1 cI))] (a1 (bC Z9)) (shr [.slot 0 false [some 355]] (l1 fB)) [] func424 1 aAe (fun a=>a.flatten.length<=2097152/\a.length<=2097152) fun a h=>(agJ a h).1
theorem aAx (w:World):Calls Tryz.prog 471 #[.slice none 0 0, .int .i64 0] w fun e a=>e= .returned (.slice none 0 0)/\a=w:=by
 have mixed:Tryz.prog.follows Departure.mixedOrders=true:=by kernel_rfl
 go_enter func471,ntmps471
 go_wp2
 go_ret
 exact⟨rfl,rfl⟩
set_option maxHeartbeats 1000000 in
theorem aBw (n h a:Nat)(w b:World)(j:0 < n)(m:n<=a)(l:n<=9223372036854775807)(c:∀d,(Builtin.append_ #[76,3] d #[.slice none 0 0, .int .i64 n]).run Tryz.prog w= .ok (.slice (some ⟨h,0,none⟩) n a) b):
  Calls Tryz.prog 471 #[.slice none 0 0, .int .i64 n] w fun e f=>e= .returned (.slice (some ⟨h,0,none⟩) 0 a)/\f=b:=by
 have k:¬((n:Int) < 0):=by omega
 have o:IntKind.i64.wrap ((n:Int))=(n:Int):=by rw[IntKind.wrap_i64];omega
 have g:(n:Int) > 0:=by omega
 have i:(0:Int) < (n:Int):=by omega
 have mixed:Tryz.prog.follows Departure.mixedOrders=true:=by kernel_rfl
 go_enter func471,ntmps471
 go_wp2_with (at_builtin;refine Lib.wpList_append_run _ rfl _ _ 76 3 rfl _ _ rfl rfl _ _ (c _) ?_)
 all_goals (go_ret;exact⟨rfl,rfl⟩)
def aoD:Ct D:=V8 S 295 4 40 ([.int .i64 0, .int .i64 0, .int .u64 0, .string ⟨#[]⟩].map fun v=>(zf v).norm)
theorem aj8:gZ Tryz.prog S 471 aoD:=by
 obtain⟨inf,z,g,i,e,b,d⟩:=sJ (aib 295 _ rfl);refine PT (t:=76) (ti:=3) (kn:= .i64) (inf:=inf) (z:=z) arS (fun args w=> ?_) ⟨aAx,aBw⟩ mi underlying76 underlying3 g i e b ?_
 ·have f:=func471;have a:¬f471.name= "runtime.NumGoroutine" :=by decide+kernel
  obtain⟨c,h⟩:∃c,f471.body=some c:=⟨_,rfl⟩;simp[callFunc,f,a,h]
 ·rw[<-Qbf,d];rfl
def aHb:aZ Z:=⟨471,aoD,aj8⟩
def aAC (l:List (List Raw)):Pg (List Raw):=.cut (fun(b:Int)=> .ob (0<=b/\b*(40:Int)<=281474976710656/\b<=1099511627776) (aL l (.each false oZ l [] (fun e (d a:List Raw)=> .ix e l.length (.ob (bZ (a.length+d.length) 40) (rl (a++d)))) (fun e (a:List Raw)=> .ret a) (List.replicate 0 (Raw.mk 0 0 0 []))))) (aL l (.each false oZ l [] (fun g f (c:Int)=> .ix g l.length (aL f (.lt (dA .i64 (c+(↑f.length:Int))) fun h=> .br (decide (h < 0)) (.no default) (rl h)))) (fun(g c:Int)=> rl c) 0))
def axJ (l:List (List Raw)):=(aAC l).val
theorem aip (l:List (List Raw))(h:l.flatten.length<=2097152/\l.length<=2097152):j_ (aAC l) (fun r=>r=l.flatten):=
 by
 have b:=alK l;unfold aAC;refine bP (fun y=>y=(l.flatten.length:Int)) (bW (dh (fun k y=>y=((l.take k).flatten.length:Int)) rfl au (fun k y a hI=> ?_) (fun y hI=>af qbw))) (fun i g=>ai ⟨by omega,by omega,by omega⟩ (bW (dh (fun k y=>y=(l.take k).flatten) rfl au (fun k y a hI=> ?_) (fun y hI=>af qbw))))
 ·have e:=XQ List.length (GM a);rw[um]at e;have d:=b (k+1);exact aW au au (bW (nC fun f m j=>bG (fun c=>absurd c au) (fun _=>af (by show f=_;omega))))
 ·have e:=GM a;have d:=b (k+1);rw[e,um]at d;exact aW au au (ai qcf (af (by rw[hI];exact e.symm)))
def aH2:aZ Z:=E1 [aHb] [jS 3 (bI (fun b=>[s0 11, s0 3]) (aB cI (l1 cI))),jS 11 (bI (fun b=>[s0 27, .slot 6 false [some 295]]) (aB cI (l1 bU))),jS 100009 (bI (fun b=>[s0 3]) (l1 cI))] (a1 (bC ahq)) (shr [.slot 0 false [some 295]] (l1 bU)) [] func425 1 aAC (fun a=>a.flatten.length<=2097152/\a.length<=2097152) fun a h=>(aip a h).1
def clF (l:List aK):Pg (List aK):=.unk false (fun(b:Bool)=>b=true->l.length=0) (.ret []) (.ob (bZ (0+l.length) 240) (.ret l))
theorem aIO (l:List aK)(h:l.length<=1048576):Is (clF l):=
 r_ (dm au au)
def aLX:aZ Z:=E2 [] [] (a1 (bC iw)) (shr [.slot 0 false [some 80]] (l1 iw)) [] func466 1 clF (fun a=>some (a.length<=1048576)) (fun a=>a) fun a h=>⟨aIO a h,rfl⟩
def unC (x:aK)(a:Str):Pg Bool:=.ret (x.Union !=a)
def afj (x:aK)(a:Str):=(unC x a).val
def ayI:aZ Z:=xx [] [] (ak (aJ eG) (a1 (jf 0))) (b1 (aV cStr)) (R1 aG) [0] func467 1 (u11 unC)
def aEG:aZ Z:=Jf [ayI] iw 467 [0] (b1 (aV cStr)) func383 aH fun x b=>afj x b
def unD (l:List aK)(b:Str):Pg (List aK):=.lt (fM (fun(x:aK)=>afj x b) l) fun c=> .br (c==(-1)) (.ret l) (.lt (dA .i64 (c+1)) fun f=> .wh (l.length+1) default (fun(a:Int×Int×List aK)=> aL a.2.2 (.br (decide (a.1 < (↑a.2.2.length:Int))) (.ix a.1 a.2.2.length (.ob (a.1.toNat < a.2.2.length) (.lt (dA .i64 (a.1+1)) fun d=> .br (!afj (aK.mk (a.2.2.getD a.1.toNat aH).Num (a.2.2.getD a.1.toNat aH).Name (a.2.2.getD a.1.toNat aH).Card (a.2.2.getD a.1.toNat aH).Key (a.2.2.getD a.1.toNat aH).dH (a.2.2.getD a.1.toNat aH).Union (a.2.2.getD a.1.toNat aH).dD (a.2.2.getD a.1.toNat aH).Default.re (a.2.2.getD a.1.toNat aH).Notes) b) (.ix a.2.1 a.2.2.length (.ob (a.2.1.toNat < a.2.2.length) (rl (d,dA .i64 (a.2.1+1), a.2.2.set a.2.1.toNat (aK.mk (a.2.2.getD a.1.toNat aH).Num (a.2.2.getD a.1.toNat aH).Name (a.2.2.getD a.1.toNat aH).Card (a.2.2.getD a.1.toNat aH).Key (a.2.2.getD a.1.toNat aH).dH (a.2.2.getD a.1.toNat aH).Union (a.2.2.getD a.1.toNat aH).dD (a.2.2.getD a.1.toNat aH).Default.re (a.2.2.getD a.1.toNat aH).Notes))))) (rl (d,a.2))))) (.ob (0<=a.2.1/\a.2.1<=(↑a.2.2.length:Int)/\(↑a.2.2.length:Int)<=(↑a.2.2.length:Int)) (.ob (a.2.2.length=a.2.2.length) (.lt (List.take a.2.1.toNat a.2.2++ List.replicate (a.2.2.length - a.2.1.toNat) (aK.mk 0 [] 0 0 (uS.mk 0 []) [] false (ah.mk 0 0 [] [] [] [] []) [])) fun e=> .ob ((0:Int)<=0/\0<=a.2.1/\a.2.1<=(↑e.length:Int)) (.ret (.inr (List.take a.2.1.toNat e)))))))) (f,c,l))
theorem anH (l:List aK)(a:Str):unD l a=af7 (fun(x:aK)=>afj x a) aH l:=by
 unfold unD af7;(try simp only[ah.dR])
 rfl
theorem aHz (l:List aK)(a:Str)(h:l.length<=1048576):Is (unD l a):=
 by
 rw[anH];exact(PU (fun(x:aK)=>afj x a) aH l au).1
def aMm:aZ Z:=SI [XD,adM,ajH,aEG,ayI] [jS 5 (bI (fun c=>[s0 6, s0 5, .row (pid (c 0)) 80]) (aB cI (aB cI (l1 iw))))] (ak (oD 0) (a1 (lH 467 [1]))) (ja (lh 80 D.aK vK) (b1 (aV cStr))) (R1 iw) [1] func465 1 (fun a=>unD a.2.1 a.2.2) (fun a=>some (a.2.1.length<=1048576)) (fun a=>a.2.1.filter fun(x:aK)=> !(afj x a.2.2)) fun a h=>⟨aHz a.2.1 a.2.2 h,(fun(l:List aK) b (h:l.length<=1048576)=>(XQ Pg.val (anH l b)).trans (PU (fun(x:aK)=>afj x b) aH l au).2) a.2.1 a.2.2 h⟩
def atj (m:aO)(a:Str):Pg (List aK):=.br (a==[]) (.ret []) (.ob (m.Fields.length<=1048576) (.ob (m.Fields.length<=1048576) (.ret (List.filter (fun(x:aK)=> !afj x a) m.Fields))))
def aAh (m:aO)(a:Str):=(atj m a).val
def aw5:aZ Z:=E1 [aMm,aLX,ayI] [] (ak (aJ gu) (a1 (bC cStr))) (R1 iw) [] func419 1 (u2 atj) fun a=>a.1.Fields.length<=1048576
def phC (x:Slot)(a:Int):Pg Bool:=.ret (x.Num==a)
def aMc (x:Slot)(a:Int):=(phC x a).val
def aED:aZ Z:=xx [] [] (ak (aJ nR) (a1 (jf 0))) (b1 (aV cI)) (R1 aG) [0] func484 1 (u11 phC)
def au2:aZ Z:=Jf [aED] bT 484 [0] (b1 (aV cI)) func372 cO fun x b=>aMc x b
def awj (l:List Slot)(a:Int):Pg Int:=.ret (fM (fun(x:Slot)=>aMc x a) l)
def aAG (l:List Slot)(a:Int):=(awj l a).val
def aui:aZ Z:=E0 [au2,aED] [] (ak (bC bT) (a1 (bC cI))) (R1 cI) [] func468 1 (u2 awj)
def aKo (v:ah)(a:Int):Pg Bool:=.lt (aAG v.Slots a) fun b=> .ret (decide (0<=b))
def aLD (v:ah)(a:Int):=(aKo v a).val
def aFx:aZ Z:=E0 [aui] [] (ak (aJ aP) (a1 (bC cI))) (R1 aG) [] func421 1 (u2 aKo)
def moC (g:aK)(f:aK)(b:ah):Pg Bool:=.br (g.Num !=f.Num) (.ret (aLD b.re g.Num)) (.ret false)
def aI0 (g:aK)(f:aK)(b:ah):=(moC g f b).val
def auQ:aZ Z:=xx [aFx] [] (ak (aJ eG) (ak (jf 0) (a1 (jf 1)))) (ja (aV eG) (b1 (aV aP))) (R1 aG) [0,1] func420 1 fun a=>moC a.1.1 a.2.1 a.2.2
def aKW:aZ Z:=Jf [auQ] iw 420 [0,1] (ja (aV eG) (b1 (aV aP))) func383 aH fun x b=>aI0 x b.1 b.2
def aK_:aZ Z:=EAB [XD,adM,ajH,aEG,aKW,auQ] iw 420 [0,1] (ja (aV eG) (b1 (aV aP))) func280 fun x b=>aI0 x b.1 b.2
def anz (m:aO)(f:aK)(b:ah):Pg Bool:=.ob (m.Fields.length<=1048576) (.ret ((aAh m f.Union).any fun(x:aK)=>aI0 x (aK.mk f.Num f.Name f.Card f.Key f.dH f.Union f.dD f.Default.re f.Notes) b.re))
def auU (m:aO)(f:aK)(b:ah):=(anz m f b).val
def aqu:aZ Z:=E1 [alu,ayW,asT,aK_,aw5,auQ] [] (ak (aJ gu) (ak (aJ eG) (a1 (aJ aP)))) (R1 aG) [] func324 1 (u3 anz) fun a=>a.1.Fields.length<=1048576
def mgC (x:Slot)(m:aO)(b:ah):Pg Bool:=.ob (m.Fields.length<=1048576) (.lt (UT m x.Num) fun a=> .ret (auU m (aK.mk a.1.Num a.1.Name a.1.Card a.1.Key a.1.dH a.1.Union a.1.dD a.1.Default.re a.1.Notes) b.re))
def OU (x:Slot)(m:aO)(b:ah):=(mgC x m b).val
def auu:aZ Z:=H7 [LK,aqu] [] (ak (aJ nR) (ak (jf 0) (a1 (jf 1)))) (ja (aV gu) (b1 (aV aP))) (R1 aG) [0,1] func323 1 (fun a=>mgC a.1.1 a.2.1 a.2.2) fun a=>a.2.1.Fields.length<=1048576
def mgI (l:List Slot)(m:aO)(b:ah):Pg Int:=aL l (.each false uj l cO (fun a c (d:Unit)=> .ix a l.length (.ob (a.toNat < l.length) (.ob (m.Fields.length<=1048576) (.br (OU (Slot.mk c.Num c.Val.re) m b.re) (.ret (.inr a)) (rl ()))))) (fun a (d:Unit)=> .ret (-1)) ())
theorem aHA (l:List Slot)(m:aO)(b:ah):(mgI l m b).val=fM (fun x=>OU x m b) l:=by
 unfold mgI;simp only[iG,jD,eU,bY,bf,aI,ah.dR];exact oK (fun x=>OU x m b) l 0
theorem aGN (l:List Slot)(m:aO)(b:ah)(h:m.Fields.length<=1048576):Is (mgI l m b):=
 gp fun _=>gU (.inr au) (fun c a _ _=>b_ au au (aY au (aY h (aT iR iR)))) (fun a _=>aQ)
def aEs:aZ Z:=SI [auu] [jS 2 (bI (fun c=>[s0 8]) (l1 cI))] (ak (oD 0) (a1 (lH 323 [1,2]))) (ja (lh 288 D.Slot kw) (ja (aV gu) (b1 (aV aP)))) (R1 cI) [0,1,2] func372 1 (fun a=>mgI a.2.1 a.2.2.1 a.2.2.2) (fun a=>some (a.2.2.1.Fields.length<=1048576)) (fun a=>fM (fun(x:Slot)=>OU x a.2.2.1 a.2.2.2) a.2.1) fun a h=>⟨aGN a.2.1 a.2.2.1 a.2.2.2 h,(fun l m b _=>aHA l m b) a.2.1 a.2.2.1 a.2.2.2 h⟩
def mgD (l:List Slot)(m:aO)(b:ah):Pg (List Slot):=.ob (m.Fields.length<=1048576) (.lt (fM (fun(x:Slot)=>OU x m b.re) l) fun c=> .br (c==(-1)) (.ret l) (.lt (dA .i64 (c+1)) fun f=> .wh (l.length+1) default (fun(a:Int×Int×List Slot)=> aL a.2.2 (.br (decide (a.1 < (↑a.2.2.length:Int))) (.ix a.1 a.2.2.length (.ob (a.1.toNat < a.2.2.length) (.ob (m.Fields.length<=1048576) (.lt (dA .i64 (a.1+1)) fun d=> .br (!OU (Slot.mk (a.2.2.getD a.1.toNat cO).Num (a.2.2.getD a.1.toNat cO).Val.re) m b.re) (.ix a.2.1 a.2.2.length (.ob (a.2.1.toNat < a.2.2.length) (rl (d,dA .i64 (a.2.1+1), a.2.2.set a.2.1.toNat (Slot.mk (a.2.2.getD a.1.toNat cO).Num (a.2.2.getD a.1.toNat cO).Val.re))))) (rl (d,a.2)))))) (.ob (0<=a.2.1/\a.2.1<=(↑a.2.2.length:Int)/\(↑a.2.2.length:Int)<=(↑a.2.2.length:Int)) (.ob (a.2.2.length=a.2.2.length) (.lt (List.take a.2.1.toNat a.2.2++ List.replicate (a.2.2.length - a.2.1.toNat) (Slot.mk 0 (ah.mk 0 0 [] [] [] [] []))) fun e=> .ob ((0:Int)<=0/\0<=a.2.1/\a.2.1<=(↑e.length:Int)) (.ret (.inr (List.take a.2.1.toNat e)))))))) (f,c,l)))
def Vf {A:Type}(c:Prop)(p:A->Bool)(d:A)(l:List A):Pg (List A):=.ob c <| .lt (fM p l) fun b=> .br (b==(-1)) (.ret l) (.lt (dA .i64 (b+1)) fun g=> .wh (l.length+1) default (fun(a:Int×Int×List A)=> aL a.2.2 (.br (decide (a.1 < (↑a.2.2.length:Int))) (.ix a.1 a.2.2.length (.ob (a.1.toNat < a.2.2.length) <| .ob c (.lt (dA .i64 (a.1+1)) fun f=> .br (!p (a.2.2.getD a.1.toNat d)) (.ix a.2.1 a.2.2.length (.ob (a.2.1.toNat < a.2.2.length) (rl (f,dA .i64 (a.2.1+1),a.2.2.set a.2.1.toNat (a.2.2.getD a.1.toNat d))))) (rl (f,a.2))))) (.ob (0<=a.2.1/\a.2.1<=(↑a.2.2.length:Int)/\(↑a.2.2.length:Int)<=(↑a.2.2.length:Int)) (.ob (a.2.2.length=a.2.2.length) (.lt (List.take a.2.1.toNat a.2.2++List.replicate (a.2.2.length - a.2.1.toNat) d) fun e=> .ob ((0:Int)<=0/\0<=a.2.1/\a.2.1<=(↑e.length:Int)) (.ret (.inr (List.take a.2.1.toNat e)))))))) (g,b,l))
structure ab1 {A:Type}(p:A->Bool)(l:List A)(x:Int×Int×List A)(j i:Nat):Prop where
 hj:x.1=↑j
 hi:x.2.1=↑i
 lt:i < j
 le:j<=l.length
 len:x.2.2.length=l.length
 tk:x.2.2.take i=(l.take j).filter fun a=> !p a
 dr:x.2.2.drop j=l.drop j
theorem amO {A:Type}{c:Prop}(E:c)(p:A->Bool)(d:A)(l:List A)(hl:l.length<=9223372036854775806):Is (Vf c p d l)/\(Vf c p d l).val=l.filter fun a=> !p a:=by
 unfold Vf;rcases ql p l with⟨V,X⟩ | ⟨u,a,v,F,B,Q,b⟩
 ·rw[V];refine⟨aY E <| dI fun S w=>by subst w;exact aT iR (fun h=>by cases h),?_⟩;simp only[bY,cZ,bf,aI];refine(Qdk.2 fun a B=> ?_).symm;rw[X a B];rfl
 ·rw[b];have P:l.length=u.length+(v.length+1):=by rw[F];simp
  have K:(((u.length:Int))== -1)=false:=by
   rw[Qbu];omega
  have R:dA .i64 ((u.length:Int)+1)=((u.length+1:Nat):Int):=by
   rw[dU (k:= .i64) tZ];omega
  have G:ab1 p l (dA .i64 ((u.length:Int)+1),(u.length:Int),l) (u.length+1) u.length:=by
   refine⟨R,rfl,by omega,by omega,rfl,?_,rfl⟩;show l.take u.length=_
   rw[F];have:(u++a::v).take (u.length+1)=u++[a]:=by
    rw[show u++a::v=(u++[a])++v by simp,show u.length+1=(u++[a]).length by simp,Qdc]
   rw[this,Qbn,Qdc];have D:u.filter (fun a=> !p a)=u:=Qdk.2 fun x b=>by rw[Q x b];rfl
   rw[D];simp[B]
  have s:∀(x:Int×Int×List A) (j i:Nat),ab1 p l x j i->j < l.length->x.2.2.getD j d=l.getD j d/\l.take (j+1)=l.take j++[l.getD j d]/\x.2.2.drop (j+1)=l.drop (j+1):=by
   intro x j i b f;have z:j < x.2.2.length:=by rw[b.len];exact f
   have D:=Qb f;have W:=Qb z;have:=b.dr;rw[D,W]at this;injection this with t y
   refine⟨by rw[getD_some f,getD_some z,t],?_,y⟩;rw[getD_some f,Qbk f]
  have step:∀(x:Int×Int×List A) (j i:Nat),ab1 p l x j i->j < l.length->∀q,p (l.getD j d)=q->
    ab1 p l (dA .i64 (x.1+1),(cond (!q) (dA .i64 (x.2.1+1),x.2.2.set x.2.1.toNat (x.2.2.getD x.1.toNat d)) x.2)) (j+1) (cond (!q) (i+1) i):=by
   intro x j i b f q m;obtain⟨o,N,M⟩:=s x j i b f
   have n:dA .i64 (x.1+1)=((j+1:Nat):Int):=by rw[b.hj,dU (k:= .i64) tZ];omega
   have Y:=b.lt;cases q with
   | true=>
    refine⟨n,b.hi,?_,by omega,b.len,?_,M⟩
    ·simp;omega
    ·show x.2.2.take i=_
     rw[b.tk,N,Qbn,Qb7,m];simp
   | false=>
    refine⟨n,?_,?_,by omega,?_,?_,?_⟩
    ·show dA .i64 (x.2.1+1)=_
     rw[b.hi,dU (k:= .i64) tZ];simp
    ·simp;omega
    ·simp[b.len]
    ·show(x.2.2.set x.2.1.toNat (x.2.2.getD x.1.toNat d)).take (i+1)=_
     rw[b.hi,b.hj,xw,xw,o];have I:i < (x.2.2.set i (l.getD j d)).length:=by rw[Qbo,b.len];omega
     rw[Qbk I,List.getElem_set_self,List.take_set_of_le (nO i),b.tk,N,Qbn,Qb7,m];simp
    ·show(x.2.2.set x.2.1.toNat (x.2.2.getD x.1.toNat d)).drop (j+1)=_
     rw[b.hi,xw,Qdj au];exact M
  refine⟨aY E <| dI fun S w=>aT iR fun _=>dI fun v4 L=> ?_,?_⟩
  ·subst w L;refine Ep (fun x=>∃j i,ab1 p l x j i) (fun x=>l.length - x.1.toNat) ⟨_,_,G⟩ au ?_;rintro x ⟨j,i,b⟩;have t:=b.hj;have y:=b.hi;have U:=b.lt;have O:=b.le;have T:=b.len;refine⟨gp fun _=>dB (fun h=>b_ au au (aY au <| aY E (dI fun v5 Z=>aT (fun _=>b_ au au (aY au aQ)) iR))) (fun h=>aY au (aY rfl (dI fun v6 hv6=>aY qb8 aQ))),fun x' J=> ?_⟩;revert J;simp only[iG,bf,eU,bY,cZ,aI];by_cases h:x.1 < (↑x.2.2.length:Int)
   ·simp only[h,decide_true,uu];intro e;have f:j < l.length:=by omega
    obtain⟨o,_,_⟩:=s x j i b f
    have g:=step x j i b f _ rfl;have C:x.2.2.getD x.1.toNat d=l.getD j d:=by rw[t,xw];exact o
    rw[C]at e g;have n:dA .i64 (x.1+1)=((j+1:Nat):Int):=g.hj;cases m:p (l.getD j d)with
    | true=>
     rw[m]at e g;injection e with e
     subst e;exact⟨⟨_,_,g⟩,by
       have:(dA .i64 (x.1+1)).toNat=j+1:=by rw[n];rfl
       show l.length - (dA .i64 (x.1+1)).toNat < _
       omega⟩
    | false=>
     rw[m]at e g;injection e with e
     subst e;exact⟨⟨_,_,g⟩,by
       have:(dA .i64 (x.1+1)).toNat=j+1:=by rw[n];rfl
       show l.length - (dA .i64 (x.1+1)).toNat < _
       omega⟩
   ·simp only[h,decide_false,mX];intro e;cases e
  ·simp only[cZ,bf,K,mX,tq];refine BR (fun x=>∃j i,ab1 p l x j i) (fun x=>l.length - x.1.toNat) (fun r=>r=l.filter fun a=> !p a) ?_ _ _ ⟨_,_,G⟩ au;rintro x ⟨j,i,b⟩;have t:=b.hj;have y:=b.hi;have U:=b.lt;have O:=b.le;have T:=b.len;simp only[iG,bf,eU,bY,cZ,aI];by_cases h:x.1 < (↑x.2.2.length:Int)
   ·left
    simp only[h,decide_true,uu];have f:j < l.length:=by omega
    obtain⟨o,_,_⟩:=s x j i b f
    have g:=step x j i b f _ rfl;have C:x.2.2.getD x.1.toNat d=l.getD j d:=by rw[t,xw];exact o
    rw[C]at g⊢;have n:dA .i64 (x.1+1)=((j+1:Nat):Int):=g.hj;have H:l.length - (dA .i64 (x.1+1)).toNat < l.length - x.1.toNat:=by
     have:(dA .i64 (x.1+1)).toNat=j+1:=by rw[n];rfl
     omega
    cases m:p (l.getD j d)with
    | true=>rw[m]at g;exact⟨_,rfl,⟨_,_,g⟩,H⟩
    | false=>rw[m]at g;exact⟨_,rfl,⟨_,_,g⟩,H⟩
   ·right
    simp only[h,decide_false,mX];refine⟨_,rfl,?_⟩;have f:j=l.length:=by omega
    rw[y,xw];have e:=b.tk;rw[f,Kr]at e;rw[<-e,Qce qbu,List.take_take,Nat.min_self]
theorem auI (x:Slot):Slot.mk x.Num x.Val=x:=by cases x;rfl
theorem anT (l:List Slot)(m:aO)(b:ah):mgD l m b=Vf (m.Fields.length<=1048576) (fun x=>OU x m b) cO l:=by
 unfold mgD Vf;simp only[ah.dR,auI];rfl
theorem aHW (l:List Slot)(m:aO)(b:ah)(h:m.Fields.length<=1048576/\l.length<=1048576):(mgD l m b).val=l.filter fun(x:Slot)=> !(OU x m b):=by
 rw[anT];exact(amO h.1 (fun x=>OU x m b) cO l au).2
theorem aIx (l:List Slot)(m:aO)(b:ah)(h:m.Fields.length<=1048576/\l.length<=1048576):Is (mgD l m b):=
 by
 rw[anT];exact(amO h.1 (fun x=>OU x m b) cO l au).1
def aJM:aZ Z:=SI [auu,au2,aEs] [jS 5 (bI (fun b=>[s0 6, s0 5, .row (pid (b 0)) 288]) (aB cI (aB cI (l1 bT))))] (ak (oD 0) (a1 (lH 323 [1,2]))) (ja (lh 288 D.Slot kw) (ja (aV gu) (b1 (aV aP)))) (shr [.slot 0 false [some 288]] (l1 bT)) [1,2] func322 1 (fun a=>mgD a.2.1 a.2.2.1 a.2.2.2) (fun a=>some (a.2.2.1.Fields.length<=1048576/\a.2.1.length<=1048576)) (fun a=>a.2.1.filter fun(x:Slot)=> !(OU x a.2.2.1 a.2.2.2)) fun a h=>⟨aIx a.2.1 a.2.2.1 a.2.2.2 h,aHW a.2.1 a.2.2.1 a.2.2.2 h⟩
def saC (x:Slot)(a:Int):Pg Bool:=.ret (x.Num==a)
def aLK (x:Slot)(a:Int):=(saC x a).val
def aE6:aZ Z:=xx [] [] (ak (aJ nR) (a1 (jf 0))) (b1 (aV cI)) (R1 aG) [0] func422 1 (u11 saC)
def aLy:aZ Z:=Jf [aE6] bT 422 [0] (b1 (aV cI)) func372 cO fun x b=>aLK x b
def ads (l:List Slot)(a:Int):Pg Int:=.ret (fM (fun(x:Slot)=>aLK x a) l)
def W9 (l:List Slot)(a:Int):=(ads l a).val
def ar2:aZ Z:=E0 [au2,aEs,aLy,aE6] [] (ak (bC bT) (a1 (bC cI))) (R1 cI) [] func325 1 (u2 ads)
def rrC (a:Raw)(b:Raw):Pg Int:=.ret (X4 a.Num b.Num)
def awr (a:Raw)(b:Raw):=(rrC a b).val
def Wn:aZ Z:=E1 [OI] [] (ak (aJ pF) (a1 (aJ pF))) (R1 cI) [] func426 1 (u2 rrC) fun a=>True
def aLI (a:Int)(b:Int)(n:Int)(l:List Raw):Pg (List Raw):=Vx (fun a=>a) qf a b n l
theorem aBf (a:Int)(b:Int)(n:Int)(l:List Raw)(h:swQ a b n l.length):Is (aLI a b n l):=
 (PH (fun _=>rfl) h).1
def aGO:aZ Z:=H7 [Wn] [jS 1 (bI (fun b=>[s0 10, .row (pid (b 0)) 295]) (aB cI (l1 bU)))] (ak (oD 0) (ak (bC cI) (ak (bC cI) (ak (bC cI) (a1 (lH 426 [])))))) (b1 (lh 295 D.Raw mF)) (shr [.row 0 295] (l1 bU)) [] func483 0 (fun a=>aLI a.1.2.1 a.1.2.2.1 a.1.2.2.2.1 a.2) (fun a=>swQ a.1.2.1 a.1.2.2.1 a.1.2.2.2.1 a.2.length) fun a h=>aBf a.1.2.1 a.1.2.2.1 a.1.2.2.2.1 a.2 h
def aMi (a:Int)(m:Int)(b:Int)(l:List Raw):Pg (List Raw):=WG (fun a=>a) qf a m b l
theorem aB1 (a:Int)(m:Int)(b:Int)(l:List Raw)(h:roQ a m b l.length):Is (aMi a m b l):=
 (OM (fun _=>rfl) h).1
def aHd:aZ Z:=H7 [Wn,axe,aGO] [jS 2 (bI (fun b=>[s0 10, s0 11, .row (pid (b 0)) 295]) (aB cI (aB cI (l1 bU))))] (ak (oD 0) (ak (bC cI) (ak (bC cI) (ak (bC cI) (a1 (lH 426 [])))))) (b1 (lh 295 D.Raw mF)) (shr [.row 0 295] (l1 bU)) [] func464 0 (fun a=>aMi a.1.2.1 a.1.2.2.1 a.1.2.2.2.1 a.2) (fun a=>roQ a.1.2.1 a.1.2.2.1 a.1.2.2.2.1 a.2.length) fun a h=>aB1 a.1.2.1 a.1.2.2.1 a.1.2.2.2.1 a.2 h
def aIR (a:Int)(b:Int)(l:List Raw):Pg (List Raw):=Wl (fun a=>a) awr (fun _ _=>True) qf a b l
def aKt (a:Int)(b:Int)(l:List Raw):=(aIR a b l).val
theorem azK (a:Int)(b:Int)(l:List Raw)(h:IQ (fun _ _=>True) a b l):Is (aIR a b l):=
 (PZ (fun _=>rfl) h).1
def aIt:aZ Z:=vF Z [Wn] [jS 1 (bI (fun b=>[s0 8, .row (pid (b 0)) 295]) (aB cI (l1 bU))),jS 4 (bI (fun b=>[s0 9, .row (pid (b 0)) 295]) (aB cI (l1 bU)))] (kN (ak (oD 0) (ak (bC cI) (ak (bC cI) (a1 (lH 426 []))))) (b1 (lh 295 D.Raw mF))) (pz (n:=53) rfl) (shr [.row 0 295] (l1 bU)) [] func417 ntmps417 eQ 0 rfl (fun a=>aIR (a.1.2.1) (a.1.2.2.1) (a.2)) (fun a=>some (IQ (fun _ _=>True) (a.1.2.1) (a.1.2.2.1) (a.2))) (fun a e _=>by kernel_rfl) (fun a=>aKt (a.1.2.1) (a.1.2.2.1) (a.2)) (fun a h=>⟨azK (a.1.2.1) (a.1.2.2.1) (a.2) h,rfl⟩)
def aKK (c:Int->Int->Int->List Raw->List Raw)(QQ:Int->Int->Int->List Raw->Prop)(a:Int)(m:Int)(b:Int)(l:List Raw):Pg (List Raw):=aaJ (fun a=>a) awr (fun _ _=>True) qf c QQ a m b l
def QQ (c:Nat)(a:Int)(m:Int)(b:Int)(l:List Raw):Prop:=ZJ (fun _ _=>True) c a m b l
def apF:Nat->(Int->Int->Int->(List Raw)->(List Raw))
 | 0=>(fun _ _ _ _=>default)
 | c+1=>(fun a m b l=>(aKK ((apF c)) (QQ c) a m b l).val)
def anl (a:Int)(m:Int)(b:Int)(l:List Raw):List Raw:=(apF ((b - a).toNat+1)) a m b l
theorem MP:∀(e:Nat) (a m b:Int) (l:List Raw),QQ e a m b l->(apF e a m b l).Perm l
 | 0,_,_,_,_,h=>IL h
 | e+1,_,_,_,_,h=>(AU (fun _=>rfl) (c:=awr) (SB:=apF e) (ZQ:=QQ e) (d:=qf) (fun _ _ _ _ h=>h) (MP e) h).2
abbrev auE (a:Nat):=aKK ((apF a)) (QQ a)
theorem aCA (c:Nat)(a:Int)(m:Int)(b:Int)(l:List Raw)(h:QQ (c+1) a m b l):Is (auE c a m b l):=
 (AU (fun _=>rfl) (fun _ _ _ _ h=>h) (MP c) h).1
theorem asY:∀c,gZ Z.P Z.S 418 (qj (kN (ak (oD 0) (ak (bC cI) (ak (bC cI) (ak (bC cI) (a1 (lH 426 [])))))) (b1 (lh 295 D.Raw mF))) (shr [.row 0 295] (l1 bU)) 0 [] (fun a=>some (QQ c (a.1.2.1) (a.1.2.2.1) (a.1.2.2.2.1) (a.2))) (fun a=>(apF c) (a.1.2.1) (a.1.2.2.1) (a.1.2.2.2.1) (a.2)))
 | 0=>je func418 eQ (fun a h=>IL h)
 | c+1=>by
  have d:=asY c;exact GU [Wn,aya,aHd,⟨418,_,d⟩] [jS 3 (bI (fun b=>[s0 10, s0 11]) (aB cI (l1 cI))),jS 9 (bI (fun b=>[s0 13, .row (pid (b 0)) 295]) (aB cI (l1 bU))),jS 15 (bI (fun b=>[s0 14, s0 15]) (aB cI (l1 cI))),jS 21 (bI (fun b=>[s0 17, .row (pid (b 0)) 295]) (aB cI (l1 bU))),jS 33 (bI (fun b=>[s0 20, s0 21]) (aB cI (l1 cI))),jS 100008 (bI (fun b=>[s0 10]) (l1 cI)),jS 100012 (bI (fun b=>[.row (pid (b 0)) 295]) (l1 bU)),jS 100020 (bI (fun b=>[s0 14]) (l1 cI)),jS 100024 (bI (fun b=>[.row (pid (b 0)) 295]) (l1 bU)),jS 100032 (bI (fun b=>[s0 20, s0 21]) (aB cI (l1 cI))),jS 100038 (bI (fun b=>[s0 20]) (l1 cI)),jS 100041 (bI (fun b=>[.row (pid (b 0)) 295]) (l1 bU)),jS 100043 (bI (fun b=>[.row (pid (b 0)) 295]) (l1 bU))] func418 ntmps418 (fun a=>auE c a.1.2.1 a.1.2.2.1 a.1.2.2.2.1 a.2) (fun a h=>⟨aCA c a.1.2.1 a.1.2.2.1 a.1.2.2.2.1 a.2 h,rfl⟩) (pz (n:=220) rfl)
def aF_:aZ Z:=⟨418,qj (kN (ak (oD 0) (ak (bC cI) (ak (bC cI) (ak (bC cI) (a1 (lH 426 [])))))) (b1 (lh 295 D.Raw mF))) (shr [.row 0 295] (l1 bU)) 0 [] (fun a=>some (ZJ (fun _ _=>True) (((a.1.2.2.2.1) - (a.1.2.1)).toNat+1) (a.1.2.1) (a.1.2.2.1) (a.1.2.2.2.1) (a.2))) (fun a=>anl (a.1.2.1) (a.1.2.2.1) (a.1.2.2.2.1) (a.2)),kQ (fun n=>((asY n))) _ _ (fun a h=>⟨((a.1.2.2.2.1) - (a.1.2.1)).toNat+1,h,rfl⟩)⟩
def aIv (n:Int)(l:List Raw):Pg (List Raw):=aap (fun a=>a) awr (fun _ _=>True) qf anl n l
def aMg (n:Int)(l:List Raw):=(aIv n l).val
theorem aDx (n:Int)(l:List Raw)(h:stQ (fun _ _=>True) n l):Is (aIv n l):=
 (AC (fun _=>rfl) (SB:=anl) (fun a m b l h=>MP _ a m b l h) h).1
def aIY:aZ Z:=H7 [awc,aIt,axU,aF_,Wn] [jS 2 (bI (fun b=>[s0 7, s0 8, .row (pid (b 0)) 295]) (aB cI (aB cI (l1 bU)))),jS 7 (bI (fun b=>[s0 6, .row (pid (b 0)) 295]) (aB cI (l1 bU))),jS 9 (bI (fun b=>[s0 7, s0 8, .row (pid (b 0)) 295]) (aB cI (aB cI (l1 bU)))),jS 100006 (bI (fun b=>[s0 7, .row (pid (b 0)) 295]) (aB cI (l1 bU))),jS 100013 (bI (fun b=>[s0 7, .row (pid (b 0)) 295]) (aB cI (l1 bU)))] (ak (oD 0) (ak (bC cI) (a1 (lH 426 [])))) (b1 (lh 295 D.Raw mF)) (shr [.row 0 295] (l1 bU)) [] func320 0 (fun a=>aIv a.1.2.1 a.2) (fun a=>stQ (fun _ _=>True) a.1.2.1 a.2) fun a h=>aDx a.1.2.1 a.2 h
def aFQ (l:List Raw):Pg (List Raw):=.ob (stQ (fun(x b:Raw)=>True) (↑l.length:Int) l) (.lt (aMg (↑l.length:Int) l) fun a=> aL a (.ret a))
def aEl (l:List Raw):=(aFQ l).val
theorem aBO (l:List Raw)(h:uq (fun _ _=>True) l):Is (aFQ l):=
 aY ((⟨h,rfl⟩)) (dI fun b a=>gp fun _=>aQ)
def aHc:aZ Z:=H7 [awM,aIY,Wn] [] (ak (oD 0) (a1 (lH 426 []))) (b1 (lh 295 D.Raw mF)) (shr [.row 0 295] (l1 bU)) [] func240 0 (fun a=>aFQ a.2) (fun a=>uq (fun _ _=>True) a.2) fun a h=>aBO a.2 h
theorem ary {l:List Raw}(h:uq (fun _ _=>True) l):(aEl l).Perm l:=
 (AC (fun _=>rfl) (c:=awr) (q:=(fun _ _=>True)) (d:=qf) (SB:=anl) (fun a m b l h=>MP _ a m b l h) ⟨h,rfl⟩).2
def ssC (x:Slot)(y:Slot):Pg Int:=.ret (X4 x.Num y.Num)
def auf (x:Slot)(y:Slot):=(ssC x y).val
def Xx:aZ Z:=E1 [OI] [] (ak (aJ nR) (a1 (aJ nR))) (R1 cI) [] func327 1 (u2 ssC) fun a=>True
def aJP (a:Int)(b:Int)(n:Int)(l:List Slot):Pg (List Slot):=Vx wZ cO a b n l
theorem aC2 (a:Int)(b:Int)(n:Int)(l:List Slot)(h:swQ a b n l.length):Is (aJP a b n l):=
 (PH lZ h).1
def aF2:aZ Z:=H7 [Xx] [jS 1 (bI (fun b=>[s0 10, .row (pid (b 0)) 288]) (aB cI (l1 bT)))] (ak (oD 0) (ak (bC cI) (ak (bC cI) (ak (bC cI) (a1 (lH 327 [])))))) (b1 (lh 288 D.Slot kw)) (shr [.row 0 288] (l1 bT)) [] func486 0 (fun a=>aJP a.1.2.1 a.1.2.2.1 a.1.2.2.2.1 a.2) (fun a=>swQ a.1.2.1 a.1.2.2.1 a.1.2.2.2.1 a.2.length) fun a h=>aC2 a.1.2.1 a.1.2.2.1 a.1.2.2.2.1 a.2 h
def aKI (a:Int)(m:Int)(b:Int)(l:List Slot):Pg (List Slot):=WG wZ cO a m b l
theorem aBt (a:Int)(m:Int)(b:Int)(l:List Slot)(h:roQ a m b l.length):Is (aKI a m b l):=
 (OM lZ h).1
def aIf:aZ Z:=H7 [Xx,ash,aF2] [jS 2 (bI (fun b=>[s0 10, s0 11, .row (pid (b 0)) 288]) (aB cI (aB cI (l1 bT))))] (ak (oD 0) (ak (bC cI) (ak (bC cI) (ak (bC cI) (a1 (lH 327 [])))))) (b1 (lh 288 D.Slot kw)) (shr [.row 0 288] (l1 bT)) [] func477 0 (fun a=>aKI a.1.2.1 a.1.2.2.1 a.1.2.2.2.1 a.2) (fun a=>roQ a.1.2.1 a.1.2.2.1 a.1.2.2.2.1 a.2.length) fun a h=>aBt a.1.2.1 a.1.2.2.1 a.1.2.2.2.1 a.2 h
def aIA (a:Int)(b:Int)(l:List Slot):Pg (List Slot):=Wl wZ auf (fun _ _=>True) cO a b l
def aKV (a:Int)(b:Int)(l:List Slot):=(aIA a b l).val
theorem aBW (a:Int)(b:Int)(l:List Slot)(h:IQ (fun _ _=>True) a b l):Is (aIA a b l):=
 (PZ lZ h).1
def aIa:aZ Z:=vF Z [Xx] [jS 1 (bI (fun b=>[s0 8, .row (pid (b 0)) 288]) (aB cI (l1 bT))),jS 4 (bI (fun b=>[s0 9, .row (pid (b 0)) 288]) (aB cI (l1 bT)))] (kN (ak (oD 0) (ak (bC cI) (ak (bC cI) (a1 (lH 327 []))))) (b1 (lh 288 D.Slot kw))) (pz (n:=53) rfl) (shr [.row 0 288] (l1 bT)) [] func451 ntmps451 eQ 0 rfl (fun a=>aIA (a.1.2.1) (a.1.2.2.1) (a.2)) (fun a=>some (IQ (fun _ _=>True) (a.1.2.1) (a.1.2.2.1) (a.2))) (fun a e _=>by kernel_rfl) (fun a=>aKV (a.1.2.1) (a.1.2.2.1) (a.2)) (fun a h=>⟨aBW (a.1.2.1) (a.1.2.2.1) (a.2) h,rfl⟩)
def aLi (c:Int->Int->Int->List Slot->List Slot)(QV:Int->Int->Int->List Slot->Prop)(a:Int)(m:Int)(b:Int)(l:List Slot):Pg (List Slot):=aaJ wZ auf (fun _ _=>True) cO c QV a m b l
def QV (c:Nat)(a:Int)(m:Int)(b:Int)(l:List Slot):Prop:=ZJ (fun _ _=>True) c a m b l
def aq2:Nat->(Int->Int->Int->(List Slot)->(List Slot))
 | 0=>(fun _ _ _ _=>default)
 | c+1=>(fun a m b l=>(aLi ((aq2 c)) (QV c) a m b l).val)
def amI (a:Int)(m:Int)(b:Int)(l:List Slot):List Slot:=(aq2 ((b - a).toNat+1)) a m b l
theorem KF:∀(e:Nat) (a m b:Int) (l:List Slot),QV e a m b l->(aq2 e a m b l).Perm l
 | 0,_,_,_,_,h=>IL h
 | e+1,_,_,_,_,h=>(AU lZ (c:=auf) (SB:=aq2 e) (ZQ:=QV e) (d:=cO) (fun _ _ _ _ h=>h) (KF e) h).2
abbrev asj (a:Nat):=aLi ((aq2 a)) (QV a)
theorem aDz (c:Nat)(a:Int)(m:Int)(b:Int)(l:List Slot)(h:QV (c+1) a m b l):Is (asj c a m b l):=
 (AU lZ (fun _ _ _ _ h=>h) (KF c) h).1
theorem auc:∀c,gZ Z.P Z.S 452 (qj (kN (ak (oD 0) (ak (bC cI) (ak (bC cI) (ak (bC cI) (a1 (lH 327 [])))))) (b1 (lh 288 D.Slot kw))) (shr [.row 0 288] (l1 bT)) 0 [] (fun a=>some (QV c (a.1.2.1) (a.1.2.2.1) (a.1.2.2.2.1) (a.2))) (fun a=>(aq2 c) (a.1.2.1) (a.1.2.2.1) (a.1.2.2.2.1) (a.2)))
 | 0=>je func452 eQ (fun a h=>IL h)
 | c+1=>by
  have d:=auc c;exact GU [Xx,ay0,aIf,⟨452,_,d⟩] [jS 3 (bI (fun b=>[s0 10, s0 11]) (aB cI (l1 cI))),jS 9 (bI (fun b=>[s0 13, .row (pid (b 0)) 288]) (aB cI (l1 bT))),jS 15 (bI (fun b=>[s0 14, s0 15]) (aB cI (l1 cI))),jS 21 (bI (fun b=>[s0 17, .row (pid (b 0)) 288]) (aB cI (l1 bT))),jS 33 (bI (fun b=>[s0 20, s0 21]) (aB cI (l1 cI))),jS 100008 (bI (fun b=>[s0 10]) (l1 cI)),jS 100012 (bI (fun b=>[.row (pid (b 0)) 288]) (l1 bT)),jS 100020 (bI (fun b=>[s0 14]) (l1 cI)),jS 100024 (bI (fun b=>[.row (pid (b 0)) 288]) (l1 bT)),jS 100032 (bI (fun b=>[s0 20, s0 21]) (aB cI (l1 cI))),jS 100038 (bI (fun b=>[s0 20]) (l1 cI)),jS 100041 (bI (fun b=>[.row (pid (b 0)) 288]) (l1 bT)),jS 100043 (bI (fun b=>[.row (pid (b 0)) 288]) (l1 bT))] func452 ntmps452 (fun a=>asj c a.1.2.1 a.1.2.2.1 a.1.2.2.2.1 a.2) (fun a h=>⟨aDz c a.1.2.1 a.1.2.2.1 a.1.2.2.2.1 a.2 h,rfl⟩) (pz (n:=220) rfl)
def aI1:aZ Z:=⟨452,qj (kN (ak (oD 0) (ak (bC cI) (ak (bC cI) (ak (bC cI) (a1 (lH 327 [])))))) (b1 (lh 288 D.Slot kw))) (shr [.row 0 288] (l1 bT)) 0 [] (fun a=>some (ZJ (fun _ _=>True) (((a.1.2.2.2.1) - (a.1.2.1)).toNat+1) (a.1.2.1) (a.1.2.2.1) (a.1.2.2.2.1) (a.2))) (fun a=>amI (a.1.2.1) (a.1.2.2.1) (a.1.2.2.2.1) (a.2)),kQ (fun n=>((auc n))) _ _ (fun a h=>⟨((a.1.2.2.2.1) - (a.1.2.1)).toNat+1,h,rfl⟩)⟩
def aIU (n:Int)(l:List Slot):Pg (List Slot):=aap wZ auf (fun _ _=>True) cO amI n l
def aLC (n:Int)(l:List Slot):=(aIU n l).val
theorem az5 (n:Int)(l:List Slot)(h:stQ (fun _ _=>True) n l):Is (aIU n l):=
 (AC lZ (SB:=amI) (fun a m b l h=>KF _ a m b l h) h).1
def aGs:aZ Z:=H7 [Xx,ayi,aIa,atJ,aI1] [jS 2 (bI (fun b=>[s0 7, s0 8, .row (pid (b 0)) 288]) (aB cI (aB cI (l1 bT)))),jS 7 (bI (fun b=>[s0 6, .row (pid (b 0)) 288]) (aB cI (l1 bT))),jS 9 (bI (fun b=>[s0 7, s0 8, .row (pid (b 0)) 288]) (aB cI (aB cI (l1 bT)))),jS 100006 (bI (fun b=>[s0 7, .row (pid (b 0)) 288]) (aB cI (l1 bT))),jS 100013 (bI (fun b=>[s0 7, .row (pid (b 0)) 288]) (aB cI (l1 bT)))] (ak (oD 0) (ak (bC cI) (a1 (lH 327 [])))) (b1 (lh 288 D.Slot kw)) (shr [.row 0 288] (l1 bT)) [] func411 0 (fun a=>aIU a.1.2.1 a.2) (fun a=>stQ (fun _ _=>True) a.1.2.1 a.2) fun a h=>az5 a.1.2.1 a.2 h
def aHg (l:List Slot):Pg (List Slot):=.ob (stQ (fun(x b:Slot)=>True) (↑l.length:Int) l) (.lt (aLC (↑l.length:Int) l) fun a=> aL a (.ret a))
def aEi (l:List Slot):=(aHg l).val
theorem aBn (l:List Slot)(h:uq (fun _ _=>True) l):Is (aHg l):=
 aY ((⟨h,rfl⟩)) (dI fun b a=>gp fun _=>aQ)
def aFz:aZ Z:=H7 [Xx,ax9,aGs] [] (ak (oD 0) (a1 (lH 327 []))) (b1 (lh 288 D.Slot kw)) (shr [.row 0 288] (l1 bT)) [] func313 0 (fun a=>aHg a.2) (fun a=>uq (fun _ _=>True) a.2) fun a h=>aBn a.2 h
theorem arx {l:List Slot}(h:uq (fun _ _=>True) l):(aEi l).Perm l:=
 (AC lZ (c:=auf) (q:=(fun _ _=>True)) (d:=cO) (SB:=amI) (fun a m b l h=>KF _ a m b l h) ⟨h,rfl⟩).2
def auJ (a:List Raw)(b:List Raw):Pg (List Raw):=.ob ([a,b].flatten.length<=2097152/\2<=2097152) (.lt (axJ [a,b]) fun c=> .ob (uq (fun(x d:Raw)=>True) c) (.ret (aEl c)))
def as4 (a:List Raw)(b:List Raw):=(auJ a b).val
theorem aaV (a:List Raw)(b:List Raw)(h:a.length+b.length<=1048576):j_ (auJ a b) (fun r=>r.Perm (a++b)):=
 by
 have q:[a,b].flatten.length<=2097152/\(2:Nat)<=2097152:=⟨by simp only[List.flatten_cons,List.flatten_nil,Qc4,um];omega,by decide⟩;have c:axJ [a,b]=a++b:=((aip [a,b] q).2).trans qb;have e:uq (fun(_ _:Raw)=>True) (axJ [a,b]):=by rw[c];exact⟨by rw[um];omega,fun _ _ _ _=>trivial⟩
 refine ai q (az fun f d=> ?_);rw[d];refine ai e (af ?_);have k:=ary e;rw[c]at k;rw[c];exact k
def aDl:aZ Z:=E1 [avK,aHc,aH2,Wn] [] (ak (bC bU) (a1 (bC bU))) (R1 bU) [] func328 1 (u2 auJ) (fun a=>a.1.length+a.2.length<=1048576) fun a h=>(aaV a.1 a.2 h).1
def axI (s:Str)(m:Str):Pg (List UInt8):=.ob (List.length s+1<=9223372036854775807) (.lt (s++[47]) fun(a:List UInt8)=> .ob (a.length+List.length m<=9223372036854775807) (.ret (a++m)))
def adh (s:Str)(m:Str):=(axI s m).val
theorem arf (s:Str)(m:Str)(h:s.length+m.length<=4194304):j_ (axI s m) (fun r=>r.length=s.length+1+m.length):=
 ai au (az fun b a=>ai (by rw[a];simp only[um,yG,CJ];omega) (af (by rw[a,um,um];rfl)))
def aco:aZ Z:=E1 [] [] (ak (bC cStr) (a1 (bC cStr))) (R1 cStr) [] func25 1 (u2 axI) (fun a=>a.1.length+a.2.length<=4194304) fun a h=>(arf a.1 a.2 h).1
def EO (n:Nat)(t:List Trace):Prop:=t.length<=n/\∀x∈t,x.Times.length<=n
theorem amD {n:Nat}{t:List Trace}(h:EO n t):EO (n+1) t:=⟨by have:=h.1;omega,fun x a=>by have:=h.2 x a;omega⟩
theorem ax7 {n:Nat}(c:Str)(d:Int):∀t:List Trace,(∀x∈t,x.Times.length<=n)->(aii c d t).length=t.length/\∀x∈aii c d t,x.Times.length<=n+1
 | [],_=>⟨rfl,fun x b=>by cases b⟩
 | a::t,h=>by
  obtain⟨f,g⟩:=ax7 c d t fun x b=>h x (by simp[b])
  have i:=h a qb;unfold aii;cases UA c a with
  | true=>
   refine⟨rfl,fun x b=> ?_⟩;rcases EC.1 b with e | b
   ·rw[e];simp only[um,Qbw];omega
   ·have:=h x (by simp[b]);omega
  | false=>
   refine⟨by simp only[mX,yG,f],fun x b=> ?_⟩;rcases EC.1 b with e | b
   ·rw[e];omega
   ·exact g x b
theorem aDf {n:Nat}{t:List Trace}{a:Str}{c:Int}(h:EO n t):EO (n+1) (Xe t a c):=by
 obtain⟨f,d⟩:=h;unfold Xe;cases t.any (UA a)with
 | true=>
  obtain⟨j,k⟩:=ax7 a c t d;exact⟨by rw[uu,j];omega,k⟩
 | false=>
  obtain⟨u,v,g,i⟩:=Yd a [c] t;rw[mX,i];rw[g]at f d;refine⟨by simp only[um,yG]at f⊢;omega,fun x b=> ?_⟩;rcases yH.1 b with b | b
  ·have:=d x (by simp[b]);omega
  ·rcases EC.1 b with e | b
   ·rw[e];simp
   ·have:=d x (by simp[b]);omega
theorem az2 {n:Nat}{t:List Trace}{a:Int}(h:EO n t):EO n (afS a t):=by
 obtain⟨d,e⟩:=h;unfold afS;refine⟨yI (Qbv _ _) (by rw[Qb0];exact d),fun x c=> ?_⟩;obtain⟨y,b,rfl⟩:=MN.1 (Qbj.1 c).1;exact yI (Qbv _ _) (e y b)
def abl (a r:Head):Prop:=r.bQ=a.bQ/\r.Method=a.Method/\r.dL.length<=40
theorem ang (x:jA):(Pv.gS (nY.get (sH x) 182 0)).length<=x.Key.length:=by
 unfold sH action;simp only[bf,aI];cases x.Kind==1<;>cases x.Kind==2<;>cases x.Kind==3<;>cases x.Kind==4<;>cases x.Kind==5<;>cases x.Kind==6<;>first | exact nO _ | exact ve _
def stamp (a:Head)(b:Str)(c:Str):Pg (Head×Int):=.ob (List.length b<=9223372036854775700) (.lt (auS b c) fun g=> .br (g !=0) (.ret (a,g)) (.ob (a.dL.length<=1000000) (.cut (fun(f:List nV)=> .br (decide (16 < (↑f.length:Int))) (.ret (a,3)) (.ret (Head.mk a.bQ a.Method a.fK f,0))) (.lt (fM (fun(m:nV)=>m.Key==b) a.dL) fun d=> .br (decide (0<=d)) (.ix d a.dL.length (.ob (d.toNat < a.dL.length) (rl (a.dL.set d.toNat (nV.mk (a.dL.getD d.toNat Aq).Key c))))) (.lt (fM (fun(m:nV)=>gtS m.Key b) a.dL) fun e=> .br (decide (e < 0)) (aL a.dL (.ob (0<=(↑a.dL.length:Int)/\ (↑a.dL.length:Int)<=(↑a.dL.length:Int)/\0 < 1/\bZ (a.dL.length+1) 32) (rl (List.take a.dL.length a.dL++([nV.mk b c]++List.drop a.dL.length (List.take a.dL.length a.dL)))))) (.ob (0<=e/\e<=(↑a.dL.length:Int)/\0 < 1/\bZ (a.dL.length+1) 32) (rl (List.take e.toNat a.dL++([nV.mk b c]++List.drop e.toNat (List.take a.dL.length a.dL))))))))))
def aIF (c:Head)(a:Str)(b:Str):=(stamp c a b).val
theorem aby (b:Head)(a:Str)(c:Str)(h:a.length<=1048576/\b.dL.length<=40):j_ (stamp b a c) (fun r=>abl b r.1):=
 by
 have i:=mO (fun(m:nV)=>m.Key==a) b.dL;have l:=mO (fun(m:nV)=>gtS m.Key a) b.dL;exact ai au (az fun k g=>dM (fun _=>af ⟨rfl,rfl,h.2⟩) (fun _=>ai au (bP (fun _=>True) (az fun j e=>bG (fun _=>aW au au (ai au (af trivial)))
  (fun _=>az fun n f=>bG (fun _=>bW (ai ⟨by omega,by omega,by omega,dm au au⟩ (af trivial))) (fun _=>ai ⟨by omega,by omega,by omega,dm au au⟩ (af trivial)))) (fun d _=>bG (fun _=>af ⟨rfl,rfl,h.2⟩) (fun _=>af ⟨rfl,rfl,by show d.length<=40;omega⟩)))))
def aAR:aZ Z:=E1 [anE,awL,aGx,aFE,avn,auA,aI4] [jS 100012 (bI (fun b=>[.slot 9 false [some 106]]) (l1 uw))] (ak (aJ rE) (ak (bC cStr) (a1 (bC cStr)))) (shr [.slot 0 true (nn 4), s0 1] (aB rE (l1 cI))) [] func103 2 (u3 stamp) (fun a=>a.2.1.length<=1048576/\a.1.dL.length<=40) fun a h=>(aby a.1 a.2.1 a.2.2 h).1
def axp (x:jA)(t:List Trace)(c:Int)(a:Head):Pg (Head×Int):=.lt (sH x) fun b=> .ob (nY.ok b 181 true [Value.string (ByteArray.mk (Array.mk [])),Value.string (ByteArray.mk (Array.mk []))]=true) (.br (nY.is b 181) (.lt (aGM a (Pv.gS (nY.get b 181 0))) fun e=> .br (!e.2) (.ret (a,21)) (.br (e.1 !=Pv.gS (nY.get b 181 1)) (.ret (a,21)) (.ret (a,0)))) (.ob (nY.ok b 188 true [Value.int .i64 0,Value.int .i64 0]=true) (.br (nY.is b 188) (.ob (List.length a.bQ+List.length a.Method<=4194304) (.lt (aAc t (adh a.bQ a.Method) (dA .i64 (c - Pv.gI (nY.get b 188 1)))) fun f=> .lt (Pv.gI (nY.get b 188 0)) fun g=> .br (decide (g<=f)) (.ret (a,22)) (.ret (a,0)))) (.ob (nY.ok b 182 true [Value.string (ByteArray.mk (Array.mk [])),Value.string (ByteArray.mk (Array.mk []))]=true) (.br (nY.is b 182) (.lt (Pv.gS (nY.get b 182 0)) fun d=> .ob (d.length<=1048576/\a.dL.length<=40) (.ret (aIF a d (Pv.gS (nY.get b 182 1))))) (.ob (nY.ok b 190 true [Value.int .i64 0]=true) (.br (nY.is b 190) (.ret (Head.mk a.bQ a.Method (asL a.fK (WR c (Pv.gI (nY.get b 190 0)))) a.dL,0)) (.ret (a,0)))))))))
def ayV (x:jA)(t:List Trace)(a:Int)(b:Head):=(axp x t a b).val
theorem aaT (x:jA)(t:List Trace)(e:Int)(c:Head)(h:x.Key.length<=1048576/\c.dL.length<=40/\c.bQ.length+c.Method.length<=4194304):j_ (axp x t e c) (fun r=>abl c r.1):=
 by
 have a:abl c c:=⟨rfl,rfl,h.2.1⟩;refine az fun g b=>ai (b▸(yQ x).1) (dJ (fun _=>az fun i f=>dJ (fun _=>af a) (fun _=>dJ (fun _=>af a) (fun _=>af a))) (fun _=>ai (b▸(yQ x).2.2.2.1) (dJ (fun _=>ai h.2.2 (az fun j _=>az fun l _=>bG (fun _=>af a) (fun _=>af a)))
  (fun _=>ai (b▸(yQ x).2.1) (dJ (fun _=>az fun k d=>ai ?_ (af ?_)) (fun _=>ai (b▸(yQ x).2.2.2.2.1) (dJ (fun _=>af ⟨rfl,rfl,h.2.1⟩) (fun _=>af a))))))))
 ·exact⟨by rw[d,b];have:=ang x;omega,h.2.1⟩
 ·exact(aby c _ _ ⟨by rw[d,b];have:=ang x;omega,h.2.1⟩).2
def aCe:aZ Z:=E1 [aco,anq,XV,aDc,auB,aAR,arV] [] (ak (aJ yL) (ak (bC jY) (ak (bC cI) (a1 (aJ rE))))) (shr [.slot 0 true (nn 4), s0 1] (aB rE (l1 cI))) [] func54 2 (u4 axp) (fun a=>a.1.Key.length<=1048576/\a.2.2.2.dL.length<=40/\a.2.2.2.bQ.length+a.2.2.2.Method.length<=4194304) fun a h=>(aaT a.1 a.2.1 a.2.2.1 a.2.2.2 h).1
def before (l:List jA)(t:List Trace)(c:Int)(b:Head):Pg (Head×List Trace×Status):=.cut (fun(d:Int×Head)=> .cut (fun(h:Unit)=> .br (decide (0 < d.1)) (.ob (List.length b.bQ+List.length b.Method<=4194304) (.ob (okT t) (.ret (d.2,afS (dA .i64 (c - d.1)) (Xe t (adh b.bQ b.Method) c),Status.mk 0 [])))) (.ret (d.2,t,Status.mk 0 []))) (.br (decide (1<=d.2.fK)) (.br (decide (d.2.fK<=c)) (.ret (.inr (b,t,WW 23))) (rl ())) (rl ()))) (aL l (.each false oZ l uQ (fun g f (a:Int×Head)=> .ix g l.length (.ob (List.length f.Key<=1048576/\a.2.dL.length<=40/\List.length a.2.bQ+List.length a.2.Method<=4194304) (.lt (ayV f t c a.2) fun e=> .br (e.2 !=0) (.ret (.inr (.inr (b,t,WW e.2)))) (.br (f.Kind==3) (rl (max a.1 f.mg,e.1)) (rl (a.1,e.1)))))) (fun g (a:Int×Head)=> rl a) (0,b)))
def aDa (l:List jA)(t:List Trace)(a:Int)(b:Head):=(before l t a b).val
theorem YK (l:List jA)(t:List Trace)(e:Int)(a:Head)(h:okT t/\Iw l/\l.length<=100/\a.dL.length<=40/\a.bQ.length+a.Method.length<=4194304):j_ (before l t e a) (fun r=>r.1.dL.length<=40/\∀n,EO n t->EO (n+1) r.2.1):=
 by
 obtain⟨A,w,E,p,s⟩:=h;have f:∀x:Status,a.dL.length<=40/\∀n,EO n t->EO (n+1) t:=fun _=>⟨p,fun n c=>amD c⟩
 refine bP (fun(y:Int×Head)=>abl a y.2) (bW (dh (fun _ (y:Int×Head)=>abl a y.2) ⟨rfl,rfl,p⟩ au (fun k y u j=> ?_) (fun y j=>af j))) (fun C i=>bP (fun _=>True) (bG (fun _=>bG (fun _=>af (f (WW 23))) (fun _=>af trivial)) (fun _=>af trivial)) (fun D _=>bG (fun _=>ai s (ai A (af ⟨i.2.2,fun n c=>az2 (aDf c)⟩))) (fun _=>af ⟨i.2.2,fun n c=>amD c⟩)));have B:=w _ (getD_mem (d:=uQ) u);obtain⟨q,m,z⟩:=j;have o:(l.getD k uQ).Key.length<=1048576/\y.2.dL.length<=40/\y.2.bQ.length+y.2.Method.length<=4194304:=⟨B,z,by rw[q,m];exact s⟩;have b:=(aaT (l.getD k uQ) t e y.2 o).2;have b:abl a (ayV (l.getD k uQ) t e y.2).1:=⟨b.1.trans q,b.2.1.trans m,b.2.2⟩;exact aW au au (ai o (az fun v g=>dM (fun _=>af (f (WW v.2))) (fun _=>dJ (fun _=>af (by rw[g];exact b)) (fun _=>af (by rw[g];exact b)))))
def avC:aZ Z:=E1 [aco,akE,aCe,aqk] [jS 3 (bI (fun b=>[s0 20, s0 12, .cells (pid (b 11)) (nn 4)]) (aB cI (aB cI (l1 rE)))),jS 100012 (bI (fun b=>[s0 12, .cells (pid (b 11)) (nn 4)]) (aB cI (l1 rE))),jS 100014 (bI (fun b=>[]) l0)] (ak (bC rC) (ak (bC jY) (ak (bC cI) (a1 (aJ rE))))) (shr [.slot 0 true (nn 4), s0 1, .slot 2 true [none,none]] (aB rE (aB jY (l1 jZ)))) [] func28 3 (u4 before) (fun a=>okT a.2.1/\Iw a.1/\a.1.length<=100/\a.2.2.2.dL.length<=40/\a.2.2.2.bQ.length+a.2.2.2.Method.length<=4194304) fun a h=>(YK a.1 a.2.1 a.2.2.1 a.2.2.2 h).1
theorem PQ {s:Server}{p:Str}(h:∀x∈s.Handlers,x.Method.length<=1048576):(kD s p).1.Method.length<=1048576/\((kD s p).2=true->p.length<=1048576):=by
 have k:VP (vS s p) (fun r=>r.1.Method.length<=1048576/\(r.2=true->p.length<=1048576)):=by
  unfold vS;refine qK (lF (fun _ _=>True) trivial (fun k y b _=>oP (fD (fun e=>a_ ?_) fun _=>a_ trivial)) fun y _=>a_ ⟨ve _,fun e=>by cases e⟩);have a:=h _ (getD_mem (d:=lm) b);exact⟨a,fun _=>by rw[<-eq_of_beq e];exact a⟩
 exact k
def aJ_ (s:Server)(c i:Int)(r:Server×Status):Prop:=
 (r.2.Code≠0/\r.1=s)\/(r.2.Code=0/\jP s c i < 0/\s.nX=false/\(s.Tasks.length:Int) < s.Most/\∃a t,(∀n,EO n s.Traces->EO (n+1) a)/\(t.qy=c/\t.Id=i/\t.In=[]/\t.Ready= -1/\t.oC=false/\t.fQ=[]/\t.Method.length<=1048576/\(kD s t.Method).2=true/\t.dL.length<=40)/\r.1=Server.mk s.Name s.ay s.Handlers s.iO a (s.Tasks++[t]) s.Most s.nX)
noncomputable def Gp (s:Server)(e:Int)(c:Int)(id:Int)(a:Head)(shape:Int):Pg (Server×Status):=.ob (List.length a.bQ+List.length a.Method<=4194304) (.lt (kD s (adh a.bQ a.Method)) fun d=> .ob (List.length d.1.Method<=1048576) (.cut (fun(g:Unit)=> .ob (okT s.Traces/\Iw s.iO/\s.iO.length<=100/\a.dL.length<=40/\List.length a.bQ+List.length a.Method<=4194304) (.lt (aDa s.iO s.Traces e a) fun b=> .br (b.2.2.Code !=0) (.ret (s,b.2.2)) (aL s.Tasks (.ob (0<=(↑s.Tasks.length:Int)/\(↑s.Tasks.length:Int)=(↑s.Tasks.length:Int)/\(↑s.Tasks.length:Int)<=(↑s.Tasks.length:Int)) (.ob (bZ (0+b.1.dL.length) 32) (.ob (0 < 1/\bZ ((List.take s.Tasks.length s.Tasks).length+1) 152) (.ret (Server.mk s.Name s.ay s.Handlers s.iO b.2.1 (List.take s.Tasks.length s.Tasks++ [gG.mk c id (adh a.bQ a.Method) b.1.dL b.1.fK [] (-1) [] (Status.mk 0 []) false]) s.Most s.nX, Status.mk 0 [])))))))) (.lt (jP s c id) fun f=> .br (decide (0<=f)) (.ret (.inr (s,Status.mk 11 []))) (.br s.nX (.ret (.inr (s,Status.mk 12 []))) (.br (!d.2) (.ret (.inr (s,Status.mk 10 []))) (.br ((gX s.ay d.1.Method).1.Shape !=shape) (.ret (.inr (s,Status.mk 10 []))) (aL s.Tasks (.br (decide (s.Most<=(↑s.Tasks.length:Int))) (.ret (.inr (s,Status.mk 7 []))) (rl ())))))))))
noncomputable def KH (s:Server)(b:Int)(a:Int)(id:Int)(c:Head)(shape:Int):Server×Status:=(Gp s b a id c shape).val
theorem QW (s:Server)(e:Int)(b:Int)(id:Int)(a:Head)(shape:Int)(h:yw s/\(∀x∈s.Handlers,x.Method.length<=1048576)/\Iw s.iO/\s.iO.length<=100/\okT s.Traces/\a.dL.length<=40/\a.bQ.length+a.Method.length<=4194304):j_ (Gp s e b id a shape) (fun r=>aJ_ s b id r):=
 by
 obtain⟨⟨a1,a2,E,G⟩,b1,u,w,v,z,n⟩:=h;refine ai n (az fun A c=>ai (by rw[c];exact(PQ b1).1) (bP (fun _=>A.2=true/\jP s b id < 0/\s.nX=false/\(s.Tasks.length:Int) < s.Most) (az fun F m=>bG (fun _=>af (.inl ⟨by simp,rfl⟩)) (fun H=>dJ (fun _=>af (.inl ⟨by simp,rfl⟩)) (fun j=>dJ (fun _=>af (.inl ⟨by simp,rfl⟩)) (fun p=>dM (fun _=>af (.inl ⟨by simp,rfl⟩)) (fun _=>bW (bG (fun _=>af (.inl ⟨by simp,rfl⟩)) (fun C=>af ⟨by simpa using p,by rw[<-m];omega,j,by omega⟩))))))) (fun I i=> ?_)));obtain⟨d,B,y,t⟩:=i;have q:okT s.Traces/\Iw s.iO/\s.iO.length<=100/\a.dL.length<=40/\a.bQ.length+a.Method.length<=4194304:=⟨v,u,w,z,n⟩;have l:=(YK s.iO s.Traces e a q).2;refine ai q (az fun g f=>dM (fun k=>af (.inl ⟨k,rfl⟩)) fun D=> ?_);have o:g.1.dL.length<=40:=by rw[f];exact l.1
 refine bW (ai ⟨by omega,rfl,MS _⟩ (ai (dm au au) (ai ⟨by decide,dm (by rw[Kr];omega) (by rw[Kr];omega)⟩ (af (.inr ⟨rfl,B,y,t,g.2.1,_,by rw[f];exact l.2,⟨rfl,rfl,rfl,rfl,rfl,rfl,?_,?_,o⟩,by rw[Kr]⟩)))))
 ·rw[c]at d;exact(PQ b1).2 d
 ·rw[c]at d;exact d
theorem ai4 (s:Server)(c:Int)(a:Int)(id:Int)(b:Head)(shape:Int)(h:yw s/\(∀x∈s.Handlers,x.Method.length<=1048576)/\Iw s.iO/\s.iO.length<=100/\okT s.Traces/\b.dL.length<=40/\b.bQ.length+b.Method.length<=4194304):Is (Gp s c a id b shape):=(QW s c a id b shape h).1
noncomputable def aa5:aZ Z:=E1 [v_,aco,FC,P_,avC] [jS 100012 (bI (fun b=>[]) l0)] (ak (aJ iC) (ak (bC cI) (ak (bC cI) (ak (bC cI) (ak (aJ rE) (a1 (bC cI))))))) (shr [.slot 0 true (nn 10), .slot 1 true [none,none]] (aB iC (l1 jZ))) [] func10 2 (fun a=>Gp a.1 a.2.1 a.2.2.1 a.2.2.2.1 a.2.2.2.2.1 a.2.2.2.2.2) (fun a=>yw a.1/\(∀x∈a.1.Handlers,x.Method.length<=1048576)/\Iw a.1.iO/\a.1.iO.length<=100/\okT a.1.Traces/\a.2.2.2.2.1.dL.length<=40/\a.2.2.2.2.1.bQ.length+a.2.2.2.2.1.Method.length<=4194304) fun a h=>ai4 a.1 a.2.1 a.2.2.1 a.2.2.2.1 a.2.2.2.2.1 a.2.2.2.2.2 h
theorem aFS {s:ay}{a:Str}(h:okS s):(GL s a).1.Fields.length<=1048576:=by
 have k:VP (fsM s.Messages a) (fun r=>r.1.Fields.length<=1048576):=by
  unfold fsM;exact qK (lF (fun _ _=>True) trivial (fun k y b _=>oP (fD (fun _=>a_ (h.2.2.2.1 _ (getD_mem (d:=dP) b)).1) fun _=>a_ trivial)) fun y _=>a_ (ve _))
 exact k
theorem arp (l:List Slot)(n:Int):W9 l n < l.length:=by
 unfold W9 ads;rw[aI];exact(mO _ _).1
theorem ags {A:Type}{f:A->Nat}{d r:A}:∀{l:List A} {i:Nat},i < l.length->kG f (l.set i r)+f (l.getD i d)=kG f l+f r
 | a::l,0,_=>by
  show f r+kG f l+f a=f a+kG f l+f r
  omega
 | a::l,i+1,b=>by
  have:=ags (f:=f) (d:=d) (r:=r) (l:=l) (i:=i) (by simpa using b);show f a+kG f (l.set i r)+f (l.getD i d)=f a+kG f l+f r
  omega
theorem aJR {a b:List ah}(h:a.length+b.length<=2097152):([a,b].flatten.length<=2097152/\(2:Nat)<=2097152)/\aER [a,b]=a++b:=by
 have q:[a,b].flatten.length<=2097152/\(2:Nat)<=2097152:=⟨by simp only[List.flatten_cons,List.flatten_nil,Qc4,um];omega,by decide⟩;exact⟨q,((afo [a,b] q).2).trans qb⟩
theorem aL5 {a b:List Pair}(h:a.length+b.length<=2097152):([a,b].flatten.length<=2097152/\(2:Nat)<=2097152)/\aE1 [a,b]=a++b:=by
 have q:[a,b].flatten.length<=2097152/\(2:Nat)<=2097152:=⟨by simp only[List.flatten_cons,List.flatten_nil,Qc4,um];omega,by decide⟩;exact⟨q,((agJ [a,b] q).2).trans qb⟩
theorem auV (k b:Int)(t:Str)(l:List ah)(p:List Pair)(a:List Slot)(r:List Raw):tV (ah.mk k b t l p a r)=1+t.length+tVs l+ZY p+tSs a+Vq r:=iZ _
theorem ay6 {A:Type}{P:A->Prop}{r:A}{l:List A}{i:Nat}(h:∀x∈l,P x)(c:P r):∀x∈l.set i r,P x:=fun x b=>by
 rcases Qcs b with a | rfl
 ·exact h x a
 ·exact c
theorem an9:m_ 0:=⟨by decide,by decide⟩
theorem aHy {y:List Slot}{i:Nat}{n:Int}{r:ah}{B:Nat}(a:i < y.length)(b:tV r<=tV (y.getD i cO).Val+B):kG tS (y.set i (Slot.mk n r))<=kG tS y+B:=by
 have e:=ags (f:=tS) (d:=cO) (r:=Slot.mk n r) a;rw[zD,zD]at e;have e:kG tS (y.set i (Slot.mk n r))+(1+tV (y.getD i cO).Val)=kG tS y+(1+tV r):=e;omega
def aw6 (e:ay->aK->ah->ah->ah)(yC:ay->aK->ah->ah->Prop)(d:ay->Str->ah->ah->ah)(uy:ay->Str->ah->ah->Prop)(s:ay)(f:aK)(a:ah)(b:ah):Pg ah:=.br (f.Card==4) (.ob ([a.List,b.List].flatten.length<=2097152/\2<=2097152) (.ret (ah.mk 11 0 [] (aER [a.List,b.List]) [] [] []))) (.br (f.Card==5) (.ob ([a.Pairs,b.Pairs].flatten.length<=2097152/\2<=2097152) (.lt (aE1 [a.Pairs,b.Pairs]) fun c=> .ob (pJ c) (.ret (ah.mk 12 0 [] [] (pg c) [] [])))) (.br (f.dH.Kind==10) (.ob (uy s f.dH.Name a.re b.re) (.ret (d s f.dH.Name a.re b.re).re)) (.ret b.re)))
def akn (j:ay->aK->ah->ah->ah)(yC:ay->aK->ah->ah->Prop)(l:ay->Str->ah->ah->ah)(uy:ay->Str->ah->ah->Prop)(s:ay)(h:Str)(a:ah)(b:ah):Pg ah:=.ob ((↑a.Slots.length:Int)=(↑a.Slots.length:Int)/\ 0<=(↑a.Slots.length:Int)/\(↑a.Slots.length:Int)*(136:Int)<=281474976710656/\(↑a.Slots.length:Int)<=1099511627776) (aL a.Slots (.lt (List.take (min a.Slots.length (List.replicate a.Slots.length (Slot.mk 0 (ah.mk 0 0 [] [] [] [] []))).length) a.Slots++ List.drop (min a.Slots.length (List.replicate a.Slots.length (Slot.mk 0 (ah.mk 0 0 [] [] [] [] []))).length) (List.take (List.replicate a.Slots.length (Slot.mk 0 (ah.mk 0 0 [] [] [] [] []))).length (List.replicate a.Slots.length (Slot.mk 0 (ah.mk 0 0 [] [] [] [] []))))) fun k=> .lt (GL s h) fun g=> .ob (g.1.Fields.length<=1048576/\k.length<=1048576) (aL b.Slots (.each false oZ b.Slots cO (fun i f (d:List Slot)=> .ix i b.Slots.length (.lt (W9 d f.Num) fun e=> .br (decide (0<=e)) (.ix e d.length (.ob (e.toNat < d.length) (.lt (UT g.1 f.Num) fun c=> .ob (yC s (aK.mk c.1.Num c.1.Name c.1.Card c.1.Key c.1.dH c.1.Union c.1.dD c.1.Default.re c.1.Notes) (d.getD e.toNat cO).Val.re f.Val.re) (.ix e d.length (.ob (e.toNat < d.length) (rl (d.set e.toNat (Slot.mk (d.getD e.toNat cO).Num (j s (aK.mk c.1.Num c.1.Name c.1.Card c.1.Key c.1.dH c.1.Union c.1.dD c.1.Default.re c.1.Notes) (d.getD e.toNat cO).Val.re f.Val.re).re)))))))) (.ob (bZ (d.length+1) 136) (rl (d++[Slot.mk f.Num f.Val.re]))))) (fun i (d:List Slot)=> .ob (uq (fun(x m:Slot)=>True) d) (.ob (a.bM.length+b.bM.length<=1048576) (.ret (ah.mk 10 0 [] [] [] (aEi d) (as4 a.bM b.bM))))) (List.filter (fun(x:Slot)=> !OU x g.1 b.re) k)))))
def yC (c:Nat)(s:ay)(f:aK)(a:ah)(b:ah):Prop:=okS s/\(kV a/\kV b/\tV a+tV b<=1048576)/\2*tV b+1<=c
def uy (c:Nat)(s:ay)(d:Str)(a:ah)(b:ah):Prop:=okS s/\(kV a/\kV b/\tV a+tV b<=1048576)/\2*tV b<=c
def mmV:Nat->(ay->aK->ah->ah->ah)×(ay->Str->ah->ah->ah)
 | 0=>(fun _ _ _ _=>default,fun _ _ _ _=>default)
 | c+1=>(fun s f a b=>(aw6 ((mmV c).1) (yC c) ((mmV c).2) (uy c) s f a b).val,fun s d a b=>(akn ((mmV c).1) (yC c) ((mmV c).2) (uy c) s d a b).val)
def adc (s:ay)(c:Str)(a:ah)(b:ah):ah:=(mmV (2*tV b)).2 s c a b
def aja (d:Nat):Prop:=(∀(s:ay) (f:aK) (a:ah) (b:ah),yC d s f a b->(fun r=>kV r/\tV r<=tV a+tV b) ((mmV d).1 s f a b))/\(∀(s:ay) (c:Str) (a:ah) (b:ah),uy d s c a b->(fun r=>kV r/\tV r<=tV a+tV b) ((mmV d).2 s c a b))
abbrev Uj (a:Nat):=aw6 ((mmV a).1) (yC a) ((mmV a).2) (uy a)
theorem abD (g:Nat)(v:aja g)(s:ay)(f:aK)(a:ah)(b:ah)(h:yC (g+1) s f a b):j_ (Uj g s f a b) (fun r=>kV r/\tV r<=tV a+tV b):=
 by
 obtain⟨o,⟨j,d,m⟩,E⟩:=h;have F:=iZ a;have y:=iZ b;have l1:=KP a.List;have A:=KP b.List;have z:=G8 a.Pairs;have w:=G8 b.Pairs;obtain⟨a1,a2,p,C⟩:=(iV a).1 j;obtain⟨b1,t,u,B⟩:=(iV b).1 d;unfold Uj aw6;simp only[ah.dR];refine dK (fun _=> ?_) (fun _=>dK (fun _=> ?_) (fun _=>dK (fun _=>ai ⟨o,⟨j,d,m⟩,by omega⟩ (af (v.2 _ _ _ _ ⟨o,⟨j,d,m⟩,by omega⟩))) (fun _=>af ⟨d,by omega⟩)))
 ·obtain⟨q,e⟩:=aJR (a:=a.List) (b:=b.List) au;refine ai q (af ?_);rw[e];refine⟨(iV _).2 ⟨⟨an9,fun r l=>by cases l⟩,qJ a2 t,fun x hx=>qcw,fun x hx=>qcw⟩,?_⟩;rw[auV,vI,pI,<-vI,<-vI];show 1+0+(tVs a.List+tVs b.List)+0+0+0<=_
  omega
 ·obtain⟨q,e⟩:=aL5 (a:=a.Pairs) (b:=b.Pairs) au;have c:=qJ p u;have i:pJ (a.Pairs++b.Pairs):=⟨by rw[um];omega,fun x hx=>(c x hx).1.1⟩;refine ai q (az fun D n=> ?_);rw[n,e];refine ai i (af ⟨(iV _).2 ⟨⟨an9,fun r l=>by cases l⟩,fun x hx=>qcw,fun x hx=>c x (Jz i hx),fun x hx=>qcw⟩,?_⟩);have k:=WL i;rw[pI,<-xg,<-xg,<-xg]at k;rw[auV];show 1+0+0+ZY (pg (a.Pairs++b.Pairs))+0+0<=_
  omega
abbrev Ns (a:Nat):=akn ((mmV a).1) (yC a) ((mmV a).2) (uy a)
theorem Vt (o:Nat)(R:aja o)(s:ay)(m:Str)(a:ah)(b:ah)(h:uy (o+1) s m a b):j_ (Ns o s m a b) (fun r=>kV r/\tV r<=tV a+tV b):=
 by
 obtain⟨F,⟨S,P,Y⟩,h2⟩:=h;have ea:=iZ a;have Z:=iZ b;have l1:=U2 a.Slots;have l2:=U2 b.Slots;have l3:=LH a.bM;have X:=LH b.bM;have s1:=xe a.Slots;have W:=xe b.Slots;obtain⟨a1,a2,a3,O⟩:=(iV a).1 S;obtain⟨b1,b2,b3,N⟩:=(iV b).1 P;unfold Ns akn;simp only[ah.dR];refine ai ⟨trivial,by omega,by omega,by omega⟩ (bW (az fun I D=>az fun B E=> ?_));have M:I=a.Slots:=by
  rw[D];simp
 rw[M];have J:B.1.Fields.length<=1048576:=by rw[E];exact aFS F
 have f:(List.filter (fun(x:Slot)=> !OU x B.1 b) a.Slots).Sublist a.Slots:=List.filter_sublist;refine ai ⟨J,by omega⟩ (bW (dh (fun k (y:List Slot)=>y.length<=a.Slots.length+k/\(∀x∈y,kV x.Val)/\kG tS y<=kG tS a.Slots+kG tS (b.Slots.take k)) ⟨f.length_le,fun x hx=>O x (f.subset hx),wu f⟩ au (fun k y u t=> ?_) (fun y t=> ?_)))
 ·obtain⟨Q,n,A⟩:=t;have e:kG tS (b.Slots.take (k+1))=kG tS (b.Slots.take k)+tS (b.Slots.getD k cO):=qZ u;have U:kG tS (b.Slots.take (k+1))<=kG tS b.Slots:=wu (Qd _ _);have e2:=zD (b.Slots.getD k cO);have q:=N _ (getD_mem (d:=cO) u);refine aW au au (az fun j w=>bG (fun H=> ?_) (fun H=>ai (dm au au) (af ⟨by simp only[um,yG,CJ];omega,qJ n (lD q),?_⟩)))
  ·have C:=arp y (b.Slots.getD k cO).Num;rw[<-w]at C;have v:=getD_mem (d:=cO) (l:=y) (i:=j.toNat) au;have L:=n _ v;have ty:tS (y.getD j.toNat cO)<=kG tS y:=GN v;have e3:=zD (y.getD j.toNat cO);have g:okS s/\(kV (y.getD j.toNat cO).Val/\kV (b.Slots.getD k cO).Val/\tV (y.getD j.toNat cO).Val+tV (b.Slots.getD k cO).Val<=1048576)/\2*tV (b.Slots.getD k cO).Val+1<=o:=⟨F,⟨L,q,by omega⟩,by omega⟩;refine aW au au (ai au (az fun c V=>ai g (aW au au (ai au (af ?_)))));obtain⟨T,K⟩:=R.1 s (aK.mk c.1.Num c.1.Name c.1.Card c.1.Key c.1.dH c.1.Union c.1.dD c.1.Default c.1.Notes) _ _ g;exact⟨by rw[Qbo];omega,ay6 n T,yI (aHy au K) au⟩
  ·rw[pI];show kG tS y+(tS (Slot.mk (b.Slots.getD k cO).Num (b.Slots.getD k cO).Val)+0)<=_
   rw[zD];show kG tS y+(1+tV (b.Slots.getD k cO).Val+0)<=_
   omega
 ·obtain⟨Q,n,A⟩:=t;rw[Kr]at A;have g:uq (fun(_ _:Slot)=>True) y:=⟨by omega,fun _ _ _ _=>trivial⟩;have p:a.bM.length+b.bM.length<=1048576:=by omega
  refine ai g (ai p (af ?_));have G:=(arx g).symm;have z:(as4 a.bM b.bM).Perm (a.bM++b.bM):=(aaV a.bM b.bM p).2;refine⟨(iV _).2 ⟨⟨an9,fun r p=> ?_⟩,fun x hx=>qcw,fun x hx=>qcw,fun x hx=>n x (G.mem_iff.2 hx)⟩,?_⟩
  ·rcases yH.1 (z.mem_iff.1 p)with e | e
   ·exact a1.2 r e
   ·exact b1.2 r e
  ·rw[auV,xe,<-Fq G,FD,Fq z,pI,<-FD,<-FD];show 1+0+0+0+kG tS y+(Vq a.bM+Vq b.bM)<=_
   omega
theorem MM:∀c,aja c
 | 0=>⟨fun s f a b h=>False.elim (by have k:=h.2.2;omega),
  fun s d a b h=>False.elim (by have k:=h.2.2;have:=nI b;omega)⟩
 | c+1=>⟨fun s f a b h=>(abD c (MM c) s f a b h).2,
  fun s d a b h=>(Vt c (MM c) s d a b h).2⟩
theorem atU (c:Nat)(s:ay)(f:aK)(a:ah)(b:ah)(h:yC (c+1) s f a b):Is (Uj c s f a b):=(abD c (MM c) s f a b h).1
theorem apy (d:Nat)(s:ay)(c:Str)(a:ah)(b:ah)(h:uy (d+1) s c a b):Is (Ns d s c a b):=(Vt d (MM d) s c a b h).1
theorem adN (s:ay)(c:Str)(a:ah)(b:ah)(h:okS s/\(kV a/\kV b/\tV a+tV b<=1048576)):(fun r=>kV r/\tV r<=tV a+tV b) (adc s c a b):=(MM (2*tV b)).2 s c a b (⟨h.1,h.2,nO _⟩)
theorem aEh:∀b,gZ Z.P Z.S 326 (qj (args (ak (aJ bH) (ak (aJ eG) (ak (aJ aP) (a1 (aJ aP)))))) (shr [.slot 0 true (nn 7)] (l1 aP)) 1 [] (fun a=>some (yC b (a.1) (a.2.1) (a.2.2.1) (a.2.2.2))) (fun a=>(mmV b).1 (a.1) (a.2.1) (a.2.2.1) (a.2.2.2)))/\gZ Z.P Z.S 243 (qj (args (ak (aJ bH) (ak (bC cStr) (ak (aJ aP) (a1 (aJ aP)))))) (shr [.slot 0 true (nn 7)] (l1 aP)) 1 [] (fun a=>some (uy b (a.1) (a.2.1) (a.2.2.1) (a.2.2.2))) (fun a=>(mmV b).2 (a.1) (a.2.1) (a.2.2.1) (a.2.2.2)))
 | 0=>⟨je func326 eQ (fun a h=>by have k:=h.2.2;omega),
  je func243 eQ (fun a h=>by have k:=h.2.2;have:=nI (a.2.2.2);omega)⟩
 | b+1=>by
  obtain⟨c,d⟩:=aEh b;exact⟨GU [Vy,aHB,aHE,⟨326,_,c⟩,⟨243,_,d⟩] [] func326 ntmps326 (fun a=>Uj b a.1 a.2.1 a.2.2.1 a.2.2.2) (fun a h=>⟨atU b a.1 a.2.1 a.2.2.1 a.2.2.2 h,rfl⟩) (lJ (n:=45) rfl),
   GU [JU,LK,ax1,aFz,aJM,auu,ar2,Xx,aDl,⟨326,_,c⟩,⟨243,_,d⟩] [jS 6 (bI (fun f=>[s0 37, .slot 11 false [some 288]]) (aB cI (l1 bT)))] func243 ntmps243 (fun a=>Ns b a.1 a.2.1 a.2.2.1 a.2.2.2) (fun a h=>⟨apy b a.1 a.2.1 a.2.2.1 a.2.2.2 h,rfl⟩) (lJ (n:=82) rfl)⟩
def aul:aZ Z:=⟨243,qj (args (ak (aJ bH) (ak (bC cStr) (ak (aJ aP) (a1 (aJ aP)))))) (shr [.slot 0 true (nn 7)] (l1 aP)) 1 [] (fun a=>some (okS (a.1)/\(kV (a.2.2.1)/\kV (a.2.2.2)/\tV (a.2.2.1)+tV (a.2.2.2)<=1048576))) (fun a=>adc (a.1) (a.2.1) (a.2.2.1) (a.2.2.2)),kQ (fun n=>((aEh n).2)) _ _ (fun a h=>⟨2*tV (a.2.2.2),⟨h.1,h.2,nO _⟩,rfl⟩)⟩
def aBg (s:ay)(d:Str)(l:List ah):Pg ah:=aL l (.each false oZ l gQ (fun c (b a:ah)=> .ix c l.length (.br (c==0) (rl b.re) (.ob (okS s/\kV a.re/\kV b.re/\tV a.re+tV b.re<=1048576) (rl (adc s d a.re b.re).re)))) (fun c (a:ah)=> .ret a.re) (ah.mk 10 0 [] [] [] [] []))
def aKe (s:ay)(a:Str)(l:List ah):=(aBg s a l).val
theorem Yf (s:ay)(b:Str)(l:List ah)(h:okS s/\(∀v∈l,kV v)/\kG (fun v=>1+tV v) l<=1048576):j_ (aBg s b l) (fun r=>kV r/\tV r<=1048576):=
 by
 obtain⟨o,m,n⟩:=h;have u:l.length<=1048576:=yI (zO fun x=>by omega) n;unfold aBg;simp only[ah.dR];refine bW (dh (fun k (y:ah)=>kV y/\tV y<=1+kG (fun v=>1+tV v) (l.take k)/\(0 < k->tV y+1<=1+kG (fun v=>1+tV v) (l.take k))) ⟨(lC 10 0 [] ⟨by decide,by decide⟩).1,by rw[(lC 10 0 [] ⟨by decide,by decide⟩).2];exact Qd2 (ve _) 1,fun e=>absurd e mi⟩ au (fun k y i a=> ?_) (fun y a=>af ⟨a.1,?_⟩))
 ·have e:=qZ (f:=fun v=>1+tV v) (d:=gQ) i;have e:kG (fun v=>1+tV v) (l.take (k+1))=kG (fun v=>1+tV v) (l.take k)+(1+tV (l.getD k gQ)):=e;have q:kG (fun v=>1+tV v) (l.take (k+1))<=kG (fun v=>1+tV v) l:=wu (Qd _ l);have c:=m _ (getD_mem (d:=gQ) i);refine aW au au (dK (fun g=>af ⟨c,by omega,fun _=>by omega⟩) (fun g=> ?_));have j:okS s/\(kV y/\kV (l.getD k gQ)/\tV y+tV (l.getD k gQ)<=1048576):=⟨o,a.1,c,by have:=a.2.2 au;omega⟩;obtain⟨p,t⟩:=adN s b y (l.getD k gQ) j;exact ai j (af ⟨p,by have:=a.2.1;omega,fun _=>by have:=a.2.2 au;omega⟩)
 ·rw[Kr]at a;by_cases g:l.length=0
  ·have:l=[]:=List.length_eq_zero_iff.1 g;subst this;have:=a.2.1;simp only[kG]at this;omega
  ·have:=a.2.2 au;omega
def aGm:aZ Z:=E1 [aul] [jS 3 (bI (fun b=>[s0 13, .cells (pid (b 7)) (nn 7)]) (aB cI (l1 aP)))] (ak (aJ bH) (ak (bC cStr) (a1 (bC jO)))) (shr [.slot 0 true (nn 7)] (l1 aP)) [] func167 1 (u3 aBg) (fun a=>okS a.1/\(∀v∈a.2.2,kV v)/\kG (fun v=>1+tV v) a.2.2<=1048576) fun a h=>(Yf a.1 a.2.1 a.2.2 h).1
end
end Go.Proofs.YtgdmjfkdbfafjaaGreatDoor
