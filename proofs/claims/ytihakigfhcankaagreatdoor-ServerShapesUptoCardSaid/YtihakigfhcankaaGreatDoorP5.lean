/- Codecs: plan.Fits. -/
import Derived.Test.YtihakigfhcankaaGreatDoorP4
import Derived.WalkKit
import Derived.WalkSpells
import Derived.Lib.Overlaps
import Derived.Lib.AppendZeros
import Derived.Laws.Externs
import Derived.Shelf.RegionOpenPlain
import Derived.Lib.Walk
import Derived.Shelf.Spec.SlicesInsert
namespace Go.Proofs.YtihakigfhcankaaGreatDoor
noncomputable section
open Go.RowKit Go.Vc
open Tryz
set_option linter.unusedVariables false
set_option linter.unusedSimpArgs false
set_option maxRecDepth 100000
def arn (BV:aB->Op->af->Int->Int)(nI:aB->Op->af->Int->Prop)(Ag:aB->Op->List Pair->Int->Int)(jC:aB->Op->List Pair->Int->Prop)(KX:aB->Op->af->Int->Int)(lT:aB->Op->af->Int->Prop)(ND:aB->bu->List Slot->Int->Int->Int)(oP:aB->bu->List Slot->Int->Int->Prop)(Ah:aB->bu->af->Int->Int)(jB:aB->bu->af->Int->Prop)(x:aB)(o:Op)(v:af)(level:Int):Pg Int:=.br (o.Kind==10) (.ix o.Target x.p.a_.length (.lt (dD .i64 (level+1)) fun(v1:Int)=> .ob (jB x (x.p.a_.getD o.Target.toNat bU) v.re v1) (.ret (Ah x (x.p.a_.getD o.Target.toNat bU) v.re v1)))) (.ob (List.length v.re.Text<=1048576) (.ret (azK x o.Kind o.Target v.re)))
def Ri (BV:aB->Op->af->Int->Int)(nI:aB->Op->af->Int->Prop)(Ag:aB->Op->List Pair->Int->Int)(jC:aB->Op->List Pair->Int->Prop)(KX:aB->Op->af->Int->Int)(lT:aB->Op->af->Int->Prop)(ND:aB->bu->List Slot->Int->Int->Int)(oP:aB->bu->List Slot->Int->Int->Prop)(Ah:aB->bu->af->Int->Int)(jB:aB->bu->af->Int->Prop)(x:aB)(o:Op)(l:List Pair)(level:Int):Pg Int:=aL l (.each false tX l gG (fun i1 a3 (y2:Unit)=> .ix i1 l.length (.ob (List.length a3.Key.re.Text<=1048576) (.lt (azK x o.Key (-1) a3.Key.re) fun(v4:Int)=> .br (v4 !=0) (.ret (.inr v4)) (.ob ((0:Int)<=0/\0<=i1/\i1<=(↑l.length:Int)) (.ob ((∀(x:Pair),x∈List.take i1.toNat l->jQ x.Key.Kind=true)/\jQ (Pair.mk a3.Key.re a3.Val.re).Key.Kind=true) (.br (aFs (List.take i1.toNat l) (Pair.mk a3.Key.re a3.Val.re)) (.ret (.inr 9)) (.ob (nI x o a3.Val.re level) (.br (BV x o a3.Val.re level !=0) (.ret (.inr (BV x o a3.Val.re level))) (rl ()))))))))) (fun i1 (y2:Unit)=> .ret 0) ())
def DC (BV:aB->Op->af->Int->Int)(nI:aB->Op->af->Int->Prop)(Ag:aB->Op->List Pair->Int->Int)(jC:aB->Op->List Pair->Int->Prop)(KX:aB->Op->af->Int->Int)(lT:aB->Op->af->Int->Prop)(ND:aB->bu->List Slot->Int->Int->Int)(oP:aB->bu->List Slot->Int->Int->Prop)(Ah:aB->bu->af->Int->Int)(jB:aB->bu->af->Int->Prop)(x:aB)(o:Op)(v:af)(level:Int):Pg Int:=.lt (aaG v.re) fun(v4:Bool)=> .br (o.Card==4) (.br (v.Kind !=11) (.ret 12) (.br v4 (.ret 12) (aL v.List (.each false tX v.List fM (fun i1 a3 (y2:Unit)=> .ix i1 v.List.length (.ob (nI x o a3.re level) (.br (BV x o a3.re level !=0) (.ret (.inr (BV x o a3.re level))) (rl ())))) (fun i1 (y2:Unit)=> .ret 0) ())))) (.br (o.Card==5) (.br (v.Kind !=12) (.ret 12) (.br v4 (.ret 12) (.ob (jC x o v.Pairs level) (.ret (Ag x o v.Pairs level))))) (.ob (nI x o v.re level) (.ret (BV x o v.re level))))
def aof (BV:aB->Op->af->Int->Int)(nI:aB->Op->af->Int->Prop)(Ag:aB->Op->List Pair->Int->Int)(jC:aB->Op->List Pair->Int->Prop)(KX:aB->Op->af->Int->Int)(lT:aB->Op->af->Int->Prop)(ND:aB->bu->List Slot->Int->Int->Int)(oP:aB->bu->List Slot->Int->Int->Prop)(Ah:aB->bu->af->Int->Int)(jB:aB->bu->af->Int->Prop)(x:aB)(g:bu)(l:List Slot)(i:Int)(level:Int):Pg Int:=.ix i l.length (.lt (lM g (l.getD i.toNat bI).Num) fun(v4:Op×Bool)=> .br (!v4.2) (.ret 8) (.ob ((0:Int)<=0/\0<=i/\i<=(↑l.length:Int)) (.br ((List.take i.toNat l).any fun(x:Slot)=>apu x v4.1) (.ret 9) (.ob ((0:Int)<=0/\0<=i/\i<=(↑l.length:Int)) (.as ((List.take i.toNat l).length<=9223372036854775807) (.each false tX (List.take i.toNat l) bI (fun i1 a3 (y2:Unit)=> .ix i1 (List.take i.toNat l).length (.br (v4.1.Union !=(-1)) (.br ((lM g a3.Num).1.Union==v4.1.Union) (.ret (.inr 15)) (rl ())) (rl ()))) (fun i1 (y2:Unit)=> .ix i l.length (.ob (lT x v4.1 (l.getD i.toNat bI).Val.re level) (.ret (KX x v4.1 (l.getD i.toNat bI).Val.re level)))) ()))))))
def S_ (BV:aB->Op->af->Int->Int)(nI:aB->Op->af->Int->Prop)(Ag:aB->Op->List Pair->Int->Int)(jC:aB->Op->List Pair->Int->Prop)(KX:aB->Op->af->Int->Int)(lT:aB->Op->af->Int->Prop)(ND:aB->bu->List Slot->Int->Int->Int)(oP:aB->bu->List Slot->Int->Int->Prop)(Ah:aB->bu->af->Int->Int)(jB:aB->bu->af->Int->Prop)(x:aB)(g:bu)(v:af)(level:Int):Pg Int:=.cut (fun(y1:Unit)=> .cut (fun(y4:Unit)=> .cut (fun(y8:Unit)=> aL v.bJ (.each false tX v.bJ oN (fun i9 a11 (Ai:Unit)=> .ix i9 v.bJ.length (.lt (aEL x g a11) fun(v12:Int)=> .br (v12 !=0) (.ret (.inr v12)) (rl ()))) (fun i9 (Ai:Unit)=> .ret 0) ())) (aL g.Ops (.each false tX g.Ops zT (fun i5 a7 (y6:Unit)=> .ix i5 g.Ops.length (.br (a7.Card==1) (.br (!v.Slots.any fun(x:Slot)=>apH x a7) (.ret (.inr (.inr 14))) (rl ())) (rl ()))) (fun i5 (y6:Unit)=> rl ()) ()))) (aL v.Slots (.cnt tX 0 (↑v.Slots.length:Int) (fun i2 (y3:Unit)=> .ob (oP x g v.Slots i2 level) (.br (ND x g v.Slots i2 level !=0) (.ret (.inr (.inr (ND x g v.Slots i2 level)))) (rl ()))) (fun i2 (y3:Unit)=> rl ()) ()))) (.br (v.Kind !=10) (.ret (.inr 12)) (.br (aaG v.re) (.ret (.inr 12)) (.br (decide (16 < level)) (.ret (.inr 17)) (rl ()))))
def nI (fu:Nat)(x:aB)(o:Op)(v:af)(level:Int):Prop:=gu x.p/\Uo x.p o/\gV v/\4*tV v+1<=fu
def jC (fu:Nat)(x:aB)(o:Op)(l:List Pair)(level:Int):Prop:=gu x.p/\Uo x.p o/\(oh l/\∀p∈l,gV p.Val/\p.Key.Text.length<=1048576)/\1<=fu/\∀p∈l,4*tV p.Val+2<=fu
def lT (fu:Nat)(x:aB)(o:Op)(v:af)(level:Int):Prop:=gu x.p/\Uo x.p o/\gV v/\4*tV v+2<=fu
def oP (fu:Nat)(x:aB)(g:bu)(l:List Slot)(i:Int)(level:Int):Prop:=gu x.p/\g∈x.p.a_/\l.length<=1048576/\(0<=i/\i < l.length)/\gV (l.getD i.toNat bI).Val/\4*tV (l.getD i.toNat bI).Val+3<=fu
def jB (fu:Nat)(x:aB)(g:bu)(v:af)(level:Int):Prop:=gu x.p/\g∈x.p.a_/\gV v/\4*tV v<=fu
def tJ:Nat->(aB->Op->af->Int->Int)×(aB->Op->(List Pair)->Int->Int)×(aB->Op->af->Int->Int)×(aB->bu->(List Slot)->Int->Int->Int)×(aB->bu->af->Int->Int)
 | 0=>(fun _ _ _ _=>default,fun _ _ _ _=>default,fun _ _ _ _=>default,fun _ _ _ _ _=>default,fun _ _ _ _=>default)
 | fu+1=>(fun x o v level=>(arn ((tJ fu).1) (nI fu) ((tJ fu).2.1) (jC fu) ((tJ fu).2.2.1) (lT fu) ((tJ fu).2.2.2.1) (oP fu) ((tJ fu).2.2.2.2) (jB fu) x o v level).val,fun x o l level=>(Ri ((tJ fu).1) (nI fu) ((tJ fu).2.1) (jC fu) ((tJ fu).2.2.1) (lT fu) ((tJ fu).2.2.2.1) (oP fu) ((tJ fu).2.2.2.2) (jB fu) x o l level).val,fun x o v level=>(DC ((tJ fu).1) (nI fu) ((tJ fu).2.1) (jC fu) ((tJ fu).2.2.1) (lT fu) ((tJ fu).2.2.2.1) (oP fu) ((tJ fu).2.2.2.2) (jB fu) x o v level).val,fun x g l i level=>(aof ((tJ fu).1) (nI fu) ((tJ fu).2.1) (jC fu) ((tJ fu).2.2.1) (lT fu) ((tJ fu).2.2.2.1) (oP fu) ((tJ fu).2.2.2.2) (jB fu) x g l i level).val,fun x g v level=>(S_ ((tJ fu).1) (nI fu) ((tJ fu).2.1) (jC fu) ((tJ fu).2.2.1) (lT fu) ((tJ fu).2.2.2.1) (oP fu) ((tJ fu).2.2.2.2) (jB fu) x g v level).val)
def Xz (x:aB)(g:bu)(v:af)(level:Int):Int:=(tJ (4*tV v)).2.2.2.2 x g v level
abbrev aaQ (fu:Nat):=arn ((tJ fu).1) (nI fu) ((tJ fu).2.1) (jC fu) ((tJ fu).2.2.1) (lT fu) ((tJ fu).2.2.2.1) (oP fu) ((tJ fu).2.2.2.2) (jB fu)
theorem apj (fu:Nat)(x:aB)(o:Op)(v:af)(level:Int)(h:nI (fu+1) x o v level):Is (aaQ fu x o v level):=
 by
 obtain⟨h1,h2,h3,h4⟩:=h;have ht:=iy v;have hb:=h3.2;unfold aaQ arn;simp only[af.dM];exact lh (fun hk=>dm (h2.1 hk).1 (h2.1 hk).2 (dB fun v1 hv1=>aX ⟨h1,getD_mem (by have:=h2.1 hk;omega),h3,by omega⟩ aT)) (fun _=>aX au aT)
abbrev G7 (fu:Nat):=Ri ((tJ fu).1) (nI fu) ((tJ fu).2.1) (jC fu) ((tJ fu).2.2.1) (lT fu) ((tJ fu).2.2.2.1) (oP fu) ((tJ fu).2.2.2.2) (jB fu)
theorem acO (fu:Nat)(x:aB)(o:Op)(l:List Pair)(level:Int)(h:jC (fu+1) x o l level):Is (G7 fu x o l level):=
 by
 obtain⟨h1,h2,⟨h3,h4⟩,h5,h6⟩:=h;unfold G7 Ri;simp only[af.dM];refine iH fun _=>gU (.inr (by have:=h3.1;omega)) (fun i1 y2 hi1 _=> ?_) (fun y2 _=>aT);have hm:=getD_mem (d:=gG) hi1;obtain⟨k1,k2⟩:=h4 _ hm;exact dm au au (aX k2 (dB fun v4 hv4=>jG iR (fun _=>aX au (aX ⟨fun x hx=>h3.2 x (List.mem_of_mem_take hx),h3.2 (l.getD i1 gG) hm⟩ (di iR (fun _=>aX ⟨h1,h2,k1,by have:=h6 _ hm;omega⟩ (jG iR iR)))))))
abbrev Tj (fu:Nat):=DC ((tJ fu).1) (nI fu) ((tJ fu).2.1) (jC fu) ((tJ fu).2.2.1) (lT fu) ((tJ fu).2.2.2.1) (oP fu) ((tJ fu).2.2.2.2) (jB fu)
theorem anc (fu:Nat)(x:aB)(o:Op)(v:af)(level:Int)(h:lT (fu+1) x o v level):Is (Tj fu x o v level):=
 by
 obtain⟨h1,h2,h3,h4⟩:=h;have hl:=oV h3;have hb:=h3.2;unfold Tj DC;simp only[af.dM];refine dB fun v4 hv4=>lh (fun _=>jG iR (fun _=>di iR (fun _=>iH fun _=>gU (.inr au) (fun i1 y2 hi1 _=>dm au au (aX ?_ (jG iR iR))) (fun y2 _=>aT)))) (fun _=>lh (fun _=>jG iR (fun _=>di iR (fun _=>aX ?_ aT))) (fun _=>aX ⟨h1,h2,h3,by omega⟩ aT))
 ·obtain⟨g1,g2⟩:=Bz h3 (getD_mem (d:=fM) hi1);exact⟨h1,h2,g1,by omega⟩
 ·refine⟨h1,h2,⟨hl.2.2.2,fun p hp=> ?_⟩,by have:=lV v;omega,fun p hp=> ?_⟩
  ·obtain⟨g1,g2,g3,g4⟩:=yc h3 hp;exact⟨g1,by have:=iy p.Key;omega⟩
  ·obtain⟨g1,g2,g3,g4⟩:=yc h3 hp;omega
abbrev Zr (fu:Nat):=aof ((tJ fu).1) (nI fu) ((tJ fu).2.1) (jC fu) ((tJ fu).2.2.1) (lT fu) ((tJ fu).2.2.2.1) (oP fu) ((tJ fu).2.2.2.2) (jB fu)
theorem atD (fu:Nat)(x:aB)(g:bu)(l:List Slot)(i:Int)(level:Int)(h:oP (fu+1) x g l i level):Is (Zr fu x g l i level):=
 by
 obtain⟨h1,h2,h3,h4,h5,h6⟩:=h;unfold Zr aof;simp only[af.dM];refine dm h4.1 h4.2 (dB fun v4 hv4=>di iR (fun hf=>aX au (di iR (fun _=>aX au (iH fun _=>gU (.inr qa8) (fun i1 y2 _ _=>dm au au (jG (fun _=>lh iR iR) iR)) (fun y2 _=>dm h4.1 h4.2 (aX ⟨h1,?_,h5,by omega⟩ aT)))))));rw[hv4]at hf⊢;exact(h1 g h2).2 _ (JC (by simpa using hf))
abbrev GV (fu:Nat):=S_ ((tJ fu).1) (nI fu) ((tJ fu).2.1) (jC fu) ((tJ fu).2.2.1) (lT fu) ((tJ fu).2.2.2.1) (oP fu) ((tJ fu).2.2.2.2) (jB fu)
theorem acs (fu:Nat)(x:aB)(g:bu)(v:af)(level:Int)(h:jB (fu+1) x g v level):Is (GV fu x g v level):=
 by
 obtain⟨h1,h2,h3,h4⟩:=h;have hl:=oV h3;have hg:=h1 g h2;unfold GV S_;simp only[af.dM];refine oQ (jG iR (fun _=>di iR (fun _=>dV iR iR))) (fun y1 hy1=>oQ (iH fun _=>RX au au (fun i2 y3 hi0 hi1=>aX ?_ (jG iR iR)) (fun i2 y3 _ _=>aT)) (fun y4 hy4=>oQ (iH fun _=>gU (.inr (by have:=hg.1;omega)) (fun i5 y6 _ _=>dm au au (lh (fun _=>di iR iR) iR)) (fun y6 _=>aT)) (fun y8 hy8=>iH fun _=>gU (.inr au) (fun i9 Ai _ _=>dm au au (dB fun v12 ah3=>jG iR iR)) (fun Ai _=>aT))));obtain⟨g1,g2⟩:=J4 h3 (getD_mem (d:=bI) (l:=v.Slots) (i:=i2.toNat) au);exact⟨h1,h2,hl.2.1,⟨hi0,hi1⟩,g1,by omega⟩
theorem azy:∀fu,fV Z.P Z.S 396 (oL (args (aj (aF jg) (aj (aF je) (aj (aF aI) (a1 (bn cI)))))) (R1 cI) 1 [] (fun a=>some (nI fu (a.1) (a.2.1) (a.2.2.1) (a.2.2.2))) (fun a=>(tJ fu).1 (a.1) (a.2.1) (a.2.2.1) (a.2.2.2)))/\fV Z.P Z.S 397 (oL (args (aj (aF jg) (aj (aF je) (aj (bn dZ) (a1 (bn cI)))))) (R1 cI) 1 [] (fun a=>some (jC fu (a.1) (a.2.1) (a.2.2.1) (a.2.2.2))) (fun a=>(tJ fu).2.1 (a.1) (a.2.1) (a.2.2.1) (a.2.2.2)))/\fV Z.P Z.S 332 (oL (args (aj (aF jg) (aj (aF je) (aj (aF aI) (a1 (bn cI)))))) (R1 cI) 1 [] (fun a=>some (lT fu (a.1) (a.2.1) (a.2.2.1) (a.2.2.2))) (fun a=>(tJ fu).2.2.1 (a.1) (a.2.1) (a.2.2.1) (a.2.2.2)))/\fV Z.P Z.S 217 (oL (args (aj (aF jg) (aj (aF iF) (aj (bn bF) (aj (bn cI) (a1 (bn cI))))))) (R1 cI) 1 [] (fun a=>some (oP fu (a.1) (a.2.1) (a.2.2.1) (a.2.2.2.1) (a.2.2.2.2))) (fun a=>(tJ fu).2.2.2.1 (a.1) (a.2.1) (a.2.2.1) (a.2.2.2.1) (a.2.2.2.2)))/\fV Z.P Z.S 140 (oL (args (aj (aF jg) (aj (aF iF) (aj (aF aI) (a1 (bn cI)))))) (R1 cI) 1 [] (fun a=>some (jB fu (a.1) (a.2.1) (a.2.2.1) (a.2.2.2))) (fun a=>(tJ fu).2.2.2.2 (a.1) (a.2.1) (a.2.2.1) (a.2.2.2)))
 | 0=>⟨iG func396 dS (fun a h=>by have k:=h.2.2.2;omega),
  iG func397 dS (fun a h=>by have k:=h.2.2.2.1;omega),
  iG func332 dS (fun a h=>by have k:=h.2.2.2;omega),
  iG func217 dS (fun a h=>by have k:=h.2.2.2.2.2;omega),
  iG func140 dS (fun a h=>by have k:=h.2.2.2;have:=lV (a.2.2.1);omega)⟩
 | fu+1=>by
  obtain⟨h0,h1,h2,h3,h4⟩:=azy fu;exact⟨Eo [atP,⟨396,_,h0⟩,⟨397,_,h1⟩,⟨332,_,h2⟩,⟨217,_,h3⟩,⟨140,_,h4⟩] [] func396 ntmps396 (fun a=>aaQ fu a.1 a.2.1 a.2.2.1 a.2.2.2) (fun a h=>⟨apj fu a.1 a.2.1 a.2.2.1 a.2.2.2 h,rfl⟩) (kL (n:=31) rfl),
   Eo [atP,aBh,af0,⟨396,_,h0⟩,⟨397,_,h1⟩,⟨332,_,h2⟩,⟨217,_,h3⟩,⟨140,_,h4⟩] [jS 2 (bP (fun sl=>[s0 15]) (l1 cI))] func397 ntmps397 (fun a=>G7 fu a.1 a.2.1 a.2.2.1 a.2.2.2) (fun a h=>⟨acO fu a.1 a.2.1 a.2.2.1 a.2.2.2 h,rfl⟩) (kL (n:=44) rfl),
   Eo [Ry,⟨396,_,h0⟩,⟨397,_,h1⟩,⟨332,_,h2⟩,⟨217,_,h3⟩,⟨140,_,h4⟩] [jS 6 (bP (fun sl=>[s0 26]) (l1 cI))] func332 ntmps332 (fun a=>Tj fu a.1 a.2.1 a.2.2.1 a.2.2.2) (fun a h=>⟨anc fu a.1 a.2.1 a.2.2.1 a.2.2.2 h,rfl⟩) (kL (n:=59) rfl),
   Eo [Ov,aoW,arv,agE,⟨396,_,h0⟩,⟨397,_,h1⟩,⟨332,_,h2⟩,⟨217,_,h3⟩,⟨140,_,h4⟩] [jS 7 (bP (fun sl=>[s0 38]) (l1 cI))] func217 ntmps217 (fun a=>Zr fu a.1 a.2.1 a.2.2.1 a.2.2.2.1 a.2.2.2.2) (fun a h=>⟨atD fu a.1 a.2.1 a.2.2.1 a.2.2.2.1 a.2.2.2.2 h,rfl⟩) (kL (n:=69) rfl),
   Eo [Ry,aoW,arv,afT,aAX,⟨396,_,h0⟩,⟨397,_,h1⟩,⟨332,_,h2⟩,⟨217,_,h3⟩,⟨140,_,h4⟩] [jS 6 (bP (fun sl=>[s0 30]) (l1 cI)),jS 13 (bP (fun sl=>[s0 47]) (l1 cI)),jS 19 (bP (fun sl=>[s0 65]) (l1 cI)),jS 100005 (bP (fun sl=>[]) l0),jS 100012 (bP (fun sl=>[]) l0),jS 100018 (bP (fun sl=>[]) l0)] func140 ntmps140 (fun a=>GV fu a.1 a.2.1 a.2.2.1 a.2.2.2) (fun a h=>⟨acs fu a.1 a.2.1 a.2.2.1 a.2.2.2 h,rfl⟩) (kL (n:=77) rfl)⟩
def ahI:aU Z:=⟨140,oL (args (aj (aF jg) (aj (aF iF) (aj (aF aI) (a1 (bn cI)))))) (R1 cI) 1 [] (fun a=>some (gu (a.1).p/\(a.2.1)∈(a.1).p.a_/\gV (a.2.2.1))) (fun a=>Xz (a.1) (a.2.1) (a.2.2.1) (a.2.2.2)),jT (fun n=>((azy n).2.2.2.2)) _ _ (fun a h=>⟨4*tV (a.2.2.1),⟨h.1,h.2.1,h.2.2,lU _⟩,rfl⟩)⟩
def agb (v:af):Pg (List af):=.ob (v.List.length<=1048576) (.cut (fun(y4:List af)=> aL v.Slots (.each false qw v.Slots bI (fun i5 a7 (y6:List af)=> .ix i5 v.Slots.length (.ob (bT (y6.length+1) 128) (rl (y6++[a7.Val.re])))) (fun i5 (y6:List af)=> .ret y6) y4)) (aL v.Pairs (.each false qw v.Pairs gG (fun i1 a3 (y2:List af)=> .ix i1 v.Pairs.length (.ob (bT (y2.length+2) 128) (rl (y2++[a3.Key.re,a3.Val.re])))) (fun i1 (y2:List af)=> rl y2) v.List)))
def awe (v:af):=(agb v).val
theorem Tm (v:af)(h:tV v<=1048576):jP (agb v) (fun r=>r.length<=4194304/\∀z∈r,tV z < tV v):=
 have hl:=aGB h;ak (qbj) (dh (fun y4=>y4.length<=v.List.length+2*v.Pairs.length/\∀z∈y4,tV z < tV v) (bZ <| df (fun(i1:Nat) y2=>y2.length<=v.List.length+2*i1/\∀z∈y2,tV z < tV v) (by exact⟨lU _,fun z hz=>avu hz⟩) au (fun i1 y2 qP rD=>have hI:y2.length<=v.List.length+2*i1/\∀z∈y2,tV z < tV v:=rD;bi au au (ak (qbj) (ah qaj))) (fun y2 hI=>have hI:y2.length<=v.List.length+2*v.Pairs.length/\∀z∈y2,tV z < tV v:=hI;ah qaj)) (fun y4 hy4=>have hy4:y4.length<=v.List.length+2*v.Pairs.length/\∀z∈y4,tV z < tV v:=hy4;bZ <| df (fun(i5:Nat) y6=>y6.length<=v.List.length+2*v.Pairs.length+i5/\∀z∈y6,tV z < tV v) (by exact hy4) au (fun i5 y6 auE auC=>have hI:y6.length<=v.List.length+2*v.Pairs.length+i5/\∀z∈y6,tV z < tV v:=auC;bi au au (ak (qbj) (ah qaj))) (fun y6 hI=>have hI:y6.length<=v.List.length+2*v.Pairs.length+v.Slots.length/\∀z∈y6,tV z < tV v:=hI;ah qaj)))
def asL:aU Z:=E1 [azv] [jS 3 (bP (fun sl=>[s0 14, .slot 3 false [some 77]]) (az cI (l1 jh))),jS 8 (bP (fun sl=>[s0 29, .slot 3 false [some 77]]) (az cI (l1 jh))),jS 100007 (bP (fun sl=>[.slot 3 false [some 77]]) (l1 jh))] (a1 (aF aI)) (shr [.slot 0 false [some 77]] (l1 jh)) [] func221 1 agb (fun a=>tV a<=1048576) fun a h=>(Tm a h).1
def afP (ayY:af->Int)(EX:af->Prop)(v:af):Pg Int:=.ob (tV v.re<=1048576) (.lt (awe v.re) fun(v4:List af)=> aL v4 (.lt (dD .i64 (1+(↑v.bJ.length:Int))) fun(v5:Int)=> .each false qw v4 fM (fun i1 a3 (y2:Int)=> .ix i1 v4.length (.ob (i1.toNat < v4.length) (.ob (EX a3.re) (rl (dD .i64 (y2+ayY a3.re)))))) (fun(i1 y2:Int)=> .ret y2) v5))
def EX (fu:Nat)(v:af):Prop:=tV v<=1048576/\tV v<=fu
def vcV:Nat->(af->Int)
 | 0=>(fun _=>default)
 | fu+1=>(fun v=>(afP ((vcV fu)) (EX fu) v).val)
def ajQ (v:af):Int:=(vcV (tV v)) v
abbrev TN (fu:Nat):=afP ((vcV fu)) (EX fu)
theorem am3 (fu:Nat)(v:af)(h:EX (fu+1) v):Is (TN fu v):=
 by
 obtain⟨h1,h2⟩:=h;have hi:=(Tm v h1).2;unfold TN afP;simp only[af.dM];refine aX h1 (dB fun v4 hv4=>iH fun _=>dB fun v5 hv5=>gU (.inr au) (fun i1 y2 hi1 _=>dm au au (aX au (aX ?_ aT))) (fun y2 _=>aT));have:=hi.2 (v4.getD i1 fM) (by have:=getD_mem (d:=fM) hi1;rw[hv4]at this⊢;exact this);exact⟨by omega,by omega⟩
theorem azJ:∀fu,fV Z.P Z.S 141 (oL (args (a1 (aF aI))) (R1 cI) 1 [] (fun a=>some (EX fu a)) (fun a=>(vcV fu) a))
 | 0=>iG func141 dS (fun a h=>by have k:=h.2;have:=lV a;omega)
 | fu+1=>by
  have h0:=azJ fu;exact Eo [asL,⟨141,_,h0⟩] [jS 3 (bP (fun sl=>[s0 13, s0 3]) (az cI (l1 cI)))] func141 ntmps141 (fun a=>TN fu a) (fun a h=>⟨am3 fu a h,rfl⟩) (kL (n:=23) rfl)
def as7:aU Z:=⟨141,oL (args (a1 (aF aI))) (R1 cI) 1 [] (fun a=>some (tV a<=1048576)) (fun a=>ajQ a),jT (fun n=>((azJ n))) _ _ (fun a h=>⟨tV a,⟨h,lU _⟩,rfl⟩)⟩
def aiQ (p:dC)(prog:Int)(v:af):Pg Int:=.br (decide (prog < 0)) (.ret 10) (aL p.a_ (.br (decide ((↑p.a_.length:Int)<=prog)) (.ret 10) (.ix prog p.a_.length (.ob (gu p/\p.a_.getD prog.toNat bU∈p.a_/\gV v.re) (.lt (Xz (aB.mk p) (p.a_.getD prog.toNat bU) v.re 1) fun(v1:Int)=> .br (v1 !=0) (.ret v1) (.ob (tV v.re<=1048576) (.lt (ajQ v.re) fun(v2:Int)=> .br (decide (4096 < v2)) (.ret 3) (.ret 0))))))))
def aDr (p:dC)(prog:Int)(v:af):=(aiQ p prog v).val
theorem aro (p:dC)(prog:Int)(v:af)(h:gu p/\gV v):Is (aiQ p prog v):=
 by
 unfold aiQ;simp only[af.dM];exact dV iR (fun _=>iH fun _=>dV iR (fun _=>dm au au (aX ⟨h.1,getD_mem au,h.2⟩ (dB fun v1 hv1=>jG iR (fun _=>aX h.2.2 (dB fun v2 hv2=>dV iR iR))))))
def awz:aU Z:=E1 [ahI,as7] [] (aj (aF dX) (aj (bn cI) (a1 (aF aI)))) (R1 cI) [] func92 1 (u3 aiQ) (fun a=>gu a.1/\gV a.2.2) fun a h=>aro a.1 a.2.1 a.2.2 h
theorem put_pos (u:Int)(h:0<=u/\u < 18446744073709551616):1<=(RP u).length:=by
 obtain⟨x,rfl⟩:∃x:Nat,u=(x:Int):=⟨u.toNat,by omega⟩;rw[acA x au,EU,Qbl];unfold ahq;split<;>simp
theorem awM {f:Raw}(h:KD f=true):1<=(Be f.Num f.fA).1.length/\(Be f.Num f.fA).1.length<=10:=by
 have e:(Be f.Num f.fA).2=0:=by
  unfold KD aar at h;simp only[bH,aV]at h;cases e:(Be f.Num f.fA).2 !=0 with
  | true=>rw[e]at h;cases h
  | false=>exact kM.1 e
 unfold Be acz at e⊢;simp only[bH,dE,dK,aV]at e⊢;by_cases h1:f.Num < 1
 ·rw[qW h1]at e;cases e
 rw[qo h1]at e⊢;by_cases h2:65535 < f.Num
 ·rw[qW h2]at e;cases e
 rw[qo h2]at e⊢;by_cases h3:f.fA < 0
 ·rw[qW h3]at e;cases e
 rw[qo h3]at e⊢;by_cases h4:6 < f.fA
 ·rw[qW h4]at e;cases e
 rw[qo h4];exact⟨put_pos _ (Og _),PS _ (Og _)⟩
def vC (l:List Raw):Nat:=jF (fun x=>24+x.Data.length) l
theorem aeg {l:List Raw}{i:Nat}(hi:i < l.length):vC (l.take (i+1))=vC (l.take i)+(24+(l.getD i oN).Data.length):=pR (f:=fun x:Raw=>24+x.Data.length) (d:=oN) hi
theorem aoI {l:List Raw}{i:Nat}:vC (l.take i)<=vC l:=uH (Qdi i l)
theorem Jw (l m:List Raw):vC (l++m)=vC l+vC m:=ou l m
theorem FC (l:List Raw):l.length<=vC l:=yu fun x=>by omega
def WY (l:List Raw):Prop:=(∀x∈l,KY x)/\vC l<=68719476736
def aAM (l:List Raw)(i:Nat)(y:List Int):Prop:=y.length<=vC (l.take i)/\(0 < i->0 < y.length)/\∀k,Dq y k=true
theorem Tq {l:List Raw}{i:Nat}{y:List Int}{a b:Str}(hi:i < l.length)(h:aAM l i y)(ha:1<=a.length/\a.length<=10)(hb:b.length<=10+(l.getD i oN).Data.length):aAM l (i+1) (y++Vp a++Vp b):=by
 refine⟨?_,fun _=> ?_,TT (TT h.2.2 (G8 a)) (G8 b)⟩
 ·rw[aeg hi];simp only[pz,yE];have:=h.1;omega
 ·simp only[pz,yE];omega
theorem ave (a b:Str):Vp (a++b)=Vp a++Vp b:=by simp[Vp]
def afj:List Raw:=[]
def aiI:Pg (List UInt8):=aL afj (.ob ((dp ((0:Int)=0)).p/\True) (.ret []))
def V5:Str:=(aiI).val
theorem att:Is (aiI):=
 iH fun _=>aX ((⟨rfl,trivial⟩)) (aT)
def ayS:aU Z:=vS Z [aeM,abx,Gi,ahH,ahV,aa7,YF] [jS 600003 (bP (fun _=>List.replicate 2 (.iter 0)) l0)] (args (a1 (bn bD))) (kL (n:=54) rfl) (R1 cStr) [] func143 ntmps143 dS 1 rfl (fun a=>aiI) (fun a=>some (a=afj)) (fun(l) e h=>by have hf0:l=afj:=h;subst hf0;show _=_;kernel_rfl) (fun a=>V5) (fun a h=>⟨att,rfl⟩)
def ajc (l:List Raw):Pg (List UInt8):=aL l (.each false qw l oN (fun i1 a3 (y2:List Int)=> .ix i1 l.length (.br (!KD a3) (rl y2) (.lt (Be a3.Num a3.fA) fun(v4:Str×Int)=> .ob ((dp (bT (y2.length+v4.1.length) 1)).p/\True) (.lt (y2++Vp v4.1) fun(v5:List Int)=> .br (a3.fA==2) (.lt (azg a3.Bits) fun(v6:Str)=> .ob ((dp (bT (v5.length+List.length v6) 1)).p/\True) (rl (v5++Vp v6))) (.br (ajw a3.fA) (.ob (lK a3.Bits) (.lt (RP a3.Bits) fun(v7:Str)=> .ob ((dp (bT (v5.length+List.length v7) 1)).p/\True) (rl (v5++Vp v7)))) (.lt (dD .u64 (↑(List.length a3.Data):Int)) fun(v8:Int)=> .ob (lK v8) (.lt (RP v8) fun(v9:Str)=> .ob ((dp (bT (v5.length+List.length v9) 1)).p/\True) (.as (List.length a3.Data<=9223372036854775807) (.lt (v5++Vp v9) fun(v10:List Int)=> .ob ((dp (bT (v10.length+List.length a3.Data) 1)).p/\True) (rl (v10++Vp a3.Data))))))))))) (fun i1 (y2:List Int)=> .ob ((dp (0 < y2.length)).p/\(dp ((↑y2.length:Int)=(↑y2.length:Int)/\0 < (↑y2.length:Int)/\HY (Dq y2) y2.length=true)).p/\True) (.ret (txU y2))) [])
def aoq (l:List Raw):=(ajc l).val
theorem XA (l:List Raw)(h:l≠[]/\WY l):jP (ajc l) (fun r=>r.length<=vC l):=
 by
 obtain⟨hne,hq,hb⟩:=h;have hlen:=FC l;unfold ajc;refine bZ <| df (aAM l) ⟨lU _,fun h=>absurd h lY,fun k=>G8 [] k⟩ au (fun i1 y2 hi hI=> ?_) fun y2 hI=> ?_
 ·have hr:=hq _ (getD_mem (d:=oN) hi);have ht:=awM hr.2;have h1:=hI.1;have h2:=aoI (l:=l) (i:=i1);have h3:=aeg hi;have h4:=aoI (l:=l) (i:=i1+1);have room:∀n,n<=vC (l.take (i1+1))->(dp (bT n 1)).p/\True:=fun n hn=>⟨b_ au au,trivial⟩
  refine bi au au (dR (fun hv=>absurd hv (by rw[hr.2];decide)) fun _=>aC fun v4 hv4=> ?_);rw[<-hv4]at ht;refine ak (room _ au) (aC fun v5 hv5=> ?_);have h5:v5.length=y2.length+v4.1.length:=by rw[hv5,pz,yE]
  refine dO (fun _=>aC fun v6 hv6=> ?_) fun _=>dR (fun _=>ak hr.1 (aC fun v7 hv7=> ?_)) fun _=>aC fun v8 Py=>ak (by rw[Py];exact Og _) (aC fun v9 hv9=> ?_)
  ·have h6:v6.length=8:=by rw[hv6];exact(U1 _).2
   exact ak (room _ au) (ah (by rw[hv5];exact Tq hi hI ht au))
  ·have h6:v7.length<=10:=by rw[hv7];exact PS _ hr.1
   exact ak (room _ au) (ah (by rw[hv5];exact Tq hi hI ht au))
  ·have h6:v9.length<=10:=by rw[hv9];exact PS _ (by rw[Py];exact Og _)
   refine ak (room _ au) (bZ <| aC fun v10 Ij=> ?_);have h7:v10.length=v5.length+v9.length:=by rw[Ij,pz,yE]
   refine ak (room _ au) (ah ?_);rw[Ij,hv5,Qba,<-ave];exact Tq hi hI ht (by rw[pz];omega)
 ·have hp:0 < y2.length:=hI.2.1 (by
   cases l with
   | nil=>exact absurd rfl hne
   | cons a t=>simp)
  have h1:=hI.1;rw[DT]at h1;exact ak ⟨hp,⟨rfl,by omega,ww hI.2.2 _⟩,trivial⟩ (ah (by rw[EU];exact h1))
def ayT:aU Z:=E1 [aeM,abx,Gi,ahH,ahV,aa7,YF] [jS 3 (bP (fun sl=>[s0 10, .tcs (pid (sl 3)) 340 [some 5]]) (az cI (l1 MP)))] (a1 (bn bD)) (R1 cStr) [] func143 1 ajc (fun a=>a≠[]/\WY a) fun a h=>(XA a h).1
def NR (l:List Raw):Str:=bif l.isEmpty then V5 else aoq l
theorem aco {l:List Raw}(h:WY l):(NR l).length<=vC l:=by
 unfold NR;cases l with
 | nil=>
  show V5.length<=_
  unfold V5 aiI;simp only[kN,dK,aV];exact uN _
 | cons a t=>exact(XA (a::t) ⟨by simp,h⟩).2
def aqc:aU Z:=⟨143,oL (args (a1 (bn bD))) (R1 cStr) 1 [] (fun a=>some (WY a)) (fun a=>NR a),by
  have h1:fV Z.P Z.S 143 (oL (args (a1 (bn bD))) (R1 cStr) 1 [] (fun a=>some (List.isEmpty a=true/\WY a)) (fun a=>V5)):=jT (fun _=>ayS.ok) _ _ (fun a h=>⟨0,List.isEmpty_iff.1 h.1,rfl⟩);have h2:fV Z.P Z.S 143 (oL (args (a1 (bn bD))) (R1 cStr) 1 [] (fun a=>some (List.isEmpty a=false/\WY a)) (fun a=>aoq a)):=jT (fun _=>ayT.ok) _ _ (fun a h=>⟨0,⟨fun e=>absurd h.1 (by rw[show a=[]from e];decide),h.2⟩,rfl⟩);exact GU h1 h2⟩
def aAB:aU Z:=J9 Z [wC] 222 [true] func222 dS
def aAC:aU Z:=J9 Z [wC] 222 [false,true] func222 dS
def aC8:aU Z:=J9 Z [wC] 222 [false,false,true] func222 dS
def aAJ:aU Z:=J9 Z [wC] 222 [false,false,false] func222 dS
def PV (v:af):Pg Raw:=.cut (fun(y1:Bool)=> .br y1 (.ret (Raw.mk 0 0 v.Bits [])) (.cut (fun(y2:Bool)=> .br y2 (.ret (Raw.mk 0 1 (apE (dD .i64 v.Bits)) [])) (.br (v.Kind==6) (.ret (Raw.mk 0 2 (nK v.re).Bits [])) (.br (v.Kind==7) (.br (v.Kind==7) (.ret (Raw.mk 0 3 0 v.Text)) (.ret (Raw.mk 0 0 0 []))) (.br (v.Kind==8) (.ret (Raw.mk 0 3 0 v.Text)) (.ret (Raw.mk 0 0 0 [])))))) (.br (v.Kind==2) (rl (v.Kind==2)) (rl (v.Kind==3))))) (.br (v.Kind==1) (rl (v.Kind==1)) (.br (v.Kind==4) (rl (v.Kind==4)) (.br (v.Kind==5) (rl (v.Kind==5)) (rl (v.Kind==9)))))
def CQ (v:af):=(PV v).val
def Lc:aU Z:=E0 [JF,aB7] [jS 100006 (bP (fun sl=>[s0 5]) (l1 aG)),jS 100009 (bP (fun sl=>[s0 13]) (l1 aG))] (a1 (aF aI)) (shr [.slot 0 true (nn 4)] (l1 og)) [] func400 1 PV
def YB (num:Int)(f:Raw):Pg Raw:=.ret (Raw.mk num f.fA f.Bits f.Data)
def uw (num:Int)(f:Raw):=(YB num f).val
def D5:aU Z:=E0 [] [] (aj (bn cI) (a1 (aF og))) (shr [.slot 0 true (nn 4)] (l1 og)) [] func399 1 (u2 YB)
def eOk (f:Raw)(n:Nat):Prop:=(0<=f.fA/\f.fA<=6)/\lK f.Bits/\(f.fA<=2->f.Data=[])/\(3<=f.fA->f.Bits=0)/\f.Data.length<=n
theorem QY {w b:Int}{n:Nat}(hw:0<=w/\w<=2)(hb:lK b):eOk (Raw.mk 0 w b []) n:=⟨⟨hw.1,by show w<=6;omega⟩,hb,fun _=>rfl,fun h=>absurd hw.2 (by have h:3<=w:=h;omega),uN _⟩
theorem ai2 {w:Int}{d:Str}{n:Nat}(hw:3<=w/\w<=6)(hd:d.length<=n):eOk (Raw.mk 0 w 0 d) n:=⟨⟨by show 0<=w;omega,hw.2⟩,u0,fun h=>absurd hw.1 (by have h:w<=2:=h;omega),fun _=>rfl,hd⟩
theorem atO {f:Raw}{n m:Nat}(h:eOk f n)(hm:n<=m):eOk f m:=⟨h.1,h.2.1,h.2.2.1,h.2.2.2.1,Ak h.2.2.2.2 hm⟩
theorem aBv (n:Int):lK (apE n):=by
 unfold apE aAK;simp only[dK,aV];exact agh _
theorem GL {v:af}(h:kV v):eOk (CQ v) v.Text.length:=by
 have hb:=((ik v).1 h).1.1;have hn:=((ik _).1 (P8 h)).1.1;have k:VP (PV v) (fun f=>eOk f v.Text.length):=by
  unfold PV;simp only[af.dM];have n0:eOk (Raw.mk 0 0 0 []) v.Text.length:=QY ⟨by decide,by decide⟩ u0;have n3:eOk (Raw.mk 0 3 0 v.Text) v.Text.length:=ai2 ⟨by decide,by decide⟩ (lU _);refine jI (fun _=>True) ?_ fun y1 _=>eP (fun _=>aS (QY ⟨by decide,by decide⟩ hb)) fun _=>jI (fun _=>True) ?_ fun y2 _=>eP (fun _=>aS (QY ⟨by decide,by decide⟩ (aBv _))) fun _=>eP (fun _=>aS (QY ⟨by decide,by decide⟩ hn)) fun _=>eP (fun _=>eP (fun _=>aS n3) fun _=>aS n0) fun _=>eP (fun _=>aS n3) fun _=>aS n0
  ·exact eP (fun _=>aS trivial) fun _=>eP (fun _=>aS trivial) fun _=>eP (fun _=>aS trivial) fun _=>aS trivial
  ·exact eP (fun _=>aS trivial) fun _=>aS trivial
 exact k
theorem xX {num:Int}{f:Raw}{n:Nat}(hn:1<=num/\num<=65535)(h:eOk f n):KY (uw num f)/\(uw num f).Data.length<=n:=
 ⟨Td (f:=Raw.mk num f.fA f.Bits f.Data) hn h.1 h.2.1 h.2.2.1 h.2.2.2.1,h.2.2.2.2⟩
theorem avg (l:List Raw):vC l<=24*PZ l:=by
 induction l with
 | nil=>exact lU _
 | cons a t ih=>
  show 24+a.Data.length+vC t<=24*(1+a.Data.length+PZ t)
  omega
theorem JI (x:Raw):vC [x]=24+x.Data.length:=rfl
theorem TL (x:Raw)(l:List Raw):vC (x::l)=24+x.Data.length+vC l:=rfl
def enI (v:af)(i:Nat)(y:List Raw×List Raw):Prop:=(∀x∈y.1,KY x)/\(∀x∈y.2,KY x)/\y.2.length<=v.bJ.length/\vC y.1+vC y.2<=vC v.bJ+64*jF tS (v.Slots.take i)
def ajC (w:ai)(o:Op)(v:af):Pg (List Raw):=aL v.List (.lt (dD .u8 (agX (Op.mk o.Num o.Name o.Alias 2 o.Key o.Kind o.Target o.Union))) fun(v4:Int)=> .each false qw v.List fM (fun i1 a3 (y2:List Int)=> .ix i1 v.List.length (.lt (CQ a3.re) fun(v5:Raw)=> .br (agX (Op.mk o.Num o.Name o.Alias 2 o.Key o.Kind o.Target o.Union)==2) (.lt (azg v5.Bits) fun(v6:Str)=> .ob (bT (y2.length+List.length v6) 1) (rl (y2++Vp v6))) (.ob (lK v5.Bits) (.lt (RP v5.Bits) fun(v7:Str)=> .ob (bT (y2.length+List.length v7) 1) (rl (y2++Vp v7)))))) (fun i1 (y2:List Int)=> .ob (HY (fun(i:Nat)=>true) y2.length=true) (.ret [Raw.mk o.Num 5 0 (txU y2)])) [v4])
def aAN (w:ai)(o:Op)(v:af):=(ajC w o v).val
theorem XN (w:ai)(o:Op)(v:af)(h:(1<=o.Num/\o.Num<=65535)/\gV v):jP (ajC w o v) (fun r=>(∀x∈r,KY x)/\vC r<=24+64*tV v):=
 by
 obtain⟨ho,h3⟩:=h;have hl:=oV h3;have hb:=h3.2;have ht:=iy v;have hs:=J6 v.List;unfold ajC;simp only[af.dM];refine bZ <| aC fun v4 hv4=>df (fun i y=>y.length<=1+10*i) oJ au (fun i1 y2 hi hI=> ?_) fun y2 hI=>ak (ww (fun _=>rfl) _) (ah ⟨kG (Td (f:=Raw.mk o.Num 5 0 (txU y2)) ho ⟨(by decide:(0:Int)<=5),(by decide:(5:Int)<=6)⟩ u0 (fun h=>absurd h (by decide:¬(5:Int)<=2)) (fun _=>rfl)),?_⟩)
 ·have hu:lK (CQ (v.List.getD i1 fM)).Bits:=(GL (Bz h3 (getD_mem (d:=fM) hi)).1.1).2.1;refine bi au au (aC fun v5 hv5=>dO (fun _=>aC fun v6 hv6=> ?_) fun _=>ak (by rw[hv5];exact hu) (aC fun v7 hv7=> ?_))
  ·have h6:v6.length=8:=by rw[hv6];exact(U1 _).2
   exact ak (b_ au au) (ah (by show(y2++Vp v6).length<=_;rw[pz,yE];omega))
  ·have h6:v7.length<=10:=by rw[hv7];exact PS _ (by rw[hv5];exact hu)
   exact ak (b_ au au) (ah (by show(y2++Vp v7).length<=_;rw[pz,yE];omega))
 ·rw[JI];show 24+(txU y2).length<=_
  rw[EU];omega
def ayc:aU Z:=E1 [ahH,aa7,ajG,Lc] [jS 6 (bP (fun sl=>[s0 23, .slot 9 false [some 5]]) (az cI (l1 MP)))] (aj (aF fK) (aj (aF je) (a1 (aF aI)))) (R1 bD) [] func337 1 (u3 ajC) (fun a=>(1<=a.2.1.Num/\a.2.1.Num<=65535)/\gV a.2.2) fun a h=>(XN a.1 a.2.1 a.2.2 h).1
def Uj (nP:ai->Op->af->Raw)(dI:ai->Op->af->Prop)(qp:ai->Op->af->List Raw)(dQ:ai->Op->af->Prop)(oC:ai->Op->af->List Raw)(dF:ai->Op->af->Prop)(tC:ai->Op->af->List Raw)(fB:ai->Op->af->Prop)(zh:ai->Int->Slot->List Raw)(gK:ai->Int->Slot->Prop)(BQ:ai->Int->af->Str)(jo:ai->Int->af->Prop)(w:ai)(o:Op)(v:af):Pg Raw:=.br (o.Kind==10) (.ob (jo w o.Target v.re) (.ret (Raw.mk 0 4 0 (BQ w o.Target v.re)))) (.ret (CQ v.re))
def UR (nP:ai->Op->af->Raw)(dI:ai->Op->af->Prop)(qp:ai->Op->af->List Raw)(dQ:ai->Op->af->Prop)(oC:ai->Op->af->List Raw)(dF:ai->Op->af->Prop)(tC:ai->Op->af->List Raw)(fB:ai->Op->af->Prop)(zh:ai->Int->Slot->List Raw)(gK:ai->Int->Slot->Prop)(BQ:ai->Int->af->Str)(jo:ai->Int->af->Prop)(w:ai)(o:Op)(v:af):Pg (List Raw):=aL v.Pairs (.each false qw v.Pairs gG (fun i1 a3 (y2:List Raw)=> .ix i1 v.Pairs.length (.ob (dI w o a3.Val.re) (.lt (uw 2 (nP w o a3.Val.re)) fun(v4:Raw)=> .lt (uw 1 (CQ a3.Key.re)) fun(v5:Raw)=> .ob (WY [v5,v4]) (.ob (bT (y2.length+1) 40) (rl (y2++[Raw.mk o.Num 6 0 (NR [v5,v4])])))))) (fun i1 (y2:List Raw)=> .ret y2) [])
def MN (nP:ai->Op->af->Raw)(dI:ai->Op->af->Prop)(qp:ai->Op->af->List Raw)(dQ:ai->Op->af->Prop)(oC:ai->Op->af->List Raw)(dF:ai->Op->af->Prop)(tC:ai->Op->af->List Raw)(fB:ai->Op->af->Prop)(zh:ai->Int->Slot->List Raw)(gK:ai->Int->Slot->Prop)(BQ:ai->Int->af->Str)(jo:ai->Int->af->Prop)(w:ai)(o:Op)(v:af):Pg (List Raw):=aL v.List (.each false qw v.List fM (fun i1 a3 (y2:List Raw)=> .ix i1 v.List.length (.ob (dI w o a3.re) (.ob (bT (y2.length+1) 40) (rl (y2++[uw o.Num (nP w o a3.re)]))))) (fun i1 (y2:List Raw)=> .ret y2) [])
def abl (nP:ai->Op->af->Raw)(dI:ai->Op->af->Prop)(qp:ai->Op->af->List Raw)(dQ:ai->Op->af->Prop)(oC:ai->Op->af->List Raw)(dF:ai->Op->af->Prop)(tC:ai->Op->af->List Raw)(fB:ai->Op->af->Prop)(zh:ai->Int->Slot->List Raw)(gK:ai->Int->Slot->Prop)(BQ:ai->Int->af->Str)(jo:ai->Int->af->Prop)(w:ai)(o:Op)(v:af):Pg (List Raw):=.ob (dI w o v.re) (.ret [uw o.Num (nP w o v.re)])
def aCx (nP:ai->Op->af->Raw)(dI:ai->Op->af->Prop)(qp:ai->Op->af->List Raw)(dQ:ai->Op->af->Prop)(oC:ai->Op->af->List Raw)(dF:ai->Op->af->Prop)(tC:ai->Op->af->List Raw)(fB:ai->Op->af->Prop)(zh:ai->Int->Slot->List Raw)(gK:ai->Int->Slot->Prop)(BQ:ai->Int->af->Str)(jo:ai->Int->af->Prop)(w:ai)(prog:Int)(s:Slot):Pg (List Raw):=.ix prog w.p.a_.length (.lt (lM (w.p.a_.getD prog.toNat bU) s.Num) fun(v1:Op×Bool)=> .br (!v1.2) (.ret []) (.ob ((v1.1.Card==5)=true/\True) (.ob (dQ w v1.1 s.Val.re) (.ret (qp w v1.1 s.Val.re)))))
def aoE (nP:ai->Op->af->Raw)(dI:ai->Op->af->Prop)(qp:ai->Op->af->List Raw)(dQ:ai->Op->af->Prop)(oC:ai->Op->af->List Raw)(dF:ai->Op->af->Prop)(tC:ai->Op->af->List Raw)(fB:ai->Op->af->Prop)(zh:ai->Int->Slot->List Raw)(gK:ai->Int->Slot->Prop)(BQ:ai->Int->af->Str)(jo:ai->Int->af->Prop)(w:ai)(prog:Int)(s:Slot):Pg (List Raw):=.ix prog w.p.a_.length (.lt (lM (w.p.a_.getD prog.toNat bU) s.Num) fun(v1:Op×Bool)=> .br (!v1.2) (.ret []) (.ob ((v1.1.Card==5)=false/\lu v1.1=true/\True) (.ob ((1<=v1.1.Num/\v1.1.Num<=65535)/\gV s.Val.re) (.ret (aAN w v1.1 s.Val.re)))))
def aAu (nP:ai->Op->af->Raw)(dI:ai->Op->af->Prop)(qp:ai->Op->af->List Raw)(dQ:ai->Op->af->Prop)(oC:ai->Op->af->List Raw)(dF:ai->Op->af->Prop)(tC:ai->Op->af->List Raw)(fB:ai->Op->af->Prop)(zh:ai->Int->Slot->List Raw)(gK:ai->Int->Slot->Prop)(BQ:ai->Int->af->Str)(jo:ai->Int->af->Prop)(w:ai)(prog:Int)(s:Slot):Pg (List Raw):=.ix prog w.p.a_.length (.lt (lM (w.p.a_.getD prog.toNat bU) s.Num) fun(v1:Op×Bool)=> .br (!v1.2) (.ret []) (.ob ((v1.1.Card==5)=false/\lu v1.1=false/\(v1.1.Card==4)=true/\True) (.ob (dF w v1.1 s.Val.re) (.ret (oC w v1.1 s.Val.re)))))
def aCK (nP:ai->Op->af->Raw)(dI:ai->Op->af->Prop)(qp:ai->Op->af->List Raw)(dQ:ai->Op->af->Prop)(oC:ai->Op->af->List Raw)(dF:ai->Op->af->Prop)(tC:ai->Op->af->List Raw)(fB:ai->Op->af->Prop)(zh:ai->Int->Slot->List Raw)(gK:ai->Int->Slot->Prop)(BQ:ai->Int->af->Str)(jo:ai->Int->af->Prop)(w:ai)(prog:Int)(s:Slot):Pg (List Raw):=.ix prog w.p.a_.length (.lt (lM (w.p.a_.getD prog.toNat bU) s.Num) fun(v1:Op×Bool)=> .br (!v1.2) (.ret []) (.ob ((v1.1.Card==5)=false/\lu v1.1=false/\(v1.1.Card==4)=false/\True) (.ob (fB w v1.1 s.Val.re) (.ret (tC w v1.1 s.Val.re)))))
def arP (nP:ai->Op->af->Raw)(dI:ai->Op->af->Prop)(qp:ai->Op->af->List Raw)(dQ:ai->Op->af->Prop)(oC:ai->Op->af->List Raw)(dF:ai->Op->af->Prop)(tC:ai->Op->af->List Raw)(fB:ai->Op->af->Prop)(zh:ai->Int->Slot->List Raw)(gK:ai->Int->Slot->Prop)(BQ:ai->Int->af->Str)(jo:ai->Int->af->Prop)(w:ai)(prog:Int)(v:af):Pg (List UInt8):=.ob (gV v.re) (.lt (Vy w.p prog v.re) fun(v6:af)=> aL v6.Slots (.each false qw v6.Slots bI (fun i1 a5 (y2:List Raw×List Raw)=> .ix i1 v6.Slots.length (.cut (fun(y4:List Raw×List Raw)=> .ob (gK w prog (Slot.mk a5.Num a5.Val.re)) (.ob (bT (y4.1.length+(zh w prog (Slot.mk a5.Num a5.Val.re)).length) 40) (rl (y4.1++zh w prog (Slot.mk a5.Num a5.Val.re),y4.2)))) (.wh (tV v+1) default (fun(x3:List Raw×List Raw)=> .br (decide (0 < (↑x3.2.length:Int))) (.ix 0 x3.2.length (.br (decide ((x3.2.getD 0 oN).Num < a5.Num)) (.ix 0 x3.2.length (.ob (bT (x3.1.length+1) 40) (.ob ((0:Int)<=1/\1<=(↑x3.2.length:Int)/\(↑x3.2.length:Int)<=(↑x3.2.length:Int)) (rl (x3.1++[x3.2.getD 0 oN],List.drop 1 (List.take x3.2.length x3.2)))))) (.ret (.inr (.inl x3))))) (.ret (.inr (.inl x3)))) y2))) (fun i1 (y2:List Raw×List Raw)=> .ob (bT (y2.1.length+y2.2.length) 40) (.lt (y2.1++y2.2) fun(v7:List Raw)=> .ob (WY v7) (.ret (NR v7)))) ([],v6.bJ)))
def dI (fu:Nat)(w:ai)(o:Op)(v:af):Prop:=gu w.p/\Uo w.p o/\gV v/\4*tV v+1<=fu
def dQ (fu:Nat)(w:ai)(o:Op)(v:af):Prop:=gu w.p/\Uo w.p o/\gV v/\4*tV v+2<=fu
def dF (fu:Nat)(w:ai)(o:Op)(v:af):Prop:=gu w.p/\Uo w.p o/\gV v/\4*tV v+2<=fu
def fB (fu:Nat)(w:ai)(o:Op)(v:af):Prop:=gu w.p/\Uo w.p o/\gV v/\4*tV v+2<=fu
def gK (fu:Nat)(w:ai)(prog:Int)(s:Slot):Prop:=gu w.p/\(0<=prog/\prog < w.p.a_.length)/\gV s.Val/\4*tV s.Val+3<=fu
def jo (fu:Nat)(w:ai)(prog:Int)(v:af):Prop:=gu w.p/\(0<=prog/\prog < w.p.a_.length)/\gV v/\4*tV v<=fu
def jK:Nat->(ai->Op->af->Raw)×(ai->Op->af->(List Raw))×(ai->Op->af->(List Raw))×(ai->Op->af->(List Raw))×(ai->Int->Slot->(List Raw))×(ai->Int->af->Str)
 | 0=>(fun _ _ _=>default,fun _ _ _=>default,fun _ _ _=>default,fun _ _ _=>default,fun _ _ _=>default,fun _ _ _=>default)
 | fu+1=>(fun w o v=>(Uj ((jK fu).1) (dI fu) ((jK fu).2.1) (dQ fu) ((jK fu).2.2.1) (dF fu) ((jK fu).2.2.2.1) (fB fu) ((jK fu).2.2.2.2.1) (gK fu) ((jK fu).2.2.2.2.2) (jo fu) w o v).val,fun w o v=>(UR ((jK fu).1) (dI fu) ((jK fu).2.1) (dQ fu) ((jK fu).2.2.1) (dF fu) ((jK fu).2.2.2.1) (fB fu) ((jK fu).2.2.2.2.1) (gK fu) ((jK fu).2.2.2.2.2) (jo fu) w o v).val,fun w o v=>(MN ((jK fu).1) (dI fu) ((jK fu).2.1) (dQ fu) ((jK fu).2.2.1) (dF fu) ((jK fu).2.2.2.1) (fB fu) ((jK fu).2.2.2.2.1) (gK fu) ((jK fu).2.2.2.2.2) (jo fu) w o v).val,fun w o v=>(abl ((jK fu).1) (dI fu) ((jK fu).2.1) (dQ fu) ((jK fu).2.2.1) (dF fu) ((jK fu).2.2.2.1) (fB fu) ((jK fu).2.2.2.2.1) (gK fu) ((jK fu).2.2.2.2.2) (jo fu) w o v).val,fun w prog s=>bif (lM (w.p.a_.getD prog.toNat bU) s.Num).1.Card==5 then(aCx ((jK fu).1) (dI fu) ((jK fu).2.1) (dQ fu) ((jK fu).2.2.1) (dF fu) ((jK fu).2.2.2.1) (fB fu) ((jK fu).2.2.2.2.1) (gK fu) ((jK fu).2.2.2.2.2) (jo fu) w prog s).val else bif lu (lM (w.p.a_.getD prog.toNat bU) s.Num).1 then(aoE ((jK fu).1) (dI fu) ((jK fu).2.1) (dQ fu) ((jK fu).2.2.1) (dF fu) ((jK fu).2.2.2.1) (fB fu) ((jK fu).2.2.2.2.1) (gK fu) ((jK fu).2.2.2.2.2) (jo fu) w prog s).val else bif (lM (w.p.a_.getD prog.toNat bU) s.Num).1.Card==4 then(aAu ((jK fu).1) (dI fu) ((jK fu).2.1) (dQ fu) ((jK fu).2.2.1) (dF fu) ((jK fu).2.2.2.1) (fB fu) ((jK fu).2.2.2.2.1) (gK fu) ((jK fu).2.2.2.2.2) (jo fu) w prog s).val else(aCK ((jK fu).1) (dI fu) ((jK fu).2.1) (dQ fu) ((jK fu).2.2.1) (dF fu) ((jK fu).2.2.2.1) (fB fu) ((jK fu).2.2.2.2.1) (gK fu) ((jK fu).2.2.2.2.2) (jo fu) w prog s).val,fun w prog v=>(arP ((jK fu).1) (dI fu) ((jK fu).2.1) (dQ fu) ((jK fu).2.2.1) (dF fu) ((jK fu).2.2.2.1) (fB fu) ((jK fu).2.2.2.2.1) (gK fu) ((jK fu).2.2.2.2.2) (jo fu) w prog v).val)
def arx (w:ai)(prog:Int)(v:af):Str:=(jK (4*tV v)).2.2.2.2.2 w prog v
def yL (fu:Nat):Prop:=(∀(w:ai) (o:Op) (v:af),dI fu w o v->(fun r=>eOk r (64*tV v)) ((jK fu).1 w o v))/\(∀(w:ai) (o:Op) (v:af),dQ fu w o v->(fun r=>(∀x∈r,KY x)/\vC r<=24+64*tV v) ((jK fu).2.1 w o v))/\(∀(w:ai) (o:Op) (v:af),dF fu w o v->(fun r=>(∀x∈r,KY x)/\vC r<=24+64*tV v) ((jK fu).2.2.1 w o v))/\(∀(w:ai) (o:Op) (v:af),fB fu w o v->(fun r=>(∀x∈r,KY x)/\vC r<=24+64*tV v) ((jK fu).2.2.2.1 w o v))/\(∀(w:ai) (prog:Int) (s:Slot),gK fu w prog s->(fun r=>(∀x∈r,KY x)/\vC r<=24+64*tV s.Val) ((jK fu).2.2.2.2.1 w prog s))/\(∀(w:ai) (prog:Int) (v:af),jo fu w prog v->(fun r=>r.length<=64*tV v) ((jK fu).2.2.2.2.2 w prog v))
abbrev Bo (fu:Nat):=Uj ((jK fu).1) (dI fu) ((jK fu).2.1) (dQ fu) ((jK fu).2.2.1) (dF fu) ((jK fu).2.2.2.1) (fB fu) ((jK fu).2.2.2.2.1) (gK fu) ((jK fu).2.2.2.2.2) (jo fu)
theorem Kt (fu:Nat)(ih:yL fu)(w:ai)(o:Op)(v:af)(h:dI (fu+1) w o v):jP (Bo fu w o v) (fun r=>eOk r (64*tV v)):=
 by
 obtain⟨h1,h2,h3,h4⟩:=h;unfold Bo Uj;simp only[af.dM];refine dO (fun hk=> ?_) (fun hk=>ah ?_)
 ·have hq:jo fu w o.Target v:=⟨h1,h2.1 hk,h3,by omega⟩;exact ak hq (ah (ai2 ⟨by decide,by decide⟩ (ih.2.2.2.2.2 _ _ _ hq)))
 ·exact atO (GL h3.1) (by have:=iy v;omega)
abbrev Au (fu:Nat):=UR ((jK fu).1) (dI fu) ((jK fu).2.1) (dQ fu) ((jK fu).2.2.1) (dF fu) ((jK fu).2.2.2.1) (fB fu) ((jK fu).2.2.2.2.1) (gK fu) ((jK fu).2.2.2.2.2) (jo fu)
theorem Ky (fu:Nat)(ih:yL fu)(w:ai)(o:Op)(v:af)(h:dQ (fu+1) w o v):jP (Au fu w o v) (fun r=>(∀x∈r,KY x)/\vC r<=24+64*tV v):=
 by
 obtain⟨h1,h2,h3,h4⟩:=h;have hl:=oV h3;have hb:=h3.2;have hpl:=hl.2.2.2.1;have ht:=iy v;have hs:=ve v.Pairs;unfold Au UR;simp only[af.dM];refine bZ <| df (fun i y=>y.length<=i/\(∀x∈y,KY x)/\vC y<=64*jF tP (v.Pairs.take i)) ⟨lU _,fun x hx=>absurd hx (V7),uN _⟩ (by have:=hl.2.2.2.1;omega) (fun i1 y2 hi hI=> ?_) fun y2 hI=>ah ⟨hI.2.1,?_⟩
 ·have hm:=getD_mem (d:=gG) hi;obtain⟨g1,g2,g3,g4⟩:=yc h3 hm;have gk:=ahe h3 hm;have hq:dI fu w o (v.Pairs.getD i1 gG).Val:=⟨h1,h2,g1,by omega⟩;have k1:=ih.1 _ _ _ hq;have k2:=GL gk;have tk:=iy (v.Pairs.getD i1 gG).Key;have e1:=pR (f:=tP) (d:=gG) hi;have e2:=OL (v.Pairs.getD i1 gG);refine bi au au (ak hq (aC fun v4 hv4=>aC fun v5 hv5=> ?_));obtain⟨n1,n2⟩:=xX (num:=2) ⟨by decide,by decide⟩ k1;obtain⟨n3,n4⟩:=xX (num:=1) ⟨by decide,by decide⟩ k2;rw[<-hv4]at n1 n2;rw[<-hv5]at n3 n4;have el:vC [v5,v4]=24+v5.Data.length+(24+v4.Data.length):=rfl;have pq:WY [v5,v4]:=⟨ajN n3 n1,by rw[el];omega⟩;have pl:=aco pq;rw[el]at pl;refine ak pq (ak (b_ qba qba) (ah ⟨by have:=hI.1;simp only[pz,xH,A7];omega,o6 hI.2.1 (kG ?_),?_⟩))
  ·exact Td (f:=Raw.mk o.Num 6 0 (NR [v5,v4])) h2.2.2 ⟨(by decide:(0:Int)<=6),PE 6⟩ u0 (fun h=>absurd h (by decide:¬(6:Int)<=2)) (fun _=>rfl)
  ·have:=hI.2.2;rw[Jw,JI,e1,e2];show vC y2+(24+(NR [v5,v4]).length)<=_
   omega
 ·have:=hI.2.2;rw[DT]at this;omega
abbrev xP (fu:Nat):=MN ((jK fu).1) (dI fu) ((jK fu).2.1) (dQ fu) ((jK fu).2.2.1) (dF fu) ((jK fu).2.2.2.1) (fB fu) ((jK fu).2.2.2.2.1) (gK fu) ((jK fu).2.2.2.2.2) (jo fu)
theorem Gs (fu:Nat)(ih:yL fu)(w:ai)(o:Op)(v:af)(h:dF (fu+1) w o v):jP (xP fu w o v) (fun r=>(∀x∈r,KY x)/\vC r<=24+64*tV v):=
 by
 obtain⟨h1,h2,h3,h4⟩:=h;have hl:=oV h3;have hb:=h3.2;have ht:=iy v;have hs:=ul v.List;unfold xP MN;simp only[af.dM];refine bZ <| df (fun i y=>y.length<=i/\(∀x∈y,KY x)/\vC y<=64*jF (fun x=>1+tV x) (v.List.take i)) ⟨lU _,fun x hx=>absurd hx (V7),uN _⟩ au (fun i1 y2 hi hI=> ?_) fun y2 hI=>ah ⟨hI.2.1,?_⟩
 ·obtain⟨g1,g2⟩:=Bz h3 (getD_mem (d:=fM) hi);have hq:dI fu w o (v.List.getD i1 fM):=⟨h1,h2,g1,by omega⟩;have k1:=ih.1 _ _ _ hq;have e1:=pR (f:=fun x=>1+tV x) (d:=fM) hi;obtain⟨n1,n2⟩:=xX h2.2.2 k1;refine bi au au (ak hq (ak (b_ qba qba) (ah ⟨by have:=hI.1;simp only[pz,xH,A7];omega,o6 hI.2.1 (kG n1),?_⟩)));have:=hI.2.2;rw[Jw,JI,e1];omega
 ·have:=hI.2.2;rw[DT]at this;omega
abbrev FI (fu:Nat):=abl ((jK fu).1) (dI fu) ((jK fu).2.1) (dQ fu) ((jK fu).2.2.1) (dF fu) ((jK fu).2.2.2.1) (fB fu) ((jK fu).2.2.2.2.1) (gK fu) ((jK fu).2.2.2.2.2) (jo fu)
theorem N9 (fu:Nat)(ih:yL fu)(w:ai)(o:Op)(v:af)(h:fB (fu+1) w o v):jP (FI fu w o v) (fun r=>(∀x∈r,KY x)/\vC r<=24+64*tV v):=
 by
 obtain⟨h1,h2,h3,h4⟩:=h;unfold FI abl;simp only[af.dM];have hq:dI fu w o v:=⟨h1,h2,h3,by omega⟩;obtain⟨n1,n2⟩:=xX h2.2.2 (ih.1 _ _ _ hq);exact ak hq (ah ⟨kG n1,by rw[JI];omega⟩)
abbrev Q9 (fu:Nat):=aCx ((jK fu).1) (dI fu) ((jK fu).2.1) (dQ fu) ((jK fu).2.2.1) (dF fu) ((jK fu).2.2.2.1) (fB fu) ((jK fu).2.2.2.2.1) (gK fu) ((jK fu).2.2.2.2.2) (jo fu)
theorem aeu (fu:Nat)(ih:yL fu)(w:ai)(prog:Int)(s:Slot)(h:gK (fu+1) w prog s)(hc:((lM (w.p.a_.getD prog.toNat bU) s.Num).1.Card==5)=true):jP (Q9 fu w prog s) (fun r=>(∀x∈r,KY x)/\vC r<=24+64*tV s.Val):=
 by
 obtain⟨h1,h2,h3,h4⟩:=h;unfold Q9 aCx;simp only[af.dM];refine bi h2.1 h2.2 (aC fun v1 hv1=>dR (fun _=>ah ⟨fun x hx=>absurd hx (V7),uN _⟩) fun hf=> ?_);have ho:=(h1 _ (getD_mem (d:=bU) (l:=w.p.a_) (i:=prog.toNat) au)).2 _ (JC (g:=w.p.a_.getD prog.toNat bU) (num:=s.Num) qco);rw[<-hv1]at ho hc;have hq:dQ fu w v1.1 s.Val:=⟨h1,ho,h3,by omega⟩;exact ak ⟨hc,trivial⟩ (ak hq (ah (ih.2.1 _ _ _ hq)))
abbrev Ip (fu:Nat):=aoE ((jK fu).1) (dI fu) ((jK fu).2.1) (dQ fu) ((jK fu).2.2.1) (dF fu) ((jK fu).2.2.2.1) (fB fu) ((jK fu).2.2.2.2.1) (gK fu) ((jK fu).2.2.2.2.2) (jo fu)
theorem Yk (fu:Nat)(ih:yL fu)(w:ai)(prog:Int)(s:Slot)(h:gK (fu+1) w prog s)(hc:(lu (lM (w.p.a_.getD prog.toNat bU) s.Num).1)=true/\((lM (w.p.a_.getD prog.toNat bU) s.Num).1.Card==5)=false):jP (Ip fu w prog s) (fun r=>(∀x∈r,KY x)/\vC r<=24+64*tV s.Val):=
 by
 obtain⟨h1,h2,h3,h4⟩:=h;unfold Ip aoE;simp only[af.dM];refine bi h2.1 h2.2 (aC fun v1 hv1=>dR (fun _=>ah ⟨fun x hx=>absurd hx (V7),uN _⟩) fun hf=> ?_);have ho:=(h1 _ (getD_mem (d:=bU) (l:=w.p.a_) (i:=prog.toNat) au)).2 _ (JC (g:=w.p.a_.getD prog.toNat bU) (num:=s.Num) qco);rw[<-hv1]at ho hc;exact ak ⟨hc.2,hc.1,trivial⟩ (ak ⟨ho.2.2,h3⟩ (ah (XN w v1.1 s.Val ⟨ho.2.2,h3⟩).2))
abbrev UZ (fu:Nat):=aAu ((jK fu).1) (dI fu) ((jK fu).2.1) (dQ fu) ((jK fu).2.2.1) (dF fu) ((jK fu).2.2.2.1) (fB fu) ((jK fu).2.2.2.2.1) (gK fu) ((jK fu).2.2.2.2.2) (jo fu)
theorem acI (fu:Nat)(ih:yL fu)(w:ai)(prog:Int)(s:Slot)(h:gK (fu+1) w prog s)(hc:((lM (w.p.a_.getD prog.toNat bU) s.Num).1.Card==4)=true/\(lu (lM (w.p.a_.getD prog.toNat bU) s.Num).1)=false/\((lM (w.p.a_.getD prog.toNat bU) s.Num).1.Card==5)=false):jP (UZ fu w prog s) (fun r=>(∀x∈r,KY x)/\vC r<=24+64*tV s.Val):=
 by
 obtain⟨h1,h2,h3,h4⟩:=h;unfold UZ aAu;simp only[af.dM];refine bi h2.1 h2.2 (aC fun v1 hv1=>dR (fun _=>ah ⟨fun x hx=>absurd hx (V7),uN _⟩) fun hf=> ?_);have ho:=(h1 _ (getD_mem (d:=bU) (l:=w.p.a_) (i:=prog.toNat) au)).2 _ (JC (g:=w.p.a_.getD prog.toNat bU) (num:=s.Num) qco);rw[<-hv1]at ho hc;have hq:dF fu w v1.1 s.Val:=⟨h1,ho,h3,by omega⟩;exact ak ⟨hc.2.2,hc.2.1,hc.1,trivial⟩ (ak hq (ah (ih.2.2.1 _ _ _ hq)))
abbrev Rx (fu:Nat):=aCK ((jK fu).1) (dI fu) ((jK fu).2.1) (dQ fu) ((jK fu).2.2.1) (dF fu) ((jK fu).2.2.2.1) (fB fu) ((jK fu).2.2.2.2.1) (gK fu) ((jK fu).2.2.2.2.2) (jo fu)
theorem acU (fu:Nat)(ih:yL fu)(w:ai)(prog:Int)(s:Slot)(h:gK (fu+1) w prog s)(hc:((lM (w.p.a_.getD prog.toNat bU) s.Num).1.Card==4)=false/\(lu (lM (w.p.a_.getD prog.toNat bU) s.Num).1)=false/\((lM (w.p.a_.getD prog.toNat bU) s.Num).1.Card==5)=false):jP (Rx fu w prog s) (fun r=>(∀x∈r,KY x)/\vC r<=24+64*tV s.Val):=
 by
 obtain⟨h1,h2,h3,h4⟩:=h;unfold Rx aCK;simp only[af.dM];refine bi h2.1 h2.2 (aC fun v1 hv1=>dR (fun _=>ah ⟨fun x hx=>absurd hx (V7),uN _⟩) fun hf=> ?_);have ho:=(h1 _ (getD_mem (d:=bU) (l:=w.p.a_) (i:=prog.toNat) au)).2 _ (JC (g:=w.p.a_.getD prog.toNat bU) (num:=s.Num) qco);rw[<-hv1]at ho hc;have hq:fB fu w v1.1 s.Val:=⟨h1,ho,h3,by omega⟩;exact ak ⟨hc.2.2,hc.2.1,hc.1,trivial⟩ (ak hq (ah (ih.2.2.2.1 _ _ _ hq)))
abbrev PQ (fu:Nat):=arP ((jK fu).1) (dI fu) ((jK fu).2.1) (dQ fu) ((jK fu).2.2.1) (dF fu) ((jK fu).2.2.2.1) (fB fu) ((jK fu).2.2.2.2.1) (gK fu) ((jK fu).2.2.2.2.2) (jo fu)
theorem XH (fu:Nat)(ih:yL fu)(w:ai)(prog:Int)(v:af)(h:jo (fu+1) w prog v):jP (PQ fu w prog v) (fun r=>r.length<=64*tV v):=
 by
 obtain⟨h1,h2,h3,h4⟩:=h;unfold PQ arP;simp only[af.dM];obtain⟨n1,n2⟩:=OG w.p prog v h3;have hb:=h3.2;refine ak h3 (aC fun v6 hv6=> ?_);rw[<-hv6]at n1 n2;have hg:gV v6:=⟨n1,by omega⟩;have hl:=oV hg;have ht:=iy v6;have ks:=(ik v6).1 n1;have sR:=avg v6.bJ;have sL:=IG v6.bJ;have sS:=vG v6.Slots;have smt:∀i,jF tS (v6.Slots.take i)<=jF tS v6.Slots:=fun i=>uH (Qdi i _)
 refine bZ <| df (enI v6) ⟨fun x hx=>absurd hx (V7),ks.1.2,lU _,by show vC []+vC v6.bJ<=_;have:vC []=0:=rfl;omega⟩ au (fun i1 y2 hi hI=> ?_) fun y2 hI=> ?_
 ·refine bi au au (dh (enI v6 i1) (wX (enI v6 i1) (fun x=>x.2.length) hI (by have:=hI.2.2.1;show y2.2.length < tV v+1;omega) fun x hx=> ?_) fun y4 hy4=> ?_)
  ·obtain⟨o,r⟩:=x;cases r with
   | nil=>exact bV (fun hp=>absurd hp (by show ¬(0:Int) < ((([]:List Raw).length:Nat):Int);simp)) fun _=>ah hx
   | cons a t=>
    obtain⟨x1,x2,x3,x4⟩:=hx;have x3:t.length+1<=v6.bJ.length:=x3;have x4:vC o+vC (a::t)<=vC v6.bJ+64*jF tS (v6.Slots.take i1):=x4;rw[TL]at x4;have q1:=FC o;have q2:=smt i1;have ed:List.drop 1 (List.take (a::t).length (a::t))=t:=by simp
    refine bV (fun hp=>bi (PE 0) qca (bV (fun hlt=>bi (PE 0) qca (ak (b_ (by show o.length+1<=_;omega) (by show(o.length+1)*40<=_;omega)) (ak (by simp only[xH];omega) (ah ?_)))) fun _=>ah ⟨x1,x2,x3,by rw[TL];exact x4⟩)) fun _=>ah ⟨x1,x2,x3,by rw[TL];exact x4⟩;rw[ed];refine⟨⟨o6 x1 (kG (x2 a (List.mem_cons_self))),fun z hz=>x2 z (Qbz _ hz),by show t.length<=_;omega,?_⟩,by show t.length < (a::t).length;simp⟩;show vC (o++[a])+vC t<=_
    rw[Jw,JI];omega
  ·have hm:=getD_mem (d:=bI) hi;obtain⟨g1,g2⟩:=J4 hg hm;have e1:=pR (f:=tS) (d:=bI) hi;have e2:=wS (v6.Slots.getD i1 bI);have q2:=smt (i1+1);generalize v6.Slots.getD i1 bI=a at*;rw[Slot.eta];have hq:gK fu w prog a:=⟨h1,h2,g1,by omega⟩;obtain⟨k1,k2⟩:=ih.2.2.2.2.1 w prog a hq;obtain⟨x1,x2,x3,x4⟩:=hy4;have q1:=FC y4.1;have q3:=FC ((jK fu).2.2.2.2.1 w prog a);refine ak hq (ak (b_ au au) (ah ⟨o6 x1 k1,x2,x3,?_⟩));show vC (y4.1++(jK fu).2.2.2.2.1 w prog a)+vC y4.2<=_
   rw[Jw,e1,e2];omega
 ·obtain⟨x1,x2,x3,x4⟩:=hI;have q1:=FC y2.1;have q2:=FC y2.2;rw[DT]at x4;refine ak (b_ au au) (aC fun v7 hv7=> ?_);have e7:vC v7=vC y2.1+vC y2.2:=by rw[hv7,Jw]
  have pq:WY v7:=⟨by rw[hv7];exact o6 x1 x2,by omega⟩;have pl:=aco pq;exact ak pq (ah (by show(NR v7).length<=64*tV v;omega))
theorem lQ:∀fu,yL fu
 | 0=>⟨fun w o v h=>False.elim qb1,
  fun w o v h=>False.elim qb1,
  fun w o v h=>False.elim qb1,
  fun w o v h=>False.elim qb1,
  fun w prog s h=>False.elim (by have k:=h.2.2.2;have:=lV s.Val;omega),
  fun w prog v h=>False.elim qb1⟩
 | fu+1=>⟨fun w o v h=>(Kt fu (lQ fu) w o v h).2,
  fun w o v h=>(Ky fu (lQ fu) w o v h).2,
  fun w o v h=>(Gs fu (lQ fu) w o v h).2,
  fun w o v h=>(N9 fu (lQ fu) w o v h).2,
  fun w prog s h=>by
  show(fun r=>(∀x∈r,KY x)/\vC r<=24+64*tV s.Val) ((jK (fu+1)).2.2.2.2.1 w prog s)
  unfold jK;dsimp only;cases hc0:((lM (w.p.a_.getD prog.toNat bU) s.Num).1.Card==5)with
  | true=>exact(aeu fu (lQ fu) w prog s h hc0).2
  | false=>
   cases hc1:(lu (lM (w.p.a_.getD prog.toNat bU) s.Num).1)with
   | true=>exact(Yk fu (lQ fu) w prog s h ⟨hc1,hc0⟩).2
   | false=>
    cases hc2:((lM (w.p.a_.getD prog.toNat bU) s.Num).1.Card==4)with
    | true=>exact(acI fu (lQ fu) w prog s h ⟨hc2,hc1,hc0⟩).2
    | false=>
     exact(acU fu (lQ fu) w prog s h ⟨hc2,hc1,hc0⟩).2,
  fun w prog v h=>(XH fu (lQ fu) w prog v h).2⟩
theorem aeh (fu:Nat)(w:ai)(o:Op)(v:af)(h:dI (fu+1) w o v):Is (Bo fu w o v):=(Kt fu (lQ fu) w o v h).1
theorem ael (fu:Nat)(w:ai)(o:Op)(v:af)(h:dQ (fu+1) w o v):Is (Au fu w o v):=(Ky fu (lQ fu) w o v h).1
theorem Zc (fu:Nat)(w:ai)(o:Op)(v:af)(h:dF (fu+1) w o v):Is (xP fu w o v):=(Gs fu (lQ fu) w o v h).1
theorem af7 (fu:Nat)(w:ai)(o:Op)(v:af)(h:fB (fu+1) w o v):Is (FI fu w o v):=(N9 fu (lQ fu) w o v h).1
theorem aww (fu:Nat)(w:ai)(prog:Int)(s:Slot)(h:gK (fu+1) w prog s)(hc:((lM (w.p.a_.getD prog.toNat bU) s.Num).1.Card==5)=true):Is (Q9 fu w prog s):=(aeu fu (lQ fu) w prog s h hc).1
theorem aoV (fu:Nat)(w:ai)(prog:Int)(s:Slot)(h:gK (fu+1) w prog s)(hc:(lu (lM (w.p.a_.getD prog.toNat bU) s.Num).1)=true/\((lM (w.p.a_.getD prog.toNat bU) s.Num).1.Card==5)=false):Is (Ip fu w prog s):=(Yk fu (lQ fu) w prog s h hc).1
theorem axG (fu:Nat)(w:ai)(prog:Int)(s:Slot)(h:gK (fu+1) w prog s)(hc:((lM (w.p.a_.getD prog.toNat bU) s.Num).1.Card==4)=true/\(lu (lM (w.p.a_.getD prog.toNat bU) s.Num).1)=false/\((lM (w.p.a_.getD prog.toNat bU) s.Num).1.Card==5)=false):Is (UZ fu w prog s):=(acI fu (lQ fu) w prog s h hc).1
theorem au_ (fu:Nat)(w:ai)(prog:Int)(s:Slot)(h:gK (fu+1) w prog s)(hc:((lM (w.p.a_.getD prog.toNat bU) s.Num).1.Card==4)=false/\(lu (lM (w.p.a_.getD prog.toNat bU) s.Num).1)=false/\((lM (w.p.a_.getD prog.toNat bU) s.Num).1.Card==5)=false):Is (Rx fu w prog s):=(acU fu (lQ fu) w prog s h hc).1
theorem ata (fu:Nat)(w:ai)(prog:Int)(v:af)(h:jo (fu+1) w prog v):Is (PQ fu w prog v):=(XH fu (lQ fu) w prog v h).1
set_option maxHeartbeats 4000000 in
theorem azd:∀fu,fV Z.P Z.S 401 (oL (args (aj (aF fK) (aj (aF je) (a1 (aF aI))))) (shr [.slot 0 true (nn 4)] (l1 og)) 1 [] (fun a=>some (dI fu (a.1) (a.2.1) (a.2.2))) (fun a=>(jK fu).1 (a.1) (a.2.1) (a.2.2)))/\fV Z.P Z.S 336 (oL (args (aj (aF fK) (aj (aF je) (a1 (aF aI))))) (R1 bD) 1 [] (fun a=>some (dQ fu (a.1) (a.2.1) (a.2.2))) (fun a=>(jK fu).2.1 (a.1) (a.2.1) (a.2.2)))/\fV Z.P Z.S 338 (oL (args (aj (aF fK) (aj (aF je) (a1 (aF aI))))) (R1 bD) 1 [] (fun a=>some (dF fu (a.1) (a.2.1) (a.2.2))) (fun a=>(jK fu).2.2.1 (a.1) (a.2.1) (a.2.2)))/\fV Z.P Z.S 339 (oL (args (aj (aF fK) (aj (aF je) (a1 (aF aI))))) (R1 bD) 1 [] (fun a=>some (fB fu (a.1) (a.2.1) (a.2.2))) (fun a=>(jK fu).2.2.2.1 (a.1) (a.2.1) (a.2.2)))/\fV Z.P Z.S 142 (oL (args (aj (aF fK) (aj (bn cI) (a1 (aF mg))))) (R1 bD) 1 [] (fun a=>some (gK fu (a.1) (a.2.1) (a.2.2))) (fun a=>(jK fu).2.2.2.2.1 (a.1) (a.2.1) (a.2.2)))/\fV Z.P Z.S 93 (oL (args (aj (aF fK) (aj (bn cI) (a1 (aF aI))))) (R1 cStr) 1 [] (fun a=>some (jo fu (a.1) (a.2.1) (a.2.2))) (fun a=>(jK fu).2.2.2.2.2 (a.1) (a.2.1) (a.2.2)))
 | 0=>⟨iG func401 dS (fun a h=>by have k:=h.2.2.2;have:=lV (a.2.2);omega),
  iG func336 dS (fun a h=>by have k:=h.2.2.2;have:=lV (a.2.2);omega),
  iG func338 dS (fun a h=>by have k:=h.2.2.2;have:=lV (a.2.2);omega),
  iG func339 dS (fun a h=>by have k:=h.2.2.2;have:=lV (a.2.2);omega),
  iG func142 dS (fun a h=>by have k:=h.2.2.2;have:=lV (a.2.2).Val;omega),
  iG func93 dS (fun a h=>by have k:=h.2.2.2;have:=lV (a.2.2);omega)⟩
 | fu+1=>by
  obtain⟨h0,h1,h2,h3,h4,h5⟩:=azd fu;have aDT:fV Z.P Z.S 142 (oL (args (aj (aF fK) (aj (bn cI) (a1 (aF mg))))) (R1 bD) 1 [] (fun a=>some (((lM ((a.1).p.a_.getD (a.2.1).toNat bU) (a.2.2).Num).1.Card==5)=true/\(gK (fu+1) (a.1) (a.2.1) (a.2.2)))) (fun a=>(Q9 fu (a.1) (a.2.1) (a.2.2)).val)):=Eo [Ov,aAB,⟨401,_,h0⟩,⟨336,_,h1⟩,⟨338,_,h2⟩,⟨339,_,h3⟩,⟨142,_,h4⟩,⟨93,_,h5⟩] [] func142 ntmps142 (fun a=>Q9 fu a.1 a.2.1 a.2.2) (fun a h=>⟨aww fu a.1 a.2.1 a.2.2 h.2 h.1,rfl⟩) (kL (n:=30) rfl);have aDU:fV Z.P Z.S 142 (oL (args (aj (aF fK) (aj (bn cI) (a1 (aF mg))))) (R1 bD) 1 [] (fun a=>some ((lu (lM ((a.1).p.a_.getD (a.2.1).toNat bU) (a.2.2).Num).1)=true/\(((lM ((a.1).p.a_.getD (a.2.1).toNat bU) (a.2.2).Num).1.Card==5)=false/\(gK (fu+1) (a.1) (a.2.1) (a.2.2))))) (fun a=>(Ip fu (a.1) (a.2.1) (a.2.2)).val)):=Eo [Ov,aAC,ayc,⟨401,_,h0⟩,⟨336,_,h1⟩,⟨338,_,h2⟩,⟨339,_,h3⟩,⟨142,_,h4⟩,⟨93,_,h5⟩] [] func142 ntmps142 (fun a=>Ip fu a.1 a.2.1 a.2.2) (fun a h=>⟨aoV fu a.1 a.2.1 a.2.2 h.2.2 ⟨h.1,h.2.1⟩,rfl⟩) (kL (n:=30) rfl);have aDV:fV Z.P Z.S 142 (oL (args (aj (aF fK) (aj (bn cI) (a1 (aF mg))))) (R1 bD) 1 [] (fun a=>some (((lM ((a.1).p.a_.getD (a.2.1).toNat bU) (a.2.2).Num).1.Card==4)=true/\((lu (lM ((a.1).p.a_.getD (a.2.1).toNat bU) (a.2.2).Num).1)=false/\(((lM ((a.1).p.a_.getD (a.2.1).toNat bU) (a.2.2).Num).1.Card==5)=false/\(gK (fu+1) (a.1) (a.2.1) (a.2.2)))))) (fun a=>(UZ fu (a.1) (a.2.1) (a.2.2)).val)):=Eo [Ov,aC8,⟨401,_,h0⟩,⟨336,_,h1⟩,⟨338,_,h2⟩,⟨339,_,h3⟩,⟨142,_,h4⟩,⟨93,_,h5⟩] [] func142 ntmps142 (fun a=>UZ fu a.1 a.2.1 a.2.2) (fun a h=>⟨axG fu a.1 a.2.1 a.2.2 h.2.2.2 ⟨h.1,h.2.1,h.2.2.1⟩,rfl⟩) (kL (n:=30) rfl);have aDW:fV Z.P Z.S 142 (oL (args (aj (aF fK) (aj (bn cI) (a1 (aF mg))))) (R1 bD) 1 [] (fun a=>some (((lM ((a.1).p.a_.getD (a.2.1).toNat bU) (a.2.2).Num).1.Card==4)=false/\((lu (lM ((a.1).p.a_.getD (a.2.1).toNat bU) (a.2.2).Num).1)=false/\(((lM ((a.1).p.a_.getD (a.2.1).toNat bU) (a.2.2).Num).1.Card==5)=false/\(gK (fu+1) (a.1) (a.2.1) (a.2.2)))))) (fun a=>(Rx fu (a.1) (a.2.1) (a.2.2)).val)):=Eo [Ov,aAJ,⟨401,_,h0⟩,⟨336,_,h1⟩,⟨338,_,h2⟩,⟨339,_,h3⟩,⟨142,_,h4⟩,⟨93,_,h5⟩] [] func142 ntmps142 (fun a=>Rx fu a.1 a.2.1 a.2.2) (fun a h=>⟨au_ fu a.1 a.2.1 a.2.2 h.2.2.2 ⟨h.1,h.2.1,h.2.2.1⟩,rfl⟩) (kL (n:=30) rfl);exact⟨Eo [Lc,⟨401,_,h0⟩,⟨336,_,h1⟩,⟨338,_,h2⟩,⟨339,_,h3⟩,⟨142,_,h4⟩,⟨93,_,h5⟩] [] func401 ntmps401 (fun a=>Bo fu a.1 a.2.1 a.2.2) (fun a h=>⟨aeh fu a.1 a.2.1 a.2.2 h,rfl⟩) (kL (n:=18) rfl),
   Eo [aqc,D5,Lc,⟨401,_,h0⟩,⟨336,_,h1⟩,⟨338,_,h2⟩,⟨339,_,h3⟩,⟨142,_,h4⟩,⟨93,_,h5⟩] [jS 3 (bP (fun sl=>[s0 14, .slot 7 false [some 264]]) (az cI (l1 bD)))] func336 ntmps336 (fun a=>Au fu a.1 a.2.1 a.2.2) (fun a h=>⟨ael fu a.1 a.2.1 a.2.2 h,rfl⟩) (kL (n:=39) rfl),
   Eo [D5,⟨401,_,h0⟩,⟨336,_,h1⟩,⟨338,_,h2⟩,⟨339,_,h3⟩,⟨142,_,h4⟩,⟨93,_,h5⟩] [jS 3 (bP (fun sl=>[s0 13, .slot 7 false [some 264]]) (az cI (l1 bD)))] func338 ntmps338 (fun a=>xP fu a.1 a.2.1 a.2.2) (fun a h=>⟨Zc fu a.1 a.2.1 a.2.2 h,rfl⟩) (kL (n:=29) rfl),
   Eo [D5,⟨401,_,h0⟩,⟨336,_,h1⟩,⟨338,_,h2⟩,⟨339,_,h3⟩,⟨142,_,h4⟩,⟨93,_,h5⟩] [] func339 ntmps339 (fun a=>FI fu a.1 a.2.1 a.2.2) (fun a h=>⟨af7 fu a.1 a.2.1 a.2.2 h,rfl⟩) (kL (n:=15) rfl),
   GU aDT (GU aDU (GU aDV (aDW))),
   Eo [akH,aqc,⟨401,_,h0⟩,⟨336,_,h1⟩,⟨338,_,h2⟩,⟨339,_,h3⟩,⟨142,_,h4⟩,⟨93,_,h5⟩] [jS 5 (bP (fun sl=>[s0 22, .slot 8 false [some 264], s0 9]) (az cI (az bD (l1 bD)))),jS 7 (bP (fun sl=>[.slot 8 false [some 264], s0 9]) (az bD (l1 bD))),jS 100010 (bP (fun sl=>[.slot 8 false [some 264], s0 9]) (az bD (l1 bD)))] func93 ntmps93 (fun a=>PQ fu a.1 a.2.1 a.2.2) (fun a h=>⟨ata fu a.1 a.2.1 a.2.2 h,rfl⟩) (kL (n:=57) rfl)⟩
def axx:aU Z:=⟨93,oL (args (aj (aF fK) (aj (bn cI) (a1 (aF aI))))) (R1 cStr) 1 [] (fun a=>some (gu (a.1).p/\(0<=(a.2.1)/\(a.2.1) < (a.1).p.a_.length)/\gV (a.2.2))) (fun a=>arx (a.1) (a.2.1) (a.2.2)),jT (fun n=>((azd n).2.2.2.2.2)) _ _ (fun a h=>⟨4*tV (a.2.2),⟨h.1,h.2.1,h.2.2,lU _⟩,rfl⟩)⟩
def aje (p:dC)(prog:Int):Pg Bool:=.br (decide (0<=prog)) (.br (decide (prog < (↑p.a_.length:Int))) (.ob (Gp p/\gu p) (aL p.a_ (.ret (ax4 p==0)))) (aL p.a_ (.ret false))) (.ret false)
def apy (p:dC)(prog:Int):=(aje p prog).val
def alO:aU Z:=E1 [aq2] [] (aj (aF dX) (a1 (bn cI))) (R1 aG) [] func91 1 (u2 aje) fun a=>Gp a.1/\gu a.1
def Qx (p:dC)(name:Str)(v:af):Pg (List UInt8×Int):=.lt (zf p name) fun(v1:Int×Bool)=> .br (!v1.2) (.ret ([],10)) (.ob (Gp p/\gu p) (.br (!apy p v1.1) (.ret ([],1)) (.ob (gu p/\gV v.re) (.lt (aDr p v1.1 v.re) fun(v2:Int)=> .br (v2 !=0) (.ret ([],v2)) (.ob (gu p/\(0<=v1.1/\v1.1 < (↑p.a_.length:Int))/\gV v.re) (.lt (arx (ai.mk p) v1.1 v.re) fun(v3:Str)=> .br (decide (65536 < (↑(List.length v3):Int))) (.ret ([],3)) (.ret (v3,0))))))))
def adB (p:dC)(name:Str)(v:af):=(Qx p name v).val
theorem Dt (p:dC)(name:Str)(v:af)(h:Gp p/\gu p/\gV v):jP (Qx p name v) (fun r=>r.1.length<=65536):=
 by
 obtain⟨h1,h2,h3⟩:=h;unfold Qx;simp only[af.dM];refine aC fun v1 hv1=>dR (fun _=>ah (uN _)) fun hf=>ak ⟨h1,h2⟩ (dR (fun _=>ah (uN _)) fun _=>ak ⟨h2,h3⟩ (aC fun v2 hv2=>dw (fun _=>ah (uN _)) fun _=>ak ⟨h2,?_,h3⟩ (aC fun v3 hv3=>bV (fun _=>ah (uN _)) fun hle=>ah (by show v3.length<=65536;omega))));rw[hv1]at hf⊢;exact VA (by simpa using hf)
def z_:aU Z:=E1 [aaT,alO,awz,axx] [] (aj (aF dX) (aj (bn cStr) (a1 (aF aI)))) (shr [s0 0, s0 1] (az cStr (l1 cI))) [] func43 2 (u3 Qx) (fun a=>Gp a.1/\gu a.1/\gV a.2.2) fun a h=>(Dt a.1 a.2.1 a.2.2 h).1
def ug (s:Server)(path:Str):Pg (cO×Bool):=aL s.Handlers (.each false tX s.Handlers kC (fun i1 a3 (y2:Unit)=> .ix i1 s.Handlers.length (.br (a3.Method==path) (.ret (.inr (a3,true))) (rl ()))) (fun i1 (y2:Unit)=> .ret (cO.mk [] 0 0 0,false)) ())
def jH (s:Server)(path:Str):=(ug s path).val
def CY:aU Z:=E0 [] [jS 2 (bP (fun sl=>[s0 11]) (l1 cI))] (aj (aF gW) (a1 (bn cStr))) (shr [.slot 0 true (nn 4), s0 1] (az jm (l1 aG))) [] func45 2 (u2 ug)
def Qy (s:Server)(conn:Int)(id:Int):Pg Int:=aL s.Tasks (.each false tX s.Tasks bM (fun i1 a3 (y2:Unit)=> .ix i1 s.Tasks.length (.br (a3.qB==conn) (.br (a3.Id==id) (.ret (.inr i1)) (rl ())) (rl ()))) (fun i1 (y2:Unit)=> .ret (-1)) ())
def ji (s:Server)(conn:Int)(id:Int):=(Qy s conn id).val
def LV:aU Z:=E0 [] [jS 2 (bP (fun sl=>[s0 12]) (l1 cI))] (aj (aF gW) (aj (bn cI) (a1 (bn cI)))) (R1 cI) [] func46 1 (u3 Qy)
theorem apx {s:Server}{c i:Int}:ji s c i < s.Tasks.length/\(0<=ji s c i->((s.Tasks.getD (ji s c i).toNat bM).qB=c/\(s.Tasks.getD (ji s c i).toNat bM).Id=i)):=by
 have k:VP (Qy s c i) (fun r=>r < s.Tasks.length/\(0<=r->((s.Tasks.getD r.toNat bM).qB=c/\(s.Tasks.getD r.toNat bM).Id=i))):=by
  unfold Qy;refine oZ (kE (fun _ _=>True) trivial (fun k y hk _=>nJ (eP (fun e1=>eP (fun e2=>aS ⟨by omega,fun _=> ?_⟩) fun _=>aS trivial) fun _=>aS trivial)) fun y _=>aS ⟨by omega,fun h=>absurd h lY⟩);rw[zk];exact⟨eq_of_beq e1,eq_of_beq e2⟩
 exact k
def xY (s:Server):Prop:=okS s.ay/\ZT s.ay/\s.Tasks.length<=1048576/\∀t∈s.Tasks,t.Method.length<=1048576/\t.In.length<=1048576
def afy (s:Server)(i:Int)(t:ig):Pg Server:=.ob (bT (0+s.Tasks.length) 152) (.ix i s.Tasks.length (.ob (i.toNat < s.Tasks.length) (.ret (Server.mk s.Name s.ay s.Handlers s.iq s.Traces (s.Tasks.set i.toNat t) s.Most s.mM))))
def rW (s:Server)(i:Int)(t:ig):=(afy s i t).val
def ac0:aU Z:=E1 [] [] (aj (aF gW) (aj (bn cI) (a1 (aF Fj)))) (shr [.slot 0 true (nn 10)] (l1 gW)) [] func50 1 (u3 afy) fun a=>a.1.Tasks.length<=1048576/\0<=a.2.1/\a.2.1 < a.1.Tasks.length
def akO (shape:Int):Pg Bool:=.br (decide (1<=shape)) (.ret (decide (shape<=4))) (.ret false)
def arZ (shape:Int):=(akO shape).val
def al2:aU Z:=E0 [] [] (a1 (bn cI)) (R1 aG) [] func96 1 akO
def ai1 (shape:Int):Pg (Int×Int×Int×Int):=.br (!arZ shape) (.ret (0,0,0,0)) (.lt (kZ shape) fun(v2:Bool×Bool)=> .cut (fun(y1:Int×Int)=> .br v2.2 (.ret (y1.1,y1.2,0,(-1))) (.ret (y1.1,y1.2,1,1))) (.br v2.1 (rl (0,(-1))) (rl (1,1))))
def jV (shape:Int):=(ai1 shape).val
def Yf:aU Z:=E0 [tZ,al2] [jS 100007 (bP (fun sl=>[s0 8, s0 9]) (az cI (l1 cI)))] (a1 (bn cI)) (shr [s0 0, s0 1, s0 2, s0 3] (az cI (az cI (az cI (l1 cI))))) [] func49 4 ai1
def EF (s:ay)(name:Str)(data:Str):Pg (af×Int):=.ob (okS s) (.lt (sH s) fun(v1:dC×Int)=> .br (v1.2 !=0) (.ret (af.mk 0 0 [] [] [] [] [],v1.2)) (.ob (gu v1.1/\okL uB) (.lt (DI v1.1 name data uB) fun(v2:af×Int)=> .ret (v2.1.re,v2.2))))
def wY (s:ay)(name:Str)(data:Str):=(EF s name data).val
theorem FW (s:ay)(name:Str)(data:Str)(h:okS s):jP (EF s name data) (fun x=>x.2=0->kV x.1/\tV x.1<=1+8*data.length):=
 by
 unfold EF;simp only[af.dM];refine ak h (aC fun v1 hv1=>dw (fun hne=>ah fun e=>absurd e hne) fun h1=> ?_);rw[hv1]at h1⊢;have hp:=aaq h h1;exact ak ⟨hp,JL⟩ (aC fun v2 hv2=>ah (by rw[hv2];exact(Df _ name data uB ⟨hp,JL⟩).2))
def OO:aU Z:=E1 [ET,zH,D7] [] (aj (aF bC) (aj (bn cStr) (a1 (bn cStr)))) (shr [.slot 0 true (nn 7), s0 1] (az aI (l1 cI))) [] func53 2 (u3 EF) (fun a=>okS a.1) fun a h=>(FW a.1 a.2.1 a.2.2 h).1
def Fh (s:ay)(name:Str)(v:af):Pg (List UInt8×Int):=.ob (okS s) (.lt (sH s) fun(v1:dC×Int)=> .br (v1.2 !=0) (.ret ([],v1.2)) (.ob (Gp v1.1/\gu v1.1/\gV v.re) (.ret (adB v1.1 name v.re))))
def af1 (s:ay)(name:Str)(v:af):=(Fh s name v).val
theorem Wv (s:ay)(name:Str)(v:af)(h:okS s/\ZT s/\gV v):jP (Fh s name v) (fun r=>r.1.length<=65536):=
 by
 obtain⟨h,hn,hg⟩:=h;unfold Fh;simp only[af.dM];refine ak h (aC fun v1 hv1=>dw (fun hne=>ah (uN _)) fun h1=> ?_);rw[hv1]at h1⊢;have q:=And.intro (ao8 h hn h1) (And.intro (aaq h h1) hg);exact ak q (ah (Dt _ name v q).2)
def ad2:aU Z:=E1 [ET,z_] [] (aj (aF bC) (aj (bn cStr) (a1 (aF aI)))) (shr [s0 0, s0 1] (az cStr (l1 cI))) [] func98 2 (u3 Fh) (fun a=>okS a.1/\ZT a.1/\gV a.2.2) fun a h=>(Wv a.1 a.2.1 a.2.2 h).1
def aga (t:ig)(x:Status):Pg ig:=.ret (ig.mk t.qB t.Id t.Method t.eY t.fF t.In t.Ready t.dP x true)
def Az (t:ig)(x:Status):=(aga t x).val
def aem:aU Z:=E0 [] [] (aj (aF Fj) (a1 (aF jy))) (shr [.slot 0 true (nn 11)] (l1 Fj)) [] func51 1 (u2 aga)
def ZG (s:Server)(conn:Int)(id:Int):Pg Int:=.lt (ji s conn id) fun(v1:Int)=> .br (decide (v1 < 0)) (.ret (-1)) (.ix v1 s.Tasks.length (.br (s.Tasks.getD v1.toNat bM).nS (.ret (-1)) (.ix v1 s.Tasks.length (.br ((s.Tasks.getD v1.toNat bM).Ready !=(-1)) (.ret (-1)) (.ret v1)))))
def qZ (s:Server)(conn:Int)(id:Int):=(ZG s conn id).val
theorem ane (s:Server)(conn:Int)(id:Int):Is (ZG s conn id):=
 dB fun v1 hv1=>dV iR (fun h0=>by have hl:=(apx (s:=s) (c:=conn) (i:=id)).1;rw[<-hv1]at hl;exact dm au hl (di iR (fun _=>dm au hl (jG iR iR))))
def acm:aU Z:=E0 [LV] [] (aj (aF gW) (aj (bn cI) (a1 (bn cI)))) (R1 cI) [] func48 1 (u3 ZG) fun a=>ane a.1 a.2.1 a.2.2
theorem awp {s:Server}{c i:Int}(h:0<=qZ s c i):qZ s c i=ji s c i/\ji s c i < s.Tasks.length/\(s.Tasks.getD (ji s c i).toNat bM).nS=false/\(s.Tasks.getD (ji s c i).toNat bM).Ready= -1:=by
 have hl:=(apx (s:=s) (c:=c) (i:=i)).1;unfold qZ ZG at h⊢;simp only[dE,bH,iV,aV]at h⊢;by_cases h0:ji s c i < 0
 ·rw[qW h0]at h;exact absurd (show(0:Int)<= -1 from h) lY
 rw[qo h0]at h⊢;cases e1:(s.Tasks.getD (ji s c i).toNat bM).nS with
 | true=>rw[e1]at h;exact absurd (show(0:Int)<= -1 from h) lY
 | false=>
  rw[e1]at h;by_cases e2:(s.Tasks.getD (ji s c i).toNat bM).Ready= -1
  ·have e3:((s.Tasks.getD (ji s c i).toNat bM).Ready != -1)=false:=by rw[e2];rfl
   rw[e3];exact⟨rfl,hl,rfl,e2⟩
  ·have e3:((s.Tasks.getD (ji s c i).toNat bM).Ready != -1)=true:=bne_iff_ne.2 e2;rw[e3]at h;exact absurd (show(0:Int)<= -1 from h) lY
theorem ad9 {s:Server}{c i:Int}(h:¬qZ s c i < 0):0<=qZ s c i/\qZ s c i < s.Tasks.length/\s.Tasks.getD (qZ s c i).toNat bM∈s.Tasks:=by
 obtain⟨e,h1,_⟩:=awp (s:=s) (c:=c) (i:=i) au;have h0:0<=qZ s c i:=by omega
 exact⟨h0,by omega,getD_mem au⟩
theorem adu (s:Server)(i:Int)(t:ig):rW s i t=Server.mk s.Name s.ay s.Handlers s.iq s.Traces (s.Tasks.set i.toNat t) s.Most s.mM:=by
 unfold rW afy;simp only[dK,iV,aV]
theorem J_ (t:ig)(x:Status):Az t x=ig.mk t.qB t.Id t.Method t.eY t.fF t.In t.Ready t.dP x true:=by
 unfold Az aga;simp only[aV]
def aHU (s:Server)(v:Nat)(t:ig):Server:=Server.mk s.Name s.ay s.Handlers s.iq s.Traces (s.Tasks.set v t) s.Most s.mM
def adb (t t':ig):Prop:=t'.qB=t.qB/\t'.Id=t.Id/\t'.Method=t.Method/\t'.eY=t.eY/\t'.fF=t.fF
def stepT (s:Server)(c i:Int)(r:Server)(P:ig->ig->Prop):Prop:=(qZ s c i < 0/\r=s)\/∃v:Nat,v < s.Tasks.length/\qZ s c i=v/\∃t',(adb (s.Tasks.getD v bM) t'/\P (s.Tasks.getD v bM) t')/\r=aHU s v t'
def leT (s:Server)(t:ig):Int:=(jV (fD s.ay t.Method).1.Shape).1
def moT (s:Server)(t:ig):Int:=(jV (fD s.ay t.Method).1.Shape).2.1
def arp (s:Server)(data:Str)(t t':ig):Prop:=(t'.Ready=t.Ready/\t'.dP=t.dP)/\((t'.In=t.In/\t'.nS=true/\t'.Status.Code≠0)\/(t'.In=t.In++[data]/\t'.nS=t.nS/\t'.Status=t.Status/\(0<=moT s t->(t.In.length:Int) < moT s t)))
theorem awO {e:Int}(h:e≠0):(SL e).Code≠0:=by
 have k:VP (ato e) (fun r=>r.Code≠0):=by
  unfold ato;refine jI (fun y=>y≠0) (eP (fun _=>eP (fun _=>aS (by show(2:Int)≠0;decide)) fun _=>aS (by show(11:Int)≠0;decide)) fun _=>aS (by show(11:Int)≠0;decide)) fun y1 h1=>jI (fun y=>y≠0) (fC (asc (fun _ y=>y≠0) h1 (fun i y h0 h13 hI=>fC (eP (fun e1=>aS ?_) fun _=>aS hI)) fun i y _ _ hI=>aS hI)) fun y4 h4=>eP (fun e0=>absurd (eq_of_beq e0) h) fun _=>aS h4;obtain⟨n,rfl⟩:∃n:Nat,i=n:=⟨i.toNat,by omega⟩;rw[zk]at e1;simp only[zk];obtain rfl | rfl | rfl | rfl | rfl | rfl | rfl | rfl | rfl | rfl | rfl | rfl | rfl:n=0\/n=1\/n=2\/n=3\/n=4\/n=5\/n=6\/n=7\/n=8\/n=9\/n=10\/n=11\/n=12:=by omega
  ·exact absurd (eq_of_beq e1).symm h
  all_goals (show(_:Int)≠0;decide)
 exact k
theorem alg (now cost:Int):0<=Ve now cost/\Ve now cost<=1099511627776:=by
 unfold Ve after;simp only[dE,aV,bH,dK];rw[fO (k:= .i64) zO];omega
def axg (s:Server)(t t':ig):Prop:=(t'.In=t.In/\t'.dP=t.dP)/\((t'.nS=true/\t'.Ready=t.Ready/\t'.Status.Code≠0)\/(t'.nS=t.nS/\t'.Status=t.Status/\(0<=t'.Ready/\t'.Ready<=1099511627776)/\leT s t<=(t.In.length:Int)))
def EJ (s:Server)(conn:Int)(id:Int)(data:Str):Pg Server:=.lt (qZ s conn id) fun(v2:Int)=> .br (decide (v2 < 0)) (.ret s) (.ix v2 s.Tasks.length (.ob (List.length (s.Tasks.getD v2.toNat bM).Method<=1048576) (.lt (fD s.ay (s.Tasks.getD v2.toNat bM).Method) fun(v3:dG×Int)=> .cut (fun(y1:Unit)=> .as (List.length data<=9223372036854775807) (.lt (aqk s.iq (↑(List.length data):Int)) fun(v4:Status)=> .br (v4.Code !=0) (.ob (s.Tasks.length<=1048576/\0<=v2/\v2 < (↑s.Tasks.length:Int)) (.ret (rW s v2 (Az (s.Tasks.getD v2.toNat bM) v4)))) (.ob (okS s.ay) (.lt (wY s.ay v3.1.In data) fun(v5:af×Int)=> .br (v5.2 !=0) (.ob (s.Tasks.length<=1048576/\0<=v2/\v2 < (↑s.Tasks.length:Int)) (.ret (rW s v2 (Az (s.Tasks.getD v2.toNat bM) (SL v5.2))))) (.as ((s.Tasks.getD v2.toNat bM).In.length<=9223372036854775807) (.ob (0<=(↑(s.Tasks.getD v2.toNat bM).In.length:Int)/\ (↑(s.Tasks.getD v2.toNat bM).In.length:Int)=(↑(s.Tasks.getD v2.toNat bM).In.length:Int)/\ (↑(s.Tasks.getD v2.toNat bM).In.length:Int)<=(↑(s.Tasks.getD v2.toNat bM).In.length:Int)) (.lt (List.take (s.Tasks.getD v2.toNat bM).In.length (s.Tasks.getD v2.toNat bM).In) fun(v6:List Str)=> .ob (0 < 1/\bT (v6.length+1) 16) (.ob (s.Tasks.length<=1048576/\0<=v2/\v2 < (↑s.Tasks.length:Int)) (.ret (rW s v2 (ig.mk (s.Tasks.getD v2.toNat bM).qB (s.Tasks.getD v2.toNat bM).Id (s.Tasks.getD v2.toNat bM).Method (s.Tasks.getD v2.toNat bM).eY (s.Tasks.getD v2.toNat bM).fF (v6++[data]) (s.Tasks.getD v2.toNat bM).Ready (s.Tasks.getD v2.toNat bM).dP (s.Tasks.getD v2.toNat bM).Status (s.Tasks.getD v2.toNat bM).nS))))))))))) (.lt (jV v3.1.Shape) fun(v7:Int×Int×Int×Int)=> .br (decide (0<=v7.2.1)) (.as ((s.Tasks.getD v2.toNat bM).In.length<=9223372036854775807) (.br (decide (v7.2.1<=(↑(s.Tasks.getD v2.toNat bM).In.length:Int))) (.ob (s.Tasks.length<=1048576/\0<=v2/\v2 < (↑s.Tasks.length:Int)) (.ret (.inr (rW s v2 (Az (s.Tasks.getD v2.toNat bM) (Status.mk 2 [])))))) (rl ()))) (rl ())))))
def ahf (s:Server)(conn:Int)(id:Int)(data:Str):=(EJ s conn id data).val
theorem F7 (s:Server)(conn:Int)(id:Int)(data:Str)(h:xY s):jP (EJ s conn id data) (fun r=>stepT s conn id r (arp s data)):=
 by
 obtain⟨h1,hn,h2,h3⟩:=h;unfold EJ;refine aC fun v2 hv2=>bV (fun h0=>ah (.inl ⟨by rw[<-hv2];exact h0,rfl⟩)) fun h0=> ?_;obtain⟨m1,m2,m3⟩:=ad9 (s:=s) (c:=conn) (i:=id) (by rw[<-hv2];exact h0);rw[<-hv2]at m1 m2 m3;obtain⟨k1,k2⟩:=h3 _ m3;have hw:s.Tasks.length<=1048576/\0<=v2/\v2 < s.Tasks.length:=⟨h2,m1,m2⟩;have fin:∀t',adb (s.Tasks.getD v2.toNat bM) t'->arp s data (s.Tasks.getD v2.toNat bM) t'->stepT s conn id (rW s v2 t') (arp s data):=fun t' hs ht=> .inr ⟨v2.toNat,by omega,by rw[<-hv2];omega,t',⟨hs,ht⟩,adu s v2 t'⟩
 have fail:∀x:Status,x.Code≠0->stepT s conn id (rW s v2 (Az (s.Tasks.getD v2.toNat bM) x)) (arp s data):=fun x hx=>fin _ (by rw[J_];exact⟨rfl,rfl,rfl,rfl,rfl⟩) (by rw[J_];exact⟨⟨rfl,rfl⟩, .inl ⟨rfl,rfl,hx⟩⟩)
 refine bi m1 m2 (ak k1 (aC fun v3 hv3=>dh (fun _=>0<=moT s (s.Tasks.getD v2.toNat bM)->((s.Tasks.getD v2.toNat bM).In.length:Int) < moT s (s.Tasks.getD v2.toNat bM)) ?_ fun y1 hy1=>bZ <| aC fun v4 hv4=>dw (fun hx=>ak hw (ah (fail _ hx))) fun _=>ak h1 (aC fun v5 hv5=>dw (fun hx=>ak hw (ah (fail _ (awO hx)))) fun _=>bZ <| ak au (aC fun v6 hv6=> ?_))))
 ·refine aC fun v7 hv7=> ?_;have e7:v7.2.1=moT s (s.Tasks.getD v2.toNat bM):=by rw[hv7,hv3];rfl
  rw[e7];exact bV (fun _=>bZ <| bV (fun _=>ak hw (ah (fail _ (by show(2:Int)≠0;decide)))) fun hn2=>ah fun _=>by omega) fun hn2=>ah fun h9=>absurd h9 hn2
 ·rw[DT]at hv6;rw[hv6];exact ak ⟨by decide,b_ au au⟩ (ak hw (ah (fin _ ⟨rfl,rfl,rfl,rfl,rfl⟩ ⟨⟨rfl,rfl⟩, .inr ⟨rfl,rfl,rfl,hy1⟩⟩)))
def aeX:aU Z:=E1 [uG,acm,Yf,ac0,aem,amY,OO,ag1] [jS 100009 (bP (fun sl=>[]) l0)] (aj (aF gW) (aj (bn cI) (aj (bn cI) (a1 (bn cStr))))) (shr [.slot 0 true (nn 10)] (l1 gW)) [] func20 1 (u4 EJ) (fun a=>xY a.1) fun a h=>(F7 a.1 a.2.1 a.2.2.1 a.2.2.2 h).1
def akg (s:Server)(now:Int)(conn:Int)(id:Int):Pg Server:=.lt (qZ s conn id) fun(v1:Int)=> .br (decide (v1 < 0)) (.ret s) (.ix v1 s.Tasks.length (.ob (List.length (s.Tasks.getD v1.toNat bM).Method<=1048576) (.as ((s.Tasks.getD v1.toNat bM).In.length<=9223372036854775807) (.lt (jV (fD s.ay (s.Tasks.getD v1.toNat bM).Method).1.Shape) fun(v2:Int×Int×Int×Int)=> .br (decide ((↑(s.Tasks.getD v1.toNat bM).In.length:Int) < v2.1)) (.ob (s.Tasks.length<=1048576/\0<=v1/\v1 < (↑s.Tasks.length:Int)) (.ret (rW s v1 (Az (s.Tasks.getD v1.toNat bM) (Status.mk 2 []))))) (.ob (s.Tasks.length<=1048576/\0<=v1/\v1 < (↑s.Tasks.length:Int)) (.ret (rW s v1 (ig.mk (s.Tasks.getD v1.toNat bM).qB (s.Tasks.getD v1.toNat bM).Id (s.Tasks.getD v1.toNat bM).Method (s.Tasks.getD v1.toNat bM).eY (s.Tasks.getD v1.toNat bM).fF (s.Tasks.getD v1.toNat bM).In (Ve now (jH s (s.Tasks.getD v1.toNat bM).Method).1.auh) (s.Tasks.getD v1.toNat bM).dP (s.Tasks.getD v1.toNat bM).Status (s.Tasks.getD v1.toNat bM).nS))))))))
def aBC (s:Server)(now:Int)(conn:Int)(id:Int):=(akg s now conn id).val
theorem Ya (s:Server)(now:Int)(conn:Int)(id:Int)(h:xY s):jP (akg s now conn id) (fun r=>stepT s conn id r (axg s)):=
 by
 obtain⟨h1,hn,h2,h3⟩:=h;unfold akg;refine aC fun v2 hv2=>bV (fun h0=>ah (.inl ⟨by rw[<-hv2];exact h0,rfl⟩)) fun h0=> ?_;obtain⟨m1,m2,m3⟩:=ad9 (s:=s) (c:=conn) (i:=id) (by rw[<-hv2];exact h0);rw[<-hv2]at m1 m2 m3;obtain⟨k1,k2⟩:=h3 _ m3;have hw:s.Tasks.length<=1048576/\0<=v2/\v2 < s.Tasks.length:=⟨h2,m1,m2⟩;have fin:∀t',adb (s.Tasks.getD v2.toNat bM) t'->axg s (s.Tasks.getD v2.toNat bM) t'->stepT s conn id (rW s v2 t') (axg s):=fun t' hs ht=> .inr ⟨v2.toNat,by omega,by rw[<-hv2];omega,t',⟨hs,ht⟩,adu s v2 t'⟩
 exact bi m1 m2 (ak k1 (bZ <| aC fun v4 hv4=>bV (fun _=>ak hw (ah (fin _ (by rw[J_];exact⟨rfl,rfl,rfl,rfl,rfl⟩) (by rw[J_];exact⟨⟨rfl,rfl⟩, .inl ⟨rfl,rfl,by show(2:Int)≠0;decide⟩⟩)))) fun hge=>ak hw (ah (fin _ ⟨rfl,rfl,rfl,rfl,rfl⟩ ⟨⟨rfl,rfl⟩, .inr ⟨rfl,rfl,alg _ _,by rw[hv4]at hge;show leT s _<=_;unfold leT;omega⟩⟩))))
def ayz:aU Z:=E1 [uG,CY,acm,Yf,ac0,aem,aiT] [] (aj (aF gW) (aj (bn cI) (aj (bn cI) (a1 (bn cI))))) (shr [.slot 0 true (nn 10)] (l1 gW)) [] func21 1 (u4 akg) (fun a=>xY a.1) fun a h=>(Ya a.1 a.2.1 a.2.2.1 a.2.2.2 h).1
def KG (s:Server)(conn:Int)(id:Int):Pg Server:=.lt (ji s conn id) fun(v1:Int)=> .br (decide (v1 < 0)) (.ret s) (.ob ((0:Int)<=0/\0<=v1/\v1<=(↑s.Tasks.length:Int)) (.ob (bT (0+(List.take v1.toNat s.Tasks).length) 152) (.lt (dD .i64 (v1+1)) fun(v2:Int)=> .ob (0<=v2/\v2<=(↑s.Tasks.length:Int)/\(↑s.Tasks.length:Int)<=(↑s.Tasks.length:Int)) (.ob (bT ((List.take v1.toNat s.Tasks).length+(List.drop v2.toNat (List.take s.Tasks.length s.Tasks)).length) 152) (.ret (Server.mk s.Name s.ay s.Handlers s.iq s.Traces (List.take v1.toNat s.Tasks++List.drop v2.toNat (List.take s.Tasks.length s.Tasks)) s.Most s.mM))))))
def alB (s:Server)(conn:Int)(id:Int):=(KG s conn id).val
theorem Iq (s:Server)(conn:Int)(id:Int)(h:xY s):jP (KG s conn id) (fun r=>(ji s conn id < 0/\r=s)\/∃v:Nat,v < s.Tasks.length/\ji s conn id=v/\r=Server.mk s.Name s.ay s.Handlers s.iq s.Traces (s.Tasks.take v++s.Tasks.drop (v+1)) s.Most s.mM):=
 by
 obtain⟨h1,hn,h2,h3⟩:=h;have hl:=(apx (s:=s) (c:=conn) (i:=id)).1;unfold KG;refine aC fun v1 hv1=>bV (fun h0=>ah (.inl ⟨by rw[<-hv1];exact h0,rfl⟩)) fun h0=> ?_;rw[<-hv1]at hl;refine ak au (ak (b_ qa8 qa8) (pG fun v2 hv2 hw=>ak au (ak (b_ qcg qcg) (ah (.inr ⟨v1.toNat,by omega,by rw[<-hv1];omega,?_⟩)))));rw[DT,show v2.toNat=v1.toNat+1 by omega]
def ahS:aU Z:=E1 [LV] [] (aj (aF gW) (aj (bn cI) (a1 (bn cI)))) (shr [.slot 0 true (nn 10)] (l1 gW)) [] func22 1 (u3 KG) (fun a=>xY a.1) fun a h=>(Iq a.1 a.2.1 a.2.2 h).1
def abR (s:Server):Pg Server:=.ret (Server.mk s.Name s.ay s.Handlers s.iq s.Traces s.Tasks s.Most true)
def T_ (s:Server):=(abR s).val
def al5:aU Z:=E0 [] [] (a1 (aF gW)) (shr [.slot 0 true (nn 10)] (l1 gW)) [] func24 1 abR
def ape (s:Server):Pg Bool:=.ret ((↑s.Tasks.length:Int)==0)
def axL (s:Server):=(ape s).val
def aqu:aU Z:=E0 [] [] (a1 (aF gW)) (R1 aG) [] func18 1 ape
def gtS (a b:Str):Bool:= !(Op.bytesLess a b || a==b)
def cloneM (l:List mJ):Pg (List mJ):=.unk false (fun(b:Bool)=>b=true->l.length=0) (.ret []) (.ob (bT (0+l.length) 32) (.ret l))
theorem alE (l:List mJ)(h:l.length<=1000000):Is (cloneM l):=
 qI (b_ au au)
def aoc:aU Z:=E2 [] [] (a1 (bn su)) (shr [.slot 0 false [some 349]] (l1 su)) [] func230 1 cloneM (fun a=>some (a.length<=1000000)) (fun a=>a) fun a h=>⟨alE a h,rfl⟩
def aud (l:List Trace):Pg (List Trace):=.unk false (fun(b:Bool)=>b=true->l.length=0) (.ret []) (.ob (bT (0+l.length) 40) (.ret l))
theorem anb (l:List Trace)(h:l.length<=1000000):Is (aud l):=
 qI (b_ au au)
def aso:aU Z:=E2 [] [] (a1 (bn jA)) (shr [.slot 0 false [some 274]] (l1 jA)) [] func148 1 aud (fun a=>some (a.length<=1000000)) (fun a=>a) fun a h=>⟨anb a h,rfl⟩
def atB (l:List Int):Pg (List Int):=.unk false (fun(b:Bool)=>b=true->l.length=0) (.ret []) (.ob (bT (0+l.length) 8) (.ret l))
theorem alv (l:List Int)(h:l.length<=1000000):Is (atB l):=
 qI (b_ au au)
def aps:aU Z:=E2 [] [] (a1 (bn BL)) (shr [.slot 0 false [some 3]] (l1 BL)) [] func153 1 atB (fun a=>some (a.length<=1000000)) (fun a=>a) fun a h=>⟨alv a h,rfl⟩
def atg:aU Z:=vX [] [] (aj (aF KN) (a1 (iM 0))) (b1 (aP cStr)) (R1 aG) [0] func232 1 fun a=>.ret (a.1.1.Key==a.2)
def arj:aU Z:=vX [] [] (aj (aF KN) (a1 (iM 0))) (b1 (aP cStr)) (R1 aG) [0] func233 1 fun a=>.ret (gtS a.1.1.Key a.2)
def aBb:aU Z:=GG [atg] su 232 [0] (b1 (aP cStr)) func231 Nh fun m b=>m.Key==b
def aBB:aU Z:=GG [arj] su 233 [0] (b1 (aP cStr)) func231 Nh fun m b=>gtS m.Key b
set_option maxHeartbeats 1000000 in
theorem UE (b n c i m vb vc:Nat)(w w1 w2:World)(hi:i < n)(hm:0 < m)(hroom:n+m<=c)(hc:c<=9223372036854775807)
  (hov:∀lb cb x,(callFunc 341 #[.slice (some ⟨vb,0,none⟩) m vc, .slice (some ⟨b,x,none⟩) lb cb]).run Tryz.prog w= .ok (.value (.bool false)) w)
  (hcp1:∀ty dc sc,(Builtin.copy_ #[46,46] ty #[.slice (some ⟨b,(i+m)*2,none⟩) (n+m - (i+m)) dc, .slice (some ⟨b,i*2,none⟩) (n+m - i) sc]).run Tryz.prog w.drew= .ok (goInt (n - i:Nat)) w1)
  (hcp2:∀ty dc,(Builtin.copy_ #[46,46] ty #[.slice (some ⟨b,i*2,none⟩) (n+m - i) dc, .slice (some ⟨vb,0,none⟩) m vc]).run Tryz.prog w1= .ok (goInt m) w2):
  Calls Tryz.prog 234 #[.slice (some ⟨b,0,none⟩) n c, .int .i64 i, .slice (some ⟨vb,0,none⟩) m vc] w fun e w'=>e= .returned (.slice (some ⟨b,0,none⟩) (n+m) c)/\w'=w2:=by
 have hz1:¬((m:Int)=0):=by omega
 have hz2:¬((i:Int)=(n:Int)):=by omega
 have hw1:IntKind.i64.wrap ((i:Int)+(m:Int))=(i:Int)+(m:Int):=by rw[IntKind.wrap_i64];omega
 have hw2:IntKind.i64.wrap ((n:Int)+(m:Int))=(n:Int)+(m:Int):=by rw[IntKind.wrap_i64];omega
 have hb1:(0:Int)<=(i:Int)+(m:Int):=by omega
 have hin:i<=n:=by omega
 have htn:((i:Int)+(m:Int)).toNat=i+m:=by omega
 have aEd:((n:Int)+(m:Int)).toNat=n+m:=by omega
 have hb2:¬(c=i+m):=by omega
 have hb3:(i:Int)<=(n:Int)+(m:Int):=by omega
 have hb4:¬(c=i):=by omega
 have mixed:Tryz.prog.follows Departure.mixedOrders=true:=by kernel_rfl
 go_enter func234,ntmps234
 go_wp2_with (simp only[hov])
 go_region_law_o (refine step_copy_runI rfl _ _ 46 46 rfl _ _ qb0 qb0 (hcp1 _ _ _) ?_)
 go_wp2_with (at_builtin;refine wpList_copy_runI _ rfl _ _ 46 46 rfl _ _ rfl rfl (hcp2 _ _) ?_)
 go_ret
 exact⟨rfl,rfl⟩
set_option maxHeartbeats 1000000 in
theorem WV (b n c i m h cc vb vc:Nat)(w w1 w2 w3:World)(hi:i < n)(hm:0 < m)(hnc:n<=c)(hroom:c < n+m)(hcc:n+m<=cc)(hc:n+m<=9223372036854775807)
  (hap:∀ty,(Builtin.append_ #[46,3] ty #[.slice (some ⟨b,0,none⟩) i c, .int .i64 ((n:Int)+m - i)]).run Tryz.prog w= .ok (.slice (some ⟨h,0,none⟩) (n+m) cc) w1)
  (hcp1:∀ty dc,(Builtin.copy_ #[46,46] ty #[.slice (some ⟨h,i*2,none⟩) (n+m - i) dc, .slice (some ⟨vb,0,none⟩) m vc]).run Tryz.prog w1= .ok (goInt m) w2)
  (hcp2:∀ty dc sc,(Builtin.copy_ #[46,46] ty #[.slice (some ⟨h,(i+m)*2,none⟩) (n+m - (i+m)) dc, .slice (some ⟨b,i*2,none⟩) (n - i) sc]).run Tryz.prog w2.drew= .ok (goInt (n - i:Nat)) w3):
  Calls Tryz.prog 234 #[.slice (some ⟨b,0,none⟩) n c, .int .i64 i, .slice (some ⟨vb,0,none⟩) m vc] w fun e w'=>e= .returned (.slice (some ⟨h,0,none⟩) (n+m) cc)/\w'=w3:=by
 have hz1:¬((m:Int)=0):=by omega
 have hz2:¬((i:Int)=(n:Int)):=by omega
 have hw1:IntKind.i64.wrap ((i:Int)+(m:Int))=(i:Int)+(m:Int):=by rw[IntKind.wrap_i64];omega
 have hw2:IntKind.i64.wrap ((n:Int)+(m:Int))=(n:Int)+(m:Int):=by rw[IntKind.wrap_i64];omega
 have hw3:IntKind.i64.wrap ((n:Int)+(m:Int) - (i:Int))=(n:Int)+(m:Int) - (i:Int):=by rw[IntKind.wrap_i64];omega
 have hb1:(0:Int)<=(i:Int)+(m:Int):=by omega
 have hin:i<=n:=by omega
 have hic:i<=c:=by omega
 have htn:((i:Int)+(m:Int)).toNat=i+m:=by omega
 have aEd:((n:Int)+(m:Int)).toNat=n+m:=by omega
 have hb2:¬(cc=i+m):=by omega
 have hb3:(i:Int)<=(n:Int)+(m:Int):=by omega
 have hb4:¬(c=i):=by omega
 have hb5:¬(cc=i):=by omega
 have hb6:i<=n+m:=by omega
 have hb7:i+m<=n+m:=by omega
 have hb8:¬((n:Int)+(m:Int)<=(c:Int)):=by omega
 have hb9:(c:Int) < (n:Int)+(m:Int):=by omega
 have mixed:Tryz.prog.follows Departure.mixedOrders=true:=by kernel_rfl
 go_enter func234,ntmps234
 go_wp2_with (at_builtin;refine Lib.wpList_append_run _ rfl _ _ 46 3 rfl _ _ rfl rfl _ _ (hap _) ?_)
 go_wp2_with (at_builtin;refine wpList_copy_runI _ rfl _ _ 46 46 rfl _ _ rfl rfl (hcp1 _ _) ?_)
 go_region_law_o (refine step_copy_runI rfl _ _ 46 46 rfl _ _ qb0 qb0 (hcp2 _ _ _) ?_)
 go_wp2
 go_ret
 exact⟨rfl,rfl⟩
set_option maxHeartbeats 1000000 in
theorem abN (a a2:Option Addr)(n c m c2:Nat)(v':Value)(w w':World)(hm:0 < m)(hnc:n<=c)(h63:n<=9223372036854775807)
  (hap:∀ty,(Builtin.append_ #[46,46] ty #[.slice a n c, .slice a2 m c2]).run Tryz.prog w= .ok v' w'):
  Calls Tryz.prog 234 #[.slice a n c, .int .i64 n, .slice a2 m c2] w fun e w1=>e= .returned v'/\w1=w':=by
 have hz1:¬((m:Int)=0):=by omega
 have mixed:Tryz.prog.follows Departure.mixedOrders=true:=by kernel_rfl
 go_enter func234,ntmps234
 go_wp2_with (at_builtin;refine Lib.wpList_append_run _ rfl _ _ 46 46 rfl _ _ rfl rfl _ _ (hap _) ?_)
 all_goals (go_ret;exact⟨rfl,rfl⟩)
theorem Wx:FO Tryz.prog 234 46 3 341 2:=
 ⟨fun b n c i m vb vc w w1 w2 h1 h2 h3 h4 h5 h6 h7=>UE b n c i m vb vc w w1 w2 h1 h2 h3 h4 h5 h6 h7,fun b n c i m h cc vb vc w w1 w2 w3 h1 h2 h3 h4 h5 h6 h7 h8 h9=>WV b n c i m h cc vb vc w w1 w2 w3 h1 h2 h3 h4 h5 h6 h7 h8 h9,abN⟩
def aj7:Ct D:=akz S 349 2 32
theorem afs:fV Tryz.prog S 234 aj7:=by
 obtain⟨inf,z,h1,h2,h3,h4,h5⟩:=qR (aep 349 _ rfl);refine acl (tb:=4) (kn:= .i64) (inf:=inf) (z:=z) amq (fun args w=> ?_) Wx lY underlying46 underlying3 (fun w=>kH (aep 349 _ rfl) w) (fun args w=> ?_) h1 h2 h3 h4 ?_
 ·have hf:=func234;have hnm:¬f234.name= "runtime.NumGoroutine" :=by decide+kernel
  obtain⟨c,hc⟩:∃c,f234.body=some c:=⟨_,rfl⟩;simp[callFunc,hf,hnm,hc]
 ·exact run_callFunc_extern func341 dS dS dS dS args w
 ·rw[<-O5,h5];rfl
def aAq:aU Z:=⟨234,aj7,afs⟩
set_option maxHeartbeats 1000000 in
theorem Ti (b n c i m vb vc:Nat)(w w1 w2:World)(hi:i < n)(hm:0 < m)(hroom:n+m<=c)(hc:c<=9223372036854775807)
  (hov:∀lb cb x,(callFunc 236 #[.slice (some ⟨vb,0,none⟩) m vc, .slice (some ⟨b,x,none⟩) lb cb]).run Tryz.prog w= .ok (.value (.bool false)) w)
  (hcp1:∀ty dc sc,(Builtin.copy_ #[34,34] ty #[.slice (some ⟨b,(i+m)*2,none⟩) (n+m - (i+m)) dc, .slice (some ⟨b,i*2,none⟩) (n+m - i) sc]).run Tryz.prog w.drew= .ok (goInt (n - i:Nat)) w1)
  (hcp2:∀ty dc,(Builtin.copy_ #[34,34] ty #[.slice (some ⟨b,i*2,none⟩) (n+m - i) dc, .slice (some ⟨vb,0,none⟩) m vc]).run Tryz.prog w1= .ok (goInt m) w2):
  Calls Tryz.prog 152 #[.slice (some ⟨b,0,none⟩) n c, .int .i64 i, .slice (some ⟨vb,0,none⟩) m vc] w fun e w'=>e= .returned (.slice (some ⟨b,0,none⟩) (n+m) c)/\w'=w2:=by
 have hz1:¬((m:Int)=0):=by omega
 have hz2:¬((i:Int)=(n:Int)):=by omega
 have hw1:IntKind.i64.wrap ((i:Int)+(m:Int))=(i:Int)+(m:Int):=by rw[IntKind.wrap_i64];omega
 have hw2:IntKind.i64.wrap ((n:Int)+(m:Int))=(n:Int)+(m:Int):=by rw[IntKind.wrap_i64];omega
 have hb1:(0:Int)<=(i:Int)+(m:Int):=by omega
 have hin:i<=n:=by omega
 have htn:((i:Int)+(m:Int)).toNat=i+m:=by omega
 have aEd:((n:Int)+(m:Int)).toNat=n+m:=by omega
 have hb2:¬(c=i+m):=by omega
 have hb3:(i:Int)<=(n:Int)+(m:Int):=by omega
 have hb4:¬(c=i):=by omega
 have mixed:Tryz.prog.follows Departure.mixedOrders=true:=by kernel_rfl
 go_enter func152,ntmps152
 go_wp2_with (simp only[hov])
 go_region_law_o (refine step_copy_runI rfl _ _ 34 34 rfl _ _ qb0 qb0 (hcp1 _ _ _) ?_)
 go_wp2_with (at_builtin;refine wpList_copy_runI _ rfl _ _ 34 34 rfl _ _ rfl rfl (hcp2 _ _) ?_)
 go_ret
 exact⟨rfl,rfl⟩
set_option maxHeartbeats 1000000 in
theorem WM (b n c i m h cc vb vc:Nat)(w w1 w2 w3:World)(hi:i < n)(hm:0 < m)(hnc:n<=c)(hroom:c < n+m)(hcc:n+m<=cc)(hc:n+m<=9223372036854775807)
  (hap:∀ty,(Builtin.append_ #[34,3] ty #[.slice (some ⟨b,0,none⟩) i c, .int .i64 ((n:Int)+m - i)]).run Tryz.prog w= .ok (.slice (some ⟨h,0,none⟩) (n+m) cc) w1)
  (hcp1:∀ty dc,(Builtin.copy_ #[34,34] ty #[.slice (some ⟨h,i*2,none⟩) (n+m - i) dc, .slice (some ⟨vb,0,none⟩) m vc]).run Tryz.prog w1= .ok (goInt m) w2)
  (hcp2:∀ty dc sc,(Builtin.copy_ #[34,34] ty #[.slice (some ⟨h,(i+m)*2,none⟩) (n+m - (i+m)) dc, .slice (some ⟨b,i*2,none⟩) (n - i) sc]).run Tryz.prog w2.drew= .ok (goInt (n - i:Nat)) w3):
  Calls Tryz.prog 152 #[.slice (some ⟨b,0,none⟩) n c, .int .i64 i, .slice (some ⟨vb,0,none⟩) m vc] w fun e w'=>e= .returned (.slice (some ⟨h,0,none⟩) (n+m) cc)/\w'=w3:=by
 have hz1:¬((m:Int)=0):=by omega
 have hz2:¬((i:Int)=(n:Int)):=by omega
 have hw1:IntKind.i64.wrap ((i:Int)+(m:Int))=(i:Int)+(m:Int):=by rw[IntKind.wrap_i64];omega
 have hw2:IntKind.i64.wrap ((n:Int)+(m:Int))=(n:Int)+(m:Int):=by rw[IntKind.wrap_i64];omega
 have hw3:IntKind.i64.wrap ((n:Int)+(m:Int) - (i:Int))=(n:Int)+(m:Int) - (i:Int):=by rw[IntKind.wrap_i64];omega
 have hb1:(0:Int)<=(i:Int)+(m:Int):=by omega
 have hin:i<=n:=by omega
 have hic:i<=c:=by omega
 have htn:((i:Int)+(m:Int)).toNat=i+m:=by omega
 have aEd:((n:Int)+(m:Int)).toNat=n+m:=by omega
 have hb2:¬(cc=i+m):=by omega
 have hb3:(i:Int)<=(n:Int)+(m:Int):=by omega
 have hb4:¬(c=i):=by omega
 have hb5:¬(cc=i):=by omega
 have hb6:i<=n+m:=by omega
 have hb7:i+m<=n+m:=by omega
 have hb8:¬((n:Int)+(m:Int)<=(c:Int)):=by omega
 have hb9:(c:Int) < (n:Int)+(m:Int):=by omega
 have mixed:Tryz.prog.follows Departure.mixedOrders=true:=by kernel_rfl
 go_enter func152,ntmps152
 go_wp2_with (at_builtin;refine Lib.wpList_append_run _ rfl _ _ 34 3 rfl _ _ rfl rfl _ _ (hap _) ?_)
 go_wp2_with (at_builtin;refine wpList_copy_runI _ rfl _ _ 34 34 rfl _ _ rfl rfl (hcp1 _ _) ?_)
 go_region_law_o (refine step_copy_runI rfl _ _ 34 34 rfl _ _ qb0 qb0 (hcp2 _ _ _) ?_)
 go_wp2
 go_ret
 exact⟨rfl,rfl⟩
set_option maxHeartbeats 1000000 in
theorem aaE (a a2:Option Addr)(n c m c2:Nat)(v':Value)(w w':World)(hm:0 < m)(hnc:n<=c)(h63:n<=9223372036854775807)
  (hap:∀ty,(Builtin.append_ #[34,34] ty #[.slice a n c, .slice a2 m c2]).run Tryz.prog w= .ok v' w'):
  Calls Tryz.prog 152 #[.slice a n c, .int .i64 n, .slice a2 m c2] w fun e w1=>e= .returned v'/\w1=w':=by
 have hz1:¬((m:Int)=0):=by omega
 have mixed:Tryz.prog.follows Departure.mixedOrders=true:=by kernel_rfl
 go_enter func152,ntmps152
 go_wp2_with (at_builtin;refine Lib.wpList_append_run _ rfl _ _ 34 34 rfl _ _ rfl rfl _ _ (hap _) ?_)
 all_goals (go_ret;exact⟨rfl,rfl⟩)
theorem Wh:FO Tryz.prog 152 34 3 236 2:=
 ⟨fun b n c i m vb vc w w1 w2 h1 h2 h3 h4 h5 h6 h7=>Ti b n c i m vb vc w w1 w2 h1 h2 h3 h4 h5 h6 h7,fun b n c i m h cc vb vc w w1 w2 w3 h1 h2 h3 h4 h5 h6 h7 h8 h9=>WM b n c i m h cc vb vc w w1 w2 w3 h1 h2 h3 h4 h5 h6 h7 h8 h9,aaE⟩
def aks:Ct D:=akz S 274 2 40
theorem ahG:fV Tryz.prog S 152 aks:=by
 obtain⟨inf,z,h1,h2,h3,h4,h5⟩:=qR (aep 274 _ rfl);refine acl (tb:=4) (kn:= .i64) (inf:=inf) (z:=z) amq (fun args w=> ?_) Wh lY underlying34 underlying3 (fun w=>kH (aep 274 _ rfl) w) (fun args w=> ?_) h1 h2 h3 h4 ?_
 ·have hf:=func152;have hnm:¬f152.name= "runtime.NumGoroutine" :=by decide+kernel
  obtain⟨c,hc⟩:∃c,f152.body=some c:=⟨_,rfl⟩;simp[callFunc,hf,hnm,hc]
 ·exact run_callFunc_extern func236 dS dS dS dS args w
 ·rw[<-O5,h5];rfl
def aDj:aU Z:=⟨152,aks,ahG⟩
def anQ:aU Z:=vX [] [] (aj (aF DN) (a1 (iM 0))) (b1 (aP cStr)) (R1 aG) [0] func235 1 fun a=>.ret (a.1.1.Method==a.2)
def atE:aU Z:=vX [] [] (aj (aF DN) (a1 (iM 0))) (b1 (aP cStr)) (R1 aG) [0] func151 1 fun a=>.ret (gtS a.1.1.Method a.2)
def avw (x:Trace):Pg Bool:=.ret ((↑x.Times.length:Int)==0)
theorem avS (x:Trace):(avw x).val=x.Times.isEmpty:=by
 unfold avw;rw[aV];cases x.Times with
 | nil=>rfl
 | cons a l=>simp;omega
theorem awt (x:Trace):Is (avw x):=
 aT
def ags:aU Z:=E2 [] [] (a1 (aF DN)) (R1 aG) [] func157 1 avw (fun a=>none) (fun a=>a.Times.isEmpty) fun a h=>⟨awt a,avS a⟩
def abm:aU Z:=vX [] [] (aj (bn cI) (a1 (iM 0))) (b1 (aP cI)) (R1 aG) [0] func155 1 fun a=>.ret (decide (a.1.1<=a.2))
def ahR:aU Z:=GG [anQ] jA 235 [0] (b1 (aP cStr)) func150 jZ fun x b=>x.Method==b
def ahz:aU Z:=GG [atE] jA 151 [0] (b1 (aP cStr)) func150 jZ fun x b=>gtS x.Method b
def afl:aU Z:=EI [ags] jA 157 func150 jZ fun x=>x.Times.isEmpty
def aDS:aU Z:=GG [abm] BL 155 [0] (b1 (aP cI)) func238 0 fun x b=>decide (x<=b)
def aj2:aU Z:=E0 [ahR,ahz,afl,anQ] [] (aj (bn jA) (a1 (bn cStr))) (R1 cI) [] func149 1 fun a=>.ret (fG (fun(x:Trace)=>x.Method==a.2) a.1)
def recent (l:List Trace)(path:Str)(than:Int):Pg Int:=.lt (fG (fun(x:Trace)=>x.Method==path) l) fun(v4:Int)=> .br (decide (0<=v4)) (.ix v4 l.length (.as ((l.getD v4.toNat jZ).Times.length<=9223372036854775807) (.each false qw (l.getD v4.toNat jZ).Times 0 (fun(i1 a3 y2:Int)=> .ix i1 (l.getD v4.toNat jZ).Times.length (.br (decide (than < a3)) (rl (dD .i64 (y2+1))) (rl y2))) (fun(i1 y2:Int)=> .ret y2) 0))) (.ret 0)
def aye (l:List Trace)(path:Str)(than:Int):=(recent l path than).val
theorem amH (l:List Trace)(path:Str)(than:Int):Is (recent l path than):=
 dB fun v4 hv4=>dV (fun _=>dm au (by have:=lF (fun(x:Trace)=>x.Method==path) l;omega) (iH fun _=>gU (.inr au) (fun i1 y2 _ _=>dm au au (dV iR iR)) (fun y2 _=>aT))) iR
def aod:aU Z:=E0 [aj2] [jS 5 (bP (fun sl=>[s0 22, s0 8]) (az cI (l1 cI)))] (aj (bn jA) (aj (bn cStr) (a1 (bn cI)))) (R1 cI) [] func145 1 (u3 recent) fun a=>amH a.1 a.2.1 a.2.2
def aEU (l:List Int)(than:Int):Pg (List Int):=.lt (fG (fun(x:Int)=>decide (x<=than)) l) fun(v4:Int)=> .br (v4==(-1)) (.ret l) (.lt (dD .i64 (v4+1)) fun(v5:Int)=> .wh (l.length+1) default (fun(x3:Int×Int×List Int)=> aL x3.2.2 (.br (decide (x3.1 < (↑x3.2.2.length:Int))) (.ix x3.1 x3.2.2.length (.ob (x3.1.toNat < x3.2.2.length) (.lt (dD .i64 (x3.1+1)) fun(v6:Int)=> .br (!decide (x3.2.2.getD x3.1.toNat 0<=than)) (.ix x3.2.1 x3.2.2.length (.ob (x3.2.1.toNat < x3.2.2.length) (rl (v6,dD .i64 (x3.2.1+1),x3.2.2.set x3.2.1.toNat (x3.2.2.getD x3.1.toNat 0))))) (rl (v6,x3.2))))) (.ob (0<=x3.2.1/\x3.2.1<=(↑x3.2.2.length:Int)/\(↑x3.2.2.length:Int)<=(↑x3.2.2.length:Int)) (.ob (x3.2.2.length=x3.2.2.length) (.lt (List.take x3.2.1.toNat x3.2.2++aqy (x3.2.2.length - x3.2.1.toNat) 0) fun(v7:List Int)=> .ob ((0:Int)<=0/\0<=x3.2.1/\x3.2.1<=(↑v7.length:Int)) (.ret (.inr (List.take x3.2.1.toNat v7)))))))) (v5,v4,l))
theorem av9 (l:List Int)(than:Int)(h:l.length<=1000000):Is (aEU l than):=
 (LG (fun(x:Int)=>decide (x<=than)) 0 l au).1
def aA0:aU Z:=O6 [abm,aDS] [jS 5 (bP (fun sl=>[s0 6, s0 5, .row (pid (sl 0)) 3]) (az cI (az cI (l1 BL))))] (aj (ng 0) (a1 (kJ 155 [1]))) (iC (j_ 3 D.i64 EG) (b1 (aP cI))) (R1 BL) [1] func154 1 (fun a=>aEU a.2.1 a.2.2) (fun a=>some (a.2.1.length<=1000000)) (fun a=>a.2.1.filter fun(x:Int)=> !decide (x<=a.2.2)) fun a h=>⟨av9 a.2.1 a.2.2 h,(fun(l:List Int) (than:Int) (h:l.length<=1000000)=>(LG (fun(x:Int)=>decide (x<=than)) 0 l au).2) a.2.1 a.2.2 h⟩
def aGE (l:List Trace):Pg (List Trace):=.lt (fG (fun(x:Trace)=>x.Times.isEmpty) l) fun(v4:Int)=> .br (v4==(-1)) (.ret l) (.lt (dD .i64 (v4+1)) fun(v5:Int)=> .wh (l.length+1) default (fun(x3:Int×Int×List Trace)=> aL x3.2.2 (.br (decide (x3.1 < (↑x3.2.2.length:Int))) (.ix x3.1 x3.2.2.length (.ob (x3.1.toNat < x3.2.2.length) (.lt (dD .i64 (x3.1+1)) fun(v6:Int)=> .br (!(x3.2.2.getD x3.1.toNat jZ).Times.isEmpty) (.ix x3.2.1 x3.2.2.length (.ob (x3.2.1.toNat < x3.2.2.length) (rl (v6,dD .i64 (x3.2.1+1),x3.2.2.set x3.2.1.toNat (x3.2.2.getD x3.1.toNat jZ))))) (rl (v6,x3.2))))) (.ob (0<=x3.2.1/\x3.2.1<=(↑x3.2.2.length:Int)/\(↑x3.2.2.length:Int)<=(↑x3.2.2.length:Int)) (.ob (x3.2.2.length=x3.2.2.length) (.lt (List.take x3.2.1.toNat x3.2.2++List.replicate (x3.2.2.length - x3.2.1.toNat) (Trace.mk [] [])) fun(v7:List Trace)=> .ob ((0:Int)<=0/\0<=x3.2.1/\x3.2.1<=(↑v7.length:Int)) (.ret (.inr (List.take x3.2.1.toNat v7)))))))) (v5,v4,l))
theorem awu (l:List Trace)(h:l.length<=1000000):Is (aGE l):=
 (LG (fun(x:Trace)=>x.Times.isEmpty) jZ l au).1
def aCz:aU Z:=O6 [ahR,ahz,afl,ags] [jS 5 (bP (fun sl=>[s0 6, s0 5, .row (pid (sl 0)) 274]) (az cI (az cI (l1 jA))))] (aj (ng 0) (a1 (kJ 157 []))) (b1 (j_ 274 D.Trace wo)) (R1 jA) [] func156 1 (fun a=>aGE a.2) (fun a=>some (a.2.length<=1000000)) (fun a=>a.2.filter fun(x:Trace)=> !x.Times.isEmpty) fun a h=>⟨awu a.2 h,(fun(l:List Trace) (h:l.length<=1000000)=>(LG (fun(x:Trace)=>x.Times.isEmpty) jZ l au).2) a.2 h⟩
def QC (t:List Trace)(path:Str)(now:Int)(than:Int):Pg (List Trace):=.ob (t.length<=1000000) (.cut (fun(y1:List Trace)=> .lt (fG (fun(x:Trace)=>x.Method==path) y1) fun(v4:Int)=> .ix v4 y1.length (.ob (v4.toNat < y1.length) (.ob ((y1.getD v4.toNat jZ).Times.length<=1000000) (.ob (bT ((y1.getD v4.toNat jZ).Times.length+1) 8) (.ix v4 y1.length (.ob (v4.toNat < y1.length) (.lt (y1.set v4.toNat (Trace.mk (y1.getD v4.toNat jZ).Method ((y1.getD v4.toNat jZ).Times++[now]))) fun(v5:List Trace)=> aL v5 (.cnt qw 0 (↑v5.length:Int) (fun i2 (y3:List Trace)=> .ix i2 y3.length (.ob (i2.toNat < y3.length) (.ob ((y3.getD i2.toNat jZ).Times.length<=1000000) (.ob ((y3.getD i2.toNat jZ).Times.length<=1000000) (.ix i2 y3.length (.ob (i2.toNat < y3.length) (rl (y3.set i2.toNat (Trace.mk (y3.getD i2.toNat jZ).Method (List.filter (fun(x:Int)=> !decide (x<=than)) (y3.getD i2.toNat jZ).Times)))))))))) (fun i2 (y3:List Trace)=> .ob (y3.length<=1000000) (.ret (List.filter (fun(x:Trace)=> !x.Times.isEmpty) y3))) v5)))))))) (.lt (fG (fun(x:Trace)=>x.Method==path) t) fun(v6:Int)=> .br (decide (v6 < 0)) (.lt (fG (fun(x:Trace)=>gtS x.Method path) t) fun(v7:Int)=> .br (decide (v7 < 0)) (aL t (.ob (0<=(↑t.length:Int)/\(↑t.length:Int)<=(↑t.length:Int)/\0 < 1/\bT (t.length+1) 40) (rl (List.take t.length t++([Trace.mk path []]++List.drop t.length (List.take t.length t)))))) (.ob (0<=v7/\v7<=(↑t.length:Int)/\0 < 1/\bT (t.length+1) 40) (rl (List.take v7.toNat t++([Trace.mk path []]++List.drop v7.toNat (List.take t.length t)))))) (rl t)))
def Qw (path:Str)(x:Trace):Bool:=x.Method==path
def gtM (path:Str)(x:Trace):Bool:=gtS x.Method path
def adT (path:Str)(now:Int):List Trace->List Trace
 | []=>[]
 | x::t=>bif Qw path x then⟨x.Method,x.Times++[now]⟩::t else x::adT path now t
def zL (path:Str)(ts:List Int):List Trace->List Trace
 | []=>[⟨path,ts⟩]
 | x::t=>bif gtM path x then⟨path,ts⟩::x::t else x::zL path ts t
def UK (t:List Trace)(path:Str)(now:Int):List Trace:=bif t.any (Qw path)then adT path now t else zL path [now] t
def aG6 (than:Int)(x:Trace):Trace:=⟨x.Method,x.Times.filter fun y=> !decide (y<=than)⟩
def aey (than:Int)(t:List Trace):List Trace:=(t.map (aG6 than)).filter fun x=> !x.Times.isEmpty
def WU (t:List Trace)(path:Str):List Trace:=bif t.any (Qw path)then t else zL path [] t
def okT (t:List Trace):Prop:=t.length<=1000/\∀x∈t,x.Times.length<=1000
theorem TD (path:Str)(ts:List Int)(t:List Trace):∃u v,t=u++v/\zL path ts t=u++⟨path,ts⟩::v:=by
 induction t with
 | nil=>exact⟨[],[],rfl,rfl⟩
 | cons x t ih=>
  unfold zL;cases gtM path x with
  | true=>exact⟨[],x::t,rfl,rfl⟩
  | false=>
   obtain⟨u,v,h1,h2⟩:=ih;exact⟨x::u,v,by rw[h1];rfl,by rw[nR,h2];rfl⟩
theorem am1 (path:Str)(ts ts':List Int)(t:List Trace):∃u v,t=u++v/\zL path ts t=u++⟨path,ts⟩::v/\zL path ts' t=u++⟨path,ts'⟩::v:=by
 induction t with
 | nil=>exact⟨[],[],rfl,rfl,rfl⟩
 | cons x t ih=>
  unfold zL;cases gtM path x with
  | true=>exact⟨[],x::t,rfl,rfl,rfl⟩
  | false=>
   obtain⟨u,v,h1,h2,h3⟩:=ih;exact⟨x::u,v,by rw[h1];rfl,by rw[nR,h2];rfl,by rw[nR,h3];rfl⟩
theorem aeT (path:Str)(ts:List Int):∀(u:List Trace) (a:Trace) (v:List Trace),(∀x∈u,gtM path x=false)->gtM path a=true->zL path ts (u++a::v)=u++⟨path,ts⟩::a::v
 | [],a,v,_,h=>by simp[zL,h]
 | x::u,a,v,hu,h=>by
  simp only[Qbu,zL,hu x oJ,nR];rw[aeT path ts u a v (fun y hy=>hu y qcu) h]
theorem acG (path:Str)(ts:List Int):∀(u:List Trace),(∀x∈u,gtM path x=false)->zL path ts u=u++[⟨path,ts⟩]
 | [],_=>rfl
 | x::u,hu=>by
  simp only[Qbu,zL,hu x oJ,nR];rw[acG path ts u (fun y hy=>hu y qcu)]
theorem aen (path:Str)(now:Int):∀(u:List Trace) (a:Trace) (v:List Trace),(∀x∈u,Qw path x=false)->Qw path a=true->adT path now (u++a::v)=u++⟨a.Method,a.Times++[now]⟩::v
 | [],a,v,_,h=>by simp[adT,h]
 | x::u,a,v,hu,h=>by
  simp only[Qbu,adT,hu x oJ,nR];rw[aen path now u a v (fun y hy=>hu y qcu) h]
theorem YX (t:List Trace)(path:Str)(now:Int):∃u a v,WU t path=u++a::v/\(∀x∈u,Qw path x=false)/\Qw path a=true/\UK t path now=u++⟨a.Method,a.Times++[now]⟩::v:=by
 unfold WU UK;rcases rF (Qw path) t with⟨_,h⟩ | ⟨u,a,v,h1,h2,h3,_⟩
 ·have:t.any (Qw path)=false:=by
   rw[Qck];exact fun x hx=>by rw[h x hx];simp
  rw[this];obtain⟨u,v,h1,h2,h3⟩:=am1 path [] [now] t;exact⟨u,⟨path,[]⟩,v,h2,fun x hx=>h x (by rw[h1];simp[hx]),by simp[Qw],h3⟩
 ·have:t.any (Qw path)=true:=by
   rw[Qcr];exact⟨a,by rw[h1];simp,h2⟩
  rw[this];exact⟨u,a,v,h1,h3,h2,by rw[wB,h1,aen path now u a v h3 h2]⟩
theorem awT (t:List Trace)(path:Str)(h:okT t):(WU t path).length<=1001/\∀x∈WU t path,x.Times.length<=1000:=by
 unfold WU;cases t.any (Qw path)with
 | true=>exact⟨by have:=h.1;simp only[wB];omega,h.2⟩
 | false=>
  obtain⟨u,v,h1,h2⟩:=TD path [] t;have hl:=h.1;rw[nR,h2];refine⟨by rw[h1]at hl;simp at hl⊢;omega,fun x hx=> ?_⟩;rcases tY.1 hx with hx | hx
  ·exact h.2 x (by rw[h1];simp[hx])
  ·rcases yR.1 hx with rfl | hx
   ·simp
   ·exact h.2 x (by rw[h1];simp[hx])
theorem NL (t:List Trace)(path:Str):(bif decide (fG (Qw path) t < 0)then
   bif decide (fG (gtM path) t < 0)then(List.take t.length t++([Trace.mk path []]++List.drop t.length (List.take t.length t)))
   else(List.take (fG (gtM path) t).toNat t++([Trace.mk path []]++List.drop (fG (gtM path) t).toNat (List.take t.length t)))
  else t)=WU t path:=by
 unfold WU;rcases rF (Qw path) t with⟨h0,h⟩ | ⟨u,a,v,h1,h2,h3,h4⟩
 ·have:t.any (Qw path)=false:=by
   rw[Qck];exact fun x hx=>by rw[h x hx];simp
  rw[this,h0];simp only[show decide ((-1:Int) < 0)=true from rfl,wB,nR];rcases rF (gtM path) t with⟨g0,g⟩ | ⟨u,a,v,g1,g2,g3,g4⟩
  ·rw[g0,acG path [] t g];simp
  ·have hd:decide ((u.length:Int) < 0)=false:=qo au;rw[g4,hd,nR,zk,DT,g1,aeT path [] u a v g3 g2,Qc7,List.drop_left];rfl
 ·have:t.any (Qw path)=true:=by
   rw[Qcr];exact⟨a,by rw[h1];simp,h2⟩
  have hd:decide ((u.length:Int) < 0)=false:=qo au;rw[this,h4,hd];rfl
theorem afJ (t:List Trace)(path:Str)(now than:Int)(h:okT t):(QC t path now than).val=aey than (UK t path now):=by
 unfold QC;simp only[dK,mr,dE,bH,kN,aV,iV,BM];have hm:=NL t path;unfold Qw gtM at hm;have hs:∀(c1 c2:Bool) (a b c:List Trace),(bif c1 then bif c2 then(Sum.inl a:List Trace⊕List Trace)else .inl b else .inl c)= .inl (bif c1 then bif c2 then a else b else c):=by
  intro c1 c2 a b c;cases c1<;>cases c2<;>rfl
 rw[hs,hm,oO];obtain⟨u,a,v,e1,e2,e3,e4⟩:=YX t path now;have hx:=aew (Qw path) u a v e2 e3;unfold Qw at hx;rw[e1,hx,zk,Vz,set_mid,<-e4];exact amQ (aG6 than) jZ (fun _ (y:List Trace)=>y.filter fun x=> !x.Times.isEmpty) _
theorem agj (t:List Trace)(path:Str)(now:Int)(than:Int)(h:okT t):Is (QC t path now than):=
 by
 refine aX qcs (oQ (dB fun v6 hv6=>dV (fun _=>dB fun v7 hv7=>dV (fun _=>iH fun _=>aX ⟨by omega,by omega,by omega,b_ qcs qcs⟩ aT)
  (fun _=>aX ⟨by omega,by have:=lF (fun(x:Trace)=>gtS x.Method path) t;omega,by omega,b_ qcs qcs⟩ aT)) iR) (fun y1 hy1=> ?_))
 have hy:y1=WU t path:=by
  have hm:=NL t path;unfold Qw gtM at hm;rw[<-hm];revert hy1;simp only[dE,bH,kN,dK,aV];cases decide (fG (fun(x:Trace)=>x.Method==path) t < 0)<;>cases decide (fG (fun(x:Trace)=>gtS x.Method path) t < 0)<;>intro e<;>injection e with e<;>exact e.symm
 subst hy;obtain⟨k1,k2⟩:=awT t path h;obtain⟨u,a,v,e1,e2,e3,e4⟩:=YX t path now;have hx:=aew (Qw path) u a v e2 e3;unfold Qw at hx;have ha:=k2 a (by rw[e1];simp);have hl:(WU t path).length=u.length+(v.length+1):=by rw[e1];simp
 refine dB fun v4 hv4=> ?_;rw[e1,hx]at hv4;subst hv4;have hg:(WU t path).getD ((u.length:Int)).toNat jZ=a:=by rw[e1,zk,Vz]
 rw[hg];refine dm au au (aX au (aX au (aX (b_ au au) (dm au au (aX au (dB fun v5 hv5=>iH fun _=> ?_))))));have hv:v5=u++⟨a.Method,a.Times++[now]⟩::v:=by rw[hv5,e1,zk,set_mid]
 have hl5:v5.length=u.length+(v.length+1):=by rw[hv];simp
 refine I9 (fun _ y=>y.length=v5.length/\∀x∈y,x.Times.length<=1001) ⟨rfl,fun x hx=> ?_⟩ au au (fun i y3 h1 h2 hI=> ?_) (fun i y3 _ _ hI=>aX au aT)
 ·rw[hv]at hx;rcases tY.1 hx with hx | hx
  ·have:=k2 x (by rw[e1];simp[hx]);omega
  ·rcases yR.1 hx with rfl | hx
   ·simp;omega
   ·have:=k2 x (by rw[e1];simp[hx]);omega
 ·have hi:i.toNat < y3.length:=by omega
  have hm:=hI.2 _ (getD_mem (d:=jZ) hi);refine⟨dm au au (aX au (aX au (aX au (dm au au (aX au aT))))),fun y' hy'=> ?_⟩;simp only[iV,dK,aV,Sum.inl.injEq]at hy';subst hy';refine⟨by rw[Qbq];exact hI.1,fun x hx=> ?_⟩;rcases Qcn hx with hx | rfl
  ·exact hI.2 x hx
  ·exact Ak (Qca _ _) hm
def am5:aU Z:=E2 [aso,aj2,ahR,ahz,afl,atE,aDj,aps,aA0,abm,aCz,ags] [jS 10 (bP (fun sl=>[s0 49, .row (pid (sl 0)) 274]) (az cI (l1 jA))),jS 100007 (bP (fun sl=>[.slot 0 false [some 274]]) (l1 jA))] (aj (bn jA) (aj (bn cStr) (aj (bn cI) (a1 (bn cI))))) (R1 jA) [] func95 1 (u4 QC) (fun a=>some (okT a.1)) (fun a=>aey a.2.2.2 (UK a.1 a.2.1 a.2.2.1)) fun a h=>⟨agj a.1 a.2.1 a.2.2.1 a.2.2.2 h,afJ a.1 a.2.1 a.2.2.1 a.2.2.2 h⟩
end
end Go.Proofs.YtihakigfhcankaaGreatDoor
