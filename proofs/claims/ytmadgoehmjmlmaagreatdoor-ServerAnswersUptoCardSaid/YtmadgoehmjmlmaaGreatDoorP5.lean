/- Codecs: plan.Fits. -/
import Derived.Test.YtmadgoehmjmlmaaGreatDoorP4
import Derived.WalkKit
import Derived.WalkSpells
import Derived.Lib.Overlaps
import Derived.Lib.AppendZeros
import Derived.Laws.Externs
import Derived.Shelf.RegionOpenPlain
import Derived.Lib.Walk
import Derived.Shelf.Spec.SlicesInsert
namespace Go.Proofs.YtmadgoehmjmlmaaGreatDoor
noncomputable section
open Go.RowKit Go.Vc
open Tryz
set_option linter.unusedVariables false
set_option linter.unusedSimpArgs false
set_option maxRecDepth 100000
def aAE (Dq:aB->Op->af->Int->Int)(rV:aB->Op->af->Int->Prop)(Bj:aB->Op->List Pair->Int->Int)(lI:aB->Op->List Pair->Int->Prop)(Na:aB->Op->af->Int->Int)(qG:aB->Op->af->Int->Prop)(O1:aB->bC->List Slot->Int->Int->Int)(uN:aB->bC->List Slot->Int->Int->Prop)(Bl:aB->bC->af->Int->Int)(lH:aB->bC->af->Int->Prop)(x:aB)(o:Op)(v:af)(level:Int):Pg Int:=.br (o.Kind==10) (.ix o.Target x.p.a_.length (.lt (dB .i64 (level+1)) fun(v1:Int)=> .ob (lH x (x.p.a_.getD o.Target.toNat bW) v.re v1) (.ret (Bl x (x.p.a_.getD o.Target.toNat bW) v.re v1)))) (.ob (List.length v.re.Text<=1048576) (.ret (aAM x o.Kind o.Target v.re)))
def afV (Dq:aB->Op->af->Int->Int)(rV:aB->Op->af->Int->Prop)(Bj:aB->Op->List Pair->Int->Int)(lI:aB->Op->List Pair->Int->Prop)(Na:aB->Op->af->Int->Int)(qG:aB->Op->af->Int->Prop)(O1:aB->bC->List Slot->Int->Int->Int)(uN:aB->bC->List Slot->Int->Int->Prop)(Bl:aB->bC->af->Int->Int)(lH:aB->bC->af->Int->Prop)(x:aB)(o:Op)(l:List Pair)(level:Int):Pg Int:=aL l (.each false wB l gJ (fun i1 a3 (y2:Unit)=> .ix i1 l.length (.ob (List.length a3.Key.re.Text<=1048576) (.lt (aAM x o.Key (-1) a3.Key.re) fun(v4:Int)=> .br (v4 !=0) (.ret (.inr v4)) (.ob ((0:Int)<=0/\0<=i1/\i1<=(↑l.length:Int)) (.ob ((∀(x:Pair),x∈List.take i1.toNat l->jG x.Key.Kind=true)/\jG (Pair.mk a3.Key.re a3.Val.re).Key.Kind=true) (.br (aGI (List.take i1.toNat l) (Pair.mk a3.Key.re a3.Val.re)) (.ret (.inr 9)) (.ob (rV x o a3.Val.re level) (.br (Dq x o a3.Val.re level !=0) (.ret (.inr (Dq x o a3.Val.re level))) (rl ()))))))))) (fun i1 (y2:Unit)=> .ret 0) ())
def Ji (Dq:aB->Op->af->Int->Int)(rV:aB->Op->af->Int->Prop)(Bj:aB->Op->List Pair->Int->Int)(lI:aB->Op->List Pair->Int->Prop)(Na:aB->Op->af->Int->Int)(qG:aB->Op->af->Int->Prop)(O1:aB->bC->List Slot->Int->Int->Int)(uN:aB->bC->List Slot->Int->Int->Prop)(Bl:aB->bC->af->Int->Int)(lH:aB->bC->af->Int->Prop)(x:aB)(o:Op)(v:af)(level:Int):Pg Int:=.lt (aap v.re) fun(v4:Bool)=> .br (o.Card==4) (.br (v.Kind !=11) (.ret 12) (.br v4 (.ret 12) (aL v.List (.each false wB v.List fQ (fun i1 a3 (y2:Unit)=> .ix i1 v.List.length (.ob (rV x o a3.re level) (.br (Dq x o a3.re level !=0) (.ret (.inr (Dq x o a3.re level))) (rl ())))) (fun i1 (y2:Unit)=> .ret 0) ())))) (.br (o.Card==5) (.br (v.Kind !=12) (.ret 12) (.br v4 (.ret 12) (.ob (lI x o v.Pairs level) (.ret (Bj x o v.Pairs level))))) (.ob (rV x o v.re level) (.ret (Dq x o v.re level))))
def aBl (Dq:aB->Op->af->Int->Int)(rV:aB->Op->af->Int->Prop)(Bj:aB->Op->List Pair->Int->Int)(lI:aB->Op->List Pair->Int->Prop)(Na:aB->Op->af->Int->Int)(qG:aB->Op->af->Int->Prop)(O1:aB->bC->List Slot->Int->Int->Int)(uN:aB->bC->List Slot->Int->Int->Prop)(Bl:aB->bC->af->Int->Int)(lH:aB->bC->af->Int->Prop)(x:aB)(g:bC)(l:List Slot)(i:Int)(level:Int):Pg Int:=.ix i l.length (.lt (lQ g (l.getD i.toNat bK).Num) fun(v4:Op×Bool)=> .br (!v4.2) (.ret 8) (.ob ((0:Int)<=0/\0<=i/\i<=(↑l.length:Int)) (.br ((List.take i.toNat l).any fun(x:Slot)=>atJ x v4.1) (.ret 9) (.ob ((0:Int)<=0/\0<=i/\i<=(↑l.length:Int)) (.as ((List.take i.toNat l).length<=9223372036854775807) (.each false wB (List.take i.toNat l) bK (fun i1 a3 (y2:Unit)=> .ix i1 (List.take i.toNat l).length (.br (v4.1.Union !=(-1)) (.br ((lQ g a3.Num).1.Union==v4.1.Union) (.ret (.inr 15)) (rl ())) (rl ()))) (fun i1 (y2:Unit)=> .ix i l.length (.ob (qG x v4.1 (l.getD i.toNat bK).Val.re level) (.ret (Na x v4.1 (l.getD i.toNat bK).Val.re level)))) ()))))))
def aeA (Dq:aB->Op->af->Int->Int)(rV:aB->Op->af->Int->Prop)(Bj:aB->Op->List Pair->Int->Int)(lI:aB->Op->List Pair->Int->Prop)(Na:aB->Op->af->Int->Int)(qG:aB->Op->af->Int->Prop)(O1:aB->bC->List Slot->Int->Int->Int)(uN:aB->bC->List Slot->Int->Int->Prop)(Bl:aB->bC->af->Int->Int)(lH:aB->bC->af->Int->Prop)(x:aB)(g:bC)(v:af)(level:Int):Pg Int:=.cut (fun(y1:Unit)=> .cut (fun(y4:Unit)=> .cut (fun(y8:Unit)=> aL v.bJ (.each false wB v.bJ pz (fun i9 a11 (yE:Unit)=> .ix i9 v.bJ.length (.lt (aHm x g a11) fun(v12:Int)=> .br (v12 !=0) (.ret (.inr v12)) (rl ()))) (fun i9 (yE:Unit)=> .ret 0) ())) (aL g.Ops (.each false wB g.Ops AQ (fun i5 a7 (y6:Unit)=> .ix i5 g.Ops.length (.br (a7.Card==1) (.br (!v.Slots.any fun(x:Slot)=>asc x a7) (.ret (.inr (.inr 14))) (rl ())) (rl ()))) (fun i5 (y6:Unit)=> rl ()) ()))) (aL v.Slots (.cnt wB 0 (↑v.Slots.length:Int) (fun i2 (y3:Unit)=> .ob (uN x g v.Slots i2 level) (.br (O1 x g v.Slots i2 level !=0) (.ret (.inr (.inr (O1 x g v.Slots i2 level)))) (rl ()))) (fun i2 (y3:Unit)=> rl ()) ()))) (.br (v.Kind !=10) (.ret (.inr 12)) (.br (aap v.re) (.ret (.inr 12)) (.br (decide (16 < level)) (.ret (.inr 17)) (rl ()))))
def rV (fu:Nat)(x:aB)(o:Op)(v:af)(level:Int):Prop:=gm x.p/\Ti x.p o/\gV v/\4*tV v+1<=fu
def lI (fu:Nat)(x:aB)(o:Op)(l:List Pair)(level:Int):Prop:=gm x.p/\Ti x.p o/\(oD l/\∀p∈l,gV p.Val/\p.Key.Text.length<=1048576)/\1<=fu/\∀p∈l,4*tV p.Val+2<=fu
def qG (fu:Nat)(x:aB)(o:Op)(v:af)(level:Int):Prop:=gm x.p/\Ti x.p o/\gV v/\4*tV v+2<=fu
def uN (fu:Nat)(x:aB)(g:bC)(l:List Slot)(i:Int)(level:Int):Prop:=gm x.p/\g∈x.p.a_/\l.length<=1048576/\(0<=i/\i < l.length)/\gV (l.getD i.toNat bK).Val/\4*tV (l.getD i.toNat bK).Val+3<=fu
def lH (fu:Nat)(x:aB)(g:bC)(v:af)(level:Int):Prop:=gm x.p/\g∈x.p.a_/\gV v/\4*tV v<=fu
def IZ:Nat->(aB->Op->af->Int->Int)×(aB->Op->(List Pair)->Int->Int)×(aB->Op->af->Int->Int)×(aB->bC->(List Slot)->Int->Int->Int)×(aB->bC->af->Int->Int)
 | 0=>(fun _ _ _ _=>default,fun _ _ _ _=>default,fun _ _ _ _=>default,fun _ _ _ _ _=>default,fun _ _ _ _=>default)
 | fu+1=>(fun x o v level=>(aAE ((IZ fu).1) (rV fu) ((IZ fu).2.1) (lI fu) ((IZ fu).2.2.1) (qG fu) ((IZ fu).2.2.2.1) (uN fu) ((IZ fu).2.2.2.2) (lH fu) x o v level).val,fun x o l level=>(afV ((IZ fu).1) (rV fu) ((IZ fu).2.1) (lI fu) ((IZ fu).2.2.1) (qG fu) ((IZ fu).2.2.2.1) (uN fu) ((IZ fu).2.2.2.2) (lH fu) x o l level).val,fun x o v level=>(Ji ((IZ fu).1) (rV fu) ((IZ fu).2.1) (lI fu) ((IZ fu).2.2.1) (qG fu) ((IZ fu).2.2.2.1) (uN fu) ((IZ fu).2.2.2.2) (lH fu) x o v level).val,fun x g l i level=>(aBl ((IZ fu).1) (rV fu) ((IZ fu).2.1) (lI fu) ((IZ fu).2.2.1) (qG fu) ((IZ fu).2.2.2.1) (uN fu) ((IZ fu).2.2.2.2) (lH fu) x g l i level).val,fun x g v level=>(aeA ((IZ fu).1) (rV fu) ((IZ fu).2.1) (lI fu) ((IZ fu).2.2.1) (qG fu) ((IZ fu).2.2.2.1) (uN fu) ((IZ fu).2.2.2.2) (lH fu) x g v level).val)
abbrev aaf (fu:Nat):=aAE ((IZ fu).1) (rV fu) ((IZ fu).2.1) (lI fu) ((IZ fu).2.2.1) (qG fu) ((IZ fu).2.2.2.1) (uN fu) ((IZ fu).2.2.2.2) (lH fu)
abbrev F9 (fu:Nat):=afV ((IZ fu).1) (rV fu) ((IZ fu).2.1) (lI fu) ((IZ fu).2.2.1) (qG fu) ((IZ fu).2.2.2.1) (uN fu) ((IZ fu).2.2.2.2) (lH fu)
abbrev Q3 (fu:Nat):=Ji ((IZ fu).1) (rV fu) ((IZ fu).2.1) (lI fu) ((IZ fu).2.2.1) (qG fu) ((IZ fu).2.2.2.1) (uN fu) ((IZ fu).2.2.2.2) (lH fu)
abbrev acN (fu:Nat):=aBl ((IZ fu).1) (rV fu) ((IZ fu).2.1) (lI fu) ((IZ fu).2.2.1) (qG fu) ((IZ fu).2.2.2.1) (uN fu) ((IZ fu).2.2.2.2) (lH fu)
abbrev Gq (fu:Nat):=aeA ((IZ fu).1) (rV fu) ((IZ fu).2.1) (lI fu) ((IZ fu).2.2.1) (qG fu) ((IZ fu).2.2.2.1) (uN fu) ((IZ fu).2.2.2.2) (lH fu)
def Y9 (x:aB)(g:bC)(v:af)(level:Int):Int:=(IZ (4*tV v)).2.2.2.2 x g v level
theorem atp (fu:Nat)(x:aB)(o:Op)(v:af)(level:Int)(h:rV (fu+1) x o v level):Is (aaf fu x o v level):=
 by
 obtain⟨h1,h2,h3,h4⟩:=h;have ht:=iD v;have hb:=h3.2;unfold aaf aAE;simp only[af.dK];exact oI (fun hk=>dR (h2.1 hk).1 (h2.1 hk).2 (dF fun v1 hv1=>aX ⟨h1,getD_mem (by have:=h2.1 hk;omega),h3,by omega⟩ aU)) (fun _=>aX au aU)
theorem ad_ (fu:Nat)(x:aB)(o:Op)(l:List Pair)(level:Int)(h:lI (fu+1) x o l level):Is (F9 fu x o l level):=
 by
 obtain⟨h1,h2,⟨h3,h4⟩,h5,h6⟩:=h;unfold F9 afV;simp only[af.dK];refine iL fun _=>iF (.inr (by have:=h3.1;omega)) (fun i1 y2 hi1 _=> ?_) (fun y2 _=>aU);have hm:=getD_mem (d:=gJ) hi1;obtain⟨k1,k2⟩:=h4 _ hm;exact dR au au (aX k2 (dF fun v4 hv4=>jQ iR (fun _=>aX au (aX ⟨fun x hx=>h3.2 x (List.mem_of_mem_take hx),h3.2 (l.getD i1 gJ) hm⟩ (dM iR (fun _=>aX ⟨h1,h2,k1,by have:=h6 _ hm;omega⟩ (jQ iR iR)))))))
theorem amZ (fu:Nat)(x:aB)(o:Op)(v:af)(level:Int)(h:qG (fu+1) x o v level):Is (Q3 fu x o v level):=
 by
 obtain⟨h1,h2,h3,h4⟩:=h;have hl:=o6 h3;have hb:=h3.2;unfold Q3 Ji;simp only[af.dK];refine dF fun v4 hv4=>oI (fun _=>jQ iR (fun _=>dM iR (fun _=>iL fun _=>iF (.inr au) (fun i1 y2 hi1 _=>dR au au (aX ?_ (jQ iR iR))) (fun y2 _=>aU)))) (fun _=>oI (fun _=>jQ iR (fun _=>dM iR (fun _=>aX ?_ aU))) (fun _=>aX ⟨h1,h2,h3,by omega⟩ aU))
 ·obtain⟨g1,g2⟩:=BG h3 (getD_mem (d:=fQ) hi1);exact⟨h1,h2,g1,by omega⟩
 ·refine⟨h1,h2,⟨hl.2.2.2,fun p hp=> ?_⟩,by have:=mg v;omega,fun p hp=> ?_⟩
  ·obtain⟨g1,g2,g3,g4⟩:=y_ h3 hp;exact⟨g1,by have:=iD p.Key;omega⟩
  ·obtain⟨g1,g2,g3,g4⟩:=y_ h3 hp;omega
theorem auZ (fu:Nat)(x:aB)(g:bC)(l:List Slot)(i:Int)(level:Int)(h:uN (fu+1) x g l i level):Is (acN fu x g l i level):=
 by
 obtain⟨h1,h2,h3,h4,h5,h6⟩:=h;unfold acN aBl;simp only[af.dK];refine dR h4.1 h4.2 (dF fun v4 hv4=>dM iR (fun hf=>aX au (dM iR (fun _=>aX au (iL fun _=>iF (.inr qa9) (fun i1 y2 _ _=>dR au au (jQ (fun _=>oI iR iR) iR)) (fun y2 _=>dR h4.1 h4.2 (aX ⟨h1,?_,h5,by omega⟩ aU)))))));rw[hv4]at hf⊢;exact(h1 g h2).2 _ (KI (by simpa using hf))
theorem aeo (fu:Nat)(x:aB)(g:bC)(v:af)(level:Int)(h:lH (fu+1) x g v level):Is (Gq fu x g v level):=
 by
 obtain⟨h1,h2,h3,h4⟩:=h;have hl:=o6 h3;have hg:=h1 g h2;unfold Gq aeA;simp only[af.dK];refine qM (jQ iR (fun _=>dM iR (fun _=>gu iR iR))) (fun y1 hy1=>qM (iL fun _=>TG au au (fun i2 y3 hi0 hi1=>aX ?_ (jQ iR iR)) (fun i2 y3 _ _=>aU)) (fun y4 hy4=>qM (iL fun _=>iF (.inr (by have:=hg.1;omega)) (fun i5 y6 _ _=>dR au au (oI (fun _=>dM iR iR) iR)) (fun y6 _=>aU)) (fun y8 hy8=>iL fun _=>iF (.inr au) (fun i9 yE _ _=>dR au au (dF fun v12 ai9=>jQ iR iR)) (fun yE _=>aU))));obtain⟨g1,g2⟩:=KY h3 (getD_mem (d:=bK) (l:=v.Slots) (i:=i2.toNat) au);exact⟨h1,h2,hl.2.1,⟨hi0,hi1⟩,g1,by omega⟩
theorem aAQ:∀fu,fV Z.P Z.S 386 (oP (args (aj (aF jk) (aj (aF ji) (aj (aF aI) (a1 (bu cI)))))) (R1 cI) 1 [] (fun a=>some (rV fu (a.1) (a.2.1) (a.2.2.1) (a.2.2.2))) (fun a=>(IZ fu).1 (a.1) (a.2.1) (a.2.2.1) (a.2.2.2)))/\fV Z.P Z.S 387 (oP (args (aj (aF jk) (aj (aF ji) (aj (bu dW) (a1 (bu cI)))))) (R1 cI) 1 [] (fun a=>some (lI fu (a.1) (a.2.1) (a.2.2.1) (a.2.2.2))) (fun a=>(IZ fu).2.1 (a.1) (a.2.1) (a.2.2.1) (a.2.2.2)))/\fV Z.P Z.S 324 (oP (args (aj (aF jk) (aj (aF ji) (aj (aF aI) (a1 (bu cI)))))) (R1 cI) 1 [] (fun a=>some (qG fu (a.1) (a.2.1) (a.2.2.1) (a.2.2.2))) (fun a=>(IZ fu).2.2.1 (a.1) (a.2.1) (a.2.2.1) (a.2.2.2)))/\fV Z.P Z.S 209 (oP (args (aj (aF jk) (aj (aF iG) (aj (bu bD) (aj (bu cI) (a1 (bu cI))))))) (R1 cI) 1 [] (fun a=>some (uN fu (a.1) (a.2.1) (a.2.2.1) (a.2.2.2.1) (a.2.2.2.2))) (fun a=>(IZ fu).2.2.2.1 (a.1) (a.2.1) (a.2.2.1) (a.2.2.2.1) (a.2.2.2.2)))/\fV Z.P Z.S 131 (oP (args (aj (aF jk) (aj (aF iG) (aj (aF aI) (a1 (bu cI)))))) (R1 cI) 1 [] (fun a=>some (lH fu (a.1) (a.2.1) (a.2.2.1) (a.2.2.2))) (fun a=>(IZ fu).2.2.2.2 (a.1) (a.2.1) (a.2.2.1) (a.2.2.2)))
 | 0=>⟨iH func386 dU (fun a h=>by have k:=h.2.2.2;omega),
  iH func387 dU (fun a h=>by have k:=h.2.2.2.1;omega),
  iH func324 dU (fun a h=>by have k:=h.2.2.2;omega),
  iH func209 dU (fun a h=>by have k:=h.2.2.2.2.2;omega),
  iH func131 dU (fun a h=>by have k:=h.2.2.2;have:=mg (a.2.2.1);omega)⟩
 | fu+1=>by
  obtain⟨h0,h1,h2,h3,h4⟩:=aAQ fu;exact⟨G9 [apA,⟨386,_,h0⟩,⟨387,_,h1⟩,⟨324,_,h2⟩,⟨209,_,h3⟩,⟨131,_,h4⟩] [] func386 ntmps386 (fun a=>aaf fu a.1 a.2.1 a.2.2.1 a.2.2.2) (fun a h=>⟨atp fu a.1 a.2.1 a.2.2.1 a.2.2.2 h,rfl⟩) (kH (n:=31) rfl),
   G9 [apA,aDQ,ahO,⟨386,_,h0⟩,⟨387,_,h1⟩,⟨324,_,h2⟩,⟨209,_,h3⟩,⟨131,_,h4⟩] [jS 2 (bU (fun sl=>[s0 15]) (l1 cI))] func387 ntmps387 (fun a=>F9 fu a.1 a.2.1 a.2.2.1 a.2.2.2) (fun a h=>⟨ad_ fu a.1 a.2.1 a.2.2.1 a.2.2.2 h,rfl⟩) (kH (n:=44) rfl),
   G9 [Tn,⟨386,_,h0⟩,⟨387,_,h1⟩,⟨324,_,h2⟩,⟨209,_,h3⟩,⟨131,_,h4⟩] [jS 6 (bU (fun sl=>[s0 26]) (l1 cI))] func324 ntmps324 (fun a=>Q3 fu a.1 a.2.1 a.2.2.1 a.2.2.2) (fun a h=>⟨amZ fu a.1 a.2.1 a.2.2.1 a.2.2.2 h,rfl⟩) (kH (n:=59) rfl),
   G9 [O9,atL,arW,agN,⟨386,_,h0⟩,⟨387,_,h1⟩,⟨324,_,h2⟩,⟨209,_,h3⟩,⟨131,_,h4⟩] [jS 7 (bU (fun sl=>[s0 38]) (l1 cI))] func209 ntmps209 (fun a=>acN fu a.1 a.2.1 a.2.2.1 a.2.2.2.1 a.2.2.2.2) (fun a h=>⟨auZ fu a.1 a.2.1 a.2.2.1 a.2.2.2.1 a.2.2.2.2 h,rfl⟩) (kH (n:=69) rfl),
   G9 [Tn,atL,arW,aiG,aCH,⟨386,_,h0⟩,⟨387,_,h1⟩,⟨324,_,h2⟩,⟨209,_,h3⟩,⟨131,_,h4⟩] [jS 6 (bU (fun sl=>[s0 30]) (l1 cI)),jS 13 (bU (fun sl=>[s0 47]) (l1 cI)),jS 19 (bU (fun sl=>[s0 65]) (l1 cI)),jS 100005 (bU (fun sl=>[]) l0),jS 100012 (bU (fun sl=>[]) l0),jS 100018 (bU (fun sl=>[]) l0)] func131 ntmps131 (fun a=>Gq fu a.1 a.2.1 a.2.2.1 a.2.2.2) (fun a h=>⟨aeo fu a.1 a.2.1 a.2.2.1 a.2.2.2 h,rfl⟩) (kH (n:=77) rfl)⟩
def aih:aS Z:=⟨131,oP (args (aj (aF jk) (aj (aF iG) (aj (aF aI) (a1 (bu cI)))))) (R1 cI) 1 [] (fun a=>some (gm (a.1).p/\(a.2.1)∈(a.1).p.a_/\gV (a.2.2.1))) (fun a=>Y9 (a.1) (a.2.1) (a.2.2.1) (a.2.2.2)),jM (fun n=>((aAQ n).2.2.2.2)) _ _ (fun a h=>⟨4*tV (a.2.2.1),⟨h.1,h.2.1,h.2.2,l9 _⟩,rfl⟩)⟩
def aiZ (v:af):Pg (List af):=.ob (v.List.length<=1048576) (.cut (fun(y4:List af)=> aL v.Slots (.each false qi v.Slots bK (fun i5 a7 (y6:List af)=> .ix i5 v.Slots.length (.ob (bQ (y6.length+1) 128) (rl (y6++[a7.Val.re])))) (fun i5 (y6:List af)=> .ret y6) y4)) (aL v.Pairs (.each false qi v.Pairs gJ (fun i1 a3 (y2:List af)=> .ix i1 v.Pairs.length (.ob (bQ (y2.length+2) 128) (rl (y2++[a3.Key.re,a3.Val.re])))) (fun i1 (y2:List af)=> rl y2) v.List)))
def aw4 (v:af):=(aiZ v).val
theorem Tj (v:af)(h:tV v<=1048576):jF (aiZ v) (fun r=>r.length<=4194304/\∀z∈r,tV z < tV v):=
 have hl:=aFX h;ak (qbk) (df (fun y4=>y4.length<=v.List.length+2*v.Pairs.length/\∀z∈y4,tV z < tV v) (dm <| cZ (fun(i1:Nat) y2=>y2.length<=v.List.length+2*i1/\∀z∈y2,tV z < tV v) (by exact⟨l9 _,fun z hz=>axw hz⟩) au (fun i1 y2 rC rZ=>have hI:y2.length<=v.List.length+2*i1/\∀z∈y2,tV z < tV v:=rZ;aZ au au (ak (qbk) (ah qaj))) (fun y2 hI=>have hI:y2.length<=v.List.length+2*v.Pairs.length/\∀z∈y2,tV z < tV v:=hI;ah qaj)) (fun y4 hy4=>have hy4:y4.length<=v.List.length+2*v.Pairs.length/\∀z∈y4,tV z < tV v:=hy4;dm <| cZ (fun(i5:Nat) y6=>y6.length<=v.List.length+2*v.Pairs.length+i5/\∀z∈y6,tV z < tV v) (by exact hy4) au (fun i5 y6 avO avM=>have hI:y6.length<=v.List.length+2*v.Pairs.length+i5/\∀z∈y6,tV z < tV v:=avM;aZ au au (ak (qbk) (ah qaj))) (fun y6 hI=>have hI:y6.length<=v.List.length+2*v.Pairs.length+v.Slots.length/\∀z∈y6,tV z < tV v:=hI;ah qaj)))
def aum:aS Z:=E1 [aAp] [jS 3 (bU (fun sl=>[s0 14, .slot 3 false [some 84]]) (az cI (l1 jd))),jS 8 (bU (fun sl=>[s0 29, .slot 3 false [some 84]]) (az cI (l1 jd))),jS 100007 (bU (fun sl=>[.slot 3 false [some 84]]) (l1 jd))] (a1 (aF aI)) (shr [.slot 0 false [some 84]] (l1 jd)) [] func213 1 aiZ (fun a=>tV a<=1048576) fun a h=>(Tj a h).1
def aqr (aAg:af->Int)(Ky:af->Prop)(v:af):Pg Int:=.ob (tV v.re<=1048576) (.lt (aw4 v.re) fun(v4:List af)=> aL v4 (.lt (dB .i64 (1+(↑v.bJ.length:Int))) fun(v5:Int)=> .each false qi v4 fQ (fun i1 a3 (y2:Int)=> .ix i1 v4.length (.ob (i1.toNat < v4.length) (.ob (Ky a3.re) (rl (dB .i64 (y2+aAg a3.re)))))) (fun(i1 y2:Int)=> .ret y2) v5))
def Ky (fu:Nat)(v:af):Prop:=tV v<=1048576/\tV v<=fu
def vcV:Nat->(af->Int)
 | 0=>(fun _=>default)
 | fu+1=>(fun v=>(aqr ((vcV fu)) (Ky fu) v).val)
abbrev QN (fu:Nat):=aqr ((vcV fu)) (Ky fu)
def akr (v:af):Int:=(vcV (tV v)) v
theorem aop (fu:Nat)(v:af)(h:Ky (fu+1) v):Is (QN fu v):=
 by
 obtain⟨h1,h2⟩:=h;have hi:=(Tj v h1).2;unfold QN aqr;simp only[af.dK];refine aX h1 (dF fun v4 hv4=>iL fun _=>dF fun v5 hv5=>iF (.inr au) (fun i1 y2 hi1 _=>dR au au (aX au (aX ?_ aU))) (fun y2 _=>aU));have:=hi.2 (v4.getD i1 fQ) (by have:=getD_mem (d:=fQ) hi1;rw[hv4]at this⊢;exact this);exact⟨by omega,by omega⟩
theorem aBa:∀fu,fV Z.P Z.S 132 (oP (args (a1 (aF aI))) (R1 cI) 1 [] (fun a=>some (Ky fu a)) (fun a=>(vcV fu) a))
 | 0=>iH func132 dU (fun a h=>by have k:=h.2;have:=mg a;omega)
 | fu+1=>by
  have h0:=aBa fu;exact G9 [aum,⟨132,_,h0⟩] [jS 3 (bU (fun sl=>[s0 13, s0 3]) (az cI (l1 cI)))] func132 ntmps132 (fun a=>QN fu a) (fun a h=>⟨aop fu a h,rfl⟩) (kH (n:=23) rfl)
def auE:aS Z:=⟨132,oP (args (a1 (aF aI))) (R1 cI) 1 [] (fun a=>some (tV a<=1048576)) (fun a=>akr a),jM (fun n=>((aBa n))) _ _ (fun a h=>⟨tV a,⟨h,l9 _⟩,rfl⟩)⟩
def akO (p:dD)(prog:Int)(v:af):Pg Int:=.br (decide (prog < 0)) (.ret 10) (aL p.a_ (.br (decide ((↑p.a_.length:Int)<=prog)) (.ret 10) (.ix prog p.a_.length (.ob (gm p/\p.a_.getD prog.toNat bW∈p.a_/\gV v.re) (.lt (Y9 (aB.mk p) (p.a_.getD prog.toNat bW) v.re 1) fun(v1:Int)=> .br (v1 !=0) (.ret v1) (.ob (tV v.re<=1048576) (.lt (akr v.re) fun(v2:Int)=> .br (decide (4096 < v2)) (.ret 3) (.ret 0))))))))
def aDB (p:dD)(prog:Int)(v:af):=(akO p prog v).val
theorem aqP (p:dD)(prog:Int)(v:af)(h:gm p/\gV v):Is (akO p prog v):=
 by
 unfold akO;simp only[af.dK];exact gu iR (fun _=>iL fun _=>gu iR (fun _=>dR au au (aX ⟨h.1,getD_mem au,h.2⟩ (dF fun v1 hv1=>jQ iR (fun _=>aX h.2.2 (dF fun v2 hv2=>gu iR iR))))))
def awE:aS Z:=E1 [aih,auE] [] (aj (aF dX) (aj (bu cI) (a1 (aF aI)))) (R1 cI) [] func85 1 (u3 akO) (fun a=>gm a.1/\gV a.2.2) fun a h=>aqP a.1 a.2.1 a.2.2 h
theorem put_pos (u:Int)(h:0<=u/\u < 18446744073709551616):1<=(V5 u).length:=by
 obtain⟨x,rfl⟩:∃x:Nat,u=(x:Int):=⟨u.toNat,by omega⟩;rw[aec x au,G6,Qbj];unfold ais;split<;>simp
theorem azG {f:Raw}(h:Me f=true):1<=(Di f.Num f.eU).1.length/\(Di f.Num f.eU).1.length<=10:=by
 have e:(Di f.Num f.eU).2=0:=by
  unfold Me Z9 at h;simp only[bV,aV]at h;cases e:(Di f.Num f.eU).2 !=0 with
  | true=>rw[e]at h;cases h
  | false=>exact kG.1 e
 unfold Di ae6 at e⊢;simp only[bV,dJ,dP,aV]at e⊢;by_cases h1:f.Num < 1
 ·rw[uu h1]at e;cases e
 rw[qy h1]at e⊢;by_cases h2:65535 < f.Num
 ·rw[uu h2]at e;cases e
 rw[qy h2]at e⊢;by_cases h3:f.eU < 0
 ·rw[uu h3]at e;cases e
 rw[qy h3]at e⊢;by_cases h4:6 < f.eU
 ·rw[uu h4]at e;cases e
 rw[qy h4];exact⟨put_pos _ (PZ _),QT _ (PZ _)⟩
def wL (l:List Raw):Nat:=jH (fun x=>24+x.Data.length) l
theorem ado {l:List Raw}{i:Nat}(hi:i < l.length):wL (l.take (i+1))=wL (l.take i)+(24+(l.getD i pz).Data.length):=ql (f:=fun x:Raw=>24+x.Data.length) (d:=pz) hi
theorem arF {l:List Raw}{i:Nat}:wL (l.take i)<=wL l:=vF (Qc3 i l)
theorem J_ (l m:List Raw):wL (l++m)=wL l+wL m:=n_ l m
theorem Gy (l:List Raw):l.length<=wL l:=zf fun x=>by omega
def Xy (l:List Raw):Prop:=(∀x∈l,Nh x)/\wL l<=68719476736
def aFe (l:List Raw)(i:Nat)(y:List Int):Prop:=y.length<=wL (l.take i)/\(0 < i->0 < y.length)/\∀k,Eb y k=true
theorem Vs {l:List Raw}{i:Nat}{y:List Int}{a b:Str}(hi:i < l.length)(h:aFe l i y)(ha:1<=a.length/\a.length<=10)(hb:b.length<=10+(l.getD i pz).Data.length):aFe l (i+1) (y++Vx a++Vx b):=by
 refine⟨?_,fun _=> ?_,Vd (Vd h.2.2 (IJ a)) (IJ b)⟩
 ·rw[ado hi];simp only[kT,zF];have:=h.1;omega
 ·simp only[kT,zF];omega
theorem axY (a b:Str):Vx (a++b)=Vx a++Vx b:=by simp[Vx]
def ahA:List Raw:=[]
def ajD:Pg (List UInt8):=aL ahA (.ob ((dp ((0:Int)=0)).p/\True) (.ret []))
def Xf:Str:=(ajD).val
theorem apv:Is (ajD):=
 iL fun _=>aX ((⟨rfl,trivial⟩)) (aU)
def az9:aS Z:=w_ Z [adr,acM,Ia,agV,ahs,acw,Zd] [jS 600003 (bU (fun _=>List.replicate 2 (.iter 0)) l0)] (args (a1 (bu bF))) (kH (n:=54) rfl) (R1 cStr) [] func134 ntmps134 dU 1 rfl (fun a=>ajD) (fun a=>some (a=ahA)) (fun(l) e h=>by have hf0:l=ahA:=h;subst hf0;show _=_;kernel_rfl) (fun a=>Xf) (fun a h=>⟨apv,rfl⟩)
def ajQ (l:List Raw):Pg (List UInt8):=aL l (.each false qi l pz (fun i1 a3 (y2:List Int)=> .ix i1 l.length (.br (!Me a3) (rl y2) (.lt (Di a3.Num a3.eU) fun(v4:Str×Int)=> .ob ((dp (bQ (y2.length+v4.1.length) 1)).p/\True) (.lt (y2++Vx v4.1) fun(v5:List Int)=> .br (a3.eU==2) (.lt (aAw a3.Bits) fun(v6:Str)=> .ob ((dp (bQ (v5.length+List.length v6) 1)).p/\True) (rl (v5++Vx v6))) (.br (alm a3.eU) (.ob (lS a3.Bits) (.lt (V5 a3.Bits) fun(v7:Str)=> .ob ((dp (bQ (v5.length+List.length v7) 1)).p/\True) (rl (v5++Vx v7)))) (.lt (dB .u64 (↑(List.length a3.Data):Int)) fun(v8:Int)=> .ob (lS v8) (.lt (V5 v8) fun(v9:Str)=> .ob ((dp (bQ (v5.length+List.length v9) 1)).p/\True) (.as (List.length a3.Data<=9223372036854775807) (.lt (v5++Vx v9) fun(v10:List Int)=> .ob ((dp (bQ (v10.length+List.length a3.Data) 1)).p/\True) (rl (v10++Vx a3.Data))))))))))) (fun i1 (y2:List Int)=> .ob ((dp (0 < y2.length)).p/\(dp ((↑y2.length:Int)=(↑y2.length:Int)/\0 < (↑y2.length:Int)/\I5 (Eb y2) y2.length=true)).p/\True) (.ret (txU y2))) [])
def ar9 (l:List Raw):=(ajQ l).val
theorem Zj (l:List Raw)(h:l≠[]/\Xy l):jF (ajQ l) (fun r=>r.length<=wL l):=
 by
 obtain⟨hne,hq,hb⟩:=h;have hlen:=Gy l;unfold ajQ;refine dm <| cZ (aFe l) ⟨l9 _,fun h=>absurd h nG,fun k=>IJ [] k⟩ au (fun i1 y2 hi hI=> ?_) fun y2 hI=> ?_
 ·have hr:=hq _ (getD_mem (d:=pz) hi);have ht:=azG hr.2;have h1:=hI.1;have h2:=arF (l:=l) (i:=i1);have h3:=ado hi;have h4:=arF (l:=l) (i:=i1+1);have room:∀n,n<=wL (l.take (i1+1))->(dp (bQ n 1)).p/\True:=fun n hn=>⟨b_ au au,trivial⟩
  refine aZ au au (dH (fun hv=>absurd hv (by rw[hr.2];decide)) fun _=>aC fun v4 hv4=> ?_);rw[<-hv4]at ht;refine ak (room _ au) (aC fun v5 hv5=> ?_);have h5:v5.length=y2.length+v4.1.length:=by rw[hv5,kT,zF]
  refine dI (fun _=>aC fun v6 hv6=> ?_) fun _=>dH (fun _=>ak hr.1 (aC fun v7 hv7=> ?_)) fun _=>aC fun v8 Nl=>ak (by rw[Nl];exact PZ _) (aC fun v9 hv9=> ?_)
  ·have h6:v6.length=8:=by rw[hv6];exact(VA _).2
   exact ak (room _ au) (ah (by rw[hv5];exact Vs hi hI ht au))
  ·have h6:v7.length<=10:=by rw[hv7];exact QT _ hr.1
   exact ak (room _ au) (ah (by rw[hv5];exact Vs hi hI ht au))
  ·have h6:v9.length<=10:=by rw[hv9];exact QT _ (by rw[Nl];exact PZ _)
   refine ak (room _ au) (dm <| aC fun v10 JB=> ?_);have h7:v10.length=v5.length+v9.length:=by rw[JB,kT,zF]
   refine ak (room _ au) (ah ?_);rw[JB,hv5,Oy,<-axY];exact Vs hi hI ht (by rw[kT];omega)
 ·have hp:0 < y2.length:=hI.2.1 (by
   cases l with
   | nil=>exact absurd rfl hne
   | cons a t=>simp)
  have h1:=hI.1;rw[Eo]at h1;exact ak ⟨hp,⟨rfl,by omega,xq hI.2.2 _⟩,trivial⟩ (ah (by rw[G6];exact h1))
def az_:aS Z:=E1 [adr,acM,Ia,agV,ahs,acw,Zd] [jS 3 (bU (fun sl=>[s0 10, .tcs (pid (sl 3)) 345 [some 5]]) (az cI (l1 OU)))] (a1 (bu bF)) (R1 cStr) [] func134 1 ajQ (fun a=>a≠[]/\Xy a) fun a h=>(Zj a h).1
def Pm (l:List Raw):Str:=bif l.isEmpty then Xf else ar9 l
theorem af1 {l:List Raw}(h:Xy l):(Pm l).length<=wL l:=by
 unfold Pm;cases l with
 | nil=>
  show Xf.length<=_
  unfold Xf ajD;simp only[lh,dP,aV];exact vg _
 | cons a t=>exact(Zj (a::t) ⟨by simp,h⟩).2
def arT:aS Z:=⟨134,oP (args (a1 (bu bF))) (R1 cStr) 1 [] (fun a=>some (Xy a)) (fun a=>Pm a),by
  have h1:fV Z.P Z.S 134 (oP (args (a1 (bu bF))) (R1 cStr) 1 [] (fun a=>some (List.isEmpty a=true/\Xy a)) (fun a=>Xf)):=jM (fun _=>az9.ok) _ _ (fun a h=>⟨0,List.isEmpty_iff.1 h.1,rfl⟩);have h2:fV Z.P Z.S 134 (oP (args (a1 (bu bF))) (R1 cStr) 1 [] (fun a=>some (List.isEmpty a=false/\Xy a)) (fun a=>ar9 a)):=jM (fun _=>az_.ok) _ _ (fun a h=>⟨0,⟨fun e=>absurd h.1 (by rw[show a=[]from e];decide),h.2⟩,rfl⟩);exact I_ h1 h2⟩
def aB1:aS Z:=JW Z [xk] 214 [true] func214 dU
def aEY:aS Z:=JW Z [xk] 214 [false,true] func214 dU
def aEu:aS Z:=JW Z [xk] 214 [false,false,true] func214 dU
def aDS:aS Z:=JW Z [xk] 214 [false,false,false] func214 dU
def Sr (v:af):Pg Raw:=.cut (fun(y1:Bool)=> .br y1 (.ret (Raw.mk 0 0 v.Bits [])) (.cut (fun(y2:Bool)=> .br y2 (.ret (Raw.mk 0 1 (atG (dB .i64 v.Bits)) [])) (.br (v.Kind==6) (.ret (Raw.mk 0 2 (nM v.re).Bits [])) (.br (v.Kind==7) (.br (v.Kind==7) (.ret (Raw.mk 0 3 0 v.Text)) (.ret (Raw.mk 0 0 0 []))) (.br (v.Kind==8) (.ret (Raw.mk 0 3 0 v.Text)) (.ret (Raw.mk 0 0 0 [])))))) (.br (v.Kind==2) (rl (v.Kind==2)) (rl (v.Kind==3))))) (.br (v.Kind==1) (rl (v.Kind==1)) (.br (v.Kind==4) (rl (v.Kind==4)) (.br (v.Kind==5) (rl (v.Kind==5)) (rl (v.Kind==9)))))
def EP (v:af):=(Sr v).val
def OC:aS Z:=E0 [LX,aC1] [jS 100006 (bU (fun sl=>[s0 5]) (l1 aH)),jS 100009 (bU (fun sl=>[s0 13]) (l1 aH))] (a1 (aF aI)) (shr [.slot 0 true (nn 4)] (l1 oq)) [] func390 1 Sr
def Y0 (num:Int)(f:Raw):Pg Raw:=.ret (Raw.mk num f.eU f.Bits f.Data)
def uV (num:Int)(f:Raw):=(Y0 num f).val
def ES:aS Z:=E0 [] [] (aj (bu cI) (a1 (aF oq))) (shr [.slot 0 true (nn 4)] (l1 oq)) [] func389 1 (u2 Y0)
def eOk (f:Raw)(n:Nat):Prop:=(0<=f.eU/\f.eU<=6)/\lS f.Bits/\(f.eU<=2->f.Data=[])/\(3<=f.eU->f.Bits=0)/\f.Data.length<=n
theorem QI {w b:Int}{n:Nat}(hw:0<=w/\w<=2)(hb:lS b):eOk (Raw.mk 0 w b []) n:=⟨⟨hw.1,by show w<=6;omega⟩,hb,fun _=>rfl,fun h=>absurd hw.2 (by have h:3<=w:=h;omega),vg _⟩
theorem alM {w:Int}{d:Str}{n:Nat}(hw:3<=w/\w<=6)(hd:d.length<=n):eOk (Raw.mk 0 w 0 d) n:=⟨⟨by show 0<=w;omega,hw.2⟩,u0,fun h=>absurd hw.1 (by have h:w<=2:=h;omega),fun _=>rfl,hd⟩
theorem apS {f:Raw}{n m:Nat}(h:eOk f n)(hm:n<=m):eOk f m:=⟨h.1,h.2.1,h.2.2.1,h.2.2.2.1,zO h.2.2.2.2 hm⟩
theorem aE6 (n:Int):lS (atG n):=by
 unfold atG aCu;simp only[dP,aV];exact aiS _
theorem Jm {v:af}(h:kV v):eOk (EP v) v.Text.length:=by
 have hb:=((iw v).1 h).1.1;have hn:=((iw _).1 (RP h)).1.1;have k:VP (Sr v) (fun f=>eOk f v.Text.length):=by
  unfold Sr;simp only[af.dK];have n0:eOk (Raw.mk 0 0 0 []) v.Text.length:=QI ⟨by decide,by decide⟩ u0;have n3:eOk (Raw.mk 0 3 0 v.Text) v.Text.length:=alM ⟨by decide,by decide⟩ (l9 _);refine lq (fun _=>True) ?_ fun y1 _=>gK (fun _=>bi (QI ⟨by decide,by decide⟩ hb)) fun _=>lq (fun _=>True) ?_ fun y2 _=>gK (fun _=>bi (QI ⟨by decide,by decide⟩ (aE6 _))) fun _=>gK (fun _=>bi (QI ⟨by decide,by decide⟩ hn)) fun _=>gK (fun _=>gK (fun _=>bi n3) fun _=>bi n0) fun _=>gK (fun _=>bi n3) fun _=>bi n0
  ·exact gK (fun _=>bi trivial) fun _=>gK (fun _=>bi trivial) fun _=>gK (fun _=>bi trivial) fun _=>bi trivial
  ·exact gK (fun _=>bi trivial) fun _=>bi trivial
 exact k
theorem yQ {num:Int}{f:Raw}{n:Nat}(hn:1<=num/\num<=65535)(h:eOk f n):Nh (uV num f)/\(uV num f).Data.length<=n:=
 ⟨Vj (f:=Raw.mk num f.eU f.Bits f.Data) hn h.1 h.2.1 h.2.2.1 h.2.2.2.1,h.2.2.2.2⟩
theorem awK (l:List Raw):wL l<=24*QQ l:=by
 induction l with
 | nil=>exact l9 _
 | cons a t ih=>
  show 24+a.Data.length+wL t<=24*(1+a.Data.length+QQ t)
  omega
theorem Lu (x:Raw):wL [x]=24+x.Data.length:=rfl
theorem WI (x:Raw)(l:List Raw):wL (x::l)=24+x.Data.length+wL l:=rfl
def enI (v:af)(i:Nat)(y:List Raw×List Raw):Prop:=(∀x∈y.1,Nh x)/\(∀x∈y.2,Nh x)/\y.2.length<=v.bJ.length/\wL y.1+wL y.2<=wL v.bJ+64*jH tS (v.Slots.take i)
def ajw (w:ai)(o:Op)(v:af):Pg (List Raw):=aL v.List (.lt (dB .u8 (aiz (Op.mk o.Num o.Name o.Alias 2 o.Key o.Kind o.Target o.Union))) fun(v4:Int)=> .each false qi v.List fQ (fun i1 a3 (y2:List Int)=> .ix i1 v.List.length (.lt (EP a3.re) fun(v5:Raw)=> .br (aiz (Op.mk o.Num o.Name o.Alias 2 o.Key o.Kind o.Target o.Union)==2) (.lt (aAw v5.Bits) fun(v6:Str)=> .ob (bQ (y2.length+List.length v6) 1) (rl (y2++Vx v6))) (.ob (lS v5.Bits) (.lt (V5 v5.Bits) fun(v7:Str)=> .ob (bQ (y2.length+List.length v7) 1) (rl (y2++Vx v7)))))) (fun i1 (y2:List Int)=> .ob (I5 (fun(i:Nat)=>true) y2.length=true) (.ret [Raw.mk o.Num 5 0 (txU y2)])) [v4])
def aD4 (w:ai)(o:Op)(v:af):=(ajw w o v).val
theorem Ya (w:ai)(o:Op)(v:af)(h:(1<=o.Num/\o.Num<=65535)/\gV v):jF (ajw w o v) (fun r=>(∀x∈r,Nh x)/\wL r<=24+64*tV v):=
 by
 obtain⟨ho,h3⟩:=h;have hl:=o6 h3;have hb:=h3.2;have ht:=iD v;have hs:=KT v.List;unfold ajw;simp only[af.dK];refine dm <| aC fun v4 hv4=>cZ (fun i y=>y.length<=1+10*i) qa2 au (fun i1 y2 hi hI=> ?_) fun y2 hI=>ak (xq (fun _=>rfl) _) (ah ⟨kC (Vj (f:=Raw.mk o.Num 5 0 (txU y2)) ho ⟨(by decide:(0:Int)<=5),(by decide:(5:Int)<=6)⟩ u0 (fun h=>absurd h (by decide:¬(5:Int)<=2)) (fun _=>rfl)),?_⟩)
 ·have hu:lS (EP (v.List.getD i1 fQ)).Bits:=(Jm (BG h3 (getD_mem (d:=fQ) hi)).1.1).2.1;refine aZ au au (aC fun v5 hv5=>dI (fun _=>aC fun v6 hv6=> ?_) fun _=>ak (by rw[hv5];exact hu) (aC fun v7 hv7=> ?_))
  ·have h6:v6.length=8:=by rw[hv6];exact(VA _).2
   exact ak (b_ au au) (ah (by show(y2++Vx v6).length<=_;rw[kT,zF];omega))
  ·have h6:v7.length<=10:=by rw[hv7];exact QT _ (by rw[hv5];exact hu)
   exact ak (b_ au au) (ah (by show(y2++Vx v7).length<=_;rw[kT,zF];omega))
 ·rw[Lu];show 24+(txU y2).length<=_
  rw[G6];omega
def ayq:aS Z:=E1 [agV,acw,ajo,OC] [jS 6 (bU (fun sl=>[s0 23, .slot 9 false [some 5]]) (az cI (l1 OU)))] (aj (aF fJ) (aj (aF ji) (a1 (aF aI)))) (R1 bF) [] func328 1 (u3 ajw) (fun a=>(1<=a.2.1.Num/\a.2.1.Num<=65535)/\gV a.2.2) fun a h=>(Ya a.1 a.2.1 a.2.2 h).1
def ae4 (nV:ai->Op->af->Raw)(fB:ai->Op->af->Prop)(qL:ai->Op->af->List Raw)(gU:ai->Op->af->Prop)(oN:ai->Op->af->List Raw)(fD:ai->Op->af->Prop)(uq:ai->Op->af->List Raw)(iY:ai->Op->af->Prop)(Aa:ai->Int->Slot->List Raw)(jl:ai->Int->Slot->Prop)(Dk:ai->Int->af->Str)(lm:ai->Int->af->Prop)(w:ai)(o:Op)(v:af):Pg Raw:=.br (o.Kind==10) (.ob (lm w o.Target v.re) (.ret (Raw.mk 0 4 0 (Dk w o.Target v.re)))) (.ret (EP v.re))
def aed (nV:ai->Op->af->Raw)(fB:ai->Op->af->Prop)(qL:ai->Op->af->List Raw)(gU:ai->Op->af->Prop)(oN:ai->Op->af->List Raw)(fD:ai->Op->af->Prop)(uq:ai->Op->af->List Raw)(iY:ai->Op->af->Prop)(Aa:ai->Int->Slot->List Raw)(jl:ai->Int->Slot->Prop)(Dk:ai->Int->af->Str)(lm:ai->Int->af->Prop)(w:ai)(o:Op)(v:af):Pg (List Raw):=aL v.Pairs (.each false qi v.Pairs gJ (fun i1 a3 (y2:List Raw)=> .ix i1 v.Pairs.length (.ob (fB w o a3.Val.re) (.lt (uV 2 (nV w o a3.Val.re)) fun(v4:Raw)=> .lt (uV 1 (EP a3.Key.re)) fun(v5:Raw)=> .ob (Xy [v5,v4]) (.ob (bQ (y2.length+1) 40) (rl (y2++[Raw.mk o.Num 6 0 (Pm [v5,v4])])))))) (fun i1 (y2:List Raw)=> .ret y2) [])
def Y6 (nV:ai->Op->af->Raw)(fB:ai->Op->af->Prop)(qL:ai->Op->af->List Raw)(gU:ai->Op->af->Prop)(oN:ai->Op->af->List Raw)(fD:ai->Op->af->Prop)(uq:ai->Op->af->List Raw)(iY:ai->Op->af->Prop)(Aa:ai->Int->Slot->List Raw)(jl:ai->Int->Slot->Prop)(Dk:ai->Int->af->Str)(lm:ai->Int->af->Prop)(w:ai)(o:Op)(v:af):Pg (List Raw):=aL v.List (.each false qi v.List fQ (fun i1 a3 (y2:List Raw)=> .ix i1 v.List.length (.ob (fB w o a3.re) (.ob (bQ (y2.length+1) 40) (rl (y2++[uV o.Num (nV w o a3.re)]))))) (fun i1 (y2:List Raw)=> .ret y2) [])
def akW (nV:ai->Op->af->Raw)(fB:ai->Op->af->Prop)(qL:ai->Op->af->List Raw)(gU:ai->Op->af->Prop)(oN:ai->Op->af->List Raw)(fD:ai->Op->af->Prop)(uq:ai->Op->af->List Raw)(iY:ai->Op->af->Prop)(Aa:ai->Int->Slot->List Raw)(jl:ai->Int->Slot->Prop)(Dk:ai->Int->af->Str)(lm:ai->Int->af->Prop)(w:ai)(o:Op)(v:af):Pg (List Raw):=.ob (fB w o v.re) (.ret [uV o.Num (nV w o v.re)])
def aHH (nV:ai->Op->af->Raw)(fB:ai->Op->af->Prop)(qL:ai->Op->af->List Raw)(gU:ai->Op->af->Prop)(oN:ai->Op->af->List Raw)(fD:ai->Op->af->Prop)(uq:ai->Op->af->List Raw)(iY:ai->Op->af->Prop)(Aa:ai->Int->Slot->List Raw)(jl:ai->Int->Slot->Prop)(Dk:ai->Int->af->Str)(lm:ai->Int->af->Prop)(w:ai)(prog:Int)(s:Slot):Pg (List Raw):=.ix prog w.p.a_.length (.lt (lQ (w.p.a_.getD prog.toNat bW) s.Num) fun(v1:Op×Bool)=> .br (!v1.2) (.ret []) (.ob ((v1.1.Card==5)=true/\True) (.ob (gU w v1.1 s.Val.re) (.ret (qL w v1.1 s.Val.re)))))
def aAP (nV:ai->Op->af->Raw)(fB:ai->Op->af->Prop)(qL:ai->Op->af->List Raw)(gU:ai->Op->af->Prop)(oN:ai->Op->af->List Raw)(fD:ai->Op->af->Prop)(uq:ai->Op->af->List Raw)(iY:ai->Op->af->Prop)(Aa:ai->Int->Slot->List Raw)(jl:ai->Int->Slot->Prop)(Dk:ai->Int->af->Str)(lm:ai->Int->af->Prop)(w:ai)(prog:Int)(s:Slot):Pg (List Raw):=.ix prog w.p.a_.length (.lt (lQ (w.p.a_.getD prog.toNat bW) s.Num) fun(v1:Op×Bool)=> .br (!v1.2) (.ret []) (.ob ((v1.1.Card==5)=false/\kW v1.1=true/\True) (.ob ((1<=v1.1.Num/\v1.1.Num<=65535)/\gV s.Val.re) (.ret (aD4 w v1.1 s.Val.re)))))
def aG2 (nV:ai->Op->af->Raw)(fB:ai->Op->af->Prop)(qL:ai->Op->af->List Raw)(gU:ai->Op->af->Prop)(oN:ai->Op->af->List Raw)(fD:ai->Op->af->Prop)(uq:ai->Op->af->List Raw)(iY:ai->Op->af->Prop)(Aa:ai->Int->Slot->List Raw)(jl:ai->Int->Slot->Prop)(Dk:ai->Int->af->Str)(lm:ai->Int->af->Prop)(w:ai)(prog:Int)(s:Slot):Pg (List Raw):=.ix prog w.p.a_.length (.lt (lQ (w.p.a_.getD prog.toNat bW) s.Num) fun(v1:Op×Bool)=> .br (!v1.2) (.ret []) (.ob ((v1.1.Card==5)=false/\kW v1.1=false/\(v1.1.Card==4)=true/\True) (.ob (fD w v1.1 s.Val.re) (.ret (oN w v1.1 s.Val.re)))))
def aHg (nV:ai->Op->af->Raw)(fB:ai->Op->af->Prop)(qL:ai->Op->af->List Raw)(gU:ai->Op->af->Prop)(oN:ai->Op->af->List Raw)(fD:ai->Op->af->Prop)(uq:ai->Op->af->List Raw)(iY:ai->Op->af->Prop)(Aa:ai->Int->Slot->List Raw)(jl:ai->Int->Slot->Prop)(Dk:ai->Int->af->Str)(lm:ai->Int->af->Prop)(w:ai)(prog:Int)(s:Slot):Pg (List Raw):=.ix prog w.p.a_.length (.lt (lQ (w.p.a_.getD prog.toNat bW) s.Num) fun(v1:Op×Bool)=> .br (!v1.2) (.ret []) (.ob ((v1.1.Card==5)=false/\kW v1.1=false/\(v1.1.Card==4)=false/\True) (.ob (iY w v1.1 s.Val.re) (.ret (uq w v1.1 s.Val.re)))))
def aBb (nV:ai->Op->af->Raw)(fB:ai->Op->af->Prop)(qL:ai->Op->af->List Raw)(gU:ai->Op->af->Prop)(oN:ai->Op->af->List Raw)(fD:ai->Op->af->Prop)(uq:ai->Op->af->List Raw)(iY:ai->Op->af->Prop)(Aa:ai->Int->Slot->List Raw)(jl:ai->Int->Slot->Prop)(Dk:ai->Int->af->Str)(lm:ai->Int->af->Prop)(w:ai)(prog:Int)(v:af):Pg (List UInt8):=.ob (gV v.re) (.lt (Tt w.p prog v.re) fun(v6:af)=> aL v6.Slots (.each false qi v6.Slots bK (fun i1 a5 (y2:List Raw×List Raw)=> .ix i1 v6.Slots.length (.cut (fun(y4:List Raw×List Raw)=> .ob (jl w prog (Slot.mk a5.Num a5.Val.re)) (.ob (bQ (y4.1.length+(Aa w prog (Slot.mk a5.Num a5.Val.re)).length) 40) (rl (y4.1++Aa w prog (Slot.mk a5.Num a5.Val.re),y4.2)))) (.wh (tV v+1) default (fun(x3:List Raw×List Raw)=> .br (decide (0 < (↑x3.2.length:Int))) (.ix 0 x3.2.length (.br (decide ((x3.2.getD 0 pz).Num < a5.Num)) (.ix 0 x3.2.length (.ob (bQ (x3.1.length+1) 40) (.ob ((0:Int)<=1/\1<=(↑x3.2.length:Int)/\(↑x3.2.length:Int)<=(↑x3.2.length:Int)) (rl (x3.1++[x3.2.getD 0 pz],List.drop 1 (List.take x3.2.length x3.2)))))) (.ret (.inr (.inl x3))))) (.ret (.inr (.inl x3)))) y2))) (fun i1 (y2:List Raw×List Raw)=> .ob (bQ (y2.1.length+y2.2.length) 40) (.lt (y2.1++y2.2) fun(v7:List Raw)=> .ob (Xy v7) (.ret (Pm v7)))) ([],v6.bJ)))
def fB (fu:Nat)(w:ai)(o:Op)(v:af):Prop:=gm w.p/\Ti w.p o/\gV v/\4*tV v+1<=fu
def gU (fu:Nat)(w:ai)(o:Op)(v:af):Prop:=gm w.p/\Ti w.p o/\gV v/\4*tV v+2<=fu
def fD (fu:Nat)(w:ai)(o:Op)(v:af):Prop:=gm w.p/\Ti w.p o/\gV v/\4*tV v+2<=fu
def iY (fu:Nat)(w:ai)(o:Op)(v:af):Prop:=gm w.p/\Ti w.p o/\gV v/\4*tV v+2<=fu
def jl (fu:Nat)(w:ai)(prog:Int)(s:Slot):Prop:=gm w.p/\(0<=prog/\prog < w.p.a_.length)/\gV s.Val/\4*tV s.Val+3<=fu
def lm (fu:Nat)(w:ai)(prog:Int)(v:af):Prop:=gm w.p/\(0<=prog/\prog < w.p.a_.length)/\gV v/\4*tV v<=fu
def qp:Nat->(ai->Op->af->Raw)×(ai->Op->af->(List Raw))×(ai->Op->af->(List Raw))×(ai->Op->af->(List Raw))×(ai->Int->Slot->(List Raw))×(ai->Int->af->Str)
 | 0=>(fun _ _ _=>default,fun _ _ _=>default,fun _ _ _=>default,fun _ _ _=>default,fun _ _ _=>default,fun _ _ _=>default)
 | fu+1=>(fun w o v=>(ae4 ((qp fu).1) (fB fu) ((qp fu).2.1) (gU fu) ((qp fu).2.2.1) (fD fu) ((qp fu).2.2.2.1) (iY fu) ((qp fu).2.2.2.2.1) (jl fu) ((qp fu).2.2.2.2.2) (lm fu) w o v).val,fun w o v=>(aed ((qp fu).1) (fB fu) ((qp fu).2.1) (gU fu) ((qp fu).2.2.1) (fD fu) ((qp fu).2.2.2.1) (iY fu) ((qp fu).2.2.2.2.1) (jl fu) ((qp fu).2.2.2.2.2) (lm fu) w o v).val,fun w o v=>(Y6 ((qp fu).1) (fB fu) ((qp fu).2.1) (gU fu) ((qp fu).2.2.1) (fD fu) ((qp fu).2.2.2.1) (iY fu) ((qp fu).2.2.2.2.1) (jl fu) ((qp fu).2.2.2.2.2) (lm fu) w o v).val,fun w o v=>(akW ((qp fu).1) (fB fu) ((qp fu).2.1) (gU fu) ((qp fu).2.2.1) (fD fu) ((qp fu).2.2.2.1) (iY fu) ((qp fu).2.2.2.2.1) (jl fu) ((qp fu).2.2.2.2.2) (lm fu) w o v).val,fun w prog s=>bif (lQ (w.p.a_.getD prog.toNat bW) s.Num).1.Card==5 then(aHH ((qp fu).1) (fB fu) ((qp fu).2.1) (gU fu) ((qp fu).2.2.1) (fD fu) ((qp fu).2.2.2.1) (iY fu) ((qp fu).2.2.2.2.1) (jl fu) ((qp fu).2.2.2.2.2) (lm fu) w prog s).val else bif kW (lQ (w.p.a_.getD prog.toNat bW) s.Num).1 then(aAP ((qp fu).1) (fB fu) ((qp fu).2.1) (gU fu) ((qp fu).2.2.1) (fD fu) ((qp fu).2.2.2.1) (iY fu) ((qp fu).2.2.2.2.1) (jl fu) ((qp fu).2.2.2.2.2) (lm fu) w prog s).val else bif (lQ (w.p.a_.getD prog.toNat bW) s.Num).1.Card==4 then(aG2 ((qp fu).1) (fB fu) ((qp fu).2.1) (gU fu) ((qp fu).2.2.1) (fD fu) ((qp fu).2.2.2.1) (iY fu) ((qp fu).2.2.2.2.1) (jl fu) ((qp fu).2.2.2.2.2) (lm fu) w prog s).val else(aHg ((qp fu).1) (fB fu) ((qp fu).2.1) (gU fu) ((qp fu).2.2.1) (fD fu) ((qp fu).2.2.2.1) (iY fu) ((qp fu).2.2.2.2.1) (jl fu) ((qp fu).2.2.2.2.2) (lm fu) w prog s).val,fun w prog v=>(aBb ((qp fu).1) (fB fu) ((qp fu).2.1) (gU fu) ((qp fu).2.2.1) (fD fu) ((qp fu).2.2.2.1) (iY fu) ((qp fu).2.2.2.2.1) (jl fu) ((qp fu).2.2.2.2.2) (lm fu) w prog v).val)
abbrev AZ (fu:Nat):=ae4 ((qp fu).1) (fB fu) ((qp fu).2.1) (gU fu) ((qp fu).2.2.1) (fD fu) ((qp fu).2.2.2.1) (iY fu) ((qp fu).2.2.2.2.1) (jl fu) ((qp fu).2.2.2.2.2) (lm fu)
abbrev Aj (fu:Nat):=aed ((qp fu).1) (fB fu) ((qp fu).2.1) (gU fu) ((qp fu).2.2.1) (fD fu) ((qp fu).2.2.2.1) (iY fu) ((qp fu).2.2.2.2.1) (jl fu) ((qp fu).2.2.2.2.2) (lm fu)
abbrev xP (fu:Nat):=Y6 ((qp fu).1) (fB fu) ((qp fu).2.1) (gU fu) ((qp fu).2.2.1) (fD fu) ((qp fu).2.2.2.1) (iY fu) ((qp fu).2.2.2.2.1) (jl fu) ((qp fu).2.2.2.2.2) (lm fu)
abbrev D9 (fu:Nat):=akW ((qp fu).1) (fB fu) ((qp fu).2.1) (gU fu) ((qp fu).2.2.1) (fD fu) ((qp fu).2.2.2.1) (iY fu) ((qp fu).2.2.2.2.1) (jl fu) ((qp fu).2.2.2.2.2) (lm fu)
abbrev Zc (fu:Nat):=aHH ((qp fu).1) (fB fu) ((qp fu).2.1) (gU fu) ((qp fu).2.2.1) (fD fu) ((qp fu).2.2.2.1) (iY fu) ((qp fu).2.2.2.2.1) (jl fu) ((qp fu).2.2.2.2.2) (lm fu)
abbrev NK (fu:Nat):=aAP ((qp fu).1) (fB fu) ((qp fu).2.1) (gU fu) ((qp fu).2.2.1) (fD fu) ((qp fu).2.2.2.1) (iY fu) ((qp fu).2.2.2.2.1) (jl fu) ((qp fu).2.2.2.2.2) (lm fu)
abbrev Yw (fu:Nat):=aG2 ((qp fu).1) (fB fu) ((qp fu).2.1) (gU fu) ((qp fu).2.2.1) (fD fu) ((qp fu).2.2.2.1) (iY fu) ((qp fu).2.2.2.2.1) (jl fu) ((qp fu).2.2.2.2.2) (lm fu)
abbrev Yg (fu:Nat):=aHg ((qp fu).1) (fB fu) ((qp fu).2.1) (gU fu) ((qp fu).2.2.1) (fD fu) ((qp fu).2.2.2.1) (iY fu) ((qp fu).2.2.2.2.1) (jl fu) ((qp fu).2.2.2.2.2) (lm fu)
abbrev UE (fu:Nat):=aBb ((qp fu).1) (fB fu) ((qp fu).2.1) (gU fu) ((qp fu).2.2.1) (fD fu) ((qp fu).2.2.2.1) (iY fu) ((qp fu).2.2.2.2.1) (jl fu) ((qp fu).2.2.2.2.2) (lm fu)
def as9 (w:ai)(prog:Int)(v:af):Str:=(qp (4*tV v)).2.2.2.2.2 w prog v
def zK (fu:Nat):Prop:=(∀(w:ai) (o:Op) (v:af),fB fu w o v->(fun r=>eOk r (64*tV v)) ((qp fu).1 w o v))/\(∀(w:ai) (o:Op) (v:af),gU fu w o v->(fun r=>(∀x∈r,Nh x)/\wL r<=24+64*tV v) ((qp fu).2.1 w o v))/\(∀(w:ai) (o:Op) (v:af),fD fu w o v->(fun r=>(∀x∈r,Nh x)/\wL r<=24+64*tV v) ((qp fu).2.2.1 w o v))/\(∀(w:ai) (o:Op) (v:af),iY fu w o v->(fun r=>(∀x∈r,Nh x)/\wL r<=24+64*tV v) ((qp fu).2.2.2.1 w o v))/\(∀(w:ai) (prog:Int) (s:Slot),jl fu w prog s->(fun r=>(∀x∈r,Nh x)/\wL r<=24+64*tV s.Val) ((qp fu).2.2.2.2.1 w prog s))/\(∀(w:ai) (prog:Int) (v:af),lm fu w prog v->(fun r=>r.length<=64*tV v) ((qp fu).2.2.2.2.2 w prog v))
theorem Lr (fu:Nat)(ih:zK fu)(w:ai)(o:Op)(v:af)(h:fB (fu+1) w o v):jF (AZ fu w o v) (fun r=>eOk r (64*tV v)):=
 by
 obtain⟨h1,h2,h3,h4⟩:=h;unfold AZ ae4;simp only[af.dK];refine dI (fun hk=> ?_) (fun hk=>ah ?_)
 ·have hq:lm fu w o.Target v:=⟨h1,h2.1 hk,h3,by omega⟩;exact ak hq (ah (alM ⟨by decide,by decide⟩ (ih.2.2.2.2.2 _ _ _ hq)))
 ·exact apS (Jm h3.1) (by have:=iD v;omega)
theorem MO (fu:Nat)(ih:zK fu)(w:ai)(o:Op)(v:af)(h:gU (fu+1) w o v):jF (Aj fu w o v) (fun r=>(∀x∈r,Nh x)/\wL r<=24+64*tV v):=
 by
 obtain⟨h1,h2,h3,h4⟩:=h;have hl:=o6 h3;have hb:=h3.2;have hpl:=hl.2.2.2.1;have ht:=iD v;have hs:=wH v.Pairs;unfold Aj aed;simp only[af.dK];refine dm <| cZ (fun i y=>y.length<=i/\(∀x∈y,Nh x)/\wL y<=64*jH tP (v.Pairs.take i)) ⟨l9 _,fun x hx=>absurd hx (Qb),vg _⟩ (by have:=hl.2.2.2.1;omega) (fun i1 y2 hi hI=> ?_) fun y2 hI=>ah ⟨hI.2.1,?_⟩
 ·have hm:=getD_mem (d:=gJ) hi;obtain⟨g1,g2,g3,g4⟩:=y_ h3 hm;have gk:=ahc h3 hm;have hq:fB fu w o (v.Pairs.getD i1 gJ).Val:=⟨h1,h2,g1,by omega⟩;have k1:=ih.1 _ _ _ hq;have k2:=Jm gk;have tk:=iD (v.Pairs.getD i1 gJ).Key;have e1:=ql (f:=tP) (d:=gJ) hi;have e2:=O3 (v.Pairs.getD i1 gJ);refine aZ au au (ak hq (aC fun v4 hv4=>aC fun v5 hv5=> ?_));obtain⟨n1,n2⟩:=yQ (num:=2) ⟨by decide,by decide⟩ k1;obtain⟨n3,n4⟩:=yQ (num:=1) ⟨by decide,by decide⟩ k2;rw[<-hv4]at n1 n2;rw[<-hv5]at n3 n4;have el:wL [v5,v4]=24+v5.Data.length+(24+v4.Data.length):=rfl;have pq:Xy [v5,v4]:=⟨alN n3 n1,by rw[el];omega⟩;have pl:=af1 pq;rw[el]at pl;refine ak pq (ak (b_ qbb qbb) (ah ⟨by have:=hI.1;simp only[kT,yF,BM];omega,pG hI.2.1 (kC ?_),?_⟩))
  ·exact Vj (f:=Raw.mk o.Num 6 0 (Pm [v5,v4])) h2.2.2 ⟨(by decide:(0:Int)<=6),Qb2 6⟩ u0 (fun h=>absurd h (by decide:¬(6:Int)<=2)) (fun _=>rfl)
  ·have:=hI.2.2;rw[J_,Lu,e1,e2];show wL y2+(24+(Pm [v5,v4]).length)<=_
   omega
 ·have:=hI.2.2;rw[Eo]at this;omega
theorem H_ (fu:Nat)(ih:zK fu)(w:ai)(o:Op)(v:af)(h:fD (fu+1) w o v):jF (xP fu w o v) (fun r=>(∀x∈r,Nh x)/\wL r<=24+64*tV v):=
 by
 obtain⟨h1,h2,h3,h4⟩:=h;have hl:=o6 h3;have hb:=h3.2;have ht:=iD v;have hs:=uJ v.List;unfold xP Y6;simp only[af.dK];refine dm <| cZ (fun i y=>y.length<=i/\(∀x∈y,Nh x)/\wL y<=64*jH (fun x=>1+tV x) (v.List.take i)) ⟨l9 _,fun x hx=>absurd hx (Qb),vg _⟩ au (fun i1 y2 hi hI=> ?_) fun y2 hI=>ah ⟨hI.2.1,?_⟩
 ·obtain⟨g1,g2⟩:=BG h3 (getD_mem (d:=fQ) hi);have hq:fB fu w o (v.List.getD i1 fQ):=⟨h1,h2,g1,by omega⟩;have k1:=ih.1 _ _ _ hq;have e1:=ql (f:=fun x=>1+tV x) (d:=fQ) hi;obtain⟨n1,n2⟩:=yQ h2.2.2 k1;refine aZ au au (ak hq (ak (b_ qbb qbb) (ah ⟨by have:=hI.1;simp only[kT,yF,BM];omega,pG hI.2.1 (kC n1),?_⟩)));have:=hI.2.2;rw[J_,Lu,e1];omega
 ·have:=hI.2.2;rw[Eo]at this;omega
theorem PN (fu:Nat)(ih:zK fu)(w:ai)(o:Op)(v:af)(h:iY (fu+1) w o v):jF (D9 fu w o v) (fun r=>(∀x∈r,Nh x)/\wL r<=24+64*tV v):=
 by
 obtain⟨h1,h2,h3,h4⟩:=h;unfold D9 akW;simp only[af.dK];have hq:fB fu w o v:=⟨h1,h2,h3,by omega⟩;obtain⟨n1,n2⟩:=yQ h2.2.2 (ih.1 _ _ _ hq);exact ak hq (ah ⟨kC n1,by rw[Lu];omega⟩)
theorem adU (fu:Nat)(ih:zK fu)(w:ai)(prog:Int)(s:Slot)(h:jl (fu+1) w prog s)(hc:((lQ (w.p.a_.getD prog.toNat bW) s.Num).1.Card==5)=true):jF (Zc fu w prog s) (fun r=>(∀x∈r,Nh x)/\wL r<=24+64*tV s.Val):=
 by
 obtain⟨h1,h2,h3,h4⟩:=h;unfold Zc aHH;simp only[af.dK];refine aZ h2.1 h2.2 (aC fun v1 hv1=>dH (fun _=>ah ⟨fun x hx=>absurd hx (Qb),vg _⟩) fun hf=> ?_);have ho:=(h1 _ (getD_mem (d:=bW) (l:=w.p.a_) (i:=prog.toNat) au)).2 _ (KI (g:=w.p.a_.getD prog.toNat bW) (num:=s.Num) qcn);rw[<-hv1]at ho hc;have hq:gU fu w v1.1 s.Val:=⟨h1,ho,h3,by omega⟩;exact ak ⟨hc,trivial⟩ (ak hq (ah (ih.2.1 _ _ _ hq)))
theorem Yu (fu:Nat)(ih:zK fu)(w:ai)(prog:Int)(s:Slot)(h:jl (fu+1) w prog s)(hc:(kW (lQ (w.p.a_.getD prog.toNat bW) s.Num).1)=true/\((lQ (w.p.a_.getD prog.toNat bW) s.Num).1.Card==5)=false):jF (NK fu w prog s) (fun r=>(∀x∈r,Nh x)/\wL r<=24+64*tV s.Val):=
 by
 obtain⟨h1,h2,h3,h4⟩:=h;unfold NK aAP;simp only[af.dK];refine aZ h2.1 h2.2 (aC fun v1 hv1=>dH (fun _=>ah ⟨fun x hx=>absurd hx (Qb),vg _⟩) fun hf=> ?_);have ho:=(h1 _ (getD_mem (d:=bW) (l:=w.p.a_) (i:=prog.toNat) au)).2 _ (KI (g:=w.p.a_.getD prog.toNat bW) (num:=s.Num) qcn);rw[<-hv1]at ho hc;exact ak ⟨hc.2,hc.1,trivial⟩ (ak ⟨ho.2.2,h3⟩ (ah (Ya w v1.1 s.Val ⟨ho.2.2,h3⟩).2))
theorem adp (fu:Nat)(ih:zK fu)(w:ai)(prog:Int)(s:Slot)(h:jl (fu+1) w prog s)(hc:((lQ (w.p.a_.getD prog.toNat bW) s.Num).1.Card==4)=true/\(kW (lQ (w.p.a_.getD prog.toNat bW) s.Num).1)=false/\((lQ (w.p.a_.getD prog.toNat bW) s.Num).1.Card==5)=false):jF (Yw fu w prog s) (fun r=>(∀x∈r,Nh x)/\wL r<=24+64*tV s.Val):=
 by
 obtain⟨h1,h2,h3,h4⟩:=h;unfold Yw aG2;simp only[af.dK];refine aZ h2.1 h2.2 (aC fun v1 hv1=>dH (fun _=>ah ⟨fun x hx=>absurd hx (Qb),vg _⟩) fun hf=> ?_);have ho:=(h1 _ (getD_mem (d:=bW) (l:=w.p.a_) (i:=prog.toNat) au)).2 _ (KI (g:=w.p.a_.getD prog.toNat bW) (num:=s.Num) qcn);rw[<-hv1]at ho hc;have hq:fD fu w v1.1 s.Val:=⟨h1,ho,h3,by omega⟩;exact ak ⟨hc.2.2,hc.2.1,hc.1,trivial⟩ (ak hq (ah (ih.2.2.1 _ _ _ hq)))
theorem ae8 (fu:Nat)(ih:zK fu)(w:ai)(prog:Int)(s:Slot)(h:jl (fu+1) w prog s)(hc:((lQ (w.p.a_.getD prog.toNat bW) s.Num).1.Card==4)=false/\(kW (lQ (w.p.a_.getD prog.toNat bW) s.Num).1)=false/\((lQ (w.p.a_.getD prog.toNat bW) s.Num).1.Card==5)=false):jF (Yg fu w prog s) (fun r=>(∀x∈r,Nh x)/\wL r<=24+64*tV s.Val):=
 by
 obtain⟨h1,h2,h3,h4⟩:=h;unfold Yg aHg;simp only[af.dK];refine aZ h2.1 h2.2 (aC fun v1 hv1=>dH (fun _=>ah ⟨fun x hx=>absurd hx (Qb),vg _⟩) fun hf=> ?_);have ho:=(h1 _ (getD_mem (d:=bW) (l:=w.p.a_) (i:=prog.toNat) au)).2 _ (KI (g:=w.p.a_.getD prog.toNat bW) (num:=s.Num) qcn);rw[<-hv1]at ho hc;have hq:iY fu w v1.1 s.Val:=⟨h1,ho,h3,by omega⟩;exact ak ⟨hc.2.2,hc.2.1,hc.1,trivial⟩ (ak hq (ah (ih.2.2.2.1 _ _ _ hq)))
theorem YB (fu:Nat)(ih:zK fu)(w:ai)(prog:Int)(v:af)(h:lm (fu+1) w prog v):jF (UE fu w prog v) (fun r=>r.length<=64*tV v):=
 by
 obtain⟨h1,h2,h3,h4⟩:=h;unfold UE aBb;simp only[af.dK];obtain⟨n1,n2⟩:=PO w.p prog v h3;have hb:=h3.2;refine ak h3 (aC fun v6 hv6=> ?_);rw[<-hv6]at n1 n2;have hg:gV v6:=⟨n1,by omega⟩;have hl:=o6 hg;have ht:=iD v6;have ks:=(iw v6).1 n1;have sR:=awK v6.bJ;have sL:=J5 v6.bJ;have sS:=wI v6.Slots;have smt:∀i,jH tS (v6.Slots.take i)<=jH tS v6.Slots:=fun i=>vF (Qc3 i _)
 refine dm <| cZ (enI v6) ⟨fun x hx=>absurd hx (Qb),ks.1.2,l9 _,by show wL []+wL v6.bJ<=_;have:wL []=0:=rfl;omega⟩ au (fun i1 y2 hi hI=> ?_) fun y2 hI=> ?_
 ·refine aZ au au (df (enI v6 i1) (x_ (enI v6 i1) (fun x=>x.2.length) hI (by have:=hI.2.2.1;show y2.2.length < tV v+1;omega) fun x hx=> ?_) fun y4 hy4=> ?_)
  ·obtain⟨o,r⟩:=x;cases r with
   | nil=>exact bT (fun hp=>absurd hp (by show ¬(0:Int) < ((([]:List Raw).length:Nat):Int);simp)) fun _=>ah hx
   | cons a t=>
    obtain⟨x1,x2,x3,x4⟩:=hx;have x3:t.length+1<=v6.bJ.length:=x3;have x4:wL o+wL (a::t)<=wL v6.bJ+64*jH tS (v6.Slots.take i1):=x4;rw[WI]at x4;have q1:=Gy o;have q2:=smt i1;have ed:List.drop 1 (List.take (a::t).length (a::t))=t:=by simp
    refine bT (fun hp=>aZ (Qb2 0) qca (bT (fun hlt=>aZ (Qb2 0) qca (ak (b_ (by show o.length+1<=_;omega) (by show(o.length+1)*40<=_;omega)) (ak (by simp only[yF];omega) (ah ?_)))) fun _=>ah ⟨x1,x2,x3,by rw[WI];exact x4⟩)) fun _=>ah ⟨x1,x2,x3,by rw[WI];exact x4⟩;rw[ed];refine⟨⟨pG x1 (kC (x2 a (List.mem_cons_self))),fun z hz=>x2 z (Qb3 _ hz),by show t.length<=_;omega,?_⟩,by show t.length < (a::t).length;simp⟩;show wL (o++[a])+wL t<=_
    rw[J_,Lu];omega
  ·have hm:=getD_mem (d:=bK) hi;obtain⟨g1,g2⟩:=KY hg hm;have e1:=ql (f:=tS) (d:=bK) hi;have e2:=xG (v6.Slots.getD i1 bK);have q2:=smt (i1+1);generalize v6.Slots.getD i1 bK=a at*;rw[Slot.eta];have hq:jl fu w prog a:=⟨h1,h2,g1,by omega⟩;obtain⟨k1,k2⟩:=ih.2.2.2.2.1 w prog a hq;obtain⟨x1,x2,x3,x4⟩:=hy4;have q1:=Gy y4.1;have q3:=Gy ((qp fu).2.2.2.2.1 w prog a);refine ak hq (ak (b_ au au) (ah ⟨pG x1 k1,x2,x3,?_⟩));show wL (y4.1++(qp fu).2.2.2.2.1 w prog a)+wL y4.2<=_
   rw[J_,e1,e2];omega
 ·obtain⟨x1,x2,x3,x4⟩:=hI;have q1:=Gy y2.1;have q2:=Gy y2.2;rw[Eo]at x4;refine ak (b_ au au) (aC fun v7 hv7=> ?_);have e7:wL v7=wL y2.1+wL y2.2:=by rw[hv7,J_]
  have pq:Xy v7:=⟨by rw[hv7];exact pG x1 x2,by omega⟩;have pl:=af1 pq;exact ak pq (ah (by show(Pm v7).length<=64*tV v;omega))
theorem lY:∀fu,zK fu
 | 0=>⟨fun w o v h=>False.elim qb1,
  fun w o v h=>False.elim qb1,
  fun w o v h=>False.elim qb1,
  fun w o v h=>False.elim qb1,
  fun w prog s h=>False.elim (by have k:=h.2.2.2;have:=mg s.Val;omega),
  fun w prog v h=>False.elim qb1⟩
 | fu+1=>⟨fun w o v h=>(Lr fu (lY fu) w o v h).2,
  fun w o v h=>(MO fu (lY fu) w o v h).2,
  fun w o v h=>(H_ fu (lY fu) w o v h).2,
  fun w o v h=>(PN fu (lY fu) w o v h).2,
  fun w prog s h=>by
  show(fun r=>(∀x∈r,Nh x)/\wL r<=24+64*tV s.Val) ((qp (fu+1)).2.2.2.2.1 w prog s)
  unfold qp;dsimp only;cases hc0:((lQ (w.p.a_.getD prog.toNat bW) s.Num).1.Card==5)with
  | true=>exact(adU fu (lY fu) w prog s h hc0).2
  | false=>
   cases hc1:(kW (lQ (w.p.a_.getD prog.toNat bW) s.Num).1)with
   | true=>exact(Yu fu (lY fu) w prog s h ⟨hc1,hc0⟩).2
   | false=>
    cases hc2:((lQ (w.p.a_.getD prog.toNat bW) s.Num).1.Card==4)with
    | true=>exact(adp fu (lY fu) w prog s h ⟨hc2,hc1,hc0⟩).2
    | false=>
     exact(ae8 fu (lY fu) w prog s h ⟨hc2,hc1,hc0⟩).2,
  fun w prog v h=>(YB fu (lY fu) w prog v h).2⟩
theorem adJ (fu:Nat)(w:ai)(o:Op)(v:af)(h:fB (fu+1) w o v):Is (AZ fu w o v):=(Lr fu (lY fu) w o v h).1
theorem adx (fu:Nat)(w:ai)(o:Op)(v:af)(h:gU (fu+1) w o v):Is (Aj fu w o v):=(MO fu (lY fu) w o v h).1
theorem aao (fu:Nat)(w:ai)(o:Op)(v:af)(h:fD (fu+1) w o v):Is (xP fu w o v):=(H_ fu (lY fu) w o v h).1
theorem ahX (fu:Nat)(w:ai)(o:Op)(v:af)(h:iY (fu+1) w o v):Is (D9 fu w o v):=(PN fu (lY fu) w o v h).1
theorem ayb (fu:Nat)(w:ai)(prog:Int)(s:Slot)(h:jl (fu+1) w prog s)(hc:((lQ (w.p.a_.getD prog.toNat bW) s.Num).1.Card==5)=true):Is (Zc fu w prog s):=(adU fu (lY fu) w prog s h hc).1
theorem arN (fu:Nat)(w:ai)(prog:Int)(s:Slot)(h:jl (fu+1) w prog s)(hc:(kW (lQ (w.p.a_.getD prog.toNat bW) s.Num).1)=true/\((lQ (w.p.a_.getD prog.toNat bW) s.Num).1.Card==5)=false):Is (NK fu w prog s):=(Yu fu (lY fu) w prog s h hc).1
theorem av4 (fu:Nat)(w:ai)(prog:Int)(s:Slot)(h:jl (fu+1) w prog s)(hc:((lQ (w.p.a_.getD prog.toNat bW) s.Num).1.Card==4)=true/\(kW (lQ (w.p.a_.getD prog.toNat bW) s.Num).1)=false/\((lQ (w.p.a_.getD prog.toNat bW) s.Num).1.Card==5)=false):Is (Yw fu w prog s):=(adp fu (lY fu) w prog s h hc).1
theorem ayB (fu:Nat)(w:ai)(prog:Int)(s:Slot)(h:jl (fu+1) w prog s)(hc:((lQ (w.p.a_.getD prog.toNat bW) s.Num).1.Card==4)=false/\(kW (lQ (w.p.a_.getD prog.toNat bW) s.Num).1)=false/\((lQ (w.p.a_.getD prog.toNat bW) s.Num).1.Card==5)=false):Is (Yg fu w prog s):=(ae8 fu (lY fu) w prog s h hc).1
theorem atM (fu:Nat)(w:ai)(prog:Int)(v:af)(h:lm (fu+1) w prog v):Is (UE fu w prog v):=(YB fu (lY fu) w prog v h).1
set_option maxHeartbeats 4000000 in
theorem aBx:∀fu,fV Z.P Z.S 391 (oP (args (aj (aF fJ) (aj (aF ji) (a1 (aF aI))))) (shr [.slot 0 true (nn 4)] (l1 oq)) 1 [] (fun a=>some (fB fu (a.1) (a.2.1) (a.2.2))) (fun a=>(qp fu).1 (a.1) (a.2.1) (a.2.2)))/\fV Z.P Z.S 327 (oP (args (aj (aF fJ) (aj (aF ji) (a1 (aF aI))))) (R1 bF) 1 [] (fun a=>some (gU fu (a.1) (a.2.1) (a.2.2))) (fun a=>(qp fu).2.1 (a.1) (a.2.1) (a.2.2)))/\fV Z.P Z.S 329 (oP (args (aj (aF fJ) (aj (aF ji) (a1 (aF aI))))) (R1 bF) 1 [] (fun a=>some (fD fu (a.1) (a.2.1) (a.2.2))) (fun a=>(qp fu).2.2.1 (a.1) (a.2.1) (a.2.2)))/\fV Z.P Z.S 330 (oP (args (aj (aF fJ) (aj (aF ji) (a1 (aF aI))))) (R1 bF) 1 [] (fun a=>some (iY fu (a.1) (a.2.1) (a.2.2))) (fun a=>(qp fu).2.2.2.1 (a.1) (a.2.1) (a.2.2)))/\fV Z.P Z.S 133 (oP (args (aj (aF fJ) (aj (bu cI) (a1 (aF mV))))) (R1 bF) 1 [] (fun a=>some (jl fu (a.1) (a.2.1) (a.2.2))) (fun a=>(qp fu).2.2.2.2.1 (a.1) (a.2.1) (a.2.2)))/\fV Z.P Z.S 86 (oP (args (aj (aF fJ) (aj (bu cI) (a1 (aF aI))))) (R1 cStr) 1 [] (fun a=>some (lm fu (a.1) (a.2.1) (a.2.2))) (fun a=>(qp fu).2.2.2.2.2 (a.1) (a.2.1) (a.2.2)))
 | 0=>⟨iH func391 dU (fun a h=>by have k:=h.2.2.2;have:=mg (a.2.2);omega),
  iH func327 dU (fun a h=>by have k:=h.2.2.2;have:=mg (a.2.2);omega),
  iH func329 dU (fun a h=>by have k:=h.2.2.2;have:=mg (a.2.2);omega),
  iH func330 dU (fun a h=>by have k:=h.2.2.2;have:=mg (a.2.2);omega),
  iH func133 dU (fun a h=>by have k:=h.2.2.2;have:=mg (a.2.2).Val;omega),
  iH func86 dU (fun a h=>by have k:=h.2.2.2;have:=mg (a.2.2);omega)⟩
 | fu+1=>by
  obtain⟨h0,h1,h2,h3,h4,h5⟩:=aBx fu;have aFf:fV Z.P Z.S 133 (oP (args (aj (aF fJ) (aj (bu cI) (a1 (aF mV))))) (R1 bF) 1 [] (fun a=>some (((lQ ((a.1).p.a_.getD (a.2.1).toNat bW) (a.2.2).Num).1.Card==5)=true/\(jl (fu+1) (a.1) (a.2.1) (a.2.2)))) (fun a=>(Zc fu (a.1) (a.2.1) (a.2.2)).val)):=G9 [O9,aB1,⟨391,_,h0⟩,⟨327,_,h1⟩,⟨329,_,h2⟩,⟨330,_,h3⟩,⟨133,_,h4⟩,⟨86,_,h5⟩] [] func133 ntmps133 (fun a=>Zc fu a.1 a.2.1 a.2.2) (fun a h=>⟨ayb fu a.1 a.2.1 a.2.2 h.2 h.1,rfl⟩) (kH (n:=30) rfl);have aFg:fV Z.P Z.S 133 (oP (args (aj (aF fJ) (aj (bu cI) (a1 (aF mV))))) (R1 bF) 1 [] (fun a=>some ((kW (lQ ((a.1).p.a_.getD (a.2.1).toNat bW) (a.2.2).Num).1)=true/\(((lQ ((a.1).p.a_.getD (a.2.1).toNat bW) (a.2.2).Num).1.Card==5)=false/\(jl (fu+1) (a.1) (a.2.1) (a.2.2))))) (fun a=>(NK fu (a.1) (a.2.1) (a.2.2)).val)):=G9 [O9,aEY,ayq,⟨391,_,h0⟩,⟨327,_,h1⟩,⟨329,_,h2⟩,⟨330,_,h3⟩,⟨133,_,h4⟩,⟨86,_,h5⟩] [] func133 ntmps133 (fun a=>NK fu a.1 a.2.1 a.2.2) (fun a h=>⟨arN fu a.1 a.2.1 a.2.2 h.2.2 ⟨h.1,h.2.1⟩,rfl⟩) (kH (n:=30) rfl);have aFh:fV Z.P Z.S 133 (oP (args (aj (aF fJ) (aj (bu cI) (a1 (aF mV))))) (R1 bF) 1 [] (fun a=>some (((lQ ((a.1).p.a_.getD (a.2.1).toNat bW) (a.2.2).Num).1.Card==4)=true/\((kW (lQ ((a.1).p.a_.getD (a.2.1).toNat bW) (a.2.2).Num).1)=false/\(((lQ ((a.1).p.a_.getD (a.2.1).toNat bW) (a.2.2).Num).1.Card==5)=false/\(jl (fu+1) (a.1) (a.2.1) (a.2.2)))))) (fun a=>(Yw fu (a.1) (a.2.1) (a.2.2)).val)):=G9 [O9,aEu,⟨391,_,h0⟩,⟨327,_,h1⟩,⟨329,_,h2⟩,⟨330,_,h3⟩,⟨133,_,h4⟩,⟨86,_,h5⟩] [] func133 ntmps133 (fun a=>Yw fu a.1 a.2.1 a.2.2) (fun a h=>⟨av4 fu a.1 a.2.1 a.2.2 h.2.2.2 ⟨h.1,h.2.1,h.2.2.1⟩,rfl⟩) (kH (n:=30) rfl);have aFi:fV Z.P Z.S 133 (oP (args (aj (aF fJ) (aj (bu cI) (a1 (aF mV))))) (R1 bF) 1 [] (fun a=>some (((lQ ((a.1).p.a_.getD (a.2.1).toNat bW) (a.2.2).Num).1.Card==4)=false/\((kW (lQ ((a.1).p.a_.getD (a.2.1).toNat bW) (a.2.2).Num).1)=false/\(((lQ ((a.1).p.a_.getD (a.2.1).toNat bW) (a.2.2).Num).1.Card==5)=false/\(jl (fu+1) (a.1) (a.2.1) (a.2.2)))))) (fun a=>(Yg fu (a.1) (a.2.1) (a.2.2)).val)):=G9 [O9,aDS,⟨391,_,h0⟩,⟨327,_,h1⟩,⟨329,_,h2⟩,⟨330,_,h3⟩,⟨133,_,h4⟩,⟨86,_,h5⟩] [] func133 ntmps133 (fun a=>Yg fu a.1 a.2.1 a.2.2) (fun a h=>⟨ayB fu a.1 a.2.1 a.2.2 h.2.2.2 ⟨h.1,h.2.1,h.2.2.1⟩,rfl⟩) (kH (n:=30) rfl);exact⟨G9 [OC,⟨391,_,h0⟩,⟨327,_,h1⟩,⟨329,_,h2⟩,⟨330,_,h3⟩,⟨133,_,h4⟩,⟨86,_,h5⟩] [] func391 ntmps391 (fun a=>AZ fu a.1 a.2.1 a.2.2) (fun a h=>⟨adJ fu a.1 a.2.1 a.2.2 h,rfl⟩) (kH (n:=18) rfl),
   G9 [arT,ES,OC,⟨391,_,h0⟩,⟨327,_,h1⟩,⟨329,_,h2⟩,⟨330,_,h3⟩,⟨133,_,h4⟩,⟨86,_,h5⟩] [jS 3 (bU (fun sl=>[s0 14, .slot 7 false [some 268]]) (az cI (l1 bF)))] func327 ntmps327 (fun a=>Aj fu a.1 a.2.1 a.2.2) (fun a h=>⟨adx fu a.1 a.2.1 a.2.2 h,rfl⟩) (kH (n:=39) rfl),
   G9 [ES,⟨391,_,h0⟩,⟨327,_,h1⟩,⟨329,_,h2⟩,⟨330,_,h3⟩,⟨133,_,h4⟩,⟨86,_,h5⟩] [jS 3 (bU (fun sl=>[s0 13, .slot 7 false [some 268]]) (az cI (l1 bF)))] func329 ntmps329 (fun a=>xP fu a.1 a.2.1 a.2.2) (fun a h=>⟨aao fu a.1 a.2.1 a.2.2 h,rfl⟩) (kH (n:=29) rfl),
   G9 [ES,⟨391,_,h0⟩,⟨327,_,h1⟩,⟨329,_,h2⟩,⟨330,_,h3⟩,⟨133,_,h4⟩,⟨86,_,h5⟩] [] func330 ntmps330 (fun a=>D9 fu a.1 a.2.1 a.2.2) (fun a h=>⟨ahX fu a.1 a.2.1 a.2.2 h,rfl⟩) (kH (n:=15) rfl),
   I_ aFf (I_ aFg (I_ aFh (aFi))),
   G9 [ajz,arT,⟨391,_,h0⟩,⟨327,_,h1⟩,⟨329,_,h2⟩,⟨330,_,h3⟩,⟨133,_,h4⟩,⟨86,_,h5⟩] [jS 5 (bU (fun sl=>[s0 22, .slot 8 false [some 268], s0 9]) (az cI (az bF (l1 bF)))),jS 7 (bU (fun sl=>[.slot 8 false [some 268], s0 9]) (az bF (l1 bF))),jS 100010 (bU (fun sl=>[.slot 8 false [some 268], s0 9]) (az bF (l1 bF)))] func86 ntmps86 (fun a=>UE fu a.1 a.2.1 a.2.2) (fun a h=>⟨atM fu a.1 a.2.1 a.2.2 h,rfl⟩) (kH (n:=57) rfl)⟩
def ayD:aS Z:=⟨86,oP (args (aj (aF fJ) (aj (bu cI) (a1 (aF aI))))) (R1 cStr) 1 [] (fun a=>some (gm (a.1).p/\(0<=(a.2.1)/\(a.2.1) < (a.1).p.a_.length)/\gV (a.2.2))) (fun a=>as9 (a.1) (a.2.1) (a.2.2)),jM (fun n=>((aBx n).2.2.2.2.2)) _ _ (fun a h=>⟨4*tV (a.2.2),⟨h.1,h.2.1,h.2.2,l9 _⟩,rfl⟩)⟩
def ajB (p:dD)(prog:Int):Pg Bool:=.br (decide (0<=prog)) (.br (decide (prog < (↑p.a_.length:Int))) (.ob (H7 p/\gm p) (aL p.a_ (.ret (ax2 p==0)))) (aL p.a_ (.ret false))) (.ret false)
def ari (p:dD)(prog:Int):=(ajB p prog).val
def am8:aS Z:=E1 [apn] [] (aj (aF dX) (a1 (bu cI))) (R1 aH) [] func84 1 (u2 ajB) fun a=>H7 a.1/\gm a.1
def QV (p:dD)(name:Str)(v:af):Pg (List UInt8×Int):=.lt (zT p name) fun(v1:Int×Bool)=> .br (!v1.2) (.ret ([],10)) (.ob (H7 p/\gm p) (.br (!ari p v1.1) (.ret ([],1)) (.ob (gm p/\gV v.re) (.lt (aDB p v1.1 v.re) fun(v2:Int)=> .br (v2 !=0) (.ret ([],v2)) (.ob (gm p/\(0<=v1.1/\v1.1 < (↑p.a_.length:Int))/\gV v.re) (.lt (as9 (ai.mk p) v1.1 v.re) fun(v3:Str)=> .br (decide (65536 < (↑(List.length v3):Int))) (.ret ([],3)) (.ret (v3,0))))))))
def aeI (p:dD)(name:Str)(v:af):=(QV p name v).val
theorem Ef (p:dD)(name:Str)(v:af)(h:H7 p/\gm p/\gV v):jF (QV p name v) (fun r=>r.1.length<=65536):=
 by
 obtain⟨h1,h2,h3⟩:=h;unfold QV;simp only[af.dK];refine aC fun v1 hv1=>dH (fun _=>ah (vg _)) fun hf=>ak ⟨h1,h2⟩ (dH (fun _=>ah (vg _)) fun _=>ak ⟨h2,h3⟩ (aC fun v2 hv2=>dC (fun _=>ah (vg _)) fun _=>ak ⟨h2,?_,h3⟩ (aC fun v3 hv3=>bT (fun _=>ah (vg _)) fun hle=>ah (by show v3.length<=65536;omega))));rw[hv1]at hf⊢;exact VU (by simpa using hf)
def AA:aS Z:=E1 [aaT,am8,awE,ayD] [] (aj (aF dX) (aj (bu cStr) (a1 (aF aI)))) (shr [s0 0, s0 1] (az cStr (l1 cI))) [] func44 2 (u3 QV) (fun a=>H7 a.1/\gm a.1/\gV a.2.2) fun a h=>(Ef a.1 a.2.1 a.2.2 h).1
def Gz (s:Server)(path:Str):Pg (di×Bool):=aL s.Handlers (.each false wB s.Handlers nT (fun i1 a3 (y2:Unit)=> .ix i1 s.Handlers.length (.br (a3.Method==path) (.ret (.inr (a3,true))) (rl ()))) (fun i1 (y2:Unit)=> .ret (di.mk [] 0 0 0,false)) ())
def rX (s:Server)(path:Str):=(Gz s path).val
def EN:aS Z:=E0 [] [jS 2 (bU (fun sl=>[s0 11]) (l1 cI))] (aj (aF fK) (a1 (bu cStr))) (shr [.slot 0 true (nn 4), s0 1] (az jr (l1 aH))) [] func28 2 (u2 Gz)
def Gp (s:Server)(conn:Int)(id:Int):Pg Int:=aL s.Tasks (.each false wB s.Tasks bz (fun i1 a3 (y2:Unit)=> .ix i1 s.Tasks.length (.br (a3.kL==conn) (.br (a3.Id==id) (.ret (.inr i1)) (rl ())) (rl ()))) (fun i1 (y2:Unit)=> .ret (-1)) ())
def fF (s:Server)(conn:Int)(id:Int):=(Gp s conn id).val
def Nq:aS Z:=E0 [] [jS 2 (bU (fun sl=>[s0 12]) (l1 cI))] (aj (aF fK) (aj (bu cI) (a1 (bu cI)))) (R1 cI) [] func46 1 (u3 Gp)
theorem ZG {s:Server}{c i:Int}:fF s c i < s.Tasks.length/\(0<=fF s c i->((s.Tasks.getD (fF s c i).toNat bz).kL=c/\(s.Tasks.getD (fF s c i).toNat bz).Id=i)):=by
 have k:VP (Gp s c i) (fun r=>r < s.Tasks.length/\(0<=r->((s.Tasks.getD r.toNat bz).kL=c/\(s.Tasks.getD r.toNat bz).Id=i))):=by
  unfold Gp;refine uz (oh (fun _ _=>True) trivial (fun k y hk _=>qV (gK (fun e1=>gK (fun e2=>bi ⟨by omega,fun _=> ?_⟩) fun _=>bi trivial) fun _=>bi trivial)) fun y _=>bi ⟨by omega,fun h=>absurd h nG⟩);rw[ww];exact⟨eq_of_beq e1,eq_of_beq e2⟩
 exact k
theorem acH {s:Server}{c i:Int}(h:fF s c i < 0):∀t∈s.Tasks,¬(t.kL=c/\t.Id=i):=by
 have k:VP (Gp s c i) (fun r=>r < 0->∀j,j < s.Tasks.length->¬((s.Tasks.getD j bz).kL=c/\(s.Tasks.getD j bz).Id=i)):=by
  unfold Gp;refine uz (oh (fun n _=>∀j,j < n->¬((s.Tasks.getD j bz).kL=c/\(s.Tasks.getD j bz).Id=i)) (fun j hj=>absurd hj au) (fun k y hk hI=>qV (gK (fun e1=>gK (fun e2=>bi fun h=>absurd h au) fun e2=>bi fun j hj=> ?_) fun e1=>bi fun j hj=> ?_)) fun y hI=>bi fun _=>hI)
  ·rcases Qdf j k with hlt | hge
   ·exact hI j hlt
   ·rw[show j=k by omega];exact fun q=>by rw[q.2]at e2;simp at e2
  ·rcases Qdf j k with hlt | hge
   ·exact hI j hlt
   ·rw[show j=k by omega];exact fun q=>by rw[q.1]at e1;simp at e1
 intro t ht;obtain⟨j,hj,e⟩:=Df (d:=bz) ht;rw[<-e];exact k h j hj
def wP (s:Server):Prop:=okS s.ay/\okN s.ay/\s.Tasks.length<=1048576/\∀t∈s.Tasks,t.Method.length<=1048576/\t.In.length<=1048576
def agQ (s:Server)(i:Int)(t:fU):Pg Server:=.ob (bQ (0+s.Tasks.length) 152) (.ix i s.Tasks.length (.ob (i.toNat < s.Tasks.length) (.ret (Server.mk s.Name s.ay s.Handlers s.iV s.Traces (s.Tasks.set i.toNat t) s.Most s.mX))))
def uf (s:Server)(i:Int)(t:fU):=(agQ s i t).val
def aet:aS Z:=E1 [] [] (aj (aF fK) (aj (bu cI) (a1 (aF F_)))) (shr [.slot 0 true (nn 10)] (l1 fK)) [] func26 1 (u3 agQ) fun a=>a.1.Tasks.length<=1048576/\0<=a.2.1/\a.2.1 < a.1.Tasks.length
def alh (shape:Int):Pg Bool:=.br (decide (1<=shape)) (.ret (decide (shape<=4))) (.ret false)
def arG (shape:Int):=(alh shape).val
def ang:aS Z:=E0 [] [] (a1 (bu cI)) (R1 aH) [] func51 1 alh
def akG (shape:Int):Pg (Int×Int×Int×Int):=.br (!arG shape) (.ret (0,0,0,0)) (.lt (nN shape) fun(v2:Bool×Bool)=> .cut (fun(y1:Int×Int)=> .br v2.2 (.ret (y1.1,y1.2,0,(-1))) (.ret (y1.1,y1.2,1,1))) (.br v2.1 (rl (0,(-1))) (rl (1,1))))
def afF (shape:Int):=(akG shape).val
def Y7:aS Z:=E0 [uP,ang] [jS 100007 (bU (fun sl=>[s0 8, s0 9]) (az cI (l1 cI)))] (a1 (bu cI)) (shr [s0 0, s0 1, s0 2, s0 3] (az cI (az cI (az cI (l1 cI))))) [] func25 4 akG
def Gn (s:ay)(name:Str)(data:Str):Pg (af×Int):=.ob (okS s) (.lt (tN s) fun(v1:dD×Int)=> .br (v1.2 !=0) (.ret (af.mk 0 0 [] [] [] [] [],v1.2)) (.ob (gm v1.1/\okL vC) (.lt (DW v1.1 name data vC) fun(v2:af×Int)=> .ret (v2.1.re,v2.2))))
def xW (s:ay)(name:Str)(data:Str):=(Gn s name data).val
theorem Ii (s:ay)(name:Str)(data:Str)(h:okS s):jF (Gn s name data) (fun x=>x.2=0->kV x.1/\tV x.1<=1+8*data.length):=
 by
 unfold Gn;simp only[af.dK];refine ak h (aC fun v1 hv1=>dC (fun hne=>ah fun e=>absurd e hne) fun h1=> ?_);rw[hv1]at h1⊢;have hp:=aaC h h1;exact ak ⟨hp,KR⟩ (aC fun v2 hv2=>ah (by rw[hv2];exact(ER _ name data vC ⟨hp,KR⟩).2))
def PK:aS Z:=E1 [GU,Ak,ED] [] (aj (aF bI) (aj (bu cStr) (a1 (bu cStr)))) (shr [.slot 0 true (nn 7), s0 1] (az aI (l1 cI))) [] func49 2 (u3 Gn) (fun a=>okS a.1) fun a h=>(Ii a.1 a.2.1 a.2.2 h).1
def FV (s:ay)(name:Str)(v:af):Pg (List UInt8×Int):=.ob (okS s) (.lt (tN s) fun(v1:dD×Int)=> .br (v1.2 !=0) (.ret ([],v1.2)) (.ob (H7 v1.1/\gm v1.1/\gV v.re) (.ret (aeI v1.1 name v.re))))
def ahn (s:ay)(name:Str)(v:af):=(FV s name v).val
theorem XA (s:ay)(name:Str)(v:af)(h:okS s/\okN s/\gV v):jF (FV s name v) (fun r=>r.1.length<=65536):=
 by
 obtain⟨h,hn,hg⟩:=h;unfold FV;simp only[af.dK];refine ak h (aC fun v1 hv1=>dC (fun hne=>ah (vg _)) fun h1=> ?_);rw[hv1]at h1⊢;have q:=And.intro (auD h hn h1) (And.intro (aaC h h1) hg);exact ak q (ah (Ef _ name v q).2)
def aew:aS Z:=E1 [GU,AA] [] (aj (aF bI) (aj (bu cStr) (a1 (aF aI)))) (shr [s0 0, s0 1] (az cStr (l1 cI))) [] func52 2 (u3 FV) (fun a=>okS a.1/\okN a.1/\gV a.2.2) fun a h=>(XA a.1 a.2.1 a.2.2 h).1
def ahi (t:fU)(x:Status):Pg fU:=.ret (fU.mk t.kL t.Id t.Method t.eQ t.fA t.In t.Ready t.pK x true)
def Cc (t:fU)(x:Status):=(ahi t x).val
def adB:aS Z:=E0 [] [] (aj (aF F_) (a1 (aF jC))) (shr [.slot 0 true (nn 11)] (l1 F_)) [] func27 1 (u2 ahi)
def V9 (s:Server)(conn:Int)(id:Int):Pg Int:=.lt (fF s conn id) fun(v1:Int)=> .br (decide (v1 < 0)) (.ret (-1)) (.ix v1 s.Tasks.length (.br (s.Tasks.getD v1.toNat bz).mf (.ret (-1)) (.ix v1 s.Tasks.length (.br ((s.Tasks.getD v1.toNat bz).Ready !=(-1)) (.ret (-1)) (.ret v1)))))
def pg (s:Server)(conn:Int)(id:Int):=(V9 s conn id).val
theorem amy (s:Server)(conn:Int)(id:Int):Is (V9 s conn id):=
 dF fun v1 hv1=>gu iR (fun h0=>by have hl:=(ZG (s:=s) (c:=conn) (i:=id)).1;rw[<-hv1]at hl;exact dR au hl (dM iR (fun _=>dR au hl (jQ iR iR))))
def aef:aS Z:=E0 [Nq] [] (aj (aF fK) (aj (bu cI) (a1 (bu cI)))) (R1 cI) [] func24 1 (u3 V9) fun a=>amy a.1 a.2.1 a.2.2
theorem abb {s:Server}{c i:Int}(h:0<=pg s c i):pg s c i=fF s c i/\fF s c i < s.Tasks.length/\(s.Tasks.getD (fF s c i).toNat bz).mf=false/\(s.Tasks.getD (fF s c i).toNat bz).Ready= -1:=by
 have hl:=(ZG (s:=s) (c:=c) (i:=i)).1;unfold pg V9 at h⊢;simp only[dJ,bV,jZ,aV]at h⊢;by_cases h0:fF s c i < 0
 ·rw[uu h0]at h;exact absurd (show(0:Int)<= -1 from h) nG
 rw[qy h0]at h⊢;cases e1:(s.Tasks.getD (fF s c i).toNat bz).mf with
 | true=>rw[e1]at h;exact absurd (show(0:Int)<= -1 from h) nG
 | false=>
  rw[e1]at h;by_cases e2:(s.Tasks.getD (fF s c i).toNat bz).Ready= -1
  ·have e3:((s.Tasks.getD (fF s c i).toNat bz).Ready != -1)=false:=by rw[e2];rfl
   rw[e3];exact⟨rfl,hl,rfl,e2⟩
  ·have e3:((s.Tasks.getD (fF s c i).toNat bz).Ready != -1)=true:=bne_iff_ne.2 e2;rw[e3]at h;exact absurd (show(0:Int)<= -1 from h) nG
theorem aeE {s:Server}{c i:Int}(h:¬pg s c i < 0):0<=pg s c i/\pg s c i < s.Tasks.length/\s.Tasks.getD (pg s c i).toNat bz∈s.Tasks:=by
 obtain⟨e,h1,_⟩:=abb (s:=s) (c:=c) (i:=i) au;have h0:0<=pg s c i:=by omega
 exact⟨h0,by omega,getD_mem au⟩
theorem adz (s:Server)(i:Int)(t:fU):uf s i t=Server.mk s.Name s.ay s.Handlers s.iV s.Traces (s.Tasks.set i.toNat t) s.Most s.mX:=by
 unfold uf agQ;simp only[dP,jZ,aV]
theorem JK (t:fU)(x:Status):Cc t x=fU.mk t.kL t.Id t.Method t.eQ t.fA t.In t.Ready t.pK x true:=by
 unfold Cc ahi;simp only[aV]
def aJB (s:Server)(v:Nat)(t:fU):Server:=Server.mk s.Name s.ay s.Handlers s.iV s.Traces (s.Tasks.set v t) s.Most s.mX
def ajv (t t':fU):Prop:=t'.kL=t.kL/\t'.Id=t.Id/\t'.Method=t.Method/\t'.eQ=t.eQ/\t'.fA=t.fA
def stepT (s:Server)(c i:Int)(r:Server)(P:fU->fU->Prop):Prop:=(pg s c i < 0/\r=s)\/∃v:Nat,v < s.Tasks.length/\pg s c i=v/\∃t',(ajv (s.Tasks.getD v bz) t'/\P (s.Tasks.getD v bz) t')/\r=aJB s v t'
def au0 (data:Str)(t t':fU):Prop:=t'.Ready=t.Ready/\(t'.In=t.In\/t'.In=t.In++[data])/\(t'.mf=t.mf\/t'.mf=true)
theorem Y1 (now cost:Int):0<=TP now cost/\TP now cost<=1099511627776:=by
 unfold TP after;simp only[dJ,aV,bV,dP];rw[gz (k:= .i64) BZ];omega
def ar_ (t t':fU):Prop:=t'.In=t.In/\((t'.mf=true/\t'.Ready=t.Ready)\/(t'.mf=t.mf/\0<=t'.Ready/\t'.Ready<=1099511627776))
theorem awX {s:Server}{c i:Int}(h:pg s c i < 0):fF s c i < 0\/(s.Tasks.getD (fF s c i).toNat bz).mf=true\/(s.Tasks.getD (fF s c i).toNat bz).Ready≠ -1:=by
 unfold pg V9 at h;simp only[dJ,bV,jZ,aV]at h;by_cases h0:fF s c i < 0
 ·exact .inl h0
 rw[qy h0]at h;cases e1:(s.Tasks.getD (fF s c i).toNat bz).mf with
 | true=>exact .inr (.inl rfl)
 | false=>
  rw[e1]at h;refine .inr (.inr fun e2=> ?_);have e3:((s.Tasks.getD (fF s c i).toNat bz).Ready != -1)=false:=by rw[e2];rfl
  rw[e3]at h;exact h0 h
def G5 (s:Server)(conn:Int)(id:Int)(data:Str):Pg Server:=.lt (pg s conn id) fun(v2:Int)=> .br (decide (v2 < 0)) (.ret s) (.ix v2 s.Tasks.length (.ob (List.length (s.Tasks.getD v2.toNat bz).Method<=1048576) (.lt (mD s.ay (s.Tasks.getD v2.toNat bz).Method) fun(v3:eG×Int)=> .cut (fun(y1:Unit)=> .as (List.length data<=9223372036854775807) (.lt (aqe s.iV (↑(List.length data):Int)) fun(v4:Status)=> .br (v4.Code !=0) (.ob (s.Tasks.length<=1048576/\0<=v2/\v2 < (↑s.Tasks.length:Int)) (.ret (uf s v2 (Cc (s.Tasks.getD v2.toNat bz) v4)))) (.ob (okS s.ay) (.lt (xW s.ay v3.1.In data) fun(v5:af×Int)=> .br (v5.2 !=0) (.ob (s.Tasks.length<=1048576/\0<=v2/\v2 < (↑s.Tasks.length:Int)) (.ret (uf s v2 (Cc (s.Tasks.getD v2.toNat bz) (Y8 v5.2))))) (.as ((s.Tasks.getD v2.toNat bz).In.length<=9223372036854775807) (.ob (0<=(↑(s.Tasks.getD v2.toNat bz).In.length:Int)/\ (↑(s.Tasks.getD v2.toNat bz).In.length:Int)=(↑(s.Tasks.getD v2.toNat bz).In.length:Int)/\ (↑(s.Tasks.getD v2.toNat bz).In.length:Int)<=(↑(s.Tasks.getD v2.toNat bz).In.length:Int)) (.lt (List.take (s.Tasks.getD v2.toNat bz).In.length (s.Tasks.getD v2.toNat bz).In) fun(v6:List Str)=> .ob (0 < 1/\bQ (v6.length+1) 16) (.ob (s.Tasks.length<=1048576/\0<=v2/\v2 < (↑s.Tasks.length:Int)) (.ret (uf s v2 (fU.mk (s.Tasks.getD v2.toNat bz).kL (s.Tasks.getD v2.toNat bz).Id (s.Tasks.getD v2.toNat bz).Method (s.Tasks.getD v2.toNat bz).eQ (s.Tasks.getD v2.toNat bz).fA (v6++[data]) (s.Tasks.getD v2.toNat bz).Ready (s.Tasks.getD v2.toNat bz).pK (s.Tasks.getD v2.toNat bz).Status (s.Tasks.getD v2.toNat bz).mf))))))))))) (.lt (afF v3.1.Shape) fun(v7:Int×Int×Int×Int)=> .br (decide (0<=v7.2.1)) (.as ((s.Tasks.getD v2.toNat bz).In.length<=9223372036854775807) (.br (decide (v7.2.1<=(↑(s.Tasks.getD v2.toNat bz).In.length:Int))) (.ob (s.Tasks.length<=1048576/\0<=v2/\v2 < (↑s.Tasks.length:Int)) (.ret (.inr (uf s v2 (Cc (s.Tasks.getD v2.toNat bz) (Status.mk 2 [])))))) (rl ()))) (rl ())))))
def ahx (s:Server)(conn:Int)(id:Int)(data:Str):=(G5 s conn id data).val
theorem Ib (s:Server)(conn:Int)(id:Int)(data:Str)(h:wP s):jF (G5 s conn id data) (fun r=>stepT s conn id r (au0 data)):=
 by
 obtain⟨h1,hn,h2,h3⟩:=h;unfold G5;refine aC fun v2 hv2=>bT (fun h0=>ah (.inl ⟨by rw[<-hv2];exact h0,rfl⟩)) fun h0=> ?_;obtain⟨m1,m2,m3⟩:=aeE (s:=s) (c:=conn) (i:=id) (by rw[<-hv2];exact h0);rw[<-hv2]at m1 m2 m3;obtain⟨k1,k2⟩:=h3 _ m3;have hw:s.Tasks.length<=1048576/\0<=v2/\v2 < s.Tasks.length:=⟨h2,m1,m2⟩;have fin:∀t',ajv (s.Tasks.getD v2.toNat bz) t'->au0 data (s.Tasks.getD v2.toNat bz) t'->stepT s conn id (uf s v2 t') (au0 data):=fun t' hs ht=> .inr ⟨v2.toNat,by omega,by rw[<-hv2];omega,t',⟨hs,ht⟩,adz s v2 t'⟩
 have fail:∀x,stepT s conn id (uf s v2 (Cc (s.Tasks.getD v2.toNat bz) x)) (au0 data):=fun x=>fin _ (by rw[JK];exact⟨rfl,rfl,rfl,rfl,rfl⟩) (by rw[JK];exact⟨rfl, .inl rfl, .inr rfl⟩)
 refine aZ m1 m2 (ak k1 (aC fun v3 hv3=>df (fun _=>True) ?_ fun y1 _=>dm <| aC fun v4 hv4=>dC (fun _=>ak hw (ah (fail _))) fun _=>ak h1 (aC fun v5 hv5=>dC (fun _=>ak hw (ah (fail _))) fun _=>dm <| ak au (aC fun v6 hv6=> ?_))))
 ·exact aC fun v7 hv7=>bT (fun _=>dm <| bT (fun _=>ak hw (ah (fail _))) fun _=>ah trivial) fun _=>ah trivial
 ·rw[Eo]at hv6;rw[hv6];exact ak ⟨by decide,b_ au au⟩ (ak hw (ah (fin _ ⟨rfl,rfl,rfl,rfl,rfl⟩ ⟨rfl, .inr rfl, .inl rfl⟩)))
def aeH:aS Z:=E1 [u_,aef,Y7,aet,adB,anX,PK,agB] [jS 100009 (bU (fun sl=>[]) l0)] (aj (aF fK) (aj (bu cI) (aj (bu cI) (a1 (bu cStr))))) (shr [.slot 0 true (nn 10)] (l1 fK)) [] func21 1 (u4 G5) (fun a=>wP a.1) fun a h=>(Ib a.1 a.2.1 a.2.2.1 a.2.2.2 h).1
def ale (s:Server)(now:Int)(conn:Int)(id:Int):Pg Server:=.lt (pg s conn id) fun(v1:Int)=> .br (decide (v1 < 0)) (.ret s) (.ix v1 s.Tasks.length (.ob (List.length (s.Tasks.getD v1.toNat bz).Method<=1048576) (.as ((s.Tasks.getD v1.toNat bz).In.length<=9223372036854775807) (.lt (afF (mD s.ay (s.Tasks.getD v1.toNat bz).Method).1.Shape) fun(v2:Int×Int×Int×Int)=> .br (decide ((↑(s.Tasks.getD v1.toNat bz).In.length:Int) < v2.1)) (.ob (s.Tasks.length<=1048576/\0<=v1/\v1 < (↑s.Tasks.length:Int)) (.ret (uf s v1 (Cc (s.Tasks.getD v1.toNat bz) (Status.mk 2 []))))) (.ob (s.Tasks.length<=1048576/\0<=v1/\v1 < (↑s.Tasks.length:Int)) (.ret (uf s v1 (fU.mk (s.Tasks.getD v1.toNat bz).kL (s.Tasks.getD v1.toNat bz).Id (s.Tasks.getD v1.toNat bz).Method (s.Tasks.getD v1.toNat bz).eQ (s.Tasks.getD v1.toNat bz).fA (s.Tasks.getD v1.toNat bz).In (TP now (rX s (s.Tasks.getD v1.toNat bz).Method).1.avq) (s.Tasks.getD v1.toNat bz).pK (s.Tasks.getD v1.toNat bz).Status (s.Tasks.getD v1.toNat bz).mf))))))))
def apY (s:Server)(now:Int)(conn:Int)(id:Int):=(ale s now conn id).val
theorem N8 (s:Server)(now:Int)(conn:Int)(id:Int)(h:wP s):jF (ale s now conn id) (fun r=>stepT s conn id r ar_):=
 by
 obtain⟨h1,hn,h2,h3⟩:=h;unfold ale;refine aC fun v2 hv2=>bT (fun h0=>ah (.inl ⟨by rw[<-hv2];exact h0,rfl⟩)) fun h0=> ?_;obtain⟨m1,m2,m3⟩:=aeE (s:=s) (c:=conn) (i:=id) (by rw[<-hv2];exact h0);rw[<-hv2]at m1 m2 m3;obtain⟨k1,k2⟩:=h3 _ m3;have hw:s.Tasks.length<=1048576/\0<=v2/\v2 < s.Tasks.length:=⟨h2,m1,m2⟩;have fin:∀t',ajv (s.Tasks.getD v2.toNat bz) t'->ar_ (s.Tasks.getD v2.toNat bz) t'->stepT s conn id (uf s v2 t') ar_:=fun t' hs ht=> .inr ⟨v2.toNat,by omega,by rw[<-hv2];omega,t',⟨hs,ht⟩,adz s v2 t'⟩
 exact aZ m1 m2 (ak k1 (dm <| aC fun v4 hv4=>bT (fun _=>ak hw (ah (fin _ (by rw[JK];exact⟨rfl,rfl,rfl,rfl,rfl⟩) (by rw[JK];exact⟨rfl, .inl ⟨rfl,rfl⟩⟩)))) fun _=>ak hw (ah (fin _ ⟨rfl,rfl,rfl,rfl,rfl⟩ ⟨rfl, .inr ⟨rfl,(Y1 _ _).1,(Y1 _ _).2⟩⟩))))
def akV:aS Z:=E1 [u_,aef,Y7,aet,adB,EN,ajr] [] (aj (aF fK) (aj (bu cI) (aj (bu cI) (a1 (bu cI))))) (shr [.slot 0 true (nn 10)] (l1 fK)) [] func10 1 (u4 ale) (fun a=>wP a.1) fun a h=>(N8 a.1 a.2.1 a.2.2.1 a.2.2.2 h).1
def KU (s:Server)(conn:Int)(id:Int):Pg Server:=.lt (fF s conn id) fun(v1:Int)=> .br (decide (v1 < 0)) (.ret s) (.ob ((0:Int)<=0/\0<=v1/\v1<=(↑s.Tasks.length:Int)) (.ob (bQ (0+(List.take v1.toNat s.Tasks).length) 152) (.lt (dB .i64 (v1+1)) fun(v2:Int)=> .ob (0<=v2/\v2<=(↑s.Tasks.length:Int)/\(↑s.Tasks.length:Int)<=(↑s.Tasks.length:Int)) (.ob (bQ ((List.take v1.toNat s.Tasks).length+(List.drop v2.toNat (List.take s.Tasks.length s.Tasks)).length) 152) (.ret (Server.mk s.Name s.ay s.Handlers s.iV s.Traces (List.take v1.toNat s.Tasks++List.drop v2.toNat (List.take s.Tasks.length s.Tasks)) s.Most s.mX))))))
def amG (s:Server)(conn:Int)(id:Int):=(KU s conn id).val
theorem Ld (s:Server)(conn:Int)(id:Int)(h:wP s):jF (KU s conn id) (fun r=>(fF s conn id < 0/\r=s)\/∃v:Nat,v < s.Tasks.length/\fF s conn id=v/\r=Server.mk s.Name s.ay s.Handlers s.iV s.Traces (s.Tasks.take v++s.Tasks.drop (v+1)) s.Most s.mX):=
 by
 obtain⟨h1,hn,h2,h3⟩:=h;have hl:=(ZG (s:=s) (c:=conn) (i:=id)).1;unfold KU;refine aC fun v1 hv1=>bT (fun h0=>ah (.inl ⟨by rw[<-hv1];exact h0,rfl⟩)) fun h0=> ?_;rw[<-hv1]at hl;refine ak au (ak (b_ qa9 qa9) (pJ fun v2 hv2 hw=>ak au (ak (b_ qcg qcg) (ah (.inr ⟨v1.toNat,by omega,by rw[<-hv1];omega,?_⟩)))));rw[Eo,show v2.toNat=v1.toNat+1 by omega]
def agx:aS Z:=E1 [Nq] [] (aj (aF fK) (aj (bu cI) (a1 (bu cI)))) (shr [.slot 0 true (nn 10)] (l1 fK)) [] func22 1 (u3 KU) (fun a=>wP a.1) fun a h=>(Ld a.1 a.2.1 a.2.2 h).1
def acj (s:Server):Pg Server:=.ret (Server.mk s.Name s.ay s.Handlers s.iV s.Traces s.Tasks s.Most true)
def Uh (s:Server):=(acj s).val
def amH:aS Z:=E0 [] [] (a1 (aF fK)) (shr [.slot 0 true (nn 10)] (l1 fK)) [] func23 1 acj
def ahd (s:Server):Pg Bool:=.ret ((↑s.Tasks.length:Int)==0)
def RZ (s:Server):=(ahd s).val
def af0:aS Z:=E0 [] [] (a1 (aF fK)) (R1 aH) [] func12 1 ahd
def gtS (a b:Str):Bool:= !(Op.bytesLess a b || a==b)
def cloneM (l:List l_):Pg (List l_):=.unk false (fun(b:Bool)=>b=true->l.length=0) (.ret []) (.ob (bQ (0+l.length) 32) (.ret l))
theorem aou (l:List l_)(h:l.length<=1000000):Is (cloneM l):=
 qR (b_ au au)
def aqW:aS Z:=E2 [] [] (a1 (bu tX)) (shr [.slot 0 false [some 354]] (l1 tX)) [] func222 1 cloneM (fun a=>some (a.length<=1000000)) (fun a=>a) fun a h=>⟨aou a h,rfl⟩
def arM (l:List Trace):Pg (List Trace):=.unk false (fun(b:Bool)=>b=true->l.length=0) (.ret []) (.ob (bQ (0+l.length) 40) (.ret l))
theorem amO (l:List Trace)(h:l.length<=1000000):Is (arM l):=
 qR (b_ au au)
def aq_:aS Z:=E2 [] [] (a1 (bu jB)) (shr [.slot 0 false [some 278]] (l1 jB)) [] func139 1 arM (fun a=>some (a.length<=1000000)) (fun a=>a) fun a h=>⟨amO a h,rfl⟩
def aoM (l:List Int):Pg (List Int):=.unk false (fun(b:Bool)=>b=true->l.length=0) (.ret []) (.ob (bQ (0+l.length) 8) (.ret l))
theorem aoj (l:List Int)(h:l.length<=1000000):Is (aoM l):=
 qR (b_ au au)
def aug:aS Z:=E2 [] [] (a1 (bu BO)) (shr [.slot 0 false [some 3]] (l1 BO)) [] func144 1 aoM (fun a=>some (a.length<=1000000)) (fun a=>a) fun a h=>⟨aoj a h,rfl⟩
def ass:aS Z:=wZ [] [] (aj (aF L8) (a1 (iQ 0))) (b1 (aP cStr)) (R1 aH) [0] func224 1 fun a=>.ret (a.1.1.Key==a.2)
def ap3:aS Z:=wZ [] [] (aj (aF L8) (a1 (iQ 0))) (b1 (aP cStr)) (R1 aH) [0] func225 1 fun a=>.ret (gtS a.1.1.Key a.2)
def aEi:aS Z:=Ir [ass] tX 224 [0] (b1 (aP cStr)) func223 Oi fun m b=>m.Key==b
def aCg:aS Z:=Ir [ap3] tX 225 [0] (b1 (aP cStr)) func223 Oi fun m b=>gtS m.Key b
set_option maxHeartbeats 1000000 in
theorem UR (b n c i m vb vc:Nat)(w w1 w2:World)(hi:i < n)(hm:0 < m)(hroom:n+m<=c)(hc:c<=9223372036854775807)
  (hov:∀lb cb x,(callFunc 332 #[.slice (some ⟨vb,0,none⟩) m vc, .slice (some ⟨b,x,none⟩) lb cb]).run Tryz.prog w= .ok (.value (.bool false)) w)
  (hcp1:∀ty dc sc,(Builtin.copy_ #[47,47] ty #[.slice (some ⟨b,(i+m)*2,none⟩) (n+m - (i+m)) dc, .slice (some ⟨b,i*2,none⟩) (n+m - i) sc]).run Tryz.prog w.drew= .ok (goInt (n - i:Nat)) w1)
  (hcp2:∀ty dc,(Builtin.copy_ #[47,47] ty #[.slice (some ⟨b,i*2,none⟩) (n+m - i) dc, .slice (some ⟨vb,0,none⟩) m vc]).run Tryz.prog w1= .ok (goInt m) w2):
  Calls Tryz.prog 226 #[.slice (some ⟨b,0,none⟩) n c, .int .i64 i, .slice (some ⟨vb,0,none⟩) m vc] w fun e w'=>e= .returned (.slice (some ⟨b,0,none⟩) (n+m) c)/\w'=w2:=by
 have hz1:¬((m:Int)=0):=by omega
 have hz2:¬((i:Int)=(n:Int)):=by omega
 have hw1:IntKind.i64.wrap ((i:Int)+(m:Int))=(i:Int)+(m:Int):=by rw[IntKind.wrap_i64];omega
 have hw2:IntKind.i64.wrap ((n:Int)+(m:Int))=(n:Int)+(m:Int):=by rw[IntKind.wrap_i64];omega
 have hb1:(0:Int)<=(i:Int)+(m:Int):=by omega
 have hin:i<=n:=by omega
 have htn:((i:Int)+(m:Int)).toNat=i+m:=by omega
 have aFH:((n:Int)+(m:Int)).toNat=n+m:=by omega
 have hb2:¬(c=i+m):=by omega
 have hb3:(i:Int)<=(n:Int)+(m:Int):=by omega
 have hb4:¬(c=i):=by omega
 have mixed:Tryz.prog.follows Departure.mixedOrders=true:=by kernel_rfl
 go_enter func226,ntmps226
 go_wp2_with (simp only[hov])
 go_region_law_o (refine step_copy_runI rfl _ _ 47 47 rfl _ _ qb0 qb0 (hcp1 _ _ _) ?_)
 go_wp2_with (at_builtin;refine wpList_copy_runI _ rfl _ _ 47 47 rfl _ _ rfl rfl (hcp2 _ _) ?_)
 go_ret
 exact⟨rfl,rfl⟩
set_option maxHeartbeats 1000000 in
theorem XM (b n c i m h cc vb vc:Nat)(w w1 w2 w3:World)(hi:i < n)(hm:0 < m)(hnc:n<=c)(hroom:c < n+m)(hcc:n+m<=cc)(hc:n+m<=9223372036854775807)
  (hap:∀ty,(Builtin.append_ #[47,3] ty #[.slice (some ⟨b,0,none⟩) i c, .int .i64 ((n:Int)+m - i)]).run Tryz.prog w= .ok (.slice (some ⟨h,0,none⟩) (n+m) cc) w1)
  (hcp1:∀ty dc,(Builtin.copy_ #[47,47] ty #[.slice (some ⟨h,i*2,none⟩) (n+m - i) dc, .slice (some ⟨vb,0,none⟩) m vc]).run Tryz.prog w1= .ok (goInt m) w2)
  (hcp2:∀ty dc sc,(Builtin.copy_ #[47,47] ty #[.slice (some ⟨h,(i+m)*2,none⟩) (n+m - (i+m)) dc, .slice (some ⟨b,i*2,none⟩) (n - i) sc]).run Tryz.prog w2.drew= .ok (goInt (n - i:Nat)) w3):
  Calls Tryz.prog 226 #[.slice (some ⟨b,0,none⟩) n c, .int .i64 i, .slice (some ⟨vb,0,none⟩) m vc] w fun e w'=>e= .returned (.slice (some ⟨h,0,none⟩) (n+m) cc)/\w'=w3:=by
 have hz1:¬((m:Int)=0):=by omega
 have hz2:¬((i:Int)=(n:Int)):=by omega
 have hw1:IntKind.i64.wrap ((i:Int)+(m:Int))=(i:Int)+(m:Int):=by rw[IntKind.wrap_i64];omega
 have hw2:IntKind.i64.wrap ((n:Int)+(m:Int))=(n:Int)+(m:Int):=by rw[IntKind.wrap_i64];omega
 have hw3:IntKind.i64.wrap ((n:Int)+(m:Int) - (i:Int))=(n:Int)+(m:Int) - (i:Int):=by rw[IntKind.wrap_i64];omega
 have hb1:(0:Int)<=(i:Int)+(m:Int):=by omega
 have hin:i<=n:=by omega
 have hic:i<=c:=by omega
 have htn:((i:Int)+(m:Int)).toNat=i+m:=by omega
 have aFH:((n:Int)+(m:Int)).toNat=n+m:=by omega
 have hb2:¬(cc=i+m):=by omega
 have hb3:(i:Int)<=(n:Int)+(m:Int):=by omega
 have hb4:¬(c=i):=by omega
 have hb5:¬(cc=i):=by omega
 have hb6:i<=n+m:=by omega
 have hb7:i+m<=n+m:=by omega
 have hb8:¬((n:Int)+(m:Int)<=(c:Int)):=by omega
 have hb9:(c:Int) < (n:Int)+(m:Int):=by omega
 have mixed:Tryz.prog.follows Departure.mixedOrders=true:=by kernel_rfl
 go_enter func226,ntmps226
 go_wp2_with (at_builtin;refine Lib.wpList_append_run _ rfl _ _ 47 3 rfl _ _ rfl rfl _ _ (hap _) ?_)
 go_wp2_with (at_builtin;refine wpList_copy_runI _ rfl _ _ 47 47 rfl _ _ rfl rfl (hcp1 _ _) ?_)
 go_region_law_o (refine step_copy_runI rfl _ _ 47 47 rfl _ _ qb0 qb0 (hcp2 _ _ _) ?_)
 go_wp2
 go_ret
 exact⟨rfl,rfl⟩
set_option maxHeartbeats 1000000 in
theorem abT (a a2:Option Addr)(n c m c2:Nat)(v':Value)(w w':World)(hm:0 < m)(hnc:n<=c)(h63:n<=9223372036854775807)
  (hap:∀ty,(Builtin.append_ #[47,47] ty #[.slice a n c, .slice a2 m c2]).run Tryz.prog w= .ok v' w'):
  Calls Tryz.prog 226 #[.slice a n c, .int .i64 n, .slice a2 m c2] w fun e w1=>e= .returned v'/\w1=w':=by
 have hz1:¬((m:Int)=0):=by omega
 have mixed:Tryz.prog.follows Departure.mixedOrders=true:=by kernel_rfl
 go_enter func226,ntmps226
 go_wp2_with (at_builtin;refine Lib.wpList_append_run _ rfl _ _ 47 47 rfl _ _ rfl rfl _ _ (hap _) ?_)
 all_goals (go_ret;exact⟨rfl,rfl⟩)
theorem XB:He Tryz.prog 226 47 3 332 2:=
 ⟨fun b n c i m vb vc w w1 w2 h1 h2 h3 h4 h5 h6 h7=>UR b n c i m vb vc w w1 w2 h1 h2 h3 h4 h5 h6 h7,fun b n c i m h cc vb vc w w1 w2 w3 h1 h2 h3 h4 h5 h6 h7 h8 h9=>XM b n c i m h cc vb vc w w1 w2 w3 h1 h2 h3 h4 h5 h6 h7 h8 h9,abT⟩
def alG:Ct D:=aku S 354 2 32
theorem aix:fV Tryz.prog S 226 alG:=by
 obtain⟨inf,z,h1,h2,h3,h4,h5⟩:=rF (afE 354 _ rfl);refine afT (tb:=4) (kn:= .i64) (inf:=inf) (z:=z) am5 (fun args w=> ?_) XB nG underlying47 underlying3 (fun w=>kz (afE 354 _ rfl) w) (fun args w=> ?_) h1 h2 h3 h4 ?_
 ·have hf:=func226;have hnm:¬f226.name= "runtime.NumGoroutine" :=by decide+kernel
  obtain⟨c,hc⟩:∃c,f226.body=some c:=⟨_,rfl⟩;simp[callFunc,hf,hnm,hc]
 ·exact run_callFunc_extern func332 dU dU dU dU args w
 ·rw[<-Qj,h5];rfl
def aDX:aS Z:=⟨226,alG,aix⟩
set_option maxHeartbeats 1000000 in
theorem Ur (b n c i m vb vc:Nat)(w w1 w2:World)(hi:i < n)(hm:0 < m)(hroom:n+m<=c)(hc:c<=9223372036854775807)
  (hov:∀lb cb x,(callFunc 228 #[.slice (some ⟨vb,0,none⟩) m vc, .slice (some ⟨b,x,none⟩) lb cb]).run Tryz.prog w= .ok (.value (.bool false)) w)
  (hcp1:∀ty dc sc,(Builtin.copy_ #[34,34] ty #[.slice (some ⟨b,(i+m)*2,none⟩) (n+m - (i+m)) dc, .slice (some ⟨b,i*2,none⟩) (n+m - i) sc]).run Tryz.prog w.drew= .ok (goInt (n - i:Nat)) w1)
  (hcp2:∀ty dc,(Builtin.copy_ #[34,34] ty #[.slice (some ⟨b,i*2,none⟩) (n+m - i) dc, .slice (some ⟨vb,0,none⟩) m vc]).run Tryz.prog w1= .ok (goInt m) w2):
  Calls Tryz.prog 143 #[.slice (some ⟨b,0,none⟩) n c, .int .i64 i, .slice (some ⟨vb,0,none⟩) m vc] w fun e w'=>e= .returned (.slice (some ⟨b,0,none⟩) (n+m) c)/\w'=w2:=by
 have hz1:¬((m:Int)=0):=by omega
 have hz2:¬((i:Int)=(n:Int)):=by omega
 have hw1:IntKind.i64.wrap ((i:Int)+(m:Int))=(i:Int)+(m:Int):=by rw[IntKind.wrap_i64];omega
 have hw2:IntKind.i64.wrap ((n:Int)+(m:Int))=(n:Int)+(m:Int):=by rw[IntKind.wrap_i64];omega
 have hb1:(0:Int)<=(i:Int)+(m:Int):=by omega
 have hin:i<=n:=by omega
 have htn:((i:Int)+(m:Int)).toNat=i+m:=by omega
 have aFH:((n:Int)+(m:Int)).toNat=n+m:=by omega
 have hb2:¬(c=i+m):=by omega
 have hb3:(i:Int)<=(n:Int)+(m:Int):=by omega
 have hb4:¬(c=i):=by omega
 have mixed:Tryz.prog.follows Departure.mixedOrders=true:=by kernel_rfl
 go_enter func143,ntmps143
 go_wp2_with (simp only[hov])
 go_region_law_o (refine step_copy_runI rfl _ _ 34 34 rfl _ _ qb0 qb0 (hcp1 _ _ _) ?_)
 go_wp2_with (at_builtin;refine wpList_copy_runI _ rfl _ _ 34 34 rfl _ _ rfl rfl (hcp2 _ _) ?_)
 go_ret
 exact⟨rfl,rfl⟩
set_option maxHeartbeats 1000000 in
theorem XN (b n c i m h cc vb vc:Nat)(w w1 w2 w3:World)(hi:i < n)(hm:0 < m)(hnc:n<=c)(hroom:c < n+m)(hcc:n+m<=cc)(hc:n+m<=9223372036854775807)
  (hap:∀ty,(Builtin.append_ #[34,3] ty #[.slice (some ⟨b,0,none⟩) i c, .int .i64 ((n:Int)+m - i)]).run Tryz.prog w= .ok (.slice (some ⟨h,0,none⟩) (n+m) cc) w1)
  (hcp1:∀ty dc,(Builtin.copy_ #[34,34] ty #[.slice (some ⟨h,i*2,none⟩) (n+m - i) dc, .slice (some ⟨vb,0,none⟩) m vc]).run Tryz.prog w1= .ok (goInt m) w2)
  (hcp2:∀ty dc sc,(Builtin.copy_ #[34,34] ty #[.slice (some ⟨h,(i+m)*2,none⟩) (n+m - (i+m)) dc, .slice (some ⟨b,i*2,none⟩) (n - i) sc]).run Tryz.prog w2.drew= .ok (goInt (n - i:Nat)) w3):
  Calls Tryz.prog 143 #[.slice (some ⟨b,0,none⟩) n c, .int .i64 i, .slice (some ⟨vb,0,none⟩) m vc] w fun e w'=>e= .returned (.slice (some ⟨h,0,none⟩) (n+m) cc)/\w'=w3:=by
 have hz1:¬((m:Int)=0):=by omega
 have hz2:¬((i:Int)=(n:Int)):=by omega
 have hw1:IntKind.i64.wrap ((i:Int)+(m:Int))=(i:Int)+(m:Int):=by rw[IntKind.wrap_i64];omega
 have hw2:IntKind.i64.wrap ((n:Int)+(m:Int))=(n:Int)+(m:Int):=by rw[IntKind.wrap_i64];omega
 have hw3:IntKind.i64.wrap ((n:Int)+(m:Int) - (i:Int))=(n:Int)+(m:Int) - (i:Int):=by rw[IntKind.wrap_i64];omega
 have hb1:(0:Int)<=(i:Int)+(m:Int):=by omega
 have hin:i<=n:=by omega
 have hic:i<=c:=by omega
 have htn:((i:Int)+(m:Int)).toNat=i+m:=by omega
 have aFH:((n:Int)+(m:Int)).toNat=n+m:=by omega
 have hb2:¬(cc=i+m):=by omega
 have hb3:(i:Int)<=(n:Int)+(m:Int):=by omega
 have hb4:¬(c=i):=by omega
 have hb5:¬(cc=i):=by omega
 have hb6:i<=n+m:=by omega
 have hb7:i+m<=n+m:=by omega
 have hb8:¬((n:Int)+(m:Int)<=(c:Int)):=by omega
 have hb9:(c:Int) < (n:Int)+(m:Int):=by omega
 have mixed:Tryz.prog.follows Departure.mixedOrders=true:=by kernel_rfl
 go_enter func143,ntmps143
 go_wp2_with (at_builtin;refine Lib.wpList_append_run _ rfl _ _ 34 3 rfl _ _ rfl rfl _ _ (hap _) ?_)
 go_wp2_with (at_builtin;refine wpList_copy_runI _ rfl _ _ 34 34 rfl _ _ rfl rfl (hcp1 _ _) ?_)
 go_region_law_o (refine step_copy_runI rfl _ _ 34 34 rfl _ _ qb0 qb0 (hcp2 _ _ _) ?_)
 go_wp2
 go_ret
 exact⟨rfl,rfl⟩
set_option maxHeartbeats 1000000 in
theorem aaq (a a2:Option Addr)(n c m c2:Nat)(v':Value)(w w':World)(hm:0 < m)(hnc:n<=c)(h63:n<=9223372036854775807)
  (hap:∀ty,(Builtin.append_ #[34,34] ty #[.slice a n c, .slice a2 m c2]).run Tryz.prog w= .ok v' w'):
  Calls Tryz.prog 143 #[.slice a n c, .int .i64 n, .slice a2 m c2] w fun e w1=>e= .returned v'/\w1=w':=by
 have hz1:¬((m:Int)=0):=by omega
 have mixed:Tryz.prog.follows Departure.mixedOrders=true:=by kernel_rfl
 go_enter func143,ntmps143
 go_wp2_with (at_builtin;refine Lib.wpList_append_run _ rfl _ _ 34 34 rfl _ _ rfl rfl _ _ (hap _) ?_)
 all_goals (go_ret;exact⟨rfl,rfl⟩)
theorem Xw:He Tryz.prog 143 34 3 228 2:=
 ⟨fun b n c i m vb vc w w1 w2 h1 h2 h3 h4 h5 h6 h7=>Ur b n c i m vb vc w w1 w2 h1 h2 h3 h4 h5 h6 h7,fun b n c i m h cc vb vc w w1 w2 w3 h1 h2 h3 h4 h5 h6 h7 h8 h9=>XN b n c i m h cc vb vc w w1 w2 w3 h1 h2 h3 h4 h5 h6 h7 h8 h9,aaq⟩
def aln:Ct D:=aku S 278 2 40
theorem aie:fV Tryz.prog S 143 aln:=by
 obtain⟨inf,z,h1,h2,h3,h4,h5⟩:=rF (afE 278 _ rfl);refine afT (tb:=4) (kn:= .i64) (inf:=inf) (z:=z) am5 (fun args w=> ?_) Xw nG underlying34 underlying3 (fun w=>kz (afE 278 _ rfl) w) (fun args w=> ?_) h1 h2 h3 h4 ?_
 ·have hf:=func143;have hnm:¬f143.name= "runtime.NumGoroutine" :=by decide+kernel
  obtain⟨c,hc⟩:∃c,f143.body=some c:=⟨_,rfl⟩;simp[callFunc,hf,hnm,hc]
 ·exact run_callFunc_extern func228 dU dU dU dU args w
 ·rw[<-Qj,h5];rfl
def aCE:aS Z:=⟨143,aln,aie⟩
def asy:aS Z:=wZ [] [] (aj (aF Es) (a1 (iQ 0))) (b1 (aP cStr)) (R1 aH) [0] func227 1 fun a=>.ret (a.1.1.Method==a.2)
def aqb:aS Z:=wZ [] [] (aj (aF Es) (a1 (iQ 0))) (b1 (aP cStr)) (R1 aH) [0] func142 1 fun a=>.ret (gtS a.1.1.Method a.2)
def axW (x:Trace):Pg Bool:=.ret ((↑x.Times.length:Int)==0)
theorem ayN (x:Trace):(axW x).val=x.Times.isEmpty:=by
 unfold axW;rw[aV];cases x.Times with
 | nil=>rfl
 | cons a l=>simp;omega
theorem ayQ (x:Trace):Is (axW x):=
 aU
def ahw:aS Z:=E2 [] [] (a1 (aF Es)) (R1 aH) [] func148 1 axW (fun a=>none) (fun a=>a.Times.isEmpty) fun a h=>⟨ayQ a,ayN a⟩
def abK:aS Z:=wZ [] [] (aj (bu cI) (a1 (iQ 0))) (b1 (aP cI)) (R1 aH) [0] func146 1 fun a=>.ret (decide (a.1.1<=a.2))
def ahH:aS Z:=Ir [asy] jB 227 [0] (b1 (aP cStr)) func141 jT fun x b=>x.Method==b
def aio:aS Z:=Ir [aqb] jB 142 [0] (b1 (aP cStr)) func141 jT fun x b=>gtS x.Method b
def agK:aS Z:=EI [ahw] jB 148 func141 jT fun x=>x.Times.isEmpty
def aEe:aS Z:=Ir [abK] BO 146 [0] (b1 (aP cI)) func230 0 fun x b=>decide (x<=b)
def alB:aS Z:=E0 [ahH,aio,agK,asy] [] (aj (bu jB) (a1 (bu cStr))) (R1 cI) [] func140 1 fun a=>.ret (h_ (fun(x:Trace)=>x.Method==a.2) a.1)
def recent (l:List Trace)(path:Str)(than:Int):Pg Int:=.lt (h_ (fun(x:Trace)=>x.Method==path) l) fun(v4:Int)=> .br (decide (0<=v4)) (.ix v4 l.length (.as ((l.getD v4.toNat jT).Times.length<=9223372036854775807) (.each false qi (l.getD v4.toNat jT).Times 0 (fun(i1 a3 y2:Int)=> .ix i1 (l.getD v4.toNat jT).Times.length (.br (decide (than < a3)) (rl (dB .i64 (y2+1))) (rl y2))) (fun(i1 y2:Int)=> .ret y2) 0))) (.ret 0)
def awF (l:List Trace)(path:Str)(than:Int):=(recent l path than).val
theorem anF (l:List Trace)(path:Str)(than:Int):Is (recent l path than):=
 dF fun v4 hv4=>gu (fun _=>dR au (by have:=nK (fun(x:Trace)=>x.Method==path) l;omega) (iL fun _=>iF (.inr au) (fun i1 y2 _ _=>dR au au (gu iR iR)) (fun y2 _=>aU))) iR
def apT:aS Z:=E0 [alB] [jS 5 (bU (fun sl=>[s0 22, s0 8]) (az cI (l1 cI)))] (aj (bu jB) (aj (bu cStr) (a1 (bu cI)))) (R1 cI) [] func136 1 (u3 recent) fun a=>anF a.1 a.2.1 a.2.2
def aHR (l:List Int)(than:Int):Pg (List Int):=.lt (h_ (fun(x:Int)=>decide (x<=than)) l) fun(v4:Int)=> .br (v4==(-1)) (.ret l) (.lt (dB .i64 (v4+1)) fun(v5:Int)=> .wh (l.length+1) default (fun(x3:Int×Int×List Int)=> aL x3.2.2 (.br (decide (x3.1 < (↑x3.2.2.length:Int))) (.ix x3.1 x3.2.2.length (.ob (x3.1.toNat < x3.2.2.length) (.lt (dB .i64 (x3.1+1)) fun(v6:Int)=> .br (!decide (x3.2.2.getD x3.1.toNat 0<=than)) (.ix x3.2.1 x3.2.2.length (.ob (x3.2.1.toNat < x3.2.2.length) (rl (v6,dB .i64 (x3.2.1+1),x3.2.2.set x3.2.1.toNat (x3.2.2.getD x3.1.toNat 0))))) (rl (v6,x3.2))))) (.ob (0<=x3.2.1/\x3.2.1<=(↑x3.2.2.length:Int)/\(↑x3.2.2.length:Int)<=(↑x3.2.2.length:Int)) (.ob (x3.2.2.length=x3.2.2.length) (.lt (List.take x3.2.1.toNat x3.2.2++ao4 (x3.2.2.length - x3.2.1.toNat) 0) fun(v7:List Int)=> .ob ((0:Int)<=0/\0<=x3.2.1/\x3.2.1<=(↑v7.length:Int)) (.ret (.inr (List.take x3.2.1.toNat v7)))))))) (v5,v4,l))
theorem awL (l:List Int)(than:Int)(h:l.length<=1000000):Is (aHR l than):=
 (Nr (fun(x:Int)=>decide (x<=than)) 0 l au).1
def aDF:aS Z:=Qq [abK,aEe] [jS 5 (bU (fun sl=>[s0 6, s0 5, .row (pid (sl 0)) 3]) (az cI (az cI (l1 BO))))] (aj (ni 0) (a1 (kE 146 [1]))) (iC (iq 3 D.i64 GM) (b1 (aP cI))) (R1 BO) [1] func145 1 (fun a=>aHR a.2.1 a.2.2) (fun a=>some (a.2.1.length<=1000000)) (fun a=>a.2.1.filter fun(x:Int)=> !decide (x<=a.2.2)) fun a h=>⟨awL a.2.1 a.2.2 h,(fun(l:List Int) (than:Int) (h:l.length<=1000000)=>(Nr (fun(x:Int)=>decide (x<=than)) 0 l au).2) a.2.1 a.2.2 h⟩
def aHl (l:List Trace):Pg (List Trace):=.lt (h_ (fun(x:Trace)=>x.Times.isEmpty) l) fun(v4:Int)=> .br (v4==(-1)) (.ret l) (.lt (dB .i64 (v4+1)) fun(v5:Int)=> .wh (l.length+1) default (fun(x3:Int×Int×List Trace)=> aL x3.2.2 (.br (decide (x3.1 < (↑x3.2.2.length:Int))) (.ix x3.1 x3.2.2.length (.ob (x3.1.toNat < x3.2.2.length) (.lt (dB .i64 (x3.1+1)) fun(v6:Int)=> .br (!(x3.2.2.getD x3.1.toNat jT).Times.isEmpty) (.ix x3.2.1 x3.2.2.length (.ob (x3.2.1.toNat < x3.2.2.length) (rl (v6,dB .i64 (x3.2.1+1),x3.2.2.set x3.2.1.toNat (x3.2.2.getD x3.1.toNat jT))))) (rl (v6,x3.2))))) (.ob (0<=x3.2.1/\x3.2.1<=(↑x3.2.2.length:Int)/\(↑x3.2.2.length:Int)<=(↑x3.2.2.length:Int)) (.ob (x3.2.2.length=x3.2.2.length) (.lt (List.take x3.2.1.toNat x3.2.2++List.replicate (x3.2.2.length - x3.2.1.toNat) (Trace.mk [] [])) fun(v7:List Trace)=> .ob ((0:Int)<=0/\0<=x3.2.1/\x3.2.1<=(↑v7.length:Int)) (.ret (.inr (List.take x3.2.1.toNat v7)))))))) (v5,v4,l))
theorem aw1 (l:List Trace)(h:l.length<=1000000):Is (aHl l):=
 (Nr (fun(x:Trace)=>x.Times.isEmpty) jT l au).1
def aDV:aS Z:=Qq [ahH,aio,agK,ahw] [jS 5 (bU (fun sl=>[s0 6, s0 5, .row (pid (sl 0)) 278]) (az cI (az cI (l1 jB))))] (aj (ni 0) (a1 (kE 148 []))) (b1 (iq 278 D.Trace xg)) (R1 jB) [] func147 1 (fun a=>aHl a.2) (fun a=>some (a.2.length<=1000000)) (fun a=>a.2.filter fun(x:Trace)=> !x.Times.isEmpty) fun a h=>⟨aw1 a.2 h,(fun(l:List Trace) (h:l.length<=1000000)=>(Nr (fun(x:Trace)=>x.Times.isEmpty) jT l au).2) a.2 h⟩
def Rf (t:List Trace)(path:Str)(now:Int)(than:Int):Pg (List Trace):=.ob (t.length<=1000000) (.cut (fun(y1:List Trace)=> .lt (h_ (fun(x:Trace)=>x.Method==path) y1) fun(v4:Int)=> .ix v4 y1.length (.ob (v4.toNat < y1.length) (.ob ((y1.getD v4.toNat jT).Times.length<=1000000) (.ob (bQ ((y1.getD v4.toNat jT).Times.length+1) 8) (.ix v4 y1.length (.ob (v4.toNat < y1.length) (.lt (y1.set v4.toNat (Trace.mk (y1.getD v4.toNat jT).Method ((y1.getD v4.toNat jT).Times++[now]))) fun(v5:List Trace)=> aL v5 (.cnt qi 0 (↑v5.length:Int) (fun i2 (y3:List Trace)=> .ix i2 y3.length (.ob (i2.toNat < y3.length) (.ob ((y3.getD i2.toNat jT).Times.length<=1000000) (.ob ((y3.getD i2.toNat jT).Times.length<=1000000) (.ix i2 y3.length (.ob (i2.toNat < y3.length) (rl (y3.set i2.toNat (Trace.mk (y3.getD i2.toNat jT).Method (List.filter (fun(x:Int)=> !decide (x<=than)) (y3.getD i2.toNat jT).Times)))))))))) (fun i2 (y3:List Trace)=> .ob (y3.length<=1000000) (.ret (List.filter (fun(x:Trace)=> !x.Times.isEmpty) y3))) v5)))))))) (.lt (h_ (fun(x:Trace)=>x.Method==path) t) fun(v6:Int)=> .br (decide (v6 < 0)) (.lt (h_ (fun(x:Trace)=>gtS x.Method path) t) fun(v7:Int)=> .br (decide (v7 < 0)) (aL t (.ob (0<=(↑t.length:Int)/\(↑t.length:Int)<=(↑t.length:Int)/\0 < 1/\bQ (t.length+1) 40) (rl (List.take t.length t++([Trace.mk path []]++List.drop t.length (List.take t.length t)))))) (.ob (0<=v7/\v7<=(↑t.length:Int)/\0 < 1/\bQ (t.length+1) 40) (rl (List.take v7.toNat t++([Trace.mk path []]++List.drop v7.toNat (List.take t.length t)))))) (rl t)))
def Ru (path:Str)(x:Trace):Bool:=x.Method==path
def gtM (path:Str)(x:Trace):Bool:=gtS x.Method path
def aeZ (path:Str)(now:Int):List Trace->List Trace
 | []=>[]
 | x::t=>bif Ru path x then⟨x.Method,x.Times++[now]⟩::t else x::aeZ path now t
def AL (path:Str)(ts:List Int):List Trace->List Trace
 | []=>[⟨path,ts⟩]
 | x::t=>bif gtM path x then⟨path,ts⟩::x::t else x::AL path ts t
def Uz (t:List Trace)(path:Str)(now:Int):List Trace:=bif t.any (Ru path)then aeZ path now t else AL path [now] t
def aIy (than:Int)(x:Trace):Trace:=⟨x.Method,x.Times.filter fun y=> !decide (y<=than)⟩
def aeT (than:Int)(t:List Trace):List Trace:=(t.map (aIy than)).filter fun x=> !x.Times.isEmpty
def XC (t:List Trace)(path:Str):List Trace:=bif t.any (Ru path)then t else AL path [] t
def okT (t:List Trace):Prop:=t.length<=1000/\∀x∈t,x.Times.length<=1000
theorem Tu (path:Str)(ts:List Int)(t:List Trace):∃u v,t=u++v/\AL path ts t=u++⟨path,ts⟩::v:=by
 induction t with
 | nil=>exact⟨[],[],rfl,rfl⟩
 | cons x t ih=>
  unfold AL;cases gtM path x with
  | true=>exact⟨[],x::t,rfl,rfl⟩
  | false=>
   obtain⟨u,v,h1,h2⟩:=ih;exact⟨x::u,v,by rw[h1];rfl,by rw[pO,h2];rfl⟩
theorem amN (path:Str)(ts ts':List Int)(t:List Trace):∃u v,t=u++v/\AL path ts t=u++⟨path,ts⟩::v/\AL path ts' t=u++⟨path,ts'⟩::v:=by
 induction t with
 | nil=>exact⟨[],[],rfl,rfl,rfl⟩
 | cons x t ih=>
  unfold AL;cases gtM path x with
  | true=>exact⟨[],x::t,rfl,rfl,rfl⟩
  | false=>
   obtain⟨u,v,h1,h2,h3⟩:=ih;exact⟨x::u,v,by rw[h1];rfl,by rw[pO,h2];rfl,by rw[pO,h3];rfl⟩
theorem aft (path:Str)(ts:List Int):∀(u:List Trace) (a:Trace) (v:List Trace),(∀x∈u,gtM path x=false)->gtM path a=true->AL path ts (u++a::v)=u++⟨path,ts⟩::a::v
 | [],a,v,_,h=>by simp[AL,h]
 | x::u,a,v,hu,h=>by
  simp only[Qb5,AL,hu x qa2,pO];rw[aft path ts u a v (fun y hy=>hu y qcu) h]
theorem adm (path:Str)(ts:List Int):∀(u:List Trace),(∀x∈u,gtM path x=false)->AL path ts u=u++[⟨path,ts⟩]
 | [],_=>rfl
 | x::u,hu=>by
  simp only[Qb5,AL,hu x qa2,pO];rw[adm path ts u (fun y hy=>hu y qcu)]
theorem aeJ (path:Str)(now:Int):∀(u:List Trace) (a:Trace) (v:List Trace),(∀x∈u,Ru path x=false)->Ru path a=true->aeZ path now (u++a::v)=u++⟨a.Method,a.Times++[now]⟩::v
 | [],a,v,_,h=>by simp[aeZ,h]
 | x::u,a,v,hu,h=>by
  simp only[Qb5,aeZ,hu x qa2,pO];rw[aeJ path now u a v (fun y hy=>hu y qcu) h]
theorem Zi (t:List Trace)(path:Str)(now:Int):∃u a v,XC t path=u++a::v/\(∀x∈u,Ru path x=false)/\Ru path a=true/\Uz t path now=u++⟨a.Method,a.Times++[now]⟩::v:=by
 unfold XC Uz;rcases su (Ru path) t with⟨_,h⟩ | ⟨u,a,v,h1,h2,h3,_⟩
 ·have:t.any (Ru path)=false:=by
   rw[Qcp];exact fun x hx=>by rw[h x hx];simp
  rw[this];obtain⟨u,v,h1,h2,h3⟩:=amN path [] [now] t;exact⟨u,⟨path,[]⟩,v,h2,fun x hx=>h x (by rw[h1];simp[hx]),by simp[Ru],h3⟩
 ·have:t.any (Ru path)=true:=by
   rw[Qct];exact⟨a,by rw[h1];simp,h2⟩
  rw[this];exact⟨u,a,v,h1,h3,h2,by rw[Bo,h1,aeJ path now u a v h3 h2]⟩
theorem awp (t:List Trace)(path:Str)(h:okT t):(XC t path).length<=1001/\∀x∈XC t path,x.Times.length<=1000:=by
 unfold XC;cases t.any (Ru path)with
 | true=>exact⟨by have:=h.1;simp only[Bo];omega,h.2⟩
 | false=>
  obtain⟨u,v,h1,h2⟩:=Tu path [] t;have hl:=h.1;rw[pO,h2];refine⟨by rw[h1]at hl;simp at hl⊢;omega,fun x hx=> ?_⟩;rcases rW.1 hx with hx | hx
  ·exact h.2 x (by rw[h1];simp[hx])
  ·rcases xI.1 hx with rfl | hx
   ·simp
   ·exact h.2 x (by rw[h1];simp[hx])
theorem PS (t:List Trace)(path:Str):(bif decide (h_ (Ru path) t < 0)then
   bif decide (h_ (gtM path) t < 0)then(List.take t.length t++([Trace.mk path []]++List.drop t.length (List.take t.length t)))
   else(List.take (h_ (gtM path) t).toNat t++([Trace.mk path []]++List.drop (h_ (gtM path) t).toNat (List.take t.length t)))
  else t)=XC t path:=by
 unfold XC;rcases su (Ru path) t with⟨h0,h⟩ | ⟨u,a,v,h1,h2,h3,h4⟩
 ·have:t.any (Ru path)=false:=by
   rw[Qcp];exact fun x hx=>by rw[h x hx];simp
  rw[this,h0];simp only[show decide ((-1:Int) < 0)=true from rfl,Bo,pO];rcases su (gtM path) t with⟨g0,g⟩ | ⟨u,a,v,g1,g2,g3,g4⟩
  ·rw[g0,adm path [] t g];simp
  ·have hd:decide ((u.length:Int) < 0)=false:=qy au;rw[g4,hd,pO,ww,Eo,g1,aft path [] u a v g3 g2,Qd,List.drop_left];rfl
 ·have:t.any (Ru path)=true:=by
   rw[Qct];exact⟨a,by rw[h1];simp,h2⟩
  have hd:decide ((u.length:Int) < 0)=false:=qy au;rw[this,h4,hd];rfl
theorem ag5 (t:List Trace)(path:Str)(now than:Int)(h:okT t):(Rf t path now than).val=aeT than (Uz t path now):=by
 unfold Rf;simp only[dP,nJ,dJ,bV,lh,aV,jZ,BX];have hm:=PS t path;unfold Ru gtM at hm;have hs:∀(c1 c2:Bool) (a b c:List Trace),(bif c1 then bif c2 then(Sum.inl a:List Trace⊕List Trace)else .inl b else .inl c)= .inl (bif c1 then bif c2 then a else b else c):=by
  intro c1 c2 a b c;cases c1<;>cases c2<;>rfl
 rw[hs,hm,qE];obtain⟨u,a,v,e1,e2,e3,e4⟩:=Zi t path now;have hx:=adc (Ru path) u a v e2 e3;unfold Ru at hx;rw[e1,hx,ww,WG,set_mid,<-e4];exact anb (aIy than) jT (fun _ (y:List Trace)=>y.filter fun x=> !x.Times.isEmpty) _
theorem aiY (t:List Trace)(path:Str)(now:Int)(than:Int)(h:okT t):Is (Rf t path now than):=
 by
 refine aX qcr (qM (dF fun v6 hv6=>gu (fun _=>dF fun v7 hv7=>gu (fun _=>iL fun _=>aX ⟨by omega,by omega,by omega,b_ qcr qcr⟩ aU)
  (fun _=>aX ⟨by omega,by have:=nK (fun(x:Trace)=>gtS x.Method path) t;omega,by omega,b_ qcr qcr⟩ aU)) iR) (fun y1 hy1=> ?_))
 have hy:y1=XC t path:=by
  have hm:=PS t path;unfold Ru gtM at hm;rw[<-hm];revert hy1;simp only[dJ,bV,lh,dP,aV];cases decide (h_ (fun(x:Trace)=>x.Method==path) t < 0)<;>cases decide (h_ (fun(x:Trace)=>gtS x.Method path) t < 0)<;>intro e<;>injection e with e<;>exact e.symm
 subst hy;obtain⟨k1,k2⟩:=awp t path h;obtain⟨u,a,v,e1,e2,e3,e4⟩:=Zi t path now;have hx:=adc (Ru path) u a v e2 e3;unfold Ru at hx;have ha:=k2 a (by rw[e1];simp);have hl:(XC t path).length=u.length+(v.length+1):=by rw[e1];simp
 refine dF fun v4 hv4=> ?_;rw[e1,hx]at hv4;subst hv4;have hg:(XC t path).getD ((u.length:Int)).toNat jT=a:=by rw[e1,ww,WG]
 rw[hg];refine dR au au (aX au (aX au (aX (b_ au au) (dR au au (aX au (dF fun v5 hv5=>iL fun _=> ?_))))));have hv:v5=u++⟨a.Method,a.Times++[now]⟩::v:=by rw[hv5,e1,ww,set_mid]
 have hl5:v5.length=u.length+(v.length+1):=by rw[hv];simp
 refine LY (fun _ y=>y.length=v5.length/\∀x∈y,x.Times.length<=1001) ⟨rfl,fun x hx=> ?_⟩ au au (fun i y3 h1 h2 hI=> ?_) (fun i y3 _ _ hI=>aX au aU)
 ·rw[hv]at hx;rcases rW.1 hx with hx | hx
  ·have:=k2 x (by rw[e1];simp[hx]);omega
  ·rcases xI.1 hx with rfl | hx
   ·simp;omega
   ·have:=k2 x (by rw[e1];simp[hx]);omega
 ·have hi:i.toNat < y3.length:=by omega
  have hm:=hI.2 _ (getD_mem (d:=jT) hi);refine⟨dR au au (aX au (aX au (aX au (dR au au (aX au aU))))),fun y' hy'=> ?_⟩;simp only[jZ,dP,aV,Sum.inl.injEq]at hy';subst hy';refine⟨by rw[Qbm];exact hI.1,fun x hx=> ?_⟩;rcases Qcb hx with hx | rfl
  ·exact hI.2 x hx
  ·exact zO (Qb0 _ _) hm
def anO:aS Z:=E2 [aq_,alB,ahH,aio,agK,aqb,aCE,aug,aDF,abK,aDV,ahw] [jS 10 (bU (fun sl=>[s0 49, .row (pid (sl 0)) 278]) (az cI (l1 jB))),jS 100007 (bU (fun sl=>[.slot 0 false [some 278]]) (l1 jB))] (aj (bu jB) (aj (bu cStr) (aj (bu cI) (a1 (bu cI))))) (R1 jB) [] func88 1 (u4 Rf) (fun a=>some (okT a.1)) (fun a=>aeT a.2.2.2 (Uz a.1 a.2.1 a.2.2.1)) fun a h=>⟨aiY a.1 a.2.1 a.2.2.1 a.2.2.2 h,ag5 a.1 a.2.1 a.2.2.1 a.2.2.2 h⟩
end
end Go.Proofs.YtmadgoehmjmlmaaGreatDoor
