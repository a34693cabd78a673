/- Codecs: messages read. -/
import Derived.Test.YtihakigfhcankaaGreatDoorP3
namespace Go.Proofs.YtihakigfhcankaaGreatDoor
noncomputable section
open Go.RowKit Go.Vc
open Tryz
set_option linter.unusedVariables false
set_option linter.unusedSimpArgs false
set_option maxRecDepth 100000
def abD (qQ:Int->af->ae->af×Int×ae)(iU:Int->af->ae->Prop)(uJ:bu->af->Op->Int->ae->af×Int×ae)(jO:bu->af->Op->Int->ae->Prop)(lN:Int->af->Int->ae->af×Int×ae)(gZ:Int->af->Int->ae->Prop)(tH:bu->af->Op->ae->af×Int×ae)(iT:bu->af->Op->ae->Prop)(BU:bu->af->Op->ae->af×Int×ae)(jR:bu->af->Op->ae->Prop)(uz:Op->Int->ae->af×Int×ae)(kK:Op->Int->ae->Prop)(prog:Int)(v:af)(r:ae):Pg (af×Int×ae):=.ix prog r.p.a_.length (.wh ((r.c.End - r.c.At).toNat+1) default (fun(x1:ae×af)=> .lt (uj x1.1.c) fun(v6:Int)=> .br (decide (0 < v6)) (.ob (mV x1.1.c) (.lt (tK x1.1.c) fun(v7:Int×Int×aK×Int)=> .br (v7.2.2.2 !=0) (.ret (.inr (x1.2.re,v7.2.2.2,x1.1))) (.cut (fun(y5:ae×af)=> .ob (mV x1.1.c) (.lt (vF x1.1.c) fun(v8:Raw×aK×Int)=> .br (v8.2.2 !=0) (.ret (.inr (y5.2.re,v8.2.2,y5.1))) (.ob (y5.2.re.bJ.length<=1048576) (rl (ae.mk y5.1.p v8.2.1,(yD y5.2.re v8.1).re))))) (.as ((r.p.a_.getD prog.toNat bU).Ops.length<=9223372036854775807) (.each false qw (r.p.a_.getD prog.toNat bU).Ops zT (fun i2 a4 (y3:ae×af)=> .ix i2 (r.p.a_.getD prog.toNat bU).Ops.length (.br (a4.Num !=v7.1) (rl (y3.1,y3.2.re)) (.ob (jO (r.p.a_.getD prog.toNat bU) y3.2.re a4 v7.2.1 (ae.mk y3.1.p v7.2.2.1)) (.br ((uJ (r.p.a_.getD prog.toNat bU) y3.2.re a4 v7.2.1 (ae.mk y3.1.p v7.2.2.1)).2.1 !=0) (.ret (.inr (.inr (.inr ((uJ (r.p.a_.getD prog.toNat bU) y3.2.re a4 v7.2.1 (ae.mk y3.1.p v7.2.2.1)).1.re, (uJ (r.p.a_.getD prog.toNat bU) y3.2.re a4 v7.2.1 (ae.mk y3.1.p v7.2.2.1)).2))))) (.ret (.inr (.inr (.inl ((uJ (r.p.a_.getD prog.toNat bU) y3.2.re a4 v7.2.1 (ae.mk y3.1.p v7.2.2.1)).2.2, (uJ (r.p.a_.getD prog.toNat bU) y3.2.re a4 v7.2.1 (ae.mk y3.1.p v7.2.2.1)).1.re))))))))) (fun i2 (y3:ae×af)=> rl (y3.1,y3.2.re)) (x1.1,x1.2.re)))))) (.ret (.inr (x1.2.re,0,x1.1)))) (r,v.re))
def agT (qQ:Int->af->ae->af×Int×ae)(iU:Int->af->ae->Prop)(uJ:bu->af->Op->Int->ae->af×Int×ae)(jO:bu->af->Op->Int->ae->Prop)(lN:Int->af->Int->ae->af×Int×ae)(gZ:Int->af->Int->ae->Prop)(tH:bu->af->Op->ae->af×Int×ae)(iT:bu->af->Op->ae->Prop)(BU:bu->af->Op->ae->af×Int×ae)(jR:bu->af->Op->ae->Prop)(uz:Op->Int->ae->af×Int×ae)(kK:Op->Int->ae->Prop)(g:bu)(v:af)(o:Op)(w:Int)(r:ae):Pg (af×Int×ae):=.br (o.Card==5) (.br (w !=6) (.ret (v.re,13,r)) (.ob (jR g v.re o r) (.ret ((BU g v.re o r).1.re,(BU g v.re o r).2)))) (.lt (Cc g v.re o r) fun(v1:af×Int×ae)=> .lt (CU o) fun(v2:Int)=> .br (w==5) (.br (lu o) (.ob (Il v.re r/\1<=o.Num/\o.Num<=65535) (.lt (aAA g v.re o r) fun(v3:af×Int×ae)=> .ret (v3.1.re,v3.2))) (.br (w !=v2) (.ret (v.re,13,r)) (.br (o.Kind==10) (.ob (iT g v.re o r) (.ret ((tH g v.re o r).1.re,(tH g v.re o r).2))) (.ob (Il v.re r/\1<=o.Num/\o.Num<=65535) (.ret (v1.1.re,v1.2)))))) (.br (w !=v2) (.ret (v.re,13,r)) (.br (o.Kind==10) (.ob (iT g v.re o r) (.ret ((tH g v.re o r).1.re,(tH g v.re o r).2))) (.ob (Il v.re r/\1<=o.Num/\o.Num<=65535) (.ret (v1.1.re,v1.2))))))
def aa3 (qQ:Int->af->ae->af×Int×ae)(iU:Int->af->ae->Prop)(uJ:bu->af->Op->Int->ae->af×Int×ae)(jO:bu->af->Op->Int->ae->Prop)(lN:Int->af->Int->ae->af×Int×ae)(gZ:Int->af->Int->ae->Prop)(tH:bu->af->Op->ae->af×Int×ae)(iT:bu->af->Op->ae->Prop)(BU:bu->af->Op->ae->af×Int×ae)(jR:bu->af->Op->ae->Prop)(uz:Op->Int->ae->af×Int×ae)(kK:Op->Int->ae->Prop)(prog:Int)(base:af)(cost:Int)(r:ae):Pg (af×Int×ae):=.ob (mV r.c) (.lt (kw r) fun(v1:Int×Int×ae)=> .br (v1.2.1 !=0) (.ret (base.re,v1.2)) (.lt (QP v1.2.2.c v1.1) fun(v2:aK×Int)=> .br (v2.2 !=0) (.ret (base.re,v2.2,ae.mk v1.2.2.p v2.1)) (.lt (mi cost (ae.mk v1.2.2.p v2.1)) fun(v3:Int×ae)=> .br (v3.1 !=0) (.ret (base.re,v3)) (.ob (iU prog base.re v3.2) (.br ((qQ prog base.re v3.2).2.1 !=0) (.ret (base.re,(qQ prog base.re v3.2).2)) (.ret ((qQ prog base.re v3.2).1.re,0, ae.mk (qQ prog base.re v3.2).2.2.p (EN v1.2.2.c (qQ prog base.re v3.2).2.2.c))))))))
def aal (qQ:Int->af->ae->af×Int×ae)(iU:Int->af->ae->Prop)(uJ:bu->af->Op->Int->ae->af×Int×ae)(jO:bu->af->Op->Int->ae->Prop)(lN:Int->af->Int->ae->af×Int×ae)(gZ:Int->af->Int->ae->Prop)(tH:bu->af->Op->ae->af×Int×ae)(iT:bu->af->Op->ae->Prop)(BU:bu->af->Op->ae->af×Int×ae)(jR:bu->af->Op->ae->Prop)(uz:Op->Int->ae->af×Int×ae)(kK:Op->Int->ae->Prop)(g:bu)(v:af)(o:Op)(r:ae):Pg (af×Int×ae):=.lt (f_ v.re o.Num) fun(v3:af×Bool)=> .br (o.Card==4) (.cut (fun(y1:Int)=> .ob (gZ o.Target (af.mk 10 0 [] [] [] [] []) y1 r) (.br ((lN o.Target (af.mk 10 0 [] [] [] [] []) y1 r).2.1 !=0) (.ret (v.re,(lN o.Target (af.mk 10 0 [] [] [] [] []) y1 r).2)) (.ob (v3.1.re.List.length<=1048576) (.ob (v.re.Slots.length<=1048576) (.ret ((xn g v.re o (qM v3.1.re (lN o.Target (af.mk 10 0 [] [] [] [] []) y1 r).1.re).re).re,0, (lN o.Target (af.mk 10 0 [] [] [] [] []) y1 r).2.2)))))) (.br (!v3.2) (rl 2) (rl 1))) (.cut (fun(y2:af)=> .ob (gZ o.Target y2.re 1 r) (.br ((lN o.Target y2.re 1 r).2.1 !=0) (.ret (v.re,(lN o.Target y2.re 1 r).2)) (.ob (v.re.Slots.length<=1048576) (.ret ((xn g v.re o (lN o.Target y2.re 1 r).1.re).re,0,(lN o.Target y2.re 1 r).2.2))))) (.br (!v3.2) (rl (af.mk 10 0 [] [] [] [] [])) (rl v3.1.re)))
def ag9 (qQ:Int->af->ae->af×Int×ae)(iU:Int->af->ae->Prop)(uJ:bu->af->Op->Int->ae->af×Int×ae)(jO:bu->af->Op->Int->ae->Prop)(lN:Int->af->Int->ae->af×Int×ae)(gZ:Int->af->Int->ae->Prop)(tH:bu->af->Op->ae->af×Int×ae)(iT:bu->af->Op->ae->Prop)(BU:bu->af->Op->ae->af×Int×ae)(jR:bu->af->Op->ae->Prop)(uz:Op->Int->ae->af×Int×ae)(kK:Op->Int->ae->Prop)(g:bu)(v:af)(o:Op)(r:ae):Pg (af×Int×ae):=.ob (mV r.c) (.lt (kw r) fun(v4:Int×Int×ae)=> .br (v4.2.1 !=0) (.ret (v.re,v4.2)) (.lt (f_ v.re o.Num) fun(v5:af×Bool)=> .cut (fun(y1:Int)=> .lt (mi y1 (SA v4.1 v4.2.2).2) fun(v6:Int×ae)=> .br (v6.1 !=0) (.ret (v.re,v6)) (.wh ((r.c.End - r.c.At).toNat+1) default (fun(x2:Bool×Bool×ae×Pair)=> .lt (uj x2.2.2.1.c) fun(v7:Int)=> .br (decide (0 < v7)) (.ob (mV x2.2.2.1.c) (.lt (tK x2.2.2.1.c) fun(v8:Int×Int×aK×Int)=> .cut (fun(y3:Unit)=> .br (v8.1==1) (.ob (kK (Op.mk 0 [] [] 0 0 o.Key (-1) 0) v8.2.1 (ae.mk x2.2.2.1.p v8.2.2.1)) (.br ((uz (Op.mk 0 [] [] 0 0 o.Key (-1) 0) v8.2.1 (ae.mk x2.2.2.1.p v8.2.2.1)).2.1 != 0) (.ret (.inr (v.re, (uz (Op.mk 0 [] [] 0 0 o.Key (-1) 0) v8.2.1 (ae.mk x2.2.2.1.p v8.2.2.1)).2))) (rl (true,x2.2.1, (uz (Op.mk 0 [] [] 0 0 o.Key (-1) 0) v8.2.1 (ae.mk x2.2.2.1.p v8.2.2.1)).2.2, Pair.mk (uz (Op.mk 0 [] [] 0 0 o.Key (-1) 0) v8.2.1 (ae.mk x2.2.2.1.p v8.2.2.1)).1.re x2.2.2.2.Val.re)))) (.ob (kK o v8.2.1 (ae.mk x2.2.2.1.p v8.2.2.1)) (.br ((uz o v8.2.1 (ae.mk x2.2.2.1.p v8.2.2.1)).2.1 !=0) (.ret (.inr (v.re,(uz o v8.2.1 (ae.mk x2.2.2.1.p v8.2.2.1)).2))) (rl (x2.1,true,(uz o v8.2.1 (ae.mk x2.2.2.1.p v8.2.2.1)).2.2, Pair.mk x2.2.2.2.Key.re (uz o v8.2.1 (ae.mk x2.2.2.1.p v8.2.2.1)).1.re))))) (.br (v8.2.2.2 !=0) (.ret (.inr (.inr (v.re,v8.2.2.2,x2.2.2.1)))) (.br (v8.1 !=1) (.br (v8.1 !=2) (.ret (.inr (.inr (v.re,18,x2.2.2.1)))) (.br (v8.1==1) (.br x2.1 (.ret (.inr (.inr (v.re,9,x2.2.2.1)))) (.br (v8.1==2) (.br x2.2.1 (.ret (.inr (.inr (v.re,9,x2.2.2.1)))) (rl ())) (rl ()))) (.br (v8.1==2) (.br x2.2.1 (.ret (.inr (.inr (v.re,9,x2.2.2.1)))) (rl ())) (rl ())))) (.br (v8.1==1) (.br x2.1 (.ret (.inr (.inr (v.re,9,x2.2.2.1)))) (.br (v8.1==2) (.br x2.2.1 (.ret (.inr (.inr (v.re,9,x2.2.2.1)))) (rl ())) (rl ()))) (.br (v8.1==2) (.br x2.2.1 (.ret (.inr (.inr (v.re,9,x2.2.2.1)))) (rl ())) (rl ()))))))) (aL v5.1.Pairs (.ob (0<=(↑v5.1.Pairs.length:Int)/\ (↑v5.1.Pairs.length:Int)=(↑v5.1.Pairs.length:Int)/\(↑v5.1.Pairs.length:Int)<=(↑v5.1.Pairs.length:Int)) (.lt (List.take v5.1.Pairs.length v5.1.Pairs) fun(v9:List Pair)=> .ob (0 < 1/\bT (v9.length+1) 256) (.lt (v9++[Pair.mk x2.2.2.2.Key.re x2.2.2.2.Val.re]) fun(v10:List Pair)=> .ob (oh v10) (.ob (v.re.Slots.length<=1048576) (.ret (.inr ((xn g v.re o (af.mk 12 0 [] [] (nY v10) [] [])).re,0, acn (SA v4.1 v4.2.2).1 x2.2.2.1))))))))) (false,false,v6.2,Pair.mk (af.mk o.Key 0 [] [] [] [] []) (af.mk o.Kind 0 [] [] [] [] [])))) (.br (!v5.2) (rl 3) (rl 2))))
def anO (qQ:Int->af->ae->af×Int×ae)(iU:Int->af->ae->Prop)(uJ:bu->af->Op->Int->ae->af×Int×ae)(jO:bu->af->Op->Int->ae->Prop)(lN:Int->af->Int->ae->af×Int×ae)(gZ:Int->af->Int->ae->Prop)(tH:bu->af->Op->ae->af×Int×ae)(iT:bu->af->Op->ae->Prop)(BU:bu->af->Op->ae->af×Int×ae)(jR:bu->af->Op->ae->Prop)(uz:Op->Int->ae->af×Int×ae)(kK:Op->Int->ae->Prop)(o:Op)(w:Int)(r:ae):Pg (af×Int×ae):=.br (w !=CU o) (.ret (af.mk 0 0 [] [] [] [] [],13,r)) (.br (o.Kind==10) (.ob (gZ o.Target (af.mk 10 0 [] [] [] [] []) 0 r) (.ret ((lN o.Target (af.mk 10 0 [] [] [] [] []) 0 r).1.re,(lN o.Target (af.mk 10 0 [] [] [] [] []) 0 r).2))) (.ob (mV r.c) (.lt (iE w r) fun(v1:Raw×Int×ae)=> .br (v1.2.1 !=0) (.ret (af.mk 0 0 [] [] [] [] [],v1.2)) (.ob (List.length v1.1.Data<=1048576) (.lt (uK v1.2.2.p o v1.1) fun(v2:af×Int)=> .ret (v2.1.re,v2.2,v1.2.2))))))
def iU (fu:Nat)(prog:Int)(v:af)(r:ae):Prop:=Il v r/\(0<=prog/\prog < r.p.a_.length)/\5*r.c.Depth+5<=fu
def jO (fu:Nat)(g:bu)(v:af)(o:Op)(w:Int)(r:ae):Prop:=Il v r/\Uo r.p o/\5*r.c.Depth+4<=fu
def gZ (fu:Nat)(prog:Int)(base:af)(cost:Int)(r:ae):Prop:=Il base r/\(0<=prog/\prog < r.p.a_.length)/\5*r.c.Depth+1<=fu
def iT (fu:Nat)(g:bu)(v:af)(o:Op)(r:ae):Prop:=Il v r/\(0<=o.Target/\o.Target < r.p.a_.length)/\5*r.c.Depth+2<=fu
def jR (fu:Nat)(g:bu)(v:af)(o:Op)(r:ae):Prop:=Il v r/\Uo r.p o/\o.Card=5/\5*r.c.Depth+3<=fu
def kK (fu:Nat)(o:Op)(w:Int)(r:ae):Prop:=Il (af.mk 10 0 [] [] [] [] []) r/\(o.Kind=10->0<=o.Target/\o.Target < r.p.a_.length)/\5*r.c.Depth+2<=fu
def lW:Nat->(Int->af->ae->(af×Int×ae))×(bu->af->Op->Int->ae->(af×Int×ae))×(Int->af->Int->ae->(af×Int×ae))×(bu->af->Op->ae->(af×Int×ae))×(bu->af->Op->ae->(af×Int×ae))×(Op->Int->ae->(af×Int×ae))
 | 0=>(fun _ _ _=>default,fun _ _ _ _ _=>default,fun _ _ _ _=>default,fun _ _ _ _=>default,fun _ _ _ _=>default,fun _ _ _=>default)
 | fu+1=>(fun prog v r=>(abD ((lW fu).1) (iU fu) ((lW fu).2.1) (jO fu) ((lW fu).2.2.1) (gZ fu) ((lW fu).2.2.2.1) (iT fu) ((lW fu).2.2.2.2.1) (jR fu) ((lW fu).2.2.2.2.2) (kK fu) prog v r).val,fun g v o w r=>(agT ((lW fu).1) (iU fu) ((lW fu).2.1) (jO fu) ((lW fu).2.2.1) (gZ fu) ((lW fu).2.2.2.1) (iT fu) ((lW fu).2.2.2.2.1) (jR fu) ((lW fu).2.2.2.2.2) (kK fu) g v o w r).val,fun prog base cost r=>(aa3 ((lW fu).1) (iU fu) ((lW fu).2.1) (jO fu) ((lW fu).2.2.1) (gZ fu) ((lW fu).2.2.2.1) (iT fu) ((lW fu).2.2.2.2.1) (jR fu) ((lW fu).2.2.2.2.2) (kK fu) prog base cost r).val,fun g v o r=>(aal ((lW fu).1) (iU fu) ((lW fu).2.1) (jO fu) ((lW fu).2.2.1) (gZ fu) ((lW fu).2.2.2.1) (iT fu) ((lW fu).2.2.2.2.1) (jR fu) ((lW fu).2.2.2.2.2) (kK fu) g v o r).val,fun g v o r=>(ag9 ((lW fu).1) (iU fu) ((lW fu).2.1) (jO fu) ((lW fu).2.2.1) (gZ fu) ((lW fu).2.2.2.1) (iT fu) ((lW fu).2.2.2.2.1) (jR fu) ((lW fu).2.2.2.2.2) (kK fu) g v o r).val,fun o w r=>(anO ((lW fu).1) (iU fu) ((lW fu).2.1) (jO fu) ((lW fu).2.2.1) (gZ fu) ((lW fu).2.2.2.1) (iT fu) ((lW fu).2.2.2.2.1) (jR fu) ((lW fu).2.2.2.2.2) (kK fu) o w r).val)
def Ud (prog:Int)(v:af)(r:ae):af×Int×ae:=(lW ((5*r.c.Depth+5).toNat)).1 prog v r
def Ha (fu:Nat):Prop:=(∀(prog:Int) (v:af) (r:ae),iU fu prog v r->(fun x=>FQ 0 0 v r x/\(x.2.1=0->x.2.2.c.At=x.2.2.c.End)) ((lW fu).1 prog v r))/\(∀(g:bu) (v:af) (o:Op) (w:Int) (r:ae),jO fu g v o w r->(FQ 0 0 v r) ((lW fu).2.1 g v o w r))/\(∀(prog:Int) (base:af) (cost:Int) (r:ae),gZ fu prog base cost r->(FQ 0 8 base r) ((lW fu).2.2.1 prog base cost r))/\(∀(g:bu) (v:af) (o:Op) (r:ae),iT fu g v o r->(FQ 0 0 v r) ((lW fu).2.2.2.1 g v o r))/\(∀(g:bu) (v:af) (o:Op) (r:ae),jR fu g v o r->(FQ 0 0 v r) ((lW fu).2.2.2.2.1 g v o r))/\(∀(o:Op) (w:Int) (r:ae),kK fu o w r->(fun x=>x.2.1=0->x.2.2.p=r.p/\CJ 0 r.c x.2.2.c/\kV x.1/\(tV x.1:Int)<=8*(x.2.2.c.At - r.c.At)/\(¬o.Kind=10->jQ x.1.Kind=true)) ((lW fu).2.2.2.2.2 o w r))
theorem UJ:tV (af.mk 10 0 [] [] [] [] [])=1:=(kF 10 0 [] u0).2
theorem aog {c:aK}(h:mV c):CJ 0 c c:=⟨h,rfl,rfl,rfl,rfl,PE _,by omega⟩
theorem ale {k j s:Int}{v:af}{r:ae}{x:af×Int×ae}(h:FQ k s v r x)(hj:j<=k):FQ j s v r x:=fun e=>⟨(h e).1,kR (h e).2.1 hj,(h e).2.2⟩
theorem ayd {v:af}{r:ae}(h:Il v r):Il (af.mk 10 0 [] [] [] [] []) r:=⟨h.1,h.2.1,(kF 10 0 [] u0).1,by have:=h.2.2.2;have:=lV v;rw[UJ];omega⟩
theorem alu {c d:aK}{n:Int}(h:mV c)(h0:0<=n)(h1:n<=c.End - c.At)(e:d.End=c.At+n)(n0:0<=d.Nodes)(n1:d.Nodes<=c.Nodes):CJ n c (EN c d)/\(EN c d).At=c.At+n:=by
 have hh:=h;obtain⟨⟨q1,q2,q3,q4⟩,q5,q6,q7⟩:=h;rw[ar7 hh au au n0 n1];exact⟨⟨⟨⟨by show 0<=d.End;omega,by show d.End<=c.End;omega,q3,q4⟩,q5,⟨n0,by show d.Nodes<=1099511627776;omega⟩,q7⟩,rfl,rfl,rfl,rfl,n1,by show c.At+n<=d.End;omega⟩,e⟩
theorem aGK (l:List Pair):tV (af.mk 12 0 [] [] l [] [])=1+WP l:=by simp[tV,YP,tSs,PZ]
theorem amg {old:af}{x:Pair}(hk:kV old)(hp:oh (old.Pairs++[x]))(h1:jQ x.Key.Kind=true/\kV x.Key)(h2:kV x.Val):kV (af.mk 12 0 [] [] (nY (old.Pairs++[x])) [] [])/\tV (af.mk 12 0 [] [] (nY (old.Pairs++[x])) [] [])<=tV old+1+tV x.Key+tV x.Val:=by
 have t1:=VI hp;rw[ou]at t1;simp only[jF,OL]at t1;have t2:=iy old;have t3:=ve old.Pairs;constructor
 ·have hpp:=((ik old).1 hk).2.2.1;rw[ik];refine⟨⟨u0,fun y hy=>absurd hy (V7)⟩,fun y hy=>absurd hy (V7),fun y hy=> ?_,fun y hy=>absurd hy (V7)⟩;have hy:y∈nY (old.Pairs++[x]):=hy;rcases tY.1 (G6 hp hy)with e | e
  ·exact hpp y e
  ·rw[Aj.1 e];exact⟨h1,h2⟩
 ·rw[aGK,ve];omega
abbrev Em (fu:Nat):=abD ((lW fu).1) (iU fu) ((lW fu).2.1) (jO fu) ((lW fu).2.2.1) (gZ fu) ((lW fu).2.2.2.1) (iT fu) ((lW fu).2.2.2.2.1) (jR fu) ((lW fu).2.2.2.2.2) (kK fu)
theorem Oe (fu:Nat)(ih:Ha fu)(prog:Int)(v:af)(r:ae)(h:iU (fu+1) prog v r):jP (Em fu prog v r) (fun x=>FQ 0 0 v r x/\(x.2.1=0->x.2.2.c.At=x.2.2.c.End)):=
 by
 obtain⟨h1,h2,h3⟩:=h;have hg:=h1.2.1 _ (getD_mem (d:=bU) (l:=r.p.a_) (i:=prog.toNat) au);unfold Em abD;simp only[af.dM];refine bi h2.1 h2.2 (wX (fun x=>x.1.p=r.p/\CJ 0 r.c x.1.c/\kV x.2/\(tV x.2:Int)+0<=tV v+8*(x.1.c.At - r.c.At)) (fun x=>(x.1.c.End - x.1.c.At).toNat) ⟨rfl,aog h1.1,h1.2.2.1,by dsimp only;omega⟩ (Qcy _) fun x hx=> ?_);obtain⟨x1,x2,x3,x4⟩:=hx;have hin:Il x.2 x.1:=axI h1 (PE 0) x1 x2 x3 x4;have xD:=x2.2.2.2.1;refine aC fun v6 hv6=>bV (fun hlt=>ak x2.1 (aC fun v7 hv7=>dw (fun hne=>ah ⟨h_ hne,fun e=>absurd e hne⟩) fun e7=> ?_)) (fun hge=>ah ⟨fun _=>⟨x1,x2,x3,x4⟩,fun _=>at_end x2.1 (hv6▸hge)⟩);rw[hv7]at e7⊢;obtain⟨u1,u2⟩:=zl x2.1 e7;have hn:=al3 x2.1;have hnl:=amB x2.1;have hnu:=ax_ x2.1;generalize tK x.1.c=w7 at*;have uD:=u1.2.2.2.1;have uE:=u1.2.2.1;have uA:=u1.2.2.2.2.2.2;refine dh (fun y=>y=(x.1,x.2)) (bZ <| df (fun _ y=>y=(x.1,x.2)) rfl (by have:=hg.1;omega) (fun i y hi hy=> ?_) fun y hy=>ah hy) fun y hy=> ?_
 ·subst hy;have ho:=hg.2 _ (getD_mem (d:=zT) hi);have hr:Il x.2 (ae.mk x.1.p w7.2.2.1):=⟨u1.1,by show gu x.1.p;rw[x1];exact h1.2.1,x3,by have:=hin.2.2.2;show(tV x.2:Int)+8*(w7.2.2.1.End - w7.2.2.1.At)<=1048576;omega⟩;have hq:jO fu (r.p.a_.getD prog.toNat bU) x.2 ((r.p.a_.getD prog.toNat bU).Ops.getD i zT) w7.2.1 (ae.mk x.1.p w7.2.2.1):=⟨hr,by show Uo x.1.p _;rw[x1];exact ho,by show 5*w7.2.2.1.Depth+4<=(fu:Int);omega⟩;have k:=ih.2.1 _ _ _ _ _ hq;refine bi au au (dw (fun _=>ah rfl) fun _=>ak hq (dw (fun hne=>ah ⟨h_ hne,fun e=>absurd e hne⟩) fun e1=>ah ?_));obtain⟨f1,f2,f3,f4⟩:=k e1;dsimp only;generalize (lW fu).2.1 (r.p.a_.getD prog.toNat bU) x.2 ((r.p.a_.getD prog.toNat bU).Ops.getD i zT) w7.2.1 (ae.mk x.1.p w7.2.2.1)=w at*;have f7:w7.2.2.1.At+0<=w.2.2.c.At:=f2.2.2.2.2.2.2;have fE:w.2.2.c.End=w7.2.2.1.End:=f2.2.2.1;have fL:=f2.1.1.2.1;have f4:(tV w.1:Int)+0<=tV x.2+8*(w.2.2.c.At - w7.2.2.1.At):=f4;have ha:CJ 1 x.1.c w.2.2.c:=kR (kD u1 f2) lY;exact⟨⟨f1.trans x1,kR (kD x2 ha) lY,f3,by show(tV w.1:Int)+0<=tV v+8*(w.2.2.c.At - r.c.At);omega⟩,by show(w.2.2.c.End - w.2.2.c.At).toNat < (x.1.c.End - x.1.c.At).toNat;omega⟩
 ·subst hy;refine ak x2.1 (aC fun v8 Py=>dw (fun hne=>ah ⟨h_ hne,fun e=>absurd e hne⟩) fun e8=>ak (I8 hin).1 (ah ?_));rw[Py]at e8⊢;have n1:=hn e8;have n2:=hnl e8;have n3:=hnu e8;generalize vF x.1.c=w8 at*;have nE:=n1.2.2.1;have nA:=n1.2.2.2.2.2.2;have nL:=n1.1.1.2.1;exact⟨⟨x1,kR (kD x2 n1) lY,ach x3 n3,by show(tV (yD x.2 w8.1):Int)+0<=tV v+8*(w8.2.1.At - r.c.At);rw[aee];omega⟩,by show(w8.2.1.End - w8.2.1.At).toNat < (x.1.c.End - x.1.c.At).toNat;omega⟩
abbrev Jt (fu:Nat):=agT ((lW fu).1) (iU fu) ((lW fu).2.1) (jO fu) ((lW fu).2.2.1) (gZ fu) ((lW fu).2.2.2.1) (iT fu) ((lW fu).2.2.2.2.1) (jR fu) ((lW fu).2.2.2.2.2) (kK fu)
theorem Ub (fu:Nat)(ih:Ha fu)(g:bu)(v:af)(o:Op)(w:Int)(r:ae)(h:jO (fu+1) g v o w r):jP (Jt fu g v o w r) (FQ 0 0 v r):=
 by
 obtain⟨h1,h2,h3⟩:=h;unfold Jt agT;simp only[af.dM];refine dO (fun hc=>dw (fun _=>ah (h_ qcq)) fun _=>ak ⟨h1,h2,hc,by omega⟩ (ah (ih.2.2.2.2.1 _ _ _ _ ⟨h1,h2,hc,by omega⟩))) fun hc=>aC fun v1 hv1=>aC fun v2 hv2=> ?_;refine dO (fun _=>dR (fun _=>ak ⟨h1,h2.2.2⟩ (aC fun v3 hv3=>ah (by rw[hv3];exact(Yh g v o r ⟨h1,h2.2.2⟩).2))) (fun _=> ?_)) (fun _=> ?_);all_goals exact dw (fun _=>ah (h_ qcq)) fun _=>dO (fun hk=>ak ⟨h1,h2.1 hk,by omega⟩ (ah (ih.2.2.2.1 _ _ _ _ ⟨h1,h2.1 hk,by omega⟩))) fun _=>ak ⟨h1,h2.2.2⟩ (ah (by rw[hv1];exact ale (Rj g v o r ⟨h1,h2.2.2⟩).2 lY))
abbrev Fp (fu:Nat):=aa3 ((lW fu).1) (iU fu) ((lW fu).2.1) (jO fu) ((lW fu).2.2.1) (gZ fu) ((lW fu).2.2.2.1) (iT fu) ((lW fu).2.2.2.2.1) (jR fu) ((lW fu).2.2.2.2.2) (kK fu)
theorem Oy (fu:Nat)(ih:Ha fu)(prog:Int)(base:af)(cost:Int)(r:ae)(h:gZ (fu+1) prog base cost r):jP (Fp fu prog base cost r) (FQ 0 8 base r):=
 by
 obtain⟨h1,h2,h3⟩:=h;have hat:=h1.1;unfold Fp aa3;simp only[af.dM];refine ak hat (aC fun v1 hv1=>dw (fun hne=>ah (h_ hne)) fun e1=> ?_);rw[hv1]at e1⊢;obtain⟨l1,l2,l3,l4,l5⟩:=uV hat e1;generalize kw r=w1 at*;have l7:=l1.2.2.2.2.2.2;have le:=l1.2.2.1;have ld:=l1.2.2.2.1;refine aC fun v2 hv2=>dw (fun hne=>ah (h_ hne)) fun e2=> ?_;rw[hv2]at e2⊢;obtain⟨c1,c2,c3,c4⟩:=ahJ l1.1 e2;rw[c1];refine aC fun v3 hv3=>dw (fun hne=>ah (h_ hne)) fun e3=> ?_;rw[hv3]at e3⊢;have hc:mV (aK.mk w1.2.2.c.Data w1.2.2.c.At (w1.2.2.c.At+w1.1) (w1.2.2.c.Depth - 1) w1.2.2.c.Nodes w1.2.2.c.Text):=by
  obtain⟨⟨q1,q2,q3,q4⟩,q5,q6⟩:=l1.1;exact⟨⟨q1,by show w1.2.2.c.At<=w1.2.2.c.At+w1.1;omega,by show w1.2.2.c.At+w1.1<=w1.2.2.c.Data.length;omega,q4⟩,⟨by show 0<=w1.2.2.c.Depth - 1;omega,by show w1.2.2.c.Depth - 1<=1048576;omega⟩,q6⟩
 obtain⟨s1,s2,s3⟩:=wu (r:=ae.mk w1.2.2.p (aK.mk w1.2.2.c.Data w1.2.2.c.At (w1.2.2.c.At+w1.1) (w1.2.2.c.Depth - 1) w1.2.2.c.Nodes w1.2.2.c.Text)) hc e3;dsimp only at s1 s2 s3⊢;generalize mi cost (ae.mk w1.2.2.p (aK.mk w1.2.2.c.Data w1.2.2.c.At (w1.2.2.c.At+w1.1) (w1.2.2.c.Depth - 1) w1.2.2.c.Nodes w1.2.2.c.Text))=w3 at*;have sE:w3.2.c.End=w1.2.2.c.At+w1.1:=s2.2.2.1;have sD:w3.2.c.Depth=w1.2.2.c.Depth - 1:=s2.2.2.2.1;have sN:w3.2.c.Nodes<=w1.2.2.c.Nodes:=s2.2.2.2.2.2.1;have hq:iU fu prog base w3.2:=⟨⟨s2.1,by rw[s1,l3];exact h1.2.1,h1.2.2.1,by have:=h1.2.2.2;omega⟩,by rw[s1,l3];exact h2,by omega⟩;obtain⟨p1,p2⟩:=ih.1 prog base w3.2 hq;refine ak hq (dw (fun hne=>ah (h_ hne)) fun e4=>ah fun _=> ?_);obtain⟨f1,f2,f3,f4⟩:=p1 e4;have f5:=p2 e4;dsimp only;generalize (lW fu).1 prog base w3.2=w4 at*;have fE:=f2.2.2.1;have fN:=f2.2.2.2.2.2.1;have f0:=f2.1.2.2.1.1;obtain⟨g1,g2⟩:=alu (c:=w1.2.2.c) (d:=w4.2.2.c) l1.1 c2 c3 au f0 au;refine⟨f1.trans (s1.trans l3),kR (kD l1 g1) au,f3,?_⟩;show(tV w4.1:Int)+8<=tV base+8*((EN w1.2.2.c w4.2.2.c).At - r.c.At)
 omega
abbrev Ej (fu:Nat):=aal ((lW fu).1) (iU fu) ((lW fu).2.1) (jO fu) ((lW fu).2.2.1) (gZ fu) ((lW fu).2.2.2.1) (iT fu) ((lW fu).2.2.2.2.1) (jR fu) ((lW fu).2.2.2.2.2) (kK fu)
theorem OU (fu:Nat)(ih:Ha fu)(g:bu)(v:af)(o:Op)(r:ae)(h:iT (fu+1) g v o r):jP (Ej fu g v o r) (FQ 0 0 v r):=
 by
 obtain⟨h1,h2,h3⟩:=h;have hl:=I8 h1;have hf:=Vs h1 o.Num;have hm:=ayd h1;have t4:=PP (v:=v) (num:=o.Num);unfold Ej aal;simp only[af.dM];refine aC fun v3 hv3=>dO (fun hc=>dh (fun _=>True) (dR (fun _=>ah trivial) (fun _=>ah trivial)) fun y1 _=> ?_) (fun hc=>dh (fun y=>(v3.2=true/\y=v3.1)\/(v3.2=false/\y=af.mk 10 0 [] [] [] [] [])) (dR (fun e=>ah (.inr ⟨by simpa using e,rfl⟩)) (fun e=>ah (.inl ⟨by simpa using e,rfl⟩))) fun y hy=> ?_)
 ·have hq:gZ fu o.Target (af.mk 10 0 [] [] [] [] []) y1 r:=⟨hm,h2,by omega⟩;have k:=ih.2.2.1 _ _ _ _ hq;refine ak hq (dw (fun hne=>ah (h_ hne)) fun e1=> ?_);obtain⟨f1,f2,f3,f4⟩:=k e1;generalize (lW fu).2.2.1 o.Target (af.mk 10 0 [] [] [] [] []) y1 r=w at*;rw[hv3];refine ak hf.1 (ak hl.2.1 (ah fun _=>⟨f1,f2,Hy hl.2.1 h1.2.2.1 (Lh (Ep h1.2.2.1) f3),?_⟩));show(tV (xn g v o (qM (f_ v o.Num).1 w.1)):Int)+0<=tV v+8*(w.2.2.c.At - r.c.At)
  have t2:=GM (g:=g) (v:=v) (o:=o) (x:=qM (f_ v o.Num).1 w.1) hl.2.1;have t3:=Nl (l:=(f_ v o.Num).1) (x:=w.1);rw[UJ]at f4;cases e6:(f_ v o.Num).2 with
  | true=>rw[e6]at t2;simp only[wB]at t2;omega
  | false=>have:=t4.2 e6;rw[e6]at t2;simp only[nR]at t2;omega
 ·have hin:Il y r:=by
   rcases hy with⟨_,rfl⟩ | ⟨_,rfl⟩
   ·rw[hv3];exact⟨h1.1,h1.2.1,Ep h1.2.2.1,by have:=h1.2.2.2;omega⟩
   ·exact hm
  have hq:gZ fu o.Target y 1 r:=⟨hin,h2,by omega⟩;have k:=ih.2.2.1 _ _ _ _ hq;refine ak hq (dw (fun hne=>ah (h_ hne)) fun e1=> ?_);obtain⟨f1,f2,f3,f4⟩:=k e1;generalize (lW fu).2.2.1 o.Target y 1 r=w at*;refine ak hl.2.1 (ah fun _=>⟨f1,f2,Hy hl.2.1 h1.2.2.1 f3,?_⟩);show(tV (xn g v o w.1):Int)+0<=tV v+8*(w.2.2.c.At - r.c.At)
  have t2:=GM (g:=g) (v:=v) (o:=o) (x:=w.1) hl.2.1;rcases hy with⟨e6,rfl⟩ | ⟨e6,rfl⟩
  ·rw[hv3]at e6 f4;rw[e6]at t2;simp only[wB]at t2;omega
  ·rw[hv3]at e6;rw[UJ]at f4;rw[e6]at t2;simp only[nR]at t2;omega
abbrev IA (fu:Nat):=ag9 ((lW fu).1) (iU fu) ((lW fu).2.1) (jO fu) ((lW fu).2.2.1) (gZ fu) ((lW fu).2.2.2.1) (iT fu) ((lW fu).2.2.2.2.1) (jR fu) ((lW fu).2.2.2.2.2) (kK fu)
theorem Vh (fu:Nat)(ih:Ha fu)(g:bu)(v:af)(o:Op)(r:ae)(h:jR (fu+1) g v o r):jP (IA fu g v o r) (FQ 0 0 v r):=
 by
 obtain⟨h1,h2,h3,h4⟩:=h;have hl:=I8 h1;have hf:=Vs h1 o.Num;have hat:=h1.1;have hb:=h1.2.2.2;have t4:=PP (v:=v) (num:=o.Num);unfold IA ag9;simp only[af.dM];refine ak hat (aC fun v4 hv4=>dw (fun hne=>ah (h_ hne)) fun e4=> ?_);rw[hv4]at e4⊢;obtain⟨l1,l2,l3,l4,l5⟩:=uV hat e4;generalize kw r=w4 at*;have l7:=l1.2.2.2.2.2.2;have le:=l1.2.2.1;have ld:=l1.2.2.2.1;have hc:=ad_ l1.1 l4 l5;rw[aed l1.1 l4 l5];refine aC fun v5 hv5=>dh (fun _=>True) (dR (fun _=>ah trivial) (fun _=>ah trivial)) fun y1 _=>aC fun v6 hv6=>dw (fun hne=>ah (h_ hne)) fun e6=> ?_;rw[hv6]at e6⊢;obtain⟨s1,s2,s3⟩:=wu (r:=ae.mk w4.2.2.p (vN w4.2.2.c w4.1)) hc e6;dsimp only at s1 s2 s3⊢;generalize mi y1 (ae.mk w4.2.2.p (vN w4.2.2.c w4.1))=w6 at*;have eAt:(vN w4.2.2.c w4.1).At=w4.2.2.c.At:=rfl;have auA:(vN w4.2.2.c w4.1).End=w4.2.2.c.At+w4.1:=rfl;have eD:(vN w4.2.2.c w4.1).Depth=w4.2.2.c.Depth:=rfl;rw[eAt]at s3;have sE:=s2.2.2.1;rw[auA]at sE;have h0:=hat.1.1;have k1:=(kF o.Kind 0 [] u0).2;have k2:=(kF o.Key 0 [] u0).2;simp only[A7]at k1 k2;refine wX (fun x=>x.2.2.1.p=r.p/\CJ 0 (vN w4.2.2.c w4.1) x.2.2.1.c/\(jQ x.2.2.2.Key.Kind=true/\kV x.2.2.2.Key)/\kV x.2.2.2.Val/\(tV x.2.2.2.Key:Int)+tV x.2.2.2.Val<=2+8*(x.2.2.1.c.At - w4.2.2.c.At)) (fun x=>(x.2.2.1.c.End - x.2.2.1.c.At).toNat) ⟨s1.trans l3,s2,⟨h2.2.1 h3,(kF o.Key 0 [] u0).1⟩,(kF o.Kind 0 [] u0).1,by show(tV (af.mk o.Key 0 [] [] [] [] []):Int)+tV (af.mk o.Kind 0 [] [] [] [] [])<=2+8*(w6.2.c.At - w4.2.2.c.At);omega⟩ (by show(w6.2.c.End - w6.2.c.At).toNat < (r.c.End - r.c.At).toNat+1;omega) fun x hx=> ?_;obtain⟨x1,x2,x3,x4,x5⟩:=hx;have xE:=x2.2.2.1;have xA:=x2.2.2.2.2.2.2;have xD:=x2.2.2.2.1;rw[auA]at xE;rw[eAt]at xA;rw[eD]at xD;refine aC fun v7 hv7=>bV (fun hlt=>ak x2.1 (aC fun v8 Py=>dh (fun _=>v8.2.2.2=0) ?_ fun y3 hy3=> ?_)) (fun hge=> ?_)
 ·refine dw (fun hne=>ah (h_ hne)) fun e0=> ?_;repeat' first
   | exact ah e0
   | exact ah (h_ (by show ¬(18:Int)=0;decide))
   | exact ah (h_ (by show ¬(9:Int)=0;decide))
   | refine dw (fun _=> ?_) (fun _=> ?_)
   | refine dO (fun _=> ?_) (fun _=> ?_)
   | refine dR (fun _=> ?_) (fun _=> ?_)
 ·rw[Py]at hy3⊢;obtain⟨u1,u2⟩:=zl x2.1 hy3;generalize tK x.2.2.1.c=w8 at*;have uD:=u1.2.2.2.1;have uE:=u1.2.2.1;have uA:=u1.2.2.2.2.2.2;have hr:Il (af.mk 10 0 [] [] [] [] []) (ae.mk x.2.2.1.p w8.2.2.1):=⟨u1.1,by show gu x.2.2.1.p;rw[x1];exact h1.2.1,(kF 10 0 [] u0).1,by rw[UJ];show((1:Nat):Int)+8*(w8.2.2.1.End - w8.2.2.1.At)<=1048576;have:=lV v;omega⟩;have fin:∀(w:af×Int×ae) (kk vv:af),w.2.2.p=x.2.2.1.p->CJ 0 w8.2.2.1 w.2.2.c->(jQ kk.Kind=true/\kV kk)->kV vv->(tV kk:Int)+tV vv<=2+8*(w.2.2.c.At - w4.2.2.c.At)->(fun x=>x.2.2.1.p=r.p/\CJ 0 (vN w4.2.2.c w4.1) x.2.2.1.c/\(jQ x.2.2.2.Key.Kind=true/\kV x.2.2.2.Key)/\kV x.2.2.2.Val/\(tV x.2.2.2.Key:Int)+tV x.2.2.2.Val<=2+8*(x.2.2.1.c.At - w4.2.2.c.At)) ((true,true,w.2.2,Pair.mk kk vv):Bool×Bool×ae×Pair)/\(w.2.2.c.End - w.2.2.c.At).toNat < (x.2.2.1.c.End - x.2.2.1.c.At).toNat:=fun w kk vv a1 a2 a3 a4 a5=>by
   have ha:CJ 1 x.2.2.1.c w.2.2.c:=kR (kD u1 a2) lY;have aE:=ha.2.2.1;have aA:=ha.2.2.2.2.2.2;have aL:=ha.1.1.2.1;exact⟨⟨a1.trans x1,kR (kD x2 ha) lY,a3,a4,a5⟩,by omega⟩
  refine dO (fun hk=> ?_) (fun hk=> ?_)
  ·have hq:kK fu (Op.mk 0 [] [] 0 0 o.Key (-1) 0) w8.2.1 (ae.mk x.2.2.1.p w8.2.2.1):=⟨hr,fun hk10=>(by
    have h10:o.Key=10:=hk10;have:=h2.2.1 h3;rw[h10]at this;exact absurd this lY),by show 5*w8.2.2.1.Depth+2<=(fu:Int);omega⟩
   have k:=ih.2.2.2.2.2 _ _ _ hq;refine ak hq (dw (fun hne=>ah (h_ hne)) fun e1=>ah ?_);obtain⟨f1,f2,f3,f4,f5⟩:=k e1;generalize (lW fu).2.2.2.2.2 (Op.mk 0 [] [] 0 0 o.Key (-1) 0) w8.2.1 (ae.mk x.2.2.1.p w8.2.2.1)=w at*;have f4:(tV w.1:Int)<=8*(w.2.2.c.At - w8.2.2.1.At):=f4;have f7:w8.2.2.1.At+0<=w.2.2.c.At:=f2.2.2.2.2.2.2;refine fin w w.1 x.2.2.2.Val f1 f2 ⟨f5 fun h10=> ?_,f3⟩ x4 (by have:=lV x.2.2.2.Key;omega);have h10:o.Key=10:=h10;have:=h2.2.1 h3;rw[h10]at this;exact absurd this lY
  ·have hq:kK fu o w8.2.1 (ae.mk x.2.2.1.p w8.2.2.1):=⟨hr,fun hk10=>by show 0<=o.Target/\o.Target < x.2.2.1.p.a_.length;rw[x1];exact h2.1 hk10,by show 5*w8.2.2.1.Depth+2<=(fu:Int);omega⟩;have k:=ih.2.2.2.2.2 _ _ _ hq;refine ak hq (dw (fun hne=>ah (h_ hne)) fun e1=>ah ?_);obtain⟨f1,f2,f3,f4,f5⟩:=k e1;generalize (lW fu).2.2.2.2.2 o w8.2.1 (ae.mk x.2.2.1.p w8.2.2.1)=w at*;have f4:(tV w.1:Int)<=8*(w.2.2.c.At - w8.2.2.1.At):=f4;have f7:w8.2.2.1.At+0<=w.2.2.c.At:=f2.2.2.2.2.2.2;exact fin w x.2.2.2.Key w.1 f1 f2 x3 f3 (by have:=lV x.2.2.2.Val;omega)
 ·rw[hv7]at hge;have hend:=at_end x2.1 hge;have hbe:=Tf l1.1 l4 l5 x2;have hpl:=EO (f_ v o.Num).1.Pairs;have ht:=iy (f_ v o.Num).1;have hpq:oh ((f_ v o.Num).1.Pairs++[x.2.2.2]):=⟨by simp only[pz,xH,A7];omega,fun y hy=>(tY.1 hy).elim (hf.2.2 y) fun e=>by rw[Aj.1 e];exact x3.1⟩;obtain⟨q1,q2⟩:=amg (Ep h1.2.2.1) hpq x3 x4;have ep:Pair.mk x.2.2.2.Key x.2.2.2.Val=x.2.2.2:=Pair.eta _;rw[hv5,ep];refine bZ <| ak oJ (aC fun v9 hv9=> ?_)
  rw[hv9,DT];refine ak ?_ (aC fun v10 Ij=> ?_)
  ·first
    | exact⟨by decide,b_ au au⟩
    | exact⟨trivial,b_ au au⟩
    | exact b_ au au
  rw[Ij];refine ak hpq (ak hl.2.1 (ah fun _=>⟨x1,kR (kD l1 hbe) au,Hy hl.2.1 h1.2.2.1 q1,?_⟩));show(tV (xn g v o (af.mk 12 0 [] [] (nY ((f_ v o.Num).1.Pairs++[x.2.2.2])) [] [])):Int)+0<=tV v+8*(x.2.2.1.c.End - r.c.At)
  have t2:=GM (g:=g) (v:=v) (o:=o) (x:=af.mk 12 0 [] [] (nY ((f_ v o.Num).1.Pairs++[x.2.2.2])) [] []) hl.2.1;cases e6:(f_ v o.Num).2 with
  | true=>rw[e6]at t2;simp only[wB]at t2;omega
  | false=>have:=t4.2 e6;rw[e6]at t2;simp only[nR]at t2;omega
abbrev P5 (fu:Nat):=anO ((lW fu).1) (iU fu) ((lW fu).2.1) (jO fu) ((lW fu).2.2.1) (gZ fu) ((lW fu).2.2.2.1) (iT fu) ((lW fu).2.2.2.2.1) (jR fu) ((lW fu).2.2.2.2.2) (kK fu)
theorem Yj (fu:Nat)(ih:Ha fu)(o:Op)(w:Int)(r:ae)(h:kK (fu+1) o w r):jP (P5 fu o w r) (fun x=>x.2.1=0->x.2.2.p=r.p/\CJ 0 r.c x.2.2.c/\kV x.1/\(tV x.1:Int)<=8*(x.2.2.c.At - r.c.At)/\(¬o.Kind=10->jQ x.1.Kind=true)):=
 by
 obtain⟨h1,h2,h3⟩:=h;unfold P5 anO;simp only[af.dM];refine dw (fun _=>ah (fun e=>absurd e qcq)) fun _=>dO (fun hk=> ?_) (fun hk=>ak h1.1 (aC fun v1 hv1=>dw (fun hne=>ah (fun e=>absurd e hne)) fun e1=> ?_))
 ·have hq:gZ fu o.Target (af.mk 10 0 [] [] [] [] []) 0 r:=⟨h1,h2 hk,by omega⟩;refine ak hq (ah fun e=> ?_);obtain⟨f1,f2,f3,f4⟩:=ih.2.2.1 _ _ _ _ hq e;rw[UJ]at f4;exact⟨f1,f2,f3,by dsimp only;omega,fun hn=>absurd hk hn⟩
 ·rw[hv1]at e1⊢;obtain⟨c1,c2,c3,c4,_⟩:=FZ h1.1 e1;have cu:=OB (wire:=w) h1.1;generalize iE w r=w1 at*;refine ak c4 (aC fun v2 hv2=>ah fun e=> ?_);rw[hv2]at e⊢;obtain⟨k1,k2,k3,k4⟩:=Ut cu e;exact⟨c2,kR c1 lY,k2,by dsimp only;omega,fun _=>by dsimp only;rw[k3];exact k4⟩
theorem qm:∀fu,Ha fu
 | 0=>⟨fun prog v r h=>False.elim qbv,
  fun g v o w r h=>False.elim qbv,
  fun prog base cost r h=>False.elim qbv,
  fun g v o r h=>False.elim qbv,
  fun g v o r h=>False.elim (by have k:=h.1.1.2.1.1;have e:=h.2.2.2;omega),
  fun o w r h=>False.elim qbv⟩
 | fu+1=>⟨fun prog v r h=>(Oe fu (qm fu) prog v r h).2,
  fun g v o w r h=>(Ub fu (qm fu) g v o w r h).2,
  fun prog base cost r h=>(Oy fu (qm fu) prog base cost r h).2,
  fun g v o r h=>(OU fu (qm fu) g v o r h).2,
  fun g v o r h=>(Vh fu (qm fu) g v o r h).2,
  fun o w r h=>(Yj fu (qm fu) o w r h).2⟩
theorem ag8 (fu:Nat)(prog:Int)(v:af)(r:ae)(h:iU (fu+1) prog v r):Is (Em fu prog v r):=(Oe fu (qm fu) prog v r h).1
theorem alZ (fu:Nat)(g:bu)(v:af)(o:Op)(w:Int)(r:ae)(h:jO (fu+1) g v o w r):Is (Jt fu g v o w r):=(Ub fu (qm fu) g v o w r h).1
theorem afm (fu:Nat)(prog:Int)(base:af)(cost:Int)(r:ae)(h:gZ (fu+1) prog base cost r):Is (Fp fu prog base cost r):=(Oy fu (qm fu) prog base cost r h).1
theorem agH (fu:Nat)(g:bu)(v:af)(o:Op)(r:ae)(h:iT (fu+1) g v o r):Is (Ej fu g v o r):=(OU fu (qm fu) g v o r h).1
theorem alV (fu:Nat)(g:bu)(v:af)(o:Op)(r:ae)(h:jR (fu+1) g v o r):Is (IA fu g v o r):=(Vh fu (qm fu) g v o r h).1
theorem atQ (fu:Nat)(o:Op)(w:Int)(r:ae)(h:kK (fu+1) o w r):Is (P5 fu o w r):=(Yj fu (qm fu) o w r h).1
theorem WH (prog:Int)(v:af)(r:ae)(h:Il v r/\(0<=prog/\prog < r.p.a_.length)):(fun x=>FQ 0 0 v r x/\(x.2.1=0->x.2.2.c.At=x.2.2.c.End)) (Ud prog v r):=(qm ((5*r.c.Depth+5).toNat)).1 prog v r (⟨h.1,h.2,by have k:=h.1.1.2.1.1;omega⟩)
theorem ay7:∀fu,fV Z.P Z.S 132 (oL (kz (aj (iM 0) (aj (bn cI) (a1 (aF aI)))) (b1 (aP aY))) (shr [.slot 0 true (nn 7), s0 1, .cells 0 (nn 8)] (az aI (az cI (l1 aY)))) 2 [] (fun a=>some (iU fu (a.1.2.1) (a.1.2.2) (a.2))) (fun a=>(lW fu).1 (a.1.2.1) (a.1.2.2) (a.2)))/\fV Z.P Z.S 197 (oL (kz (aj (iM 0) (aj (aF iF) (aj (aF aI) (aj (aF je) (a1 (bn cI)))))) (b1 (aP aY))) (shr [.slot 0 true (nn 7), s0 1, .cells 0 (nn 8)] (az aI (az cI (l1 aY)))) 2 [] (fun a=>some (jO fu (a.1.2.1) (a.1.2.2.1) (a.1.2.2.2.1) (a.1.2.2.2.2) (a.2))) (fun a=>(lW fu).2.1 (a.1.2.1) (a.1.2.2.1) (a.1.2.2.2.1) (a.1.2.2.2.2) (a.2)))/\fV Z.P Z.S 367 (oL (kz (aj (iM 0) (aj (bn cI) (aj (aF aI) (a1 (bn cI))))) (b1 (aP aY))) (shr [.slot 0 true (nn 7), s0 1, .cells 0 (nn 8)] (az aI (az cI (l1 aY)))) 2 [] (fun a=>some (gZ fu (a.1.2.1) (a.1.2.2.1) (a.1.2.2.2) (a.2))) (fun a=>(lW fu).2.2.1 (a.1.2.1) (a.1.2.2.1) (a.1.2.2.2) (a.2)))/\fV Z.P Z.S 270 (oL (kz (aj (iM 0) (aj (aF iF) (aj (aF aI) (a1 (aF je))))) (b1 (aP aY))) (shr [.slot 0 true (nn 7), s0 1, .cells 0 (nn 8)] (az aI (az cI (l1 aY)))) 2 [] (fun a=>some (iT fu (a.1.2.1) (a.1.2.2.1) (a.1.2.2.2) (a.2))) (fun a=>(lW fu).2.2.2.1 (a.1.2.1) (a.1.2.2.1) (a.1.2.2.2) (a.2)))/\fV Z.P Z.S 266 (oL (kz (aj (iM 0) (aj (aF iF) (aj (aF aI) (a1 (aF je))))) (b1 (aP aY))) (shr [.slot 0 true (nn 7), s0 1, .cells 0 (nn 8)] (az aI (az cI (l1 aY)))) 2 [] (fun a=>some (jR fu (a.1.2.1) (a.1.2.2.1) (a.1.2.2.2) (a.2))) (fun a=>(lW fu).2.2.2.2.1 (a.1.2.1) (a.1.2.2.1) (a.1.2.2.2) (a.2)))/\fV Z.P Z.S 362 (oL (kz (aj (iM 0) (aj (aF je) (a1 (bn cI)))) (b1 (aP aY))) (shr [.slot 0 true (nn 7), s0 1, .cells 0 (nn 8)] (az aI (az cI (l1 aY)))) 2 [] (fun a=>some (kK fu (a.1.2.1) (a.1.2.2) (a.2))) (fun a=>(lW fu).2.2.2.2.2 (a.1.2.1) (a.1.2.2) (a.2)))
 | 0=>⟨iG func132 dS (fun a h=>by have k:=h.1.1.2.1.1;have e:=h.2.2;omega),
  iG func197 dS (fun a h=>by have k:=h.1.1.2.1.1;have e:=h.2.2;omega),
  iG func367 dS (fun a h=>by have k:=h.1.1.2.1.1;have e:=h.2.2;omega),
  iG func270 dS (fun a h=>by have k:=h.1.1.2.1.1;have e:=h.2.2;omega),
  iG func266 dS (fun a h=>by have k:=h.1.1.2.1.1;have e:=h.2.2.2;omega),
  iG func362 dS (fun a h=>by have k:=h.1.1.2.1.1;have e:=h.2.2;omega)⟩
 | fu+1=>by
  obtain⟨h0,h1,h2,h3,h4,h5⟩:=ay7 fu;exact⟨Eo [yG,ahK,axo,ac8,⟨132,_,h0⟩,⟨197,_,h1⟩,⟨367,_,h2⟩,⟨270,_,h3⟩,⟨266,_,h4⟩,⟨362,_,h5⟩] [jS 2 (bP (fun sl=>[.cells (pid (sl 0)) (nn 8), .cells (pid (sl 5)) (nn 7)]) (az aY (l1 aI))),jS 8 (bP (fun sl=>[s0 49, .cells (pid (sl 0)) (nn 8), .cells (pid (sl 5)) (nn 7)]) (az cI (az aY (l1 aI)))),jS 100016 (bP (fun sl=>[.cells (pid (sl 0)) (nn 8), .cells (pid (sl 5)) (nn 7)]) (az aY (l1 aI)))] func132 ntmps132 (fun a=>Em fu a.1.2.1 a.1.2.2 a.2) (fun a h=>⟨ag8 fu a.1.2.1 a.1.2.2 a.2 h,rfl⟩) (oq (n:=93) rfl),
   Eo [wC,avY,KI,atj,⟨132,_,h0⟩,⟨197,_,h1⟩,⟨367,_,h2⟩,⟨270,_,h3⟩,⟨266,_,h4⟩,⟨362,_,h5⟩] [] func197 ntmps197 (fun a=>Jt fu a.1.2.1 a.1.2.2.1 a.1.2.2.2.1 a.1.2.2.2.2 a.2) (fun a h=>⟨alZ fu a.1.2.1 a.1.2.2.1 a.1.2.2.2.1 a.1.2.2.2.2 a.2 h,rfl⟩) (oq (n:=64) rfl),
   Eo [Dx,Et,aoU,aox,⟨132,_,h0⟩,⟨197,_,h1⟩,⟨367,_,h2⟩,⟨270,_,h3⟩,⟨266,_,h4⟩,⟨362,_,h5⟩] [] func367 ntmps367 (fun a=>Fp fu a.1.2.1 a.1.2.2.1 a.1.2.2.2 a.2) (fun a h=>⟨afm fu a.1.2.1 a.1.2.2.1 a.1.2.2.2 a.2 h,rfl⟩) (oq (n:=68) rfl),
   Eo [Jy,abS,X4,⟨132,_,h0⟩,⟨197,_,h1⟩,⟨367,_,h2⟩,⟨270,_,h3⟩,⟨266,_,h4⟩,⟨362,_,h5⟩] [jS 100007 (bP (fun sl=>[s0 13]) (l1 cI)),jS 100013 (bP (fun sl=>[.cells (pid (sl 10)) (nn 7)]) (l1 aI))] func270 ntmps270 (fun a=>Ej fu a.1.2.1 a.1.2.2.1 a.1.2.2.2 a.2) (fun a h=>⟨agH fu a.1.2.1 a.1.2.2.1 a.1.2.2.2 a.2 h,rfl⟩) (oq (n:=71) rfl),
   Eo [Dx,Jy,yG,ahK,Uh,Et,akq,Yz,abS,⟨132,_,h0⟩,⟨197,_,h1⟩,⟨367,_,h2⟩,⟨270,_,h3⟩,⟨266,_,h4⟩,⟨362,_,h5⟩] [jS 14 (bP (fun sl=>[s0 18, s0 19, .cells (pid (sl 0)) (nn 8), .cells (pid (sl 17)) (nn 14)]) (az aG (az aG (az aY (l1 uI))))),jS 100009 (bP (fun sl=>[s0 15]) (l1 cI)),jS 100022 (bP (fun sl=>[]) l0)] func266 ntmps266 (fun a=>IA fu a.1.2.1 a.1.2.2.1 a.1.2.2.2 a.2) (fun a h=>⟨alV fu a.1.2.1 a.1.2.2.1 a.1.2.2.2 a.2 h,rfl⟩) (oq (n:=153) rfl),
   Eo [KI,NG,YY,⟨132,_,h0⟩,⟨197,_,h1⟩,⟨367,_,h2⟩,⟨270,_,h3⟩,⟨266,_,h4⟩,⟨362,_,h5⟩] [] func362 ntmps362 (fun a=>P5 fu a.1.2.1 a.1.2.2 a.2) (fun a h=>⟨atQ fu a.1.2.1 a.1.2.2 a.2 h,rfl⟩) (oq (n:=44) rfl)⟩
def alQ:aU Z:=⟨132,oL (kz (aj (iM 0) (aj (bn cI) (a1 (aF aI)))) (b1 (aP aY))) (shr [.slot 0 true (nn 7), s0 1, .cells 0 (nn 8)] (az aI (az cI (l1 aY)))) 2 [] (fun a=>some (Il (a.1.2.2) (a.2)/\(0<=(a.1.2.1)/\(a.1.2.1) < (a.2).p.a_.length))) (fun a=>Ud (a.1.2.1) (a.1.2.2) (a.2)),jT (fun n=>((ay7 n).1)) _ _ (fun a h=>⟨(5*(a.2).c.Depth+5).toNat,⟨h.1,h.2,by have k:=h.1.1.2.1.1;omega⟩,rfl⟩)⟩
def ars (data:Str)(l:qA):Pg (aK×Int):=.br (decide (l.Bytes < 0)) (.ret (aK.mk [] 0 0 0 0 0,1)) (.br (decide (l.Depth < 0)) (.ret (aK.mk [] 0 0 0 0 0,1)) (.br (decide (l.Nodes < 0)) (.ret (aK.mk [] 0 0 0 0 0,1)) (.br (decide (l.Text < 0)) (.ret (aK.mk [] 0 0 0 0 0,1)) (.as (List.length data<=9223372036854775807) (.br (decide (l.Bytes < (↑(List.length data):Int))) (.ret (aK.mk [] 0 0 0 0 0,3)) (.as (List.length data<=9223372036854775807) (.ret (aK.mk data 0 (↑(List.length data):Int) l.Depth l.Nodes l.Text,0))))))))
def H9 (data:Str)(l:qA):=(ars data l).val
def axa:aU Z:=E0 [] [] (aj (bn cStr) (a1 (aF zG))) (shr [.slot 0 true (nn 6), s0 1] (az dN (l1 cI))) [] func130 2 (u2 ars)
def ao_:Pg qA:=.ret (qA.mk 65536 16 4096 4096)
def uB:qA:=(ao_).val
def D7:aU Z:=E0 [] [] a0 (shr [.slot 0 true (nn 4)] (l1 zG)) [] func41 1 fun a=>ao_
def okL (l:qA):Prop:=l.Bytes<=65536/\l.Depth<=1048576/\l.Nodes<=1099511627776/\l.Text<=1099511627776
theorem JL:okL uB:=by
 show okL (qA.mk 65536 16 4096 4096)
 exact⟨by decide,by decide,by decide,by decide⟩
theorem aqz {data:Str}{l:qA}(hl:okL l)(h0:(H9 data l).2=0):mV (H9 data l).1/\(H9 data l).1.At=0/\(H9 data l).1.End=data.length/\data.length<=65536:=by
 obtain⟨l1,l2,l3,l4⟩:=hl;unfold H9 ars at h0⊢;simp only[kN,bH,aV]at h0⊢;by_cases h1:l.Bytes < 0
 ·rw[qW h1]at h0;cases h0
 rw[qo h1]at h0⊢;by_cases h2:l.Depth < 0
 ·rw[qW h2]at h0;cases h0
 rw[qo h2]at h0⊢;by_cases h3:l.Nodes < 0
 ·rw[qW h3]at h0;cases h0
 rw[qo h3]at h0⊢;by_cases h4:l.Text < 0
 ·rw[qW h4]at h0;cases h0
 rw[qo h4]at h0⊢;by_cases h5:l.Bytes < (data.length:Int)
 ·rw[qW h5]at h0;cases h0
 rw[qo h5];exact⟨⟨⟨by show(0:Int)<=0;omega,by show(0:Int)<=data.length;omega,by show(data.length:Int)<=data.length;omega,by show data.length<=1048576;omega⟩,⟨by show 0<=l.Depth;omega,l2⟩,⟨by show 0<=l.Nodes;omega,l3⟩,by show 0<=l.Text;omega,l4⟩,rfl,rfl,by omega⟩
theorem VA {p:dC}{name:Str}(h:(zf p name).2=true):0<=(zf p name).1/\(zf p name).1 < p.a_.length:=by
 have hl:=(lF (fun(x:bu)=>Z8 x name) p.a_).1;unfold zf asO at h⊢;simp only[dE,aV]at h⊢;have h:=Cj h;omega
def akG (p:dC)(name:Str)(base:af)(data:Str)(l:qA):Pg (af×Int):=.lt (zf p name) fun(v1:Int×Bool)=> .br (!v1.2) (.ret (af.mk 0 0 [] [] [] [] [],10)) (.br (base.Kind !=10) (.ret (af.mk 0 0 [] [] [] [] [],12)) (.lt (H9 data l) fun(v2:aK×Int)=> .br (v2.2 !=0) (.ret (af.mk 0 0 [] [] [] [] [],v2.2)) (.br (decide (v2.1.Depth < 1)) (.ret (af.mk 0 0 [] [] [] [] [],17)) (.lt (mi 1 (ae.mk p (aK.mk v2.1.Data v2.1.At v2.1.End (dD .i64 (v2.1.Depth - 1)) v2.1.Nodes v2.1.Text))) fun(v3:Int×ae)=> .br (v3.1 !=0) (.ret (af.mk 0 0 [] [] [] [] [],v3.1)) (.ob (Il base.re v3.2/\0<=v1.1/\v1.1 < (↑v3.2.p.a_.length:Int)) (.lt (Ud v1.1 base.re v3.2) fun(v4:af×Int×ae)=> .br (v4.2.1 !=0) (.ret (af.mk 0 0 [] [] [] [] [],v4.2.1)) (.ob (gV v4.1.re) (.ret ((Vy p v1.1 v4.1.re).re,0)))))))))
def aDk (p:dC)(name:Str)(base:af)(data:Str)(l:qA):=(akG p name base data l).val
theorem Xg (p:dC)(name:Str)(base:af)(data:Str)(l:qA)(h:gu p/\okL l/\kV base/\tV base<=1024):jP (akG p name base data l) (fun x=>x.2=0->kV x.1/\tV x.1<=tV base+8*data.length/\(zf p name).2=true/\data.length<=65536):=
 by
 obtain⟨hp,hl,hb1,hb2⟩:=h;unfold akG;simp only[af.dM];have er:∀{e:Int} (he:¬e=0),(fun x:af×Int=>x.2=0->kV x.1/\tV x.1<=tV base+8*data.length/\(zf p name).2=true/\data.length<=65536) (af.mk 0 0 [] [] [] [] [],e):=fun he h0=>absurd h0 he
 refine aC fun v1 hv1=>dR (fun _=>ah (er lY)) fun h1=>dw (fun _=>ah (er lY)) fun h2=>aC fun v2 hv2=>dw (fun hne=>ah (er hne)) fun h3=>bV (fun _=>ah (er lY)) fun h4=>aC fun v3 hv3=>dw (fun hne=>ah (er hne)) fun h5=> ?_;have hf:v1.2=true:=by simpa using h1
 have hk:=VA (p:=p) (name:=name) (by rw[<-hv1];exact hf);rw[<-hv1]at hk;rw[hv2]at h3 h4;obtain⟨c1,c2,c3,c4⟩:=aqz hl h3;rw[hv3,hv2]at h5;rw[hv2]at hv3;generalize H9 data l=w2 at*;have hc:mV (aK.mk w2.1.Data w2.1.At w2.1.End (dD .i64 (w2.1.Depth - 1)) w2.1.Nodes w2.1.Text):=by
  obtain⟨q1,⟨q2,q3⟩,q4⟩:=c1;rw[fO (k:= .i64) zO];exact⟨q1,⟨by show 0<=w2.1.Depth - 1;omega,by show w2.1.Depth - 1<=1048576;omega⟩,q4⟩
 obtain⟨s1,s2,s3⟩:=wu (r:=ae.mk p (aK.mk w2.1.Data w2.1.At w2.1.End (dD .i64 (w2.1.Depth - 1)) w2.1.Nodes w2.1.Text)) hc h5;rw[<-hv3]at s1 s2 s3;have sE:v3.2.c.End=w2.1.End:=s2.2.2.1;have s3:v3.2.c.At=w2.1.At:=s3;have s1:v3.2.p=p:=s1;have hq:Il base v3.2/\0<=v1.1/\v1.1 < (v3.2.p.a_.length:Int):=⟨⟨s2.1,by rw[s1];exact hp,hb1,by omega⟩,by rw[s1];exact hk⟩;refine ak hq (aC fun v4 hv4=>dw (fun hne=>ah (er hne)) fun h6=> ?_);obtain⟨p1,p2⟩:=WH v1.1 base v3.2 hq;rw[<-hv4]at p1 p2;obtain⟨f1,f2,f3,f4⟩:=p1 h6;have fE:=f2.2.2.1;have fL:=f2.1.1.2.1;have hg:gV v4.1:=⟨f3,by omega⟩;obtain⟨n1,n2⟩:=OG p v1.1 v4.1 hg;exact ak hg (ah fun _=>⟨n1,by show tV (Vy p v1.1 v4.1)<=tV base+8*data.length;omega,by rw[<-hv1];exact hf,c4⟩)
def au2:aU Z:=E1 [aaT,axa,Dx,alQ,akH] [] (aj (aF dX) (aj (bn cStr) (aj (aF aI) (aj (bn cStr) (a1 (aF zG)))))) (shr [.slot 0 true (nn 7), s0 1] (az aI (l1 cI))) [] func84 2 (fun a=>akG a.1 a.2.1 a.2.2.1 a.2.2.2.1 a.2.2.2.2) (fun a=>gu a.1/\okL a.2.2.2.2/\kV a.2.2.1/\tV a.2.2.1<=1024) fun a h=>(Xg a.1 a.2.1 a.2.2.1 a.2.2.2.1 a.2.2.2.2 h).1
def LW (aia:dC->Int->af->Bool)(ut:dC->Int->af->Prop)(p:dC)(prog:Int)(v:af):Pg Bool:=.ix prog p.a_.length (.as ((p.a_.getD prog.toNat bU).Ops.length<=9223372036854775807) (.each false tX (p.a_.getD prog.toNat bU).Ops zT (fun i1 a6 (y2:Unit)=> .ix i1 (p.a_.getD prog.toNat bU).Ops.length (.lt (f_ v.re a6.Num) fun(v7:af×Bool)=> .br (!v7.2) (.br (a6.Card==1) (.ret (.inr false)) (rl ())) (.br (a6.Kind !=10) (rl ()) (.ob ((match v7.1 with | af.mk Kind_ aug aup aul a ahW aHa=>a).length<= 1048576) (.lt (avE v7.1.re) fun(v8:List af)=> aL v8 (.each false tX v8 fM (fun i3 a5 (y4:Unit)=> .ix i3 v8.length (.ob (ut p a6.Target a5.re) (.br (!aia p a6.Target a5.re) (.ret (.inr (.inr false))) (rl ())))) (fun i3 (y4:Unit)=> rl ()) ())))))) (fun i1 (y2:Unit)=> .ret true) ()))
def ut (fu:Nat)(p:dC)(prog:Int)(v:af):Prop:=gu p/\(0<=prog/\prog < p.a_.length)/\gV v/\tV v<=fu
def tcV:Nat->(dC->Int->af->Bool)
 | 0=>(fun _ _ _=>default)
 | fu+1=>(fun p prog v=>(LW ((tcV fu)) (ut fu) p prog v).val)
def Q_ (p:dC)(prog:Int)(v:af):Bool:=(tcV (tV v)) p prog v
abbrev DY (fu:Nat):=LW ((tcV fu)) (ut fu)
theorem ZR (fu:Nat)(p:dC)(prog:Int)(v:af)(h:ut (fu+1) p prog v):Is (DY fu p prog v):=
 by
 obtain⟨h1,h2,h3,h4⟩:=h;have hg:=h1 _ (getD_mem (d:=bU) (l:=p.a_) (i:=prog.toNat) au);have hpl:(f_ v 0).1.Pairs.length=(f_ v 0).1.Pairs.length:=rfl;unfold DY LW;simp only[af.dM];refine dm au au (iH fun _=>gU (.inr au) (fun i1 y2 hi1 _=>dm au au (dB fun v7 hv7=>di (fun _=>lh iR iR) (fun hf=>jG iR (fun hk=> ?_)))) (fun y2 _=>aT));have e2:v7.2=true:=by simpa using hf
 have ho:=hg.2 _ (getD_mem (d:=zT) hi1);have hx:gV v7.1/\tV v7.1 < tV v:=by
  rcases JV v ((p.a_.getD prog.toNat bU).Ops.getD i1 zT).Num with⟨k1,s,k2,k3,k4⟩ | ⟨k1,_⟩
  ·rw[<-hv7]at k4;rw[<-k4];exact J4 h3 k2
  ·rw[<-hv7]at k1;rw[k1]at e2;cases e2
 have hl:=(oV hx.1).2.2.2.1;refine aX hl (dB fun v8 Py=>iH fun _=>gU (.inr au) (fun i3 y4 hi3 _=>dm au au (aX ?_ (di iR iR))) (fun y4 _=>aT));have hm:=(UH v7.1 hl).2 _ (by have:=getD_mem (d:=fM) hi3;rw[Py]at this;exact this);have hy:gV (v8.getD i3 fM)/\tV (v8.getD i3 fM) < tV v:=by
  rw[Py];rcases hm with hm | ⟨q,hq,hm⟩ | hm
  ·obtain⟨g1,g2⟩:=Bz hx.1 hm;exact⟨g1,by omega⟩
  ·obtain⟨g1,g2,_⟩:=yc hx.1 hq;rw[hm];exact⟨g1,by omega⟩
  ·rw[hm];exact hx
 exact⟨h1,ho.1 hk,hy.1,by omega⟩
theorem azc:∀fu,fV Z.P Z.S 86 (oL (args (aj (aF dX) (aj (bn cI) (a1 (aF aI))))) (R1 aG) 1 [] (fun a=>some (ut fu (a.1) (a.2.1) (a.2.2))) (fun a=>(tcV fu) (a.1) (a.2.1) (a.2.2)))
 | 0=>iG func86 dS (fun a h=>by have k:=h.2.2.2;have:=lV (a.2.2);omega)
 | fu+1=>by
  have h0:=azc fu;exact Eo [Jy,atA,⟨86,_,h0⟩] [jS 2 (bP (fun sl=>[s0 20]) (l1 cI)),jS 10 (bP (fun sl=>[s0 42]) (l1 cI))] func86 ntmps86 (fun a=>DY fu a.1 a.2.1 a.2.2) (fun a h=>⟨ZR fu a.1 a.2.1 a.2.2 h,rfl⟩) (kL (n:=54) rfl)
def aeP:aU Z:=⟨86,oL (args (aj (aF dX) (aj (bn cI) (a1 (aF aI))))) (R1 aG) 1 [] (fun a=>some (gu (a.1)/\(0<=(a.2.1)/\(a.2.1) < (a.1).a_.length)/\gV (a.2.2))) (fun a=>Q_ (a.1) (a.2.1) (a.2.2)),jT (fun n=>((azc n))) _ _ (fun a h=>⟨tV (a.2.2),⟨h.1,h.2.1,h.2.2,lU _⟩,rfl⟩)⟩
def P6 (p:dC)(name:Str)(data:Str)(l:qA):Pg (af×Int):=.ob (gu p/\okL l/\kV (af.mk 10 0 [] [] [] [] [])/\tV (af.mk 10 0 [] [] [] [] [])<=1024) (.lt (aDk p name (af.mk 10 0 [] [] [] [] []) data l) fun(v1:af×Int)=> .br (v1.2 !=0) (.ret (af.mk 0 0 [] [] [] [] [],v1.2)) (.lt (zf p name) fun(v2:Int×Bool)=> .ob (gu p/\(0<=v2.1/\v2.1 < (↑p.a_.length:Int))/\gV v1.1.re) (.br (!Q_ p v2.1 v1.1.re) (.ret (af.mk 0 0 [] [] [] [] [],14)) (.ret (v1.1.re,0)))))
def DI (p:dC)(name:Str)(data:Str)(l:qA):=(P6 p name data l).val
theorem Df (p:dC)(name:Str)(data:Str)(l:qA)(h:gu p/\okL l):jP (P6 p name data l) (fun x=>x.2=0->kV x.1/\tV x.1<=1+8*data.length):=
 by
 obtain⟨hp,hl⟩:=h;have h0:gu p/\okL l/\kV (af.mk 10 0 [] [] [] [] [])/\tV (af.mk 10 0 [] [] [] [] [])<=1024:=⟨hp,hl,(kF 10 0 [] u0).1,by rw[UJ];decide⟩;unfold P6;simp only[af.dM];refine ak h0 (aC fun v1 hv1=>dw (fun hne=>ah fun e=>absurd e hne) fun h1=>aC fun v2 hv2=> ?_);have k:=(Xg p name (af.mk 10 0 [] [] [] [] []) data l h0).2;have k:v1.2=0->kV v1.1/\tV v1.1<=tV (af.mk 10 0 [] [] [] [] [])+8*data.length/\(zf p name).2=true/\data.length<=65536:=by rw[hv1];exact k
 obtain⟨k1,k2,k3,hd⟩:=k h1;have hf:=VA k3;rw[<-hv2]at hf;rw[UJ]at k2;refine ak ⟨hp,hf,k1,by omega⟩ (dR (fun _=>ah fun e=>absurd e lY) fun _=>ah fun _=>⟨k1,k2⟩)
def zH:aU Z:=E1 [au2,aaT,aeP] [] (aj (aF dX) (aj (bn cStr) (aj (bn cStr) (a1 (aF zG))))) (shr [.slot 0 true (nn 7), s0 1] (az aI (l1 cI))) [] func40 2 (u4 P6) (fun a=>gu a.1/\okL a.2.2.2) fun a h=>(Df a.1 a.2.1 a.2.2.1 a.2.2.2 h).1
def VP {R:Type}(t:Pg R)(Q:R->Prop):Prop:=Q t.val
section
variable {R A X Y:Type}{Q:R->Prop}
theorem aS {r:R}(h:Q r):VP (.ret r) Q:=h
theorem fC {p:Prop}{k:Pg R}(h:VP k Q):VP (.ob p k) Q:=by unfold VP;rw[dK];exact h
theorem nJ {i:Int}{n:Nat}{k:Pg R}(h:VP k Q):VP (.ix i n k) Q:=by unfold VP;rw[iV];exact h
theorem oZ {p:Prop}{k:Pg R}(h:VP k Q):VP (.as p k) Q:=by unfold VP;rw[kN];exact h
theorem oM {v:A}{k:A->Pg R}(h:∀x,x=v->VP (k x) Q):VP (.lt v k) Q:=by unfold VP;rw[dE];exact h v rfl
theorem eP {b:Bool}{t e:Pg R}(ht:b=true->VP t Q)(he:b=false->VP e Q):VP (.br b t e) Q:=by
 unfold VP;rw[bH];cases b with
 | true=>exact ht rfl
 | false=>exact he rfl
theorem jI (Q1:X->Prop){a:Pg (X⊕R)}{k:X->Pg R}(ha:VP a (Sum.elim Q1 Q))(hk:∀x,Q1 x->VP (k x) Q):VP (.cut k a) Q:=by
 unfold VP at ha⊢;rw[mr];cases hv:a.val with
 | inl x=>rw[hv]at ha;exact hk x ha
 | inr r=>rw[hv]at ha;exact ha
theorem kE {h:Bool}{s:Ix X Y}{l:List A}{d:A}{body:Int->A->Y->Pg (Y⊕R)}{fin:Int->Y->Pg R}{y:Y}(I:Nat->Y->Prop)(h0:I 0 y)(hb:∀(k:Nat) (y:Y),k < l.length->I k y->VP (body ↑k (l.getD k d) y) (Sum.elim (I (k+1)) Q))(hf:∀y,I l.length y->VP (fin ↑l.length y) Q):VP (.each h s l d body fin y) Q:=by
 unfold VP;rw[qJ];refine EL (d:=d) I l 0 y h0 (fun j y hj hI=> ?_) (fun y hI=> ?_)
 ·rw[BZ]at hI⊢;exact hb j y hj hI
 ·rw[BZ]at hI⊢;exact hf y hI
theorem asc {s:Ix X Y}{a b:Int}{body:Int->Y->Pg (Y⊕R)}{fin:Int->Y->Pg R}{y:Y}(I:Int->Y->Prop)(h0:I a y)
  (hb:∀(i:Int) (y:Y),a<=i->i < b->I i y->VP (body i y) (Sum.elim (I (i+1)) Q)) (hf:∀i y,a<=i->b<=i->I i y->VP (fin i y) Q):VP (.cnt s a b body fin y) Q:=by
 unfold VP;rw[BM];refine EE (fun i y=>a<=i/\I i y) b _ a y rfl ⟨PE _,h0⟩ (fun i y h1 hI=> ?_) (fun i y h1 hI=>hf i y hI.1 h1 hI.2);have:=hb i y hI.1 h1 hI.2;unfold VP at this;cases hv:(body i y).val with
 | inr r=>rw[hv]at this;exact this
 | inl y'=>rw[hv]at this;exact⟨by omega,this⟩
end
theorem iL {ok:Bool}{e:Int}{x:ax}(h:(jc ok e x).out=[]):ok=true/\x.out=[]:=by
 cases ok with
 | true=>exact⟨rfl,h⟩
 | false=>
  have h:x.out++[ja.mk x.Ih x.num e]=[]:=h;exact absurd (Qd List.length h) oJ
theorem Es {l:List Note}{t:Int}{x:ax}(h:(pO l t x).out=[]):x.out=[]:=(iL h).2
theorem anm {l:List nN}{a b:Int}{x:ax}(h:(Uy l a b x).out=[]):x.out=[]:=by
 have k:VP (spans l a b x) (fun y=>y.out=[]->x.out=[]):=by
  unfold spans;refine oZ (kE (fun _ y=>y.out=[]->x.out=[]) id (fun k y hk hI=> ?_) (fun y hI=>aS hI));repeat' first
   | exact aS fun h=>hI (iL (iL h).2).2
   | exact aS fun h=>hI (iL h).2
   | refine fC ?_
   | refine nJ ?_
   | refine oZ ?_
   | (refine oM fun x hx=> ?_;subst hx)
   | refine eP (fun _=> ?_) (fun _=> ?_)
   | refine jI (fun z=>z.out=[]->x.out=[]) ?_ (fun z hI=> ?_)
 exact k h
def Gh (s:ay)(f:aJ):Prop:=(1<=f.Num/\f.Num<=65535)/\(1<=f.Card/\f.Card<=5/\Jn f.Card f.Key=true)/\QU s f=true
theorem ann {s:ay}{m:bg}{i:Int}{x:ax}(h:(ab2 s m i x).out=[]):x.out=[]/\Gh s (m.Fields.getD i.toNat aN):=by
 have k:VP (field s m i x) (fun y=>y.out=[]->x.out=[]/\Gh s (m.Fields.getD i.toNat aN)):=by
  unfold field;simp only[af.dM];generalize ha:m.Fields.getD i.toNat aN=f;have eta:aJ.mk f.Num f.Name f.Card f.Key f.eF f.Union f.dn f.Default f.Notes=f:=rfl;rw[eta];refine nJ (jI (fun z=>z.out=[]->x.out=[]) (aS fun h=>h) fun y1 h1=>jI (fun z=>z.out=[]->x.out=[]/\1<=f.Num/\f.Num<=65535) ?_ fun y2 h2=>jI (fun z=>z.out=[]->x.out=[]/\1<=f.Num/\f.Num<=65535) ?_ fun y3 h3=>jI (fun z=>z.out=[]->x.out=[]/\1<=f.Num/\f.Num<=65535) ?_ fun y4 h4=>jI (fun z=>z.out=[]->x.out=[]/\1<=f.Num/\f.Num<=65535) ?_ fun y5 h5=>jI (fun z=>z.out=[]->x.out=[]/\1<=f.Num/\f.Num<=65535) ?_ fun y6 h6=>
   jI (fun z=>z.out=[]->x.out=[]/\(1<=f.Num/\f.Num<=65535)/\(1<=f.Card/\f.Card<=5/\Jn f.Card f.Key=true)) ?_ fun y7 h7=>jI (fun z=>z.out=[]->x.out=[]/\Gh s f) ?_ fun y8 h8=>jI (fun z=>z.out=[]->x.out=[]/\Gh s f) ?_ fun y9 h9=> ?_)
  ·refine eP (fun c1=>fC (aS fun h=>⟨h1 (iL h).2,Cj c1,Cj (iL h).1⟩)) (fun _=>fC (aS fun h=>absurd (iL h).1 lY))
  ·refine eP (fun _=>fC (aS fun h=>h2 (iL h).2)) (fun _=>oM fun v13 hv=>nJ (fC (aS fun h=>h2 (iL h).2)))
  ·exact fC (aS fun h=>h3 (iL h).2)
  ·exact nJ (fC (aS fun h=>h4 (iL h).2))
  ·refine eP (fun _=>fC (aS fun h=>h5 (iL h).2)) (fun _=>fC (aS fun h=>h5 (iL h).2))
  ·refine oM fun v12 hv=>eP (fun c1=>eP (fun c2=>fC (aS fun h=>⟨(h6 (iL h).2).1,(h6 (iL h).2).2,Cj c1,Cj c2,(iL h).1⟩)) (fun _=>fC (aS fun h=> ?_))) (fun _=>fC (aS fun h=> ?_))
   ·rw[hv]at h;exact absurd (iL h).1 lY
   ·rw[hv]at h;exact absurd (iL h).1 lY
  ·exact fC (aS fun h=>⟨(h7 (iL h).2).1,(h7 (iL h).2).2.1,(h7 (iL h).2).2.2,(iL h).1⟩)
  ·exact fC (fC (aS fun h=>h8 (iL h).2))
  ·refine fC (oM fun v10 Ij=>fC (oM fun v11 Xa=>aS fun h=> ?_));subst Ij Xa;exact h9 (iL (Es h)).2
 exact k h
theorem al0 {s:ay}{m:bg}{fin:List (Str×Bool)}(h:yO s m fin=[]){i:Nat}(hi:i < m.Fields.length):Gh s (m.Fields.getD i aN):=by
 have k:VP (ac4 s m fin) (fun r=>r=[]->∀i,i < m.Fields.length->Gh s (m.Fields.getD i aN)):=by
  unfold ac4;refine jI (fun _=>True) (fC (fC (aS trivial))) fun y1 _=>jI (fun _=>True) (eP (fun _=>fC (oZ (oZ (aS trivial)))) (fun _=>fC (aS trivial))) fun y2 _=>
   jI (fun y=>y.out=[]->∀i,i < m.Fields.length->Gh s (m.Fields.getD i aN)) (oZ (asc (fun i y=>y.out=[]->∀j:Nat,(j:Int) < i->Gh s (m.Fields.getD j aN)) (fun _ j hj=>absurd hj au) (fun i y h0 h1 hI=>fC (aS fun h=> ?_)) (fun i y h0 h1 hI=>aS fun h j hj=>hI h j au))) fun y5 h5=>
   fC (oZ (kE (fun _ y=>y.out=[]->∀i,i < m.Fields.length->Gh s (m.Fields.getD i aN)) (fun h=>h5 (anm h)) (fun k y hk hI=>nJ (fC (fC (aS fun h=>hI (iL h).2)))) (fun y hI=>fC (fC (oM fun v9 hv9=>fC (aS fun h=> ?_))))))
  ·obtain⟨k1,k2⟩:=ann h;intro j hj;rcases Int.lt_or_eq_of_le (show(j:Int)<=i by omega)with e | e
   ·exact hI k1 j e
   ·rw[<-e]at k2;exact k2
  ·subst hv9;exact hI (Es (iL h).2)
 exact k h i hi
theorem ar0 {s:ay}(h:Ul s=[]){m:bg}(hm:m∈s.Messages):yO s m (uQ s)=[]:=by
 have k:VP (af6 s) (fun r=>r=[]->∀i,i < s.Messages.length->yO s (s.Messages.getD i iW) (uQ s)=[]):=by
  unfold af6;refine fC (oM fun v20 _=>jI (fun _=>True) ?_ fun y7 _=>jI (fun _=>True) (fC (aS trivial)) fun y8 _=>fC (jI (fun y=>y.out=[]->∀i,i < s.Messages.length->yO s (s.Messages.getD i iW) (uQ s)=[]) ?_ fun y12 h12=>jI (fun y=>y.out=[]->∀i,i < s.Messages.length->yO s (s.Messages.getD i iW) (uQ s)=[]) ?_ fun y16 h16=> ?_))
  ·repeat' first
    | exact aS trivial
    | refine fC ?_
    | refine oM fun _ _=> ?_
    | refine jI (fun _=>True) ?_ fun _ _=> ?_
  ·refine oZ (kE (fun n y=>y.out=[]->∀i,i < n->yO s (s.Messages.getD i iW) (uQ s)=[]) (fun _ i hi=>absurd hi au) (fun k y hk hI=>nJ (fC (oM fun v23 hv=>fC (aS fun h=> ?_)))) (fun y hI=>aS hI));intro i hi;obtain⟨e1,e2⟩:=Qdc.1 h;rcases Qde i k with hlt | hge
   ·exact hI e1 i hlt
   ·rw[show i=k by omega,<-hv];exact e2
  ·exact oZ (kE (fun _ y=>y.out=[]->∀i,i < s.Messages.length->yO s (s.Messages.getD i iW) (uQ s)=[]) h12 (fun k y hk hI=>nJ (fC (oM fun v hv=>fC (aS fun h=>hI (Qdc.1 h).1)))) (fun y hI=>aS hI))
  ·exact oZ (kE (fun _ y=>y.out=[]->∀i,i < s.Messages.length->yO s (s.Messages.getD i iW) (uQ s)=[]) h16 (fun k y hk hI=>nJ (fC (oM fun v hv=>fC (aS fun h=>hI (Qdc.1 h).1)))) (fun y hI=>aS hI))
 obtain⟨i,hi,e⟩:=E_ (d:=iW) hm;rw[<-e];exact k h i hi
theorem amV {s:ay}(h:o_ s=true){m:bg}(hm:m∈s.Messages){f:aJ}(hf:f∈m.Fields):Gh s f:=by
 have e:Ul s=[]:=by
  unfold o_ aaB at h;simp only[dK,dE,kN,aV]at h;cases hc:Ul s with
  | nil=>rfl
  | cons a l=>rw[hc]at h;simp at h;omega
 obtain⟨i,hi,e2⟩:=E_ (d:=aN) hf;rw[<-e2];exact al0 (ar0 e hm) hi
def aGV (x:Note)(name:Str):Pg Bool:=.ret (x.Name==name)
def ads (x:Note)(name:Str):=(aGV x name).val
def apz:aU Z:=vX [] [] (aj (aF FB) (a1 (iM 0))) (b1 (aP cStr)) (R1 aG) [0] func263 1 (u11 aGV)
def aCy:aU Z:=GG [apz] lJ 263 [0] (b1 (aP cStr)) func262 Nu fun x b=>ads x b
def afV (l:List Note)(name:Str):Pg Int:=.ret (fG (fun(x:Note)=>ads x name) l)
def ajg (l:List Note)(name:Str):=(afV l name).val
def aoO:aU Z:=E0 [aCy,apz] [] (aj (bn lJ) (a1 (bn cStr))) (R1 cI) [] func193 1 (u2 afV)
def akI (l:List Note)(name:Str):Pg (af×Bool):=.lt (ajg l name) fun(v1:Int)=> .br (decide (v1 < 0)) (.ret (af.mk 0 0 [] [] [] [] [],false)) (.ix v1 l.length (.ret ((l.getD v1.toNat Nu).Val.re,true)))
def abf (l:List Note)(name:Str):=(akI l name).val
theorem apT (l:List Note)(name:Str):Is (akI l name):=
 dB fun v1 hv1=>dV iR (fun _=>dm au (by rw[hv1];exact(lF (fun(x:Note)=>ads x name) l).1) aT)
def aa6:aU Z:=E0 [aoO] [] (aj (bn lJ) (a1 (bn cStr))) (shr [.slot 0 true (nn 7), s0 1] (az aI (l1 aG))) [] func129 2 (u2 akI) fun a=>apT a.1 a.2
def afq (l:List Note):Pg (List UInt8):=.ret (abf l [97,108,105,97,115]).1.Text
def IM (l:List Note):=(afq l).val
def aqe:aU Z:=E0 [aa6] [] (a1 (bn lJ)) (R1 cStr) [] func125 1 afq
def aqY (l:List nN):Pg (List nN):=.unk false (fun(b:Bool)=>b=true->l.length=0) (.ret []) (.ob (bT (0+l.length) 16) (.ret l))
theorem amL (l:List nN)(h:l.length<=1048576):Is (aqY l):=
 qI (b_ au au)
def apJ:aU Z:=E2 [] [] (a1 (bn qH)) (shr [.slot 0 false [some 236]] (l1 qH)) [] func128 1 aqY (fun a=>some (a.length<=1048576)) (fun a=>a) fun a h=>⟨amL a h,rfl⟩
def atc (e:dU):Pg dU:=.ob (e.Reserved.length<=1048576) (aL e.Items (.each false qw e.Items oU (fun i1 a3 (y2:dU)=> .ix i1 e.Items.length (.lt (abf a3.Notes [97,108,105,97,115]) fun(v4:af×Bool)=> .br v4.2 (.ob (bT (y2.Items.length+1) 48) (rl (dU.mk y2.Name y2.Open (y2.Items++[Item.mk a3.Name a3.Num [Note.mk [97,108,105,97,115] v4.1.re]]) y2.Reserved y2.Notes))) (.ob (bT (y2.Items.length+1) 48) (rl (dU.mk y2.Name y2.Open (y2.Items++[Item.mk a3.Name a3.Num []]) y2.Reserved y2.Notes))))) (fun i1 (y2:dU)=> .ret y2) (dU.mk e.Name e.Open [] e.Reserved [])))
def G_ (e:dU):=(atc e).val
theorem Xk (e:dU)(h:e.Reserved.length<=1048576/\e.Items.length<=1048576):jP (atc e) (fun r=>r.Items.length=e.Items.length/\r.Reserved=e.Reserved/\r.Name=e.Name):=
 ak (qby) (bZ <| df (fun(i1:Nat) y2=>y2.Items.length=i1/\y2.Reserved=e.Reserved/\y2.Name=e.Name) (by exact⟨rfl,rfl,rfl⟩) au (fun i1 y2 qP rD=>have hI:y2.Items.length=i1/\y2.Reserved=e.Reserved/\y2.Name=e.Name:=rD;bi au au (aC fun v4 hv4=>dR (fun _=>ak (qby) (ah qa7)) (fun _=>ak (qby) (ah qa7)))) (fun y2 hI=>have hI:y2.Items.length=e.Items.length/\y2.Reserved=e.Reserved/\y2.Name=e.Name:=hI;ah qa7))
def ayk:aU Z:=E1 [apJ,aa6] [jS 3 (bP (fun sl=>[s0 20, .cells (pid (sl 3)) [none,none,some 216,none,none]]) (az cI (l1 jM))),jS 800001 (bP (fun sl=>[.cells (pid (sl 3)) [none,none,some 216,none,none]]) (l1 jM))] (a1 (aF jM)) (shr [.slot 0 true (nn 5)] (l1 jM)) [] func83 1 atc (fun a=>a.Reserved.length<=1048576/\a.Items.length<=1048576) fun a h=>(Xk a h).1
def aFg (x:bg)(t:sW):Pg Bool:=.ret (x.Name==t.Name)
def ay6 (x:bg)(t:sW):=(aFg x t).val
def anF:aU Z:=vX [] [] (aj (aF gQ) (a1 (iM 0))) (b1 (aP uZ)) (R1 aG) [0] func190 1 (u11 aFg)
def aCR:aU Z:=GG [anF] rQ 190 [0] (b1 (aP uZ)) func160 iW fun x b=>ay6 x b
def aFf (x:dU)(t:sW):Pg Bool:=.ret (x.Name==t.Name)
def azz (x:dU)(t:sW):=(aFf x t).val
def ap9:aU Z:=vX [] [] (aj (aF jM) (a1 (iM 0))) (b1 (aP uZ)) (R1 aG) [0] func192 1 (u11 aFf)
def CS:aU Z:=GG [ap9] gY 192 [0] (b1 (aP uZ)) func191 nD fun x b=>azz x b
def abK (s:ay)(t:sW):Pg Int:=.br (t.Kind==10) (.ret (fG (fun(x:bg)=>ay6 x t) s.Messages)) (.br (t.Kind==9) (.ret (fG (fun(x:dU)=>azz x t) s.Enums)) (.ret (-1)))
def wJ (s:ay)(t:sW):=(abK s t).val
def alW:aU Z:=E0 [aqx,aCR,anF,BI,CS,ap9] [] (aj (aF bC) (a1 (aF uZ))) (R1 cI) [] func126 1 (u2 abK)
def amc (s:ay)(m:bg)(o:Op):Prop:=∃f∈m.Fields,o.Kind=f.eF.Kind/\o.Card=f.Card/\o.Key=f.Key/\o.Target=wJ s f.eF/\o.Alias=IM f.Notes/\o.Num=f.Num
theorem aot {s:ay}{m:bg}{l:List Op}(h:∀o∈l,amc s m o){f:aJ}(hf:f∈m.Fields){u:Int}:∀o∈l++[Op.mk f.Num f.Name (IM f.Notes) f.Card f.Key f.eF.Kind (wJ s f.eF) u],amc s m o:=fun o ho=>by
 rcases tY.1 ho with ho | ho
 ·exact h o ho
 ·rw[Aj.1 ho];exact⟨f,hf,rfl,rfl,rfl,rfl,rfl,rfl⟩
theorem F6 {A B:Type}{g:A->B}{l:List A}{i:Nat}{d:A}(hi:i < l.length):(l.take (i+1)).map g=(l.take i).map g++[g (l.getD i d)]:=by
 rw[take_snoc (d:=d) hi,List.map_append];rfl
def aqX (s:ay)(m:bg):Pg bu:=aL m.Fields (.each false qw m.Fields aN (fun i1 a3 (y2:List Str×bu)=> .ix i1 m.Fields.length (.lt (wJ s a3.eF) fun(v4:Int)=> .lt (IM a3.Notes) fun(v5:Str)=> .br (a3.Union !=[]) (.br (!y2.1.any fun(x:Str)=>a3.Union==x) (.ob (bT (y2.1.length+1) 16) (.ob (bT (y2.2.Ops.length+1) 80) (.lt (y2.1++[a3.Union]) fun(v6:List Str)=> rl (v6, bu.mk y2.2.Name (y2.2.Ops++[Op.mk a3.Num a3.Name v5 a3.Card a3.Key a3.eF.Kind v4 (fG (fun(x:Str)=>a3.Union==x) v6)]) y2.2.VK)))) (.ob (bT (y2.2.Ops.length+1) 80) (rl (y2.1, bu.mk y2.2.Name (y2.2.Ops++[Op.mk a3.Num a3.Name v5 a3.Card a3.Key a3.eF.Kind v4 (fG (fun(x:Str)=>a3.Union==x) y2.1)]) y2.2.VK)))) (.ob (bT (y2.2.Ops.length+1) 80) (rl (y2.1,bu.mk y2.2.Name (y2.2.Ops++[Op.mk a3.Num a3.Name v5 a3.Card a3.Key a3.eF.Kind v4 (-1)]) y2.2.VK))))) (fun i1 (y2:List Str×bu)=> aL y2.1 (.ret (bu.mk y2.2.Name y2.2.Ops (↑y2.1.length:Int)))) ([],bu.mk m.Name [] 0))
def rX (s:ay)(m:bg):=(aqX s m).val
theorem Fv (s:ay)(m:bg)(h:m.Fields.length<=1048576):jP (aqX s m) (fun g=>g.Ops.length<=m.Fields.length/\g.Name=m.Name/\∀o∈g.Ops,amc s m o):=
 bZ <| df (fun(i1:Nat) y2=>y2.1.length<=i1/\y2.2.Ops.length<=i1/\y2.2.Name=m.Name/\∀o∈y2.2.Ops,amc s m o) (by exact⟨lU 0,lU 0,rfl,fun o ho=>absurd ho oJ⟩) au (fun i1 y2 qP rD=>have hI:y2.1.length<=i1/\y2.2.Ops.length<=i1/\y2.2.Name=m.Name/\∀o∈y2.2.Ops,amc s m o:=rD;bi au au (aC fun v4 hv4=>aC fun v5 hv5=>dR (fun _=>dR (fun _=>ak (qa2) (ak (qa2) (aC fun v6 hv6=>ah qar))) (fun _=>ak (qa2) (ah qar))) (fun _=>ak (qa2) (ah qar)))) (fun y2 hI=>have hI:y2.1.length<=m.Fields.length/\y2.2.Ops.length<=m.Fields.length/\y2.2.Name=m.Name/\∀o∈y2.2.Ops,amc s m o:=hI;bZ <| ah qar)
def awh:aU Z:=E1 [aif,aqe,alW,azS] [jS 4 (bP (fun sl=>[s0 16, .slot 6 false [some 9], .cells (pid (sl 5)) [none,some 232,none]]) (az cI (az bY (l1 iF)))),jS 800001 (bP (fun sl=>[.cells (pid (sl 5)) [none,some 232,none]]) (l1 iF))] (aj (aF bC) (a1 (aF gQ))) (shr [.slot 0 true (nn 3)] (l1 iF)) [] func82 1 (u2 aqX) (fun a=>a.2.Fields.length<=1048576) fun a h=>(Fv a.1 a.2 h).1
def aqF (s:ay):Pg (dC×Int):=.ob (okS s) (.br (!o_ s) (.ret (dC.mk [] [],1)) (.cut (fun(y4:dC)=> aL s.Enums (.each false qw s.Enums nD (fun i5 a7 (y6:dC)=> .ix i5 s.Enums.length (.ob (a7.Reserved.length<=1048576/\a7.Items.length<=1048576) (.ob (bT (y6.Enums.length+1) 96) (rl (dC.mk y6.a_ (y6.Enums++[G_ a7])))))) (fun i5 (y6:dC)=> .ret (y6,0)) y4)) (aL s.Messages (.each false qw s.Messages iW (fun i1 a3 (y2:dC)=> .ix i1 s.Messages.length (.ob (a3.Fields.length<=1048576) (.ob (bT (y2.a_.length+1) 48) (rl (dC.mk (y2.a_++[rX s a3]) y2.Enums))))) (fun i1 (y2:dC)=> rl y2) (dC.mk [] [])))))
def sH (s:ay):=(aqF s).val
theorem YK (s:ay)(h:okS s):jP (aqF s) (fun r=>r.2=0->o_ s=true/\r.1=dC.mk (s.Messages.map (rX s)) (s.Enums.map G_)):=
 have h1:s.Messages.length<=150:=h.1;have h2:s.Enums.length<=150:=h.2.1;ak (qas) (dR (fun _=>ah qan) (fun _=>dh (fun y4=>y4=dC.mk (s.Messages.map (rX s)) []) (bZ <| df (fun(i1:Nat) y2=>y2=dC.mk ((s.Messages.take i1).map (rX s)) []) (by rfl) au (fun i1 y2 qP rD=>have hI:y2=dC.mk ((s.Messages.take i1).map (rX s)) []:=rD;bi au au (ak (qas) (ak (qas) (ah qan)))) (fun y2 hI=>have hI:y2=dC.mk ((s.Messages.take s.Messages.length).map (rX s)) []:=hI;ah qan)) (fun y4 hy4=>have hy4:y4=dC.mk (s.Messages.map (rX s)) []:=hy4;bZ <| df (fun(i5:Nat) y6=>y6=dC.mk (s.Messages.map (rX s)) ((s.Enums.take i5).map G_)) (by(rw[hy4];rfl)) au (fun i5 y6 auE auC=>have hI:y6=dC.mk (s.Messages.map (rX s)) ((s.Enums.take i5).map G_):=auC;bi au au (ak (qas) (ak (qas) (ah qan)))) (fun y6 hI=>have hI:y6=dC.mk (s.Messages.map (rX s)) ((s.Enums.take s.Enums.length).map G_):=hI;ah qan))))
def ET:aU Z:=E1 [acf,awh,ayk] [jS 5 (bP (fun sl=>[s0 16, .cells (pid (sl 4)) [some 185,some 159]]) (az cI (l1 dX))),jS 10 (bP (fun sl=>[s0 32, .cells (pid (sl 4)) [some 185,some 159]]) (az cI (l1 dX))),jS 100009 (bP (fun sl=>[.cells (pid (sl 4)) [some 185,some 159]]) (l1 dX)),jS 800003 (bP (fun sl=>[.cells (pid (sl 4)) [some 185,some 159]]) (l1 dX))] (a1 (aF bC)) (shr [.slot 0 true [none,none], s0 1] (az dX (l1 cI))) [] func39 2 aqF (fun a=>okS a) fun a h=>(YK a h).1
theorem ad4 {s:ay}(hs:okS s)(h:(sH s).2=0):o_ s=true/\(sH s).1=dC.mk (s.Messages.map (rX s)) (s.Enums.map G_):=(YK s hs).2 h
theorem key_ok {card key:Int}(h:Jn card key=true)(hc:card=5):jQ key=true:=by
 subst hc;unfold Jn agN at h;simp only[bH,aV]at h;by_cases h1:1<=key
 ·by_cases h2:key<=7
  ·unfold jQ sIs;simp only[bH,aV];rw[qW h1];exact qW au
  ·rw[qW h1,qo h2]at h;cases h
 ·rw[qo h1]at h;cases h
theorem amS {s:ay}{t:sW}(h:(l_ s t.Name).2=true)(hk:t.Kind=10):0<=wJ s t/\wJ s t < s.Messages.length:=by
 have e:wJ s t=fG (fun(x:bg)=>x.Name==t.Name) s.Messages:=by
  unfold wJ abK;simp only[bH,aV,hk];rfl
 have hl:=(lF (fun(x:bg)=>x.Name==t.Name) s.Messages).1;rw[OJ]at h;rw[e];by_cases h0:fG (fun(x:bg)=>x.Name==t.Name) s.Messages < 0
 ·rw[qW h0]at h;cases h
 ·exact⟨by omega,hl⟩
theorem am2 {s:ay}{f:aJ}(h:QU s f=true)(hk:f.eF.Kind=10):(l_ s f.eF.Name).2=true:=by
 unfold QU agZ at h;simp only[dE,bH,aV,hk]at h;cases e:(l_ s f.eF.Name).2 with
 | true=>rfl
 | false=>
  rw[e]at h;have h:(bif false then f.Card !=3 else false)=true:=h;cases h
theorem aaq {s:ay}(hs:okS s)(h:(sH s).2=0):gu (sH s).1:=by
 obtain⟨hv,e⟩:=ad4 hs h;rw[e];intro g hg;obtain⟨m,hm,rfl⟩:=Ik.1 hg;have hok:=hs.2.2.2.1 m hm;obtain⟨q1,_,q2⟩:=(Fv s m hok.1).2;refine⟨Ak q1 hok.1,fun o ho=> ?_⟩;obtain⟨f,hf,k1,k2,k3,k4,_,k6⟩:=q2 o ho;obtain⟨f0,⟨f1,f2,f3⟩,f4⟩:=amV hv hm hf;refine⟨fun hk=> ?_,fun hc=> ?_,by rw[k6];exact f0⟩
 ·rw[k1]at hk;obtain⟨t1,t2⟩:=amS (am2 f4 hk) hk;show 0<=o.Target/\o.Target < ((s.Messages.map (rX s)).length:Int)
  rw[k4,Qbl];exact⟨t1,t2⟩
 ·rw[k2]at hc;rw[k3];exact key_ok f3 hc
def ZT (s:ay):Prop:=∀m∈s.Messages,∀f∈m.Fields,∀n∈f.Notes,n.Val.Text.length<=1048576
def Gp (p:dC):Prop:=p.a_.length<=1048576/\(∀x∈p.a_,x.Name.length<=4294967296)/\(∀x∈p.Enums,x.Name.length<=4294967296)/\∀x∈p.a_,∀o∈x.Ops,o.Alias.length<=1048576
theorem alk {l:List Note}(h:∀n∈l,n.Val.Text.length<=1048576):(IM l).length<=1048576:=by
 have hl:=(lF (fun(x:Note)=>ads x [97,108,105,97,115]) l).1;unfold IM afq abf akI ajg afV;simp only[dE,bH,iV,aV,af.dM];by_cases h0:fG (fun(x:Note)=>ads x [97,108,105,97,115]) l < 0
 ·rw[qW h0];exact uN _
 ·rw[qo h0];exact h _ (getD_mem au)
theorem ao8 {s:ay}(hs:okS s)(hn:ZT s)(h:(sH s).2=0):Gp (sH s).1:=by
 obtain⟨_,e⟩:=ad4 hs h;rw[e];refine⟨?_,?_,?_,?_⟩
 ·show(s.Messages.map (rX s)).length<=1048576
  rw[Qbl];have:=hs.1;omega
 ·intro g hg;obtain⟨m,hm,rfl⟩:=Ik.1 hg;have hok:=hs.2.2.2.1 m hm;have en:(rX s m).Name=m.Name:=(Fv s m hok.1).2.2.1;rw[en];have:=hok.2.2.2.1;omega
 ·intro g hg;obtain⟨m,hm,rfl⟩:=Ik.1 hg;have hok:=hs.2.2.2.2.1 m hm;have en:(G_ m).Name=m.Name:=(Xk m ⟨hok.2.1,hok.1⟩).2.2.2;rw[en];have:=hok.2.2;omega
 ·intro g hg o ho;obtain⟨m,hm,rfl⟩:=Ik.1 hg;obtain⟨f,hf,_,_,_,_,k,_⟩:=(Fv s m (hs.2.2.2.1 m hm).1).2.2.2 o ho;rw[k];exact alk (hn m hm f hf)
def aGI (x:bu):Pg Bool:=.ret (decide (64 < (↑x.Ops.length:Int)))
def akw (x:bu):=(aGI x).val
def aah:aU Z:=E0 [] [] (a1 (aF iF)) (R1 aG) [] func291 1 aGI
def MC:aU Z:=EI [aah] jk 291 func134 bU akw
def LK:aU Z:=EA [wU,MC,aah] jk 291 func389 akw
def Lp:aU Z:=E0 [aah,LK] [] (aj (bn jk) (a1 (kJ 291 []))) (R1 aG) [] func290 1 fun a=>.ret (a.1.any fun(x:bu)=>(akw x))
def aAT (x:dU):Pg Bool:=.br (decide ((↑x.Items.length:Int) < 1)) (.ret true) (.br (decide (64 < (↑x.Items.length:Int))) (.ret true) (.ret (decide (16 < (↑x.Reserved.length:Int)))))
def YL (x:dU):=(aAT x).val
def Zd:aU Z:=E0 [] [] (a1 (aF jM)) (R1 aG) [] func293 1 aAT
def Ic:aU Z:=EI [Zd] gY 293 func191 nD YL
def GX:aU Z:=EA [BI,CS,Ic,Zd] gY 293 func390 YL
def GK:aU Z:=E0 [Zd,GX] [] (aj (bn gY) (a1 (kJ 293 []))) (R1 aG) [] func292 1 fun a=>.ret (a.1.any fun(x:dU)=>(YL x))
def Rw (p:dC):Pg Bool:=.br (decide (64 < max (↑p.a_.length:Int) (↑p.Enums.length:Int))) (aL p.a_ (aL p.Enums (.ret true))) (.br (p.a_.any fun(x:bu)=>akw x) (aL p.a_ (aL p.Enums (.ret true))) (aL p.a_ (aL p.Enums (.ret (p.Enums.any fun(x:dU)=>YL x)))))
def MM (p:dC):=(Rw p).val
def agO:aU Z:=E0 [Lp,aah,GK,Zd] [] (a1 (aF dX)) (R1 aG) [] func209 1 Rw
def akT (s:Str):Pg Bool:=.br (Hf s) (.ret !Eu s) (.ret false)
def aeU (s:Str):=(akT s).val
def Xy:aU Z:=E0 [Qk,zF] [] (a1 (bn cStr)) (R1 aG) [] func298 1 akT
def azt (s:Str):Pg Bool:=.ob (List.length s<=4294967296) (.br (RN s) (.ob ([46]=uX/\List.length s<=4294967296) (.ret !(jD 46 s).any fun(x:Str)=>Eu x)) (.ret false))
def aqO (s:Str):=(azt s).val
def aki:aU Z:=E1 [Zz,UV,aea,ZW,agR,aqW,arl,zF] [] (a1 (bn cStr)) (R1 aG) [] func295 1 azt fun a=>a.length<=4294967296
def az6 (x:Op):Pg Bool:=.ret !aeU x.Name
def aav (x:Op):=(az6 x).val
def Qs:aU Z:=E0 [Xy] [] (a1 (aF je)) (R1 aG) [] func297 1 az6
def KP:aU Z:=EI [Qs] nG 297 func374 zT aav
def JU:aU Z:=EA [Qs,Nr,KP] nG 297 func391 aav
def IU:aU Z:=E0 [Qs,JU] [] (aj (bn nG) (a1 (kJ 297 []))) (R1 aG) [] func296 1 fun a=>.ret (a.1.any fun(x:Op)=>(aav x))
def aEG (x:bu):Pg Bool:=.ob (List.length x.Name<=4294967296) (.br (!aqO x.Name) (.ret true) (.ret (x.Ops.any fun(x:Op)=>aav x)))
def OX (x:bu):=(aEG x).val
def aa2:aU Z:=E1 [aki,IU,Qs] [] (a1 (aF iF)) (R1 aG) [] func294 1 aEG fun a=>a.Name.length<=4294967296
def aFI (l:List bu):Pg Int:=aL l (.each false tX l bU (fun i1 a3 (y2:Unit)=> .ix i1 l.length (.ob (List.length a3.Name<=4294967296) (.br (OX a3) (.ret (.inr i1)) (rl ())))) (fun i1 (y2:Unit)=> .ret (-1)) ())
theorem ax0 (l:List bu)(h:∀x∈l,x.Name.length<=4294967296):Is (aFI l):=
 iH fun _=>gU (.inr au) (fun i1 y2 _ _=>dm au au (aX ((h _ (getD_mem au))) (di iR iR))) (fun y2 _=>aT)
def U0:aU Z:=E2 [aa2] [jS 2 (bP (fun sl=>[s0 8]) (l1 cI))] (aj (bn jk) (a1 (kJ 294 []))) (R1 cI) [] func134 1 (fun a=>aFI a.1) (fun a=>some (∀x∈a.1,x.Name.length<=4294967296)) (fun a=>fG (fun(x:bu)=>(OX x)) a.1) fun a h=>⟨ax0 a.1 h,(fun(l:List bu) _=>o5 (fun(x:bu)=>(OX x)) l 0) a.1 h⟩
def aG5 (l:List bu):Pg Bool:=.ob (∀(x:bu),x∈l->List.length x.Name<=4294967296) (.lt (fG (fun(x:bu)=>OX x) l) fun(v1:Int)=> .ret (decide (0<=v1)))
theorem awj (l:List bu)(h:∀x∈l,x.Name.length<=4294967296):Is (aG5 l):=
 aX (h) (dB fun v1 hv1=>aT)
def TV:aU Z:=E2 [wU,MC,U0,aa2] [] (aj (bn jk) (a1 (kJ 294 []))) (R1 aG) [] func389 1 (fun a=>aG5 a.1) (fun a=>some (∀x∈a.1,x.Name.length<=4294967296)) (fun a=>a.1.any fun(x:bu)=>(OX x)) fun a h=>⟨awj a.1 h,(fun(l:List bu) _=>pY _ l) a.1 h⟩
def aFb (l:List bu):Pg Bool:=.ob (∀(x:bu),x∈l->List.length x.Name<=4294967296) (.ret (l.any fun(x:bu)=>OX x))
theorem ayv (l:List bu)(h:∀x∈l,x.Name.length<=4294967296):Is (aFb l):=
 aX (h) (aT)
def UO:aU Z:=E2 [aa2,LK,TV] [] (aj (bn jk) (a1 (kJ 294 []))) (R1 aG) [] func290 1 (fun a=>aFb a.1) (fun a=>some (∀x∈a.1,x.Name.length<=4294967296)) (fun a=>a.1.any fun(x:bu)=>(OX x)) fun a h=>⟨ayv a.1 h,rfl⟩
def azk (x:Item):Pg Bool:=.ret !aeU x.Name
def abp (x:Item):=(azk x).val
def Pz:aU Z:=E0 [Xy] [] (a1 (aF lS)) (R1 aG) [] func301 1 azk
def QT:aU Z:=EI [Pz] g_ 301 func251 oU abp
def QV:aU Z:=EA [MG,TC,Ji,QT,Pz] g_ 301 func171 abp
def Qo:aU Z:=E0 [Nj,Ru,Jr,QV,Pz] [] (aj (bn g_) (a1 (kJ 301 []))) (R1 aG) [] func300 1 fun a=>.ret (a.1.any fun(x:Item)=>(abp x))
def aGk (x:dU):Pg Bool:=.ob (List.length x.Name<=4294967296) (.br (!aqO x.Name) (.ret true) (.ret (x.Items.any fun(x:Item)=>abp x)))
def NH (x:dU):=(aGk x).val
def ZQ:aU Z:=E1 [aki,Qo,Pz] [] (a1 (aF jM)) (R1 aG) [] func299 1 aGk fun a=>a.Name.length<=4294967296
def aGn (l:List dU):Pg Int:=aL l (.each false tX l nD (fun i1 a3 (y2:Unit)=> .ix i1 l.length (.ob (List.length a3.Name<=4294967296) (.br (NH a3) (.ret (.inr i1)) (rl ())))) (fun i1 (y2:Unit)=> .ret (-1)) ())
theorem avi (l:List dU)(h:∀x∈l,x.Name.length<=4294967296):Is (aGn l):=
 iH fun _=>gU (.inr au) (fun i1 y2 _ _=>dm au au (aX ((h _ (getD_mem au))) (di iR iR))) (fun y2 _=>aT)
def L_:aU Z:=E2 [ZQ] [jS 2 (bP (fun sl=>[s0 8]) (l1 cI))] (aj (bn gY) (a1 (kJ 299 []))) (R1 cI) [] func191 1 (fun a=>aGn a.1) (fun a=>some (∀x∈a.1,x.Name.length<=4294967296)) (fun a=>fG (fun(x:dU)=>(NH x)) a.1) fun a h=>⟨avi a.1 h,(fun(l:List dU) _=>o5 (fun(x:dU)=>(NH x)) l 0) a.1 h⟩
def aFK (l:List dU):Pg Bool:=.ob (∀(x:dU),x∈l->List.length x.Name<=4294967296) (.lt (fG (fun(x:dU)=>NH x) l) fun(v1:Int)=> .ret (decide (0<=v1)))
theorem ax1 (l:List dU)(h:∀x∈l,x.Name.length<=4294967296):Is (aFK l):=
 aX (h) (dB fun v1 hv1=>aT)
def Lm:aU Z:=E2 [BI,CS,Ic,L_,ZQ] [] (aj (bn gY) (a1 (kJ 299 []))) (R1 aG) [] func390 1 (fun a=>aFK a.1) (fun a=>some (∀x∈a.1,x.Name.length<=4294967296)) (fun a=>a.1.any fun(x:dU)=>(NH x)) fun a h=>⟨ax1 a.1 h,(fun(l:List dU) _=>pY _ l) a.1 h⟩
def aF8 (l:List dU):Pg Bool:=.ob (∀(x:dU),x∈l->List.length x.Name<=4294967296) (.ret (l.any fun(x:dU)=>NH x))
theorem av7 (l:List dU)(h:∀x∈l,x.Name.length<=4294967296):Is (aF8 l):=
 aX (h) (aT)
def ML:aU Z:=E2 [ZQ,GX,Lm] [] (aj (bn gY) (a1 (kJ 299 []))) (R1 aG) [] func292 1 (fun a=>aF8 a.1) (fun a=>some (∀x∈a.1,x.Name.length<=4294967296)) (fun a=>a.1.any fun(x:dU)=>(NH x)) fun a h=>⟨av7 a.1 h,rfl⟩
def LH (p:dC):Pg Bool:=.ob (∀(x:bu),x∈p.a_->List.length x.Name<=4294967296) (.br (p.a_.any fun(x:bu)=>OX x) (.ret true) (.ob (∀(x:dU),x∈p.Enums->List.length x.Name<=4294967296) (.ret (p.Enums.any fun(x:dU)=>NH x))))
def ahg (p:dC):=(LH p).val
theorem aaR (p:dC)(h:(∀x∈p.a_,x.Name.length<=4294967296)/\∀x∈p.Enums,x.Name.length<=4294967296):Is (LH p):=
 aX (h.1) (di iR (fun _=>aX (h.2) (aT)))
def aeY:aU Z:=E1 [Lp,UO,GK,ML,aa2,ZQ] [] (a1 (aF dX)) (R1 aG) [] func210 1 LH (fun a=>(∀x∈a.a_,x.Name.length<=4294967296)/\∀x∈a.Enums,x.Name.length<=4294967296) fun a h=>aaR a h
def aFL (x:bu)(y:bu):Pg Bool:=.ret (Op.bytesLess x.Name y.Name)
def aFC (x:bu)(y:bu):=(aFL x y).val
def atY:aU Z:=E0 [] [] (aj (aF iF) (a1 (aF iF))) (R1 aG) [] func303 1 (u2 aFL)
def aCP (l:List bu):Pg Bool:=.Pn [] (some (l.length<=9223372036854775807)) tX 1 (↑l.length:Int) (fun i1 (y2:Unit)=> .lt (dD .i64 (i1 - 1)) fun(v3:Int)=> .ix v3 l.length (.ix i1 l.length (.br (!aFC (l.getD v3.toNat bU) (l.getD i1.toNat bU)) (.ret (.inr false)) (rl ())))) (fun i1 (y2:Unit)=> .ret true) ()
def aE8 (l:List bu):=(aCP l).val
theorem axv (l:List bu):Is (aCP l):=
 Bc trivial au (fun h=>by simp only[ql]at h;omega) (fun i1 y2 _ _ _=>pK fun v3 hv3 _=>dm au au (dm au au (di iR iR))) (fun i1 y2 _ _=>aT)
def aDK:aU Z:=E0 [atY] [jS 2 (bP (fun sl=>[s0 5]) (l1 cI))] (aj (bn jk) (a1 (kJ 303 []))) (R1 aG) [] func302 1 (fun a=>aCP a.1) fun a=>axv a.1
def aEV (x:dU)(y:dU):Pg Bool:=.ret (Op.bytesLess x.Name y.Name)
def aEv (x:dU)(y:dU):=(aEV x y).val
def aqU:aU Z:=E0 [] [] (aj (aF jM) (a1 (aF jM))) (R1 aG) [] func305 1 (u2 aEV)
def aAU (l:List dU):Pg Bool:=.Pn [] (some (l.length<=9223372036854775807)) tX 1 (↑l.length:Int) (fun i1 (y2:Unit)=> .lt (dD .i64 (i1 - 1)) fun(v3:Int)=> .ix v3 l.length (.ix i1 l.length (.br (!aEv (l.getD v3.toNat nD) (l.getD i1.toNat nD)) (.ret (.inr false)) (rl ())))) (fun i1 (y2:Unit)=> .ret true) ()
def aF0 (l:List dU):=(aAU l).val
theorem axX (l:List dU):Is (aAU l):=
 Bc trivial au (fun h=>by simp only[ql]at h;omega) (fun i1 y2 _ _ _=>pK fun v3 hv3 _=>dm au au (dm au au (di iR iR))) (fun i1 y2 _ _=>aT)
def aBD:aU Z:=E0 [aqU] [jS 2 (bP (fun sl=>[s0 5]) (l1 cI))] (aj (bn gY) (a1 (kJ 305 []))) (R1 aG) [] func304 1 (fun a=>aAU a.1) fun a=>axX a.1
def azl (x:Op)(y:Op):Pg Bool:=.ret (decide (x.Num < y.Num))
def aBR (x:Op)(y:Op):=(azl x y).val
def ajR:aU Z:=E0 [] [] (aj (aF je) (a1 (aF je))) (R1 aG) [] func308 1 (u2 azl)
def aqQ (l:List Op):Pg Bool:=.Pn [] (some (l.length<=9223372036854775807)) tX 1 (↑l.length:Int) (fun i1 (y2:Unit)=> .lt (dD .i64 (i1 - 1)) fun(v3:Int)=> .ix v3 l.length (.ix i1 l.length (.br (!aBR (l.getD v3.toNat zT) (l.getD i1.toNat zT)) (.ret (.inr false)) (rl ())))) (fun i1 (y2:Unit)=> .ret true) ()
def aAw (l:List Op):=(aqQ l).val
theorem apr (l:List Op):Is (aqQ l):=
 Bc trivial au (fun h=>by simp only[ql]at h;omega) (fun i1 y2 _ _ _=>pK fun v3 hv3 _=>dm au au (dm au au (di iR iR))) (fun i1 y2 _ _=>aT)
def awY:aU Z:=E0 [ajR] [jS 2 (bP (fun sl=>[s0 5]) (l1 cI))] (aj (bn nG) (a1 (kJ 308 []))) (R1 aG) [] func307 1 (fun a=>aqQ a.1) fun a=>apr a.1
def azM (x:Item)(y:Item):Pg Bool:=.ret (decide (x.Num < y.Num))
def aB5 (x:Item)(y:Item):=(azM x y).val
def ajk:aU Z:=E0 [] [] (aj (aF lS) (a1 (aF lS))) (R1 aG) [] func311 1 (u2 azM)
def atW (l:List Item):Pg Bool:=.Pn [] (some (l.length<=9223372036854775807)) tX 1 (↑l.length:Int) (fun i1 (y2:Unit)=> .lt (dD .i64 (i1 - 1)) fun(v3:Int)=> .ix v3 l.length (.ix i1 l.length (.br (!aB5 (l.getD v3.toNat oU) (l.getD i1.toNat oU)) (.ret (.inr false)) (rl ())))) (fun i1 (y2:Unit)=> .ret true) ()
def aDR (l:List Item):=(atW l).val
theorem as6 (l:List Item):Is (atW l):=
 Bc trivial au (fun h=>by simp only[ql]at h;omega) (fun i1 y2 _ _ _=>pK fun v3 hv3 _=>dm au au (dm au au (di iR iR))) (fun i1 y2 _ _=>aT)
def aw8:aU Z:=E0 [ajk] [jS 2 (bP (fun sl=>[s0 5]) (l1 cI))] (aj (bn g_) (a1 (kJ 311 []))) (R1 aG) [] func310 1 (fun a=>atW a.1) fun a=>as6 a.1
def aG3 (x:bu):Pg Bool:=.ret !aAw x.Ops
def aix (x:bu):=(aG3 x).val
def abe:aU Z:=E0 [awY,ajR] [] (a1 (aF iF)) (R1 aG) [] func306 1 aG3
def abB:aU Z:=EI [abe] jk 306 func134 bU aix
def aab:aU Z:=EA [wU,MC,U0,abB,abe] jk 306 func389 aix
def ZX:aU Z:=E0 [abe,LK,TV,aab] [] (aj (bn jk) (a1 (kJ 306 []))) (R1 aG) [] func290 1 fun a=>.ret (a.1.any fun(x:bu)=>(aix x))
def aGh (x:dU):Pg Bool:=.ret !aDR x.Items
def aiA (x:dU):=(aGh x).val
def aaf:aU Z:=E0 [aw8,ajk] [] (a1 (aF jM)) (R1 aG) [] func309 1 aGh
def UM:aU Z:=EI [aaf] gY 309 func191 nD aiA
def UA:aU Z:=EA [BI,CS,Ic,L_,UM,aaf] gY 309 func390 aiA
def Rq:aU Z:=E0 [aaf,GX,Lm,UA] [] (aj (bn gY) (a1 (kJ 309 []))) (R1 aG) [] func292 1 fun a=>.ret (a.1.any fun(x:dU)=>(aiA x))
def Uc (p:dC):Pg Bool:=.br (!aE8 p.a_) (.ret true) (.br (!aF0 p.Enums) (.ret true) (.br (p.a_.any fun(x:bu)=>aix x) (.ret true) (.ret (p.Enums.any fun(x:dU)=>aiA x))))
def acv (p:dC):=(Uc p).val
def Zw:aU Z:=E0 [Lp,UO,ZX,GK,ML,Rq,aDK,atY,aBD,aqU,abe,aaf] [] (a1 (aF dX)) (R1 aG) [] func211 1 Uc
def azY (x:Op):Pg (List UInt8):=.ret x.Name
def aua (x:Op):=(azY x).val
def abY:aU Z:=E0 [] [] (a1 (aF je)) (R1 cStr) [] func315 1 azY
def azD (y:Op)(z:Op):Pg Bool:=.ret (aua y==aua z)
def aaC (y:Op)(z:Op):=(azD y z).val
def QF:aU Z:=vX [abY] [] (aj (aF je) (aj (iM 0) (a1 (iM 1)))) (iC (bFn 315 []) (b1 (aP je))) (R1 aG) [0,1] func392 1 fun a=>azD a.1.1 a.2.2
def Q3:aU Z:=GG [QF] nG 392 [0,1] (iC (bFn 315 []) (b1 (aP je))) func374 zT fun x b=>aaC x b.2
def P9:aU Z:=EAB [Nr,KP,Q3,QF] nG 392 [0,1] (iC (bFn 315 []) (b1 (aP je))) func391 fun x b=>aaC x b.2
def Qh:aU Z:=vX [JU,P9,QF] [] (aj (bn nG) (a1 (kJ 392 [0,1]))) (iC (bFn 315 []) (b1 (aP je))) (R1 aG) [0,1] func296 1 fun a=>.ret (a.1.1.any fun(x:Op)=>(aaC x a.2.2))
def aFD (l:List Op):Pg Bool:=aL l (.each false tX l zT (fun i1 a3 (y2:Unit)=> .ix i1 l.length (.ob ((0:Int)<=0/\0<=i1/\i1<=(↑l.length:Int)) (.br ((List.take i1.toNat l).any fun(x:Op)=>aaC x a3) (.ret (.inr true)) (rl ())))) (fun i1 (y2:Unit)=> .ret false) ())
def aFF (l:List Op):=(aFD l).val
def aCd:aU Z:=E0 [IU,Qh,abY,QF] [jS 2 (bP (fun sl=>[s0 9]) (l1 cI))] (aj (bn nG) (a1 (kJ 315 []))) (R1 aG) [] func314 1 fun a=>aFD a.1
def akV (x:Item):Pg (List UInt8):=.ret x.Name
def adH (x:Item):=(akV x).val
def K_:aU Z:=E0 [] [] (a1 (aF lS)) (R1 cStr) [] func318 1 akV
def aib (y:Item)(z:Item):Pg Bool:=.ret (adH y==adH z)
def Kz (y:Item)(z:Item):=(aib y z).val
def FK:aU Z:=vX [K_] [] (aj (aF lS) (aj (iM 0) (a1 (iM 1)))) (iC (bFn 318 []) (b1 (aP lS))) (R1 aG) [0,1] func393 1 fun a=>aib a.1.1 a.2.2
def Ll:aU Z:=GG [FK] g_ 393 [0,1] (iC (bFn 318 []) (b1 (aP lS))) func251 oU fun x b=>Kz x b.2
def LU:aU Z:=EAB [MG,TC,Ji,QT,Ll,FK] g_ 393 [0,1] (iC (bFn 318 []) (b1 (aP lS))) func171 fun x b=>Kz x b.2
def MI:aU Z:=vX [Nj,Ru,Jr,QV,LU,FK] [] (aj (bn g_) (a1 (kJ 393 [0,1]))) (iC (bFn 318 []) (b1 (aP lS))) (R1 aG) [0,1] func300 1 fun a=>.ret (a.1.1.any fun(x:Item)=>(Kz x a.2.2))
def aph (l:List Item):Pg Bool:=aL l (.each false tX l oU (fun i1 a3 (y2:Unit)=> .ix i1 l.length (.ob ((0:Int)<=0/\0<=i1/\i1<=(↑l.length:Int)) (.br ((List.take i1.toNat l).any fun(x:Item)=>Kz x a3) (.ret (.inr true)) (rl ())))) (fun i1 (y2:Unit)=> .ret false) ())
def avQ (l:List Item):=(aph l).val
def asl:aU Z:=E0 [Qo,MI,K_,FK] [jS 2 (bP (fun sl=>[s0 9]) (l1 cI))] (aj (bn g_) (a1 (kJ 318 []))) (R1 aG) [] func317 1 fun a=>aph a.1
def azb (x:dU)(g:bu):Pg Bool:=.ret (x.Name==g.Name)
def Ze (x:dU)(g:bu):=(azb x g).val
def PY:aU Z:=vX [] [] (aj (aF jM) (a1 (iM 0))) (b1 (aP iF)) (R1 aG) [0] func313 1 (u11 azb)
def QQ:aU Z:=GG [PY] gY 313 [0] (b1 (aP iF)) func191 nD fun x b=>Ze x b
def PH:aU Z:=EAB [BI,CS,Ic,L_,UM,QQ,PY] gY 313 [0] (b1 (aP iF)) func390 fun x b=>Ze x b
def PO:aU Z:=vX [PY,GX,Lm,UA,PH] [] (aj (bn gY) (a1 (kJ 313 [0]))) (b1 (aP iF)) (R1 aG) [0] func292 1 fun a=>.ret (a.1.1.any fun(x:dU)=>(Ze x a.2))
def aEK (x:bu)(p:dC):Pg Bool:=.br (p.Enums.any fun(x_1:dU)=>Ze x_1 x) (.ret true) (.ret (aFF x.Ops))
def aip (x:bu)(p:dC):=(aEK x p).val
def Zg:aU Z:=vX [GK,ML,Rq,PO,PY,aCd,abY] [] (aj (aF iF) (a1 (iM 0))) (b1 (aP dX)) (R1 aG) [0] func312 1 (u11 aEK)
def ahB:aU Z:=GG [Zg] jk 312 [0] (b1 (aP dX)) func134 bU fun x b=>aip x b
def afS:aU Z:=EAB [wU,MC,U0,abB,ahB,Zg] jk 312 [0] (b1 (aP dX)) func389 fun x b=>aip x b
def ag0:aU Z:=vX [Zg,LK,TV,aab,afS] [] (aj (bn jk) (a1 (kJ 312 [0]))) (b1 (aP dX)) (R1 aG) [0] func290 1 fun a=>.ret (a.1.1.any fun(x:bu)=>(aip x a.2))
def aGF (x:dU):Pg Bool:=.ret (avQ x.Items)
def aiO (x:dU):=(aGF x).val
def abq:aU Z:=E0 [asl,K_] [] (a1 (aF jM)) (R1 aG) [] func316 1 aGF
def afk:aU Z:=EI [abq] gY 316 func191 nD aiO
def ahj:aU Z:=EA [BI,CS,Ic,L_,UM,QQ,afk,abq] gY 316 func390 aiO
def agv:aU Z:=E0 [abq,GX,Lm,UA,PH,ahj] [] (aj (bn gY) (a1 (kJ 316 []))) (R1 aG) [] func292 1 fun a=>.ret (a.1.any fun(x:dU)=>(aiO x))
def arJ (p:dC):Pg Bool:=.br (p.a_.any fun(x:bu)=>aip x p) (.ret true) (.ret (p.Enums.any fun(x:dU)=>aiO x))
def awX (p:dC):=(arJ p).val
def aoM:aU Z:=E0 [Lp,UO,ZX,ag0,GK,ML,Rq,PO,agv,Zg,abq] [] (a1 (aF dX)) (R1 aG) [] func212 1 arJ
def az4 (x:Op):Pg Bool:=.br (decide (x.Num < 1)) (.ret true) (.ret (decide (65535 < x.Num)))
def aa1 (x:Op):=(az4 x).val
def QA:aU Z:=E0 [] [] (a1 (aF je)) (R1 aG) [] func320 1 az4
def aaJ:aU Z:=EI [QA] nG 320 func374 zT aa1
def aap:aU Z:=EA [QA,Nr,KP,Q3,aaJ] nG 320 func391 aa1
def abM:aU Z:=E0 [QA,JU,P9,aap] [] (aj (bn nG) (a1 (kJ 320 []))) (R1 aG) [] func296 1 fun a=>.ret (a.1.any fun(x:Op)=>(aa1 x))
def aF6 (x:bu):Pg Bool:=.ret (x.Ops.any fun(x:Op)=>aa1 x)
def aiq (x:bu):=(aF6 x).val
def Zf:aU Z:=E0 [IU,Qh,abM,QA] [] (a1 (aF iF)) (R1 aG) [] func319 1 aF6
def anM:aU Z:=EI [Zf] jk 319 func134 bU aiq
def anE:aU Z:=EA [wU,MC,U0,abB,ahB,anM,Zf] jk 319 func389 aiq
def aqH:aU Z:=E0 [Zf,LK,TV,aab,afS,anE] [] (aj (bn jk) (a1 (kJ 319 []))) (R1 aG) [] func290 1 fun a=>.ret (a.1.any fun(x:bu)=>(aiq x))
def aFB (x:Item)(e:dU):Pg Bool:=.br (decide (2147483647 < x.Num)) (.ret true) (.ret (Ie e.Reserved x.Num))
def akk (x:Item)(e:dU):=(aFB x e).val
def aag:aU Z:=vX [Dz] [] (aj (aF lS) (a1 (iM 0))) (b1 (aP jM)) (R1 aG) [0] func394 1 (u11 aFB)
def atp:aU Z:=GG [aag] g_ 394 [0] (b1 (aP jM)) func251 oU fun x b=>akk x b
def asI:aU Z:=EAB [MG,TC,Ji,QT,Ll,atp,aag] g_ 394 [0] (b1 (aP jM)) func171 fun x b=>akk x b
def aoi:aU Z:=vX [Nj,Ru,Jr,QV,LU,asI,aag] [] (aj (bn g_) (a1 (kJ 394 [0]))) (b1 (aP jM)) (R1 aG) [0] func300 1 fun a=>.ret (a.1.1.any fun(x:Item)=>(akk x a.2))
def ouC (x:dU):Pg Bool:=aL x.Reserved (.each false tX x.Reserved DZ (fun i1 a3 (y2:Unit)=> .ix i1 x.Reserved.length (.br (decide (a3.From < 0)) (.ret (.inr true)) (.br (decide (2147483647 < a3.To)) (.ret (.inr true)) (.br (decide (a3.To < a3.From)) (.ret (.inr true)) (.br (decide (0 < i1)) (.lt (dD .i64 (i1 - 1)) fun(v4:Int)=> .ix v4 x.Reserved.length (.br (decide (a3.From<=(x.Reserved.getD v4.toNat DZ).To)) (.ret (.inr true)) (rl ()))) (rl ())))))) (fun i1 (y2:Unit)=> .ix 0 x.Items.length (.br ((x.Items.getD 0 oU).Num !=0) (.ret true) (.ret (x.Items.any fun(x_1:Item)=>akk x_1 x)))) ())
def aex (x:dU):=(ouC x).val
def aiK:aU Z:=E1 [Qo,MI,aoi,aag] [jS 2 (bP (fun sl=>[s0 8]) (l1 cI))] (a1 (aF jM)) (R1 aG) [] func321 1 ouC fun a=>0 < a.Items.length
def ouI (l:List dU):Pg Int:=aL l (.each false tX l nD (fun i1 a3 (y2:Unit)=> .ix i1 l.length (.ob (0 < a3.Items.length) (.br (aex a3) (.ret (.inr i1)) (rl ())))) (fun i1 (y2:Unit)=> .ret (-1)) ())
theorem aC7 (l:List dU)(h:∀x∈l,0 < x.Items.length):Is (ouI l):=
 iH fun _=>gU (.inr au) (fun i1 y2 _ _=>dm au au (aX ((h _ (getD_mem au))) (di iR iR))) (fun y2 _=>aT)
def azV:aU Z:=E2 [aiK] [jS 2 (bP (fun sl=>[s0 8]) (l1 cI))] (aj (bn gY) (a1 (kJ 321 []))) (R1 cI) [] func191 1 (fun a=>ouI a.1) (fun a=>some (∀x∈a.1,0 < x.Items.length)) (fun a=>fG (fun(x:dU)=>(aex x)) a.1) fun a h=>⟨aC7 a.1 h,(fun(l:List dU) _=>o5 (fun(x:dU)=>(aex x)) l 0) a.1 h⟩
def ouA (l:List dU):Pg Bool:=.ob (∀(x:dU),x∈l->0 < x.Items.length) (.lt (fG (fun(x:dU)=>aex x) l) fun(v1:Int)=> .ret (decide (0<=v1)))
theorem aCX (l:List dU)(h:∀x∈l,0 < x.Items.length):Is (ouA l):=
 aX (h) (dB fun v1 hv1=>aT)
def azZ:aU Z:=E2 [BI,CS,Ic,L_,UM,QQ,afk,azV,aiK] [] (aj (bn gY) (a1 (kJ 321 []))) (R1 aG) [] func390 1 (fun a=>ouA a.1) (fun a=>some (∀x∈a.1,0 < x.Items.length)) (fun a=>a.1.any fun(x:dU)=>(aex x)) fun a h=>⟨aCX a.1 h,(fun(l:List dU) _=>pY _ l) a.1 h⟩
def ouO (l:List dU):Pg Bool:=.ob (∀(x:dU),x∈l->0 < x.Items.length) (.ret (l.any fun(x:dU)=>aex x))
theorem aBG (l:List dU)(h:∀x∈l,0 < x.Items.length):Is (ouO l):=
 aX (h) (aT)
def azh:aU Z:=E2 [aiK,GX,Lm,UA,PH,ahj,azZ] [] (aj (bn gY) (a1 (kJ 321 []))) (R1 aG) [] func292 1 (fun a=>ouO a.1) (fun a=>some (∀x∈a.1,0 < x.Items.length)) (fun a=>a.1.any fun(x:dU)=>(aex x)) fun a h=>⟨aBG a.1 h,rfl⟩
def ai6 (p:dC):Pg Bool:=.br (p.a_.any fun(x:bu)=>aiq x) (.ret true) (.ob (∀(x:dU),x∈p.Enums->0 < x.Items.length) (.ret (p.Enums.any fun(x:dU)=>aex x)))
def aqn (p:dC):=(ai6 p).val
def al8:aU Z:=E1 [Lp,UO,ZX,ag0,aqH,GK,ML,Rq,PO,agv,azh,Zf,aiK] [] (a1 (aF dX)) (R1 aG) [] func213 1 ai6 fun a=>∀x∈a.Enums,0 < x.Items.length
def ao5 (o:Op):Pg Bool:=.br (o.Card !=5) (.ret (o.Key==0)) (.br (decide (1<=o.Key)) (.br (decide (o.Key<=7)) (.ret (o.Key !=6)) (.ret false)) (.ret false))
def axs (o:Op):=(ao5 o).val
def apF:aU Z:=E0 [] [] (a1 (aF je)) (R1 aG) [] func325 1 ao5
def apC (p:dC)(o:Op):Pg Bool:=.br (o.Kind==10) (.br (decide (0<=o.Target)) (.br (decide (o.Target < (↑p.a_.length:Int))) (aL p.a_ (.ret (o.Card !=3))) (aL p.a_ (.ret false))) (.ret false)) (.br (o.Kind==9) (.br (decide (0<=o.Target)) (aL p.Enums (.ret (decide (o.Target < (↑p.Enums.length:Int))))) (.ret false)) (.br (jQ o.Kind) (.ret (o.Target==(-1))) (.ret false)))
def axR (p:dC)(o:Op):=(apC p o).val
def apk:aU Z:=E0 [Yc] [] (aj (aF dX) (a1 (aF je))) (R1 aG) [] func326 1 (u2 apC)
def aiy (g:bu):Pg Bool:=aL g.Ops (.each false qw g.Ops zT (fun i1 a3 (y2:Int×Int)=> .ix i1 g.Ops.length (.br (a3.Union !=(-1)) (.br (a3.Card !=2) (.ret (.inr false)) (.lt (dD .i64 (y2.1+1)) fun(v4:Int)=> .br (a3.Union !=v4) (.br (a3.Union !=y2.2) (.ret (.inr false)) (rl (max y2.1 a3.Union,a3.Union))) (rl (max y2.1 a3.Union,a3.Union)))) (rl (max y2.1 a3.Union,a3.Union)))) (fun i1 (y2:Int×Int)=> .ret (g.VK==dD .i64 (y2.1+1))) ((-1),(-1)))
def apG (g:bu):=(aiy g).val
def aly:aU Z:=E0 [] [jS 3 (bP (fun sl=>[s0 10, s0 3, s0 4]) (az cI (az cI (l1 cI))))] (a1 (aF iF)) (R1 aG) [] func323 1 aiy
def azf (x:Op)(p:dC):Pg Bool:=.ob (List.length x.Alias<=9223372036854775700) (.br (!BG x.Alias) (.ret true) (.br (decide (4096 < (↑(List.length x.Alias):Int))) (.ret true) (.br (decide (x.Card < 1)) (.ret true) (.br (decide (5 < x.Card)) (.ret true) (.br (!axs x) (.ret true) (.ret !axR p x))))))
def DX (x:Op)(p:dC):=(azf x p).val
def QH:aU Z:=EK [zK,apF,apk] [] (aj (aF je) (a1 (iM 0))) (b1 (aP dX)) (R1 aG) [0] func324 1 (u11 azf) fun a=>a.1.1.Alias.length<=1048576
def az9 (l:List Op)(p:dC):Pg Int:=aL l (.each false tX l zT (fun i1 a3 (y2:Unit)=> .ix i1 l.length (.ob (List.length a3.Alias<=1048576) (.br (DX a3 p) (.ret (.inr i1)) (rl ())))) (fun i1 (y2:Unit)=> .ret (-1)) ())
theorem aqo (l:List Op)(p:dC)(h:∀x∈l,x.Alias.length<=1048576):Is (az9 l p):=
 iH fun _=>gU (.inr au) (fun i1 y2 _ _=>dm au au (aX ((h _ (getD_mem au))) (di iR iR))) (fun y2 _=>aT)
def ai7:aU Z:=O6 [QH] [jS 2 (bP (fun sl=>[s0 8]) (l1 cI))] (aj (bn nG) (a1 (kJ 324 [0]))) (b1 (aP dX)) (R1 cI) [0] func374 1 (u11 az9) (fun a=>some (∀x∈a.1.1,x.Alias.length<=1048576)) (fun a=>fG (fun(x:Op)=>(DX x a.2)) a.1.1) fun a h=>⟨aqo a.1.1 a.2 h,(fun(l:List Op) p _=>o5 (fun(x:Op)=>(DX x p)) l 0) a.1.1 a.2 h⟩
def az0 (l:List Op)(p:dC):Pg Bool:=.ob (∀(x:Op),x∈l->List.length x.Alias<=1048576) (.lt (fG (fun(x:Op)=>DX x p) l) fun(v1:Int)=> .ret (decide (0<=v1)))
theorem arF (l:List Op)(p:dC)(h:∀x∈l,x.Alias.length<=1048576):Is (az0 l p):=
 aX (h) (dB fun v1 hv1=>aT)
def ajE:aU Z:=O6 [QH,Nr,KP,Q3,aaJ,ai7] [] (aj (bn nG) (a1 (kJ 324 [0]))) (b1 (aP dX)) (R1 aG) [0] func391 1 (u11 az0) (fun a=>some (∀x∈a.1.1,x.Alias.length<=1048576)) (fun a=>a.1.1.any fun(x:Op)=>(DX x a.2)) fun a h=>⟨arF a.1.1 a.2 h,(fun(l:List Op) p _=>pY _ l) a.1.1 a.2 h⟩
def ay2 (l:List Op)(p:dC):Pg Bool:=.ob (∀(x:Op),x∈l->List.length x.Alias<=1048576) (.ret (l.any fun(x:Op)=>DX x p))
theorem arA (l:List Op)(p:dC)(h:∀x∈l,x.Alias.length<=1048576):Is (ay2 l p):=
 aX (h) (aT)
def ai3:aU Z:=O6 [QH,JU,P9,aap,ajE] [] (aj (bn nG) (a1 (kJ 324 [0]))) (b1 (aP dX)) (R1 aG) [0] func296 1 (u11 ay2) (fun a=>some (∀x∈a.1.1,x.Alias.length<=1048576)) (fun a=>a.1.1.any fun(x:Op)=>(DX x a.2)) fun a h=>⟨arA a.1.1 a.2 h,rfl⟩
def aE4 (x:bu)(p:dC):Pg Bool:=.br (!apG x) (.ret true) (.ob (∀(x_1:Op),x_1∈x.Ops->List.length x_1.Alias<=1048576) (.ret (x.Ops.any fun(x:Op)=>DX x p)))
def Oa (x:bu)(p:dC):=(aE4 x p).val
def Y8:aU Z:=EK [IU,Qh,abM,ai3,aly,QH] [] (aj (aF iF) (a1 (iM 0))) (b1 (aP dX)) (R1 aG) [0] func322 1 (u11 aE4) fun a=>∀o∈a.1.1.Ops,o.Alias.length<=1048576
def aGR (l:List bu)(p:dC):Pg Int:=aL l (.each false tX l bU (fun i1 a3 (y2:Unit)=> .ix i1 l.length (.ob (∀(o:Op),o∈a3.Ops->List.length o.Alias<=1048576) (.br (Oa a3 p) (.ret (.inr i1)) (rl ())))) (fun i1 (y2:Unit)=> .ret (-1)) ())
theorem axp (l:List bu)(p:dC)(h:∀x∈l,∀o∈x.Ops,o.Alias.length<=1048576):Is (aGR l p):=
 iH fun _=>gU (.inr au) (fun i1 y2 _ _=>dm au au (aX ((h _ (getD_mem au))) (di iR iR))) (fun y2 _=>aT)
def aC9:aU Z:=O6 [Y8] [jS 2 (bP (fun sl=>[s0 8]) (l1 cI))] (aj (bn jk) (a1 (kJ 322 [0]))) (b1 (aP dX)) (R1 cI) [0] func134 1 (u11 aGR) (fun a=>some (∀x∈a.1.1,∀o∈x.Ops,o.Alias.length<=1048576)) (fun a=>fG (fun(x:bu)=>(Oa x a.2)) a.1.1) fun a h=>⟨axp a.1.1 a.2 h,(fun(l:List bu) p _=>o5 (fun(x:bu)=>(Oa x p)) l 0) a.1.1 a.2 h⟩
def aE2 (l:List bu)(p:dC):Pg Bool:=.ob (∀(x:bu),x∈l->∀(o:Op),o∈x.Ops->List.length o.Alias<=1048576) (.lt (fG (fun(x:bu)=>Oa x p) l) fun(v1:Int)=> .ret (decide (0<=v1)))
theorem av_ (l:List bu)(p:dC)(h:∀x∈l,∀o∈x.Ops,o.Alias.length<=1048576):Is (aE2 l p):=
 aX (h) (dB fun v1 hv1=>aT)
def aBU:aU Z:=O6 [wU,MC,U0,abB,ahB,anM,aC9,Y8] [] (aj (bn jk) (a1 (kJ 322 [0]))) (b1 (aP dX)) (R1 aG) [0] func389 1 (u11 aE2) (fun a=>some (∀x∈a.1.1,∀o∈x.Ops,o.Alias.length<=1048576)) (fun a=>a.1.1.any fun(x:bu)=>(Oa x a.2)) fun a h=>⟨av_ a.1.1 a.2 h,(fun(l:List bu) p _=>pY _ l) a.1.1 a.2 h⟩
def aFd (l:List bu)(p:dC):Pg Bool:=.ob (∀(x:bu),x∈l->∀(o:Op),o∈x.Ops->List.length o.Alias<=1048576) (.ret (l.any fun(x:bu)=>Oa x p))
theorem avz (l:List bu)(p:dC)(h:∀x∈l,∀o∈x.Ops,o.Alias.length<=1048576):Is (aFd l p):=
 aX (h) (aT)
def aBy:aU Z:=O6 [Y8,LK,TV,aab,afS,anE,aBU] [] (aj (bn jk) (a1 (kJ 322 [0]))) (b1 (aP dX)) (R1 aG) [0] func290 1 (u11 aFd) (fun a=>some (∀x∈a.1.1,∀o∈x.Ops,o.Alias.length<=1048576)) (fun a=>a.1.1.any fun(x:bu)=>(Oa x a.2)) fun a h=>⟨avz a.1.1 a.2 h,rfl⟩
def azQ (x:Item):Pg Bool:=.br (decide (1 < (↑x.Notes.length:Int))) (.ret true) (.br ((↑x.Notes.length:Int)==1) (.ix 0 x.Notes.length (.br ((x.Notes.getD 0 Nu).Name !=[97,108,105,97,115]) (.ret true) (.ret (ajo x.Notes (4:Int) !=0)))) (.ret false))
def aa9 (x:Item):=(azQ x).val
def QB:aU Z:=E0 [adI] [] (a1 (aF lS)) (R1 aG) [] func328 1 azQ
def awr:aU Z:=EI [QB] g_ 328 func251 oU aa9
def awV:aU Z:=EA [MG,TC,Ji,QT,Ll,atp,awr,QB] g_ 328 func171 aa9
def awo:aU Z:=E0 [Nj,Ru,Jr,QV,LU,asI,awV,QB] [] (aj (bn g_) (a1 (kJ 328 []))) (R1 aG) [] func300 1 fun a=>.ret (a.1.any fun(x:Item)=>(aa9 x))
def aFR (x:dU):Pg Bool:=.br (decide (0 < (↑x.Notes.length:Int))) (.ret true) (.ret (x.Items.any fun(x:Item)=>aa9 x))
def aj1 (x:dU):=(aFR x).val
def aaz:aU Z:=E0 [Qo,MI,aoi,awo,QB] [] (a1 (aF jM)) (R1 aG) [] func327 1 aFR
def aBm:aU Z:=EI [aaz] gY 327 func191 nD aj1
def aCg:aU Z:=EA [BI,CS,Ic,L_,UM,QQ,afk,azV,aBm,aaz] gY 327 func390 aj1
def aAF:aU Z:=E0 [aaz,GX,Lm,UA,PH,ahj,azZ,aCg] [] (aj (bn gY) (a1 (kJ 327 []))) (R1 aG) [] func292 1 fun a=>.ret (a.1.any fun(x:dU)=>(aj1 x))
def asV (p:dC):Pg Bool:=.ob (∀(x:bu),x∈p.a_->∀(o:Op),o∈x.Ops->List.length o.Alias<=1048576) (.br (p.a_.any fun(x:bu)=>Oa x p) (.ret true) (.ret (p.Enums.any fun(x:dU)=>aj1 x)))
def awD (p:dC):=(asV p).val
def aty:aU Z:=E1 [Lp,UO,ZX,ag0,aqH,aBy,GK,ML,Rq,PO,agv,azh,aAF,Y8,aaz] [] (a1 (aF dX)) (R1 aG) [] func214 1 asV fun a=>∀x∈a.a_,∀o∈x.Ops,o.Alias.length<=1048576
def aF_ (x:Op)(fin:List Bool):Pg Bool:=.br (x.Card==1) (.br (x.Kind==10) (.ix x.Target fin.length (.ob (x.Target.toNat < fin.length) (.ret !fin.getD x.Target.toNat false))) (.ret false)) (.ret false)
def OV (x:Op)(fin:List Bool):=(aF_ x fin).val
def abA:aU Z:=EK [] [] (aj (aF je) (a1 (iM 0))) (iC (ZU 1) (b1 (j_ 4 D.bool oK))) (R1 aG) [0,1] func329 1 (fun a=>aF_ a.1.1 a.2.2) fun a=>a.1.1.Kind=10->0<=a.1.1.Target/\a.1.1.Target < a.2.2.length
def aFY (l:List Op)(fin:List Bool):Pg Int:=aL l (.each false tX l zT (fun i1 a3 (y2:Unit)=> .ix i1 l.length (.ob (a3.Kind=10->0<=a3.Target/\a3.Target < (↑fin.length:Int)) (.br (OV a3 fin) (.ret (.inr i1)) (rl ())))) (fun i1 (y2:Unit)=> .ret (-1)) ())
theorem awZ (l:List Op)(fin:List Bool)(h:∀x∈l,x.Kind=10->0<=x.Target/\x.Target < fin.length):Is (aFY l fin):=
 iH fun _=>gU (.inr au) (fun i1 y2 _ _=>dm au au (aX ((h _ (getD_mem au))) (di iR iR))) (fun y2 _=>aT)
def aA_:aU Z:=O6 [abA] [jS 2 (bP (fun sl=>[s0 8]) (l1 cI))] (aj (bn nG) (a1 (kJ 329 [0]))) (iC (ZU 1) (b1 (j_ 4 D.bool oK))) (R1 cI) [0,1] func374 1 (fun a=>aFY a.1.1 a.2.2) (fun a=>some (∀x∈a.1.1,x.Kind=10->0<=x.Target/\x.Target < a.2.2.length)) (fun a=>fG (fun(x:Op)=>(OV x a.2.2)) a.1.1) fun a h=>⟨awZ a.1.1 a.2.2 h,(fun(l:List Op) fin _=>o5 (fun(x:Op)=>(OV x fin)) l 0) a.1.1 a.2.2 h⟩
def aF5 (l:List Op)(fin:List Bool):Pg Bool:=.ob (∀(x:Op),x∈l->x.Kind=10->0<=x.Target/\x.Target < (↑fin.length:Int)) (.lt (fG (fun(x:Op)=>OV x fin) l) fun(v1:Int)=> .ret (decide (0<=v1)))
theorem aw7 (l:List Op)(fin:List Bool)(h:∀x∈l,x.Kind=10->0<=x.Target/\x.Target < fin.length):Is (aF5 l fin):=
 aX (h) (dB fun v1 hv1=>aT)
def aC1:aU Z:=O6 [abA,Nr,KP,Q3,aaJ,ai7,aA_] [] (aj (bn nG) (a1 (kJ 329 [0]))) (iC (ZU 1) (b1 (j_ 4 D.bool oK))) (R1 aG) [0,1] func391 1 (fun a=>aF5 a.1.1 a.2.2) (fun a=>some (∀x∈a.1.1,x.Kind=10->0<=x.Target/\x.Target < a.2.2.length)) (fun a=>a.1.1.any fun(x:Op)=>(OV x a.2.2)) fun a h=>⟨aw7 a.1.1 a.2.2 h,(fun(l:List Op) fin _=>pY _ l) a.1.1 a.2.2 h⟩
def aFX (l:List Op)(fin:List Bool):Pg Bool:=.ob (∀(x:Op),x∈l->x.Kind=10->0<=x.Target/\x.Target < (↑fin.length:Int)) (.ret (l.any fun(x:Op)=>OV x fin))
theorem awv (l:List Op)(fin:List Bool)(h:∀x∈l,x.Kind=10->0<=x.Target/\x.Target < fin.length):Is (aFX l fin):=
 aX (h) (aT)
def aBX:aU Z:=O6 [abA,JU,P9,aap,ajE,aC1] [] (aj (bn nG) (a1 (kJ 329 [0]))) (iC (ZU 1) (b1 (j_ 4 D.bool oK))) (R1 aG) [0,1] func296 1 (fun a=>aFX a.1.1 a.2.2) (fun a=>some (∀x∈a.1.1,x.Kind=10->0<=x.Target/\x.Target < a.2.2.length)) (fun a=>a.1.1.any fun(x:Op)=>(OV x a.2.2)) fun a h=>⟨awv a.1.1 a.2.2 h,rfl⟩
def ixB (l:List Bool)(v:Bool):Pg Int:=aL l (.each false tX l false (fun i1 a3 (y2:Unit)=> .ix i1 l.length (.br (v==a3) (.ret (.inr i1)) (rl ()))) (fun i1 (y2:Unit)=> .ret (-1)) ())
theorem aCF (l:List Bool)(v:Bool):Is (ixB l v):=
 iH fun _=>gU (.inr au) (fun i1 y2 _ _=>dm au au (di iR iR)) (fun y2 _=>aT)
def aEM:aU Z:=E2 [] [jS 2 (bP (fun sl=>[s0 8]) (l1 cI))] (aj (bn zI) (a1 (bn aG))) (R1 cI) [] func395 1 (u2 ixB) (fun a=>none) (fun a=>fG (fun(x:Bool)=>a.2==x) a.1) fun a h=>⟨aCF a.1 a.2,(fun(l:List Bool) (v:Bool)=>o5 (fun(x:Bool)=>v==x) l 0) a.1 a.2⟩
def coB (l:List Bool)(v:Bool):Pg Bool:=.lt (fG (fun(x:Bool)=>v==x) l) fun(v1:Int)=> .ret (decide (0<=v1))
theorem aCp (l:List Bool)(v:Bool):Is (coB l v):=
 dB fun v1 hv1=>aT
def aGx:aU Z:=E2 [aEM] [] (aj (bn zI) (a1 (bn aG))) (R1 aG) [] func330 1 (u2 coB) (fun a=>none) (fun a=>a.1.any fun(x:Bool)=>a.2==x) fun a h=>⟨aCp a.1 a.2,(fun(l:List Bool) (v:Bool)=>pY (fun(x:Bool)=>v==x) l) a.1 a.2⟩
def Ui (p:dC):Pg Bool:=.ob ((↑p.a_.length:Int)=(↑p.a_.length:Int)/\ 0<=(↑p.a_.length:Int)/\(↑p.a_.length:Int)*(1:Int)<=281474976710656/\(↑p.a_.length:Int)<=1099511627776) (aL p.a_ (aL p.a_ (.cnt qw 0 (↑p.a_.length:Int) (fun i1 (y2:List Bool)=> aL p.a_ (.each false qw p.a_ bU (fun i3 a5 (y4:List Bool)=> .ix i3 p.a_.length (.ix i3 y4.length (.ob (i3.toNat < y4.length) (.br (y4.getD i3.toNat false) (.ix i3 y4.length (.ob (i3.toNat < y4.length) (rl (y4.set i3.toNat true)))) (.ob (∀(x:Op),x∈a5.Ops->x.Kind=10->0<=x.Target/\x.Target < (↑y4.length:Int)) (.ix i3 y4.length (.ob (i3.toNat < y4.length) (rl (y4.set i3.toNat !a5.Ops.any fun(x:Op)=>OV x y4))))))))) (fun i3 (y4:List Bool)=> rl y4) y2)) (fun i1 (y2:List Bool)=> .ret (y2.any fun(x:Bool)=>false==x)) (List.replicate p.a_.length false))))
def alb (p:dC):=(Ui p).val
theorem abJ (p:dC)(h:p.a_.length<=1048576/\gu p):jP (Ui p) (fun _=>True):=
 ak (qa4) (bZ <| bZ <| vO (fun(i1:Int) y2=>y2.length=p.a_.length) oJ au au (fun i1 y2 aIe aIf rD=>have hI:y2.length=p.a_.length:=rD;bZ <| df (fun(i3:Nat) y4=>y4.length=p.a_.length) (by exact hI) au (fun i3 y4 aHo aD1=>have hI:y4.length=p.a_.length:=aD1;bi au au (bi au au (ak (qa4) (dR (fun _=>bi au au (ak (qa4) (ah qbb))) (fun _=>ak (qa4) (bi au au (ak (qa4) (ah qbb)))))))) (fun y4 hI=>have hI:y4.length=p.a_.length:=hI;ah qbb)) (fun i1 y2 _ hge hI=>have hI:y2.length=p.a_.length:=hI;ah qbb))
def afg:aU Z:=E1 [IU,Qh,abM,ai3,aBX,abA,aGx] [jS 3 (bP (fun sl=>[s0 13, .row (pid (sl 9)) 4]) (az cI (l1 zI))),jS 5 (bP (fun sl=>[s0 18, .row (pid (sl 9)) 4]) (az cI (l1 zI)))] (a1 (aF dX)) (R1 aG) [] func215 1 Ui (fun a=>a.a_.length<=1048576/\gu a) fun a h=>(abJ a h).1
theorem WT {p:dC}(h:MM p=false):∀x∈p.Enums,0 < x.Items.length:=by
 intro x hx;unfold MM Rw at h;simp only[kN,bH,aV,Qb6]at h;have k:(p.Enums.any fun x=>YL x)=false:=by
  (repeat' split at h)<;>first | exact h | cases h
 have k2:=Qck.1 k x hx;rcases Qcz x.Items.length with e | e
 ·refine absurd ?_ k2;unfold YL aAT;simp only[kN,bH,aV];rw[qW (show(x.Items.length:Int) < 1 by omega)];rfl
 ·exact e
def afY (p:dC):Pg Int:=.br (MM p) (.ret 3) (.ob ((∀(x:bu),x∈p.a_->List.length x.Name<=4294967296)/\∀(x:dU),x∈p.Enums->List.length x.Name<=4294967296) (.br (ahg p) (.ret 8) (.br (acv p) (.ret 11) (.br (awX p) (.ret 9) (.ob (∀(x:dU),x∈p.Enums->0 < x.Items.length) (.br (aqn p) (.ret 6) (.ob (∀(x:bu),x∈p.a_->∀(o:Op),o∈x.Ops->List.length o.Alias<=1048576) (.br (awD p) (.ret 1) (.ob (p.a_.length<=1048576/\gu p) (.br (alb p) (.ret 19) (.ret 0)))))))))))
def ax4 (p:dC):=(afY p).val
theorem alT (p:dC)(h:Gp p/\gu p):Is (afY p):=
 di iR (fun hl=>aX ⟨h.1.2.1,h.1.2.2.1⟩ (di iR (fun _=>di iR (fun _=>di iR (fun _=>aX (WT hl) (di iR (fun _=>aX h.1.2.2.2 (di iR (fun _=>aX ⟨h.1.1,h.2⟩ (di iR iR))))))))))
def aq2:aU Z:=E1 [agO,aeY,Zw,aoM,al8,aty,afg] [] (a1 (aF dX)) (R1 cI) [] func139 1 afY (fun a=>Gp a/\gu a) fun a h=>alT a h
def clV (l:List af):Pg (List af):=.unk false (fun(b:Bool)=>b=true->l.length=0) (.ret []) (.ob (bT (0+l.length) 128) (.ret l))
theorem aAV (l:List af)(h:l.length<=1048576):Is (clV l):=
 qI (b_ au au)
def azv:aU Z:=E2 [] [] (a1 (bn jh)) (shr [.slot 0 false [some 77]] (l1 jh)) [] func335 1 clV (fun a=>some (a.length<=1048576)) (fun a=>a) fun a h=>⟨aAV a h,rfl⟩
theorem JC {g:bu}{num:Int}(h:(lM g num).2=true):(lM g num).1∈g.Ops:=by
 have hl:=(lF (fun(x:Op)=>aeV x num) g.Ops).1;unfold lM pOp aoj ajF at h⊢;simp only[dE,bH,iV,aV]at h⊢;by_cases h0:fG (fun(x:Op)=>aeV x num) g.Ops < 0
 ·rw[qW h0]at h;cases h
 ·rw[qo h0];exact getD_mem au
theorem o6 {A:Type}{P:A->Prop}{l m:List A}(h:∀z∈l,P z)(k:∀z∈m,P z):∀z∈l++m,P z:=fun z hz=>(tY.1 hz).elim (h z) (k z)
theorem kG {A:Type}{P:A->Prop}{a:A}(h:P a):∀z∈[a],P z:=fun z hz=>by rw[Aj.1 hz];exact h
theorem ajN {A:Type}{P:A->Prop}{a b:A}(h:P a)(k:P b):∀z∈[a,b],P z:=fun z hz=>by
 rcases yR.1 hz with e | e
 ·rw[e];exact h
 ·rw[Aj.1 e];exact k
theorem avu {v x:af}(h:x∈v.List):tV x < tV v:=by
 have:=ajP h;have:=iy v;omega
theorem akY {v:af}{x:Pair}(h:x∈v.Pairs):tV x.Key < tV v/\tV x.Val < tV v:=by
 have:=aiX h;have:=iy v;omega
theorem au7 {v:af}{x:Slot}(h:x∈v.Slots):tV x.Val < tV v:=by
 have:=ZZ h;have:=iy v;omega
theorem aGB {v:af}(h:tV v<=1048576):v.bJ.length<=1048576/\v.Slots.length<=1048576/\v.List.length<=1048576/\v.Pairs.length<=1048576:=by
 have h1:=iy v;have h2:=IG v.bJ;have h3:=PX v.Slots;have h4:=J6 v.List;have h5:=EO v.Pairs;omega
def at1 (v:af):Pg Bool:=.lt (dD .i64 ((↑v.Slots.length:Int)+(↑v.bJ.length:Int))) fun(v1:Int)=> .br (v.Kind==7) (.br (v.Kind !=11) (.br (decide (0 < (↑v.List.length:Int))) (.ret true) (.br (v.Kind !=12) (.br (decide (0 < (↑v.Pairs.length:Int))) (.ret true) (.br (v.Kind !=10) (.br (decide (0 < v1)) (aL v.Slots (aL v.bJ (.ret true))) (.br (v.Bits !=0) (aL v.Slots (aL v.bJ (.ret true))) (.br (v.Text !=[]) (aL v.Slots (aL v.bJ (.ret false))) (aL v.Slots (aL v.bJ (.ret false)))))) (.br (v.Bits !=0) (.ret true) (.br (v.Text !=[]) (.ret false) (.ret false))))) (.br (v.Kind !=10) (.br (decide (0 < v1)) (aL v.Slots (aL v.bJ (.ret true))) (.br (v.Bits !=0) (aL v.Slots (aL v.bJ (.ret true))) (.br (v.Text !=[]) (aL v.Slots (aL v.bJ (.ret false))) (aL v.Slots (aL v.bJ (.ret false)))))) (.br (v.Bits !=0) (.ret true) (.br (v.Text !=[]) (.ret false) (.ret false)))))) (.br (v.Kind !=12) (.br (decide (0 < (↑v.Pairs.length:Int))) (.ret true) (.br (v.Kind !=10) (.br (decide (0 < v1)) (aL v.Slots (aL v.bJ (.ret true))) (.br (v.Bits !=0) (aL v.Slots (aL v.bJ (.ret true))) (.br (v.Text !=[]) (aL v.Slots (aL v.bJ (.ret false))) (aL v.Slots (aL v.bJ (.ret false)))))) (.br (v.Bits !=0) (.ret true) (.br (v.Text !=[]) (.ret false) (.ret false))))) (.br (v.Kind !=10) (.br (decide (0 < v1)) (aL v.Slots (aL v.bJ (.ret true))) (.br (v.Bits !=0) (aL v.Slots (aL v.bJ (.ret true))) (.br (v.Text !=[]) (aL v.Slots (aL v.bJ (.ret false))) (aL v.Slots (aL v.bJ (.ret false)))))) (.br (v.Bits !=0) (.ret true) (.br (v.Text !=[]) (.ret false) (.ret false)))))) (.br (v.Kind !=11) (.br (decide (0 < (↑v.List.length:Int))) (.ret true) (.br (v.Kind !=12) (.br (decide (0 < (↑v.Pairs.length:Int))) (.ret true) (.br (v.Kind !=10) (.br (decide (0 < v1)) (aL v.Slots (aL v.bJ (.ret true))) (.br (v.Bits !=0) (.br (v.Kind==8) (aL v.Slots (aL v.bJ (.ret true))) (.br (decide (10<=v.Kind)) (.br (decide (v.Kind<=12)) (aL v.Slots (aL v.bJ (.ret true))) (.br (v.Text !=[]) (aL v.Slots (aL v.bJ (.ret !v.Kind==8))) (aL v.Slots (aL v.bJ (.ret false))))) (.br (v.Text !=[]) (aL v.Slots (aL v.bJ (.ret !v.Kind==8))) (aL v.Slots (aL v.bJ (.ret false)))))) (.br (v.Text !=[]) (aL v.Slots (aL v.bJ (.ret !v.Kind==8))) (aL v.Slots (aL v.bJ (.ret false)))))) (.br (v.Bits !=0) (.br (v.Kind==8) (.ret true) (.br (decide (10<=v.Kind)) (.br (decide (v.Kind<=12)) (.ret true) (.br (v.Text !=[]) (.ret !v.Kind==8) (.ret false))) (.br (v.Text !=[]) (.ret !v.Kind==8) (.ret false)))) (.br (v.Text !=[]) (.ret !v.Kind==8) (.ret false))))) (.br (v.Kind !=10) (.br (decide (0 < v1)) (aL v.Slots (aL v.bJ (.ret true))) (.br (v.Bits !=0) (.br (v.Kind==8) (aL v.Slots (aL v.bJ (.ret true))) (.br (decide (10<=v.Kind)) (.br (decide (v.Kind<=12)) (aL v.Slots (aL v.bJ (.ret true))) (.br (v.Text !=[]) (aL v.Slots (aL v.bJ (.ret !v.Kind==8))) (aL v.Slots (aL v.bJ (.ret false))))) (.br (v.Text !=[]) (aL v.Slots (aL v.bJ (.ret !v.Kind==8))) (aL v.Slots (aL v.bJ (.ret false)))))) (.br (v.Text !=[]) (aL v.Slots (aL v.bJ (.ret !v.Kind==8))) (aL v.Slots (aL v.bJ (.ret false)))))) (.br (v.Bits !=0) (.br (v.Kind==8) (.ret true) (.br (decide (10<=v.Kind)) (.br (decide (v.Kind<=12)) (.ret true) (.br (v.Text !=[]) (.ret !v.Kind==8) (.ret false))) (.br (v.Text !=[]) (.ret !v.Kind==8) (.ret false)))) (.br (v.Text !=[]) (.ret !v.Kind==8) (.ret false)))))) (.br (v.Kind !=12) (.br (decide (0 < (↑v.Pairs.length:Int))) (.ret true) (.br (v.Kind !=10) (.br (decide (0 < v1)) (aL v.Slots (aL v.bJ (.ret true))) (.br (v.Bits !=0) (.br (v.Kind==8) (aL v.Slots (aL v.bJ (.ret true))) (.br (decide (10<=v.Kind)) (.br (decide (v.Kind<=12)) (aL v.Slots (aL v.bJ (.ret true))) (.br (v.Text !=[]) (aL v.Slots (aL v.bJ (.ret !v.Kind==8))) (aL v.Slots (aL v.bJ (.ret false))))) (.br (v.Text !=[]) (aL v.Slots (aL v.bJ (.ret !v.Kind==8))) (aL v.Slots (aL v.bJ (.ret false)))))) (.br (v.Text !=[]) (aL v.Slots (aL v.bJ (.ret !v.Kind==8))) (aL v.Slots (aL v.bJ (.ret false)))))) (.br (v.Bits !=0) (.br (v.Kind==8) (.ret true) (.br (decide (10<=v.Kind)) (.br (decide (v.Kind<=12)) (.ret true) (.br (v.Text !=[]) (.ret !v.Kind==8) (.ret false))) (.br (v.Text !=[]) (.ret !v.Kind==8) (.ret false)))) (.br (v.Text !=[]) (.ret !v.Kind==8) (.ret false))))) (.br (v.Kind !=10) (.br (decide (0 < v1)) (aL v.Slots (aL v.bJ (.ret true))) (.br (v.Bits !=0) (.br (v.Kind==8) (aL v.Slots (aL v.bJ (.ret true))) (.br (decide (10<=v.Kind)) (.br (decide (v.Kind<=12)) (aL v.Slots (aL v.bJ (.ret true))) (.br (v.Text !=[]) (aL v.Slots (aL v.bJ (.ret !v.Kind==8))) (aL v.Slots (aL v.bJ (.ret false))))) (.br (v.Text !=[]) (aL v.Slots (aL v.bJ (.ret !v.Kind==8))) (aL v.Slots (aL v.bJ (.ret false)))))) (.br (v.Text !=[]) (aL v.Slots (aL v.bJ (.ret !v.Kind==8))) (aL v.Slots (aL v.bJ (.ret false)))))) (.br (v.Bits !=0) (.br (v.Kind==8) (.ret true) (.br (decide (10<=v.Kind)) (.br (decide (v.Kind<=12)) (.ret true) (.br (v.Text !=[]) (.ret !v.Kind==8) (.ret false))) (.br (v.Text !=[]) (.ret !v.Kind==8) (.ret false)))) (.br (v.Text !=[]) (.ret !v.Kind==8) (.ret false))))))
def aaG (v:af):=(at1 v).val
def Ry:aU Z:=E0 [] [] (a1 (aF aI)) (R1 aG) [] func216 1 at1
def aGJ (x:aB)(kind:Int)(enum:Int)(v:af):Pg Int:=.br (v.Kind !=kind) (.ret 12) (.br (aaG v.re) (.ret 12) (.br (decide (4096 < (↑(List.length v.Text):Int))) (.ret 3) (.lt (aig x.p enum v.Bits) fun(v1:Bool)=> .lt (TU kind v.re) fun(v2:Bool)=> .br (kind==7) (.ob (List.length v.Text<=9223372036854775700) (.br (!BG v.Text) (.ret 7) (.br (!v2) (.ret 12) (.br (kind==9) (.br (!v1) (.ret 16) (.ret 0)) (.ret 0))))) (.br (!v2) (.ret 12) (.br (kind==9) (.br (!v1) (.ret 16) (.ret 0)) (.ret 0))))))
def azK (x:aB)(kind:Int)(enum:Int)(v:af):=(aGJ x kind enum v).val
def atP:aU Z:=E1 [zK,Ry,Qz,afM] [] (aj (aF jg) (aj (bn cI) (aj (bn cI) (a1 (aF aI))))) (R1 cI) [] func435 1 (u4 aGJ) fun a=>a.2.2.2.Text.length<=1048576
def aEr (x:aB)(g:bu)(f:Raw):Pg Int:=.lt (lM g f.Num) fun(v3:Op×Bool)=> .cut (fun(y1:Bool)=> .cut (fun(y2:Bool)=> .br y2 (.ret 1) (.br (decide (f.fA<=2)) (.br (f.Data !=[]) (.ret 1) (.br (!decide (f.fA<=2)) (.br (f.Bits !=0) (.ret 1) (.br v3.2 (.br (!y1) (.ret 1) (.br (f.fA==3) (.br (decide (4096 < (↑(List.length f.Data):Int))) (.ret 3) (.br (decide (65536 < (↑(List.length f.Data):Int))) (.ret 3) (.ret 0))) (.br (decide (65536 < (↑(List.length f.Data):Int))) (.ret 3) (.ret 0)))) (.br (f.fA==3) (.br (decide (4096 < (↑(List.length f.Data):Int))) (.ret 3) (.br (decide (65536 < (↑(List.length f.Data):Int))) (.ret 3) (.ret 0))) (.br (decide (65536 < (↑(List.length f.Data):Int))) (.ret 3) (.ret 0))))) (.br v3.2 (.br (!y1) (.ret 1) (.br (f.fA==3) (.br (decide (4096 < (↑(List.length f.Data):Int))) (.ret 3) (.br (decide (65536 < (↑(List.length f.Data):Int))) (.ret 3) (.ret 0))) (.br (decide (65536 < (↑(List.length f.Data):Int))) (.ret 3) (.ret 0)))) (.br (f.fA==3) (.br (decide (4096 < (↑(List.length f.Data):Int))) (.ret 3) (.br (decide (65536 < (↑(List.length f.Data):Int))) (.ret 3) (.ret 0))) (.br (decide (65536 < (↑(List.length f.Data):Int))) (.ret 3) (.ret 0)))))) (.br (!decide (f.fA<=2)) (.br (f.Bits !=0) (.ret 1) (.br v3.2 (.br (!y1) (.ret 1) (.br (f.fA==3) (.br (decide (4096 < (↑(List.length f.Data):Int))) (.ret 3) (.br (decide (65536 < (↑(List.length f.Data):Int))) (.ret 3) (.ret 0))) (.br (decide (65536 < (↑(List.length f.Data):Int))) (.ret 3) (.ret 0)))) (.br (f.fA==3) (.br (decide (4096 < (↑(List.length f.Data):Int))) (.ret 3) (.br (decide (65536 < (↑(List.length f.Data):Int))) (.ret 3) (.ret 0))) (.br (decide (65536 < (↑(List.length f.Data):Int))) (.ret 3) (.ret 0))))) (.br v3.2 (.br (!y1) (.ret 1) (.br (f.fA==3) (.br (decide (4096 < (↑(List.length f.Data):Int))) (.ret 3) (.br (decide (65536 < (↑(List.length f.Data):Int))) (.ret 3) (.ret 0))) (.br (decide (65536 < (↑(List.length f.Data):Int))) (.ret 3) (.ret 0)))) (.br (f.fA==3) (.br (decide (4096 < (↑(List.length f.Data):Int))) (.ret 3) (.br (decide (65536 < (↑(List.length f.Data):Int))) (.ret 3) (.ret 0))) (.br (decide (65536 < (↑(List.length f.Data):Int))) (.ret 3) (.ret 0))))))) (.br (decide (f.Num < 1)) (rl true) (.br (decide (65535 < f.Num)) (rl true) (.br (decide (f.fA < 0)) (rl true) (rl (decide (6 < f.fA))))))) (.br (v3.1.Kind==9) (.br (v3.1.Card !=5) (.br (f.fA==0) (.br (decide (f.Bits<=2147483647)) (.ret (.inl !aig x.p v3.1.Target f.Bits)) (rl false)) (rl false)) (rl false)) (rl false))
def aEL (x:aB)(g:bu)(f:Raw):=(aEr x g f).val
def aAX:aU Z:=E0 [Ov,afM] [jS 100004 (bP (fun sl=>[s0 10]) (l1 aG)),jS 100005 (bP (fun sl=>[s0 49]) (l1 aG))] (aj (aF jg) (aj (aF iF) (a1 (aF og)))) (R1 cI) [] func220 1 (u3 aEr)
def aEH (y:Slot)(o:Op):Pg Bool:=.ret (y.Num==o.Num)
def apu (y:Slot)(o:Op):=(aEH y o).val
def agE:aU Z:=vX [] [] (aj (aF mg) (a1 (iM 0))) (b1 (aP je)) (R1 aG) [0] func331 1 (u11 aEH)
def aoQ:aU Z:=GG [agE] bF 331 [0] (b1 (aP je)) func333 bI fun x b=>apu x b
def aoW:aU Z:=EAB [agE,aoQ] bF 331 [0] (b1 (aP je)) func218 fun x b=>apu x b
def aGu (y:Slot)(o:Op):Pg Bool:=.ret (y.Num==o.Num)
def apH (y:Slot)(o:Op):=(aGu y o).val
def afT:aU Z:=vX [] [] (aj (aF mg) (a1 (iM 0))) (b1 (aP je)) (R1 aG) [0] func219 1 (u11 aGu)
def aDG:aU Z:=GG [afT] bF 219 [0] (b1 (aP je)) func333 bI fun x b=>apH x b
def arv:aU Z:=EAB [afT,aoQ,aDG] bF 219 [0] (b1 (aP je)) func218 fun x b=>apH x b
def aFT (q:Pair)(p:Pair):Pg Bool:=.ob (jQ q.Key.re.Kind=true/\jQ p.Key.re.Kind=true) (.ret (akB q.Key.re p.Key.re))
def aFu (q:Pair)(p:Pair):=(aFT q p).val
def af0:aU Z:=EK [adc] [] (aj (aF uI) (a1 (iM 0))) (b1 (aP uI)) (R1 aG) [0] func437 1 (u11 aFT) fun a=>jQ a.1.1.Key.Kind=true/\jQ a.2.Key.Kind=true
def aAD (l:List Pair)(p:Pair):Pg Int:=aL l (.each false tX l gG (fun i1 a3 (y2:Unit)=> .ix i1 l.length (.ob (jQ (Pair.mk a3.Key.re a3.Val.re).Key.Kind=true/\jQ (Pair.mk p.Key.re p.Val.re).Key.Kind=true) (.br (aFu (Pair.mk a3.Key.re a3.Val.re) (Pair.mk p.Key.re p.Val.re)) (.ret (.inr i1)) (rl ())))) (fun i1 (y2:Unit)=> .ret (-1)) ())
def aFU (l:List Pair)(p:Pair):=(aAD l p).val
theorem axt (l:List Pair)(p:Pair)(h:(∀x∈l,jQ x.Key.Kind=true)/\jQ p.Key.Kind=true):Is (aAD l p):=
 iH fun _=>gU (.inr au) (fun i1 y2 _ _=>dm au au (aX (by simp only[af.dM];exact⟨h.1 (l.getD i1 gG) (getD_mem au),h.2⟩) (di iR iR))) (fun y2 _=>aT)
def aA9:aU Z:=EK [af0] [jS 2 (bP (fun sl=>[s0 8]) (l1 cI))] (aj (bn dZ) (a1 (kJ 437 [0]))) (b1 (aP uI)) (R1 cI) [0] func449 1 (u11 aAD) (fun a=>(∀x∈a.1.1,jQ x.Key.Kind=true)/\jQ a.2.Key.Kind=true) fun a h=>axt a.1.1 a.2 h
def aFo (l:List Pair)(p:Pair):Pg Bool:=.ob ((∀(x:Pair),x∈l->jQ x.Key.Kind=true)/\jQ (Pair.mk p.Key.re p.Val.re).Key.Kind=true) (.lt (aFU l (Pair.mk p.Key.re p.Val.re)) fun(v1:Int)=> .ret (decide (0<=v1)))
def aFs (l:List Pair)(p:Pair):=(aFo l p).val
def aBh:aU Z:=EK [af0,aA9] [] (aj (bn dZ) (a1 (kJ 437 [0]))) (b1 (aP uI)) (R1 aG) [0] func436 1 (u11 aFo) fun a=>(∀x∈a.1.1,jQ x.Key.Kind=true)/\jQ a.2.Key.Kind=true
end
end Go.Proofs.YtihakigfhcankaaGreatDoor
