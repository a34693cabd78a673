/- Codecs: messages read. -/
import Derived.Test.YtgdmjfkdbfafjaaGreatDoorP3
namespace Go.Proofs.YtgdmjfkdbfafjaaGreatDoor
noncomputable section
open Go.RowKit Go.Vc
open Tryz
set_option linter.unusedVariables false
set_option linter.unusedSimpArgs false
set_option maxRecDepth 100000
def ad3 (l:Int->ah->ae->ah×Int×ae)(jv:Int->ah->ae->Prop)(e:bK->ah->Op->Int->ae->ah×Int×ae)(kL:bK->ah->Op->Int->ae->Prop)(m:Int->ah->Int->ae->ah×Int×ae)(iM:Int->ah->Int->ae->Prop)(k:bK->ah->Op->ae->ah×Int×ae)(jy:bK->ah->Op->ae->Prop)(j:bK->ah->Op->ae->ah×Int×ae)(kR:bK->ah->Op->ae->Prop)(n:Op->Int->ae->ah×Int×ae)(lK:Op->Int->ae->Prop)(prog:Int)(v:ah)(r:ae):Pg (ah×Int×ae):=.ix prog r.p.bD.length (.wh ((r.c.End - r.c.At).toNat+1) default (fun(c:ae×ah)=> .lt (vz c.1.c) fun i=> .br (decide (0 < i)) (.ob (n_ c.1.c) (.lt (vg c.1.c) fun b=> .br (b.2.2.2 !=0) (.ret (.inr (c.2.re,b.2.2.2,c.1))) (.cut (fun(f:ae×ah)=> .ob (n_ c.1.c) (.lt (wS c.1.c) fun g=> .br (g.2.2 !=0) (.ret (.inr (f.2.re,g.2.2,f.1))) (.ob (f.2.re.bM.length<=1048576) (rl (ae.mk f.1.p g.2.1,(zF f.2.re g.1).re))))) (.as ((r.p.bD.getD prog.toNat dC).Ops.length<=9223372036854775807) (.each false oZ (r.p.bD.getD prog.toNat dC).Ops BJ (fun h d (a:ae×ah)=> .ix h (r.p.bD.getD prog.toNat dC).Ops.length (.br (d.Num !=b.1) (rl (a.1,a.2.re)) (.ob (kL (r.p.bD.getD prog.toNat dC) a.2.re d b.2.1 (ae.mk a.1.p b.2.2.1)) (.br ((e (r.p.bD.getD prog.toNat dC) a.2.re d b.2.1 (ae.mk a.1.p b.2.2.1)).2.1 !=0) (.ret (.inr (.inr (.inr ((e (r.p.bD.getD prog.toNat dC) a.2.re d b.2.1 (ae.mk a.1.p b.2.2.1)).1.re, (e (r.p.bD.getD prog.toNat dC) a.2.re d b.2.1 (ae.mk a.1.p b.2.2.1)).2))))) (.ret (.inr (.inr (.inl ((e (r.p.bD.getD prog.toNat dC) a.2.re d b.2.1 (ae.mk a.1.p b.2.2.1)).2.2, (e (r.p.bD.getD prog.toNat dC) a.2.re d b.2.1 (ae.mk a.1.p b.2.2.1)).1.re))))))))) (fun h (a:ae×ah)=> rl (a.1,a.2.re)) (c.1,c.2.re)))))) (.ret (.inr (c.2.re,0,c.1)))) (r,v.re))
def ak_ (f:Int->ah->ae->ah×Int×ae)(jv:Int->ah->ae->Prop)(i:bK->ah->Op->Int->ae->ah×Int×ae)(kL:bK->ah->Op->Int->ae->Prop)(h:Int->ah->Int->ae->ah×Int×ae)(iM:Int->ah->Int->ae->Prop)(a:bK->ah->Op->ae->ah×Int×ae)(jy:bK->ah->Op->ae->Prop)(c:bK->ah->Op->ae->ah×Int×ae)(kR:bK->ah->Op->ae->Prop)(j:Op->Int->ae->ah×Int×ae)(lK:Op->Int->ae->Prop)(g:bK)(v:ah)(o:Op)(w:Int)(r:ae):Pg (ah×Int×ae):=.br (o.Card==5) (.br (w !=6) (.ret (v.re,13,r)) (.ob (kR g v.re o r) (.ret ((c g v.re o r).1.re,(c g v.re o r).2)))) (.lt (Em g v.re o r) fun b=> .lt (Fv o) fun e=> .br (w==5) (.br (mf o) (.ob (Kt v.re r/\1<=o.Num/\o.Num<=65535) (.lt (aFL g v.re o r) fun d=> .ret (d.1.re,d.2))) (.br (w !=e) (.ret (v.re,13,r)) (.br (o.Kind==10) (.ob (jy g v.re o r) (.ret ((a g v.re o r).1.re,(a g v.re o r).2))) (.ob (Kt v.re r/\1<=o.Num/\o.Num<=65535) (.ret (b.1.re,b.2)))))) (.br (w !=e) (.ret (v.re,13,r)) (.br (o.Kind==10) (.ob (jy g v.re o r) (.ret ((a g v.re o r).1.re,(a g v.re o r).2))) (.ob (Kt v.re r/\1<=o.Num/\o.Num<=65535) (.ret (b.1.re,b.2))))))
def aeX (d:Int->ah->ae->ah×Int×ae)(jv:Int->ah->ae->Prop)(j:bK->ah->Op->Int->ae->ah×Int×ae)(kL:bK->ah->Op->Int->ae->Prop)(i:Int->ah->Int->ae->ah×Int×ae)(iM:Int->ah->Int->ae->Prop)(h:bK->ah->Op->ae->ah×Int×ae)(jy:bK->ah->Op->ae->Prop)(g:bK->ah->Op->ae->ah×Int×ae)(kR:bK->ah->Op->ae->Prop)(k:Op->Int->ae->ah×Int×ae)(lK:Op->Int->ae->Prop)(prog:Int)(a:ah)(f:Int)(r:ae):Pg (ah×Int×ae):=.ob (n_ r.c) (.lt (kZ r) fun c=> .br (c.2.1 !=0) (.ret (a.re,c.2)) (.lt (TY c.2.2.c c.1) fun e=> .br (e.2 !=0) (.ret (a.re,e.2,ae.mk c.2.2.p e.1)) (.lt (nS f (ae.mk c.2.2.p e.1)) fun b=> .br (b.1 !=0) (.ret (a.re,b)) (.ob (jv prog a.re b.2) (.br ((d prog a.re b.2).2.1 !=0) (.ret (a.re,(d prog a.re b.2).2)) (.ret ((d prog a.re b.2).1.re,0, ae.mk (d prog a.re b.2).2.2.p (G6 c.2.2.c (d prog a.re b.2).2.2.c))))))))
def acn (h:Int->ah->ae->ah×Int×ae)(jv:Int->ah->ae->Prop)(i:bK->ah->Op->Int->ae->ah×Int×ae)(kL:bK->ah->Op->Int->ae->Prop)(a:Int->ah->Int->ae->ah×Int×ae)(iM:Int->ah->Int->ae->Prop)(f:bK->ah->Op->ae->ah×Int×ae)(jy:bK->ah->Op->ae->Prop)(e:bK->ah->Op->ae->ah×Int×ae)(kR:bK->ah->Op->ae->Prop)(j:Op->Int->ae->ah×Int×ae)(lK:Op->Int->ae->Prop)(g:bK)(v:ah)(o:Op)(r:ae):Pg (ah×Int×ae):=.lt (iq v.re o.Num) fun c=> .br (o.Card==4) (.cut (fun(b:Int)=> .ob (iM o.Target (ah.mk 10 0 [] [] [] [] []) b r) (.br ((a o.Target (ah.mk 10 0 [] [] [] [] []) b r).2.1 !=0) (.ret (v.re,(a o.Target (ah.mk 10 0 [] [] [] [] []) b r).2)) (.ob (c.1.re.List.length<=1048576) (.ob (v.re.Slots.length<=1048576) (.ret ((yT g v.re o (rW c.1.re (a o.Target (ah.mk 10 0 [] [] [] [] []) b r).1.re).re).re,0, (a o.Target (ah.mk 10 0 [] [] [] [] []) b r).2.2)))))) (.br (!c.2) (rl 2) (rl 1))) (.cut (fun(d:ah)=> .ob (iM o.Target d.re 1 r) (.br ((a o.Target d.re 1 r).2.1 !=0) (.ret (v.re,(a o.Target d.re 1 r).2)) (.ob (v.re.Slots.length<=1048576) (.ret ((yT g v.re o (a o.Target d.re 1 r).1.re).re,0,(a o.Target d.re 1 r).2.2))))) (.br (!c.2) (rl (ah.mk 10 0 [] [] [] [] [])) (rl c.1.re)))
def alD (n:Int->ah->ae->ah×Int×ae)(jv:Int->ah->ae->Prop)(s:bK->ah->Op->Int->ae->ah×Int×ae)(kL:bK->ah->Op->Int->ae->Prop)(l:Int->ah->Int->ae->ah×Int×ae)(iM:Int->ah->Int->ae->Prop)(q:bK->ah->Op->ae->ah×Int×ae)(jy:bK->ah->Op->ae->Prop)(p:bK->ah->Op->ae->ah×Int×ae)(kR:bK->ah->Op->ae->Prop)(d:Op->Int->ae->ah×Int×ae)(lK:Op->Int->ae->Prop)(g:bK)(v:ah)(o:Op)(r:ae):Pg (ah×Int×ae):=.ob (n_ r.c) (.lt (kZ r) fun e=> .br (e.2.1 !=0) (.ret (v.re,e.2)) (.lt (iq v.re o.Num) fun c=> .cut (fun(j:Int)=> .lt (nS j (VE e.1 e.2.2).2) fun h=> .br (h.1 !=0) (.ret (v.re,h)) (.wh ((r.c.End - r.c.At).toNat+1) default (fun(a:Bool×Bool×ae×Pair)=> .lt (vz a.2.2.1.c) fun k=> .br (decide (0 < k)) (.ob (n_ a.2.2.1.c) (.lt (vg a.2.2.1.c) fun b=> .cut (fun(m:Unit)=> .br (b.1==1) (.ob (lK (Op.mk 0 [] [] 0 0 o.Key (-1) 0) b.2.1 (ae.mk a.2.2.1.p b.2.2.1)) (.br ((d (Op.mk 0 [] [] 0 0 o.Key (-1) 0) b.2.1 (ae.mk a.2.2.1.p b.2.2.1)).2.1 != 0) (.ret (.inr (v.re, (d (Op.mk 0 [] [] 0 0 o.Key (-1) 0) b.2.1 (ae.mk a.2.2.1.p b.2.2.1)).2))) (rl (true,a.2.1, (d (Op.mk 0 [] [] 0 0 o.Key (-1) 0) b.2.1 (ae.mk a.2.2.1.p b.2.2.1)).2.2, Pair.mk (d (Op.mk 0 [] [] 0 0 o.Key (-1) 0) b.2.1 (ae.mk a.2.2.1.p b.2.2.1)).1.re a.2.2.2.Val.re)))) (.ob (lK o b.2.1 (ae.mk a.2.2.1.p b.2.2.1)) (.br ((d o b.2.1 (ae.mk a.2.2.1.p b.2.2.1)).2.1 !=0) (.ret (.inr (v.re,(d o b.2.1 (ae.mk a.2.2.1.p b.2.2.1)).2))) (rl (a.1,true,(d o b.2.1 (ae.mk a.2.2.1.p b.2.2.1)).2.2, Pair.mk a.2.2.2.Key.re (d o b.2.1 (ae.mk a.2.2.1.p b.2.2.1)).1.re))))) (.br (b.2.2.2 !=0) (.ret (.inr (.inr (v.re,b.2.2.2,a.2.2.1)))) (.br (b.1 !=1) (.br (b.1 !=2) (.ret (.inr (.inr (v.re,18,a.2.2.1)))) (.br (b.1==1) (.br a.1 (.ret (.inr (.inr (v.re,9,a.2.2.1)))) (.br (b.1==2) (.br a.2.1 (.ret (.inr (.inr (v.re,9,a.2.2.1)))) (rl ())) (rl ()))) (.br (b.1==2) (.br a.2.1 (.ret (.inr (.inr (v.re,9,a.2.2.1)))) (rl ())) (rl ())))) (.br (b.1==1) (.br a.1 (.ret (.inr (.inr (v.re,9,a.2.2.1)))) (.br (b.1==2) (.br a.2.1 (.ret (.inr (.inr (v.re,9,a.2.2.1)))) (rl ())) (rl ()))) (.br (b.1==2) (.br a.2.1 (.ret (.inr (.inr (v.re,9,a.2.2.1)))) (rl ())) (rl ()))))))) (aL c.1.Pairs (.ob (0<=(↑c.1.Pairs.length:Int)/\ (↑c.1.Pairs.length:Int)=(↑c.1.Pairs.length:Int)/\(↑c.1.Pairs.length:Int)<=(↑c.1.Pairs.length:Int)) (.lt (List.take c.1.Pairs.length c.1.Pairs) fun i=> .ob (0 < 1/\bZ (i.length+1) 256) (.lt (i++[Pair.mk a.2.2.2.Key.re a.2.2.2.Val.re]) fun(f:List Pair)=> .ob (pJ f) (.ob (v.re.Slots.length<=1048576) (.ret (.inr ((yT g v.re o (ah.mk 12 0 [] [] (pg f) [] [])).re,0, afX (VE e.1 e.2.2).1 a.2.2.1))))))))) (false,false,h.2,Pair.mk (ah.mk o.Key 0 [] [] [] [] []) (ah.mk o.Kind 0 [] [] [] [] [])))) (.br (!c.2) (rl 3) (rl 2))))
def atX (f:Int->ah->ae->ah×Int×ae)(jv:Int->ah->ae->Prop)(h:bK->ah->Op->Int->ae->ah×Int×ae)(kL:bK->ah->Op->Int->ae->Prop)(b:Int->ah->Int->ae->ah×Int×ae)(iM:Int->ah->Int->ae->Prop)(e:bK->ah->Op->ae->ah×Int×ae)(jy:bK->ah->Op->ae->Prop)(d:bK->ah->Op->ae->ah×Int×ae)(kR:bK->ah->Op->ae->Prop)(g:Op->Int->ae->ah×Int×ae)(lK:Op->Int->ae->Prop)(o:Op)(w:Int)(r:ae):Pg (ah×Int×ae):=.br (w !=Fv o) (.ret (ah.mk 0 0 [] [] [] [] [],13,r)) (.br (o.Kind==10) (.ob (iM o.Target (ah.mk 10 0 [] [] [] [] []) 0 r) (.ret ((b o.Target (ah.mk 10 0 [] [] [] [] []) 0 r).1.re,(b o.Target (ah.mk 10 0 [] [] [] [] []) 0 r).2))) (.ob (n_ r.c) (.lt (jd w r) fun a=> .br (a.2.1 !=0) (.ret (ah.mk 0 0 [] [] [] [] [],a.2)) (.ob (List.length a.1.Data<=1048576) (.lt (wL a.2.2.p o a.1) fun c=> .ret (c.1.re,c.2,a.2.2))))))
def jv (a:Nat)(prog:Int)(v:ah)(r:ae):Prop:=Kt v r/\(0<=prog/\prog < r.p.bD.length)/\5*r.c.Depth+5<=a
def kL (a:Nat)(g:bK)(v:ah)(o:Op)(w:Int)(r:ae):Prop:=Kt v r/\Vk r.p o/\5*r.c.Depth+4<=a
def iM (c:Nat)(prog:Int)(a:ah)(b:Int)(r:ae):Prop:=Kt a r/\(0<=prog/\prog < r.p.bD.length)/\5*r.c.Depth+1<=c
def jy (a:Nat)(g:bK)(v:ah)(o:Op)(r:ae):Prop:=Kt v r/\(0<=o.Target/\o.Target < r.p.bD.length)/\5*r.c.Depth+2<=a
def kR (a:Nat)(g:bK)(v:ah)(o:Op)(r:ae):Prop:=Kt v r/\Vk r.p o/\o.Card=5/\5*r.c.Depth+3<=a
def lK (a:Nat)(o:Op)(w:Int)(r:ae):Prop:=Kt (ah.mk 10 0 [] [] [] [] []) r/\(o.Kind=10->0<=o.Target/\o.Target < r.p.bD.length)/\5*r.c.Depth+2<=a
def nN:Nat->(Int->ah->ae->(ah×Int×ae))×(bK->ah->Op->Int->ae->(ah×Int×ae))×(Int->ah->Int->ae->(ah×Int×ae))×(bK->ah->Op->ae->(ah×Int×ae))×(bK->ah->Op->ae->(ah×Int×ae))×(Op->Int->ae->(ah×Int×ae))
 | 0=>(fun _ _ _=>default,fun _ _ _ _ _=>default,fun _ _ _ _=>default,fun _ _ _ _=>default,fun _ _ _ _=>default,fun _ _ _=>default)
 | a+1=>(fun prog v r=>(ad3 ((nN a).1) (jv a) ((nN a).2.1) (kL a) ((nN a).2.2.1) (iM a) ((nN a).2.2.2.1) (jy a) ((nN a).2.2.2.2.1) (kR a) ((nN a).2.2.2.2.2) (lK a) prog v r).val,fun g v o w r=>(ak_ ((nN a).1) (jv a) ((nN a).2.1) (kL a) ((nN a).2.2.1) (iM a) ((nN a).2.2.2.1) (jy a) ((nN a).2.2.2.2.1) (kR a) ((nN a).2.2.2.2.2) (lK a) g v o w r).val,fun prog b c r=>(aeX ((nN a).1) (jv a) ((nN a).2.1) (kL a) ((nN a).2.2.1) (iM a) ((nN a).2.2.2.1) (jy a) ((nN a).2.2.2.2.1) (kR a) ((nN a).2.2.2.2.2) (lK a) prog b c r).val,fun g v o r=>(acn ((nN a).1) (jv a) ((nN a).2.1) (kL a) ((nN a).2.2.1) (iM a) ((nN a).2.2.2.1) (jy a) ((nN a).2.2.2.2.1) (kR a) ((nN a).2.2.2.2.2) (lK a) g v o r).val,fun g v o r=>(alD ((nN a).1) (jv a) ((nN a).2.1) (kL a) ((nN a).2.2.1) (iM a) ((nN a).2.2.2.1) (jy a) ((nN a).2.2.2.2.1) (kR a) ((nN a).2.2.2.2.2) (lK a) g v o r).val,fun o w r=>(atX ((nN a).1) (jv a) ((nN a).2.1) (kL a) ((nN a).2.2.1) (iM a) ((nN a).2.2.2.1) (jy a) ((nN a).2.2.2.2.1) (kR a) ((nN a).2.2.2.2.2) (lK a) o w r).val)
def YL (prog:Int)(v:ah)(r:ae):ah×Int×ae:=(nN ((5*r.c.Depth+5).toNat)).1 prog v r
def JA (a:Nat):Prop:=(∀(prog:Int) (v:ah) (r:ae),jv a prog v r->(fun x=>Iu 0 0 v r x/\(x.2.1=0->x.2.2.c.At=x.2.2.c.End)) ((nN a).1 prog v r))/\(∀(g:bK) (v:ah) (o:Op) (w:Int) (r:ae),kL a g v o w r->(Iu 0 0 v r) ((nN a).2.1 g v o w r))/\(∀(prog:Int) (b:ah) (c:Int) (r:ae),iM a prog b c r->(Iu 0 8 b r) ((nN a).2.2.1 prog b c r))/\(∀(g:bK) (v:ah) (o:Op) (r:ae),jy a g v o r->(Iu 0 0 v r) ((nN a).2.2.2.1 g v o r))/\(∀(g:bK) (v:ah) (o:Op) (r:ae),kR a g v o r->(Iu 0 0 v r) ((nN a).2.2.2.2.1 g v o r))/\(∀(o:Op) (w:Int) (r:ae),lK a o w r->(fun x=>x.2.1=0->x.2.2.p=r.p/\Ez 0 r.c x.2.2.c/\kV x.1/\(tV x.1:Int)<=8*(x.2.2.c.At - r.c.At)/\(¬o.Kind=10->kM x.1.Kind=true)) ((nN a).2.2.2.2.2 o w r))
theorem XU:tV (ah.mk 10 0 [] [] [] [] [])=1:=(lC 10 0 [] u0).2
theorem aw8 {c:aS}(h:n_ c):Ez 0 c c:=⟨h,rfl,rfl,rfl,rfl,MS _,by omega⟩
theorem aqS {k j s:Int}{v:ah}{r:ae}{x:ah×Int×ae}(h:Iu k s v r x)(a:j<=k):Iu j s v r x:=fun e=>⟨(h e).1,lI (h e).2.1 a,(h e).2.2⟩
theorem aAI {v:ah}{r:ae}(h:Kt v r):Kt (ah.mk 10 0 [] [] [] [] []) r:=⟨h.1,h.2.1,(lC 10 0 [] u0).1,by have:=h.2.2.2;have:=nI v;rw[XU];omega⟩
theorem arX {c d:aS}{n:Int}(h:n_ c)(l:0<=n)(m:n<=c.End - c.At)(e:d.End=c.At+n)(a:0<=d.Nodes)(b:d.Nodes<=c.Nodes):Ez n c (G6 c d)/\(G6 c d).At=c.At+n:=by
 have i:=h;obtain⟨⟨o,p,f,j⟩,k,q,g⟩:=h;rw[av4 i au au a b];exact⟨⟨⟨⟨by show 0<=d.End;omega,by show d.End<=c.End;omega,f,j⟩,k,⟨a,by show d.Nodes<=1099511627776;omega⟩,g⟩,rfl,rfl,rfl,rfl,b,by show c.At+n<=d.End;omega⟩,e⟩
theorem aKO (l:List Pair):tV (ah.mk 12 0 [] [] l [] [])=1+ZY l:=by simp[tV,tVs,tSs,Vq]
theorem arK {a:ah}{x:Pair}(f:kV a)(d:pJ (a.Pairs++[x]))(g:kM x.Key.Kind=true/\kV x.Key)(h:kV x.Val):kV (ah.mk 12 0 [] [] (pg (a.Pairs++[x])) [] [])/\tV (ah.mk 12 0 [] [] (pg (a.Pairs++[x])) [] [])<=tV a+1+tV x.Key+tV x.Val:=by
 have t1:=WL d;rw[pI]at t1;simp only[kG,Qy]at t1;have t2:=iZ a;have t3:=xg a.Pairs;constructor
 ·have c:=((iV a).1 f).2.2.1;rw[iV];refine⟨⟨u0,fun y b=>absurd b (Zc)⟩,fun y b=>absurd b (Zc),fun y b=> ?_,fun y b=>absurd b (Zc)⟩;have b:y∈pg (a.Pairs++[x]):=b;rcases yH.1 (Jz d b)with e | e
  ·exact c y e
  ·rw[Ko.1 e];exact⟨g,h⟩
 ·rw[aKO,xg];omega
abbrev Hf (a:Nat):=ad3 ((nN a).1) (jv a) ((nN a).2.1) (kL a) ((nN a).2.2.1) (iM a) ((nN a).2.2.2.1) (jy a) ((nN a).2.2.2.2.1) (kR a) ((nN a).2.2.2.2.2) (lK a)
theorem QY (g:Nat)(N:JA g)(prog:Int)(v:ah)(r:ae)(h:jv (g+1) prog v r):j_ (Hf g prog v r) (fun x=>Iu 0 0 v r x/\(x.2.1=0->x.2.2.c.At=x.2.2.c.End)):=
 by
 obtain⟨n,E,h3⟩:=h;have H:=n.2.1 _ (getD_mem (d:=dC) (l:=r.p.bD) (i:=prog.toNat) au);unfold Hf ad3;simp only[ah.dR];refine aW E.1 E.2 (qo (fun x=>x.1.p=r.p/\Ez 0 r.c x.1.c/\kV x.2/\(tV x.2:Int)+0<=tV v+8*(x.1.c.At - r.c.At)) (fun x=>(x.1.c.End - x.1.c.At).toNat) ⟨rfl,aw8 n.1,n.2.2.1,by dsimp only;omega⟩ (Qcz _) fun x O=> ?_);obtain⟨f,b,p,z⟩:=O;have t:Kt x.2 x.1:=aAY n (MS 0) f b p z;have xD:=b.2.2.2.1;refine az fun X C=>bG (fun S=>ai b.1 (az fun v7 F=>dM (fun a=>af ⟨iP a,fun e=>absurd e a⟩) fun A=> ?_)) (fun u=>af ⟨fun _=>⟨f,b,p,z⟩,fun _=>at_end b.1 (C▸u)⟩);rw[F]at A⊢;obtain⟨j,u2⟩:=BQ b.1 A;have K:=aqM b.1;have G:=apf b.1;have D:=aDe b.1;generalize vg x.1.c=c at*;have T:=j.2.2.2.1;have V:=j.2.2.1;have Y:=j.2.2.2.2.2.2;refine bP (fun y=>y=(x.1,x.2)) (bW <| dh (fun _ y=>y=(x.1,x.2)) rfl (by have:=H.1;omega) (fun i y Q m=> ?_) fun y m=>af m) fun y m=> ?_
 ·subst m;have P:=H.2 _ (getD_mem (d:=BJ) Q);have R:Kt x.2 (ae.mk x.1.p c.2.2.1):=⟨j.1,by show ig x.1.p;rw[f];exact n.2.1,p,by have:=t.2.2.2;show(tV x.2:Int)+8*(c.2.2.1.End - c.2.2.1.At)<=1048576;omega⟩;have B:kL g (r.p.bD.getD prog.toNat dC) x.2 ((r.p.bD.getD prog.toNat dC).Ops.getD i BJ) c.2.1 (ae.mk x.1.p c.2.2.1):=⟨R,by show Vk x.1.p _;rw[f];exact P,by show 5*c.2.2.1.Depth+4<=(g:Int);omega⟩;have k:=N.2.1 _ _ _ _ _ B;refine aW au au (dM (fun _=>af rfl) fun _=>ai B (dM (fun a=>af ⟨iP a,fun e=>absurd e a⟩) fun M=>af ?_));obtain⟨f1,f2,f3,f4⟩:=k M;dsimp only;generalize (nN g).2.1 (r.p.bD.getD prog.toNat dC) x.2 ((r.p.bD.getD prog.toNat dC).Ops.getD i BJ) c.2.1 (ae.mk x.1.p c.2.2.1)=w at*;have f7:c.2.2.1.At+0<=w.2.2.c.At:=f2.2.2.2.2.2.2;have Z:w.2.2.c.End=c.2.2.1.End:=f2.2.2.1;have fL:=f2.1.1.2.1;have f4:(tV w.1:Int)+0<=tV x.2+8*(w.2.2.c.At - c.2.2.1.At):=f4;have J:Ez 1 x.1.c w.2.2.c:=lI (lq j f2) mi;exact⟨⟨f1.trans f,lI (lq b J) mi,f3,by show(tV w.1:Int)+0<=tV v+8*(w.2.2.c.At - r.c.At);omega⟩,by show(w.2.2.c.End - w.2.2.c.At).toNat < (x.1.c.End - x.1.c.At).toNat;omega⟩
 ·subst m;refine ai b.1 (az fun v8 L=>dM (fun a=>af ⟨iP a,fun e=>absurd e a⟩) fun q=>ai (NY t).1 (af ?_));rw[L]at q⊢;have s:=K q;have U:=G q;have I:=D q;generalize wS x.1.c=o at*;have nE:=s.2.2.1;have W:=s.2.2.2.2.2.2;have nL:=s.1.1.2.1;exact⟨⟨f,lI (lq b s) mi,ag3 p I,by show(tV (zF x.2 o.1):Int)+0<=tV v+8*(o.2.1.At - r.c.At);rw[afP];omega⟩,by show(o.2.1.End - o.2.1.At).toNat < (x.1.c.End - x.1.c.At).toNat;omega⟩
abbrev Na (a:Nat):=ak_ ((nN a).1) (jv a) ((nN a).2.1) (kL a) ((nN a).2.2.1) (iM a) ((nN a).2.2.2.1) (jy a) ((nN a).2.2.2.2.1) (kR a) ((nN a).2.2.2.2.2) (lK a)
theorem Xh (d:Nat)(i:JA d)(g:bK)(v:ah)(o:Op)(w:Int)(r:ae)(h:kL (d+1) g v o w r):j_ (Na d g v o w r) (Iu 0 0 v r):=
 by
 obtain⟨a,b,l⟩:=h;unfold Na ak_;simp only[ah.dR];refine dK (fun c=>dM (fun _=>af (iP qcr)) fun _=>ai ⟨a,b,c,by omega⟩ (af (i.2.2.2.2.1 _ _ _ _ ⟨a,b,c,by omega⟩))) fun c=>az fun m e=>az fun n k=> ?_;refine dK (fun _=>dJ (fun _=>ai ⟨a,b.2.2⟩ (az fun p j=>af (by rw[j];exact(ZU g v o r ⟨a,b.2.2⟩).2))) (fun _=> ?_)) (fun _=> ?_);all_goals exact dM (fun _=>af (iP qcr)) fun _=>dK (fun f=>ai ⟨a,b.1 f,by omega⟩ (af (i.2.2.2.1 _ _ _ _ ⟨a,b.1 f,by omega⟩))) fun _=>ai ⟨a,b.2.2⟩ (af (by rw[e];exact aqS (Wq g v o r ⟨a,b.2.2⟩).2 mi))
abbrev H6 (a:Nat):=aeX ((nN a).1) (jv a) ((nN a).2.1) (kL a) ((nN a).2.2.1) (iM a) ((nN a).2.2.2.1) (jy a) ((nN a).2.2.2.2.1) (kR a) ((nN a).2.2.2.2.2) (lK a)
theorem Qz (j:Nat)(E:JA j)(prog:Int)(b:ah)(f:Int)(r:ae)(h:iM (j+1) prog b f r):j_ (H6 j prog b f r) (Iu 0 8 b r):=
 by
 obtain⟨l,C,h3⟩:=h;have m:=l.1;unfold H6 aeX;simp only[ah.dR];refine ai m (az fun X w=>dM (fun e=>af (iP e)) fun t=> ?_);rw[w]at t⊢;obtain⟨l1,S,n,P,N⟩:=wP m t;generalize kZ r=a at*;have Y:=l1.2.2.2.2.2.2;have L:=l1.2.2.1;have T:=l1.2.2.2.1;refine az fun v2 q=>dM (fun e=>af (iP e)) fun x=> ?_;rw[q]at x⊢;obtain⟨G,F,H,W⟩:=ajM l1.1 x;rw[G];refine az fun R v=>dM (fun e=>af (iP e)) fun s=> ?_;rw[v]at s⊢;have J:n_ (aS.mk a.2.2.c.Data a.2.2.c.At (a.2.2.c.At+a.1) (a.2.2.c.Depth - 1) a.2.2.c.Nodes a.2.2.c.Text):=by
  obtain⟨⟨B,Q,q3,z⟩,q5,D⟩:=l1.1;exact⟨⟨B,by show a.2.2.c.At<=a.2.2.c.At+a.1;omega,by show a.2.2.c.At+a.1<=a.2.2.c.Data.length;omega,z⟩,⟨by show 0<=a.2.2.c.Depth - 1;omega,by show a.2.2.c.Depth - 1<=1048576;omega⟩,D⟩
 obtain⟨k,i,I⟩:=xU (r:=ae.mk a.2.2.p (aS.mk a.2.2.c.Data a.2.2.c.At (a.2.2.c.At+a.1) (a.2.2.c.Depth - 1) a.2.2.c.Nodes a.2.2.c.Text)) J s;dsimp only at k i I⊢;generalize nS f (ae.mk a.2.2.p (aS.mk a.2.2.c.Data a.2.2.c.At (a.2.2.c.At+a.1) (a.2.2.c.Depth - 1) a.2.2.c.Nodes a.2.2.c.Text))=g at*;have sE:g.2.c.End=a.2.2.c.At+a.1:=i.2.2.1;have M:g.2.c.Depth=a.2.2.c.Depth - 1:=i.2.2.2.1;have Z:g.2.c.Nodes<=a.2.2.c.Nodes:=i.2.2.2.2.2.1;have p:jv j prog b g.2:=⟨⟨i.1,by rw[k,n];exact l.2.1,l.2.2.1,by have:=l.2.2.2;omega⟩,by rw[k,n];exact C,by omega⟩;obtain⟨K,A⟩:=E.1 prog b g.2 p;refine ai p (dM (fun e=>af (iP e)) fun u=>af fun _=> ?_);obtain⟨f1,f2,f3,f4⟩:=K u;have f5:=A u;dsimp only;generalize (nN j).1 prog b g.2=o at*;have V:=f2.2.2.1;have U:=f2.2.2.2.2.2.1;have f0:=f2.1.2.2.1.1;obtain⟨y,O⟩:=arX (c:=a.2.2.c) (d:=o.2.2.c) l1.1 F H au f0 au;refine⟨f1.trans (k.trans n),lI (lq l1 y) au,f3,?_⟩;show(tV o.1:Int)+8<=tV b+8*((G6 a.2.2.c o.2.2.c).At - r.c.At)
 omega
abbrev Gv (a:Nat):=acn ((nN a).1) (jv a) ((nN a).2.1) (kL a) ((nN a).2.2.1) (iM a) ((nN a).2.2.2.1) (jy a) ((nN a).2.2.2.2.1) (kR a) ((nN a).2.2.2.2.2) (lK a)
theorem Rx (c:Nat)(u:JA c)(g:bK)(v:ah)(o:Op)(r:ae)(h:jy (c+1) g v o r):j_ (Gv c g v o r) (Iu 0 0 v r):=
 by
 obtain⟨a,t,C⟩:=h;have f:=NY a;have A:=XM a o.Num;have q:=aAI a;have t4:=UL (v:=v) (num:=o.Num);unfold Gv acn;simp only[ah.dR];refine az fun m d=>dK (fun B=>bP (fun _=>True) (dJ (fun _=>af trivial) (fun _=>af trivial)) fun s _=> ?_) (fun B=>bP (fun y=>(m.2=true/\y=m.1)\/(m.2=false/\y=ah.mk 10 0 [] [] [] [] [])) (dJ (fun e=>af (.inr ⟨by simpa using e,rfl⟩)) (fun e=>af (.inl ⟨by simpa using e,rfl⟩))) fun y z=> ?_)
 ·have i:iM c o.Target (ah.mk 10 0 [] [] [] [] []) s r:=⟨q,t,by omega⟩;have k:=u.2.2.1 _ _ _ _ i;refine ai i (dM (fun j=>af (iP j)) fun n=> ?_);obtain⟨f1,f2,f3,f4⟩:=k n;generalize (nN c).2.2.1 o.Target (ah.mk 10 0 [] [] [] [] []) s r=w at*;rw[d];refine ai A.1 (ai f.2.1 (af fun _=>⟨f1,f2,Jl f.2.1 a.2.2.1 (OZ (GR a.2.2.1) f3),?_⟩));show(tV (yT g v o (rW (iq v o.Num).1 w.1)):Int)+0<=tV v+8*(w.2.2.c.At - r.c.At)
  have t2:=JC (g:=g) (v:=v) (o:=o) (x:=rW (iq v o.Num).1 w.1) f.2.1;have t3:=Pe (l:=(iq v o.Num).1) (x:=w.1);rw[XU]at f4;cases b:(iq v o.Num).2 with
  | true=>rw[b]at t2;simp only[uu]at t2;omega
  | false=>have:=t4.2 b;rw[b]at t2;simp only[mX]at t2;omega
 ·have p:Kt y r:=by
   rcases z with⟨_,rfl⟩ | ⟨_,rfl⟩
   ·rw[d];exact⟨a.1,a.2.1,GR a.2.2.1,by have:=a.2.2.2;omega⟩
   ·exact q
  have i:iM c o.Target y 1 r:=⟨p,t,by omega⟩;have k:=u.2.2.1 _ _ _ _ i;refine ai i (dM (fun j=>af (iP j)) fun n=> ?_);obtain⟨f1,f2,f3,f4⟩:=k n;generalize (nN c).2.2.1 o.Target y 1 r=w at*;refine ai f.2.1 (af fun _=>⟨f1,f2,Jl f.2.1 a.2.2.1 f3,?_⟩);show(tV (yT g v o w.1):Int)+0<=tV v+8*(w.2.2.c.At - r.c.At)
  have t2:=JC (g:=g) (v:=v) (o:=o) (x:=w.1) f.2.1;rcases z with⟨b,rfl⟩ | ⟨b,rfl⟩
  ·rw[d]at b f4;rw[b]at t2;simp only[uu]at t2;omega
  ·rw[d]at b;rw[XU]at f4;rw[b]at t2;simp only[mX]at t2;omega
abbrev LW (a:Nat):=alD ((nN a).1) (jv a) ((nN a).2.1) (kL a) ((nN a).2.2.1) (iM a) ((nN a).2.2.2.1) (jy a) ((nN a).2.2.2.2.1) (kR a) ((nN a).2.2.2.2.2) (lK a)
theorem YF (d:Nat)(X:JA d)(g:bK)(v:ah)(o:Op)(r:ae)(h:kR (d+1) g v o r):j_ (LW d g v o r) (Iu 0 0 v r):=
 by
 obtain⟨l,z,J,h4⟩:=h;have N:=NY l;have hf:=XM l o.Num;have q:=l.1;have hb:=l.2.2.2;have t4:=UL (v:=v) (num:=o.Num);unfold LW alD;simp only[ah.dR];refine ai q (az fun v4 W=>dM (fun c=>af (iP c)) fun S=> ?_);rw[W]at S⊢;obtain⟨l1,l2,l3,O,K⟩:=wP q S;generalize kZ r=a at*;have l7:=l1.2.2.2.2.2.2;have le:=l1.2.2.1;have ld:=l1.2.2.2.1;have hc:=ahA l1.1 O K;rw[agA l1.1 O K];refine az fun v5 Y=>bP (fun _=>True) (dJ (fun _=>af trivial) (fun _=>af trivial)) fun y1 _=>az fun v6 R=>dM (fun c=>af (iP c)) fun m=> ?_;rw[R]at m⊢;obtain⟨V,L,T⟩:=xU (r:=ae.mk a.2.2.p (xu a.2.2.c a.1)) hc m;dsimp only at V L T⊢;generalize nS y1 (ae.mk a.2.2.p (xu a.2.2.c a.1))=M at*;have D:(xu a.2.2.c a.1).At=a.2.2.c.At:=rfl;have E:(xu a.2.2.c a.1).End=a.2.2.c.At+a.1:=rfl;have eD:(xu a.2.2.c a.1).Depth=a.2.2.c.Depth:=rfl;rw[D]at T;have sE:=L.2.2.1;rw[E]at sE;have h0:=q.1.1;have k1:=(lC o.Kind 0 [] u0).2;have k2:=(lC o.Key 0 [] u0).2;simp only[CJ]at k1 k2;refine qo (fun x=>x.2.2.1.p=r.p/\Ez 0 (xu a.2.2.c a.1) x.2.2.1.c/\(kM x.2.2.2.Key.Kind=true/\kV x.2.2.2.Key)/\kV x.2.2.2.Val/\(tV x.2.2.2.Key:Int)+tV x.2.2.2.Val<=2+8*(x.2.2.1.c.At - a.2.2.c.At)) (fun x=>(x.2.2.1.c.End - x.2.2.1.c.At).toNat) ⟨V.trans l3,L,⟨z.2.1 J,(lC o.Key 0 [] u0).1⟩,(lC o.Kind 0 [] u0).1,by show(tV (ah.mk o.Key 0 [] [] [] [] []):Int)+tV (ah.mk o.Kind 0 [] [] [] [] [])<=2+8*(M.2.c.At - a.2.2.c.At);omega⟩ (by show(M.2.c.End - M.2.c.At).toNat < (r.c.End - r.c.At).toNat+1;omega) fun x hx=> ?_;obtain⟨u,i,H,U,x5⟩:=hx;have xE:=i.2.2.1;have xA:=i.2.2.2.2.2.2;have xD:=i.2.2.2.1;rw[E]at xE;rw[D]at xA;rw[eD]at xD;refine az fun v7 P=>bG (fun hlt=>ai i.1 (az fun v8 Ir=>bP (fun _=>v8.2.2.2=0) ?_ fun y3 F=> ?_)) (fun G=> ?_)
 ·refine dM (fun c=>af (iP c)) fun e0=> ?_;repeat' first
   | exact af e0
   | exact af (iP (by show ¬(18:Int)=0;decide))
   | exact af (iP (by show ¬(9:Int)=0;decide))
   | refine dM (fun _=> ?_) (fun _=> ?_)
   | refine dK (fun _=> ?_) (fun _=> ?_)
   | refine dJ (fun _=> ?_) (fun _=> ?_)
 ·rw[Ir]at F⊢;obtain⟨s,u2⟩:=BQ i.1 F;generalize vg x.2.2.1.c=b at*;have uD:=s.2.2.2.1;have uE:=s.2.2.1;have uA:=s.2.2.2.2.2.2;have Q:Kt (ah.mk 10 0 [] [] [] [] []) (ae.mk x.2.2.1.p b.2.2.1):=⟨s.1,by show ig x.2.2.1.p;rw[u];exact l.2.1,(lC 10 0 [] u0).1,by rw[XU];show((1:Nat):Int)+8*(b.2.2.1.End - b.2.2.1.At)<=1048576;have:=nI v;omega⟩;have B:∀(w:ah×Int×ae) (p A:ah),w.2.2.p=x.2.2.1.p->Ez 0 b.2.2.1 w.2.2.c->(kM p.Kind=true/\kV p)->kV A->(tV p:Int)+tV A<=2+8*(w.2.2.c.At - a.2.2.c.At)->(fun x=>x.2.2.1.p=r.p/\Ez 0 (xu a.2.2.c a.1) x.2.2.1.c/\(kM x.2.2.2.Key.Kind=true/\kV x.2.2.2.Key)/\kV x.2.2.2.Val/\(tV x.2.2.2.Key:Int)+tV x.2.2.2.Val<=2+8*(x.2.2.1.c.At - a.2.2.c.At)) ((true,true,w.2.2,Pair.mk p A):Bool×Bool×ae×Pair)/\(w.2.2.c.End - w.2.2.c.At).toNat < (x.2.2.1.c.End - x.2.2.1.c.At).toNat:=fun w p A a1 a2 a3 a4 a5=>by
   have t:Ez 1 x.2.2.1.c w.2.2.c:=lI (lq s a2) mi;have aE:=t.2.2.1;have aA:=t.2.2.2.2.2.2;have aL:=t.1.1.2.1;exact⟨⟨a1.trans u,lI (lq i t) mi,a3,a4,a5⟩,by omega⟩
  refine dK (fun hk=> ?_) (fun hk=> ?_)
  ·have n:lK d (Op.mk 0 [] [] 0 0 o.Key (-1) 0) b.2.1 (ae.mk x.2.2.1.p b.2.2.1):=⟨Q,fun j=>(by
    have f:o.Key=10:=j;have:=z.2.1 J;rw[f]at this;exact absurd this mi),by show 5*b.2.2.1.Depth+2<=(d:Int);omega⟩
   have k:=X.2.2.2.2.2 _ _ _ n;refine ai n (dM (fun c=>af (iP c)) fun I=>af ?_);obtain⟨f1,f2,f3,f4,f5⟩:=k I;generalize (nN d).2.2.2.2.2 (Op.mk 0 [] [] 0 0 o.Key (-1) 0) b.2.1 (ae.mk x.2.2.1.p b.2.2.1)=w at*;have f4:(tV w.1:Int)<=8*(w.2.2.c.At - b.2.2.1.At):=f4;have f7:b.2.2.1.At+0<=w.2.2.c.At:=f2.2.2.2.2.2.2;refine B w w.1 x.2.2.2.Val f1 f2 ⟨f5 fun f=> ?_,f3⟩ U (by have:=nI x.2.2.2.Key;omega);have f:o.Key=10:=f;have:=z.2.1 J;rw[f]at this;exact absurd this mi
  ·have n:lK d o b.2.1 (ae.mk x.2.2.1.p b.2.2.1):=⟨Q,fun j=>by show 0<=o.Target/\o.Target < x.2.2.1.p.bD.length;rw[u];exact z.1 j,by show 5*b.2.2.1.Depth+2<=(d:Int);omega⟩;have k:=X.2.2.2.2.2 _ _ _ n;refine ai n (dM (fun c=>af (iP c)) fun I=>af ?_);obtain⟨f1,f2,f3,f4,f5⟩:=k I;generalize (nN d).2.2.2.2.2 o b.2.1 (ae.mk x.2.2.1.p b.2.2.1)=w at*;have f4:(tV w.1:Int)<=8*(w.2.2.c.At - b.2.2.1.At):=f4;have f7:b.2.2.1.At+0<=w.2.2.c.At:=f2.2.2.2.2.2.2;exact B w x.2.2.2.Key w.1 f1 f2 H f3 (by have:=nI x.2.2.2.Val;omega)
 ·rw[P]at G;have hend:=at_end i.1 G;have aa:=YP l1.1 O K i;have hpl:=G8 (iq v o.Num).1.Pairs;have ht:=iZ (iq v o.Num).1;have C:pJ ((iq v o.Num).1.Pairs++[x.2.2.2]):=⟨by simp only[um,yG,CJ];omega,fun y hy=>(yH.1 hy).elim (hf.2.2 y) fun e=>by rw[Ko.1 e];exact H.1⟩;obtain⟨q1,q2⟩:=arK (GR l.2.2.1) C H U;have ep:Pair.mk x.2.2.2.Key x.2.2.2.Val=x.2.2.2:=Pair.eta _;rw[Y,ep];refine bW <| ai qb (az fun v9 Z=> ?_)
  rw[Z,Kr];refine ai ?_ (az fun v10 AZ=> ?_)
  ·first
    | exact⟨by decide,dm au au⟩
    | exact⟨trivial,dm au au⟩
    | exact dm au au
  rw[AZ];refine ai C (ai N.2.1 (af fun _=>⟨u,lI (lq l1 aa) au,Jl N.2.1 l.2.2.1 q1,?_⟩));show(tV (yT g v o (ah.mk 12 0 [] [] (pg ((iq v o.Num).1.Pairs++[x.2.2.2])) [] [])):Int)+0<=tV v+8*(x.2.2.1.c.End - r.c.At)
  have t2:=JC (g:=g) (v:=v) (o:=o) (x:=ah.mk 12 0 [] [] (pg ((iq v o.Num).1.Pairs++[x.2.2.2])) [] []) N.2.1;cases m:(iq v o.Num).2 with
  | true=>rw[m]at t2;simp only[uu]at t2;omega
  | false=>have:=t4.2 m;rw[m]at t2;simp only[mX]at t2;omega
abbrev Uy (a:Nat):=atX ((nN a).1) (jv a) ((nN a).2.1) (kL a) ((nN a).2.2.1) (iM a) ((nN a).2.2.2.1) (jy a) ((nN a).2.2.2.2.1) (kR a) ((nN a).2.2.2.2.2) (lK a)
theorem aaN (a:Nat)(p:JA a)(o:Op)(w:Int)(r:ae)(h:lK (a+1) o w r):j_ (Uy a o w r) (fun x=>x.2.1=0->x.2.2.p=r.p/\Ez 0 r.c x.2.2.c/\kV x.1/\(tV x.1:Int)<=8*(x.2.2.c.At - r.c.At)/\(¬o.Kind=10->kM x.1.Kind=true)):=
 by
 obtain⟨b,n,B⟩:=h;unfold Uy atX;simp only[ah.dR];refine dM (fun _=>af (fun e=>absurd e qcr)) fun _=>dK (fun c=> ?_) (fun c=>ai b.1 (az fun A j=>dM (fun g=>af (fun e=>absurd e g)) fun i=> ?_))
 ·have d:iM a o.Target (ah.mk 10 0 [] [] [] [] []) 0 r:=⟨b,n c,by omega⟩;refine ai d (af fun e=> ?_);obtain⟨f1,f2,f3,f4⟩:=p.2.2.1 _ _ _ _ d e;rw[XU]at f4;exact⟨f1,f2,f3,by dsimp only;omega,fun k=>absurd c k⟩
 ·rw[j]at i⊢;obtain⟨u,q,C,m,_⟩:=IY b.1 i;have t:=RJ (wire:=w) b.1;generalize jd w r=y at*;refine ai m (az fun D f=>af fun e=> ?_);rw[f]at e⊢;obtain⟨z,v,s,l⟩:=YG t e;exact⟨q,lI u mi,v,by dsimp only;omega,fun _=>by dsimp only;rw[s];exact l⟩
theorem rF:∀a,JA a
 | 0=>⟨fun prog v r h=>False.elim qbx,
  fun g v o w r h=>False.elim qbx,
  fun prog b c r h=>False.elim qbx,
  fun g v o r h=>False.elim qbx,
  fun g v o r h=>False.elim (by have k:=h.1.1.2.1.1;have e:=h.2.2.2;omega),
  fun o w r h=>False.elim qbx⟩
 | a+1=>⟨fun prog v r h=>(QY a (rF a) prog v r h).2,
  fun g v o w r h=>(Xh a (rF a) g v o w r h).2,
  fun prog b c r h=>(Qz a (rF a) prog b c r h).2,
  fun g v o r h=>(Rx a (rF a) g v o r h).2,
  fun g v o r h=>(YF a (rF a) g v o r h).2,
  fun o w r h=>(aaN a (rF a) o w r h).2⟩
theorem aka (a:Nat)(prog:Int)(v:ah)(r:ae)(h:jv (a+1) prog v r):Is (Hf a prog v r):=(QY a (rF a) prog v r h).1
theorem aps (a:Nat)(g:bK)(v:ah)(o:Op)(w:Int)(r:ae)(h:kL (a+1) g v o w r):Is (Na a g v o w r):=(Xh a (rF a) g v o w r h).1
theorem ai0 (c:Nat)(prog:Int)(a:ah)(b:Int)(r:ae)(h:iM (c+1) prog a b r):Is (H6 c prog a b r):=(Qz c (rF c) prog a b r h).1
theorem ajf (a:Nat)(g:bK)(v:ah)(o:Op)(r:ae)(h:jy (a+1) g v o r):Is (Gv a g v o r):=(Rx a (rF a) g v o r h).1
theorem aqo (a:Nat)(g:bK)(v:ah)(o:Op)(r:ae)(h:kR (a+1) g v o r):Is (LW a g v o r):=(YF a (rF a) g v o r h).1
theorem ayh (a:Nat)(o:Op)(w:Int)(r:ae)(h:lK (a+1) o w r):Is (Uy a o w r):=(aaN a (rF a) o w r h).1
theorem Zp (prog:Int)(v:ah)(r:ae)(h:Kt v r/\(0<=prog/\prog < r.p.bD.length)):(fun x=>Iu 0 0 v r x/\(x.2.1=0->x.2.2.c.At=x.2.2.c.End)) (YL prog v r):=(rF ((5*r.c.Depth+5).toNat)).1 prog v r (⟨h.1,h.2,by have k:=h.1.1.2.1.1;omega⟩)
theorem aEw:∀b,gZ Z.P Z.S 161 (qj (kN (ak (jf 0) (ak (bC cI) (a1 (aJ aP)))) (b1 (aV bn))) (shr [.slot 0 true (nn 7), s0 1, .cells 0 (nn 8)] (aB aP (aB cI (l1 bn)))) 2 [] (fun a=>some (jv b (a.1.2.1) (a.1.2.2) (a.2))) (fun a=>(nN b).1 (a.1.2.1) (a.1.2.2) (a.2)))/\gZ Z.P Z.S 232 (qj (kN (ak (jf 0) (ak (aJ jg) (ak (aJ aP) (ak (aJ jF) (a1 (bC cI)))))) (b1 (aV bn))) (shr [.slot 0 true (nn 7), s0 1, .cells 0 (nn 8)] (aB aP (aB cI (l1 bn)))) 2 [] (fun a=>some (kL b (a.1.2.1) (a.1.2.2.1) (a.1.2.2.2.1) (a.1.2.2.2.2) (a.2))) (fun a=>(nN b).2.1 (a.1.2.1) (a.1.2.2.1) (a.1.2.2.2.1) (a.1.2.2.2.2) (a.2)))/\gZ Z.P Z.S 405 (qj (kN (ak (jf 0) (ak (bC cI) (ak (aJ aP) (a1 (bC cI))))) (b1 (aV bn))) (shr [.slot 0 true (nn 7), s0 1, .cells 0 (nn 8)] (aB aP (aB cI (l1 bn)))) 2 [] (fun a=>some (iM b (a.1.2.1) (a.1.2.2.1) (a.1.2.2.2) (a.2))) (fun a=>(nN b).2.2.1 (a.1.2.1) (a.1.2.2.1) (a.1.2.2.2) (a.2)))/\gZ Z.P Z.S 309 (qj (kN (ak (jf 0) (ak (aJ jg) (ak (aJ aP) (a1 (aJ jF))))) (b1 (aV bn))) (shr [.slot 0 true (nn 7), s0 1, .cells 0 (nn 8)] (aB aP (aB cI (l1 bn)))) 2 [] (fun a=>some (jy b (a.1.2.1) (a.1.2.2.1) (a.1.2.2.2) (a.2))) (fun a=>(nN b).2.2.2.1 (a.1.2.1) (a.1.2.2.1) (a.1.2.2.2) (a.2)))/\gZ Z.P Z.S 305 (qj (kN (ak (jf 0) (ak (aJ jg) (ak (aJ aP) (a1 (aJ jF))))) (b1 (aV bn))) (shr [.slot 0 true (nn 7), s0 1, .cells 0 (nn 8)] (aB aP (aB cI (l1 bn)))) 2 [] (fun a=>some (kR b (a.1.2.1) (a.1.2.2.1) (a.1.2.2.2) (a.2))) (fun a=>(nN b).2.2.2.2.1 (a.1.2.1) (a.1.2.2.1) (a.1.2.2.2) (a.2)))/\gZ Z.P Z.S 400 (qj (kN (ak (jf 0) (ak (aJ jF) (a1 (bC cI)))) (b1 (aV bn))) (shr [.slot 0 true (nn 7), s0 1, .cells 0 (nn 8)] (aB aP (aB cI (l1 bn)))) 2 [] (fun a=>some (lK b (a.1.2.1) (a.1.2.2) (a.2))) (fun a=>(nN b).2.2.2.2.2 (a.1.2.1) (a.1.2.2) (a.2)))
 | 0=>⟨je func161 eQ (fun a h=>by have k:=h.1.1.2.1.1;have e:=h.2.2;omega),
  je func232 eQ (fun a h=>by have k:=h.1.1.2.1.1;have e:=h.2.2;omega),
  je func405 eQ (fun a h=>by have k:=h.1.1.2.1.1;have e:=h.2.2;omega),
  je func309 eQ (fun a h=>by have k:=h.1.1.2.1.1;have e:=h.2.2;omega),
  je func305 eQ (fun a h=>by have k:=h.1.1.2.1.1;have e:=h.2.2.2;omega),
  je func400 eQ (fun a h=>by have k:=h.1.1.2.1.1;have e:=h.2.2;omega)⟩
 | b+1=>by
  obtain⟨i,j,l,g,d,f⟩:=aEw b;exact⟨GU [Ad,alo,aAy,agI,⟨161,_,i⟩,⟨232,_,j⟩,⟨405,_,l⟩,⟨309,_,g⟩,⟨305,_,d⟩,⟨400,_,f⟩] [jS 2 (bI (fun c=>[.cells (pid (c 0)) (nn 8), .cells (pid (c 5)) (nn 7)]) (aB bn (l1 aP))),jS 8 (bI (fun c=>[s0 49, .cells (pid (c 0)) (nn 8), .cells (pid (c 5)) (nn 7)]) (aB cI (aB bn (l1 aP)))),jS 100016 (bI (fun c=>[.cells (pid (c 0)) (nn 8), .cells (pid (c 5)) (nn 7)]) (aB bn (l1 aP)))] func161 ntmps161 (fun a=>Hf b a.1.2.1 a.1.2.2 a.2) (fun a h=>⟨aka b a.1.2.1 a.1.2.2 a.2 h,rfl⟩) (pz (n:=93) rfl),
   GU [xO,aDg,NP,atz,⟨161,_,i⟩,⟨232,_,j⟩,⟨405,_,l⟩,⟨309,_,g⟩,⟨305,_,d⟩,⟨400,_,f⟩] [] func232 ntmps232 (fun a=>Na b a.1.2.1 a.1.2.2.1 a.1.2.2.2.1 a.1.2.2.2.2 a.2) (fun a h=>⟨aps b a.1.2.1 a.1.2.2.1 a.1.2.2.2.1 a.1.2.2.2.2 a.2 h,rfl⟩) (pz (n:=64) rfl),
   GU [FM,Ib,auz,ata,⟨161,_,i⟩,⟨232,_,j⟩,⟨405,_,l⟩,⟨309,_,g⟩,⟨305,_,d⟩,⟨400,_,f⟩] [] func405 ntmps405 (fun a=>H6 b a.1.2.1 a.1.2.2.1 a.1.2.2.2 a.2) (fun a h=>⟨ai0 b a.1.2.1 a.1.2.2.1 a.1.2.2.2 a.2 h,rfl⟩) (pz (n:=68) rfl),
   GU [KA,aeT,Z4,⟨161,_,i⟩,⟨232,_,j⟩,⟨405,_,l⟩,⟨309,_,g⟩,⟨305,_,d⟩,⟨400,_,f⟩] [jS 100007 (bI (fun c=>[s0 13]) (l1 cI)),jS 100013 (bI (fun c=>[.cells (pid (c 10)) (nn 7)]) (l1 aP))] func309 ntmps309 (fun a=>Gv b a.1.2.1 a.1.2.2.1 a.1.2.2.2 a.2) (fun a h=>⟨ajf b a.1.2.1 a.1.2.2.1 a.1.2.2.2 a.2 h,rfl⟩) (pz (n:=71) rfl),
   GU [FM,KA,Ad,alo,Vy,Ib,anp,aae,aeT,⟨161,_,i⟩,⟨232,_,j⟩,⟨405,_,l⟩,⟨309,_,g⟩,⟨305,_,d⟩,⟨400,_,f⟩] [jS 14 (bI (fun c=>[s0 18, s0 19, .cells (pid (c 0)) (nn 8), .cells (pid (c 17)) (nn 14)]) (aB aG (aB aG (aB bn (l1 wB))))),jS 100009 (bI (fun c=>[s0 15]) (l1 cI)),jS 100022 (bI (fun c=>[]) l0)] func305 ntmps305 (fun a=>LW b a.1.2.1 a.1.2.2.1 a.1.2.2.2 a.2) (fun a h=>⟨aqo b a.1.2.1 a.1.2.2.1 a.1.2.2.2 a.2 h,rfl⟩) (pz (n:=153) rfl),
   GU [NP,RG,abW,⟨161,_,i⟩,⟨232,_,j⟩,⟨405,_,l⟩,⟨309,_,g⟩,⟨305,_,d⟩,⟨400,_,f⟩] [] func400 ntmps400 (fun a=>Uy b a.1.2.1 a.1.2.2 a.2) (fun a h=>⟨ayh b a.1.2.1 a.1.2.2 a.2 h,rfl⟩) (pz (n:=44) rfl)⟩
def arT:aZ Z:=⟨161,qj (kN (ak (jf 0) (ak (bC cI) (a1 (aJ aP)))) (b1 (aV bn))) (shr [.slot 0 true (nn 7), s0 1, .cells 0 (nn 8)] (aB aP (aB cI (l1 bn)))) 2 [] (fun a=>some (Kt (a.1.2.2) (a.2)/\(0<=(a.1.2.1)/\(a.1.2.1) < (a.2).p.bD.length))) (fun a=>YL (a.1.2.1) (a.1.2.2) (a.2)),kQ (fun n=>((aEw n).1)) _ _ (fun a h=>⟨(5*(a.2).c.Depth+5).toNat,⟨h.1,h.2,by have k:=h.1.1.2.1.1;omega⟩,rfl⟩)⟩
def aum (a:Str)(l:rO):Pg (aS×Int):=.br (decide (l.Bytes < 0)) (.ret (aS.mk [] 0 0 0 0 0,1)) (.br (decide (l.Depth < 0)) (.ret (aS.mk [] 0 0 0 0 0,1)) (.br (decide (l.Nodes < 0)) (.ret (aS.mk [] 0 0 0 0 0,1)) (.br (decide (l.Text < 0)) (.ret (aS.mk [] 0 0 0 0 0,1)) (.as (List.length a<=9223372036854775807) (.br (decide (l.Bytes < (↑(List.length a):Int))) (.ret (aS.mk [] 0 0 0 0 0,3)) (.as (List.length a<=9223372036854775807) (.ret (aS.mk a 0 (↑(List.length a):Int) l.Depth l.Nodes l.Text,0))))))))
def JK (a:Str)(l:rO):=(aum a l).val
def aDK:aZ Z:=E0 [] [] (ak (bC cStr) (a1 (aJ B_))) (shr [.slot 0 true (nn 6), s0 1] (aB eF (l1 cI))) [] func159 2 (u2 aum)
def as9:Pg rO:=.ret (rO.mk 65536 16 4096 4096)
def wo:rO:=(as9).val
def EX:aZ Z:=E0 [] [] a0 (shr [.slot 0 true (nn 4)] (l1 B_)) [] func43 1 fun a=>as9
def okL (l:rO):Prop:=l.Bytes<=65536/\l.Depth<=1048576/\l.Nodes<=1099511627776/\l.Text<=1099511627776
theorem LV:okL wo:=by
 show okL (rO.mk 65536 16 4096 4096)
 exact⟨by decide,by decide,by decide,by decide⟩
theorem ayO {a:Str}{l:rO}(h:okL l)(b:(JK a l).2=0):n_ (JK a l).1/\(JK a l).1.At=0/\(JK a l).1.End=a.length/\a.length<=65536:=by
 obtain⟨l1,k,j,i⟩:=h;unfold JK aum at b⊢;simp only[iG,bf,aI]at b⊢;by_cases f:l.Bytes < 0
 ·rw[rY f]at b;cases b
 rw[qM f]at b⊢;by_cases g:l.Depth < 0
 ·rw[rY g]at b;cases b
 rw[qM g]at b⊢;by_cases e:l.Nodes < 0
 ·rw[rY e]at b;cases b
 rw[qM e]at b⊢;by_cases c:l.Text < 0
 ·rw[rY c]at b;cases b
 rw[qM c]at b⊢;by_cases d:l.Bytes < (a.length:Int)
 ·rw[rY d]at b;cases b
 rw[qM d];exact⟨⟨⟨by show(0:Int)<=0;omega,by show(0:Int)<=a.length;omega,by show(a.length:Int)<=a.length;omega,by show a.length<=1048576;omega⟩,⟨by show 0<=l.Depth;omega,k⟩,⟨by show 0<=l.Nodes;omega,j⟩,by show 0<=l.Text;omega,i⟩,rfl,rfl,by omega⟩
theorem Xj {p:dO}{name:Str}(h:(AB p name).2=true):0<=(AB p name).1/\(AB p name).1 < p.bD.length:=by
 have a:=(mO (fun(x:bK)=>ac1 x name) p.bD).1;unfold AB ax5 at h⊢;simp only[cZ,aI]at h⊢;have h:=Eh h;omega
def anS (p:dO)(g:Str)(b:ah)(f:Str)(l:rO):Pg (ah×Int):=.lt (AB p g) fun c=> .br (!c.2) (.ret (ah.mk 0 0 [] [] [] [] [],10)) (.br (b.Kind !=10) (.ret (ah.mk 0 0 [] [] [] [] [],12)) (.lt (JK f l) fun a=> .br (a.2 !=0) (.ret (ah.mk 0 0 [] [] [] [] [],a.2)) (.br (decide (a.1.Depth < 1)) (.ret (ah.mk 0 0 [] [] [] [] [],17)) (.lt (nS 1 (ae.mk p (aS.mk a.1.Data a.1.At a.1.End (dA .i64 (a.1.Depth - 1)) a.1.Nodes a.1.Text))) fun d=> .br (d.1 !=0) (.ret (ah.mk 0 0 [] [] [] [] [],d.1)) (.ob (Kt b.re d.2/\0<=c.1/\c.1 < (↑d.2.p.bD.length:Int)) (.lt (YL c.1 b.re d.2) fun e=> .br (e.2.1 !=0) (.ret (ah.mk 0 0 [] [] [] [] [],e.2.1)) (.ob (gV e.1.re) (.ret ((Yx p c.1 e.1.re).re,0)))))))))
def aFC (p:dO)(c:Str)(a:ah)(b:Str)(l:rO):=(anS p c a b l).val
theorem aaR (p:dO)(name:Str)(a:ah)(c:Str)(l:rO)(h:ig p/\okL l/\kV a/\tV a<=1024):j_ (anS p name a c l) (fun x=>x.2=0->kV x.1/\tV x.1<=tV a+8*c.length/\(AB p name).2=true/\c.length<=65536):=
 by
 obtain⟨J,O,A,S⟩:=h;unfold anS;simp only[ah.dR];have g:∀{e:Int} (v:¬e=0),(fun x:ah×Int=>x.2=0->kV x.1/\tV x.1<=tV a+8*c.length/\(AB p name).2=true/\c.length<=65536) (ah.mk 0 0 [] [] [] [] [],e):=fun v F=>absurd F v
 refine az fun i o=>dJ (fun _=>af (g mi)) fun Q=>dM (fun _=>af (g mi)) fun h2=>az fun v2 j=>dM (fun d=>af (g d)) fun C=>bG (fun _=>af (g mi)) fun K=>az fun f n=>dM (fun d=>af (g d)) fun B=> ?_;have y:i.2=true:=by simpa using Q
 have u:=Xj (p:=p) (name:=name) (by rw[<-o];exact y);rw[<-o]at u;rw[j]at C K;obtain⟨P,W,Z,L⟩:=ayO O C;rw[n,j]at B;rw[j]at n;generalize JK c l=b at*;have R:n_ (aS.mk b.1.Data b.1.At b.1.End (dA .i64 (b.1.Depth - 1)) b.1.Nodes b.1.Text):=by
  obtain⟨M,⟨U,X⟩,G⟩:=P;rw[dU (k:= .i64) tZ];exact⟨M,⟨by show 0<=b.1.Depth - 1;omega,by show b.1.Depth - 1<=1048576;omega⟩,G⟩
 obtain⟨m,q,t⟩:=xU (r:=ae.mk p (aS.mk b.1.Data b.1.At b.1.End (dA .i64 (b.1.Depth - 1)) b.1.Nodes b.1.Text)) R B;rw[<-n]at m q t;have sE:f.2.c.End=b.1.End:=q.2.2.1;have t:f.2.c.At=b.1.At:=t;have m:f.2.p=p:=m;have w:Kt a f.2/\0<=i.1/\i.1 < (f.2.p.bD.length:Int):=⟨⟨q.1,by rw[m];exact J,A,by omega⟩,by rw[m];exact u⟩;refine ai w (az fun s z=>dM (fun d=>af (g d)) fun I=> ?_);obtain⟨E,H⟩:=Zp i.1 a f.2 w;rw[<-z]at E H;obtain⟨f1,f2,f3,f4⟩:=E I;have V:=f2.2.2.1;have Y:=f2.1.1.2.1;have D:gV s.1:=⟨f3,by omega⟩;obtain⟨N,T⟩:=Ry p i.1 s.1 D;exact ai D (af fun _=>⟨N,by show tV (Yx p i.1 s.1)<=tV a+8*c.length;omega,by rw[<-o];exact y,L⟩)
def aAm:aZ Z:=E1 [adH,aDK,FM,arT,aow] [] (ak (aJ eX) (ak (bC cStr) (ak (aJ aP) (ak (bC cStr) (a1 (aJ B_)))))) (shr [.slot 0 true (nn 7), s0 1] (aB aP (l1 cI))) [] func89 2 (fun a=>anS a.1 a.2.1 a.2.2.1 a.2.2.2.1 a.2.2.2.2) (fun a=>ig a.1/\okL a.2.2.2.2/\kV a.2.2.1/\tV a.2.2.1<=1024) fun a h=>(aaR a.1 a.2.1 a.2.2.1 a.2.2.2.1 a.2.2.2.2 h).1
def Qi (f:dO->Int->ah->Bool)(vO:dO->Int->ah->Prop)(p:dO)(prog:Int)(v:ah):Pg Bool:=.ix prog p.bD.length (.as ((p.bD.getD prog.toNat dC).Ops.length<=9223372036854775807) (.each false uj (p.bD.getD prog.toNat dC).Ops BJ (fun g b (k:Unit)=> .ix g (p.bD.getD prog.toNat dC).Ops.length (.lt (iq v.re b.Num) fun c=> .br (!c.2) (.br (b.Card==1) (.ret (.inr false)) (rl ())) (.br (b.Kind !=10) (rl ()) (.ob ((match c.1 with | ah.mk i m o n a l q=>a).length<= 1048576) (.lt (aAr c.1.re) fun d=> aL d (.each false uj d gQ (fun h e (j:Unit)=> .ix h d.length (.ob (vO p b.Target e.re) (.br (!f p b.Target e.re) (.ret (.inr (.inr false))) (rl ())))) (fun h (j:Unit)=> rl ()) ())))))) (fun g (k:Unit)=> .ret true) ()))
def vO (a:Nat)(p:dO)(prog:Int)(v:ah):Prop:=ig p/\(0<=prog/\prog < p.bD.length)/\gV v/\tV v<=a
def tcV:Nat->(dO->Int->ah->Bool)
 | 0=>(fun _ _ _=>default)
 | a+1=>(fun p prog v=>(Qi ((tcV a)) (vO a) p prog v).val)
def Xa (p:dO)(prog:Int)(v:ah):Bool:=(tcV (tV v)) p prog v
abbrev EL (a:Nat):=Qi ((tcV a)) (vO a)
theorem aev (j:Nat)(p:dO)(prog:Int)(v:ah)(h:vO (j+1) p prog v):Is (EL j p prog v):=
 by
 obtain⟨w,M,F,L⟩:=h;have I:=w _ (getD_mem (d:=dC) (l:=p.bD) (i:=prog.toNat) au);have K:(iq v 0).1.Pairs.length=(iq v 0).1.Pairs.length:=rfl;unfold EL Qi;simp only[ah.dR];refine b_ au au (gp fun _=>gU (.inr au) (fun E B r _=>b_ au au (dI fun b e=>aT (fun _=>dY iR iR) (fun D=>iW iR (fun y=> ?_)))) (fun B _=>aQ));have x:b.2=true:=by simpa using D
 have H:=I.2 _ (getD_mem (d:=BJ) r);have c:gV b.1/\tV b.1 < tV v:=by
  rcases KE v ((p.bD.getD prog.toNat dC).Ops.getD E BJ).Num with⟨g,s,J,N,m⟩ | ⟨g,_⟩
  ·rw[<-e]at m;rw[<-m];exact MB F J
  ·rw[<-e]at g;rw[g]at x;cases x
 have t:=(qm c.1).2.2.2.1;refine aY t (dI fun u k=>gp fun _=>gU (.inr au) (fun o C n _=>b_ au au (aY ?_ (aT iR iR))) (fun C _=>aQ));have a:=(XL b.1 t).2 _ (by have:=getD_mem (d:=gQ) n;rw[k]at this;exact this);have G:gV (u.getD o gQ)/\tV (u.getD o gQ) < tV v:=by
  rw[k];rcases a with a | ⟨q,A,a⟩ | a
  ·obtain⟨f,z⟩:=D5 c.1 a;exact⟨f,by omega⟩
  ·obtain⟨f,z,_⟩:=zL c.1 A;rw[a];exact⟨f,by omega⟩
  ·rw[a];exact c
 exact⟨w,H.1 y,G.1,by omega⟩
theorem aE0:∀b,gZ Z.P Z.S 91 (qj (args (ak (aJ eX) (ak (bC cI) (a1 (aJ aP))))) (R1 aG) 1 [] (fun a=>some (vO b (a.1) (a.2.1) (a.2.2))) (fun a=>(tcV b) (a.1) (a.2.1) (a.2.2)))
 | 0=>je func91 eQ (fun a h=>by have k:=h.2.2.2;have:=nI (a.2.2);omega)
 | b+1=>by
  have c:=aE0 b;exact GU [KA,awN,⟨91,_,c⟩] [jS 2 (bI (fun d=>[s0 20]) (l1 cI)),jS 10 (bI (fun d=>[s0 42]) (l1 cI))] func91 ntmps91 (fun a=>EL b a.1 a.2.1 a.2.2) (fun a h=>⟨aev b a.1 a.2.1 a.2.2 h,rfl⟩) (lJ (n:=54) rfl)
def af4:aZ Z:=⟨91,qj (args (ak (aJ eX) (ak (bC cI) (a1 (aJ aP))))) (R1 aG) 1 [] (fun a=>some (ig (a.1)/\(0<=(a.2.1)/\(a.2.1) < (a.1).bD.length)/\gV (a.2.2))) (fun a=>Xa (a.1) (a.2.1) (a.2.2)),kQ (fun n=>((aE0 n))) _ _ (fun a h=>⟨tV (a.2.2),⟨h.1,h.2.1,h.2.2,nO _⟩,rfl⟩)⟩
def Ur (p:dO)(b:Str)(c:Str)(l:rO):Pg (ah×Int):=.ob (ig p/\okL l/\kV (ah.mk 10 0 [] [] [] [] [])/\tV (ah.mk 10 0 [] [] [] [] [])<=1024) (.lt (aFC p b (ah.mk 10 0 [] [] [] [] []) c l) fun a=> .br (a.2 !=0) (.ret (ah.mk 0 0 [] [] [] [] [],a.2)) (.lt (AB p b) fun d=> .ob (ig p/\(0<=d.1/\d.1 < (↑p.bD.length:Int))/\gV a.1.re) (.br (!Xa p d.1 a.1.re) (.ret (ah.mk 0 0 [] [] [] [] [],14)) (.ret (a.1.re,0)))))
def EK (p:dO)(a:Str)(b:Str)(l:rO):=(Ur p a b l).val
theorem FH (p:dO)(b:Str)(a:Str)(l:rO)(h:ig p/\okL l):j_ (Ur p b a l) (fun x=>x.2=0->kV x.1/\tV x.1<=1+8*a.length):=
 by
 obtain⟨m,r⟩:=h;have d:ig p/\okL l/\kV (ah.mk 10 0 [] [] [] [] [])/\tV (ah.mk 10 0 [] [] [] [] [])<=1024:=⟨m,r,(lC 10 0 [] u0).1,by rw[XU];decide⟩;unfold Ur;simp only[ah.dR];refine ai d (az fun c n=>dM (fun j=>af fun e=>absurd e j) fun s=>az fun u g=> ?_);have k:=(aaR p b (ah.mk 10 0 [] [] [] [] []) a l d).2;have k:c.2=0->kV c.1/\tV c.1<=tV (ah.mk 10 0 [] [] [] [] [])+8*a.length/\(AB p b).2=true/\a.length<=65536:=by rw[n];exact k
 obtain⟨f,o,q,t⟩:=k s;have i:=Xj q;rw[<-g]at i;rw[XU]at o;refine ai ⟨m,i,f,by omega⟩ (dJ (fun _=>af fun e=>absurd e mi) fun _=>af fun _=>⟨f,o⟩)
def BB:aZ Z:=E1 [aAm,adH,af4] [] (ak (aJ eX) (ak (bC cStr) (ak (bC cStr) (a1 (aJ B_))))) (shr [.slot 0 true (nn 7), s0 1] (aB aP (l1 cI))) [] func42 2 (u4 Ur) (fun a=>ig a.1/\okL a.2.2.2) fun a h=>(FH a.1 a.2.1 a.2.2.1 a.2.2.2 h).1
def VP {R:Type}(t:Pg R)(Q:R->Prop):Prop:=Q t.val
section
variable {R A X Y:Type}{Q:R->Prop}
theorem a_ {r:R}(h:Q r):VP (.ret r) Q:=h
theorem fO {p:Prop}{k:Pg R}(h:VP k Q):VP (.ob p k) Q:=by unfold VP;rw[bY];exact h
theorem oP {i:Int}{n:Nat}{k:Pg R}(h:VP k Q):VP (.ix i n k) Q:=by unfold VP;rw[eU];exact h
theorem qK {p:Prop}{k:Pg R}(h:VP k Q):VP (.as p k) Q:=by unfold VP;rw[iG];exact h
theorem oQ {v:A}{k:A->Pg R}(h:∀x,x=v->VP (k x) Q):VP (.lt v k) Q:=by unfold VP;rw[cZ];exact h v rfl
theorem fD {b:Bool}{t e:Pg R}(a:b=true->VP t Q)(c:b=false->VP e Q):VP (.br b t e) Q:=by
 unfold VP;rw[bf];cases b with
 | true=>exact a rfl
 | false=>exact c rfl
theorem kz (c:X->Prop){a:Pg (X⊕R)}{k:X->Pg R}(b:VP a (Sum.elim c Q))(d:∀x,c x->VP (k x) Q):VP (.cut k a) Q:=by
 unfold VP at b⊢;rw[jk];cases e:a.val with
 | inl x=>rw[e]at b;exact d x b
 | inr r=>simp_all
theorem lF {h:Bool}{s:Ix X Y}{l:List A}{d:A}{a:Int->A->Y->Pg (Y⊕R)}{c:Int->Y->Pg R}{y:Y}(I:Nat->Y->Prop)(g:I 0 y)(i:∀(k:Nat) (y:Y),k < l.length->I k y->VP (a ↑k (l.getD k d) y) (Sum.elim (I (k+1)) Q))(f:∀y,I l.length y->VP (c ↑l.length y) Q):VP (.each h s l d a c y) Q:=by
 unfold VP;rw[jD];refine Ig (d:=d) I l 0 y g (fun j y e b=> ?_) (fun y b=> ?_)
 ·rw[Dw]at b⊢;exact i j y e b
 ·rw[Dw]at b⊢;exact f y b
theorem aue {s:Ix X Y}{a b:Int}{c:Int->Y->Pg (Y⊕R)}{e:Int->Y->Pg R}{y:Y}(I:Int->Y->Prop)(h:I a y)
  (j:∀(i:Int) (y:Y),a<=i->i < b->I i y->VP (c i y) (Sum.elim (I (i+1)) Q)) (g:∀i y,a<=i->b<=i->I i y->VP (e i y) Q):VP (.cnt s a b c e y) Q:=by
 unfold VP;rw[qC];refine GY (fun i y=>a<=i/\I i y) b _ a y rfl ⟨MS _,h⟩ (fun i y f d=> ?_) (fun i y f d=>g i y d.1 f d.2);have:=j i y d.1 f d.2;unfold VP at this;cases k:(c i y).val with
 | inr r=>grind
 | inl l=>grind
end
theorem jm {a:Bool}{e:Int}{x:ax}(h:(iI a e x).out=[]):a=true/\x.out=[]:=by
 cases a with
 | true=>exact⟨rfl,h⟩
 | false=>
  have h:x.out++[eY.mk x.rP x.num e]=[]:=h;simp_all
theorem Ic {l:List Note}{t:Int}{x:ax}(h:(mD l t x).out=[]):x.out=[]:=(jm h).2
theorem aqE {l:List mg}{a b:Int}{x:ax}(h:(Ji l a b x).out=[]):x.out=[]:=by
 have k:VP (spans l a b x) (fun y=>y.out=[]->x.out=[]):=by
  unfold spans;refine qK (lF (fun _ y=>y.out=[]->x.out=[]) id (fun k y e c=> ?_) (fun y c=>a_ c));repeat' first
   | exact a_ fun h=>c (jm (jm h).2).2
   | exact a_ fun h=>c (jm h).2
   | refine fO ?_
   | refine oP ?_
   | refine qK ?_
   | (refine oQ fun x d=> ?_;subst d)
   | refine fD (fun _=> ?_) (fun _=> ?_)
   | refine kz (fun z=>z.out=[]->x.out=[]) ?_ (fun z c=> ?_)
 exact k h
def IW (s:ay)(f:aK):Prop:=(1<=f.Num/\f.Num<=65535)/\(1<=f.Card/\f.Card<=5/\CX f.Card f.Key=true)/\HY s f=true
theorem arO {s:ay}{m:aO}{i:Int}{x:ax}(h:(FO s m i x).out=[]):x.out=[]/\IW s (m.Fields.getD i.toNat aH):=by
 have k:VP (field s m i x) (fun y=>y.out=[]->x.out=[]/\IW s (m.Fields.getD i.toNat aH)):=by
  unfold field;simp only[ah.dR];generalize G:m.Fields.getD i.toNat aH=f;have d:aK.mk f.Num f.Name f.Card f.Key f.dH f.Union f.dD f.Default f.Notes=f:=rfl;rw[d];refine oP (kz (fun z=>z.out=[]->x.out=[]) (a_ fun h=>h) fun J u=>kz (fun z=>z.out=[]->x.out=[]/\1<=f.Num/\f.Num<=65535) ?_ fun F g=>kz (fun z=>z.out=[]->x.out=[]/\1<=f.Num/\f.Num<=65535) ?_ fun C t=>kz (fun z=>z.out=[]->x.out=[]/\1<=f.Num/\f.Num<=65535) ?_ fun H p=>kz (fun z=>z.out=[]->x.out=[]/\1<=f.Num/\f.Num<=65535) ?_ fun K j=>kz (fun z=>z.out=[]->x.out=[]/\1<=f.Num/\f.Num<=65535) ?_ fun D e=>
   kz (fun z=>z.out=[]->x.out=[]/\(1<=f.Num/\f.Num<=65535)/\(1<=f.Card/\f.Card<=5/\CX f.Card f.Key=true)) ?_ fun E c=>kz (fun z=>z.out=[]->x.out=[]/\IW s f) ?_ fun I o=>kz (fun z=>z.out=[]->x.out=[]/\IW s f) ?_ fun L l=> ?_)
  ·refine fD (fun b=>fO (a_ fun h=>⟨u (jm h).2,Eh b,Eh (jm h).1⟩)) (fun _=>fO (a_ fun h=>absurd (jm h).1 mi))
  ·refine fD (fun _=>fO (a_ fun h=>g (jm h).2)) (fun _=>oQ fun w a=>oP (fO (a_ fun h=>g (jm h).2)))
  ·exact fO (a_ fun h=>t (jm h).2)
  ·exact oP (fO (a_ fun h=>p (jm h).2))
  ·refine fD (fun _=>fO (a_ fun h=>j (jm h).2)) (fun _=>fO (a_ fun h=>j (jm h).2))
  ·refine oQ fun v a=>fD (fun b=>fD (fun r=>fO (a_ fun h=>⟨(e (jm h).2).1,(e (jm h).2).2,Eh b,Eh r,(jm h).1⟩)) (fun _=>fO (a_ fun h=> ?_))) (fun _=>fO (a_ fun h=> ?_))
   ·rw[a]at h;exact absurd (jm h).1 mi
   ·rw[a]at h;exact absurd (jm h).1 mi
  ·exact fO (a_ fun h=>⟨(c (jm h).2).1,(c (jm h).2).2.1,(c (jm h).2).2.2,(jm h).1⟩)
  ·exact fO (fO (a_ fun h=>o (jm h).2))
  ·refine fO (oQ fun A q=>fO (oQ fun B n=>a_ fun h=> ?_));subst q n;exact l (jm (Ic h)).2
 exact k h
theorem ap3 {s:ay}{m:aO}{b:List (Str×Bool)}(h:wU s m b=[]){i:Nat}(l:i < m.Fields.length):IW s (m.Fields.getD i aH):=by
 have k:VP (aaE s m b) (fun r=>r=[]->∀i,i < m.Fields.length->IW s (m.Fields.getD i aH)):=by
  unfold aaE;refine kz (fun _=>True) (fO (fO (a_ trivial))) fun t _=>kz (fun _=>True) (fD (fun _=>fO (qK (qK (a_ trivial)))) (fun _=>fO (a_ trivial))) fun p _=>
   kz (fun y=>y.out=[]->∀i,i < m.Fields.length->IW s (m.Fields.getD i aH)) (qK (aue (fun i y=>y.out=[]->∀j:Nat,(j:Int) < i->IW s (m.Fields.getD j aH)) (fun _ j d=>absurd d au) (fun i y e g a=>fO (a_ fun h=> ?_)) (fun i y e g a=>a_ fun h j d=>a h j au))) fun u f=>
   fO (qK (lF (fun _ y=>y.out=[]->∀i,i < m.Fields.length->IW s (m.Fields.getD i aH)) (fun h=>f (aqE h)) (fun k y n a=>oP (fO (fO (a_ fun h=>a (jm h).2)))) (fun y a=>fO (fO (oQ fun q c=>fO (a_ fun h=> ?_))))))
  ·obtain⟨o,v⟩:=arO h
   grind
  ·subst c;exact a (Ic (jm h).2)
 exact k h i l
theorem auM {s:ay}(h:YD s=[]){m:aO}(l:m∈s.Messages):wU s m (oM s)=[]:=by
 have k:VP (af9 s) (fun r=>r=[]->∀i,i < s.Messages.length->wU s (s.Messages.getD i dP) (oM s)=[]):=by
  unfold af9;refine fO (oQ fun p _=>kz (fun _=>True) ?_ fun u _=>kz (fun _=>True) (fO (a_ trivial)) fun w _=>fO (kz (fun y=>y.out=[]->∀i,i < s.Messages.length->wU s (s.Messages.getD i dP) (oM s)=[]) ?_ fun o j=>kz (fun y=>y.out=[]->∀i,i < s.Messages.length->wU s (s.Messages.getD i dP) (oM s)=[]) ?_ fun t f=> ?_))
  ·repeat' first
    | exact a_ trivial
    | refine fO ?_
    | refine oQ fun _ _=> ?_
    | refine kz (fun _=>True) ?_ fun _ _=> ?_
  ·refine qK (lF (fun n y=>y.out=[]->∀i,i < n->wU s (s.Messages.getD i dP) (oM s)=[]) (fun _ i b=>absurd b au) (fun k y c a=>oP (fO (oQ fun q g=>fO (a_ fun h=> ?_)))) (fun y a=>a_ a));intro i b;obtain⟨x,z⟩:=Qc2.1 h
   grind
  ·exact qK (lF (fun _ y=>y.out=[]->∀i,i < s.Messages.length->wU s (s.Messages.getD i dP) (oM s)=[]) j (fun k y c a=>oP (fO (oQ fun v g=>fO (a_ fun h=>a (Qc2.1 h).1)))) (fun y a=>a_ a))
  ·exact qK (lF (fun _ y=>y.out=[]->∀i,i < s.Messages.length->wU s (s.Messages.getD i dP) (oM s)=[]) f (fun k y c a=>oP (fO (oQ fun v g=>fO (a_ fun h=>a (Qc2.1 h).1)))) (fun y a=>a_ a))
 obtain⟨i,b,e⟩:=Ik (d:=dP) l;rw[<-e];exact k h i b
theorem aqc {s:ay}(h:oI s=true){m:aO}(b:m∈s.Messages){f:aK}(a:f∈m.Fields):IW s f:=by
 have e:YD s=[]:=by
  unfold oI Vl at h;simp_all
 obtain⟨i,g,c⟩:=Ik (d:=aH) a;rw[<-c];exact ap3 (auM e b) g
def aKA (x:Note)(a:Str):Pg Bool:=.ret (x.Name==a)
def ahz (x:Note)(a:Str):=(aKA x a).val
def awY:aZ Z:=xx [] [] (ak (aJ CZ) (a1 (jf 0))) (b1 (aV cStr)) (R1 aG) [0] func302 1 (u11 aKA)
def aFv:aZ Z:=Jf [awY] lS 302 [0] (b1 (aV cStr)) func301 sW fun x b=>ahz x b
def ajy (l:List Note)(a:Str):Pg Int:=.ret (fM (fun(x:Note)=>ahz x a) l)
def aoj (l:List Note)(a:Str):=(ajy l a).val
def axl:aZ Z:=E0 [aFv,awY] [] (ak (bC lS) (a1 (bC cStr))) (R1 cI) [] func228 1 (u2 ajy)
def aoX (l:List Note)(b:Str):Pg (ah×Bool):=.lt (aoj l b) fun a=> .br (decide (a < 0)) (.ret (ah.mk 0 0 [] [] [] [] [],false)) (.ix a l.length (.ret ((l.getD a.toNat sW).Val.re,true)))
def acH (l:List Note)(a:Str):=(aoX l a).val
theorem asC (l:List Note)(a:Str):Is (aoX l a):=
 dI fun c b=>dB iR (fun _=>b_ au (by rw[b];exact(mO (fun(x:Note)=>ahz x a) l).1) aQ)
def adJ:aZ Z:=E0 [axl] [] (ak (bC lS) (a1 (bC cStr))) (shr [.slot 0 true (nn 7), s0 1] (aB aP (l1 aG))) [] func158 2 (u2 aoX) fun a=>asC a.1 a.2
def alI (l:List Note):Pg (List UInt8):=.ret (acH l [97,108,105,97,115]).1.Text
def NJ (l:List Note):=(alI l).val
def avr:aZ Z:=E0 [adJ] [] (a1 (bC lS)) (R1 cStr) [] func154 1 alI
def axK (l:List mg):Pg (List mg):=.unk false (fun(b:Bool)=>b=true->l.length=0) (.ret []) (.ob (bZ (0+l.length) 16) (.ret l))
theorem apA (l:List mg)(h:l.length<=1048576):Is (axK l):=
 r_ (dm au au)
def axA:aZ Z:=E2 [] [] (a1 (bC p_)) (shr [.slot 0 false [some 267]] (l1 p_)) [] func157 1 axK (fun a=>some (a.length<=1048576)) (fun a=>a) fun a h=>⟨apA a h,rfl⟩
def axC (e:dV):Pg dV:=.ob (e.Reserved.length<=1048576) (aL e.Items (.each false oZ e.Items jI (fun c b (a:dV)=> .ix c e.Items.length (.lt (acH b.Notes [97,108,105,97,115]) fun d=> .br d.2 (.ob (bZ (a.Items.length+1) 48) (rl (dV.mk a.Name a.Open (a.Items++[Item.mk b.Name b.Num [Note.mk [97,108,105,97,115] d.1.re]]) a.Reserved a.Notes))) (.ob (bZ (a.Items.length+1) 48) (rl (dV.mk a.Name a.Open (a.Items++[Item.mk b.Name b.Num []]) a.Reserved a.Notes))))) (fun c (a:dV)=> .ret a) (dV.mk e.Name e.Open [] e.Reserved [])))
def J5 (e:dV):=(axC e).val
theorem abt (e:dV)(h:e.Reserved.length<=1048576/\e.Items.length<=1048576):j_ (axC e) (fun r=>r.Items.length=e.Items.length/\r.Reserved=e.Reserved/\r.Name=e.Name):=
 ai (qb1) (bW <| dh (fun(b:Nat) a=>a.Items.length=b/\a.Reserved=e.Reserved/\a.Name=e.Name) (by exact⟨rfl,rfl,rfl⟩) au (fun b a f c=>have hI:a.Items.length=b/\a.Reserved=e.Reserved/\a.Name=e.Name:=c;aW au au (az fun g d=>dJ (fun _=>ai (qb1) (af qbe)) (fun _=>ai (qb1) (af qbe)))) (fun a hI=>have hI:a.Items.length=e.Items.length/\a.Reserved=e.Reserved/\a.Name=e.Name:=hI;af qbe))
def aCT:aZ Z:=E1 [axA,adJ] [jS 3 (bI (fun b=>[s0 20, .cells (pid (b 3)) [none,none,some 243,none,none]]) (aB cI (l1 kC))),jS 800001 (bI (fun b=>[.cells (pid (b 3)) [none,none,some 243,none,none]]) (l1 kC))] (a1 (aJ kC)) (shr [.slot 0 true (nn 5)] (l1 kC)) [] func88 1 axC (fun a=>a.Reserved.length<=1048576/\a.Items.length<=1048576) fun a h=>(abt a h).1
def aLU (x:aO)(t:uS):Pg Bool:=.ret (x.Name==t.Name)
def aFh (x:aO)(t:uS):=(aLU x t).val
def avh:aZ Z:=xx [] [] (ak (aJ gu) (a1 (jf 0))) (b1 (aV wF)) (R1 aG) [0] func225 1 (u11 aLU)
def aHq:aZ Z:=Jf [avh] ug 225 [0] (b1 (aV wF)) func195 dP fun x b=>aFh x b
def aJE (x:dV)(t:uS):Pg Bool:=.ret (x.Name==t.Name)
def aEH (x:dV)(t:uS):=(aJE x t).val
def auy:aZ Z:=xx [] [] (ak (aJ kC) (a1 (jf 0))) (b1 (aV wF)) (R1 aG) [0] func227 1 (u11 aJE)
def FU:aZ Z:=Jf [auy] iK 227 [0] (b1 (aV wF)) func226 kE fun x b=>aEH x b
def ae4 (s:ay)(t:uS):Pg Int:=.br (t.Kind==10) (.ret (fM (fun(x:aO)=>aFh x t) s.Messages)) (.br (t.Kind==9) (.ret (fM (fun(x:dV)=>aEH x t) s.Enums)) (.ret (-1)))
def yM (s:ay)(t:uS):=(ae4 s t).val
def arF:aZ Z:=E0 [avq,aHq,avh,Eb,FU,auy] [] (ak (aJ bH) (a1 (aJ wF))) (R1 cI) [] func155 1 (u2 ae4)
def ar0 (s:ay)(m:aO)(o:Op):Prop:=∃f∈m.Fields,o.Kind=f.dH.Kind/\o.Card=f.Card/\o.Key=f.Key/\o.Target=yM s f.dH/\o.Alias=NJ f.Notes/\o.Num=f.Num
theorem avc {s:ay}{m:aO}{l:List Op}(h:∀o∈l,ar0 s m o){f:aK}(b:f∈m.Fields){u:Int}:∀o∈l++[Op.mk f.Num f.Name (NJ f.Notes) f.Card f.Key f.dH.Kind (yM s f.dH) u],ar0 s m o:=fun o a=>by
 rcases yH.1 a with a | a
 ·exact h o a
 ·rw[Ko.1 a];exact⟨f,b,rfl,rfl,rfl,rfl,rfl,rfl⟩
theorem IZ {A B:Type}{g:A->B}{l:List A}{i:Nat}{d:A}(a:i < l.length):(l.take (i+1)).map g=(l.take i).map g++[g (l.getD i d)]:=by
 rw[take_snoc (d:=d) a,List.map_append];rfl
def ayj (s:ay)(m:aO):Pg bK:=aL m.Fields (.each false oZ m.Fields aH (fun f b (a:List Str×bK)=> .ix f m.Fields.length (.lt (yM s b.dH) fun d=> .lt (NJ b.Notes) fun c=> .br (b.Union !=[]) (.br (!a.1.any fun(x:Str)=>b.Union==x) (.ob (bZ (a.1.length+1) 16) (.ob (bZ (a.2.Ops.length+1) 80) (.lt (a.1++[b.Union]) fun(e:List Str)=> rl (e, bK.mk a.2.Name (a.2.Ops++[Op.mk b.Num b.Name c b.Card b.Key b.dH.Kind d (fM (fun(x:Str)=>b.Union==x) e)]) a.2.YW)))) (.ob (bZ (a.2.Ops.length+1) 80) (rl (a.1, bK.mk a.2.Name (a.2.Ops++[Op.mk b.Num b.Name c b.Card b.Key b.dH.Kind d (fM (fun(x:Str)=>b.Union==x) a.1)]) a.2.YW)))) (.ob (bZ (a.2.Ops.length+1) 80) (rl (a.1,bK.mk a.2.Name (a.2.Ops++[Op.mk b.Num b.Name c b.Card b.Key b.dH.Kind d (-1)]) a.2.YW))))) (fun f (a:List Str×bK)=> aL a.1 (.ret (bK.mk a.2.Name a.2.Ops (↑a.1.length:Int)))) ([],bK.mk m.Name [] 0))
def uM (s:ay)(m:aO):=(ayj s m).val
theorem Gu (s:ay)(m:aO)(h:m.Fields.length<=1048576):j_ (ayj s m) (fun g=>g.Ops.length<=m.Fields.length/\g.Name=m.Name/\∀o∈g.Ops,ar0 s m o):=
 bW <| dh (fun(b:Nat) a=>a.1.length<=b/\a.2.Ops.length<=b/\a.2.Name=m.Name/\∀o∈a.2.Ops,ar0 s m o) (by exact⟨nO 0,nO 0,rfl,fun o e=>absurd e qb⟩) au (fun b a ry c=>have hI:a.1.length<=b/\a.2.Ops.length<=b/\a.2.Name=m.Name/\∀o∈a.2.Ops,ar0 s m o:=c;aW au au (az fun j hv4=>az fun i hv5=>dJ (fun _=>dJ (fun _=>ai (qa9) (ai (qa9) (az fun f hv6=>af qav))) (fun _=>ai (qa9) (af qav))) (fun _=>ai (qa9) (af qav)))) (fun a hI=>have hI:a.1.length<=m.Fields.length/\a.2.Ops.length<=m.Fields.length/\a.2.Name=m.Name/\∀o∈a.2.Ops,ar0 s m o:=hI;bW <| af qav)
def aAT:aZ Z:=E1 [ank,avr,arF,aEI] [jS 4 (bI (fun b=>[s0 16, .slot 6 false [some 9], .cells (pid (b 5)) [none,some 263,none]]) (aB cI (aB bV (l1 jg)))),jS 800001 (bI (fun b=>[.cells (pid (b 5)) [none,some 263,none]]) (l1 jg))] (ak (aJ bH) (a1 (aJ gu))) (shr [.slot 0 true (nn 3)] (l1 jg)) [] func87 1 (u2 ayj) (fun a=>a.2.Fields.length<=1048576) fun a h=>(Gu a.1 a.2 h).1
def avM (s:ay):Pg (dO×Int):=.ob (okS s) (.br (!oI s) (.ret (dO.mk [] [],1)) (.cut (fun(g:dO)=> aL s.Enums (.each false oZ s.Enums kE (fun d c (a:dO)=> .ix d s.Enums.length (.ob (c.Reserved.length<=1048576/\c.Items.length<=1048576) (.ob (bZ (a.Enums.length+1) 96) (rl (dO.mk a.bD (a.Enums++[J5 c])))))) (fun d (a:dO)=> .ret (a,0)) g)) (aL s.Messages (.each false oZ s.Messages dP (fun f e (b:dO)=> .ix f s.Messages.length (.ob (e.Fields.length<=1048576) (.ob (bZ (b.bD.length+1) 48) (rl (dO.mk (b.bD++[uM s e]) b.Enums))))) (fun f (b:dO)=> rl b) (dO.mk [] [])))))
def uN (s:ay):=(avM s).val
theorem aaF (s:ay)(h:okS s):j_ (avM s) (fun r=>r.2=0->oI s=true/\r.1=dO.mk (s.Messages.map (uM s)) (s.Enums.map J5)):=
 have m:s.Messages.length<=150:=h.1;have n:s.Enums.length<=150:=h.2.1;ai (qax) (dJ (fun _=>af qas) (fun _=>bP (fun f=>f=dO.mk (s.Messages.map (uM s)) []) (bW <| dh (fun(i:Nat) c=>c=dO.mk ((s.Messages.take i).map (uM s)) []) (by rfl) au (fun i c o k=>have hI:c=dO.mk ((s.Messages.take i).map (uM s)) []:=k;aW au au (ai (qax) (ai (qax) (af qas)))) (fun c hI=>have hI:c=dO.mk ((s.Messages.take s.Messages.length).map (uM s)) []:=hI;af qas)) (fun f a=>have a:f=dO.mk (s.Messages.map (uM s)) []:=a;bW <| dh (fun(g:Nat) b=>b=dO.mk (s.Messages.map (uM s)) ((s.Enums.take g).map J5)) (by(rw[a];rfl)) au (fun g b l j=>have hI:b=dO.mk (s.Messages.map (uM s)) ((s.Enums.take g).map J5):=j;aW au au (ai (qax) (ai (qax) (af qas)))) (fun b hI=>have hI:b=dO.mk (s.Messages.map (uM s)) ((s.Enums.take s.Enums.length).map J5):=hI;af qas))))
def Ia:aZ Z:=E1 [ahi,aAT,aCT] [jS 5 (bI (fun b=>[s0 16, .cells (pid (b 4)) [some 198,some 161]]) (aB cI (l1 eX))),jS 10 (bI (fun b=>[s0 32, .cells (pid (b 4)) [some 198,some 161]]) (aB cI (l1 eX))),jS 100009 (bI (fun b=>[.cells (pid (b 4)) [some 198,some 161]]) (l1 eX)),jS 800003 (bI (fun b=>[.cells (pid (b 4)) [some 198,some 161]]) (l1 eX))] (a1 (aJ bH)) (shr [.slot 0 true [none,none], s0 1] (aB eX (l1 cI))) [] func41 2 avM (fun a=>okS a) fun a h=>(aaF a h).1
theorem afq {s:ay}(a:okS s)(h:(uN s).2=0):oI s=true/\(uN s).1=dO.mk (s.Messages.map (uM s)) (s.Enums.map J5):=(aaF s a).2 h
theorem key_ok {b a:Int}(h:CX b a=true)(d:b=5):kM a=true:=by
 subst d;unfold CX adI at h;simp only[bf,aI]at h;by_cases c:1<=a
 ·by_cases e:a<=7
  ·unfold kM sIs;simp only[bf,aI];rw[rY c];exact rY au
  ·rw[rY c,qM e]at h;cases h
 ·rw[qM c]at h;cases h
theorem aq7 {s:ay}{t:uS}(h:(jb s t.Name).2=true)(b:t.Kind=10):0<=yM s t/\yM s t < s.Messages.length:=by
 have e:yM s t=fM (fun(x:aO)=>x.Name==t.Name) s.Messages:=by
  unfold yM ae4;simp only[bf,aI,b];rfl
 have a:=(mO (fun(x:aO)=>x.Name==t.Name) s.Messages).1;rw[zI]at h;rw[e];by_cases c:fM (fun(x:aO)=>x.Name==t.Name) s.Messages < 0
 ·rw[rY c]at h;cases h
 ·exact⟨by omega,a⟩
theorem aqi {s:ay}{f:aK}(h:HY s f=true)(a:f.dH.Kind=10):(jb s f.dH.Name).2=true:=by
 unfold HY aea at h;simp only[cZ,bf,aI,a]at h;cases e:(jb s f.dH.Name).2 with
 | true=>rfl
 | false=>
  rw[e]at h;have h:(bif false then f.Card !=3 else false)=true:=h;cases h
theorem ae0 {s:ay}(d:okS s)(h:(uN s).2=0):ig (uN s).1:=by
 obtain⟨q,e⟩:=afq d h;rw[e];intro g v;obtain⟨m,c,rfl⟩:=MN.1 v;have a:=d.2.2.2.1 m c;obtain⟨r,_,j⟩:=(Gu s m a.1).2;refine⟨yI r a.1,fun o u=> ?_⟩;obtain⟨f,n,k,w,t,p,_,l⟩:=j o u;obtain⟨f0,⟨f1,f2,f3⟩,f4⟩:=aqc q c n;refine⟨fun b=> ?_,fun i=> ?_,by rw[l];exact f0⟩
 ·rw[k]at b;obtain⟨t1,t2⟩:=aq7 (aqi f4 b) b;show 0<=o.Target/\o.Target < ((s.Messages.map (uM s)).length:Int)
  rw[p,Qb0];exact⟨t1,t2⟩
 ·rw[w]at i;rw[t];exact key_ok f3 i
def okN (s:ay):Prop:=∀m∈s.Messages,∀f∈m.Fields,∀n∈f.Notes,n.Val.Text.length<=1048576
def IM (p:dO):Prop:=p.bD.length<=1048576/\(∀x∈p.bD,x.Name.length<=4294967296)/\(∀x∈p.Enums,x.Name.length<=4294967296)/\∀x∈p.bD,∀o∈x.Ops,o.Alias.length<=1048576
theorem aq6 {l:List Note}(h:∀n∈l,n.Val.Text.length<=1048576):(NJ l).length<=1048576:=by
 have b:=(mO (fun(x:Note)=>ahz x [97,108,105,97,115]) l).1;unfold NJ alI acH aoX aoj ajy;simp only[cZ,bf,eU,aI,ah.dR];by_cases a:fM (fun(x:Note)=>ahz x [97,108,105,97,115]) l < 0
 ·rw[rY a];exact ve _
 ·rw[qM a];exact h _ (getD_mem au)
theorem auX {s:ay}(d:okS s)(j:okN s)(h:(uN s).2=0):IM (uN s).1:=by
 obtain⟨_,e⟩:=afq d h;rw[e];refine⟨?_,?_,?_,?_⟩
 ·show(s.Messages.map (uM s)).length<=1048576
  rw[Qb0];have:=d.1;omega
 ·intro g c;obtain⟨m,b,rfl⟩:=MN.1 c;have a:=d.2.2.2.1 m b;have i:(uM s m).Name=m.Name:=(Gu s m a.1).2.2.1;rw[i];have:=a.2.2.2.1;omega
 ·intro g c;obtain⟨m,b,rfl⟩:=MN.1 c;have a:=d.2.2.2.2.1 m b;have i:(J5 m).Name=m.Name:=(abt m ⟨a.2.1,a.1⟩).2.2.2;rw[i];have:=a.2.2;omega
 ·intro g c o n;obtain⟨m,b,rfl⟩:=MN.1 c;obtain⟨f,l,_,_,_,_,k,_⟩:=(Gu s m (d.2.2.2.1 m b).1).2.2.2 o n;rw[k];exact aq6 (j m b f l)
def aKw (x:bK):Pg Bool:=.ret (decide (64 < (↑x.Ops.length:Int)))
def amy (x:bK):=(aKw x).val
def aez:aZ Z:=E0 [] [] (a1 (aJ jg)) (R1 aG) [] func330 1 aKw
def Oy:aZ Z:=EI [aez] jK 330 func163 dC amy
def PV:aZ Z:=EA [yB,Oy,aez] jK 330 func427 amy
def OE:aZ Z:=E0 [aez,PV] [] (ak (bC jK) (a1 (lH 330 []))) (R1 aG) [] func329 1 fun a=>.ret (a.1.any fun(x:bK)=>(amy x))
def aHH (x:dV):Pg Bool:=.br (decide ((↑x.Items.length:Int) < 1)) (.ret true) (.br (decide (64 < (↑x.Items.length:Int))) (.ret true) (.ret (decide (16 < (↑x.Reserved.length:Int)))))
def abU (x:dV):=(aHH x).val
def aec:aZ Z:=E0 [] [] (a1 (aJ kC)) (R1 aG) [] func332 1 aHH
def JX:aZ Z:=EI [aec] iK 332 func226 kE abU
def J7:aZ Z:=EA [Eb,FU,JX,aec] iK 332 func428 abU
def JM:aZ Z:=E0 [aec,J7] [] (ak (bC iK) (a1 (lH 332 []))) (R1 aG) [] func331 1 fun a=>.ret (a.1.any fun(x:dV)=>(abU x))
def Wx (p:dO):Pg Bool:=.br (decide (64 < max (↑p.bD.length:Int) (↑p.Enums.length:Int))) (aL p.bD (aL p.Enums (.ret true))) (.br (p.bD.any fun(x:bK)=>amy x) (aL p.bD (aL p.Enums (.ret true))) (aL p.bD (aL p.Enums (.ret (p.Enums.any fun(x:dV)=>abU x)))))
def O0 (p:dO):=(Wx p).val
def akk:aZ Z:=E0 [OE,aez,JM,aec] [] (a1 (aJ eX)) (R1 aG) [] func244 1 Wx
def anR (s:Str):Pg Bool:=.br (Jw s) (.ret !Ag s) (.ret false)
def agc (s:Str):=(anR s).val
def aa6:aZ Z:=E0 [Uk,Bi] [] (a1 (bC cStr)) (R1 aG) [] func337 1 anR
def aEu (s:Str):Pg Bool:=.ob (List.length s<=4294967296) (.br (Ve s) (.ob ([46]=wH/\List.length s<=4294967296) (.ret !(iU 46 s).any fun(x:Str)=>Ag x)) (.ret false))
def as5 (s:Str):=(aEu s).val
def amx:aZ Z:=E1 [acE,VV,agF,acO,ajl,atn,avb,Bi] [] (a1 (bC cStr)) (R1 aG) [] func334 1 aEu fun a=>a.length<=4294967296
def aE9 (x:Op):Pg Bool:=.ret !agc x.Name
def adZ (x:Op):=(aE9 x).val
def Ui:aZ Z:=E0 [aa6] [] (a1 (aJ jF)) (R1 aG) [] func336 1 aE9
def NU:aZ Z:=EI [Ui] oN 336 func412 BJ adZ
def LX:aZ Z:=EA [Ui,PD,NU] oN 336 func429 adZ
def KG:aZ Z:=E0 [Ui,LX] [] (ak (bC oN) (a1 (lH 336 []))) (R1 aG) [] func335 1 fun a=>.ret (a.1.any fun(x:Op)=>(adZ x))
def aLJ (x:bK):Pg Bool:=.ob (List.length x.Name<=4294967296) (.br (!as5 x.Name) (.ret true) (.ret (x.Ops.any fun(x:Op)=>adZ x)))
def QR (x:bK):=(aLJ x).val
def acD:aZ Z:=E1 [amx,KG,Ui] [] (a1 (aJ jg)) (R1 aG) [] func333 1 aLJ fun a=>a.Name.length<=4294967296
def aLG (l:List bK):Pg Int:=aL l (.each false uj l dC (fun a b (c:Unit)=> .ix a l.length (.ob (List.length b.Name<=4294967296) (.br (QR b) (.ret (.inr a)) (rl ())))) (fun a (c:Unit)=> .ret (-1)) ())
theorem aCm (l:List bK)(h:∀x∈l,x.Name.length<=4294967296):Is (aLG l):=
 gp fun _=>gU (.inr au) (fun b a _ _=>b_ au au (aY ((h _ (getD_mem au))) (aT iR iR))) (fun a _=>aQ)
def Vg:aZ Z:=E2 [acD] [jS 2 (bI (fun b=>[s0 8]) (l1 cI))] (ak (bC jK) (a1 (lH 333 []))) (R1 cI) [] func163 1 (fun a=>aLG a.1) (fun a=>some (∀x∈a.1,x.Name.length<=4294967296)) (fun a=>fM (fun(x:bK)=>(QR x)) a.1) fun a h=>⟨aCm a.1 h,(fun(l:List bK) _=>oK (fun(x:bK)=>(QR x)) l 0) a.1 h⟩
def aLx (l:List bK):Pg Bool:=.ob (∀(x:bK),x∈l->List.length x.Name<=4294967296) (.lt (fM (fun(x:bK)=>QR x) l) fun a=> .ret (decide (0<=a)))
theorem aAu (l:List bK)(h:∀x∈l,x.Name.length<=4294967296):Is (aLx l):=
 aY (h) (dI fun b a=>aQ)
def Yc:aZ Z:=E2 [yB,Oy,Vg,acD] [] (ak (bC jK) (a1 (lH 333 []))) (R1 aG) [] func427 1 (fun a=>aLx a.1) (fun a=>some (∀x∈a.1,x.Name.length<=4294967296)) (fun a=>a.1.any fun(x:bK)=>(QR x)) fun a h=>⟨aAu a.1 h,(fun(l:List bK) _=>qR _ l) a.1 h⟩
def aLt (l:List bK):Pg Bool:=.ob (∀(x:bK),x∈l->List.length x.Name<=4294967296) (.ret (l.any fun(x:bK)=>QR x))
theorem aBP (l:List bK)(h:∀x∈l,x.Name.length<=4294967296):Is (aLt l):=
 aY (h) (aQ)
def Yb:aZ Z:=E2 [acD,PV,Yc] [] (ak (bC jK) (a1 (lH 333 []))) (R1 aG) [] func329 1 (fun a=>aLt a.1) (fun a=>some (∀x∈a.1,x.Name.length<=4294967296)) (fun a=>a.1.any fun(x:bK)=>(QR x)) fun a h=>⟨aBP a.1 h,rfl⟩
def aEW (x:Item):Pg Bool:=.ret !agc x.Name
def ada (x:Item):=(aEW x).val
def Tq:aZ Z:=E0 [aa6] [] (a1 (aJ nz)) (R1 aG) [] func340 1 aEW
def Us:aZ Z:=EI [Tq] iQ 340 func290 jI ada
def TQ:aZ Z:=EA [PI,WC,KZ,Us,Tq] iQ 340 func206 ada
def Uh:aZ Z:=E0 [PP,VJ,Me,TQ,Tq] [] (ak (bC iQ) (a1 (lH 340 []))) (R1 aG) [] func339 1 fun a=>.ret (a.1.any fun(x:Item)=>(ada x))
def aLM (x:dV):Pg Bool:=.ob (List.length x.Name<=4294967296) (.br (!as5 x.Name) (.ret true) (.ret (x.Items.any fun(x:Item)=>ada x)))
def QI (x:dV):=(aLM x).val
def acS:aZ Z:=E1 [amx,Uh,Tq] [] (a1 (aJ kC)) (R1 aG) [] func338 1 aLM fun a=>a.Name.length<=4294967296
def aKT (l:List dV):Pg Int:=aL l (.each false uj l kE (fun a b (c:Unit)=> .ix a l.length (.ob (List.length b.Name<=4294967296) (.br (QI b) (.ret (.inr a)) (rl ())))) (fun a (c:Unit)=> .ret (-1)) ())
theorem aA4 (l:List dV)(h:∀x∈l,x.Name.length<=4294967296):Is (aKT l):=
 gp fun _=>gU (.inr au) (fun b a _ _=>b_ au au (aY ((h _ (getD_mem au))) (aT iR iR))) (fun a _=>aQ)
def OJ:aZ Z:=E2 [acS] [jS 2 (bI (fun b=>[s0 8]) (l1 cI))] (ak (bC iK) (a1 (lH 338 []))) (R1 cI) [] func226 1 (fun a=>aKT a.1) (fun a=>some (∀x∈a.1,x.Name.length<=4294967296)) (fun a=>fM (fun(x:dV)=>(QI x)) a.1) fun a h=>⟨aA4 a.1 h,(fun(l:List dV) _=>oK (fun(x:dV)=>(QI x)) l 0) a.1 h⟩
def aK8 (l:List dV):Pg Bool:=.ob (∀(x:dV),x∈l->List.length x.Name<=4294967296) (.lt (fM (fun(x:dV)=>QI x) l) fun a=> .ret (decide (0<=a)))
theorem aCV (l:List dV)(h:∀x∈l,x.Name.length<=4294967296):Is (aK8 l):=
 aY (h) (dI fun b a=>aQ)
def OH:aZ Z:=E2 [Eb,FU,JX,OJ,acS] [] (ak (bC iK) (a1 (lH 338 []))) (R1 aG) [] func428 1 (fun a=>aK8 a.1) (fun a=>some (∀x∈a.1,x.Name.length<=4294967296)) (fun a=>a.1.any fun(x:dV)=>(QI x)) fun a h=>⟨aCV a.1 h,(fun(l:List dV) _=>qR _ l) a.1 h⟩
def aL0 (l:List dV):Pg Bool:=.ob (∀(x:dV),x∈l->List.length x.Name<=4294967296) (.ret (l.any fun(x:dV)=>QI x))
theorem aA1 (l:List dV)(h:∀x∈l,x.Name.length<=4294967296):Is (aL0 l):=
 aY (h) (aQ)
def OX:aZ Z:=E2 [acS,J7,OH] [] (ak (bC iK) (a1 (lH 338 []))) (R1 aG) [] func331 1 (fun a=>aL0 a.1) (fun a=>some (∀x∈a.1,x.Name.length<=4294967296)) (fun a=>a.1.any fun(x:dV)=>(QI x)) fun a h=>⟨aA1 a.1 h,rfl⟩
def Py (p:dO):Pg Bool:=.ob (∀(x:bK),x∈p.bD->List.length x.Name<=4294967296) (.br (p.bD.any fun(x:bK)=>QR x) (.ret true) (.ob (∀(x:dV),x∈p.Enums->List.length x.Name<=4294967296) (.ret (p.Enums.any fun(x:dV)=>QI x))))
def ajw (p:dO):=(Py p).val
theorem acC (p:dO)(h:(∀x∈p.bD,x.Name.length<=4294967296)/\∀x∈p.Enums,x.Name.length<=4294967296):Is (Py p):=
 aY (h.1) (aT iR (fun _=>aY (h.2) (aQ)))
def afY:aZ Z:=E1 [OE,Yb,JM,OX,acD,acS] [] (a1 (aJ eX)) (R1 aG) [] func245 1 Py (fun a=>(∀x∈a.bD,x.Name.length<=4294967296)/\∀x∈a.Enums,x.Name.length<=4294967296) fun a h=>acC a h
def aJ8 (x:bK)(y:bK):Pg Bool:=.ret (Op.bytesLess x.Name y.Name)
def aLL (x:bK)(y:bK):=(aJ8 x y).val
def ayv:aZ Z:=E0 [] [] (ak (aJ jg) (a1 (aJ jg))) (R1 aG) [] func342 1 (u2 aJ8)
def aIk (l:List bK):Pg Bool:=.Qp [] (some (l.length<=9223372036854775807)) uj 1 (↑l.length:Int) (fun a (c:Unit)=> .lt (dA .i64 (a - 1)) fun b=> .ix b l.length (.ix a l.length (.br (!aLL (l.getD b.toNat dC) (l.getD a.toNat dC)) (.ret (.inr false)) (rl ())))) (fun a (c:Unit)=> .ret true) ()
def aLT (l:List bK):=(aIk l).val
theorem aBV (l:List bK):Is (aIk l):=
 zT trivial au (fun h=>by simp only[qW]at h;omega) (fun b a _ _ _=>ni fun d c _=>b_ au au (b_ au au (aT iR iR))) (fun b a _ _=>aQ)
def aG5:aZ Z:=E0 [ayv] [jS 2 (bI (fun b=>[s0 5]) (l1 cI))] (ak (bC jK) (a1 (lH 342 []))) (R1 aG) [] func341 1 (fun a=>aIk a.1) fun a=>aBV a.1
def aKL (x:dV)(y:dV):Pg Bool:=.ret (Op.bytesLess x.Name y.Name)
def aLn (x:dV)(y:dV):=(aKL x y).val
def awJ:aZ Z:=E0 [] [] (ak (aJ kC) (a1 (aJ kC))) (R1 aG) [] func344 1 (u2 aKL)
def aGA (l:List dV):Pg Bool:=.Qp [] (some (l.length<=9223372036854775807)) uj 1 (↑l.length:Int) (fun a (c:Unit)=> .lt (dA .i64 (a - 1)) fun b=> .ix b l.length (.ix a l.length (.br (!aLn (l.getD b.toNat kE) (l.getD a.toNat kE)) (.ret (.inr false)) (rl ())))) (fun a (c:Unit)=> .ret true) ()
def aJ6 (l:List dV):=(aGA l).val
theorem aDI (l:List dV):Is (aGA l):=
 zT trivial au (fun h=>by simp only[qW]at h;omega) (fun b a _ _ _=>ni fun d c _=>b_ au au (b_ au au (aT iR iR))) (fun b a _ _=>aQ)
def aG_:aZ Z:=E0 [awJ] [jS 2 (bI (fun b=>[s0 5]) (l1 cI))] (ak (bC iK) (a1 (lH 344 []))) (R1 aG) [] func343 1 (fun a=>aGA a.1) fun a=>aDI a.1
def aEY (x:Op)(y:Op):Pg Bool:=.ret (decide (x.Num < y.Num))
def aHS (x:Op)(y:Op):=(aEY x y).val
def amV:aZ Z:=E0 [] [] (ak (aJ jF) (a1 (aJ jF))) (R1 aG) [] func347 1 (u2 aEY)
def ayu (l:List Op):Pg Bool:=.Qp [] (some (l.length<=9223372036854775807)) uj 1 (↑l.length:Int) (fun a (c:Unit)=> .lt (dA .i64 (a - 1)) fun b=> .ix b l.length (.ix a l.length (.br (!aHS (l.getD b.toNat BJ) (l.getD a.toNat BJ)) (.ret (.inr false)) (rl ())))) (fun a (c:Unit)=> .ret true) ()
def aHJ (l:List Op):=(ayu l).val
theorem au7 (l:List Op):Is (ayu l):=
 zT trivial au (fun h=>by simp only[qW]at h;omega) (fun b a _ _ _=>ni fun d c _=>b_ au au (b_ au au (aT iR iR))) (fun b a _ _=>aQ)
def aB4:aZ Z:=E0 [amV] [jS 2 (bI (fun b=>[s0 5]) (l1 cI))] (ak (bC oN) (a1 (lH 347 []))) (R1 aG) [] func346 1 (fun a=>ayu a.1) fun a=>au7 a.1
def aEf (x:Item)(y:Item):Pg Bool:=.ret (decide (x.Num < y.Num))
def aGj (x:Item)(y:Item):=(aEf x y).val
def aoo:aZ Z:=E0 [] [] (ak (aJ nz) (a1 (aJ nz))) (R1 aG) [] func350 1 (u2 aEf)
def ayx (l:List Item):Pg Bool:=.Qp [] (some (l.length<=9223372036854775807)) uj 1 (↑l.length:Int) (fun a (c:Unit)=> .lt (dA .i64 (a - 1)) fun b=> .ix b l.length (.ix a l.length (.br (!aGj (l.getD b.toNat jI) (l.getD a.toNat jI)) (.ret (.inr false)) (rl ())))) (fun a (c:Unit)=> .ret true) ()
def aIl (l:List Item):=(ayx l).val
theorem asW (l:List Item):Is (ayx l):=
 zT trivial au (fun h=>by simp only[qW]at h;omega) (fun b a _ _ _=>ni fun d c _=>b_ au au (b_ au au (aT iR iR))) (fun b a _ _=>aQ)
def aDq:aZ Z:=E0 [aoo] [jS 2 (bI (fun b=>[s0 5]) (l1 cI))] (ak (bC iQ) (a1 (lH 350 []))) (R1 aG) [] func349 1 (fun a=>ayx a.1) fun a=>asW a.1
def aJ4 (x:bK):Pg Bool:=.ret !aHJ x.Ops
def amW (x:bK):=(aJ4 x).val
def ad2:aZ Z:=E0 [aB4,amV] [] (a1 (aJ jg)) (R1 aG) [] func345 1 aJ4
def aeA:aZ Z:=EI [ad2] jK 345 func163 dC amW
def acp:aZ Z:=EA [yB,Oy,Vg,aeA,ad2] jK 345 func427 amW
def aeY:aZ Z:=E0 [ad2,PV,Yc,acp] [] (ak (bC jK) (a1 (lH 345 []))) (R1 aG) [] func329 1 fun a=>.ret (a.1.any fun(x:bK)=>(amW x))
def aMj (x:dV):Pg Bool:=.ret !aIl x.Items
def aoc (x:dV):=(aMj x).val
def aeB:aZ Z:=E0 [aDq,aoo] [] (a1 (aJ kC)) (R1 aG) [] func348 1 aMj
def WJ:aZ Z:=EI [aeB] iK 348 func226 kE aoc
def XE:aZ Z:=EA [Eb,FU,JX,OJ,WJ,aeB] iK 348 func428 aoc
def YO:aZ Z:=E0 [aeB,J7,OH,XE] [] (ak (bC iK) (a1 (lH 348 []))) (R1 aG) [] func331 1 fun a=>.ret (a.1.any fun(x:dV)=>(aoc x))
def YT (p:dO):Pg Bool:=.br (!aLT p.bD) (.ret true) (.br (!aJ6 p.Enums) (.ret true) (.br (p.bD.any fun(x:bK)=>amW x) (.ret true) (.ret (p.Enums.any fun(x:dV)=>aoc x))))
def afH (p:dO):=(YT p).val
def acU:aZ Z:=E0 [OE,Yb,aeY,JM,OX,YO,aG5,ayv,aG_,awJ,ad2,aeB] [] (a1 (aJ eX)) (R1 aG) [] func246 1 YT
def aE7 (x:Op):Pg (List UInt8):=.ret x.Name
def ave (x:Op):=(aE7 x).val
def acf:aZ Z:=E0 [] [] (a1 (aJ jF)) (R1 cStr) [] func354 1 aE7
def aE3 (y:Op)(z:Op):Pg Bool:=.ret (ave y==ave z)
def acx (y:Op)(z:Op):=(aE3 y z).val
def UO:aZ Z:=xx [acf] [] (ak (aJ jF) (ak (jf 0) (a1 (jf 1)))) (ja (bFn 354 []) (b1 (aV jF))) (R1 aG) [0,1] func430 1 fun a=>aE3 a.1.1 a.2.2
def TT:aZ Z:=Jf [UO] oN 430 [0,1] (ja (bFn 354 []) (b1 (aV jF))) func412 BJ fun x b=>acx x b.2
def UM:aZ Z:=EAB [PD,NU,TT,UO] oN 430 [0,1] (ja (bFn 354 []) (b1 (aV jF))) func429 fun x b=>acx x b.2
def Un:aZ Z:=xx [LX,UM,UO] [] (ak (bC oN) (a1 (lH 430 [0,1]))) (ja (bFn 354 []) (b1 (aV jF))) (R1 aG) [0,1] func335 1 fun a=>.ret (a.1.1.any fun(x:Op)=>(acx x a.2.2))
def aLp (l:List Op):Pg Bool:=aL l (.each false uj l BJ (fun a b (c:Unit)=> .ix a l.length (.ob ((0:Int)<=0/\0<=a/\a<=(↑l.length:Int)) (.br ((List.take a.toNat l).any fun(x:Op)=>acx x b) (.ret (.inr true)) (rl ())))) (fun a (c:Unit)=> .ret false) ())
def aKp (l:List Op):=(aLp l).val
def aIi:aZ Z:=E0 [KG,Un,acf,UO] [jS 2 (bI (fun b=>[s0 9]) (l1 cI))] (ak (bC oN) (a1 (lH 354 []))) (R1 aG) [] func353 1 fun a=>aLp a.1
def am9 (x:Item):Pg (List UInt8):=.ret x.Name
def ahn (x:Item):=(am9 x).val
def O8:aZ Z:=E0 [] [] (a1 (aJ nz)) (R1 cStr) [] func357 1 am9
def an5 (y:Item)(z:Item):Pg Bool:=.ret (ahn y==ahn z)
def KN (y:Item)(z:Item):=(an5 y z).val
def GZ:aZ Z:=xx [O8] [] (ak (aJ nz) (ak (jf 0) (a1 (jf 1)))) (ja (bFn 357 []) (b1 (aV nz))) (R1 aG) [0,1] func431 1 fun a=>an5 a.1.1 a.2.2
def Qh:aZ Z:=Jf [GZ] iQ 431 [0,1] (ja (bFn 357 []) (b1 (aV nz))) func290 jI fun x b=>KN x b.2
def OA:aZ Z:=EAB [PI,WC,KZ,Us,Qh,GZ] iQ 431 [0,1] (ja (bFn 357 []) (b1 (aV nz))) func206 fun x b=>KN x b.2
def Pj:aZ Z:=xx [PP,VJ,Me,TQ,OA,GZ] [] (ak (bC iQ) (a1 (lH 431 [0,1]))) (ja (bFn 357 []) (b1 (aV nz))) (R1 aG) [0,1] func339 1 fun a=>.ret (a.1.1.any fun(x:Item)=>(KN x a.2.2))
def ayl (l:List Item):Pg Bool:=aL l (.each false uj l jI (fun a b (c:Unit)=> .ix a l.length (.ob ((0:Int)<=0/\0<=a/\a<=(↑l.length:Int)) (.br ((List.take a.toNat l).any fun(x:Item)=>KN x b) (.ret (.inr true)) (rl ())))) (fun a (c:Unit)=> .ret false) ())
def aCa (l:List Item):=(ayl l).val
def avE:aZ Z:=E0 [Uh,Pj,O8,GZ] [jS 2 (bI (fun b=>[s0 9]) (l1 cI))] (ak (bC iQ) (a1 (lH 357 []))) (R1 aG) [] func356 1 fun a=>ayl a.1
def aES (x:dV)(g:bK):Pg Bool:=.ret (x.Name==g.Name)
def aek (x:dV)(g:bK):=(aES x g).val
def Ux:aZ Z:=xx [] [] (ak (aJ kC) (a1 (jf 0))) (b1 (aV jg)) (R1 aG) [0] func352 1 (u11 aES)
def Tf:aZ Z:=Jf [Ux] iK 352 [0] (b1 (aV jg)) func226 kE fun x b=>aek x b
def UQ:aZ Z:=EAB [Eb,FU,JX,OJ,WJ,Tf,Ux] iK 352 [0] (b1 (aV jg)) func428 fun x b=>aek x b
def TD:aZ Z:=xx [Ux,J7,OH,XE,UQ] [] (ak (bC iK) (a1 (lH 352 [0]))) (b1 (aV jg)) (R1 aG) [0] func331 1 fun a=>.ret (a.1.1.any fun(x:dV)=>(aek x a.2))
def aKM (x:bK)(p:dO):Pg Bool:=.br (p.Enums.any fun(a:dV)=>aek a x) (.ret true) (.ret (aKp x.Ops))
def an7 (x:bK)(p:dO):=(aKM x p).val
def acJ:aZ Z:=xx [JM,OX,YO,TD,Ux,aIi,acf] [] (ak (aJ jg) (a1 (jf 0))) (b1 (aV eX)) (R1 aG) [0] func351 1 (u11 aKM)
def ajk:aZ Z:=Jf [acJ] jK 351 [0] (b1 (aV eX)) func163 dC fun x b=>an7 x b
def aj7:aZ Z:=EAB [yB,Oy,Vg,aeA,ajk,acJ] jK 351 [0] (b1 (aV eX)) func427 fun x b=>an7 x b
def aj2:aZ Z:=xx [acJ,PV,Yc,acp,aj7] [] (ak (bC jK) (a1 (lH 351 [0]))) (b1 (aV eX)) (R1 aG) [0] func329 1 fun a=>.ret (a.1.1.any fun(x:bK)=>(an7 x a.2))
def aLZ (x:dV):Pg Bool:=.ret (aCa x.Items)
def amj (x:dV):=(aLZ x).val
def aeC:aZ Z:=E0 [avE,O8] [] (a1 (aJ kC)) (R1 aG) [] func355 1 aLZ
def ajh:aZ Z:=EI [aeC] iK 355 func226 kE amj
def ajL:aZ Z:=EA [Eb,FU,JX,OJ,WJ,Tf,ajh,aeC] iK 355 func428 amj
def aiZ:aZ Z:=E0 [aeC,J7,OH,XE,UQ,ajL] [] (ak (bC iK) (a1 (lH 355 []))) (R1 aG) [] func331 1 fun a=>.ret (a.1.any fun(x:dV)=>(amj x))
def awW (p:dO):Pg Bool:=.br (p.bD.any fun(x:bK)=>an7 x p) (.ret true) (.ret (p.Enums.any fun(x:dV)=>amj x))
def aDF (p:dO):=(awW p).val
def awS:aZ Z:=E0 [OE,Yb,aeY,aj2,JM,OX,YO,TD,aiZ,acJ,aeC] [] (a1 (aJ eX)) (R1 aG) [] func247 1 awW
def aEe (x:Op):Pg Bool:=.br (decide (x.Num < 1)) (.ret true) (.ret (decide (65535 < x.Num)))
def adK (x:Op):=(aEe x).val
def T_:aZ Z:=E0 [] [] (a1 (aJ jF)) (R1 aG) [] func359 1 aEe
def ace:aZ Z:=EI [T_] oN 359 func412 BJ adK
def ac7:aZ Z:=EA [T_,PD,NU,TT,ace] oN 359 func429 adK
def aey:aZ Z:=E0 [T_,LX,UM,ac7] [] (ak (bC oN) (a1 (lH 359 []))) (R1 aG) [] func335 1 fun a=>.ret (a.1.any fun(x:Op)=>(adK x))
def aKj (x:bK):Pg Bool:=.ret (x.Ops.any fun(x:Op)=>adK x)
def aoP (x:bK):=(aKj x).val
def adF:aZ Z:=E0 [KG,Un,aey,T_] [] (a1 (aJ jg)) (R1 aG) [] func358 1 aKj
def asf:aZ Z:=EI [adF] jK 358 func163 dC aoP
def avw:aZ Z:=EA [yB,Oy,Vg,aeA,ajk,asf,adF] jK 358 func427 aoP
def aub:aZ Z:=E0 [adF,PV,Yc,acp,aj7,avw] [] (ak (bC jK) (a1 (lH 358 []))) (R1 aG) [] func329 1 fun a=>.ret (a.1.any fun(x:bK)=>(aoP x))
def aMl (x:Item)(e:dV):Pg Bool:=.br (decide (2147483647 < x.Num)) (.ret true) (.ret (vU e.Reserved x.Num))
def aoK (x:Item)(e:dV):=(aMl x e).val
def acl:aZ Z:=xx [FQ] [] (ak (aJ nz) (a1 (jf 0))) (b1 (aV kC)) (R1 aG) [0] func432 1 (u11 aMl)
def aur:aZ Z:=Jf [acl] iQ 432 [0] (b1 (aV kC)) func290 jI fun x b=>aoK x b
def ays:aZ Z:=EAB [PI,WC,KZ,Us,Qh,aur,acl] iQ 432 [0] (b1 (aV kC)) func206 fun x b=>aoK x b
def avf:aZ Z:=xx [PP,VJ,Me,TQ,OA,ays,acl] [] (ak (bC iQ) (a1 (lH 432 [0]))) (b1 (aV kC)) (R1 aG) [0] func339 1 fun a=>.ret (a.1.1.any fun(x:Item)=>(aoK x a.2))
def ouC (x:dV):Pg Bool:=aL x.Reserved (.each false uj x.Reserved tJ (fun b a (e:Unit)=> .ix b x.Reserved.length (.br (decide (a.From < 0)) (.ret (.inr true)) (.br (decide (2147483647 < a.To)) (.ret (.inr true)) (.br (decide (a.To < a.From)) (.ret (.inr true)) (.br (decide (0 < b)) (.lt (dA .i64 (b - 1)) fun d=> .ix d x.Reserved.length (.br (decide (a.From<=(x.Reserved.getD d.toNat tJ).To)) (.ret (.inr true)) (rl ()))) (rl ())))))) (fun b (e:Unit)=> .ix 0 x.Items.length (.br ((x.Items.getD 0 jI).Num !=0) (.ret true) (.ret (x.Items.any fun(c:Item)=>aoK c x)))) ())
def ahH (x:dV):=(ouC x).val
def ane:aZ Z:=E1 [Uh,Pj,avf,acl] [jS 2 (bI (fun b=>[s0 8]) (l1 cI))] (a1 (aJ kC)) (R1 aG) [] func360 1 ouC fun a=>0 < a.Items.length
def ouI (l:List dV):Pg Int:=aL l (.each false uj l kE (fun a b (c:Unit)=> .ix a l.length (.ob (0 < b.Items.length) (.br (ahH b) (.ret (.inr a)) (rl ())))) (fun a (c:Unit)=> .ret (-1)) ())
theorem aHO (l:List dV)(h:∀x∈l,0 < x.Items.length):Is (ouI l):=
 gp fun _=>gU (.inr au) (fun b a _ _=>b_ au au (aY ((h _ (getD_mem au))) (aT iR iR))) (fun a _=>aQ)
def aEQ:aZ Z:=E2 [ane] [jS 2 (bI (fun b=>[s0 8]) (l1 cI))] (ak (bC iK) (a1 (lH 360 []))) (R1 cI) [] func226 1 (fun a=>ouI a.1) (fun a=>some (∀x∈a.1,0 < x.Items.length)) (fun a=>fM (fun(x:dV)=>(ahH x)) a.1) fun a h=>⟨aHO a.1 h,(fun(l:List dV) _=>oK (fun(x:dV)=>(ahH x)) l 0) a.1 h⟩
def ouA (l:List dV):Pg Bool:=.ob (∀(x:dV),x∈l->0 < x.Items.length) (.lt (fM (fun(x:dV)=>ahH x) l) fun a=> .ret (decide (0<=a)))
theorem aIJ (l:List dV)(h:∀x∈l,0 < x.Items.length):Is (ouA l):=
 aY (h) (dI fun b a=>aQ)
def aEK:aZ Z:=E2 [Eb,FU,JX,OJ,WJ,Tf,ajh,aEQ,ane] [] (ak (bC iK) (a1 (lH 360 []))) (R1 aG) [] func428 1 (fun a=>ouA a.1) (fun a=>some (∀x∈a.1,0 < x.Items.length)) (fun a=>a.1.any fun(x:dV)=>(ahH x)) fun a h=>⟨aIJ a.1 h,(fun(l:List dV) _=>qR _ l) a.1 h⟩
def ouO (l:List dV):Pg Bool:=.ob (∀(x:dV),x∈l->0 < x.Items.length) (.ret (l.any fun(x:dV)=>ahH x))
theorem aGV (l:List dV)(h:∀x∈l,0 < x.Items.length):Is (ouO l):=
 aY (h) (aQ)
def aEz:aZ Z:=E2 [ane,J7,OH,XE,UQ,ajL,aEK] [] (ak (bC iK) (a1 (lH 360 []))) (R1 aG) [] func331 1 (fun a=>ouO a.1) (fun a=>some (∀x∈a.1,0 < x.Items.length)) (fun a=>a.1.any fun(x:dV)=>(ahH x)) fun a h=>⟨aGV a.1 h,rfl⟩
def anU (p:dO):Pg Bool:=.br (p.bD.any fun(x:bK)=>aoP x) (.ret true) (.ob (∀(x:dV),x∈p.Enums->0 < x.Items.length) (.ret (p.Enums.any fun(x:dV)=>ahH x)))
def axt (p:dO):=(anU p).val
def apH:aZ Z:=E1 [OE,Yb,aeY,aj2,aub,JM,OX,YO,TD,aiZ,aEz,adF,ane] [] (a1 (aJ eX)) (R1 aG) [] func248 1 anU fun a=>∀x∈a.Enums,0 < x.Items.length
def ayY (o:Op):Pg Bool:=.br (o.Card !=5) (.ret (o.Key==0)) (.br (decide (1<=o.Key)) (.br (decide (o.Key<=7)) (.ret (o.Key !=6)) (.ret false)) (.ret false))
def aAE (o:Op):=(ayY o).val
def asr:aZ Z:=E0 [] [] (a1 (aJ jF)) (R1 aG) [] func364 1 ayY
def atG (p:dO)(o:Op):Pg Bool:=.br (o.Kind==10) (.br (decide (0<=o.Target)) (.br (decide (o.Target < (↑p.bD.length:Int))) (aL p.bD (.ret (o.Card !=3))) (aL p.bD (.ret false))) (.ret false)) (.br (o.Kind==9) (.br (decide (0<=o.Target)) (aL p.Enums (.ret (decide (o.Target < (↑p.Enums.length:Int))))) (.ret false)) (.br (kM o.Kind) (.ret (o.Target==(-1))) (.ret false)))
def aDw (p:dO)(o:Op):=(atG p o).val
def axk:aZ Z:=E0 [abh] [] (ak (aJ eX) (a1 (aJ jF))) (R1 aG) [] func365 1 (u2 atG)
def aoT (g:bK):Pg Bool:=aL g.Ops (.each false oZ g.Ops BJ (fun c a (b:Int×Int)=> .ix c g.Ops.length (.br (a.Union !=(-1)) (.br (a.Card !=2) (.ret (.inr false)) (.lt (dA .i64 (b.1+1)) fun d=> .br (a.Union !=d) (.br (a.Union !=b.2) (.ret (.inr false)) (rl (max b.1 a.Union,a.Union))) (rl (max b.1 a.Union,a.Union)))) (rl (max b.1 a.Union,a.Union)))) (fun c (b:Int×Int)=> .ret (g.YW==dA .i64 (b.1+1))) ((-1),(-1)))
def avU (g:bK):=(aoT g).val
def aqy:aZ Z:=E0 [] [jS 3 (bI (fun b=>[s0 10, s0 3, s0 4]) (aB cI (aB cI (l1 cI))))] (a1 (aJ jg)) (R1 aG) [] func362 1 aoT
def aEJ (x:Op)(p:dO):Pg Bool:=.ob (List.length x.Alias<=9223372036854775700) (.br (!Ae x.Alias) (.ret true) (.br (decide (4096 < (↑(List.length x.Alias):Int))) (.ret true) (.br (decide (x.Card < 1)) (.ret true) (.br (decide (5 < x.Card)) (.ret true) (.br (!aAE x) (.ret true) (.ret !aDw p x))))))
def F5 (x:Op)(p:dO):=(aEJ x p).val
def UU:aZ Z:=H7 [BI,asr,axk] [] (ak (aJ jF) (a1 (jf 0))) (b1 (aV eX)) (R1 aG) [0] func363 1 (u11 aEJ) fun a=>a.1.1.Alias.length<=1048576
def aEE (l:List Op)(p:dO):Pg Int:=aL l (.each false uj l BJ (fun a b (c:Unit)=> .ix a l.length (.ob (List.length b.Alias<=1048576) (.br (F5 b p) (.ret (.inr a)) (rl ())))) (fun a (c:Unit)=> .ret (-1)) ())
theorem ayy (l:List Op)(p:dO)(h:∀x∈l,x.Alias.length<=1048576):Is (aEE l p):=
 gp fun _=>gU (.inr au) (fun b a _ _=>b_ au au (aY ((h _ (getD_mem au))) (aT iR iR))) (fun a _=>aQ)
def am0:aZ Z:=SI [UU] [jS 2 (bI (fun b=>[s0 8]) (l1 cI))] (ak (bC oN) (a1 (lH 363 [0]))) (b1 (aV eX)) (R1 cI) [0] func412 1 (u11 aEE) (fun a=>some (∀x∈a.1.1,x.Alias.length<=1048576)) (fun a=>fM (fun(x:Op)=>(F5 x a.2)) a.1.1) fun a h=>⟨ayy a.1.1 a.2 h,(fun(l:List Op) p _=>oK (fun(x:Op)=>(F5 x p)) l 0) a.1.1 a.2 h⟩
def aEd (l:List Op)(p:dO):Pg Bool:=.ob (∀(x:Op),x∈l->List.length x.Alias<=1048576) (.lt (fM (fun(x:Op)=>F5 x p) l) fun a=> .ret (decide (0<=a)))
theorem asD (l:List Op)(p:dO)(h:∀x∈l,x.Alias.length<=1048576):Is (aEd l p):=
 aY (h) (dI fun b a=>aQ)
def am2:aZ Z:=SI [UU,PD,NU,TT,ace,am0] [] (ak (bC oN) (a1 (lH 363 [0]))) (b1 (aV eX)) (R1 aG) [0] func429 1 (u11 aEd) (fun a=>some (∀x∈a.1.1,x.Alias.length<=1048576)) (fun a=>a.1.1.any fun(x:Op)=>(F5 x a.2)) fun a h=>⟨asD a.1.1 a.2 h,(fun(l:List Op) p _=>qR _ l) a.1.1 a.2 h⟩
def aEn (l:List Op)(p:dO):Pg Bool:=.ob (∀(x:Op),x∈l->List.length x.Alias<=1048576) (.ret (l.any fun(x:Op)=>F5 x p))
theorem atl (l:List Op)(p:dO)(h:∀x∈l,x.Alias.length<=1048576):Is (aEn l p):=
 aY (h) (aQ)
def anb:aZ Z:=SI [UU,LX,UM,ac7,am2] [] (ak (bC oN) (a1 (lH 363 [0]))) (b1 (aV eX)) (R1 aG) [0] func335 1 (u11 aEn) (fun a=>some (∀x∈a.1.1,x.Alias.length<=1048576)) (fun a=>a.1.1.any fun(x:Op)=>(F5 x a.2)) fun a h=>⟨atl a.1.1 a.2 h,rfl⟩
def aKf (x:bK)(p:dO):Pg Bool:=.br (!avU x) (.ret true) (.ob (∀(a:Op),a∈x.Ops->List.length a.Alias<=1048576) (.ret (x.Ops.any fun(x:Op)=>F5 x p)))
def RP (x:bK)(p:dO):=(aKf x p).val
def adT:aZ Z:=H7 [KG,Un,aey,anb,aqy,UU] [] (ak (aJ jg) (a1 (jf 0))) (b1 (aV eX)) (R1 aG) [0] func361 1 (u11 aKf) fun a=>∀o∈a.1.1.Ops,o.Alias.length<=1048576
def aLQ (l:List bK)(p:dO):Pg Int:=aL l (.each false uj l dC (fun a b (c:Unit)=> .ix a l.length (.ob (∀(o:Op),o∈b.Ops->List.length o.Alias<=1048576) (.br (RP b p) (.ret (.inr a)) (rl ())))) (fun a (c:Unit)=> .ret (-1)) ())
theorem aBm (l:List bK)(p:dO)(h:∀x∈l,∀o∈x.Ops,o.Alias.length<=1048576):Is (aLQ l p):=
 gp fun _=>gU (.inr au) (fun b a _ _=>b_ au au (aY ((h _ (getD_mem au))) (aT iR iR))) (fun a _=>aQ)
def aHu:aZ Z:=SI [adT] [jS 2 (bI (fun b=>[s0 8]) (l1 cI))] (ak (bC jK) (a1 (lH 361 [0]))) (b1 (aV eX)) (R1 cI) [0] func163 1 (u11 aLQ) (fun a=>some (∀x∈a.1.1,∀o∈x.Ops,o.Alias.length<=1048576)) (fun a=>fM (fun(x:bK)=>(RP x a.2)) a.1.1) fun a h=>⟨aBm a.1.1 a.2 h,(fun(l:List bK) p _=>oK (fun(x:bK)=>(RP x p)) l 0) a.1.1 a.2 h⟩
def aLE (l:List bK)(p:dO):Pg Bool:=.ob (∀(x:bK),x∈l->∀(o:Op),o∈x.Ops->List.length o.Alias<=1048576) (.lt (fM (fun(x:bK)=>RP x p) l) fun a=> .ret (decide (0<=a)))
theorem aBY (l:List bK)(p:dO)(h:∀x∈l,∀o∈x.Ops,o.Alias.length<=1048576):Is (aLE l p):=
 aY (h) (dI fun b a=>aQ)
def aHX:aZ Z:=SI [yB,Oy,Vg,aeA,ajk,asf,aHu,adT] [] (ak (bC jK) (a1 (lH 361 [0]))) (b1 (aV eX)) (R1 aG) [0] func427 1 (u11 aLE) (fun a=>some (∀x∈a.1.1,∀o∈x.Ops,o.Alias.length<=1048576)) (fun a=>a.1.1.any fun(x:bK)=>(RP x a.2)) fun a h=>⟨aBY a.1.1 a.2 h,(fun(l:List bK) p _=>qR _ l) a.1.1 a.2 h⟩
def aJJ (l:List bK)(p:dO):Pg Bool:=.ob (∀(x:bK),x∈l->∀(o:Op),o∈x.Ops->List.length o.Alias<=1048576) (.ret (l.any fun(x:bK)=>RP x p))
theorem aA0 (l:List bK)(p:dO)(h:∀x∈l,∀o∈x.Ops,o.Alias.length<=1048576):Is (aJJ l p):=
 aY (h) (aQ)
def aF6:aZ Z:=SI [adT,PV,Yc,acp,aj7,avw,aHX] [] (ak (bC jK) (a1 (lH 361 [0]))) (b1 (aV eX)) (R1 aG) [0] func329 1 (u11 aJJ) (fun a=>some (∀x∈a.1.1,∀o∈x.Ops,o.Alias.length<=1048576)) (fun a=>a.1.1.any fun(x:bK)=>(RP x a.2)) fun a h=>⟨aA0 a.1.1 a.2 h,rfl⟩
def aEV (x:Item):Pg Bool:=.br (decide (1 < (↑x.Notes.length:Int))) (.ret true) (.br ((↑x.Notes.length:Int)==1) (.ix 0 x.Notes.length (.br ((x.Notes.getD 0 sW).Name !=[97,108,105,97,115]) (.ret true) (.ret (UB x.Notes (4:Int) !=0)))) (.ret false))
def aew (x:Item):=(aEV x).val
def UR:aZ Z:=E0 [aio] [] (a1 (aJ nz)) (R1 aG) [] func367 1 aEV
def aAF:aZ Z:=EI [UR] iQ 367 func290 jI aew
def aCg:aZ Z:=EA [PI,WC,KZ,Us,Qh,aur,aAF,UR] iQ 367 func206 aew
def azL:aZ Z:=E0 [PP,VJ,Me,TQ,OA,ays,aCg,UR] [] (ak (bC iQ) (a1 (lH 367 []))) (R1 aG) [] func339 1 fun a=>.ret (a.1.any fun(x:Item)=>(aew x))
def aJF (x:dV):Pg Bool:=.br (decide (0 < (↑x.Notes.length:Int))) (.ret true) (.ret (x.Items.any fun(x:Item)=>aew x))
def al8 (x:dV):=(aJF x).val
def adb:aZ Z:=E0 [Uh,Pj,avf,azL,UR] [] (a1 (aJ kC)) (R1 aG) [] func366 1 aJF
def aFH:aZ Z:=EI [adb] iK 366 func226 kE al8
def aGU:aZ Z:=EA [Eb,FU,JX,OJ,WJ,Tf,ajh,aEQ,aFH,adb] iK 366 func428 al8
def aG3:aZ Z:=E0 [adb,J7,OH,XE,UQ,ajL,aEK,aGU] [] (ak (bC iK) (a1 (lH 366 []))) (R1 aG) [] func331 1 fun a=>.ret (a.1.any fun(x:dV)=>(al8 x))
def ati (p:dO):Pg Bool:=.ob (∀(x:bK),x∈p.bD->∀(o:Op),o∈x.Ops->List.length o.Alias<=1048576) (.br (p.bD.any fun(x:bK)=>RP x p) (.ret true) (.ret (p.Enums.any fun(x:dV)=>al8 x)))
def aA2 (p:dO):=(ati p).val
def axh:aZ Z:=E1 [OE,Yb,aeY,aj2,aub,aF6,JM,OX,YO,TD,aiZ,aEz,aG3,adT,adb] [] (a1 (aJ eX)) (R1 aG) [] func249 1 ati fun a=>∀x∈a.bD,∀o∈x.Ops,o.Alias.length<=1048576
def aJK (x:Op)(a:List Bool):Pg Bool:=.br (x.Card==1) (.br (x.Kind==10) (.ix x.Target a.length (.ob (x.Target.toNat < a.length) (.ret !a.getD x.Target.toNat false))) (.ret false)) (.ret false)
def Qx (x:Op)(a:List Bool):=(aJK x a).val
def aeD:aZ Z:=H7 [] [] (ak (aJ jF) (a1 (jf 0))) (ja (ac6 1) (b1 (lh 4 D.bool qg))) (R1 aG) [0,1] func368 1 (fun a=>aJK a.1.1 a.2.2) fun a=>a.1.1.Kind=10->0<=a.1.1.Target/\a.1.1.Target < a.2.2.length
def aJD (l:List Op)(b:List Bool):Pg Int:=aL l (.each false uj l BJ (fun c a (d:Unit)=> .ix c l.length (.ob (a.Kind=10->0<=a.Target/\a.Target < (↑b.length:Int)) (.br (Qx a b) (.ret (.inr c)) (rl ())))) (fun c (d:Unit)=> .ret (-1)) ())
theorem aDi (l:List Op)(a:List Bool)(h:∀x∈l,x.Kind=10->0<=x.Target/\x.Target < a.length):Is (aJD l a):=
 gp fun _=>gU (.inr au) (fun c b _ _=>b_ au au (aY ((h _ (getD_mem au))) (aT iR iR))) (fun b _=>aQ)
def aHL:aZ Z:=SI [aeD] [jS 2 (bI (fun c=>[s0 8]) (l1 cI))] (ak (bC oN) (a1 (lH 368 [0]))) (ja (ac6 1) (b1 (lh 4 D.bool qg))) (R1 cI) [0,1] func412 1 (fun a=>aJD a.1.1 a.2.2) (fun a=>some (∀x∈a.1.1,x.Kind=10->0<=x.Target/\x.Target < a.2.2.length)) (fun a=>fM (fun(x:Op)=>(Qx x a.2.2)) a.1.1) fun a h=>⟨aDi a.1.1 a.2.2 h,(fun(l:List Op) b _=>oK (fun(x:Op)=>(Qx x b)) l 0) a.1.1 a.2.2 h⟩
def aKz (l:List Op)(a:List Bool):Pg Bool:=.ob (∀(x:Op),x∈l->x.Kind=10->0<=x.Target/\x.Target < (↑a.length:Int)) (.lt (fM (fun(x:Op)=>Qx x a) l) fun b=> .ret (decide (0<=b)))
theorem aCf (l:List Op)(a:List Bool)(h:∀x∈l,x.Kind=10->0<=x.Target/\x.Target < a.length):Is (aKz l a):=
 aY (h) (dI fun c b=>aQ)
def aIV:aZ Z:=SI [aeD,PD,NU,TT,ace,am0,aHL] [] (ak (bC oN) (a1 (lH 368 [0]))) (ja (ac6 1) (b1 (lh 4 D.bool qg))) (R1 aG) [0,1] func429 1 (fun a=>aKz a.1.1 a.2.2) (fun a=>some (∀x∈a.1.1,x.Kind=10->0<=x.Target/\x.Target < a.2.2.length)) (fun a=>a.1.1.any fun(x:Op)=>(Qx x a.2.2)) fun a h=>⟨aCf a.1.1 a.2.2 h,(fun(l:List Op) b _=>qR _ l) a.1.1 a.2.2 h⟩
def aLe (l:List Op)(a:List Bool):Pg Bool:=.ob (∀(x:Op),x∈l->x.Kind=10->0<=x.Target/\x.Target < (↑a.length:Int)) (.ret (l.any fun(x:Op)=>Qx x a))
theorem aCw (l:List Op)(a:List Bool)(h:∀x∈l,x.Kind=10->0<=x.Target/\x.Target < a.length):Is (aLe l a):=
 aY (h) (aQ)
def aH5:aZ Z:=SI [aeD,LX,UM,ac7,am2,aIV] [] (ak (bC oN) (a1 (lH 368 [0]))) (ja (ac6 1) (b1 (lh 4 D.bool qg))) (R1 aG) [0,1] func335 1 (fun a=>aLe a.1.1 a.2.2) (fun a=>some (∀x∈a.1.1,x.Kind=10->0<=x.Target/\x.Target < a.2.2.length)) (fun a=>a.1.1.any fun(x:Op)=>(Qx x a.2.2)) fun a h=>⟨aCw a.1.1 a.2.2 h,rfl⟩
def ixB (l:List Bool)(v:Bool):Pg Int:=aL l (.each false uj l false (fun a b (c:Unit)=> .ix a l.length (.br (v==b) (.ret (.inr a)) (rl ()))) (fun a (c:Unit)=> .ret (-1)) ())
theorem aFD (l:List Bool)(v:Bool):Is (ixB l v):=
 gp fun _=>gU (.inr au) (fun b a _ _=>b_ au au (aT iR iR)) (fun a _=>aQ)
def aKF:aZ Z:=E2 [] [jS 2 (bI (fun b=>[s0 8]) (l1 cI))] (ak (bC qQ) (a1 (bC aG))) (R1 cI) [] func433 1 (u2 ixB) (fun a=>none) (fun a=>fM (fun(x:Bool)=>a.2==x) a.1) fun a h=>⟨aFD a.1 a.2,(fun(l:List Bool) (v:Bool)=>oK (fun(x:Bool)=>v==x) l 0) a.1 a.2⟩
def coB (l:List Bool)(v:Bool):Pg Bool:=.lt (fM (fun(x:Bool)=>v==x) l) fun a=> .ret (decide (0<=a))
theorem aGI (l:List Bool)(v:Bool):Is (coB l v):=
 dI fun b a=>aQ
def aKv:aZ Z:=E2 [aKF] [] (ak (bC qQ) (a1 (bC aG))) (R1 aG) [] func369 1 (u2 coB) (fun a=>none) (fun a=>a.1.any fun(x:Bool)=>a.2==x) fun a h=>⟨aGI a.1 a.2,(fun(l:List Bool) (v:Bool)=>qR (fun(x:Bool)=>v==x) l) a.1 a.2⟩
def VU (p:dO):Pg Bool:=.ob ((↑p.bD.length:Int)=(↑p.bD.length:Int)/\ 0<=(↑p.bD.length:Int)/\(↑p.bD.length:Int)*(1:Int)<=281474976710656/\(↑p.bD.length:Int)<=1099511627776) (aL p.bD (aL p.bD (.cnt oZ 0 (↑p.bD.length:Int) (fun e (c:List Bool)=> aL p.bD (.each false oZ p.bD dC (fun b d (a:List Bool)=> .ix b p.bD.length (.ix b a.length (.ob (b.toNat < a.length) (.br (a.getD b.toNat false) (.ix b a.length (.ob (b.toNat < a.length) (rl (a.set b.toNat true)))) (.ob (∀(x:Op),x∈d.Ops->x.Kind=10->0<=x.Target/\x.Target < (↑a.length:Int)) (.ix b a.length (.ob (b.toNat < a.length) (rl (a.set b.toNat !d.Ops.any fun(x:Op)=>Qx x a))))))))) (fun b (a:List Bool)=> rl a) c)) (fun e (c:List Bool)=> .ret (c.any fun(x:Bool)=>false==x)) (List.replicate p.bD.length false))))
def apQ (p:dO):=(VU p).val
theorem acA (p:dO)(h:p.bD.length<=1048576/\ig p):j_ (VU p) (fun _=>True):=
 ai (qbb) (bW <| bW <| sQ (fun(e:Int) b=>b.length=p.bD.length) qb au au (fun e b j k f=>have hI:b.length=p.bD.length:=f;bW <| dh (fun(g:Nat) a=>a.length=p.bD.length) (by exact hI) au (fun g a azv c=>have hI:a.length=p.bD.length:=c;aW au au (aW au au (ai (qbb) (dJ (fun _=>aW au au (ai (qbb) (af qbh))) (fun _=>ai (qbb) (aW au au (ai (qbb) (af qbh)))))))) (fun a hI=>have hI:a.length=p.bD.length:=hI;af qbh)) (fun e b _ i hI=>have hI:b.length=p.bD.length:=hI;af qbh))
def ajO:aZ Z:=E1 [KG,Un,aey,anb,aH5,aeD,aKv] [jS 3 (bI (fun b=>[s0 13, .row (pid (b 9)) 4]) (aB cI (l1 qQ))),jS 5 (bI (fun b=>[s0 18, .row (pid (b 9)) 4]) (aB cI (l1 qQ)))] (a1 (aJ eX)) (R1 aG) [] func250 1 VU (fun a=>a.bD.length<=1048576/\ig a) fun a h=>(acA a h).1
theorem Zk {p:dO}(h:O0 p=false):∀x∈p.Enums,0 < x.Items.length:=by
 intro x a;unfold O0 Wx at h;simp only[iG,bf,aI,Qa6]at h;have k:(p.Enums.any fun x=>abU x)=false:=by
  (repeat' split at h)<;>first | exact h | cases h
 have b:=Qc.1 k x a;rcases Qd5 x.Items.length with e | e
 ·refine absurd ?_ b;unfold abU aHH;simp only[iG,bf,aI];rw[rY (show(x.Items.length:Int) < 1 by omega)];rfl
 ·exact e
def alx (p:dO):Pg Int:=.br (O0 p) (.ret 3) (.ob ((∀(x:bK),x∈p.bD->List.length x.Name<=4294967296)/\∀(x:dV),x∈p.Enums->List.length x.Name<=4294967296) (.br (ajw p) (.ret 8) (.br (afH p) (.ret 11) (.br (aDF p) (.ret 9) (.ob (∀(x:dV),x∈p.Enums->0 < x.Items.length) (.br (axt p) (.ret 6) (.ob (∀(x:bK),x∈p.bD->∀(o:Op),o∈x.Ops->List.length o.Alias<=1048576) (.br (aA2 p) (.ret 1) (.ob (p.bD.length<=1048576/\ig p) (.br (apQ p) (.ret 19) (.ret 0)))))))))))
def aAN (p:dO):=(alx p).val
theorem aqV (p:dO)(h:IM p/\ig p):Is (alx p):=
 aT iR (fun a=>aY ⟨h.1.2.1,h.1.2.2.1⟩ (aT iR (fun _=>aT iR (fun _=>aT iR (fun _=>aY (Zk a) (aT iR (fun _=>aY h.1.2.2.2 (aT iR (fun _=>aY ⟨h.1.1,h.2⟩ (aT iR iR))))))))))
def ayf:aZ Z:=E1 [akk,afY,acU,awS,apH,axh,ajO] [] (a1 (aJ eX)) (R1 cI) [] func168 1 alx (fun a=>IM a/\ig a) fun a h=>aqV a h
def clV (l:List ah):Pg (List ah):=.unk false (fun(b:Bool)=>b=true->l.length=0) (.ret []) (.ob (bZ (0+l.length) 128) (.ret l))
theorem aHY (l:List ah)(h:l.length<=1048576):Is (clV l):=
 r_ (dm au au)
def aEa:aZ Z:=E2 [] [] (a1 (bC jO)) (shr [.slot 0 false [some 78]] (l1 jO)) [] func268 1 clV (fun a=>some (a.length<=1048576)) (fun a=>a) fun a h=>⟨aHY a h,rfl⟩
theorem LC {g:bK}{num:Int}(h:(mY g num).2=true):(mY g num).1∈g.Ops:=by
 have b:=(mO (fun(x:Op)=>agx x num) g.Ops).1;unfold mY pOp asA aou at h⊢;simp only[cZ,bf,eU,aI]at h⊢;by_cases a:fM (fun(x:Op)=>agx x num) g.Ops < 0
 ·rw[rY a]at h;cases h
 ·rw[qM a];exact getD_mem au
theorem qJ {A:Type}{P:A->Prop}{l m:List A}(h:∀z∈l,P z)(k:∀z∈m,P z):∀z∈l++m,P z:=fun z a=>(yH.1 a).elim (h z) (k z)
theorem lD {A:Type}{P:A->Prop}{a:A}(h:P a):∀z∈[a],P z:=fun z b=>by rw[Ko.1 b];exact h
theorem aoi {A:Type}{P:A->Prop}{a b:A}(h:P a)(k:P b):∀z∈[a,b],P z:=fun z c=>by
 rcases EC.1 c with e | e
 ·rw[e];exact h
 ·rw[Ko.1 e];exact k
theorem aCB {v x:ah}(h:x∈v.List):tV x < tV v:=by
 have:=ant h;have:=iZ v;omega
theorem amd {v:ah}{x:Pair}(h:x∈v.Pairs):tV x.Key < tV v/\tV x.Val < tV v:=by
 have:=aom h;have:=iZ v;omega
theorem aAB {v:ah}{x:Slot}(h:x∈v.Slots):tV x.Val < tV v:=by
 have:=adg h;have:=iZ v;omega
theorem aLP {v:ah}(h:tV v<=1048576):v.bM.length<=1048576/\v.Slots.length<=1048576/\v.List.length<=1048576/\v.Pairs.length<=1048576:=by
 have d:=iZ v;have e:=LH v.bM;have c:=U2 v.Slots;have a:=KP v.List;have b:=G8 v.Pairs;omega
def axd (v:ah):Pg Bool:=.lt (dA .i64 ((↑v.Slots.length:Int)+(↑v.bM.length:Int))) fun a=> .br (v.Kind==7) (.br (v.Kind !=11) (.br (decide (0 < (↑v.List.length:Int))) (.ret true) (.br (v.Kind !=12) (.br (decide (0 < (↑v.Pairs.length:Int))) (.ret true) (.br (v.Kind !=10) (.br (decide (0 < a)) (aL v.Slots (aL v.bM (.ret true))) (.br (v.Bits !=0) (aL v.Slots (aL v.bM (.ret true))) (.br (v.Text !=[]) (aL v.Slots (aL v.bM (.ret false))) (aL v.Slots (aL v.bM (.ret false)))))) (.br (v.Bits !=0) (.ret true) (.br (v.Text !=[]) (.ret false) (.ret false))))) (.br (v.Kind !=10) (.br (decide (0 < a)) (aL v.Slots (aL v.bM (.ret true))) (.br (v.Bits !=0) (aL v.Slots (aL v.bM (.ret true))) (.br (v.Text !=[]) (aL v.Slots (aL v.bM (.ret false))) (aL v.Slots (aL v.bM (.ret false)))))) (.br (v.Bits !=0) (.ret true) (.br (v.Text !=[]) (.ret false) (.ret false)))))) (.br (v.Kind !=12) (.br (decide (0 < (↑v.Pairs.length:Int))) (.ret true) (.br (v.Kind !=10) (.br (decide (0 < a)) (aL v.Slots (aL v.bM (.ret true))) (.br (v.Bits !=0) (aL v.Slots (aL v.bM (.ret true))) (.br (v.Text !=[]) (aL v.Slots (aL v.bM (.ret false))) (aL v.Slots (aL v.bM (.ret false)))))) (.br (v.Bits !=0) (.ret true) (.br (v.Text !=[]) (.ret false) (.ret false))))) (.br (v.Kind !=10) (.br (decide (0 < a)) (aL v.Slots (aL v.bM (.ret true))) (.br (v.Bits !=0) (aL v.Slots (aL v.bM (.ret true))) (.br (v.Text !=[]) (aL v.Slots (aL v.bM (.ret false))) (aL v.Slots (aL v.bM (.ret false)))))) (.br (v.Bits !=0) (.ret true) (.br (v.Text !=[]) (.ret false) (.ret false)))))) (.br (v.Kind !=11) (.br (decide (0 < (↑v.List.length:Int))) (.ret true) (.br (v.Kind !=12) (.br (decide (0 < (↑v.Pairs.length:Int))) (.ret true) (.br (v.Kind !=10) (.br (decide (0 < a)) (aL v.Slots (aL v.bM (.ret true))) (.br (v.Bits !=0) (.br (v.Kind==8) (aL v.Slots (aL v.bM (.ret true))) (.br (decide (10<=v.Kind)) (.br (decide (v.Kind<=12)) (aL v.Slots (aL v.bM (.ret true))) (.br (v.Text !=[]) (aL v.Slots (aL v.bM (.ret !v.Kind==8))) (aL v.Slots (aL v.bM (.ret false))))) (.br (v.Text !=[]) (aL v.Slots (aL v.bM (.ret !v.Kind==8))) (aL v.Slots (aL v.bM (.ret false)))))) (.br (v.Text !=[]) (aL v.Slots (aL v.bM (.ret !v.Kind==8))) (aL v.Slots (aL v.bM (.ret false)))))) (.br (v.Bits !=0) (.br (v.Kind==8) (.ret true) (.br (decide (10<=v.Kind)) (.br (decide (v.Kind<=12)) (.ret true) (.br (v.Text !=[]) (.ret !v.Kind==8) (.ret false))) (.br (v.Text !=[]) (.ret !v.Kind==8) (.ret false)))) (.br (v.Text !=[]) (.ret !v.Kind==8) (.ret false))))) (.br (v.Kind !=10) (.br (decide (0 < a)) (aL v.Slots (aL v.bM (.ret true))) (.br (v.Bits !=0) (.br (v.Kind==8) (aL v.Slots (aL v.bM (.ret true))) (.br (decide (10<=v.Kind)) (.br (decide (v.Kind<=12)) (aL v.Slots (aL v.bM (.ret true))) (.br (v.Text !=[]) (aL v.Slots (aL v.bM (.ret !v.Kind==8))) (aL v.Slots (aL v.bM (.ret false))))) (.br (v.Text !=[]) (aL v.Slots (aL v.bM (.ret !v.Kind==8))) (aL v.Slots (aL v.bM (.ret false)))))) (.br (v.Text !=[]) (aL v.Slots (aL v.bM (.ret !v.Kind==8))) (aL v.Slots (aL v.bM (.ret false)))))) (.br (v.Bits !=0) (.br (v.Kind==8) (.ret true) (.br (decide (10<=v.Kind)) (.br (decide (v.Kind<=12)) (.ret true) (.br (v.Text !=[]) (.ret !v.Kind==8) (.ret false))) (.br (v.Text !=[]) (.ret !v.Kind==8) (.ret false)))) (.br (v.Text !=[]) (.ret !v.Kind==8) (.ret false)))))) (.br (v.Kind !=12) (.br (decide (0 < (↑v.Pairs.length:Int))) (.ret true) (.br (v.Kind !=10) (.br (decide (0 < a)) (aL v.Slots (aL v.bM (.ret true))) (.br (v.Bits !=0) (.br (v.Kind==8) (aL v.Slots (aL v.bM (.ret true))) (.br (decide (10<=v.Kind)) (.br (decide (v.Kind<=12)) (aL v.Slots (aL v.bM (.ret true))) (.br (v.Text !=[]) (aL v.Slots (aL v.bM (.ret !v.Kind==8))) (aL v.Slots (aL v.bM (.ret false))))) (.br (v.Text !=[]) (aL v.Slots (aL v.bM (.ret !v.Kind==8))) (aL v.Slots (aL v.bM (.ret false)))))) (.br (v.Text !=[]) (aL v.Slots (aL v.bM (.ret !v.Kind==8))) (aL v.Slots (aL v.bM (.ret false)))))) (.br (v.Bits !=0) (.br (v.Kind==8) (.ret true) (.br (decide (10<=v.Kind)) (.br (decide (v.Kind<=12)) (.ret true) (.br (v.Text !=[]) (.ret !v.Kind==8) (.ret false))) (.br (v.Text !=[]) (.ret !v.Kind==8) (.ret false)))) (.br (v.Text !=[]) (.ret !v.Kind==8) (.ret false))))) (.br (v.Kind !=10) (.br (decide (0 < a)) (aL v.Slots (aL v.bM (.ret true))) (.br (v.Bits !=0) (.br (v.Kind==8) (aL v.Slots (aL v.bM (.ret true))) (.br (decide (10<=v.Kind)) (.br (decide (v.Kind<=12)) (aL v.Slots (aL v.bM (.ret true))) (.br (v.Text !=[]) (aL v.Slots (aL v.bM (.ret !v.Kind==8))) (aL v.Slots (aL v.bM (.ret false))))) (.br (v.Text !=[]) (aL v.Slots (aL v.bM (.ret !v.Kind==8))) (aL v.Slots (aL v.bM (.ret false)))))) (.br (v.Text !=[]) (aL v.Slots (aL v.bM (.ret !v.Kind==8))) (aL v.Slots (aL v.bM (.ret false)))))) (.br (v.Bits !=0) (.br (v.Kind==8) (.ret true) (.br (decide (10<=v.Kind)) (.br (decide (v.Kind<=12)) (.ret true) (.br (v.Text !=[]) (.ret !v.Kind==8) (.ret false))) (.br (v.Text !=[]) (.ret !v.Kind==8) (.ret false)))) (.br (v.Text !=[]) (.ret !v.Kind==8) (.ret false))))))
def adL (v:ah):=(axd v).val
def WV:aZ Z:=E0 [] [] (a1 (aJ aP)) (R1 aG) [] func251 1 axd
def aLO (x:aF)(a:Int)(b:Int)(v:ah):Pg Int:=.br (v.Kind !=a) (.ret 12) (.br (adL v.re) (.ret 12) (.br (decide (4096 < (↑(List.length v.Text):Int))) (.ret 3) (.lt (ax0 x.p b v.Bits) fun c=> .lt (O9 a v.re) fun d=> .br (a==7) (.ob (List.length v.Text<=9223372036854775700) (.br (!Ae v.Text) (.ret 7) (.br (!d) (.ret 12) (.br (a==9) (.br (!c) (.ret 16) (.ret 0)) (.ret 0))))) (.br (!d) (.ret 12) (.br (a==9) (.br (!c) (.ret 16) (.ret 0)) (.ret 0))))))
def aEy (x:aF)(a:Int)(b:Int)(v:ah):=(aLO x a b v).val
def atq:aZ Z:=E1 [BI,WV,UG,ajT] [] (ak (aJ jH) (ak (bC cI) (ak (bC cI) (a1 (aJ aP))))) (R1 cI) [] func472 1 (u4 aLO) fun a=>a.2.2.2.Text.length<=1048576
def aJT (x:aF)(g:bK)(f:Raw):Pg Int:=.lt (mY g f.Num) fun a=> .cut (fun(b:Bool)=> .cut (fun(c:Bool)=> .br c (.ret 1) (.br (decide (f.iy<=2)) (.br (f.Data !=[]) (.ret 1) (.br (!decide (f.iy<=2)) (.br (f.Bits !=0) (.ret 1) (.br a.2 (.br (!b) (.ret 1) (.br (f.iy==3) (.br (decide (4096 < (↑(List.length f.Data):Int))) (.ret 3) (.br (decide (65536 < (↑(List.length f.Data):Int))) (.ret 3) (.ret 0))) (.br (decide (65536 < (↑(List.length f.Data):Int))) (.ret 3) (.ret 0)))) (.br (f.iy==3) (.br (decide (4096 < (↑(List.length f.Data):Int))) (.ret 3) (.br (decide (65536 < (↑(List.length f.Data):Int))) (.ret 3) (.ret 0))) (.br (decide (65536 < (↑(List.length f.Data):Int))) (.ret 3) (.ret 0))))) (.br a.2 (.br (!b) (.ret 1) (.br (f.iy==3) (.br (decide (4096 < (↑(List.length f.Data):Int))) (.ret 3) (.br (decide (65536 < (↑(List.length f.Data):Int))) (.ret 3) (.ret 0))) (.br (decide (65536 < (↑(List.length f.Data):Int))) (.ret 3) (.ret 0)))) (.br (f.iy==3) (.br (decide (4096 < (↑(List.length f.Data):Int))) (.ret 3) (.br (decide (65536 < (↑(List.length f.Data):Int))) (.ret 3) (.ret 0))) (.br (decide (65536 < (↑(List.length f.Data):Int))) (.ret 3) (.ret 0)))))) (.br (!decide (f.iy<=2)) (.br (f.Bits !=0) (.ret 1) (.br a.2 (.br (!b) (.ret 1) (.br (f.iy==3) (.br (decide (4096 < (↑(List.length f.Data):Int))) (.ret 3) (.br (decide (65536 < (↑(List.length f.Data):Int))) (.ret 3) (.ret 0))) (.br (decide (65536 < (↑(List.length f.Data):Int))) (.ret 3) (.ret 0)))) (.br (f.iy==3) (.br (decide (4096 < (↑(List.length f.Data):Int))) (.ret 3) (.br (decide (65536 < (↑(List.length f.Data):Int))) (.ret 3) (.ret 0))) (.br (decide (65536 < (↑(List.length f.Data):Int))) (.ret 3) (.ret 0))))) (.br a.2 (.br (!b) (.ret 1) (.br (f.iy==3) (.br (decide (4096 < (↑(List.length f.Data):Int))) (.ret 3) (.br (decide (65536 < (↑(List.length f.Data):Int))) (.ret 3) (.ret 0))) (.br (decide (65536 < (↑(List.length f.Data):Int))) (.ret 3) (.ret 0)))) (.br (f.iy==3) (.br (decide (4096 < (↑(List.length f.Data):Int))) (.ret 3) (.br (decide (65536 < (↑(List.length f.Data):Int))) (.ret 3) (.ret 0))) (.br (decide (65536 < (↑(List.length f.Data):Int))) (.ret 3) (.ret 0))))))) (.br (decide (f.Num < 1)) (rl true) (.br (decide (65535 < f.Num)) (rl true) (.br (decide (f.iy < 0)) (rl true) (rl (decide (6 < f.iy))))))) (.br (a.1.Kind==9) (.br (a.1.Card !=5) (.br (f.iy==0) (.br (decide (f.Bits<=2147483647)) (.ret (.inl !ax0 x.p a.1.Target f.Bits)) (rl false)) (rl false)) (rl false)) (rl false))
def aL4 (x:aF)(g:bK)(f:Raw):=(aJT x g f).val
def aH7:aZ Z:=E0 [Qu,ajT] [jS 100004 (bI (fun b=>[s0 10]) (l1 aG)),jS 100005 (bI (fun b=>[s0 49]) (l1 aG))] (ak (aJ jH) (ak (aJ jg) (a1 (aJ pF)))) (R1 cI) [] func255 1 (u3 aJT)
def aLh (y:Slot)(o:Op):Pg Bool:=.ret (y.Num==o.Num)
def axs (y:Slot)(o:Op):=(aLh y o).val
def alz:aZ Z:=xx [] [] (ak (aJ nR) (a1 (jf 0))) (b1 (aV jF)) (R1 aG) [0] func370 1 (u11 aLh)
def avN:aZ Z:=Jf [alz] bT 370 [0] (b1 (aV jF)) func372 cO fun x b=>axs x b
def ayX:aZ Z:=EAB [alz,avN] bT 370 [0] (b1 (aV jF)) func253 fun x b=>axs x b
def aLs (y:Slot)(o:Op):Pg Bool:=.ret (y.Num==o.Num)
def awU (y:Slot)(o:Op):=(aLs y o).val
def ajP:aZ Z:=xx [] [] (ak (aJ nR) (a1 (jf 0))) (b1 (aV jF)) (R1 aG) [0] func254 1 (u11 aLs)
def aIM:aZ Z:=Jf [ajP] bT 254 [0] (b1 (aV jF)) func372 cO fun x b=>awU x b
def auP:aZ Z:=EAB [ajP,avN,aIM] bT 254 [0] (b1 (aV jF)) func253 fun x b=>awU x b
def aK1 (q:Pair)(p:Pair):Pg Bool:=.ob (kM q.Key.re.Kind=true/\kM p.Key.re.Kind=true) (.ret (anL q.Key.re p.Key.re))
def aKn (q:Pair)(p:Pair):=(aK1 q p).val
def alj:aZ Z:=H7 [ahW] [] (ak (aJ wB) (a1 (jf 0))) (b1 (aV wB)) (R1 aG) [0] func474 1 (u11 aK1) fun a=>kM a.1.1.Key.Kind=true/\kM a.2.Key.Kind=true
def aGp (l:List Pair)(p:Pair):Pg Int:=aL l (.each false uj l iE (fun b a (c:Unit)=> .ix b l.length (.ob (kM (Pair.mk a.Key.re a.Val.re).Key.Kind=true/\kM (Pair.mk p.Key.re p.Val.re).Key.Kind=true) (.br (aKn (Pair.mk a.Key.re a.Val.re) (Pair.mk p.Key.re p.Val.re)) (.ret (.inr b)) (rl ())))) (fun b (c:Unit)=> .ret (-1)) ())
def aLl (l:List Pair)(p:Pair):=(aGp l p).val
theorem azN (l:List Pair)(p:Pair)(h:(∀x∈l,kM x.Key.Kind=true)/\kM p.Key.Kind=true):Is (aGp l p):=
 gp fun _=>gU (.inr au) (fun a b _ _=>b_ au au (aY (by simp only[ah.dR];exact⟨h.1 (l.getD a iE) (getD_mem au),h.2⟩) (aT iR iR))) (fun b _=>aQ)
def aGH:aZ Z:=H7 [alj] [jS 2 (bI (fun b=>[s0 8]) (l1 cI))] (ak (bC fB) (a1 (lH 474 [0]))) (b1 (aV wB)) (R1 cI) [0] func485 1 (u11 aGp) (fun a=>(∀x∈a.1.1,kM x.Key.Kind=true)/\kM a.2.Key.Kind=true) fun a h=>azN a.1.1 a.2 h
def aJG (l:List Pair)(p:Pair):Pg Bool:=.ob ((∀(x:Pair),x∈l->kM x.Key.Kind=true)/\kM (Pair.mk p.Key.re p.Val.re).Key.Kind=true) (.lt (aLl l (Pair.mk p.Key.re p.Val.re)) fun a=> .ret (decide (0<=a)))
def aKD (l:List Pair)(p:Pair):=(aJG l p).val
def aIy:aZ Z:=H7 [alj,aGH] [] (ak (bC fB) (a1 (lH 474 [0]))) (b1 (aV wB)) (R1 aG) [0] func473 1 (u11 aJG) fun a=>(∀x∈a.1.1,kM x.Key.Kind=true)/\kM a.2.Key.Kind=true
def ay8 (g:aF->Op->ah->Int->Int)(oL:aF->Op->ah->Int->Prop)(f:aF->Op->List Pair->Int->Int)(jV:aF->Op->List Pair->Int->Prop)(d:aF->Op->ah->Int->Int)(nH:aF->Op->ah->Int->Prop)(e:aF->bK->List Slot->Int->Int->Int)(qp:aF->bK->List Slot->Int->Int->Prop)(c:aF->bK->ah->Int->Int)(jW:aF->bK->ah->Int->Prop)(x:aF)(o:Op)(v:ah)(a:Int):Pg Int:=.br (o.Kind==10) (.ix o.Target x.p.bD.length (.lt (dA .i64 (a+1)) fun b=> .ob (jW x (x.p.bD.getD o.Target.toNat dC) v.re b) (.ret (c x (x.p.bD.getD o.Target.toNat dC) v.re b)))) (.ob (List.length v.re.Text<=1048576) (.ret (aEy x o.Kind o.Target v.re)))
def Xz (d:aF->Op->ah->Int->Int)(oL:aF->Op->ah->Int->Prop)(j:aF->Op->List Pair->Int->Int)(jV:aF->Op->List Pair->Int->Prop)(g:aF->Op->ah->Int->Int)(nH:aF->Op->ah->Int->Prop)(i:aF->bK->List Slot->Int->Int->Int)(qp:aF->bK->List Slot->Int->Int->Prop)(h:aF->bK->ah->Int->Int)(jW:aF->bK->ah->Int->Prop)(x:aF)(o:Op)(l:List Pair)(a:Int):Pg Int:=aL l (.each false uj l iE (fun c b (f:Unit)=> .ix c l.length (.ob (List.length b.Key.re.Text<=1048576) (.lt (aEy x o.Key (-1) b.Key.re) fun e=> .br (e !=0) (.ret (.inr e)) (.ob ((0:Int)<=0/\0<=c/\c<=(↑l.length:Int)) (.ob ((∀(x:Pair),x∈List.take c.toNat l->kM x.Key.Kind=true)/\kM (Pair.mk b.Key.re b.Val.re).Key.Kind=true) (.br (aKD (List.take c.toNat l) (Pair.mk b.Key.re b.Val.re)) (.ret (.inr 9)) (.ob (oL x o b.Val.re a) (.br (d x o b.Val.re a !=0) (.ret (.inr (d x o b.Val.re a))) (rl ()))))))))) (fun c (f:Unit)=> .ret 0) ())
def ED (b:aF->Op->ah->Int->Int)(oL:aF->Op->ah->Int->Prop)(f:aF->Op->List Pair->Int->Int)(jV:aF->Op->List Pair->Int->Prop)(h:aF->Op->ah->Int->Int)(nH:aF->Op->ah->Int->Prop)(j:aF->bK->List Slot->Int->Int->Int)(qp:aF->bK->List Slot->Int->Int->Prop)(i:aF->bK->ah->Int->Int)(jW:aF->bK->ah->Int->Prop)(x:aF)(o:Op)(v:ah)(a:Int):Pg Int:=.lt (adL v.re) fun e=> .br (o.Card==4) (.br (v.Kind !=11) (.ret 12) (.br e (.ret 12) (aL v.List (.each false uj v.List gQ (fun d c (g:Unit)=> .ix d v.List.length (.ob (oL x o c.re a) (.br (b x o c.re a !=0) (.ret (.inr (b x o c.re a))) (rl ())))) (fun d (g:Unit)=> .ret 0) ())))) (.br (o.Card==5) (.br (v.Kind !=12) (.ret 12) (.br e (.ret 12) (.ob (jV x o v.Pairs a) (.ret (f x o v.Pairs a))))) (.ob (oL x o v.re a) (.ret (b x o v.re a))))
def aty (m:aF->Op->ah->Int->Int)(oL:aF->Op->ah->Int->Prop)(k:aF->Op->List Pair->Int->Int)(jV:aF->Op->List Pair->Int->Prop)(d:aF->Op->ah->Int->Int)(nH:aF->Op->ah->Int->Prop)(j:aF->bK->List Slot->Int->Int->Int)(qp:aF->bK->List Slot->Int->Int->Prop)(h:aF->bK->ah->Int->Int)(jW:aF->bK->ah->Int->Prop)(x:aF)(g:bK)(l:List Slot)(i:Int)(a:Int):Pg Int:=.ix i l.length (.lt (mY g (l.getD i.toNat cO).Num) fun b=> .br (!b.2) (.ret 8) (.ob ((0:Int)<=0/\0<=i/\i<=(↑l.length:Int)) (.br ((List.take i.toNat l).any fun(x:Slot)=>axs x b.1) (.ret 9) (.ob ((0:Int)<=0/\0<=i/\i<=(↑l.length:Int)) (.as ((List.take i.toNat l).length<=9223372036854775807) (.each false uj (List.take i.toNat l) cO (fun c e (f:Unit)=> .ix c (List.take i.toNat l).length (.br (b.1.Union !=(-1)) (.br ((mY g e.Num).1.Union==b.1.Union) (.ret (.inr 15)) (rl ())) (rl ()))) (fun c (f:Unit)=> .ix i l.length (.ob (nH x b.1 (l.getD i.toNat cO).Val.re a) (.ret (d x b.1 (l.getD i.toNat cO).Val.re a)))) ()))))))
def Xf (m:aF->Op->ah->Int->Int)(oL:aF->Op->ah->Int->Prop)(r:aF->Op->List Pair->Int->Int)(jV:aF->Op->List Pair->Int->Prop)(o:aF->Op->ah->Int->Int)(nH:aF->Op->ah->Int->Prop)(d:aF->bK->List Slot->Int->Int->Int)(qp:aF->bK->List Slot->Int->Int->Prop)(q:aF->bK->ah->Int->Int)(jW:aF->bK->ah->Int->Prop)(x:aF)(g:bK)(v:ah)(a:Int):Pg Int:=.cut (fun(s:Unit)=> .cut (fun(p:Unit)=> .cut (fun(n:Unit)=> aL v.bM (.each false uj v.bM qf (fun f e (l:Unit)=> .ix f v.bM.length (.lt (aL4 x g e) fun c=> .br (c !=0) (.ret (.inr c)) (rl ()))) (fun f (l:Unit)=> .ret 0) ())) (aL g.Ops (.each false uj g.Ops BJ (fun i h (k:Unit)=> .ix i g.Ops.length (.br (h.Card==1) (.br (!v.Slots.any fun(x:Slot)=>awU x h) (.ret (.inr (.inr 14))) (rl ())) (rl ()))) (fun i (k:Unit)=> rl ()) ()))) (aL v.Slots (.cnt uj 0 (↑v.Slots.length:Int) (fun b (j:Unit)=> .ob (qp x g v.Slots b a) (.br (d x g v.Slots b a !=0) (.ret (.inr (.inr (d x g v.Slots b a)))) (rl ()))) (fun b (j:Unit)=> rl ()) ()))) (.br (v.Kind !=10) (.ret (.inr 12)) (.br (adL v.re) (.ret (.inr 12)) (.br (decide (16 < a)) (.ret (.inr 17)) (rl ()))))
def oL (b:Nat)(x:aF)(o:Op)(v:ah)(a:Int):Prop:=ig x.p/\Vk x.p o/\gV v/\4*tV v+1<=b
def jV (a:Nat)(x:aF)(o:Op)(l:List Pair)(b:Int):Prop:=ig x.p/\Vk x.p o/\(pJ l/\∀p∈l,gV p.Val/\p.Key.Text.length<=1048576)/\1<=a/\∀p∈l,4*tV p.Val+2<=a
def nH (b:Nat)(x:aF)(o:Op)(v:ah)(a:Int):Prop:=ig x.p/\Vk x.p o/\gV v/\4*tV v+2<=b
def qp (b:Nat)(x:aF)(g:bK)(l:List Slot)(i:Int)(a:Int):Prop:=ig x.p/\g∈x.p.bD/\l.length<=1048576/\(0<=i/\i < l.length)/\gV (l.getD i.toNat cO).Val/\4*tV (l.getD i.toNat cO).Val+3<=b
def jW (b:Nat)(x:aF)(g:bK)(v:ah)(a:Int):Prop:=ig x.p/\g∈x.p.bD/\gV v/\4*tV v<=b
def u_:Nat->(aF->Op->ah->Int->Int)×(aF->Op->(List Pair)->Int->Int)×(aF->Op->ah->Int->Int)×(aF->bK->(List Slot)->Int->Int->Int)×(aF->bK->ah->Int->Int)
 | 0=>(fun _ _ _ _=>default,fun _ _ _ _=>default,fun _ _ _ _=>default,fun _ _ _ _ _=>default,fun _ _ _ _=>default)
 | a+1=>(fun x o v b=>(ay8 ((u_ a).1) (oL a) ((u_ a).2.1) (jV a) ((u_ a).2.2.1) (nH a) ((u_ a).2.2.2.1) (qp a) ((u_ a).2.2.2.2) (jW a) x o v b).val,fun x o l b=>(Xz ((u_ a).1) (oL a) ((u_ a).2.1) (jV a) ((u_ a).2.2.1) (nH a) ((u_ a).2.2.2.1) (qp a) ((u_ a).2.2.2.2) (jW a) x o l b).val,fun x o v b=>(ED ((u_ a).1) (oL a) ((u_ a).2.1) (jV a) ((u_ a).2.2.1) (nH a) ((u_ a).2.2.2.1) (qp a) ((u_ a).2.2.2.2) (jW a) x o v b).val,fun x g l i b=>(aty ((u_ a).1) (oL a) ((u_ a).2.1) (jV a) ((u_ a).2.2.1) (nH a) ((u_ a).2.2.2.1) (qp a) ((u_ a).2.2.2.2) (jW a) x g l i b).val,fun x g v b=>(Xf ((u_ a).1) (oL a) ((u_ a).2.1) (jV a) ((u_ a).2.2.1) (nH a) ((u_ a).2.2.2.1) (qp a) ((u_ a).2.2.2.2) (jW a) x g v b).val)
def ZT (x:aF)(g:bK)(v:ah)(a:Int):Int:=(u_ (4*tV v)).2.2.2.2 x g v a
abbrev adS (a:Nat):=ay8 ((u_ a).1) (oL a) ((u_ a).2.1) (jV a) ((u_ a).2.2.1) (nH a) ((u_ a).2.2.2.1) (qp a) ((u_ a).2.2.2.2) (jW a)
theorem asu (d:Nat)(x:aF)(o:Op)(v:ah)(a:Int)(h:oL (d+1) x o v a):Is (adS d x o v a):=
 by
 obtain⟨f,c,e,i⟩:=h;have l:=iZ v;have k:=e.2;unfold adS ay8;simp only[ah.dR];exact dY (fun b=>b_ (c.1 b).1 (c.1 b).2 (dI fun j g=>aY ⟨f,getD_mem (by have:=c.1 b;omega),e,by omega⟩ aQ)) (fun _=>aY au aQ)
abbrev JF (a:Nat):=Xz ((u_ a).1) (oL a) ((u_ a).2.1) (jV a) ((u_ a).2.2.1) (nH a) ((u_ a).2.2.2.1) (qp a) ((u_ a).2.2.2.2) (jW a)
theorem afL (e:Nat)(x:aF)(o:Op)(l:List Pair)(a:Int)(h:jV (e+1) x o l a):Is (JF e x o l a):=
 by
 obtain⟨p,q,⟨c,k⟩,u,j⟩:=h;unfold JF Xz;simp only[ah.dR];refine gp fun _=>gU (.inr (by have:=c.1;omega)) (fun m i f _=> ?_) (fun i _=>aQ);have b:=getD_mem (d:=iE) f;obtain⟨g,r⟩:=k _ b;exact b_ au au (aY r (dI fun t s=>iW iR (fun _=>aY au (aY ⟨fun x n=>c.2 x (List.mem_of_mem_take n),c.2 (l.getD m iE) b⟩ (aT iR (fun _=>aY ⟨p,q,g,by have:=j _ b;omega⟩ (iW iR iR)))))))
abbrev U7 (a:Nat):=ED ((u_ a).1) (oL a) ((u_ a).2.1) (jV a) ((u_ a).2.2.1) (nH a) ((u_ a).2.2.2.1) (qp a) ((u_ a).2.2.2.2) (jW a)
theorem ao7 (i:Nat)(x:aF)(o:Op)(v:ah)(a:Int)(h:nH (i+1) x o v a):Is (U7 i x o v a):=
 by
 obtain⟨g,f,b,u⟩:=h;have q:=qm b;have t:=b.2;unfold U7 ED;simp only[ah.dR];refine dI fun s r=>dY (fun _=>iW iR (fun _=>aT iR (fun _=>gp fun _=>gU (.inr au) (fun w l k _=>b_ au au (aY ?_ (iW iR iR))) (fun l _=>aQ)))) (fun _=>dY (fun _=>iW iR (fun _=>aT iR (fun _=>aY ?_ aQ))) (fun _=>aY ⟨g,f,b,by omega⟩ aQ))
 ·obtain⟨c,j⟩:=D5 b (getD_mem (d:=gQ) k);exact⟨g,f,c,by omega⟩
 ·refine⟨g,f,⟨q.2.2.2,fun p e=> ?_⟩,by have:=nI v;omega,fun p e=> ?_⟩
  ·obtain⟨c,j,n,m⟩:=zL b e;exact⟨c,by have:=iZ p.Key;omega⟩
  ·obtain⟨c,j,n,m⟩:=zL b e;omega
abbrev adf (a:Nat):=aty ((u_ a).1) (oL a) ((u_ a).2.1) (jV a) ((u_ a).2.2.1) (nH a) ((u_ a).2.2.2.1) (qp a) ((u_ a).2.2.2.2) (jW a)
theorem axL (c:Nat)(x:aF)(g:bK)(l:List Slot)(i:Int)(a:Int)(h:qp (c+1) x g l i a):Is (adf c x g l i a):=
 by
 obtain⟨e,k,o,b,j,n⟩:=h;unfold adf aty;simp only[ah.dR];refine b_ b.1 b.2 (dI fun q f=>aT iR (fun d=>aY au (aT iR (fun _=>aY au (gp fun _=>gU (.inr qbu) (fun p m _ _=>b_ au au (iW (fun _=>dY iR iR) iR)) (fun m _=>b_ b.1 b.2 (aY ⟨e,?_,j,by omega⟩ aQ)))))));rw[f]at d⊢;exact(e g k).2 _ (LC (by simpa using d))
abbrev Jr (a:Nat):=Xf ((u_ a).1) (oL a) ((u_ a).2.1) (jV a) ((u_ a).2.2.1) (nH a) ((u_ a).2.2.2.1) (qp a) ((u_ a).2.2.2.2) (jW a)
theorem agV (c:Nat)(x:aF)(g:bK)(v:ah)(a:Int)(h:jW (c+1) x g v a):Is (Jr c x g v a):=
 by
 obtain⟨k,e,j,E⟩:=h;have r:=qm j;have s:=k g e;unfold Jr Xf;simp only[ah.dR];refine kX (iW iR (fun _=>aT iR (fun _=>dB iR iR))) (fun F u=>kX (gp fun _=>O7 au au (fun m o b f=>aY ?_ (iW iR iR)) (fun m o _ _=>aQ)) (fun B w=>kX (gp fun _=>gU (.inr (by have:=s.1;omega)) (fun G p _ _=>b_ au au (dY (fun _=>aT iR iR) iR)) (fun p _=>aQ)) (fun A y=>gp fun _=>gU (.inr au) (fun D q _ _=>b_ au au (dI fun t C=>iW iR iR)) (fun q _=>aQ))));obtain⟨n,z⟩:=MB j (getD_mem (d:=cO) (l:=v.Slots) (i:=m.toNat) au);exact⟨k,e,r.2.1,⟨b,f⟩,n,by omega⟩
theorem aEg:∀b,gZ Z.P Z.S 434 (qj (args (ak (aJ jH) (ak (aJ jF) (ak (aJ aP) (a1 (bC cI)))))) (R1 cI) 1 [] (fun a=>some (oL b (a.1) (a.2.1) (a.2.2.1) (a.2.2.2))) (fun a=>(u_ b).1 (a.1) (a.2.1) (a.2.2.1) (a.2.2.2)))/\gZ Z.P Z.S 435 (qj (args (ak (aJ jH) (ak (aJ jF) (ak (bC fB) (a1 (bC cI)))))) (R1 cI) 1 [] (fun a=>some (jV b (a.1) (a.2.1) (a.2.2.1) (a.2.2.2))) (fun a=>(u_ b).2.1 (a.1) (a.2.1) (a.2.2.1) (a.2.2.2)))/\gZ Z.P Z.S 371 (qj (args (ak (aJ jH) (ak (aJ jF) (ak (aJ aP) (a1 (bC cI)))))) (R1 cI) 1 [] (fun a=>some (nH b (a.1) (a.2.1) (a.2.2.1) (a.2.2.2))) (fun a=>(u_ b).2.2.1 (a.1) (a.2.1) (a.2.2.1) (a.2.2.2)))/\gZ Z.P Z.S 252 (qj (args (ak (aJ jH) (ak (aJ jg) (ak (bC bT) (ak (bC cI) (a1 (bC cI))))))) (R1 cI) 1 [] (fun a=>some (qp b (a.1) (a.2.1) (a.2.2.1) (a.2.2.2.1) (a.2.2.2.2))) (fun a=>(u_ b).2.2.2.1 (a.1) (a.2.1) (a.2.2.1) (a.2.2.2.1) (a.2.2.2.2)))/\gZ Z.P Z.S 169 (qj (args (ak (aJ jH) (ak (aJ jg) (ak (aJ aP) (a1 (bC cI)))))) (R1 cI) 1 [] (fun a=>some (jW b (a.1) (a.2.1) (a.2.2.1) (a.2.2.2))) (fun a=>(u_ b).2.2.2.2 (a.1) (a.2.1) (a.2.2.1) (a.2.2.2)))
 | 0=>⟨je func434 eQ (fun a h=>by have k:=h.2.2.2;omega),
  je func435 eQ (fun a h=>by have k:=h.2.2.2.1;omega),
  je func371 eQ (fun a h=>by have k:=h.2.2.2;omega),
  je func252 eQ (fun a h=>by have k:=h.2.2.2.2.2;omega),
  je func169 eQ (fun a h=>by have k:=h.2.2.2;have:=nI (a.2.2.1);omega)⟩
 | b+1=>by
  obtain⟨g,i,j,f,d⟩:=aEg b;exact⟨GU [atq,⟨434,_,g⟩,⟨435,_,i⟩,⟨371,_,j⟩,⟨252,_,f⟩,⟨169,_,d⟩] [] func434 ntmps434 (fun a=>adS b a.1 a.2.1 a.2.2.1 a.2.2.2) (fun a h=>⟨asu b a.1 a.2.1 a.2.2.1 a.2.2.2 h,rfl⟩) (lJ (n:=31) rfl),
   GU [atq,aIy,alj,⟨434,_,g⟩,⟨435,_,i⟩,⟨371,_,j⟩,⟨252,_,f⟩,⟨169,_,d⟩] [jS 2 (bI (fun c=>[s0 15]) (l1 cI))] func435 ntmps435 (fun a=>JF b a.1 a.2.1 a.2.2.1 a.2.2.2) (fun a h=>⟨afL b a.1 a.2.1 a.2.2.1 a.2.2.2 h,rfl⟩) (lJ (n:=44) rfl),
   GU [WV,⟨434,_,g⟩,⟨435,_,i⟩,⟨371,_,j⟩,⟨252,_,f⟩,⟨169,_,d⟩] [jS 6 (bI (fun c=>[s0 26]) (l1 cI))] func371 ntmps371 (fun a=>U7 b a.1 a.2.1 a.2.2.1 a.2.2.2) (fun a h=>⟨ao7 b a.1 a.2.1 a.2.2.1 a.2.2.2 h,rfl⟩) (lJ (n:=59) rfl),
   GU [Qu,ayX,auP,alz,⟨434,_,g⟩,⟨435,_,i⟩,⟨371,_,j⟩,⟨252,_,f⟩,⟨169,_,d⟩] [jS 7 (bI (fun c=>[s0 38]) (l1 cI))] func252 ntmps252 (fun a=>adf b a.1 a.2.1 a.2.2.1 a.2.2.2.1 a.2.2.2.2) (fun a h=>⟨axL b a.1 a.2.1 a.2.2.1 a.2.2.2.1 a.2.2.2.2 h,rfl⟩) (lJ (n:=69) rfl),
   GU [WV,ayX,auP,ajP,aH7,⟨434,_,g⟩,⟨435,_,i⟩,⟨371,_,j⟩,⟨252,_,f⟩,⟨169,_,d⟩] [jS 6 (bI (fun c=>[s0 30]) (l1 cI)),jS 13 (bI (fun c=>[s0 47]) (l1 cI)),jS 19 (bI (fun c=>[s0 65]) (l1 cI)),jS 100005 (bI (fun c=>[]) l0),jS 100012 (bI (fun c=>[]) l0),jS 100018 (bI (fun c=>[]) l0)] func169 ntmps169 (fun a=>Jr b a.1 a.2.1 a.2.2.1 a.2.2.2) (fun a h=>⟨agV b a.1 a.2.1 a.2.2.1 a.2.2.2 h,rfl⟩) (lJ (n:=77) rfl)⟩
def ai8:aZ Z:=⟨169,qj (args (ak (aJ jH) (ak (aJ jg) (ak (aJ aP) (a1 (bC cI)))))) (R1 cI) 1 [] (fun a=>some (ig (a.1).p/\(a.2.1)∈(a.1).p.bD/\gV (a.2.2.1))) (fun a=>ZT (a.1) (a.2.1) (a.2.2.1) (a.2.2.2)),kQ (fun n=>((aEg n).2.2.2.2)) _ _ (fun a h=>⟨4*tV (a.2.2.1),⟨h.1,h.2.1,h.2.2,nO _⟩,rfl⟩)⟩
def akI (v:ah):Pg (List ah):=.ob (v.List.length<=1048576) (.cut (fun(f:List ah)=> aL v.Slots (.each false oZ v.Slots cO (fun c g (a:List ah)=> .ix c v.Slots.length (.ob (bZ (a.length+1) 128) (rl (a++[g.Val.re])))) (fun c (a:List ah)=> .ret a) f)) (aL v.Pairs (.each false oZ v.Pairs iE (fun e d (b:List ah)=> .ix e v.Pairs.length (.ob (bZ (b.length+2) 128) (rl (b++[d.Key.re,d.Val.re])))) (fun e (b:List ah)=> rl b) v.List)))
def azX (v:ah):=(akI v).val
theorem Vm (v:ah)(h:tV v<=1048576):j_ (akI v) (fun r=>r.length<=4194304/\∀z∈r,tV z < tV v):=
 have k:=aLP h;ai (qbo) (bP (fun c=>c.length<=v.List.length+2*v.Pairs.length/\∀z∈c,tV z < tV v) (bW <| dh (fun(f:Nat) b=>b.length<=v.List.length+2*f/\∀z∈b,tV z < tV v) (by exact⟨nO _,fun z j=>aCB j⟩) au (fun f b ry i=>have hI:b.length<=v.List.length+2*f/\∀z∈b,tV z < tV v:=i;aW au au (ai (qbo) (af qan))) (fun b hI=>have hI:b.length<=v.List.length+2*v.Pairs.length/\∀z∈b,tV z < tV v:=hI;af qan)) (fun c d=>have d:c.length<=v.List.length+2*v.Pairs.length/\∀z∈c,tV z < tV v:=d;bW <| dh (fun(e:Nat) a=>a.length<=v.List.length+2*v.Pairs.length+e/\∀z∈a,tV z < tV v) (by exact d) au (fun e a azw g=>have hI:a.length<=v.List.length+2*v.Pairs.length+e/\∀z∈a,tV z < tV v:=g;aW au au (ai (qbo) (af qan))) (fun a hI=>have hI:a.length<=v.List.length+2*v.Pairs.length+v.Slots.length/\∀z∈a,tV z < tV v:=hI;af qan)))
def avs:aZ Z:=E1 [aEa] [jS 3 (bI (fun b=>[s0 14, .slot 3 false [some 78]]) (aB cI (l1 jO))),jS 8 (bI (fun b=>[s0 29, .slot 3 false [some 78]]) (aB cI (l1 jO))),jS 100007 (bI (fun b=>[.slot 3 false [some 78]]) (l1 jO))] (a1 (aJ aP)) (shr [.slot 0 false [some 78]] (l1 jO)) [] func256 1 akI (fun a=>tV a<=1048576) fun a h=>(Vm a h).1
def aly (d:ah->Int)(Io:ah->Prop)(v:ah):Pg Int:=.ob (tV v.re<=1048576) (.lt (azX v.re) fun a=> aL a (.lt (dA .i64 (1+(↑v.bM.length:Int))) fun f=> .each false oZ a gQ (fun b e (c:Int)=> .ix b a.length (.ob (b.toNat < a.length) (.ob (Io e.re) (rl (dA .i64 (c+d e.re)))))) (fun(b c:Int)=> .ret c) f))
def Io (a:Nat)(v:ah):Prop:=tV v<=1048576/\tV v<=a
def vcV:Nat->(ah->Int)
 | 0=>(fun _=>default)
 | a+1=>(fun v=>(aly ((vcV a)) (Io a) v).val)
def anV (v:ah):Int:=(vcV (tV v)) v
abbrev VB (a:Nat):=aly ((vcV a)) (Io a)
theorem aqO (a:Nat)(v:ah)(h:Io (a+1) v):Is (VB a v):=
 by
 obtain⟨b,m⟩:=h;have g:=(Vm v b).2;unfold VB aly;simp only[ah.dR];refine aY b (dI fun i c=>gp fun _=>dI fun l k=>gU (.inr au) (fun f j e _=>b_ au au (aY au (aY ?_ aQ))) (fun j _=>aQ));have:=g.2 (i.getD f gQ) (by have:=getD_mem (d:=gQ) e;rw[c]at this⊢;exact this);exact⟨by omega,by omega⟩
theorem aEk:∀b,gZ Z.P Z.S 170 (qj (args (a1 (aJ aP))) (R1 cI) 1 [] (fun a=>some (Io b a)) (fun a=>(vcV b) a))
 | 0=>je func170 eQ (fun a h=>by have k:=h.2;have:=nI a;omega)
 | b+1=>by
  have c:=aEk b;exact GU [avs,⟨170,_,c⟩] [jS 3 (bI (fun d=>[s0 13, s0 3]) (aB cI (l1 cI)))] func170 ntmps170 (fun a=>VB b a) (fun a h=>⟨aqO b a h,rfl⟩) (lJ (n:=23) rfl)
def avF:aZ Z:=⟨170,qj (args (a1 (aJ aP))) (R1 cI) 1 [] (fun a=>some (tV a<=1048576)) (fun a=>anV a),kQ (fun n=>((aEk n))) _ _ (fun a h=>⟨tV a,⟨h,nO _⟩,rfl⟩)⟩
def an0 (p:dO)(prog:Int)(v:ah):Pg Int:=.br (decide (prog < 0)) (.ret 10) (aL p.bD (.br (decide ((↑p.bD.length:Int)<=prog)) (.ret 10) (.ix prog p.bD.length (.ob (ig p/\p.bD.getD prog.toNat dC∈p.bD/\gV v.re) (.lt (ZT (aF.mk p) (p.bD.getD prog.toNat dC) v.re 1) fun a=> .br (a !=0) (.ret a) (.ob (tV v.re<=1048576) (.lt (anV v.re) fun b=> .br (decide (4096 < b)) (.ret 3) (.ret 0))))))))
def aH4 (p:dO)(prog:Int)(v:ah):=(an0 p prog v).val
theorem atH (p:dO)(prog:Int)(v:ah)(h:ig p/\gV v):Is (an0 p prog v):=
 by
 unfold an0;simp only[ah.dR];exact dB iR (fun _=>gp fun _=>dB iR (fun _=>b_ au au (aY ⟨h.1,getD_mem au,h.2⟩ (dI fun c a=>iW iR (fun _=>aY h.2.2 (dI fun d b=>dB iR iR))))))
def aA9:aZ Z:=E1 [ai8,avF] [] (ak (aJ eX) (ak (bC cI) (a1 (aJ aP)))) (R1 cI) [] func97 1 (u3 an0) (fun a=>ig a.1/\gV a.2.2) fun a h=>atH a.1 a.2.1 a.2.2 h
theorem put_pos (u:Int)(h:0<=u/\u < 18446744073709551616):1<=(Xy u).length:=by
 obtain⟨x,rfl⟩:∃x:Nat,u=(x:Int):=⟨u.toNat,by omega⟩;rw[ahe x au,G9,Qb0];unfold aiU;split<;>simp
theorem aCP {f:Raw}(h:Md f=true):1<=(CV f.Num f.iy).1.length/\(CV f.Num f.iy).1.length<=10:=by
 have e:(CV f.Num f.iy).2=0:=by
  unfold Md aeg at h;simp only[bf,aI]at h;cases e:(CV f.Num f.iy).2 !=0 with
  | true=>rw[e]at h;cases h
  | false=>exact lM.1 e
 unfold CV ag9 at e⊢;simp only[bf,cZ,bY,aI]at e⊢;by_cases c:f.Num < 1
 ·rw[rY c]at e;cases e
 rw[qM c]at e⊢;by_cases d:65535 < f.Num
 ·rw[rY d]at e;cases e
 rw[qM d]at e⊢;by_cases b:f.iy < 0
 ·rw[rY b]at e;cases e
 rw[qM b]at e⊢;by_cases a:6 < f.iy
 ·rw[rY a]at e;cases e
 rw[qM a];exact⟨put_pos _ (QS _),Tj _ (QS _)⟩
def w_ (l:List Raw):Nat:=kG (fun x=>24+x.Data.length) l
theorem agi {l:List Raw}{i:Nat}(a:i < l.length):w_ (l.take (i+1))=w_ (l.take i)+(24+(l.getD i qf).Data.length):=qZ (f:=fun x:Raw=>24+x.Data.length) (d:=qf) a
theorem axF {l:List Raw}{i:Nat}:w_ (l.take i)<=w_ l:=wu (Qd i l)
theorem Kz (l m:List Raw):w_ (l++m)=w_ l+w_ m:=pI l m
theorem Hl (l:List Raw):l.length<=w_ l:=zO fun x=>by omega
def ZI (l:List Raw):Prop:=(∀x∈l,Ov x)/\w_ l<=68719476736
def aHf (l:List Raw)(i:Nat)(y:List Int):Prop:=y.length<=w_ (l.take i)/\(0 < i->0 < y.length)/\∀k,F8 y k=true
theorem VA {l:List Raw}{i:Nat}{y:List Int}{a b:Str}(c:i < l.length)(h:aHf l i y)(d:1<=a.length/\a.length<=10)(e:b.length<=10+(l.getD i qf).Data.length):aHf l (i+1) (y++Ya a++Ya b):=by
 refine⟨?_,fun _=> ?_,Yj (Yj h.2.2 (JE a)) (JE b)⟩
 ·rw[agi c];simp only[um,zo];have:=h.1;omega
 ·simp only[um,zo];omega
theorem aCo (a b:Str):Ya (a++b)=Ya a++Ya b:=by simp[Ya]
def akz:List Raw:=[]
def anD:Pg (List UInt8):=aL akz (.ob ((dp ((0:Int)=0)).p/\True) (.ret []))
def Zb:Str:=(anD).val
theorem auo:Is (anD):=
 gp fun _=>aY ((⟨rfl,trivial⟩)) (aQ)
def aD6:aZ Z:=vF Z [ahk,adx,IE,alv,ajS,acb,abx] [jS 600003 (bI (fun _=>List.replicate 2 (.iter 0)) l0)] (args (a1 (bC bU))) (lJ (n:=54) rfl) (R1 cStr) [] func172 ntmps172 eQ 1 rfl (fun a=>anD) (fun a=>some (a=akz)) (fun(l) e h=>by have b:l=akz:=h;subst b;show _=_;kernel_rfl) (fun a=>Zb) (fun a h=>⟨auo,rfl⟩)
def aoV (l:List Raw):Pg (List UInt8):=aL l (.each false oZ l qf (fun h a (b:List Int)=> .ix h l.length (.br (!Md a) (rl b) (.lt (CV a.Num a.iy) fun i=> .ob ((dp (bZ (b.length+i.1.length) 1)).p/\True) (.lt (b++Ya i.1) fun(c:List Int)=> .br (a.iy==2) (.lt (aEM a.Bits) fun e=> .ob ((dp (bZ (c.length+List.length e) 1)).p/\True) (rl (c++Ya e))) (.br (anJ a.iy) (.ob (m_ a.Bits) (.lt (Xy a.Bits) fun f=> .ob ((dp (bZ (c.length+List.length f) 1)).p/\True) (rl (c++Ya f)))) (.lt (dA .u64 (↑(List.length a.Data):Int)) fun j=> .ob (m_ j) (.lt (Xy j) fun g=> .ob ((dp (bZ (c.length+List.length g) 1)).p/\True) (.as (List.length a.Data<=9223372036854775807) (.lt (c++Ya g) fun(d:List Int)=> .ob ((dp (bZ (d.length+List.length a.Data) 1)).p/\True) (rl (d++Ya a.Data))))))))))) (fun h (b:List Int)=> .ob ((dp (0 < b.length)).p/\(dp ((↑b.length:Int)=(↑b.length:Int)/\0 < (↑b.length:Int)/\JQ (F8 b) b.length=true)).p/\True) (.ret (txU b))) [])
def aw4 (l:List Raw):=(aoV l).val
theorem abP (l:List Raw)(h:l≠[]/\ZI l):j_ (aoV l) (fun r=>r.length<=w_ l):=
 by
 obtain⟨y,D,L⟩:=h;have G:=Hl l;unfold aoV;refine bW <| dh (aHf l) ⟨nO _,fun h=>absurd h mi,fun k=>JE [] k⟩ au (fun o m f c=> ?_) fun m c=> ?_
 ·have j:=D _ (getD_mem (d:=qf) f);have g:=aCP j.2;have p:=c.1;have N:=axF (l:=l) (i:=o);have Q:=agi f;have M:=axF (l:=l) (i:=o+1);have b:∀n,n<=w_ (l.take (o+1))->(dp (bZ n 1)).p/\True:=fun n K=>⟨dm au au,trivial⟩
  refine aW au au (dJ (fun H=>absurd H (by rw[j.2];decide)) fun _=>az fun E C=> ?_);rw[<-C]at g;refine ai (b _ au) (az fun z e=> ?_);have P:z.length=m.length+E.1.length:=by rw[e,um,zo]
  refine dK (fun _=>az fun F q=> ?_) fun _=>dJ (fun _=>ai j.1 (az fun J B=> ?_)) fun _=>az fun O u=>ai (by rw[u];exact QS _) (az fun v s=> ?_)
  ·have w:F.length=8:=by rw[q];exact(WT _).2
   exact ai (b _ au) (af (by rw[e];exact VA f c g au))
  ·have w:J.length<=10:=by rw[B];exact Tj _ j.1
   exact ai (b _ au) (af (by rw[e];exact VA f c g au))
  ·have w:v.length<=10:=by rw[s];exact Tj _ (by rw[u];exact QS _)
   refine ai (b _ au) (bW <| az fun x A=> ?_);have R:x.length=z.length+v.length:=by rw[A,um,zo]
   refine ai (b _ au) (af ?_);rw[A,e,Qbc,<-aCo];exact VA f c g (by rw[um];omega)
 ·have I:0 < m.length:=c.2.1 (by
   cases l with
   | nil=>exact absurd rfl y
   | cons a t=>simp)
  have p:=c.1;rw[Kr]at p;exact ai ⟨I,⟨rfl,by omega,xY c.2.2 _⟩,trivial⟩ (af (by rw[G9];exact p))
def aD7:aZ Z:=E1 [ahk,adx,IE,alv,ajS,acb,abx] [jS 3 (bI (fun b=>[s0 10, .tcs (pid (b 3)) 367 [some 5]]) (aB cI (l1 PM)))] (a1 (bC bU)) (R1 cStr) [] func172 1 aoV (fun a=>a≠[]/\ZI a) fun a h=>(abP a h).1
def RQ (l:List Raw):Str:=bif l.isEmpty then Zb else aw4 l
theorem age {l:List Raw}(h:ZI l):(RQ l).length<=w_ l:=by
 unfold RQ;cases l with
 | nil=>
  show Zb.length<=_
  unfold Zb anD;simp only[iG,bY,aI];exact ve _
 | cons a t=>exact(abP (a::t) ⟨by simp,h⟩).2
def atD:aZ Z:=⟨172,qj (args (a1 (bC bU))) (R1 cStr) 1 [] (fun a=>some (ZI a)) (fun a=>RQ a),by
  have b:gZ Z.P Z.S 172 (qj (args (a1 (bC bU))) (R1 cStr) 1 [] (fun a=>some (List.isEmpty a=true/\ZI a)) (fun a=>Zb)):=kQ (fun _=>aD6.ok) _ _ (fun a h=>⟨0,List.isEmpty_iff.1 h.1,rfl⟩);have c:gZ Z.P Z.S 172 (qj (args (a1 (bC bU))) (R1 cStr) 1 [] (fun a=>some (List.isEmpty a=false/\ZI a)) (fun a=>aw4 a)):=kQ (fun _=>aD7.ok) _ _ (fun a h=>⟨0,⟨fun e=>absurd h.1 (by rw[show a=[]from e];decide),h.2⟩,rfl⟩);exact JV b c⟩
end
end Go.Proofs.YtgdmjfkdbfafjaaGreatDoor
