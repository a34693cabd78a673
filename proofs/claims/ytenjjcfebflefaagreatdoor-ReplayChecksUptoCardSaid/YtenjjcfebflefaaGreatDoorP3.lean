/- Codecs: messages read. -/
import Derived.Test.YtenjjcfebflefaaGreatDoorP2
namespace Go.Proofs.YtenjjcfebflefaaGreatDoor
noncomputable section
open Go.RowKit Go.Vc
open Tryz
set_option linter.unusedVariables false
set_option linter.unusedSimpArgs false
set_option maxRecDepth 100000
def Oa (m:Int->af->ae->af×Int×ae)(f_:Int->af->ae->Prop)(f:bC->af->Op->Int->ae->af×Int×ae)(iF:bC->af->Op->Int->ae->Prop)(j:Int->af->Int->ae->af×Int×ae)(eG:Int->af->Int->ae->Prop)(n:bC->af->Op->ae->af×Int×ae)(fQ:bC->af->Op->ae->Prop)(l:bC->af->Op->ae->af×Int×ae)(ja:bC->af->Op->ae->Prop)(k:Op->Int->ae->af×Int×ae)(jJ:Op->Int->ae->Prop)(prog:Int)(v:af)(r:ae):Pg (af×Int×ae):=.ix prog r.p.aO.length (.wh ((r.c.End - r.c.At).toNat+1) default (fun(c:ae×af)=> .lt (oK c.1.c) fun i=> .br (decide (0 < i)) (.ob (ig c.1.c) (.lt (dZ c.1.c) fun b=> .br (b.2.2.2 !=0) (.ret (.inr (c.2.re,b.2.2.2,c.1))) (.cut (fun(e:ae×af)=> .ob (ig c.1.c) (.lt (lg c.1.c) fun g=> .br (g.2.2 !=0) (.ret (.inr (e.2.re,g.2.2,e.1))) (.ob (e.2.re.dH.length<=1048576) (rl (ae.mk e.1.p g.2.1,(qX e.2.re g.1).re))))) (.as ((r.p.aO.getD prog.toNat aU).Ops.length<=9223372036854775807) (.each false rP (r.p.aO.getD prog.toNat aU).Ops vk (fun h d (a:ae×af)=> .ix h (r.p.aO.getD prog.toNat aU).Ops.length (.br (d.Num !=b.1) (rl (a.1,a.2.re)) (.ob (iF (r.p.aO.getD prog.toNat aU) a.2.re d b.2.1 (ae.mk a.1.p b.2.2.1)) (.br ((f (r.p.aO.getD prog.toNat aU) a.2.re d b.2.1 (ae.mk a.1.p b.2.2.1)).2.1 !=0) (.ret (.inr (.inr (.inr ((f (r.p.aO.getD prog.toNat aU) a.2.re d b.2.1 (ae.mk a.1.p b.2.2.1)).1.re, (f (r.p.aO.getD prog.toNat aU) a.2.re d b.2.1 (ae.mk a.1.p b.2.2.1)).2))))) (.ret (.inr (.inr (.inl ((f (r.p.aO.getD prog.toNat aU) a.2.re d b.2.1 (ae.mk a.1.p b.2.2.1)).2.2, (f (r.p.aO.getD prog.toNat aU) a.2.re d b.2.1 (ae.mk a.1.p b.2.2.1)).1.re))))))))) (fun h (a:ae×af)=> rl (a.1,a.2.re)) (c.1,c.2.re)))))) (.ret (.inr (c.2.re,0,c.1)))) (r,v.re))
def Y7 (j:Int->af->ae->af×Int×ae)(f_:Int->af->ae->Prop)(i:bC->af->Op->Int->ae->af×Int×ae)(iF:bC->af->Op->Int->ae->Prop)(f:Int->af->Int->ae->af×Int×ae)(eG:Int->af->Int->ae->Prop)(b:bC->af->Op->ae->af×Int×ae)(fQ:bC->af->Op->ae->Prop)(d:bC->af->Op->ae->af×Int×ae)(ja:bC->af->Op->ae->Prop)(h:Op->Int->ae->af×Int×ae)(jJ:Op->Int->ae->Prop)(g:bC)(v:af)(o:Op)(w:Int)(r:ae):Pg (af×Int×ae):=.br (o.Card==5) (.br (w !=6) (.ret (v.re,13,r)) (.ob (ja g v.re o r) (.ret ((d g v.re o r).1.re,(d g v.re o r).2)))) (.lt (xW g v.re o r) fun a=> .lt (rG o) fun c=> .br (w==5) (.br (Gz o) (.ob (rq v.re r/\1<=o.Num/\o.Num<=65535) (.lt (aEd g v.re o r) fun e=> .ret (e.1.re,e.2))) (.br (w !=c) (.ret (v.re,13,r)) (.br (o.Kind==10) (.ob (fQ g v.re o r) (.ret ((b g v.re o r).1.re,(b g v.re o r).2))) (.ob (rq v.re r/\1<=o.Num/\o.Num<=65535) (.ret (a.1.re,a.2)))))) (.br (w !=c) (.ret (v.re,13,r)) (.br (o.Kind==10) (.ob (fQ g v.re o r) (.ret ((b g v.re o r).1.re,(b g v.re o r).2))) (.ob (rq v.re r/\1<=o.Num/\o.Num<=65535) (.ret (a.1.re,a.2))))))
def NC (d:Int->af->ae->af×Int×ae)(f_:Int->af->ae->Prop)(j:bC->af->Op->Int->ae->af×Int×ae)(iF:bC->af->Op->Int->ae->Prop)(g:Int->af->Int->ae->af×Int×ae)(eG:Int->af->Int->ae->Prop)(k:bC->af->Op->ae->af×Int×ae)(fQ:bC->af->Op->ae->Prop)(i:bC->af->Op->ae->af×Int×ae)(ja:bC->af->Op->ae->Prop)(h:Op->Int->ae->af×Int×ae)(jJ:Op->Int->ae->Prop)(prog:Int)(a:af)(f:Int)(r:ae):Pg (af×Int×ae):=.ob (ig r.c) (.lt (jb r) fun c=> .br (c.2.1 !=0) (.ret (a.re,c.2)) (.lt (I_ c.2.2.c c.1) fun e=> .br (e.2 !=0) (.ret (a.re,e.2,ae.mk c.2.2.p e.1)) (.lt (nO f (ae.mk c.2.2.p e.1)) fun b=> .br (b.1 !=0) (.ret (a.re,b)) (.ob (f_ prog a.re b.2) (.br ((d prog a.re b.2).2.1 !=0) (.ret (a.re,(d prog a.re b.2).2)) (.ret ((d prog a.re b.2).1.re,0, ae.mk (d prog a.re b.2).2.2.p (Et c.2.2.c (d prog a.re b.2).2.2.c))))))))
def LQ (i:Int->af->ae->af×Int×ae)(f_:Int->af->ae->Prop)(h:bC->af->Op->Int->ae->af×Int×ae)(iF:bC->af->Op->Int->ae->Prop)(a:Int->af->Int->ae->af×Int×ae)(eG:Int->af->Int->ae->Prop)(j:bC->af->Op->ae->af×Int×ae)(fQ:bC->af->Op->ae->Prop)(f:bC->af->Op->ae->af×Int×ae)(ja:bC->af->Op->ae->Prop)(e:Op->Int->ae->af×Int×ae)(jJ:Op->Int->ae->Prop)(g:bC)(v:af)(o:Op)(r:ae):Pg (af×Int×ae):=.lt (dG v.re o.Num) fun b=> .br (o.Card==4) (.cut (fun(d:Int)=> .ob (eG o.Target (af.mk 10 0 [] [] [] [] []) d r) (.br ((a o.Target (af.mk 10 0 [] [] [] [] []) d r).2.1 !=0) (.ret (v.re,(a o.Target (af.mk 10 0 [] [] [] [] []) d r).2)) (.ob (b.1.re.List.length<=1048576) (.ob (v.re.Slots.length<=1048576) (.ret ((ut g v.re o (pJ b.1.re (a o.Target (af.mk 10 0 [] [] [] [] []) d r).1.re).re).re,0, (a o.Target (af.mk 10 0 [] [] [] [] []) d r).2.2)))))) (.br (!b.2) (rl 2) (rl 1))) (.cut (fun(c:af)=> .ob (eG o.Target c.re 1 r) (.br ((a o.Target c.re 1 r).2.1 !=0) (.ret (v.re,(a o.Target c.re 1 r).2)) (.ob (v.re.Slots.length<=1048576) (.ret ((ut g v.re o (a o.Target c.re 1 r).1.re).re,0,(a o.Target c.re 1 r).2.2))))) (.br (!b.2) (rl (af.mk 10 0 [] [] [] [] [])) (rl b.1.re)))
def Ya (q:Int->af->ae->af×Int×ae)(f_:Int->af->ae->Prop)(m:bC->af->Op->Int->ae->af×Int×ae)(iF:bC->af->Op->Int->ae->Prop)(n:Int->af->Int->ae->af×Int×ae)(eG:Int->af->Int->ae->Prop)(s:bC->af->Op->ae->af×Int×ae)(fQ:bC->af->Op->ae->Prop)(p:bC->af->Op->ae->af×Int×ae)(ja:bC->af->Op->ae->Prop)(d:Op->Int->ae->af×Int×ae)(jJ:Op->Int->ae->Prop)(g:bC)(v:af)(o:Op)(r:ae):Pg (af×Int×ae):=.ob (ig r.c) (.lt (jb r) fun e=> .br (e.2.1 !=0) (.ret (v.re,e.2)) (.lt (dG v.re o.Num) fun c=> .cut (fun(j:Int)=> .lt (nO j (XU e.1 e.2.2).2) fun h=> .br (h.1 !=0) (.ret (v.re,h)) (.wh ((r.c.End - r.c.At).toNat+1) default (fun(a:Bool×Bool×ae×Pair)=> .lt (oK a.2.2.1.c) fun k=> .br (decide (0 < k)) (.ob (ig a.2.2.1.c) (.lt (dZ a.2.2.1.c) fun b=> .cut (fun(l:Unit)=> .br (b.1==1) (.ob (jJ (Op.mk 0 [] [] 0 0 o.Key (-1) 0) b.2.1 (ae.mk a.2.2.1.p b.2.2.1)) (.br ((d (Op.mk 0 [] [] 0 0 o.Key (-1) 0) b.2.1 (ae.mk a.2.2.1.p b.2.2.1)).2.1 != 0) (.ret (.inr (v.re, (d (Op.mk 0 [] [] 0 0 o.Key (-1) 0) b.2.1 (ae.mk a.2.2.1.p b.2.2.1)).2))) (rl (true,a.2.1, (d (Op.mk 0 [] [] 0 0 o.Key (-1) 0) b.2.1 (ae.mk a.2.2.1.p b.2.2.1)).2.2, Pair.mk (d (Op.mk 0 [] [] 0 0 o.Key (-1) 0) b.2.1 (ae.mk a.2.2.1.p b.2.2.1)).1.re a.2.2.2.Val.re)))) (.ob (jJ o b.2.1 (ae.mk a.2.2.1.p b.2.2.1)) (.br ((d o b.2.1 (ae.mk a.2.2.1.p b.2.2.1)).2.1 !=0) (.ret (.inr (v.re,(d o b.2.1 (ae.mk a.2.2.1.p b.2.2.1)).2))) (rl (a.1,true,(d o b.2.1 (ae.mk a.2.2.1.p b.2.2.1)).2.2, Pair.mk a.2.2.2.Key.re (d o b.2.1 (ae.mk a.2.2.1.p b.2.2.1)).1.re))))) (.br (b.2.2.2 !=0) (.ret (.inr (.inr (v.re,b.2.2.2,a.2.2.1)))) (.br (b.1 !=1) (.br (b.1 !=2) (.ret (.inr (.inr (v.re,18,a.2.2.1)))) (.br (b.1==1) (.br a.1 (.ret (.inr (.inr (v.re,9,a.2.2.1)))) (.br (b.1==2) (.br a.2.1 (.ret (.inr (.inr (v.re,9,a.2.2.1)))) (rl ())) (rl ()))) (.br (b.1==2) (.br a.2.1 (.ret (.inr (.inr (v.re,9,a.2.2.1)))) (rl ())) (rl ())))) (.br (b.1==1) (.br a.1 (.ret (.inr (.inr (v.re,9,a.2.2.1)))) (.br (b.1==2) (.br a.2.1 (.ret (.inr (.inr (v.re,9,a.2.2.1)))) (rl ())) (rl ()))) (.br (b.1==2) (.br a.2.1 (.ret (.inr (.inr (v.re,9,a.2.2.1)))) (rl ())) (rl ()))))))) (aL c.1.Pairs (.ob (0<=(↑c.1.Pairs.length:Int)/\ (↑c.1.Pairs.length:Int)=(↑c.1.Pairs.length:Int)/\(↑c.1.Pairs.length:Int)<=(↑c.1.Pairs.length:Int)) (.lt (List.take c.1.Pairs.length c.1.Pairs) fun i=> .ob (0 < 1/\dE (i.length+1) 256) (.lt (i++[Pair.mk a.2.2.2.Key.re a.2.2.2.Val.re]) fun(f:List Pair)=> .ob (oJ f) (.ob (v.re.Slots.length<=1048576) (.ret (.inr ((ut g v.re o (af.mk 12 0 [] [] (kL f) [] [])).re,0, af6 (XU e.1 e.2.2).1 a.2.2.1))))))))) (false,false,h.2,Pair.mk (af.mk o.Key 0 [] [] [] [] []) (af.mk o.Kind 0 [] [] [] [] [])))) (.br (!c.2) (rl 3) (rl 2))))
def aih (g:Int->af->ae->af×Int×ae)(f_:Int->af->ae->Prop)(f:bC->af->Op->Int->ae->af×Int×ae)(iF:bC->af->Op->Int->ae->Prop)(b:Int->af->Int->ae->af×Int×ae)(eG:Int->af->Int->ae->Prop)(h:bC->af->Op->ae->af×Int×ae)(fQ:bC->af->Op->ae->Prop)(e:bC->af->Op->ae->af×Int×ae)(ja:bC->af->Op->ae->Prop)(d:Op->Int->ae->af×Int×ae)(jJ:Op->Int->ae->Prop)(o:Op)(w:Int)(r:ae):Pg (af×Int×ae):=.br (w !=rG o) (.ret (af.mk 0 0 [] [] [] [] [],13,r)) (.br (o.Kind==10) (.ob (eG o.Target (af.mk 10 0 [] [] [] [] []) 0 r) (.ret ((b o.Target (af.mk 10 0 [] [] [] [] []) 0 r).1.re,(b o.Target (af.mk 10 0 [] [] [] [] []) 0 r).2))) (.ob (ig r.c) (.lt (gq w r) fun a=> .br (a.2.1 !=0) (.ret (af.mk 0 0 [] [] [] [] [],a.2)) (.ob (List.length a.1.Data<=1048576) (.lt (rZ a.2.2.p o a.1) fun c=> .ret (c.1.re,c.2,a.2.2))))))
def f_ (a:Nat)(prog:Int)(v:af)(r:ae):Prop:=rq v r/\(0<=prog/\prog < r.p.aO.length)/\5*r.c.Depth+5<=a
def iF (a:Nat)(g:bC)(v:af)(o:Op)(w:Int)(r:ae):Prop:=rq v r/\alS r.p o/\5*r.c.Depth+4<=a
def eG (b:Nat)(prog:Int)(a:af)(c:Int)(r:ae):Prop:=rq a r/\(0<=prog/\prog < r.p.aO.length)/\5*r.c.Depth+1<=b
def fQ (a:Nat)(g:bC)(v:af)(o:Op)(r:ae):Prop:=rq v r/\(0<=o.Target/\o.Target < r.p.aO.length)/\5*r.c.Depth+2<=a
def ja (a:Nat)(g:bC)(v:af)(o:Op)(r:ae):Prop:=rq v r/\alS r.p o/\o.Card=5/\5*r.c.Depth+3<=a
def jJ (a:Nat)(o:Op)(w:Int)(r:ae):Prop:=rq (af.mk 10 0 [] [] [] [] []) r/\(o.Kind=10->0<=o.Target/\o.Target < r.p.aO.length)/\5*r.c.Depth+2<=a
def iq:Nat->(Int->af->ae->(af×Int×ae))×(bC->af->Op->Int->ae->(af×Int×ae))×(Int->af->Int->ae->(af×Int×ae))×(bC->af->Op->ae->(af×Int×ae))×(bC->af->Op->ae->(af×Int×ae))×(Op->Int->ae->(af×Int×ae))
 | 0=>(fun _ _ _=>default,fun _ _ _ _ _=>default,fun _ _ _ _=>default,fun _ _ _ _=>default,fun _ _ _ _=>default,fun _ _ _=>default)
 | a+1=>(fun prog v r=>(Oa ((iq a).1) (f_ a) ((iq a).2.1) (iF a) ((iq a).2.2.1) (eG a) ((iq a).2.2.2.1) (fQ a) ((iq a).2.2.2.2.1) (ja a) ((iq a).2.2.2.2.2) (jJ a) prog v r).val,fun g v o w r=>(Y7 ((iq a).1) (f_ a) ((iq a).2.1) (iF a) ((iq a).2.2.1) (eG a) ((iq a).2.2.2.1) (fQ a) ((iq a).2.2.2.2.1) (ja a) ((iq a).2.2.2.2.2) (jJ a) g v o w r).val,fun prog c b r=>(NC ((iq a).1) (f_ a) ((iq a).2.1) (iF a) ((iq a).2.2.1) (eG a) ((iq a).2.2.2.1) (fQ a) ((iq a).2.2.2.2.1) (ja a) ((iq a).2.2.2.2.2) (jJ a) prog c b r).val,fun g v o r=>(LQ ((iq a).1) (f_ a) ((iq a).2.1) (iF a) ((iq a).2.2.1) (eG a) ((iq a).2.2.2.1) (fQ a) ((iq a).2.2.2.2.1) (ja a) ((iq a).2.2.2.2.2) (jJ a) g v o r).val,fun g v o r=>(Ya ((iq a).1) (f_ a) ((iq a).2.1) (iF a) ((iq a).2.2.1) (eG a) ((iq a).2.2.2.1) (fQ a) ((iq a).2.2.2.2.1) (ja a) ((iq a).2.2.2.2.2) (jJ a) g v o r).val,fun o w r=>(aih ((iq a).1) (f_ a) ((iq a).2.1) (iF a) ((iq a).2.2.1) (eG a) ((iq a).2.2.2.1) (fQ a) ((iq a).2.2.2.2.1) (ja a) ((iq a).2.2.2.2.2) (jJ a) o w r).val)
def Y4 (prog:Int)(v:af)(r:ae):af×Int×ae:=(iq ((5*r.c.Depth+5).toNat)).1 prog v r
def J7 (a:Nat):Prop:=(∀(prog:Int) (v:af) (r:ae),f_ a prog v r->(fun x=>FP 0 0 v r x/\(x.2.1=0->x.2.2.c.At=x.2.2.c.End)) ((iq a).1 prog v r))/\(∀(g:bC) (v:af) (o:Op) (w:Int) (r:ae),iF a g v o w r->(FP 0 0 v r) ((iq a).2.1 g v o w r))/\(∀(prog:Int) (b:af) (c:Int) (r:ae),eG a prog b c r->(FP 0 8 b r) ((iq a).2.2.1 prog b c r))/\(∀(g:bC) (v:af) (o:Op) (r:ae),fQ a g v o r->(FP 0 0 v r) ((iq a).2.2.2.1 g v o r))/\(∀(g:bC) (v:af) (o:Op) (r:ae),ja a g v o r->(FP 0 0 v r) ((iq a).2.2.2.2.1 g v o r))/\(∀(o:Op) (w:Int) (r:ae),jJ a o w r->(fun x=>x.2.1=0->x.2.2.p=r.p/\AA 0 r.c x.2.2.c/\kV x.1/\(tV x.1:Int)<=8*(x.2.2.c.At - r.c.At)/\(¬o.Kind=10->j_ x.1.Kind=true)) ((iq a).2.2.2.2.2 o w r))
theorem Jk:tV (af.mk 10 0 [] [] [] [] [])=1:=(kE 10 0 [] u0).2
theorem afO {c:ah}(h:ig c):AA 0 c c:=⟨h,rfl,rfl,rfl,rfl,ZU _,by omega⟩
theorem aqu {k j s:Int}{v:af}{r:ae}{x:af×Int×ae}(h:FP k s v r x)(a:j<=k):FP j s v r x:=fun e=>⟨(h e).1,iC (h e).2.1 a,(h e).2.2⟩
theorem ank {v:af}{r:ae}(h:rq v r):rq (af.mk 10 0 [] [] [] [] []) r:=⟨h.1,h.2.1,(kE 10 0 [] u0).1,by have:=h.2.2.2;have:=xM v;rw[Jk];omega⟩
theorem ar2 {c d:ah}{n:Int}(h:ig c)(o:0<=n)(p:n<=c.End - c.At)(e:d.End=c.At+n)(a:0<=d.Nodes)(b:d.Nodes<=c.Nodes):AA n c (Et c d)/\(Et c d).At=c.At+n:=by
 have j:=h;obtain⟨⟨l,m,k,g⟩,f,q,i⟩:=h;rw[av5 j au au a b];exact⟨⟨⟨⟨by show 0<=d.End;omega,by show d.End<=c.End;omega,k,g⟩,f,⟨a,by show d.Nodes<=1099511627776;omega⟩,i⟩,rfl,rfl,rfl,rfl,b,by show c.At+n<=d.End;omega⟩,e⟩
theorem aGN (l:List Pair):tV (af.mk 12 0 [] [] l [] [])=1+tPs l:=by simp[tV,tVs,tSs,tRs]
theorem aqZ {a:af}{x:Pair}(g:kV a)(d:oJ (a.Pairs++[x]))(h:j_ x.Key.Kind=true/\kV x.Key)(f:kV x.Val):kV (af.mk 12 0 [] [] (kL (a.Pairs++[x])) [] [])/\tV (af.mk 12 0 [] [] (kL (a.Pairs++[x])) [] [])<=tV a+1+tV x.Key+tV x.Val:=by
 have t1:=ain d;rw[Aw]at t1;simp only[wG,aif]at t1;have t2:=nD a;have t3:=P_ a.Pairs;constructor
 ·have c:=((kK a).1 g).2.2.1;rw[kK];refine⟨⟨u0,fun y b=>absurd b (Qbq)⟩,fun y b=>absurd b (Qbq),fun y b=> ?_,fun y b=>absurd b (Qbq)⟩;have b:y∈kL (a.Pairs++[x]):=b;rcases vN.1 (Ee d b)with e | e
  ·exact c y e
  ·rw[FY.1 e];exact⟨h,f⟩
 ·rw[aGN,P_];omega
abbrev IL (a:Nat):=Oa ((iq a).1) (f_ a) ((iq a).2.1) (iF a) ((iq a).2.2.1) (eG a) ((iq a).2.2.2.1) (fQ a) ((iq a).2.2.2.2.1) (ja a) ((iq a).2.2.2.2.2) (jJ a)
theorem SX (f:Nat)(I:J7 f)(prog:Int)(v:af)(r:ae)(h:f_ (f+1) prog v r):kw (IL f prog v r) (fun x=>FP 0 0 v r x/\(x.2.1=0->x.2.2.c.At=x.2.2.c.End)):=
 by
 obtain⟨m,z,h3⟩:=h;have D:=m.2.1 _ (getD_mem (d:=aU) (l:=r.p.aO) (i:=prog.toNat) au);unfold IL Oa;simp only[af.dn];refine aX z.1 z.2 (qJ (fun x=>x.1.p=r.p/\AA 0 r.c x.1.c/\kV x.2/\(tV x.2:Int)+0<=tV v+8*(x.1.c.At - r.c.At)) (fun x=>(x.1.c.End - x.1.c.At).toNat) ⟨rfl,afO m.1,m.2.2.1,by dsimp only;omega⟩ (Qdp _) fun x J=> ?_);obtain⟨g,b,o,B⟩:=J;have t:rq x.2 x.1:=aAd m (ZU 0) g b o B;have T:=b.2.2.2.1;refine aI fun Y F=>bQ (fun S=>aj b.1 (aI fun v7 A=>dY (fun a=>ai ⟨g_ a,fun e=>absurd e a⟩) fun H=> ?_)) (fun G=>ai ⟨fun _=>⟨g,b,o,B⟩,fun _=>at_end b.1 (F▸G)⟩);rw[A]at H⊢;obtain⟨n,u2⟩:=qF b.1 H;have P:=aaO b.1;have E:=aaB b.1;have C:=aoT b.1;generalize dZ x.1.c=c at*;have uD:=n.2.2.2.1;have uE:=n.2.2.1;have Z:=n.2.2.2.2.2.2;refine bP (fun y=>y=(x.1,x.2)) (fD <| dA (fun _ y=>y=(x.1,x.2)) rfl (by have:=D.1;omega) (fun i y O j=> ?_) fun y j=>ai j) fun y j=> ?_
 ·subst j;have K:=D.2 _ (getD_mem (d:=vk) O);have R:rq x.2 (ae.mk x.1.p c.2.2.1):=⟨n.1,by show mf x.1.p;rw[g];exact m.2.1,o,by have:=t.2.2.2;show(tV x.2:Int)+8*(c.2.2.1.End - c.2.2.1.At)<=1048576;omega⟩;have u:iF f (r.p.aO.getD prog.toNat aU) x.2 ((r.p.aO.getD prog.toNat aU).Ops.getD i vk) c.2.1 (ae.mk x.1.p c.2.2.1):=⟨R,by show alS x.1.p _;rw[g];exact K,by show 5*c.2.2.1.Depth+4<=(f:Int);omega⟩;have k:=I.2.1 _ _ _ _ _ u;refine aX au au (dY (fun _=>ai rfl) fun _=>aj u (dY (fun a=>ai ⟨g_ a,fun e=>absurd e a⟩) fun L=>ai ?_));obtain⟨f1,f2,f3,f4⟩:=k L;dsimp only;generalize (iq f).2.1 (r.p.aO.getD prog.toNat aU) x.2 ((r.p.aO.getD prog.toNat aU).Ops.getD i vk) c.2.1 (ae.mk x.1.p c.2.2.1)=w at*;have f7:c.2.2.1.At+0<=w.2.2.c.At:=f2.2.2.2.2.2.2;have fE:w.2.2.c.End=c.2.2.1.End:=f2.2.2.1;have fL:=f2.1.1.2.1;have f4:(tV w.1:Int)+0<=tV x.2+8*(w.2.2.c.At - c.2.2.1.At):=f4;have Q:AA 1 x.1.c w.2.2.c:=iC (iM n f2) jy;exact⟨⟨f1.trans g,iC (iM b Q) jy,f3,by show(tV w.1:Int)+0<=tV v+8*(w.2.2.c.At - r.c.At);omega⟩,by show(w.2.2.c.End - w.2.2.c.At).toNat < (x.1.c.End - x.1.c.At).toNat;omega⟩
 ·subst j;refine aj b.1 (aI fun V M=>dY (fun a=>ai ⟨g_ a,fun e=>absurd e a⟩) fun s=>aj (sK t).1 (ai ?_));rw[M]at s⊢;have q:=P s;have X:=E s;have N:=C s;generalize lg x.1.c=p at*;have W:=q.2.2.1;have U:=q.2.2.2.2.2.2;have nL:=q.1.1.2.1;exact⟨⟨g,iC (iM b q) jy,Xq o N,by show(tV (qX x.2 p.1):Int)+0<=tV v+8*(p.2.1.At - r.c.At);rw[XH];omega⟩,by show(p.2.1.End - p.2.1.At).toNat < (x.1.c.End - x.1.c.At).toNat;omega⟩
abbrev zy (a:Nat):=Y7 ((iq a).1) (f_ a) ((iq a).2.1) (iF a) ((iq a).2.2.1) (eG a) ((iq a).2.2.2.1) (fQ a) ((iq a).2.2.2.2.1) (ja a) ((iq a).2.2.2.2.2) (jJ a)
theorem X6 (c:Nat)(f:J7 c)(g:bC)(v:af)(o:Op)(w:Int)(r:ae)(h:iF (c+1) g v o w r):kw (zy c g v o w r) (FP 0 0 v r):=
 by
 obtain⟨b,a,n⟩:=h;unfold zy Y7;simp only[af.dn];refine dR (fun d=>dY (fun _=>ai (g_ qcf)) fun _=>aj ⟨b,a,d,by omega⟩ (ai (f.2.2.2.2.1 _ _ _ _ ⟨b,a,d,by omega⟩))) fun d=>aI fun l i=>aI fun m k=> ?_;refine dR (fun _=>dL (fun _=>aj ⟨b,a.2.2⟩ (aI fun p j=>ai (by rw[j];exact(abJ g v o r ⟨b,a.2.2⟩).2))) (fun _=> ?_)) (fun _=> ?_);all_goals exact dY (fun _=>ai (g_ qcf)) fun _=>dR (fun e=>aj ⟨b,a.1 e,by omega⟩ (ai (f.2.2.2.1 _ _ _ _ ⟨b,a.1 e,by omega⟩))) fun _=>aj ⟨b,a.2.2⟩ (ai (by rw[i];exact aqu (Lt g v o r ⟨b,a.2.2⟩).2 jy))
abbrev vY (a:Nat):=NC ((iq a).1) (f_ a) ((iq a).2.1) (iF a) ((iq a).2.2.1) (eG a) ((iq a).2.2.2.1) (fQ a) ((iq a).2.2.2.2.1) (ja a) ((iq a).2.2.2.2.2) (jJ a)
theorem Rh (j:Nat)(J:J7 j)(prog:Int)(b:af)(f:Int)(r:ae)(h:eG (j+1) prog b f r):kw (vY j prog b f r) (FP 0 8 b r):=
 by
 obtain⟨l,B,Z⟩:=h;have m:=l.1;unfold vY NC;simp only[af.dn];refine aj m (aI fun L x=>dY (fun e=>ai (g_ e)) fun u=> ?_);rw[x]at u⊢;obtain⟨l1,X,n,W,Y⟩:=mr m u;generalize jb r=a at*;have N:=l1.2.2.2.2.2.2;have O:=l1.2.2.1;have ld:=l1.2.2.2.1;refine aI fun Q t=>dY (fun e=>ai (g_ e)) fun p=> ?_;rw[t]at p⊢;obtain⟨I,D,F,T⟩:=Wx l1.1 p;rw[I];refine aI fun R q=>dY (fun e=>ai (g_ e)) fun v=> ?_;rw[q]at v⊢;have H:ig (ah.mk a.2.2.c.Data a.2.2.c.At (a.2.2.c.At+a.1) (a.2.2.c.Depth - 1) a.2.2.c.Nodes a.2.2.c.Text):=by
  obtain⟨⟨E,U,q3,A⟩,S,z⟩:=l1.1;exact⟨⟨E,by show a.2.2.c.At<=a.2.2.c.At+a.1;omega,by show a.2.2.c.At+a.1<=a.2.2.c.Data.length;omega,A⟩,⟨by show 0<=a.2.2.c.Depth - 1;omega,by show a.2.2.c.Depth - 1<=1048576;omega⟩,z⟩
 obtain⟨k,i,y⟩:=yI (r:=ae.mk a.2.2.p (ah.mk a.2.2.c.Data a.2.2.c.At (a.2.2.c.At+a.1) (a.2.2.c.Depth - 1) a.2.2.c.Nodes a.2.2.c.Text)) H v;dsimp only at k i y⊢;generalize nO f (ae.mk a.2.2.p (ah.mk a.2.2.c.Data a.2.2.c.At (a.2.2.c.At+a.1) (a.2.2.c.Depth - 1) a.2.2.c.Nodes a.2.2.c.Text))=g at*;have P:g.2.c.End=a.2.2.c.At+a.1:=i.2.2.1;have M:g.2.c.Depth=a.2.2.c.Depth - 1:=i.2.2.2.1;have sN:g.2.c.Nodes<=a.2.2.c.Nodes:=i.2.2.2.2.2.1;have s:f_ j prog b g.2:=⟨⟨i.1,by rw[k,n];exact l.2.1,l.2.2.1,by have:=l.2.2.2;omega⟩,by rw[k,n];exact B,by omega⟩;obtain⟨K,C⟩:=J.1 prog b g.2 s;refine aj s (dY (fun e=>ai (g_ e)) fun w=>ai fun _=> ?_);obtain⟨f1,f2,f3,f4⟩:=K w;have f5:=C w;dsimp only;generalize (iq j).1 prog b g.2=o at*;have fE:=f2.2.2.1;have V:=f2.2.2.2.2.2.1;have f0:=f2.1.2.2.1.1;obtain⟨G,g2⟩:=ar2 (c:=a.2.2.c) (d:=o.2.2.c) l1.1 D F au f0 au;refine⟨f1.trans (k.trans n),iC (iM l1 G) au,f3,?_⟩;show(tV o.1:Int)+8<=tV b+8*((Et a.2.2.c o.2.2.c).At - r.c.At)
 omega
abbrev vU (a:Nat):=LQ ((iq a).1) (f_ a) ((iq a).2.1) (iF a) ((iq a).2.2.1) (eG a) ((iq a).2.2.2.1) (fQ a) ((iq a).2.2.2.2.1) (ja a) ((iq a).2.2.2.2.2) (jJ a)
theorem SS (c:Nat)(z:J7 c)(g:bC)(v:af)(o:Op)(r:ae)(h:fQ (c+1) g v o r):kw (vU c g v o r) (FP 0 0 v r):=
 by
 obtain⟨a,s,C⟩:=h;have f:=sK a;have A:=C_ a o.Num;have u:=ank a;have t4:=IB (v:=v) (num:=o.Num);unfold vU LQ;simp only[af.dn];refine aI fun m d=>dR (fun B=>bP (fun _=>True) (dL (fun _=>ai trivial) (fun _=>ai trivial)) fun t _=> ?_) (fun B=>bP (fun y=>(m.2=true/\y=m.1)\/(m.2=false/\y=af.mk 10 0 [] [] [] [] [])) (dL (fun e=>ai (.inr ⟨by simpa using e,rfl⟩)) (fun e=>ai (.inl ⟨by simpa using e,rfl⟩))) fun y q=> ?_)
 ·have j:eG c o.Target (af.mk 10 0 [] [] [] [] []) t r:=⟨u,s,by omega⟩;have k:=z.2.2.1 _ _ _ _ j;refine aj j (dY (fun i=>ai (g_ i)) fun n=> ?_);obtain⟨f1,f2,f3,f4⟩:=k n;generalize (iq c).2.2.1 o.Target (af.mk 10 0 [] [] [] [] []) t r=w at*;rw[d];refine aj A.1 (aj f.2.1 (ai fun _=>⟨f1,f2,G8 f.2.1 a.2.2.1 (PR (Be a.2.2.1) f3),?_⟩));show(tV (ut g v o (pJ (dG v o.Num).1 w.1)):Int)+0<=tV v+8*(w.2.2.c.At - r.c.At)
  have t2:=Hf (g:=g) (v:=v) (o:=o) (x:=pJ (dG v o.Num).1 w.1) f.2.1;have t3:=PQ (l:=(dG v o.Num).1) (x:=w.1);rw[Jk]at f4;cases b:(dG v o.Num).2 with
  | true=>rw[b]at t2;simp only[cond_true]at t2;omega
  | false=>have:=t4.2 b;rw[b]at t2;simp only[jm]at t2;omega
 ·have p:rq y r:=by
   rcases q with⟨_,rfl⟩ | ⟨_,rfl⟩
   ·rw[d];exact⟨a.1,a.2.1,Be a.2.2.1,by have:=a.2.2.2;omega⟩
   ·exact u
  have j:eG c o.Target y 1 r:=⟨p,s,by omega⟩;have k:=z.2.2.1 _ _ _ _ j;refine aj j (dY (fun i=>ai (g_ i)) fun n=> ?_);obtain⟨f1,f2,f3,f4⟩:=k n;generalize (iq c).2.2.1 o.Target y 1 r=w at*;refine aj f.2.1 (ai fun _=>⟨f1,f2,G8 f.2.1 a.2.2.1 f3,?_⟩);show(tV (ut g v o w.1):Int)+0<=tV v+8*(w.2.2.c.At - r.c.At)
  have t2:=Hf (g:=g) (v:=v) (o:=o) (x:=w.1) f.2.1;rcases q with⟨b,rfl⟩ | ⟨b,rfl⟩
  ·rw[d]at b f4;rw[b]at t2;simp only[cond_true]at t2;omega
  ·rw[d]at b;rw[Jk]at f4;rw[b]at t2;simp only[jm]at t2;omega
abbrev zG (a:Nat):=Ya ((iq a).1) (f_ a) ((iq a).2.1) (iF a) ((iq a).2.2.1) (eG a) ((iq a).2.2.2.1) (fQ a) ((iq a).2.2.2.2.1) (ja a) ((iq a).2.2.2.2.2) (jJ a)
theorem Yz (d:Nat)(W:J7 d)(g:bC)(v:af)(o:Op)(r:ae)(h:ja (d+1) g v o r):kw (zG d g v o r) (FP 0 0 v r):=
 by
 obtain⟨l,t,G,h4⟩:=h;have M:=sK l;have hf:=C_ l o.Num;have n:=l.1;have hb:=l.2.2.2;have t4:=IB (v:=v) (num:=o.Num);unfold zG Ya;simp only[af.dn];refine aj n (aI fun v4 R=>dY (fun c=>ai (g_ c)) fun S=> ?_);rw[R]at S⊢;obtain⟨l1,l2,l3,L,K⟩:=mr n S;generalize jb r=a at*;have l7:=l1.2.2.2.2.2.2;have le:=l1.2.2.1;have ld:=l1.2.2.2.1;have hc:=Ou l1.1 L K;rw[Cb l1.1 L K];refine aI fun v5 V=>bP (fun _=>True) (dL (fun _=>ai trivial) (fun _=>ai trivial)) fun y1 _=>aI fun v6 Z=>dY (fun c=>ai (g_ c)) fun m=> ?_;rw[Z]at m⊢;obtain⟨T,I,Y⟩:=yI (r:=ae.mk a.2.2.p (oh a.2.2.c a.1)) hc m;dsimp only at T I Y⊢;generalize nO y1 (ae.mk a.2.2.p (oh a.2.2.c a.1))=N at*;have D:(oh a.2.2.c a.1).At=a.2.2.c.At:=rfl;have O:(oh a.2.2.c a.1).End=a.2.2.c.At+a.1:=rfl;have eD:(oh a.2.2.c a.1).Depth=a.2.2.c.Depth:=rfl;rw[D]at Y;have sE:=I.2.2.1;rw[O]at sE;have h0:=n.1.1;have k1:=(kE o.Kind 0 [] u0).2;have k2:=(kE o.Key 0 [] u0).2;simp only[BP]at k1 k2;refine qJ (fun x=>x.2.2.1.p=r.p/\AA 0 (oh a.2.2.c a.1) x.2.2.1.c/\(j_ x.2.2.2.Key.Kind=true/\kV x.2.2.2.Key)/\kV x.2.2.2.Val/\(tV x.2.2.2.Key:Int)+tV x.2.2.2.Val<=2+8*(x.2.2.1.c.At - a.2.2.c.At)) (fun x=>(x.2.2.1.c.End - x.2.2.1.c.At).toNat) ⟨T.trans l3,I,⟨t.2.1 G,(kE o.Key 0 [] u0).1⟩,(kE o.Kind 0 [] u0).1,by show(tV (af.mk o.Key 0 [] [] [] [] []):Int)+tV (af.mk o.Kind 0 [] [] [] [] [])<=2+8*(N.2.c.At - a.2.2.c.At);omega⟩ (by show(N.2.c.End - N.2.c.At).toNat < (r.c.End - r.c.At).toNat+1;omega) fun x hx=> ?_;obtain⟨z,i,H,Q,x5⟩:=hx;have xE:=i.2.2.1;have xA:=i.2.2.2.2.2.2;have xD:=i.2.2.2.1;rw[O]at xE;rw[D]at xA;rw[eD]at xD;refine aI fun v7 P=>bQ (fun hlt=>aj i.1 (aI fun v8 Vx=>bP (fun _=>v8.2.2.2=0) ?_ fun y3 E=> ?_)) (fun F=> ?_)
 ·refine dY (fun c=>ai (g_ c)) fun e0=> ?_;repeat' first
   | exact ai e0
   | exact ai (g_ (by show ¬(18:Int)=0;decide))
   | exact ai (g_ (by show ¬(9:Int)=0;decide))
   | refine dY (fun _=> ?_) (fun _=> ?_)
   | refine dR (fun _=> ?_) (fun _=> ?_)
   | refine dL (fun _=> ?_) (fun _=> ?_)
 ·rw[Vx]at E⊢;obtain⟨s,u2⟩:=qF i.1 E;generalize dZ x.2.2.1.c=b at*;have uD:=s.2.2.2.1;have uE:=s.2.2.1;have uA:=s.2.2.2.2.2.2;have hr:rq (af.mk 10 0 [] [] [] [] []) (ae.mk x.2.2.1.p b.2.2.1):=⟨s.1,by show mf x.2.2.1.p;rw[z];exact l.2.1,(kE 10 0 [] u0).1,by rw[Jk];show((1:Nat):Int)+8*(b.2.2.1.End - b.2.2.1.At)<=1048576;have:=xM v;omega⟩;have B:∀(w:af×Int×ae) (q u:af),w.2.2.p=x.2.2.1.p->AA 0 b.2.2.1 w.2.2.c->(j_ q.Kind=true/\kV q)->kV u->(tV q:Int)+tV u<=2+8*(w.2.2.c.At - a.2.2.c.At)->(fun x=>x.2.2.1.p=r.p/\AA 0 (oh a.2.2.c a.1) x.2.2.1.c/\(j_ x.2.2.2.Key.Kind=true/\kV x.2.2.2.Key)/\kV x.2.2.2.Val/\(tV x.2.2.2.Key:Int)+tV x.2.2.2.Val<=2+8*(x.2.2.1.c.At - a.2.2.c.At)) ((true,true,w.2.2,Pair.mk q u):Bool×Bool×ae×Pair)/\(w.2.2.c.End - w.2.2.c.At).toNat < (x.2.2.1.c.End - x.2.2.1.c.At).toNat:=fun w q u a1 a2 a3 a4 a5=>by
   have A:AA 1 x.2.2.1.c w.2.2.c:=iC (iM s a2) jy;have aE:=A.2.2.1;have aA:=A.2.2.2.2.2.2;have aL:=A.1.1.2.1;exact⟨⟨a1.trans z,iC (iM i A) jy,a3,a4,a5⟩,by omega⟩
  refine dR (fun hk=> ?_) (fun hk=> ?_)
  ·have p:jJ d (Op.mk 0 [] [] 0 0 o.Key (-1) 0) b.2.1 (ae.mk x.2.2.1.p b.2.2.1):=⟨hr,fun j=>(by
    have f:o.Key=10:=j;have:=t.2.1 G;rw[f]at this;exact absurd this jy),by show 5*b.2.2.1.Depth+2<=(d:Int);omega⟩
   have k:=W.2.2.2.2.2 _ _ _ p;refine aj p (dY (fun c=>ai (g_ c)) fun J=>ai ?_);obtain⟨f1,f2,f3,f4,f5⟩:=k J;generalize (iq d).2.2.2.2.2 (Op.mk 0 [] [] 0 0 o.Key (-1) 0) b.2.1 (ae.mk x.2.2.1.p b.2.2.1)=w at*;have f4:(tV w.1:Int)<=8*(w.2.2.c.At - b.2.2.1.At):=f4;have f7:b.2.2.1.At+0<=w.2.2.c.At:=f2.2.2.2.2.2.2;refine B w w.1 x.2.2.2.Val f1 f2 ⟨f5 fun f=> ?_,f3⟩ Q (by have:=xM x.2.2.2.Key;omega);have f:o.Key=10:=f;have:=t.2.1 G;rw[f]at this;exact absurd this jy
  ·have p:jJ d o b.2.1 (ae.mk x.2.2.1.p b.2.2.1):=⟨hr,fun j=>by show 0<=o.Target/\o.Target < x.2.2.1.p.aO.length;rw[z];exact t.1 j,by show 5*b.2.2.1.Depth+2<=(d:Int);omega⟩;have k:=W.2.2.2.2.2 _ _ _ p;refine aj p (dY (fun c=>ai (g_ c)) fun J=>ai ?_);obtain⟨f1,f2,f3,f4,f5⟩:=k J;generalize (iq d).2.2.2.2.2 o b.2.1 (ae.mk x.2.2.1.p b.2.2.1)=w at*;have f4:(tV w.1:Int)<=8*(w.2.2.c.At - b.2.2.1.At):=f4;have f7:b.2.2.1.At+0<=w.2.2.c.At:=f2.2.2.2.2.2.2;exact B w x.2.2.2.Key w.1 f1 f2 H f3 (by have:=xM x.2.2.2.Val;omega)
 ·rw[P]at F;have hend:=at_end i.1 F;have X:=VG l1.1 L K i;have hpl:=aeT (dG v o.Num).1.Pairs;have ht:=nD (dG v o.Num).1;have C:oJ ((dG v o.Num).1.Pairs++[x.2.2.2]):=⟨by simp only[tK,zx,BP];omega,fun y hy=>(vN.1 hy).elim (hf.2.2 y) fun e=>by rw[FY.1 e];exact H.1⟩;obtain⟨q1,q2⟩:=aqZ (Be l.2.2.1) C H Q;have ep:Pair.mk x.2.2.2.Key x.2.2.2.Val=x.2.2.2:=Pair.eta _;rw[V,ep];refine fD <| aj kM (aI fun v9 U=> ?_)
  rw[U,JG];refine aj ?_ (aI fun v10 Px=> ?_)
  ·first
    | exact⟨by decide,dw au au⟩
    | exact⟨trivial,dw au au⟩
    | exact dw au au
  rw[Px];refine aj C (aj M.2.1 (ai fun _=>⟨z,iC (iM l1 X) au,G8 M.2.1 l.2.2.1 q1,?_⟩));show(tV (ut g v o (af.mk 12 0 [] [] (kL ((dG v o.Num).1.Pairs++[x.2.2.2])) [] [])):Int)+0<=tV v+8*(x.2.2.1.c.End - r.c.At)
  have t2:=Hf (g:=g) (v:=v) (o:=o) (x:=af.mk 12 0 [] [] (kL ((dG v o.Num).1.Pairs++[x.2.2.2])) [] []) M.2.1;cases m:(dG v o.Num).2 with
  | true=>rw[m]at t2;simp only[cond_true]at t2;omega
  | false=>have:=t4.2 m;rw[m]at t2;simp only[jm]at t2;omega
abbrev DV (a:Nat):=aih ((iq a).1) (f_ a) ((iq a).2.1) (iF a) ((iq a).2.2.1) (eG a) ((iq a).2.2.2.1) (fQ a) ((iq a).2.2.2.2.1) (ja a) ((iq a).2.2.2.2.2) (jJ a)
theorem aaT (a:Nat)(t:J7 a)(o:Op)(w:Int)(r:ae)(h:jJ (a+1) o w r):kw (DV a o w r) (fun x=>x.2.1=0->x.2.2.p=r.p/\AA 0 r.c x.2.2.c/\kV x.1/\(tV x.1:Int)<=8*(x.2.2.c.At - r.c.At)/\(¬o.Kind=10->j_ x.1.Kind=true)):=
 by
 obtain⟨b,m,D⟩:=h;unfold DV aih;simp only[af.dn];refine dY (fun _=>ai (fun e=>absurd e qcf)) fun _=>dR (fun c=> ?_) (fun c=>aj b.1 (aI fun y j=>dY (fun d=>ai (fun e=>absurd e d)) fun i=> ?_))
 ·have f:eG a o.Target (af.mk 10 0 [] [] [] [] []) 0 r:=⟨b,m c,by omega⟩;refine aj f (ai fun e=> ?_);obtain⟨f1,f2,f3,f4⟩:=t.2.2.1 _ _ _ _ f e;rw[Jk]at f4;exact⟨f1,f2,f3,by dsimp only;omega,fun v=>absurd c v⟩
 ·rw[j]at i⊢;obtain⟨s,n,C,q,_⟩:=wI b.1 i;have p:=Aj (wire:=w) b.1;generalize gq w r=z at*;refine aj q (aI fun A g=>ai fun e=> ?_);rw[g]at e⊢;obtain⟨B,k,u,l⟩:=WP p e;exact⟨n,iC s jy,k,by dsimp only;omega,fun _=>by dsimp only;rw[u];exact l⟩
theorem oV:∀a,J7 a
 | 0=>⟨fun prog v r h=>False.elim qbt,
  fun g v o w r h=>False.elim qbt,
  fun prog c b r h=>False.elim qbt,
  fun g v o r h=>False.elim qbt,
  fun g v o r h=>False.elim (by have k:=h.1.1.2.1.1;have e:=h.2.2.2;omega),
  fun o w r h=>False.elim qbt⟩
 | a+1=>⟨fun prog v r h=>(SX a (oV a) prog v r h).2,
  fun g v o w r h=>(X6 a (oV a) g v o w r h).2,
  fun prog c b r h=>(Rh a (oV a) prog c b r h).2,
  fun g v o r h=>(SS a (oV a) g v o r h).2,
  fun g v o r h=>(Yz a (oV a) g v o r h).2,
  fun o w r h=>(aaT a (oV a) o w r h).2⟩
theorem ajO (a:Nat)(prog:Int)(v:af)(r:ae)(h:f_ (a+1) prog v r):Is (IL a prog v r):=(SX a (oV a) prog v r h).1
theorem ast (a:Nat)(g:bC)(v:af)(o:Op)(w:Int)(r:ae)(h:iF (a+1) g v o w r):Is (zy a g v o w r):=(X6 a (oV a) g v o w r h).1
theorem ams (c:Nat)(prog:Int)(b:af)(a:Int)(r:ae)(h:eG (c+1) prog b a r):Is (vY c prog b a r):=(Rh c (oV c) prog b a r h).1
theorem alY (a:Nat)(g:bC)(v:af)(o:Op)(r:ae)(h:fQ (a+1) g v o r):Is (vU a g v o r):=(SS a (oV a) g v o r h).1
theorem asD (a:Nat)(g:bC)(v:af)(o:Op)(r:ae)(h:ja (a+1) g v o r):Is (zG a g v o r):=(Yz a (oV a) g v o r h).1
theorem avI (a:Nat)(o:Op)(w:Int)(r:ae)(h:jJ (a+1) o w r):Is (DV a o w r):=(aaT a (oV a) o w r h).1
theorem Jp (prog:Int)(v:af)(r:ae)(h:rq v r/\(0<=prog/\prog < r.p.aO.length)):(fun x=>FP 0 0 v r x/\(x.2.1=0->x.2.2.c.At=x.2.2.c.End)) (Y4 prog v r):=(oV ((5*r.c.Depth+5).toNat)).1 prog v r (⟨h.1,h.2,by have k:=h.1.1.2.1.1;omega⟩)
theorem aCI:∀b,fK Z.P Z.S 115 (xK (lH (ax (lm 0) (ax (df cI) (a1 (aQ aH)))) (b1 (cZ a_))) (shr [.slot 0 true (nn 7), s0 1, .cells 0 (nn 8)] (aC aH (aC cI (l1 a_)))) 2 [] (fun a=>some (f_ b (a.1.2.1) (a.1.2.2) (a.2))) (fun a=>(iq b).1 (a.1.2.1) (a.1.2.2) (a.2)))/\fK Z.P Z.S 191 (xK (lH (ax (lm 0) (ax (aQ jV) (ax (aQ aH) (ax (aQ jD) (a1 (df cI)))))) (b1 (cZ a_))) (shr [.slot 0 true (nn 7), s0 1, .cells 0 (nn 8)] (aC aH (aC cI (l1 a_)))) 2 [] (fun a=>some (iF b (a.1.2.1) (a.1.2.2.1) (a.1.2.2.2.1) (a.1.2.2.2.2) (a.2))) (fun a=>(iq b).2.1 (a.1.2.1) (a.1.2.2.1) (a.1.2.2.2.1) (a.1.2.2.2.2) (a.2)))/\fK Z.P Z.S 353 (xK (lH (ax (lm 0) (ax (df cI) (ax (aQ aH) (a1 (df cI))))) (b1 (cZ a_))) (shr [.slot 0 true (nn 7), s0 1, .cells 0 (nn 8)] (aC aH (aC cI (l1 a_)))) 2 [] (fun a=>some (eG b (a.1.2.1) (a.1.2.2.1) (a.1.2.2.2) (a.2))) (fun a=>(iq b).2.2.1 (a.1.2.1) (a.1.2.2.1) (a.1.2.2.2) (a.2)))/\fK Z.P Z.S 267 (xK (lH (ax (lm 0) (ax (aQ jV) (ax (aQ aH) (a1 (aQ jD))))) (b1 (cZ a_))) (shr [.slot 0 true (nn 7), s0 1, .cells 0 (nn 8)] (aC aH (aC cI (l1 a_)))) 2 [] (fun a=>some (fQ b (a.1.2.1) (a.1.2.2.1) (a.1.2.2.2) (a.2))) (fun a=>(iq b).2.2.2.1 (a.1.2.1) (a.1.2.2.1) (a.1.2.2.2) (a.2)))/\fK Z.P Z.S 263 (xK (lH (ax (lm 0) (ax (aQ jV) (ax (aQ aH) (a1 (aQ jD))))) (b1 (cZ a_))) (shr [.slot 0 true (nn 7), s0 1, .cells 0 (nn 8)] (aC aH (aC cI (l1 a_)))) 2 [] (fun a=>some (ja b (a.1.2.1) (a.1.2.2.1) (a.1.2.2.2) (a.2))) (fun a=>(iq b).2.2.2.2.1 (a.1.2.1) (a.1.2.2.1) (a.1.2.2.2) (a.2)))/\fK Z.P Z.S 348 (xK (lH (ax (lm 0) (ax (aQ jD) (a1 (df cI)))) (b1 (cZ a_))) (shr [.slot 0 true (nn 7), s0 1, .cells 0 (nn 8)] (aC aH (aC cI (l1 a_)))) 2 [] (fun a=>some (jJ b (a.1.2.1) (a.1.2.2) (a.2))) (fun a=>(iq b).2.2.2.2.2 (a.1.2.1) (a.1.2.2) (a.2)))
 | 0=>⟨jU func115 fO (fun a h=>by have k:=h.1.1.2.1.1;have e:=h.2.2;omega),
  jU func191 fO (fun a h=>by have k:=h.1.1.2.1.1;have e:=h.2.2;omega),
  jU func353 fO (fun a h=>by have k:=h.1.1.2.1.1;have e:=h.2.2;omega),
  jU func267 fO (fun a h=>by have k:=h.1.1.2.1.1;have e:=h.2.2;omega),
  jU func263 fO (fun a h=>by have k:=h.1.1.2.1.1;have e:=h.2.2.2;omega),
  jU func348 fO (fun a h=>by have k:=h.1.1.2.1.1;have e:=h.2.2;omega)⟩
 | b+1=>by
  obtain⟨i,j,g,f,d,l⟩:=aCI b;exact⟨Um [Au,alA,aBa,aiZ,⟨115,_,i⟩,⟨191,_,j⟩,⟨353,_,g⟩,⟨267,_,f⟩,⟨263,_,d⟩,⟨348,_,l⟩] [jS 2 (dh (fun c=>[.cells (pid (c 0)) (nn 8), .cells (pid (c 5)) (nn 7)]) (aC a_ (l1 aH))),jS 8 (dh (fun c=>[s0 49, .cells (pid (c 0)) (nn 8), .cells (pid (c 5)) (nn 7)]) (aC cI (aC a_ (l1 aH)))),jS 100016 (dh (fun c=>[.cells (pid (c 0)) (nn 8), .cells (pid (c 5)) (nn 7)]) (aC a_ (l1 aH)))] func115 ntmps115 (fun a=>IL b a.1.2.1 a.1.2.2 a.2) (fun a h=>⟨ajO b a.1.2.1 a.1.2.2 a.2 h,rfl⟩) (tJ (n:=93) rfl),
   Um [aav,aBm,NL,axw,⟨115,_,i⟩,⟨191,_,j⟩,⟨353,_,g⟩,⟨267,_,f⟩,⟨263,_,d⟩,⟨348,_,l⟩] [] func191 ntmps191 (fun a=>zy b a.1.2.1 a.1.2.2.1 a.1.2.2.2.1 a.1.2.2.2.2 a.2) (fun a h=>⟨ast b a.1.2.1 a.1.2.2.1 a.1.2.2.2.1 a.1.2.2.2.2 a.2 h,rfl⟩) (tJ (n:=64) rfl),
   Um [Gt,I8,au9,avo,⟨115,_,i⟩,⟨191,_,j⟩,⟨353,_,g⟩,⟨267,_,f⟩,⟨263,_,d⟩,⟨348,_,l⟩] [] func353 ntmps353 (fun a=>vY b a.1.2.1 a.1.2.2.1 a.1.2.2.2 a.2) (fun a h=>⟨ams b a.1.2.1 a.1.2.2.1 a.1.2.2.2 a.2 h,rfl⟩) (tJ (n:=68) rfl),
   Um [Md,ad1,abT,⟨115,_,i⟩,⟨191,_,j⟩,⟨353,_,g⟩,⟨267,_,f⟩,⟨263,_,d⟩,⟨348,_,l⟩] [jS 100007 (dh (fun c=>[s0 13]) (l1 cI)),jS 100013 (dh (fun c=>[.cells (pid (c 10)) (nn 7)]) (l1 aH))] func267 ntmps267 (fun a=>vU b a.1.2.1 a.1.2.2.1 a.1.2.2.2 a.2) (fun a h=>⟨alY b a.1.2.1 a.1.2.2.1 a.1.2.2.2 a.2 h,rfl⟩) (tJ (n:=71) rfl),
   Um [Gt,Md,Au,alA,aiG,I8,anO,abP,ad1,⟨115,_,i⟩,⟨191,_,j⟩,⟨353,_,g⟩,⟨267,_,f⟩,⟨263,_,d⟩,⟨348,_,l⟩] [jS 14 (dh (fun c=>[s0 18, s0 19, .cells (pid (c 0)) (nn 8), .cells (pid (c 17)) (nn 14)]) (aC aW (aC aW (aC a_ (l1 yg))))),jS 100009 (dh (fun c=>[s0 15]) (l1 cI)),jS 100022 (dh (fun c=>[]) l0)] func263 ntmps263 (fun a=>zG b a.1.2.1 a.1.2.2.1 a.1.2.2.2 a.2) (fun a h=>⟨asD b a.1.2.1 a.1.2.2.1 a.1.2.2.2 a.2 h,rfl⟩) (tJ (n:=153) rfl),
   Um [NL,SC,aaL,⟨115,_,i⟩,⟨191,_,j⟩,⟨353,_,g⟩,⟨267,_,f⟩,⟨263,_,d⟩,⟨348,_,l⟩] [] func348 ntmps348 (fun a=>DV b a.1.2.1 a.1.2.2 a.2) (fun a h=>⟨avI b a.1.2.1 a.1.2.2 a.2 h,rfl⟩) (tJ (n:=44) rfl)⟩
def aq9:bT Z:=⟨115,xK (lH (ax (lm 0) (ax (df cI) (a1 (aQ aH)))) (b1 (cZ a_))) (shr [.slot 0 true (nn 7), s0 1, .cells 0 (nn 8)] (aC aH (aC cI (l1 a_)))) 2 [] (fun a=>some (rq (a.1.2.2) (a.2)/\(0<=(a.1.2.1)/\(a.1.2.1) < (a.2).p.aO.length))) (fun a=>Y4 (a.1.2.1) (a.1.2.2) (a.2)),uM (fun n=>((aCI n).1)) _ _ (fun a h=>⟨(5*(a.2).c.Depth+5).toNat,⟨h.1,h.2,by have k:=h.1.1.2.1.1;omega⟩,rfl⟩)⟩
def atz (a:Str)(l:jW):Pg (ah×Int):=.br (decide (l.Bytes < 0)) (.ret (ah.mk [] 0 0 0 0 0,1)) (.br (decide (l.Depth < 0)) (.ret (ah.mk [] 0 0 0 0 0,1)) (.br (decide (l.Nodes < 0)) (.ret (ah.mk [] 0 0 0 0 0,1)) (.br (decide (l.Text < 0)) (.ret (ah.mk [] 0 0 0 0 0,1)) (.as (List.length a<=9223372036854775807) (.br (decide (l.Bytes < (↑(List.length a):Int))) (.ret (ah.mk [] 0 0 0 0 0,3)) (.as (List.length a<=9223372036854775807) (.ret (ah.mk a 0 (↑(List.length a):Int) l.Depth l.Nodes l.Text,0))))))))
def KE (a:Str)(l:jW):=(atz a l).val
def azK:bT Z:=E0 [] [] (ax (df cStr) (a1 (aQ qZ))) (shr [.slot 0 true (nn 6), s0 1] (aC aP (l1 cI))) [] func113 2 (u2 atz)
def awQ:Pg jW:=.ret (jW.mk 65536 16 4096 4096)
def qY:jW:=(awQ).val
def atI:bT Z:=E0 [] [] a0 (shr [.slot 0 true (nn 4)] (l1 qZ)) [] func33 1 fun a=>awQ
def okL (l:jW):Prop:=l.Bytes<=65536/\l.Depth<=1048576/\l.Nodes<=1099511627776/\l.Text<=1099511627776
theorem XE:okL qY:=by
 show okL (jW.mk 65536 16 4096 4096)
 exact⟨by decide,by decide,by decide,by decide⟩
theorem af9 {a:Str}{l:jW}(j:okL l)(b:(KE a l).2=0):ig (KE a l).1/\(KE a l).1.At=0/\(KE a l).1.End=a.length/\a.length<=65536:=by
 obtain⟨l1,i,k,h⟩:=j;unfold KE atz at b⊢;simp only[gm,aN,ay]at b⊢;by_cases f:l.Bytes < 0
 ·rw[jK f]at b;cases b
 rw[jF f]at b⊢;by_cases e:l.Depth < 0
 ·rw[jK e]at b;cases b
 rw[jF e]at b⊢;by_cases d:l.Nodes < 0
 ·rw[jK d]at b;cases b
 rw[jF d]at b⊢;by_cases c:l.Text < 0
 ·rw[jK c]at b;cases b
 rw[jF c]at b⊢;by_cases g:l.Bytes < (a.length:Int)
 ·rw[jK g]at b;cases b
 rw[jF g];exact⟨⟨⟨by show(0:Int)<=0;omega,by show(0:Int)<=a.length;omega,by show(a.length:Int)<=a.length;omega,by show a.length<=1048576;omega⟩,⟨by show 0<=l.Depth;omega,i⟩,⟨by show 0<=l.Nodes;omega,k⟩,by show 0<=l.Text;omega,h⟩,rfl,rfl,by omega⟩
theorem MC {p:aJ}{name:Str}(h:(nU p name).2=true):0<=(nU p name).1/\(nU p name).1 < p.aO.length:=by
 have a:=(kU (fun(x:bC)=>afy x name) p.aO).1;unfold nU ait at h⊢;simp only[bF,ay]at h⊢;have h:=EU h;omega
def acm (p:aJ)(g:Str)(b:af)(f:Str)(l:jW):Pg (af×Int):=.lt (nU p g) fun c=> .br (!c.2) (.ret (af.mk 0 0 [] [] [] [] [],10)) (.br (b.Kind !=10) (.ret (af.mk 0 0 [] [] [] [] [],12)) (.lt (KE f l) fun a=> .br (a.2 !=0) (.ret (af.mk 0 0 [] [] [] [] [],a.2)) (.br (decide (a.1.Depth < 1)) (.ret (af.mk 0 0 [] [] [] [] [],17)) (.lt (nO 1 (ae.mk p (ah.mk a.1.Data a.1.At a.1.End (bJ .i64 (a.1.Depth - 1)) a.1.Nodes a.1.Text))) fun d=> .br (d.1 !=0) (.ret (af.mk 0 0 [] [] [] [] [],d.1)) (.ob (rq b.re d.2/\0<=c.1/\c.1 < (↑d.2.p.aO.length:Int)) (.lt (Y4 c.1 b.re d.2) fun e=> .br (e.2.1 !=0) (.ret (af.mk 0 0 [] [] [] [] [],e.2.1)) (.ob (gV e.1.re) (.ret ((P6 p c.1 e.1.re).re,0)))))))))
def aDI (p:aJ)(b:Str)(a:af)(c:Str)(l:jW):=(acm p b a c l).val
theorem PY (p:aJ)(name:Str)(a:af)(c:Str)(l:jW)(h:mf p/\okL l/\kV a/\tV a<=1024):kw (acm p name a c l) (fun x=>x.2=0->kV x.1/\tV x.1<=tV a+8*c.length/\(nU p name).2=true/\c.length<=65536):=
 by
 obtain⟨H,N,A,S⟩:=h;unfold acm;simp only[af.dn];have i:∀{e:Int} (u:¬e=0),(fun x:af×Int=>x.2=0->kV x.1/\tV x.1<=tV a+8*c.length/\(nU p name).2=true/\c.length<=65536) (af.mk 0 0 [] [] [] [] [],e):=fun u R=>absurd R u
 refine aI fun f o=>dL (fun _=>ai (i jy)) fun O=>dY (fun _=>ai (i jy)) fun V=>aI fun U m=>dY (fun d=>ai (i d)) fun B=>bQ (fun _=>ai (i jy)) fun L=>aI fun g j=>dY (fun d=>ai (i d)) fun D=> ?_;have w:f.2=true:=by simpa using O
 have C:=MC (p:=p) (name:=name) (by rw[<-o];exact w);rw[<-o]at C;rw[m]at B L;obtain⟨Q,X,c3,K⟩:=af9 N B;rw[j,m]at D;rw[m]at j;generalize KE c l=b at*;have P:ig (ah.mk b.1.Data b.1.At b.1.End (bJ .i64 (b.1.Depth - 1)) b.1.Nodes b.1.Text):=by
  obtain⟨J,⟨Y,q3⟩,F⟩:=Q;rw[bY (k:= .i64) p_];exact⟨J,⟨by show 0<=b.1.Depth - 1;omega,by show b.1.Depth - 1<=1048576;omega⟩,F⟩
 obtain⟨n,s,q⟩:=yI (r:=ae.mk p (ah.mk b.1.Data b.1.At b.1.End (bJ .i64 (b.1.Depth - 1)) b.1.Nodes b.1.Text)) P D;rw[<-j]at n s q;have T:g.2.c.End=b.1.End:=s.2.2.1;have q:g.2.c.At=b.1.At:=q;have n:g.2.p=p:=n;have v:rq a g.2/\0<=f.1/\f.1 < (g.2.p.aO.length:Int):=⟨⟨s.1,by rw[n];exact H,A,by omega⟩,by rw[n];exact C⟩;refine aj v (aI fun t y=>dY (fun d=>ai (i d)) fun G=> ?_);obtain⟨E,I⟩:=Jp f.1 a g.2 v;rw[<-y]at E I;obtain⟨f1,f2,f3,f4⟩:=E G;have fE:=f2.2.2.1;have Z:=f2.1.1.2.1;have z:gV t.1:=⟨f3,by omega⟩;obtain⟨M,W⟩:=agE p f.1 t.1 z;exact aj z (ai fun _=>⟨M,by show tV (P6 p f.1 t.1)<=tV a+8*c.length;omega,by rw[<-o];exact w,K⟩)
def az5:bT Z:=E1 [aok,azK,Gt,aq9,aAr] [] (ax (aQ dU) (ax (df cStr) (ax (aQ aH) (ax (df cStr) (a1 (aQ qZ)))))) (shr [.slot 0 true (nn 7), s0 1] (aC aH (l1 cI))) [] func65 2 (fun a=>acm a.1 a.2.1 a.2.2.1 a.2.2.2.1 a.2.2.2.2) (fun a=>mf a.1/\okL a.2.2.2.2/\kV a.2.2.1/\tV a.2.2.1<=1024) fun a h=>(PY a.1 a.2.1 a.2.2.1 a.2.2.2.1 a.2.2.2.2 h).1
def Ce (g:aJ->Int->af->Bool)(sQ:aJ->Int->af->Prop)(p:aJ)(prog:Int)(v:af):Pg Bool:=.ix prog p.aO.length (.as ((p.aO.getD prog.toNat aU).Ops.length<=9223372036854775807) (.each false Ec (p.aO.getD prog.toNat aU).Ops vk (fun e b (k:Unit)=> .ix e (p.aO.getD prog.toNat aU).Ops.length (.lt (dG v.re b.Num) fun c=> .br (!c.2) (.br (b.Card==1) (.ret (.inr false)) (rl ())) (.br (b.Kind !=10) (rl ()) (.ob ((match c.1 with | af.mk i o l n a m q=>a).length<= 1048576) (.lt (wQ c.1.re) fun d=> aL d (.each false Ec d l_ (fun f h (j:Unit)=> .ix f d.length (.ob (sQ p b.Target h.re) (.br (!g p b.Target h.re) (.ret (.inr (.inr false))) (rl ())))) (fun f (j:Unit)=> rl ()) ())))))) (fun e (k:Unit)=> .ret true) ()))
def sQ (a:Nat)(p:aJ)(prog:Int)(v:af):Prop:=mf p/\(0<=prog/\prog < p.aO.length)/\gV v/\tV v<=a
def UL:Nat->(aJ->Int->af->Bool)
 | 0=>(fun _ _ _=>default)
 | a+1=>(fun p prog v=>(Ce ((UL a)) (sQ a) p prog v).val)
def La (p:aJ)(prog:Int)(v:af):Bool:=(UL (tV v)) p prog v
abbrev uy (a:Nat):=Ce ((UL a)) (sQ a)
theorem aef (r:Nat)(p:aJ)(prog:Int)(v:af)(h:sQ (r+1) p prog v):Is (uy r p prog v):=
 by
 obtain⟨u,L,G,M⟩:=h;have F:=u _ (getD_mem (d:=aU) (l:=p.aO) (i:=prog.toNat) au);have K:(dG v 0).1.Pairs.length=(dG v 0).1.Pairs.length:=rfl;unfold uy Ce;simp only[af.dn];refine dJ au au (jH fun _=>jG (.inr au) (fun E D x _=>dJ au au (dm fun c e=>aS (fun _=>bK iR iR) (fun C=>gQ iR (fun H=> ?_)))) (fun D _=>aZ));have m:c.2=true:=by simpa using C
 have B:=F.2 _ (getD_mem (d:=vk) x);have b:gV c.1/\tV c.1 < tV v:=by
  rcases xk v ((p.aO.getD prog.toNat aU).Ops.getD E vk).Num with⟨f,s,y,N,n⟩ | ⟨f,_⟩
  ·rw[<-e]at n;rw[<-n];exact Vh G y
  ·rw[<-e]at f;rw[f]at m;cases m
 have w:=(uS b.1).2.2.2.1;refine bM w (dm fun o t=>jH fun _=>jG (.inr au) (fun k J j _=>dJ au au (bM ?_ (aS iR iR))) (fun J _=>aZ));have a:=(Zf c.1 w).2 _ (by have:=getD_mem (d:=l_) j;rw[t]at this;exact this);have z:gV (o.getD k l_)/\tV (o.getD k l_) < tV v:=by
  rw[t];rcases a with a | ⟨q,A,a⟩ | a
  ·obtain⟨g,I⟩:=TZ b.1 a;exact⟨g,by omega⟩
  ·obtain⟨g,I,_⟩:=HY b.1 A;rw[a];exact⟨g,by omega⟩
  ·rw[a];exact b
 exact⟨u,B.1 H,z.1,by omega⟩
theorem aC5:∀b,fK Z.P Z.S 67 (xK (args (ax (aQ dU) (ax (df cI) (a1 (aQ aH))))) (R1 aW) 1 [] (fun a=>some (sQ b (a.1) (a.2.1) (a.2.2))) (fun a=>(UL b) (a.1) (a.2.1) (a.2.2)))
 | 0=>jU func67 fO (fun a h=>by have k:=h.2.2.2;have:=xM (a.2.2);omega)
 | b+1=>by
  have c:=aC5 b;exact Um [Md,au_,⟨67,_,c⟩] [jS 2 (dh (fun d=>[s0 20]) (l1 cI)),jS 10 (dh (fun d=>[s0 42]) (l1 cI))] func67 ntmps67 (fun a=>uy b a.1 a.2.1 a.2.2) (fun a h=>⟨aef b a.1 a.2.1 a.2.2 h,rfl⟩) (oP (n:=54) rfl)
def aiM:bT Z:=⟨67,xK (args (ax (aQ dU) (ax (df cI) (a1 (aQ aH))))) (R1 aW) 1 [] (fun a=>some (mf (a.1)/\(0<=(a.2.1)/\(a.2.1) < (a.1).aO.length)/\gV (a.2.2))) (fun a=>La (a.1) (a.2.1) (a.2.2)),uM (fun n=>((aC5 n))) _ _ (fun a h=>⟨tV (a.2.2),⟨h.1,h.2.1,h.2.2,rC _⟩,rfl⟩)⟩
def IW (p:aJ)(a:Str)(c:Str)(l:jW):Pg (af×Int):=.ob (mf p/\okL l/\kV (af.mk 10 0 [] [] [] [] [])/\tV (af.mk 10 0 [] [] [] [] [])<=1024) (.lt (aDI p a (af.mk 10 0 [] [] [] [] []) c l) fun b=> .br (b.2 !=0) (.ret (af.mk 0 0 [] [] [] [] [],b.2)) (.lt (nU p a) fun d=> .ob (mf p/\(0<=d.1/\d.1 < (↑p.aO.length:Int))/\gV b.1.re) (.br (!La p d.1 b.1.re) (.ret (af.mk 0 0 [] [] [] [] [],14)) (.ret (b.1.re,0)))))
def rQ (p:aJ)(a:Str)(b:Str)(l:jW):=(IW p a b l).val
theorem aga (p:aJ)(b:Str)(a:Str)(l:jW)(h:mf p/\okL l):kw (IW p b a l) (fun x=>x.2=0->kV x.1/\tV x.1<=1+8*a.length):=
 by
 obtain⟨g,r⟩:=h;have n:mf p/\okL l/\kV (af.mk 10 0 [] [] [] [] [])/\tV (af.mk 10 0 [] [] [] [] [])<=1024:=⟨g,r,(kE 10 0 [] u0).1,by rw[Jk];decide⟩;unfold IW;simp only[af.dn];refine aj n (aI fun c o=>dY (fun d=>ai fun e=>absurd e d) fun q=>aI fun t j=> ?_);have k:=(PY p b (af.mk 10 0 [] [] [] [] []) a l n).2;have k:c.2=0->kV c.1/\tV c.1<=tV (af.mk 10 0 [] [] [] [] [])+8*a.length/\(nU p b).2=true/\a.length<=65536:=by rw[o];exact k
 obtain⟨m,f,s,u⟩:=k q;have i:=MC s;rw[<-j]at i;rw[Jk]at f;refine aj ⟨g,i,m,by omega⟩ (dL (fun _=>ai fun e=>absurd e jy) fun _=>ai fun _=>⟨m,f⟩)
def aqG:bT Z:=E1 [az5,aok,aiM] [] (ax (aQ dU) (ax (df cStr) (ax (df cStr) (a1 (aQ qZ))))) (shr [.slot 0 true (nn 7), s0 1] (aC aH (l1 cI))) [] func32 2 (u4 IW) (fun a=>mf a.1/\okL a.2.2.2) fun a h=>(aga a.1 a.2.1 a.2.2.1 a.2.2.2 h).1
theorem OT {A:Type}(p:A->Bool)(l:List A):decide (0<=dP p l)=l.any p:=by
 rcases uk p l with⟨h,k⟩ | ⟨u,a,v,rfl,c,d,h⟩
 ·rw[h,jF au];exact(Qc5.2 fun x b=>by rw[k x b];simp).symm
 ·rw[h,jK au];exact(UD.2 ⟨a,by simp,c⟩).symm
def isWord (s:Str):Pg Bool:=.cut (fun(a:Bool)=> .br a (.ret true) (.br (s==[105,109,112,111,114,116]) (.br (s==[105,109,112,111,114,116]) (.ret true) (.ret false)) (.br (s==[115,112,97,99,101]) (.br (s==[115,112,97,99,101]) (.ret true) (.ret false)) (.br (s==[114,112,99]) (.br (s==[114,112,99]) (.ret true) (.ret false)) (.br (s==[115,116,114,101,97,109]) (.br (s==[115,116,114,101,97,109]) (.ret true) (.ret false)) (.br (s==[114,101,116,117,114,110,115]) (.br (s==[114,101,116,117,114,110,115]) (.ret true) (.ret false)) (.br (s==[111,112,101,110]) (.br (s==[111,112,101,110]) (.ret true) (.ret false)) (.br (s==[116,114,117,101]) (.br (s==[116,114,117,101]) (.ret true) (.ret false)) (.br (s==[102,97,108,115,101]) (.br (s==[102,97,108,115,101]) (.ret true) (.ret false)) (.br (s==[110,97,110]) (.br (s==[110,97,110]) (.ret true) (.ret false)) (.br (s==[105,110,102]) (.ret true) (.ret false)))))))))))) (.br (s==[109,101,115,115,97,103,101]) (rl (s==[109,101,115,115,97,103,101])) (.br (s==[101,110,117,109]) (rl (s==[101,110,117,109])) (.br (s==[115,101,114,118,105,99,101]) (rl (s==[115,101,114,118,105,99,101])) (.br (s==[117,110,105,111,110]) (rl (s==[117,110,105,111,110])) (.br (s==[109,97,112]) (rl (s==[109,97,112])) (.br (s==[108,105,115,116]) (rl (s==[108,105,115,116])) (.br (s==[114,101,113,117,105,114,101,100]) (rl (s==[114,101,113,117,105,114,101,100])) (.br (s==[111,112,116,105,111,110,97,108]) (rl (s==[111,112,116,105,111,110,97,108])) (.br (s==[112,108,97,105,110]) (rl (s==[112,108,97,105,110])) (.br (s==[100,101,102,97,117,108,116]) (rl (s==[100,101,102,97,117,108,116])) (rl (s==[114,101,115,101,114,118,101,100]))))))))))))
def Io (s:Str):=(isWord s).val
def O6:bT Z:=E0 [] [jS 100013 (dh (fun b=>[s0 4]) (l1 aW))] (a1 (df cStr)) (R1 aW) [] func242 1 isWord
def ahs:bT Z:=EI [O6] dI 242 func240 [] Io
def aoP:bT Z:=EA [ahs,O6] dI 242 func164 Io
def axi (s:Str):Pg Bool:=.br (PV s) (.ret !Io s) (.ret false)
def Gw (s:Str):=(axi s).val
def Ua:bT Z:=E0 [adI,O6] [] (a1 (df cStr)) (R1 aW) [] func174 1 axi
def awy (s:Str):Pg Bool:=.ob (List.length s<=4294967296) (.br (adS s) (.ob ([46]=xP/\List.length s<=4294967296) (.ret !(iw 46 s).any fun(x:Str)=>Io x)) (.ret false))
def Yd (s:Str):=(awy s).val
def aen:bT Z:=E1 [aoE,ags,aoP,O6] [] (a1 (df cStr)) (R1 aW) [] func169 1 awy fun a=>a.length<=4294967296
def ixS (l:List Str)(v:Str):Pg Int:=aL l (.each false Ec l [] (fun a c (b:Unit)=> .ix a l.length (.br (v==c) (.ret (.inr a)) (rl ()))) (fun a (b:Unit)=> .ret (-1)) ())
theorem aDt (l:List Str)(v:Str):Is (ixS l v):=
 jH fun _=>jG (.inr au) (fun b a _ _=>dJ au au (aS iR iR)) (fun a _=>aZ)
def aCv:bT Z:=E2 [] [jS 2 (dh (fun b=>[s0 8]) (l1 cI))] (ax (df dI) (a1 (df cStr))) (R1 cI) [] func55 1 (u2 ixS) (fun a=>none) (fun a=>dP (fun(x:Str)=>a.2==x) a.1) fun a h=>⟨aDt a.1 a.2,(fun(l:List Str) (v:Str)=>yc (fun(x:Str)=>v==x) l 0) a.1 a.2⟩
def coS (l:List Str)(v:Str):Pg Bool:=.lt (dP (fun(x:Str)=>v==x) l) fun a=> .ret (decide (0<=a))
theorem aDV (l:List Str)(v:Str):Is (coS l v):=
 dm fun b a=>aZ
def ao6:bT Z:=E2 [aCv] [] (ax (df dI) (a1 (df cStr))) (R1 aW) [] func54 1 (u2 coS) (fun a=>none) (fun a=>a.1.any fun(x:Str)=>a.2==x) fun a h=>⟨aDV a.1 a.2,(fun(l:List Str) (v:Str)=>OT (fun(x:Str)=>v==x) l) a.1 a.2⟩
def aHm (x:aK)(a:Str):Pg Bool:=.ret (x.Name==a)
def axx (x:aK)(a:Str):=(aHm x a).val
def aue:bT Z:=UH [] [] (ax (aQ jq) (a1 (lm 0))) (b1 (cZ cStr)) (R1 aW) [0] func241 1 (u11 aHm)
def ayw:bT Z:=EIB [aue] xB 241 [0] (b1 (cZ cStr)) func103 b_ fun x b=>axx x b
def MH (s:aF)(b:Str):Pg (aK×Bool):=.lt (dP (fun(x:aK)=>axx x b) s.Messages) fun a=> .br (decide (a < 0)) (.ret (aK.mk [] [] [] [] [],false)) (.ix a s.Messages.length (.ret (s.Messages.getD a.toNat b_,true)))
def gG (s:aF)(a:Str):=(MH s a).val
theorem agW (s:aF)(a:Str):Is (MH s a):=
 dm fun c b=>bn iR (fun _=>dJ au (by have:=kU (fun(x:aK)=>axx x a) s.Messages;rw[b];exact this.1) (aZ))
def yY:bT Z:=E0 [ayw,aue] [] (ax (aQ bV) (a1 (df cStr))) (shr [.slot 0 true (nn 5), s0 1] (aC jq (l1 aW))) [] func166 2 (u2 MH) fun a=>agW a.1 a.2
def aGL (x:gu)(a:Str):Pg Bool:=.ret (x.Name==a)
def awY (x:gu)(a:Str):=(aGL x a).val
def axu:bT Z:=UH [] [] (ax (aQ o6) (a1 (lm 0))) (b1 (cZ cStr)) (R1 aW) [0] func446 1 (u11 aGL)
def ax1:bT Z:=EIB [axu] Dp 446 [0] (b1 (cZ cStr)) func105 fF fun x b=>awY x b
def anf (s:aF)(b:Str):Pg (gu×Bool):=.lt (dP (fun(x:gu)=>awY x b) s.Enums) fun a=> .br (decide (a < 0)) (.ret (gu.mk [] false [] [] [],false)) (.ix a s.Enums.length (.ret (s.Enums.getD a.toNat fF,true)))
def Xk (s:aF)(a:Str):=(anf s a).val
theorem avQ (s:aF)(a:Str):Is (anf s a):=
 dm fun c b=>bn iR (fun _=>dJ au (by have:=kU (fun(x:gu)=>awY x a) s.Enums;rw[b];exact this.1) (aZ))
def aoa:bT Z:=E0 [ax1,axu] [] (ax (aQ bV) (a1 (df cStr))) (shr [.slot 0 true (nn 5), s0 1] (aC o6 (l1 aW))) [] func334 2 (u2 anf) fun a=>avQ a.1 a.2
def aF5 (x:ou)(n:Int):Pg Bool:=.br (decide (x.From<=n)) (.ret (decide (n<=x.To))) (.ret false)
def anZ (x:ou)(n:Int):=(aF5 x n).val
def alz:bT Z:=UH [] [] (ax (aQ Vm) (a1 (lm 0))) (b1 (cZ cI)) (R1 aW) [0] func254 1 (u11 aF5)
def aEi:bT Z:=EIB [alz] pW 254 [0] (b1 (cZ cI)) func342 vF fun x b=>anZ x b
def aEn:bT Z:=EAB [alz,aEi] pW 254 [0] (b1 (cZ cI)) func253 fun x b=>anZ x b
def P5 (l:List ou)(n:Int):Pg Bool:=.ret (l.any fun(x:ou)=>anZ x n)
def yN (l:List ou)(n:Int):=(P5 l n).val
def Tm:bT Z:=E0 [aEn,alz] [] (ax (df pW) (a1 (df cI))) (R1 aW) [] func177 1 (u2 P5)
def fname (f:bu):Pg (List UInt8):=.ret f.Name
def au3 (f:bu):=(fname f).val
def afp:bT Z:=E0 [] [] (a1 (aQ iK)) (R1 cStr) [] func244 1 fname
def aCp (f:Item):Pg (List UInt8):=.ret f.Name
def auc (f:Item):=(aCp f).val
def aem:bT Z:=E0 [] [] (a1 (aQ Fh)) (R1 cStr) [] func176 1 aCp
def aGS (x:bu)(b:List bu)(a:Int):Pg Bool:=.ix a b.length (.ret (au3 (bu.mk x.Num x.Name x.Card x.Key x.di x.Union x.jf x.Default.re x.Notes)== au3 (bu.mk (b.getD a.toNat aB).Num (b.getD a.toNat aB).Name (b.getD a.toNat aB).Card (b.getD a.toNat aB).Key (b.getD a.toNat aB).di (b.getD a.toNat aB).Union (b.getD a.toNat aB).jf (b.getD a.toNat aB).Default.re (b.getD a.toNat aB).Notes)))
def abX (x:bu)(b:List bu)(a:Int):=(aGS x b a).val
def alj:bT Z:=E1B [afp] [] (ax (aQ iK) (ax (lm 0) (ax (lm 1) (a1 (lm 2))))) (ng (bFn 244 []) (ng (cZ jI) (b1 (cZ cI)))) (R1 aW) [0,1,2] func333 1 (fun a=>aGS a.1.1 a.2.2.1 a.2.2.2) fun a=>0<=a.2.2.2/\a.2.2.2 < a.2.2.1.length
def aG8 (l:List bu)(d:List bu)(c:Int):Pg Int:=aL l (.each false Ec l aB (fun b a (e:Unit)=> .ix b l.length (.ix c d.length (.br (abX (bu.mk a.Num a.Name a.Card a.Key a.di a.Union a.jf a.Default.re a.Notes) d c) (.ret (.inr b)) (rl ())))) (fun b (e:Unit)=> .ret (-1)) ())
theorem aAF (l:List bu)(b:List bu)(a:Int)(h:0<=a/\a < b.length):Is (aG8 l b a):=
 jH fun _=>jG (.inr au) (fun d c _ _=>dJ au au (dJ au au (aS iR iR))) (fun c _=>aZ)
def alH:bT Z:=E2B [alj] [jS 2 (dh (fun d=>[s0 8]) (l1 cI))] (ax (df jI) (a1 (zO 333 [0,1,2]))) (ng (bFn 244 []) (ng (cZ jI) (b1 (cZ cI)))) (R1 cI) [0,1,2] func445 1 (fun a=>aG8 a.1.1 a.2.2.1 a.2.2.2) (fun a=>some (0<=a.2.2.2/\a.2.2.2 < a.2.2.1.length)) (fun a=>dP (fun(x:bu)=>(abX x a.2.2.1 a.2.2.2)) a.1.1) fun a h=>⟨aAF a.1.1 a.2.2.1 a.2.2.2 h,(fun(l:List bu) c b _=>yc (fun(x:bu)=>(abX x c b)) l 0) a.1.1 a.2.2.1 a.2.2.2 h⟩
def aG2 (l:List bu)(b:List bu)(a:Int):Pg Bool:=.ix a b.length (.lt (dP (fun(x:bu)=>abX x b a) l) fun c=> .ret (decide (0<=c)))
theorem aBy (l:List bu)(b:List bu)(a:Int)(h:0<=a/\a < b.length):Is (aG2 l b a):=
 dJ au au (dm fun d c=>aZ)
def awT:bT Z:=E2B [alj,alH] [] (ax (df jI) (a1 (zO 333 [0,1,2]))) (ng (bFn 244 []) (ng (cZ jI) (b1 (cZ cI)))) (R1 aW) [0,1,2] func332 1 (fun a=>aG2 a.1.1 a.2.2.1 a.2.2.2) (fun a=>some (0<=a.2.2.2/\a.2.2.2 < a.2.2.1.length)) (fun a=>a.1.1.any fun(x:bu)=>(abX x a.2.2.1 a.2.2.2)) fun a h=>⟨aBy a.1.1 a.2.2.1 a.2.2.2 h,(fun(l:List bu) c b _=>OT _ l) a.1.1 a.2.2.1 a.2.2.2 h⟩
def auv (l:List bu)(i:Int):Pg Bool:=.ob ((0:Int)<=0/\0<=i/\i<=(↑l.length:Int)) (.ix i l.length (.ret ((List.take i.toNat l).any fun(x:bu)=>abX x l i)))
def alT (l:List bu)(i:Int):=(auv l i).val
def azq:bT Z:=E1 [afp,awT,alj] [] (ax (df jI) (ax (df cI) (a1 (zO 244 [])))) (R1 aW) [] func243 1 (fun a=>auv a.1 a.2.1) fun a=>0<=a.2.1/\a.2.1 < a.1.length
def aH3 (x:Item)(b:List Item)(a:Int):Pg Bool:=.ix a b.length (.ret (auc x==auc (b.getD a.toNat iT)))
def abN (x:Item)(b:List Item)(a:Int):=(aH3 x b a).val
def ajs:bT Z:=E1B [aem] [] (ax (aQ Fh) (ax (lm 0) (ax (lm 1) (a1 (lm 2))))) (ng (bFn 176 []) (ng (cZ oD) (b1 (cZ cI)))) (R1 aW) [0,1,2] func252 1 (fun a=>aH3 a.1.1 a.2.2.1 a.2.2.2) fun a=>0<=a.2.2.2/\a.2.2.2 < a.2.2.1.length
def aGG (l:List Item)(c:List Item)(b:Int):Pg Int:=aL l (.each false Ec l iT (fun a d (e:Unit)=> .ix a l.length (.ix b c.length (.br (abN d c b) (.ret (.inr a)) (rl ())))) (fun a (e:Unit)=> .ret (-1)) ())
theorem aAO (l:List Item)(b:List Item)(a:Int)(h:0<=a/\a < b.length):Is (aGG l b a):=
 jH fun _=>jG (.inr au) (fun d c _ _=>dJ au au (dJ au au (aS iR iR))) (fun c _=>aZ)
def awG:bT Z:=E2B [ajs] [jS 2 (dh (fun d=>[s0 8]) (l1 cI))] (ax (df oD) (a1 (zO 252 [0,1,2]))) (ng (bFn 176 []) (ng (cZ oD) (b1 (cZ cI)))) (R1 cI) [0,1,2] func341 1 (fun a=>aGG a.1.1 a.2.2.1 a.2.2.2) (fun a=>some (0<=a.2.2.2/\a.2.2.2 < a.2.2.1.length)) (fun a=>dP (fun(x:Item)=>(abN x a.2.2.1 a.2.2.2)) a.1.1) fun a h=>⟨aAO a.1.1 a.2.2.1 a.2.2.2 h,(fun(l:List Item) c b _=>yc (fun(x:Item)=>(abN x c b)) l 0) a.1.1 a.2.2.1 a.2.2.2 h⟩
def aHV (l:List Item)(b:List Item)(a:Int):Pg Bool:=.ix a b.length (.lt (dP (fun(x:Item)=>abN x b a) l) fun c=> .ret (decide (0<=c)))
theorem aA3 (l:List Item)(b:List Item)(a:Int)(h:0<=a/\a < b.length):Is (aHV l b a):=
 dJ au au (dm fun d c=>aZ)
def awo:bT Z:=E2B [ajs,awG] [] (ax (df oD) (a1 (zO 252 [0,1,2]))) (ng (bFn 176 []) (ng (cZ oD) (b1 (cZ cI)))) (R1 aW) [0,1,2] func251 1 (fun a=>aHV a.1.1 a.2.2.1 a.2.2.2) (fun a=>some (0<=a.2.2.2/\a.2.2.2 < a.2.2.1.length)) (fun a=>a.1.1.any fun(x:Item)=>(abN x a.2.2.1 a.2.2.2)) fun a h=>⟨aA3 a.1.1 a.2.2.1 a.2.2.2 h,(fun(l:List Item) c b _=>OT _ l) a.1.1 a.2.2.1 a.2.2.2 h⟩
def axJ (l:List Item)(i:Int):Pg Bool:=.ob ((0:Int)<=0/\0<=i/\i<=(↑l.length:Int)) (.ix i l.length (.ret ((List.take i.toNat l).any fun(x:Item)=>abN x l i)))
def aec (l:List Item)(i:Int):=(axJ l i).val
def azS:bT Z:=E1 [aem,awo,ajs] [] (ax (df oD) (ax (df cI) (a1 (zO 176 [])))) (R1 aW) [] func175 1 (fun a=>axJ a.1 a.2.1) fun a=>0<=a.2.1/\a.2.1 < a.1.length
def afr (b:Int)(a:Int):Pg Bool:=.br (b !=5) (.ret (a==0)) (.br (decide (1<=a)) (.br (decide (a<=7)) (.ret (a !=6)) (.ret false)) (.ret false))
def Ew (a:Int)(b:Int):=(afr a b).val
def auA:bT Z:=E0 [] [] (ax (df cI) (a1 (df cI))) (R1 aW) [] func245 1 (u2 afr)
def aeU (s:aF)(f:bu):Pg Bool:=.lt (Xk s f.di.Name) fun a=> .lt (gG s f.di.Name) fun b=> .br (decide (1<=f.di.Kind)) (.br (decide (f.di.Kind<=8)) (.ret (f.di.Name==[])) (.br (f.di.Kind==9) (.ret a.2) (.br (f.di.Kind==10) (.br b.2 (.ret (f.Card !=3)) (.ret false)) (.ret false)))) (.br (f.di.Kind==9) (.ret a.2) (.br (f.di.Kind==10) (.br b.2 (.ret (f.Card !=3)) (.ret false)) (.ret false)))
def H6 (s:aF)(f:bu):=(aeU s f).val
def avZ:bT Z:=E0 [yY,aoa] [] (ax (aQ bV) (a1 (aQ iK))) (R1 aW) [] func246 1 (u2 aeU)
def atM (v:af):Pg Bool:=.br (v.Kind==0) (.br (v.Bits==0) (.br (v.Text==[]) (aL v.List (aL v.Pairs (aL v.Slots (aL v.dH (.ret (bJ .i64 (bJ .i64 (bJ .i64 ((↑v.List.length:Int)+(↑v.Pairs.length:Int))+(↑v.Slots.length:Int))+(↑v.dH.length:Int))== 0)))))) (.ret false)) (.ret false)) (.ret false)
def ako (v:af):=(atM v).val
def aBU:bT Z:=E0 [] [] (a1 (aQ aH)) (R1 aW) [] func337 1 atM
def aHk (x:bu)(f:bu):Pg Bool:=.ret (x.Name==f.Union)
def awF (x:bu)(f:bu):=(aHk x f).val
def ami:bT Z:=UH [] [] (ax (aQ iK) (a1 (lm 0))) (b1 (cZ iK)) (R1 aW) [0] func335 1 (u11 aHk)
def au0:bT Z:=EIB [ami] jI 335 [0] (b1 (cZ iK)) func445 aB fun x b=>awF x b
def aDK:bT Z:=EAB [ami,alH,au0] jI 335 [0] (b1 (cZ iK)) func332 fun x b=>awF x b
def aHL (x:bu)(f:bu):Pg Bool:=.ret (x.Union==f.Union)
def ayc (x:bu)(f:bu):=(aHL x f).val
def akP:bT Z:=UH [] [] (ax (aQ iK) (a1 (lm 0))) (b1 (cZ iK)) (R1 aW) [0] func336 1 (u11 aHL)
def aFQ:bT Z:=EIB [akP] jI 336 [0] (b1 (cZ iK)) func445 aB fun x b=>ayc x b
def aEX:bT Z:=EAB [akP,alH,au0,aFQ] jI 336 [0] (b1 (cZ iK)) func332 fun x b=>ayc x b
def Ud (m:aK)(i:Int):Pg Bool:=.ix i m.Fields.length (.br ((m.Fields.getD i.toNat aB).Union==[]) (.ret true) (.br ((m.Fields.getD i.toNat aB).Card !=2) (.ret false) (.br (!Gw (m.Fields.getD i.toNat aB).Union) (.ret false) (.br (m.Fields.any fun(x:bu)=> awF x (bu.mk (m.Fields.getD i.toNat aB).Num (m.Fields.getD i.toNat aB).Name (m.Fields.getD i.toNat aB).Card (m.Fields.getD i.toNat aB).Key (m.Fields.getD i.toNat aB).di (m.Fields.getD i.toNat aB).Union (m.Fields.getD i.toNat aB).jf (m.Fields.getD i.toNat aB).Default.re (m.Fields.getD i.toNat aB).Notes)) (.ret false) (.ob ((0:Int)<=0/\0<=i/\i<=(↑m.Fields.length:Int)) (.br (!(List.take i.toNat m.Fields).any fun(x:bu)=> ayc x (bu.mk (m.Fields.getD i.toNat aB).Num (m.Fields.getD i.toNat aB).Name (m.Fields.getD i.toNat aB).Card (m.Fields.getD i.toNat aB).Key (m.Fields.getD i.toNat aB).di (m.Fields.getD i.toNat aB).Union (m.Fields.getD i.toNat aB).jf (m.Fields.getD i.toNat aB).Default.re (m.Fields.getD i.toNat aB).Notes)) (.ret true) (.lt (bJ .i64 (i - 1)) fun a=> .ix a m.Fields.length (.ret ((m.Fields.getD a.toNat aB).Union==(m.Fields.getD i.toNat aB).Union)))))))))
def Zu (m:aK)(i:Int):=(Ud m i).val
theorem al_ (m:aK)(i:Int)(h:0<=i/\i < m.Fields.length/\m.Fields.length<=1048576):Is (Ud m i):=
 by
 refine dJ au au (aS iR (fun _=>gQ iR (fun _=>aS iR (fun _=>aS iR (fun _=>bM ⟨by omega,by omega,by omega⟩ (aS iR (fun b=> ?_)))))));have a:0 < i:=by
  rcases Int.lt_or_le 0 i with a | a
  ·exact a
  ·rw[show i.toNat=0 by omega,Qej]at b;cases b
 exact mO fun d c e=>dJ au au aZ
def asc:bT Z:=E1 [Ua,awT,aDK,aEX,ami,akP] [] (ax (aQ jq) (a1 (df cI))) (R1 aW) [] func247 1 (u2 Ud) (fun a=>0<=a.2/\a.2 < a.1.Fields.length/\a.1.Fields.length<=1048576) fun a h=>al_ a.1 a.2 h
def aGI (x:Item)(f:bu):Pg Bool:=.ret (bJ .u64 x.Num==f.Default.Bits)
def ax6 (x:Item)(f:bu):=(aGI x f).val
def akK:bT Z:=UH [] [] (ax (aQ Fh) (a1 (lm 0))) (b1 (cZ iK)) (R1 aW) [0] func339 1 (u11 aGI)
def aFd:bT Z:=EIB [akK] oD 339 [0] (b1 (cZ iK)) func341 iT fun x b=>ax6 x b
def aEu:bT Z:=EAB [akK,awG,aFd] oD 339 [0] (b1 (cZ iK)) func251 fun x b=>ax6 x b
def KP (s:aF)(f:bu):Pg Bool:=.br (!f.jf) (.ret (ako f.Default.re)) (.br (f.Card !=2) (.ret false) (.br (f.Union !=[]) (.ret false) (.br (!KO f.di.Kind f.Default.re) (.ret false) (.br ((kQ f.Default.re).Bits !=f.Default.Bits) (.ret false) (.br (f.di.Kind !=9) (.ret true) (.lt (Xk s f.di.Name) fun a=> .br a.2 (.ret (a.1.Items.any fun(x:Item)=>ax6 x (bu.mk f.Num f.Name f.Card f.Key f.di f.Union f.jf f.Default.re f.Notes))) (.ret false)))))))
def Hl (s:aF)(f:bu):=(KP s f).val
def aew:bT Z:=E0 [awo,aEu,Uj,aoa,aBU,ad3,akK] [] (ax (aQ bV) (a1 (aQ iK))) (R1 aW) [] func248 1 (u2 KP)
def aeI (m:aK):Pg (List Str):=aL m.Fields (.each false rP m.Fields aB (fun c b (a:List Str)=> .ix c m.Fields.length (.br (b.Card==1) (.br (b.di.Kind==10) (.ob (dE (a.length+1) 16) (rl (a++[b.di.Name]))) (rl a)) (rl a))) (fun c (a:List Str)=> .ret a) [])
def Nr (m:aK):=(aeI m).val
theorem amD (m:aK)(h:m.Fields.length<=1048576):kw (aeI m) (fun r=>r.length<=m.Fields.length):=
 fD <| dA (fun(b:Nat) a=>a.length<=b) kM au (fun b a e d=>have c:a.length<=b:=d;aX au au (dR (fun _=>dR (fun _=>aj ((dw au au)) (ai qa9)) (fun _=>ai qa9)) (fun _=>ai qa9))) (fun a c=>have c:a.length<=m.Fields.length:=c;ai qa9)
def ahj:bT Z:=E1 [] [jS 3 (dh (fun b=>[s0 9, .slot 3 false [some 9]]) (aC cI (l1 dI)))] (a1 (aQ jq)) (R1 dI) [] func167 1 aeI (fun a=>a.Fields.length<=1048576) fun a h=>(amD a h).1
def aFV (n:Str)(s:aF)(a:List (Str×Bool)):Pg Bool:=.br (gG s n).2 (.ret !mD Fq.z a n) (.ret false)
def Oc (n:Str)(s:aF)(a:List (Str×Bool)):=(aFV n s a).val
def ajq:bT Z:=UH [yY] [] (ax (df cStr) (ax (lm 0) (a1 (lm 1)))) (ng (cZ bV) (ng (avp 2) (b1 (asG D.oN nV)))) (R1 aW) [0,1,2] func168 1 fun a=>aFV a.1.1 a.2.1 a.2.2.2
def aCL (l:List Str)(s:aF)(b:List (Str×Bool)):Pg Int:=aL l (.each false Ec l [] (fun a c (d:Unit)=> .ix a l.length (.br (Oc c s b) (.ret (.inr a)) (rl ()))) (fun a (d:Unit)=> .ret (-1)) ())
theorem avm (l:List Str)(s:aF)(a:List (Str×Bool)):Is (aCL l s a):=
 jH fun _=>jG (.inr au) (fun c b _ _=>dJ au au (aS iR iR)) (fun b _=>aZ)
def U3:bT Z:=E2B [ajq] [jS 2 (dh (fun c=>[s0 8]) (l1 cI))] (ax (df dI) (a1 (zO 168 [0,1]))) (ng (cZ bV) (ng (avp 2) (b1 (asG D.oN nV)))) (R1 cI) [0,1,2] func240 1 (fun a=>aCL a.1.1 a.2.1 a.2.2.2) (fun a=>none) (fun a=>dP (fun(x:Str)=>Oc x a.2.1 a.2.2.2) a.1.1) fun a h=>⟨avm a.1.1 a.2.1 a.2.2.2,(fun(l:List Str) s b=>yc (fun(x:Str)=>Oc x s b) l 0) a.1.1 a.2.1 a.2.2.2⟩
def aHx (l:List Str)(s:aF)(a:List (Str×Bool)):Pg Bool:=.lt (dP (fun(x:Str)=>Oc x s a) l) fun b=> .ret (decide (0<=b))
theorem azw (l:List Str)(s:aF)(a:List (Str×Bool)):Is (aHx l s a):=
 dm fun c b=>aZ
def ajU:bT Z:=E2B [ajq,ahs,U3] [] (ax (df dI) (a1 (zO 168 [0,1]))) (ng (cZ bV) (ng (avp 2) (b1 (asG D.oN nV)))) (R1 aW) [0,1,2] func164 1 (fun a=>aHx a.1.1 a.2.1 a.2.2.2) (fun a=>none) (fun a=>a.1.1.any fun(x:Str)=>Oc x a.2.1 a.2.2.2) fun a h=>⟨azw a.1.1 a.2.1 a.2.2.2,(fun(l:List Str) s b=>OT _ l) a.1.1 a.2.1 a.2.2.2⟩
theorem A_ (s:aF)(a:Str):gG s a=bif decide (dP (fun(x:aK)=>x.Name==a) s.Messages < 0)then(aK.mk [] [] [] [] [],false)else(s.Messages.getD (dP (fun(x:aK)=>x.Name==a) s.Messages).toNat b_,true):=by
 unfold gG MH;simp only[bF,aN,dN,ay];rfl
theorem TK (s:aF)(a:Str)(h:∀m∈s.Messages,m.Fields.length<=1048576):(gG s a).1.Fields.length<=1048576:=by
 rw[A_];have c:=kU (fun(x:aK)=>x.Name==a) s.Messages;by_cases b:dP (fun(x:aK)=>x.Name==a) s.Messages < 0
 ·rw[jK b];exact Jd _
 ·rw[jF b];exact h _ (getD_mem au)
def U8 (s:aF):Pg (List (Str×Bool)):=.lt (bJ .i64 ((↑s.Messages.length:Int)+1)) fun f=> .cnt rP 0 f (fun g (b:List (Str×Bool))=> aL s.Messages (.each false rP s.Messages b_ (fun d e (a:List (Str×Bool))=> .ix d s.Messages.length (.lt (gG s e.Name) fun c=> .ob (c.1.Fields.length<=1048576) (.br (!(Nr c.1).any fun(x:Str)=>Oc x s a) (rl (qC a e.Name true)) (rl a)))) (fun d (a:List (Str×Bool))=> rl a) b)) (fun g (b:List (Str×Bool))=> .ret b) []
def oH (s:aF):=(U8 s).val
theorem ajt (s:aF)(h:s.Messages.length<=1048576/\∀m∈s.Messages,m.Fields.length<=1048576):Is (U8 s):=
 mO fun f e _=>Yl au au (fun b c _ _=>jH fun _=>jG (.inr au) (fun i d _ _=>dJ au au (dm fun g a=>bM (by rw[a];exact TK s _ h.2) (aS iR iR))) (fun d _=>aZ)) (fun b c _ _=>aZ)
def aqV:bT Z:=E1 [aoP,ajU,yY,ahj,ajq] [jS 3 (dh (fun b=>[s0 14, .afL (pid (b 9))]) (aC cI (l1 mi))),jS 5 (dh (fun b=>[s0 19, .afL (pid (b 9))]) (aC cI (l1 mi)))] (a1 (aQ bV)) (R1 mi) [] func99 1 U8 (fun a=>a.Messages.length<=1048576/\∀m∈a.Messages,m.Fields.length<=1048576) fun a h=>ajt a h
def aD8 (x:Str)(s:aF)(a:List (Str×Bool)):Pg Bool:=.br (gG s x).2 (.ret !mD Fq.z a x) (.ret false)
def anu (x:Str)(s:aF)(a:List (Str×Bool)):=(aD8 x s a).val
def amd:bT Z:=UH [yY] [] (ax (df cStr) (ax (lm 0) (a1 (lm 1)))) (ng (cZ bV) (b1 (cZ mi))) (R1 aW) [0,1] func250 1 fun a=>aD8 a.1.1 a.2.1 a.2.2
def ak4:bT Z:=EIB [amd] dI 250 [0,1] (ng (cZ bV) (b1 (cZ mi))) func240 [] fun x b=>anu x b.1 b.2
def aww:bT Z:=EAB [ahs,U3,ak4,amd] dI 250 [0,1] (ng (cZ bV) (b1 (cZ mi))) func164 fun x b=>anu x b.1 b.2
def afj (s:aF)(m:aK)(a:List (Str×Bool)):Pg Bool:=.ob (m.Fields.length<=1048576) (.ret ((Nr m).any fun(x:Str)=>anu x s a))
def CE (s:aF)(m:aK)(a:List (Str×Bool)):=(afj s m a).val
def apx:bT Z:=E1 [aoP,ajU,aww,ahj,amd] [] (ax (aQ bV) (ax (aQ jq) (a1 (df mi)))) (R1 aW) [] func173 1 (u3 afj) fun a=>a.2.1.Fields.length<=1048576
def unl (a:Bool)(e:Int)(x:ak):Pg ak:=.br (!a) (.ob (dE (x.out.length+1) 32) (.ret (ak.mk x.qN x.num (x.out++[dW.mk x.qN x.num e])))) (.ret x)
def gp (a:Bool)(e:Int)(x:ak):=(unl a e x).val
theorem aDC (a:Bool)(e:Int)(x:ak)(h:x.out.length<=68719476736):Is (unl a e x):=
 aS (fun _=>bM ((dw au au)) (aZ)) iR
def X_:bT Z:=yQ Z [] [] (lH (ax (lm 0) (ax (df aW) (a1 (df cI)))) (Z9 1 [none,none,some 226] aT)) (xg (jM (Ba 0) (jM (qi LY) (S9 (qi (qp _))))) (ET (k:=1) pz (fun _=>rfl)) rfl) (shr [.cells 0 [none,none,some 226]] (l1 aT)) [] func96 ntmps96 fO 0 rfl (fun a=>unl (a.1.2.1) (a.1.2.2) (a.2)) (fun a=>some ((a.2).out.length<=68719476736)) (fun a e _=>by kernel_rfl) (fun a=>gp (a.1.2.1) (a.1.2.2) (a.2)) (fun a h=>⟨aDC (a.1.2.1) (a.1.2.2) (a.2) h,rfl⟩)
theorem vK {a:Bool}{e:Int}{x v:ak}(h:v=gp a e x):v.out.length<=x.out.length+1:=by
 subst h;unfold gp unl;cases a
 ·simp[Pg.val]
 ·exact Nat.le_succ _
theorem aCV {c a:Bool}{e b:Int}{x v:ak}(h:v=gp c e (gp a b x)):v.out.length<=x.out.length+2:=by
 have f:=vK h;have d:=vK (rfl:gp a b x=_);omega
theorem an8 (a:Bool)(e:Int)(x:ak):(gp a e x).out.length<=x.out.length+1:=vK rfl
def apa (l:List Note)(a:Int)(x:ak):Pg ak:=.ob (x.out.length<=68719476736) (.lt (aeM l a) fun b=> .ret (gp (b==0) b x))
def l9 (l:List Note)(a:Int)(x:ak):=(apa l a x).val
theorem awR (l:List Note)(a:Int)(x:ak)(h:x.out.length<=68719476736):Is (apa l a x):=
 bM qav (dm fun c b=>aZ)
def UO:bT Z:=yQ Z [X_,aun] [] (lH (ax (lm 0) (ax (df jE) (a1 (df cI)))) (Z9 1 [none,none,some 226] aT)) (xg (jM (Ba 0) (jM (qi Tt) (S9 (qi (qp _))))) (ET (k:=1) pz (fun _=>rfl)) rfl) (shr [.cells 0 [none,none,some 226]] (l1 aT)) [] func172 ntmps172 fO 0 rfl (fun a=>apa (a.1.2.1) (a.1.2.2) (a.2)) (fun a=>some ((a.2).out.length<=68719476736)) (fun a e _=>by kernel_rfl) (fun a=>l9 (a.1.2.1) (a.1.2.2) (a.2)) (fun a h=>⟨awR (a.1.2.1) (a.1.2.2) (a.2) h,rfl⟩)
theorem alQ {l:List Note}{a:Int}{x v:ak}(h:v=l9 l a x):v.out.length<=x.out.length+1:=by
 subst h;exact an8 _ _ _
theorem aox (l:List Note)(a:Int)(x:ak):(l9 l a x).out.length<=x.out.length+1:=alQ rfl
def spans (l:List ou)(e:Int)(h:Int)(x:ak):Pg ak:=aL l (.each false rP l vF (fun b c (a:ak)=> .ix b l.length (.lt (gp (decide ((l.getD (bJ .i64 (b - 1)).toNat vF).To < c.From)) 11 (gp false 6 a)) fun j=> .lt (bJ .i64 (b - 1)) fun f=> .lt (gp true 11 (gp false 6 a)) fun i=> .lt (gp false 6 a) fun d=> .br (decide (e<=c.From)) (.br (decide (c.To<=h)) (.ob (a.out.length<=68719476736) (.lt (gp (decide (c.From<=c.To)) 6 a) fun g=> .br (b==0) (.ob (g.out.length<=68719476736) (rl (gp true 11 g))) (.ix f l.length (.ob (g.out.length<=68719476736) (rl (gp (decide ((l.getD f.toNat vF).To < c.From)) 11 g)))))) (.ob (a.out.length<=68719476736) (.br (b==0) (.ob (d.out.length<=68719476736) (rl i)) (.ix f l.length (.ob (d.out.length<=68719476736) (rl j)))))) (.ob (a.out.length<=68719476736) (.br (b==0) (.ob (d.out.length<=68719476736) (rl i)) (.ix f l.length (.ob (d.out.length<=68719476736) (rl j))))))) (fun b (a:ak)=> .ret a) x)
def JZ (l:List ou)(a:Int)(b:Int)(x:ak):=(spans l a b x).val
theorem abQ (l:List ou)(b:Int)(c:Int)(x:ak)(h:x.out.length+2*l.length<=68719476736):kw (spans l b c x) (fun r=>r.out.length<=x.out.length+2*l.length):=
 fD <| dA (fun(e:Nat) a=>a.out.length<=x.out.length+2*e) au au (fun e a y j=>have d:a.out.length<=x.out.length+2*e:=j;aX au au (aI fun v g=>have m:=aCV g;sH fun t p _=>aI fun u i=>have n:=aCV i;aI fun w f=>have o:=vK f;bQ (fun _=>bQ (fun _=>aj (au) (aI fun s k=>have q:=vK k;dR (fun _=>aj (au) (ai xY)) (fun _=>aX au au (aj (au) (ai xY))))) (fun _=>aj (au) (dR (fun _=>aj (au) (ai xY)) (fun _=>aX au au (aj (au) (ai xY)))))) (fun _=>aj (au) (dR (fun _=>aj (au) (ai xY)) (fun _=>aX au au (aj (au) (ai xY))))))) (fun a d=>have d:a.out.length<=x.out.length+2*l.length:=d;ai xY)
def anT:bT Z:=yQ Z [X_] [jS 1 (dh (fun b=>[s0 12, .cells (pid (b 0)) [none,none,some 226]]) (aC cI (l1 aT)))] (lH (ax (lm 0) (ax (df pW) (ax (df cI) (a1 (df cI))))) (Z9 1 [none,none,some 226] aT)) (xg (jM (Ba 0) (jM (qi Tu) (jM (qi (qp _)) (S9 (qi (qp _)))))) (ET (k:=1) pz (fun _=>rfl)) rfl) (shr [.cells 0 [none,none,some 226]] (l1 aT)) [] func171 ntmps171 fO 0 rfl (fun a=>spans (a.1.2.1) (a.1.2.2.1) (a.1.2.2.2) (a.2)) (fun a=>some ((a.2).out.length+2*(a.1.2.1).length<=68719476736)) (fun a e _=>by kernel_rfl) (fun a=>JZ (a.1.2.1) (a.1.2.2.1) (a.1.2.2.2) (a.2)) (fun a h=>⟨(abQ (a.1.2.1) (a.1.2.2.1) (a.1.2.2.2) (a.2) h).1,rfl⟩)
theorem anV {l:List ou}{a b:Int}{p v:ak}(c:p.out.length+2*l.length<=68719476736)(h:v=JZ l a b p):v.out.length<=p.out.length+2*l.length:=by
 subst h;exact(abQ l a b p c).2
def field (s:aF)(m:aK)(i:Int)(x:ak):Pg ak:=.ix i m.Fields.length (.cut (fun(b:ak)=> .cut (fun(d:ak)=> .cut (fun(j:ak)=> .cut (fun(n:ak)=> .cut (fun(c:ak)=> .cut (fun(a:ak)=> .cut (fun(o:ak)=> .cut (fun(k:ak)=> .cut (fun(l:ak)=> .ob (l.out.length<=68719476736) (.lt (gp (Hl s (bu.mk (m.Fields.getD i.toNat aB).Num (m.Fields.getD i.toNat aB).Name (m.Fields.getD i.toNat aB).Card (m.Fields.getD i.toNat aB).Key (m.Fields.getD i.toNat aB).di (m.Fields.getD i.toNat aB).Union (m.Fields.getD i.toNat aB).jf (m.Fields.getD i.toNat aB).Default.re (m.Fields.getD i.toNat aB).Notes)) 1 l) fun f=> .ob (f.out.length<=68719476736) (.lt (l9 (m.Fields.getD i.toNat aB).Notes 2 f) fun e=> .ret (ak.mk e.qN (-1) e.out)))) (.ob (0<=i/\i < (↑m.Fields.length:Int)/\m.Fields.length<=1048576) (.ob (k.out.length<=68719476736) (rl (gp (Zu m i) 15 k))))) (.ob (o.out.length<=68719476736) (rl (gp (H6 s (bu.mk (m.Fields.getD i.toNat aB).Num (m.Fields.getD i.toNat aB).Name (m.Fields.getD i.toNat aB).Card (m.Fields.getD i.toNat aB).Key (m.Fields.getD i.toNat aB).di (m.Fields.getD i.toNat aB).Union (m.Fields.getD i.toNat aB).jf (m.Fields.getD i.toNat aB).Default.re (m.Fields.getD i.toNat aB).Notes)) 12 o)))) (.lt (gp false 1 a) fun g=> .br (decide (1<=(m.Fields.getD i.toNat aB).Card)) (.br (decide ((m.Fields.getD i.toNat aB).Card<=5)) (.ob (a.out.length<=68719476736) (rl (gp (Ew (m.Fields.getD i.toNat aB).Card (m.Fields.getD i.toNat aB).Key) 1 a))) (.ob (a.out.length<=68719476736) (rl g))) (.ob (a.out.length<=68719476736) (rl g)))) (.br (!yN m.Reserved (m.Fields.getD i.toNat aB).Num) (.ob (c.out.length<=68719476736) (rl (gp (!m.Gone.any fun(x:Str)=>(m.Fields.getD i.toNat aB).Name==x) 21 c))) (.ob (c.out.length<=68719476736) (rl (gp false 21 c))))) (.ix i m.Fields.length (.ob (n.out.length<=68719476736) (rl (gp (!alT m.Fields i) 9 n))))) (.ob (j.out.length<=68719476736) (rl (gp (Gw (m.Fields.getD i.toNat aB).Name) 8 j)))) (.br (i==0) (.ob (d.out.length<=68719476736) (rl (gp true 11 d))) (.lt (bJ .i64 (i - 1)) fun h=> .ix h m.Fields.length (.ob (d.out.length<=68719476736) (rl (gp (decide ((m.Fields.getD h.toNat aB).Num < (m.Fields.getD i.toNat aB).Num)) 11 d)))))) (.br (decide (1<=(m.Fields.getD i.toNat aB).Num)) (.ob (b.out.length<=68719476736) (rl (gp (decide ((m.Fields.getD i.toNat aB).Num<=65535)) 6 b))) (.ob (b.out.length<=68719476736) (rl (gp false 6 b))))) (rl (ak.mk x.qN (m.Fields.getD i.toNat aB).Num x.out)))
def Em (s:aF)(m:aK)(i:Int)(x:ak):=(field s m i x).val
theorem aa_ (s:aF)(m:aK)(i:Int)(x:ak)(h:x.out.length+10<=68719476736/\0<=i/\i < m.Fields.length/\m.Fields.length<=1048576):kw (field s m i x) (fun r=>r.out.length<=x.out.length+10):=
 aX au au (bP (fun u=>u.out.length<=x.out.length+0) (ai xY) (fun u d=>have d:u.out.length<=x.out.length+0:=d;bP (fun q=>q.out.length<=x.out.length+1) (bQ (fun _=>aj (au) (ai xY)) (fun _=>aj (au) (ai xY))) (fun q c=>have c:q.out.length<=x.out.length+1:=c;bP (fun t=>t.out.length<=x.out.length+2) (dR (fun _=>aj (au) (ai xY)) (fun _=>sH fun I C _=>aX au au (aj (au) (ai xY)))) (fun t k=>have k:t.out.length<=x.out.length+2:=k;bP (fun w=>w.out.length<=x.out.length+3) (aj (au) (ai xY)) (fun w f=>have f:w.out.length<=x.out.length+3:=f;bP (fun n=>n.out.length<=x.out.length+4) (aX au au (aj (au) (ai xY))) (fun n g=>have g:n.out.length<=x.out.length+4:=g;bP (fun l=>l.out.length<=x.out.length+5) (dL (fun _=>aj (au) (ai xY)) (fun _=>aj (au) (ai xY))) (fun l b=>have b:l.out.length<=x.out.length+5:=b;bP (fun v=>v.out.length<=x.out.length+6) (aI fun D y=>have B:=vK y;bQ (fun _=>bQ (fun _=>aj (au) (ai xY)) (fun _=>aj (au) (ai xY))) (fun _=>aj (au) (ai xY))) (fun v j=>have j:v.out.length<=x.out.length+6:=j;bP (fun o=>o.out.length<=x.out.length+7) (aj (au) (ai xY)) (fun o e=>have e:o.out.length<=x.out.length+7:=e;bP (fun p=>p.out.length<=x.out.length+8) (aj (au) (aj (au) (ai xY))) (fun p a=>have a:p.out.length<=x.out.length+8:=a;aj (au) (aI fun F A=>have G:=vK A;aj (au) (aI fun E z=>have H:=alQ z;ai xY))))))))))))
def aBx:bT Z:=yQ Z [ao6,X_,UO,Ua,Tm,azq,afp,auA,avZ,asc,aew] [jS 100003 (dh (fun b=>[.cells (pid (b 0)) [none,none,some 226]]) (l1 aT)),jS 100004 (dh (fun b=>[.cells (pid (b 0)) [none,none,some 226]]) (l1 aT)),jS 100005 (dh (fun b=>[.cells (pid (b 0)) [none,none,some 226]]) (l1 aT)),jS 100006 (dh (fun b=>[.cells (pid (b 0)) [none,none,some 226]]) (l1 aT)),jS 100007 (dh (fun b=>[.cells (pid (b 0)) [none,none,some 226]]) (l1 aT)),jS 100008 (dh (fun b=>[.cells (pid (b 0)) [none,none,some 226]]) (l1 aT)),jS 100009 (dh (fun b=>[.cells (pid (b 0)) [none,none,some 226]]) (l1 aT)),jS 100010 (dh (fun b=>[.cells (pid (b 0)) [none,none,some 226]]) (l1 aT)),jS 100011 (dh (fun b=>[.cells (pid (b 0)) [none,none,some 226]]) (l1 aT))] (lH (ax (lm 0) (ax (aQ bV) (ax (aQ jq) (a1 (df cI))))) (Z9 1 [none,none,some 226] aT)) (xg (jM (Ba 0) (jM (adn afF) (jM (adn BI) (S9 (qi (qp _)))))) (ET (k:=1) pz (fun _=>rfl)) rfl) (shr [.cells 0 [none,none,some 226]] (l1 aT)) [] func170 ntmps170 fO 0 rfl (fun a=>field (a.1.2.1) (a.1.2.2.1) (a.1.2.2.2) (a.2)) (fun a=>some ((a.2).out.length+10<=68719476736/\0<=(a.1.2.2.2)/\(a.1.2.2.2) < (a.1.2.2.1).Fields.length/\(a.1.2.2.1).Fields.length<=1048576)) (fun a e _=>by kernel_rfl) (fun a=>Em (a.1.2.1) (a.1.2.2.1) (a.1.2.2.2) (a.2)) (fun a h=>⟨(aa_ (a.1.2.1) (a.1.2.2.1) (a.1.2.2.2) (a.2) h).1,rfl⟩)
theorem ads {s:aF}{m:aK}{i:Int}{p v:ak}(a:p.out.length+10<=68719476736/\0<=i/\i < m.Fields.length/\m.Fields.length<=1048576)(h:v=Em s m i p):v.out.length<=p.out.length+10:=by
 subst h;exact(aa_ s m i p a).2
def okM (m:aK):Prop:=m.Fields.length<=1048576/\m.Reserved.length<=1048576/\m.Gone.length<=1048576/\m.Name.length<=1048576/\∀g∈m.Gone,g.length<=1048576
def okE (e:gu):Prop:=e.Items.length<=1048576/\e.Reserved.length<=1048576/\e.Name.length<=1048576
def adz (v:dQ):Prop:=v.Methods.length<=1048576/\v.Name.length<=1048576
def okS (s:aF):Prop:=s.Messages.length<=150/\s.Enums.length<=150/\s.dC.length<=150/\(∀m∈s.Messages,okM m)/\(∀e∈s.Enums,okE e)/\∀v∈s.dC,adz v
def Rx (s:aF)(m:aK)(f:List (Str×Bool)):Pg (List dW):=.cut (fun(b:ak)=> .cut (fun(j:ak)=> .cut (fun(g:ak)=> .ob (g.out.length+2*m.Reserved.length<=68719476736) (aL m.Gone (.each false rP m.Gone [] (fun e i (a:ak)=> .ix e m.Gone.length (.ob (List.length i<=9223372036854775700) (.ob (a.out.length<=68719476736) (rl (gp (Ib i) 7 a))))) (fun e (a:ak)=> .ob (a.out.length<=68719476736) (.ob (m.Fields.length<=1048576) (.lt (l9 m.Notes 1 a) fun h=> .ob (h.out.length<=68719476736) (.ret (gp (!CE s m f) 19 h).out)))) (JZ m.Reserved 1 65535 g)))) (aL m.Fields (.cnt rP 0 (↑m.Fields.length:Int) (fun c (d:ak)=> .ob (d.out.length+10<=68719476736/\0<=c/\c < (↑m.Fields.length:Int)/\m.Fields.length<=1048576) (rl (Em s m c d))) (fun c (d:ak)=> rl d) j))) (.br (decide ((↑m.Fields.length:Int)<=64)) (.ob (b.out.length<=68719476736) (aL m.Reserved (aL m.Gone (rl (gp (decide (max (↑m.Reserved.length:Int) (↑m.Gone.length:Int)<=16)) 3 b))))) (.ob (b.out.length<=68719476736) (rl (gp false 3 b))))) (.ob (List.length m.Name<=4294967296) (.ob (0<=68719476736) (rl (gp (Yd m.Name) 8 (ak.mk m.Name (-1) [])))))
def vZ (s:aF)(m:aK)(a:List (Str×Bool)):=(Rx s m a).val
theorem abv (s:aF)(m:aK)(q:List (Str×Bool))(h:okM m):kw (Rx s m q) (fun r=>r.length<=16777216):=
 have B:m.Fields.length<=1048576:=h.1;have y:m.Reserved.length<=1048576:=h.2.1;have C:m.Gone.length<=1048576:=h.2.2.1;have z:m.Name.length<=1048576:=h.2.2.2.1;bP (fun l=>l.out.length<=1) (aj (qaq) (aj (qaq) (ai xY))) (fun l f=>have f:l.out.length<=1:=f;bP (fun k=>k.out.length<=2) (bQ (fun _=>aj (qaq) (fD <| fD <| ai xY)) (fun _=>aj (qaq) (ai xY))) (fun k e=>have e:k.out.length<=2:=e;bP (fun j=>j.out.length<=10485762) (fD <| yl (fun(a:Int) d=>d.out.length<=2+10*a/\a<=(m.Fields.length:Int)) qay au au (fun a d w t o=>have b:d.out.length<=2+10*a/\a<=(m.Fields.length:Int):=o;aj (qaq) (ai xY)) (fun a d _ v b=>have b:d.out.length<=2+10*a/\a<=(m.Fields.length:Int):=b;ai xY)) (fun j g=>have g:j.out.length<=10485762:=g;aj (qaq) (fD <| dA (fun(i:Nat) c=>c.out.length<=12582914+1*i) qay au (fun i c x p=>have b:c.out.length<=12582914+1*i:=p;aX au au (aj (qaq) (aj (qaq) (ai xY)))) (fun c b=>have b:c.out.length<=12582914+1*m.Gone.length:=b;aj (qaq) (aj (qaq) (aI fun A n=>have u:=alQ n;aj (qaq) (ai xY))))))))
def aAv:bT Z:=E1 [L6,X_,aen,aBx,anT,UO,apx] [jS 5 (dh (fun b=>[s0 39, .cells (pid (b 14)) [none,none,some 226]]) (aC cI (l1 aT))),jS 11 (dh (fun b=>[s0 55, .cells (pid (b 14)) [none,none,some 226]]) (aC cI (l1 aT))),jS 100003 (dh (fun b=>[.cells (pid (b 14)) [none,none,some 226]]) (l1 aT)),jS 100004 (dh (fun b=>[.cells (pid (b 14)) [none,none,some 226]]) (l1 aT)),jS 100009 (dh (fun b=>[.cells (pid (b 14)) [none,none,some 226]]) (l1 aT)),jS 800001 (dh (fun b=>[.cells (pid (b 7)) [none,none,some 226]]) (l1 aT))] (ax (aQ bV) (ax (aQ jq) (a1 (df mi)))) (R1 kZ) [] func100 1 (u3 Rx) (fun a=>okM a.2.1) fun a h=>(abv a.1 a.2.1 a.2.2 h).1
def QB (e:gu):Pg (List dW):=.cut (fun(d:ak)=> .cut (fun(f:ak)=> .cut (fun(o:ak)=> aL e.Items (.each false rP e.Items iT (fun c b (a:ak)=> .ix c e.Items.length (.cut (fun(g:ak)=> .cut (fun(n:ak)=> .ob (n.out.length<=68719476736) (.ix c e.Items.length (.lt (gp (Gw b.Name) 8 n) fun m=> .ob (m.out.length<=68719476736) (.lt (gp (!aec e.Items c) 9 m) fun i=> .ob (i.out.length<=68719476736) (.lt (gp (!yN e.Reserved b.Num) 21 i) fun h=> .ob (h.out.length<=68719476736) (rl (l9 b.Notes 4 h))))))) (.br (c==0) (.ob (g.out.length<=68719476736) (rl (gp true 11 g))) (.lt (bJ .i64 (c - 1)) fun k=> .ix k e.Items.length (.ob (g.out.length<=68719476736) (rl (gp (decide ((e.Items.getD k.toNat iT).Num < b.Num)) 11 g)))))) (.br (decide (0<=b.Num)) (.ob (a.out.length<=68719476736) (rl (gp (decide (b.Num<=2147483647)) 6 (ak.mk a.qN b.Num a.out)))) (.ob (a.out.length<=68719476736) (rl (gp false 6 (ak.mk a.qN b.Num a.out))))))) (fun c (a:ak)=> .ob (a.out.length+2*e.Reserved.length<=68719476736) (.lt (JZ e.Reserved 0 2147483647 (ak.mk a.qN (-1) a.out)) fun l=> .ob (l.out.length<=68719476736) (.ret (l9 e.Notes 3 l).out))) o)) (.br ((↑e.Items.length:Int)==0) (.ob (f.out.length<=68719476736) (rl (gp true 14 f))) (.ix 0 e.Items.length (.ob (f.out.length<=68719476736) (rl (gp ((e.Items.getD 0 iT).Num==0) 14 f)))))) (.lt (gp false 3 d) fun j=> .br (decide (1<=(↑e.Items.length:Int))) (.br (decide ((↑e.Items.length:Int)<=64)) (.ob (d.out.length<=68719476736) (rl (gp (decide ((↑e.Reserved.length:Int)<=16)) 3 d))) (.ob (d.out.length<=68719476736) (rl j))) (.ob (d.out.length<=68719476736) (rl j)))) (.ob (List.length e.Name<=4294967296) (.ob (0<=68719476736) (rl (gp (Yd e.Name) 8 (ak.mk e.Name (-1) [])))))
def wF (e:gu):=(QB e).val
theorem VM (e:gu)(h:okE e):kw (QB e) (fun r=>r.length<=16777216):=
 have K:e.Items.length<=1048576:=h.1;have I:e.Reserved.length<=1048576:=h.2.1;have L:e.Name.length<=1048576:=h.2.2;bP (fun n=>n.out.length<=1) (aj (AL) (aj (AL) (ai xY))) (fun n f=>have f:n.out.length<=1:=f;bP (fun k=>k.out.length<=2) (aI fun G u=>have C:=vK u;bQ (fun _=>bQ (fun _=>aj (AL) (ai xY)) (fun _=>aj (AL) (ai xY))) (fun _=>aj (AL) (ai xY))) (fun k d=>have d:k.out.length<=2:=d;bP (fun m=>m.out.length<=3) (dR (fun _=>aj (AL) (ai xY)) (fun _=>aX au au (aj (AL) (ai xY)))) (fun m i=>have i:m.out.length<=3:=i;fD <| dA (fun(a:Nat) b=>b.out.length<=3+6*a) qay au (fun a b x p=>have l:b.out.length<=3+6*a:=p;aX au au (bP (fun j=>j.out.length<=3+6*a+1) (bQ (fun _=>aj (AL) (ai xY)) (fun _=>aj (AL) (ai xY))) (fun j c=>have c:j.out.length<=3+6*a+1:=c;bP (fun o=>o.out.length<=3+6*a+2) (dR (fun _=>aj (AL) (ai xY)) (fun _=>sH fun z w _=>aX au au (aj (AL) (ai xY)))) (fun o g=>have g:o.out.length<=3+6*a+2:=g;aj (AL) (aX au au (aI fun J q=>have B:=vK q;aj (AL) (aI fun D v=>have E:=vK v;aj (AL) (aI fun A s=>have F:=vK s;aj (AL) (ai xY))))))))) (fun b l=>have l:b.out.length<=3+6*e.Items.length:=l;aj (AL) (aI fun H t=>have y:=anV (by first | omega | (dsimp only;omega)) t;aj (AL) (ai xY))))))
def axS:bT Z:=E1 [X_,aen,anT,UO,Ua,azS,aem,Tm] [jS 6 (dh (fun b=>[s0 50, .cells (pid (b 9)) [none,none,some 226]]) (aC cI (l1 aT))),jS 100003 (dh (fun b=>[.cells (pid (b 9)) [none,none,some 226]]) (l1 aT)),jS 100004 (dh (fun b=>[.cells (pid (b 9)) [none,none,some 226]]) (l1 aT)),jS 100005 (dh (fun b=>[.cells (pid (b 9)) [none,none,some 226]]) (l1 aT)),jS 100010 (dh (fun b=>[.cells (pid (b 9)) [none,none,some 226]]) (l1 aT)),jS 100011 (dh (fun b=>[.cells (pid (b 9)) [none,none,some 226]]) (l1 aT)),jS 800001 (dh (fun b=>[.cells (pid (b 3)) [none,none,some 226]]) (l1 aT))] (a1 (aQ o6)) (R1 kZ) [] func101 1 QB (fun a=>okE a) fun a h=>(VM a h).1
def az_ (s:aF)(v:dQ):Pg (List dW):=.ob (List.length v.Name<=4294967296) (.ob (0<=68719476736) (.lt (gp (Yd v.Name) 8 (ak.mk v.Name (-1) [])) fun w=> .ob (w.out.length<=68719476736) (aL v.Methods (.each false rP v.Methods iY (fun h a (b:ak)=> .ix h v.Methods.length (.ob (b.out.length<=68719476736) (.lt (gp (Gw a.Name) 8 (ak.mk b.qN h b.out)) fun j=> .lt (gG s a.In) fun u=> .lt (gG s a.Out) fun x=> .br (h==0) (.ob (j.out.length<=68719476736) (.lt (gp true 11 j) fun i=> .br u.2 (.ob (i.out.length<=68719476736) (.lt (gp x.2 12 i) fun k=> .br (decide (1<=a.Shape)) (.ob (k.out.length<=68719476736) (.lt (gp (decide (a.Shape<=4)) 1 k) fun p=> .ob (p.out.length<=68719476736) (rl (l9 a.Notes 6 p)))) (.ob (k.out.length<=68719476736) (.lt (gp false 1 k) fun o=> .ob (o.out.length<=68719476736) (rl (l9 a.Notes 6 o)))))) (.ob (i.out.length<=68719476736) (.lt (gp false 12 i) fun d=> .br (decide (1<=a.Shape)) (.ob (d.out.length<=68719476736) (.lt (gp (decide (a.Shape<=4)) 1 d) fun t=> .ob (t.out.length<=68719476736) (rl (l9 a.Notes 6 t)))) (.ob (d.out.length<=68719476736) (.lt (gp false 1 d) fun r=> .ob (r.out.length<=68719476736) (rl (l9 a.Notes 6 r)))))))) (.lt (bJ .i64 (h - 1)) fun g=> .ix g v.Methods.length (.ob (j.out.length<=68719476736) (.lt (gp (!(Op.bytesLess a.Name (v.Methods.getD g.toNat iY).Name || a.Name==(v.Methods.getD g.toNat iY).Name)) 11 j) fun e=> .br u.2 (.ob (e.out.length<=68719476736) (.lt (gp x.2 12 e) fun f=> .br (decide (1<=a.Shape)) (.ob (f.out.length<=68719476736) (.lt (gp (decide (a.Shape<=4)) 1 f) fun m=> .ob (m.out.length<=68719476736) (rl (l9 a.Notes 6 m)))) (.ob (f.out.length<=68719476736) (.lt (gp false 1 f) fun n=> .ob (n.out.length<=68719476736) (rl (l9 a.Notes 6 n)))))) (.ob (e.out.length<=68719476736) (.lt (gp false 12 e) fun c=> .br (decide (1<=a.Shape)) (.ob (c.out.length<=68719476736) (.lt (gp (decide (a.Shape<=4)) 1 c) fun l=> .ob (l.out.length<=68719476736) (rl (l9 a.Notes 6 l)))) (.ob (c.out.length<=68719476736) (.lt (gp false 1 c) fun q=> .ob (q.out.length<=68719476736) (rl (l9 a.Notes 6 q)))))))))))) (fun h (b:ak)=> .ob (b.out.length<=68719476736) (.ret (l9 v.Notes 5 (ak.mk b.qN (-1) b.out)).out)) (gp (decide ((↑v.Methods.length:Int)<=64)) 3 w)))))
def am_ (s:aF)(v:dQ):=(az_ s v).val
theorem agh (s:aF)(v:dQ)(h:adz v):kw (az_ s v) (fun r=>r.length<=16777216):=
 have h1:v.Methods.length<=1048576:=h.1;have h2:v.Name.length<=1048576:=h.2;aj (AL) (aj (AL) (aI fun v4 m=>have A:=vK m;aj (AL) (fD <| dA (fun(c:Nat) a=>a.out.length<=2+5*c) qay au (fun c a uC q=>have b:a.out.length<=2+5*c:=q;aX au au (aj (AL) (aI fun v5 k=>have z:=vK k;aI fun v6 X=>aI fun v7 I=>dR (fun _=>aj (AL) (aI fun v8 t=>have ac:=vK t;dL (fun _=>aj (AL) (aI fun v9 d=>have P:=vK d;bQ (fun _=>aj (AL) (aI fun T x=>have U:=vK x;aj (AL) (ai xY))) (fun _=>aj (AL) (aI fun O e=>have W:=vK e;aj (AL) (ai xY))))) (fun _=>aj (AL) (aI fun N f=>have y:=vK f;bQ (fun _=>aj (AL) (aI fun C j=>have H:=vK j;aj (AL) (ai xY))) (fun _=>aj (AL) (aI fun ab o=>have Q:=vK o;aj (AL) (ai xY))))))) (fun _=>sH fun F ad _=>aX au au (aj (AL) (aI fun R i=>have S:=vK i;dL (fun _=>aj (AL) (aI fun Z l=>have Y:=vK l;bQ (fun _=>aj (AL) (aI fun K u=>have J:=vK u;aj (AL) (ai xY))) (fun _=>aj (AL) (aI fun L w=>have aa:=vK w;aj (AL) (ai xY))))) (fun _=>aj (AL) (aI fun E n=>have G:=vK n;bQ (fun _=>aj (AL) (aI fun D p=>have M:=vK p;aj (AL) (ai xY))) (fun _=>aj (AL) (aI fun V g=>have B:=vK g;aj (AL) (ai xY))))))))))) (fun a b=>have b:a.out.length<=2+5*v.Methods.length:=b;aj (AL) (ai xY)))))
def aFe:bT Z:=E1 [X_,yY,aen,UO,Ua] [jS 5 (dh (fun b=>[s0 30, .cells (pid (b 15)) [none,none,some 226]]) (aC cI (l1 aT))),jS 800001 (dh (fun b=>[.cells (pid (b 5)) [none,none,some 226]]) (l1 aT))] (ax (aQ bV) (a1 (aQ o5))) (R1 kZ) [] func102 1 (u2 az_) (fun a=>adz a.2) fun a h=>(agh a.1 a.2 h).1
def rising (l:List Str):Pg Bool:=.TN [] (some (l.length<=9223372036854775807)) Ec 1 (↑l.length:Int) (fun a (c:Unit)=> .ix a l.length (.lt (bJ .i64 (a - 1)) fun b=> .ix b l.length (.br (Op.bytesLess (l.getD a.toNat []) (l.getD b.toNat []) || l.getD a.toNat []==l.getD b.toNat []) (.ret (.inr false)) (rl ())))) (fun a (c:Unit)=> .ret true) ()
def TY (l:List Str):=(rising l).val
theorem asF (l:List Str):Is (rising l):=
 Vb trivial au (fun h=>by simp only[tN]at h;omega) (fun a b _ _ _=>dJ au au (mO fun d c _=>dJ au au (aS iR iR))) (fun a b _ _=>aZ)
def atg:bT Z:=E0 [] [jS 2 (dh (fun b=>[s0 3]) (l1 cI))] (a1 (df dI)) (R1 aW) [] func97 1 rising fun a=>asF a
def lists (s:aF):Pg (List (List Str)):=.cut (fun(e:List (List Str))=> .cut (fun(d:List (List Str))=> aL s.dC (.each false rP s.dC kJ (fun i h (c:List (List Str))=> .ix i s.dC.length (.ob ((0:Int)<=2/\(2:Int) < 3) (.ob (dE ((c.getD 2 []).length+1) 16) (.ob ((0:Int)<=2/\(2:Int) < 3) (.ret (.inl [c.getD 0 [],c.getD 1 [],c.getD 2 []++[h.Name]])))))) (fun i (c:List (List Str))=> .ret [c.getD 0 [],c.getD 1 [],c.getD 2 []]) [d.getD 0 [],d.getD 1 [],d.getD 2 []])) (aL s.Enums (.each false rP s.Enums fF (fun f k (b:List (List Str))=> .ix f s.Enums.length (.ob ((0:Int)<=1/\(1:Int) < 3) (.ob (dE ((b.getD 1 []).length+1) 16) (.ob ((0:Int)<=1/\(1:Int) < 3) (.ret (.inl [b.getD 0 [],b.getD 1 []++[k.Name],b.getD 2 []])))))) (fun f (b:List (List Str))=> .ret (.inl [b.getD 0 [],b.getD 1 [],b.getD 2 []])) [e.getD 0 [],e.getD 1 [],e.getD 2 []]))) (aL s.Messages (.each false rP s.Messages b_ (fun g j (a:List (List Str))=> .ix g s.Messages.length (.ob ((0:Int)<=0/\(0:Int) < 3) (.ob (dE ((a.getD 0 []).length+1) 16) (.ob ((0:Int)<=0/\(0:Int) < 3) (.ret (.inl [a.getD 0 []++[j.Name],a.getD 1 [],a.getD 2 []])))))) (fun g (a:List (List Str))=> .ret (.inl [a.getD 0 [],a.getD 1 [],a.getD 2 []])) [[],[],[]]))
def akU (s:aF):=(lists s).val
theorem aqr (s:aF)(h:okS s):kw (lists s) (fun _=>True):=
 have t:s.Messages.length<=150:=h.1;have r:s.Enums.length<=150:=h.2.1;have u:s.dC.length<=150:=h.2.2.1;bP (fun f=>(f.getD 0 []).length<=150/\(f.getD 1 []).length<=0/\(f.getD 2 []).length<=0) (fD <| dA (fun(l:Nat) b=>(b.getD 0 []).length<=l/\(b.getD 1 []).length<=0/\(b.getD 2 []).length<=0) qbq au (fun l b v o=>have c:(b.getD 0 []).length<=l/\(b.getD 1 []).length<=0/\(b.getD 2 []).length<=0:=o;aX au au (aj (qbd) (aj (qbd) (aj (qbd) (ai qa1))))) (fun b c=>have c:(b.getD 0 []).length<=s.Messages.length/\(b.getD 1 []).length<=0/\(b.getD 2 []).length<=0:=c;ai qa1)) (fun f i=>have i:(f.getD 0 []).length<=150/\(f.getD 1 []).length<=0/\(f.getD 2 []).length<=0:=i;bP (fun e=>(e.getD 0 []).length<=150/\(e.getD 1 []).length<=150/\(e.getD 2 []).length<=0) (fD <| dA (fun(k:Nat) a=>(a.getD 0 []).length<=150/\(a.getD 1 []).length<=k/\(a.getD 2 []).length<=0) qbq au (fun k a p m=>have c:(a.getD 0 []).length<=150/\(a.getD 1 []).length<=k/\(a.getD 2 []).length<=0:=m;aX au au (aj (qbd) (aj (qbd) (aj (qbd) (ai qa1))))) (fun a c=>have c:(a.getD 0 []).length<=150/\(a.getD 1 []).length<=s.Enums.length/\(a.getD 2 []).length<=0:=c;ai qa1)) (fun e g=>have g:(e.getD 0 []).length<=150/\(e.getD 1 []).length<=150/\(e.getD 2 []).length<=0:=g;fD <| dA (fun(j:Nat) d=>(d.getD 0 []).length<=150/\(d.getD 1 []).length<=150/\(d.getD 2 []).length<=j) qbq au (fun j d q n=>have c:(d.getD 0 []).length<=150/\(d.getD 1 []).length<=150/\(d.getD 2 []).length<=j:=n;aX au au (aj (qbd) (aj (qbd) (aj (qbd) (ai qa1))))) (fun d c=>have c:(d.getD 0 []).length<=150/\(d.getD 1 []).length<=150/\(d.getD 2 []).length<=s.dC.length:=c;ai qa1)))
def aAy:bT Z:=E1 [] [jS 3 (dh (fun b=>[s0 13, .cells (pid (b 3)) [some 9,some 9,some 9]]) (aC cI (l1 (K_ 3 [] dI)))),jS 8 (dh (fun b=>[s0 28, .cells (pid (b 3)) [some 9,some 9,some 9]]) (aC cI (l1 (K_ 3 [] dI)))),jS 13 (dh (fun b=>[s0 43, .cells (pid (b 3)) [some 9,some 9,some 9]]) (aC cI (l1 (K_ 3 [] dI)))),jS 100007 (dh (fun b=>[.cells (pid (b 3)) [some 9,some 9,some 9]]) (l1 (K_ 3 [] dI))),jS 100012 (dh (fun b=>[.cells (pid (b 3)) [some 9,some 9,some 9]]) (l1 (K_ 3 [] dI)))] (a1 (aQ bV)) (shr [.slot 0 true (nn 3)] (l1 (K_ 3 [] dI))) [] func95 1 lists (fun a=>okS a) fun a h=>(aqr a h).1
def ap0 (x:Str)(l:List (List Str)):Pg Bool:=.ob ((0:Int)<=0/\(0:Int) < 3) (.ret ((l.getD 0 []).any fun(a:Str)=>x==a))
def asY (x:Str)(l:List (List Str)):=(ap0 x l).val
def aib:bT Z:=UH [ao6] [] (ax (df cStr) (ax (lm 0) (a1 (lm 1)))) (ng (cZ (K_ 3 [] dI)) (b1 (ai0 .i64 0))) (R1 aW) [0,1] func165 1 fun a=>ap0 a.1.1 a.2.1
def auC:bT Z:=EIB [aib] dI 165 [0,1] (ng (cZ (K_ 3 [] dI)) (b1 (ai0 .i64 0))) func240 [] fun x b=>asY x b.1
def aFF:bT Z:=EAB [aib,ahs,U3,ak4,auC] dI 165 [0,1] (ng (cZ (K_ 3 [] dI)) (b1 (ai0 .i64 0))) func164 fun x b=>asY x b.1
def ap1 (x:Str)(l:List (List Str)):Pg Bool:=.ob ((0:Int)<=1/\(1:Int) < 3) (.ret ((l.getD 1 []).any fun(a:Str)=>x==a))
def aze (x:Str)(l:List (List Str)):=(ap1 x l).val
def awt:bT Z:=UH [ao6] [] (ax (df cStr) (ax (lm 0) (a1 (lm 1)))) (ng (cZ (K_ 3 [] dI)) (b1 (ai0 .i64 1))) (R1 aW) [0,1] func165 1 fun a=>ap1 a.1.1 a.2.1
def aER:bT Z:=EIB [aib,awt] dI 165 [0,1] (ng (cZ (K_ 3 [] dI)) (b1 (ai0 .i64 1))) func240 [] fun x b=>aze x b.1
def aFH:bT Z:=EAB [aib,awt,ahs,U3,ak4,auC,aER] dI 165 [0,1] (ng (cZ (K_ 3 [] dI)) (b1 (ai0 .i64 1))) func164 fun x b=>aze x b.1
def apart (l:List (List Str)):Pg Bool:=.lt (bJ .i64 (0+1)) fun b=> .ob (0<=b/\b < 3) (.br ((l.getD 1 []).any fun(x:Str)=>asY x [l.getD 0 [],l.getD 1 [],l.getD 2 []]) (.ret false) (.lt (bJ .i64 (b+1)) fun a=> .ob (0<=a/\a < 3) (.br ((l.getD 2 []).any fun(x:Str)=>asY x [l.getD 0 [],l.getD 1 [],l.getD 2 []]) (.ret false) (.ob (0<=a/\a < 3) (.br ((l.getD 2 []).any fun(x:Str)=>aze x [l.getD 0 [],l.getD 1 [],l.getD 2 []]) (.ret false) (.ret true))))))
def ajx (l:List (List Str)):=(apart l).val
def azT:bT Z:=E0 [aoP,ajU,aww,aFF,aFH,aib,awt] [jS 600002 (dh (fun _=>List.replicate 4 (.iter 0)) l0),jS 600005 (dh (fun _=>List.replicate 4 (.iter 0)) l0)] (a1 (aQ (K_ 3 [] dI))) (R1 aW) [] func98 1 apart
theorem aEf {s:aF}{m:aK}{a:List (Str×Bool)}{v:List dW}(b:okM m)(h:v=vZ s m a):v.length<=16777216:=by
 subst h;exact(abv s m a b).2
theorem az1 {e:gu}{v:List dW}(a:okE e)(h:v=wF e):v.length<=16777216:=by
 subst h;exact(VM e a).2
theorem aHy {s:aF}{x:dQ}{v:List dW}(a:adz x)(h:v=am_ s x):v.length<=16777216:=by
 subst h;exact(agh s x a).2
def aiU (s:aF):Pg (List dW):=.ob (okS s) (.lt (akU s) fun a=> .cut (fun(x:ak)=> .cut (fun(A:ak)=> .ob (s.Messages.length<=1048576/\∀(m:aK),m∈s.Messages->m.Fields.length<=1048576) (.cut (fun(w:ak)=> .cut (fun(p:ak)=> aL s.dC (.each false rP s.dC kJ (fun i l (c:ak)=> .ix i s.dC.length (.ob (adz l) (.lt (am_ s l) fun f=> .ob (dE (c.out.length+f.length) 32) (rl (ak.mk c.qN c.num (c.out++f)))))) (fun i (c:ak)=> .ret c.out) p)) (aL s.Enums (.each false rP s.Enums fF (fun j k (b:ak)=> .ix j s.Enums.length (.ob (okE k) (.lt (wF k) fun n=> .ob (dE (b.out.length+n.length) 32) (rl (ak.mk b.qN b.num (b.out++n)))))) (fun j (b:ak)=> rl b) w))) (aL s.Messages (.each false rP s.Messages b_ (fun r g (d:ak)=> .ix r s.Messages.length (.ob (okM g) (.lt (vZ s g (oH s)) fun o=> .ob (dE (d.out.length+o.length) 32) (rl (ak.mk d.qN d.num (d.out++o)))))) (fun r (d:ak)=> rl d) A)))) (.ob (x.out.length<=68719476736) (rl (gp (ajx [a.getD 0 [],a.getD 1 [],a.getD 2 []]) 9 x)))) (.cut (fun(t:ak)=> .lt (bJ .i64 (0+1)) fun e=> .cut (fun(y:ak)=> .cut (fun(z:ak)=> rl z) (.lt (bJ .i64 (e+1)) fun h=> .ob (0<=h/\h < 3) (.cut (fun(q:ak)=> .ob (q.out.length<=68719476736) (rl (gp (TY (a.getD 2 [])) 11 q))) (.ob (y.out.length<=68719476736) (rl (gp (decide ((↑(a.getD 2 []).length:Int)<=64)) 3 y)))))) (.ob (0<=e/\e < 3) (.cut (fun(u:ak)=> .ob (u.out.length<=68719476736) (rl (gp (TY (a.getD 1 [])) 11 u))) (.ob (t.out.length<=68719476736) (rl (gp (decide ((↑(a.getD 1 []).length:Int)<=64)) 3 t)))))) (.ob ((0:Int)<=0/\(0:Int) < 3) (.cut (fun(v:ak)=> .ob (v.out.length<=68719476736) (rl (gp (TY (a.getD 0 [])) 11 v))) (.ob (0<=68719476736) (rl (gp (decide ((↑(a.getD 0 []).length:Int)<=64)) 3 (ak.mk [] (-1) []))))))))
def F8 (s:aF):=(aiU s).val
theorem atl (s:aF)(h:okS s):kw (aiU s) (fun _=>True):=
 have h1:s.Messages.length<=150:=h.1;have Z:s.Enums.length<=150:=h.2.1;have h3:s.dC.length<=150:=h.2.2.1;aj (qae) (aI fun O X=>bP (fun C=>C.out.length<=6) (bP (fun z=>z.out.length<=2) (aj (qae) (bP (fun B=>B.out.length<=1) (aj (qae) (ai qad)) (fun B o=>have o:B.out.length<=1:=o;aj (qae) (ai qad)))) (fun z n=>have n:z.out.length<=2:=n;sH fun R K _=>bP (fun D=>D.out.length<=4) (aj (qae) (bP (fun A=>A.out.length<=3) (aj (qae) (ai qad)) (fun A t=>have t:A.out.length<=3:=t;aj (qae) (ai qad)))) (fun D q=>have q:D.out.length<=4:=q;bP (fun v=>v.out.length<=6) (sH fun P L _=>aj (qae) (bP (fun w=>w.out.length<=5) (aj (qae) (ai qad)) (fun w r=>have r:w.out.length<=5:=r;aj (qae) (ai qad)))) (fun v k=>have k:v.out.length<=6:=k;ai qad)))) (fun C u=>have u:C.out.length<=6:=u;bP (fun x=>x.out.length<=7) (aj (qae) (ai qad)) (fun x p=>have p:x.out.length<=7:=p;aj (qae) (bP (fun i=>i.out.length<=2516582407) (fD <| dA (fun(y:Nat) g=>g.out.length<=7+16777216*y) qay au (fun y g T F=>have a:g.out.length<=7+16777216*y:=F;aX au au (aj (qae) (aI fun W H=>have U:=aEf (h.2.2.2.1 _ (getD_mem au)) H;aj (qae) (ai qad)))) (fun g a=>have a:g.out.length<=7+16777216*s.Messages.length:=a;ai qad)) (fun i j=>have j:i.out.length<=2516582407:=j;bP (fun e=>e.out.length<=5033164807) (fD <| dA (fun(f:Nat) b=>b.out.length<=2516582407+16777216*f) qay au (fun f b Y G=>have a:b.out.length<=2516582407+16777216*f:=G;aX au au (aj (qae) (aI fun V E=>have M:=az1 (h.2.2.2.2.1 _ (getD_mem au)) E;aj (qae) (ai qad)))) (fun b a=>have a:b.out.length<=2516582407+16777216*s.Enums.length:=a;ai qad)) (fun e l=>have l:e.out.length<=5033164807:=l;fD <| dA (fun(d:Nat) c=>c.out.length<=5033164807+16777216*d) qay au (fun d c Q I=>have a:c.out.length<=5033164807+16777216*d:=I;aX au au (aj (qae) (aI fun N J=>have S:=aHy (h.2.2.2.2.2 _ (getD_mem au)) J;aj (qae) (ai qad)))) (fun c a=>have a:c.out.length<=5033164807+16777216*s.dC.length:=a;ai qad)))))))
def aFg:bT Z:=E1 [aAy,X_,atg,azT,aqV,aAv,axS,aFe] [jS 600004 (dh (fun _=>List.replicate 4 (.iter 0)) l0),jS 12 (dh (fun b=>[s0 41, .cells (pid (b 15)) [none,none,some 226]]) (aC cI (l1 aT))),jS 17 (dh (fun b=>[s0 61, .cells (pid (b 15)) [none,none,some 226]]) (aC cI (l1 aT))),jS 22 (dh (fun b=>[s0 79, .cells (pid (b 15)) [none,none,some 226]]) (aC cI (l1 aT))),jS 100007 (dh (fun b=>[.cells (pid (b 15)) [none,none,some 226]]) (l1 aT)),jS 100008 (dh (fun b=>[.cells (pid (b 15)) [none,none,some 226]]) (l1 aT)),jS 100009 (dh (fun b=>[.cells (pid (b 15)) [none,none,some 226]]) (l1 aT)),jS 100010 (dh (fun b=>[.cells (pid (b 15)) [none,none,some 226]]) (l1 aT)),jS 100016 (dh (fun b=>[.cells (pid (b 15)) [none,none,some 226]]) (l1 aT)),jS 100021 (dh (fun b=>[.cells (pid (b 15)) [none,none,some 226]]) (l1 aT)),jS 800001 (dh (fun b=>[.cells (pid (b 3)) [none,none,some 226]]) (l1 aT))] (a1 (aQ bV)) (R1 kZ) [] func51 1 aiU (fun a=>okS a) fun a h=>(atl a h).1
def PW (s:aF):Pg Bool:=.ob (okS s) (.ret ((↑(F8 s).length:Int)==0))
def nK (s:aF):=(PW s).val
def auR:bT Z:=E1 [aFg] [] (a1 (aQ bV)) (R1 aW) [] func24 1 PW fun a=>okS a
def VP {R:Type}(t:Pg R)(Q:R->Prop):Prop:=Q t.val
section
variable {R A X Y:Type}{Q:R->Prop}
theorem bz {r:R}(h:Q r):VP (.ret r) Q:=h
theorem bI {p:Prop}{k:Pg R}(h:VP k Q):VP (.ob p k) Q:=by unfold VP;rw[bG];exact h
theorem lT {i:Int}{n:Nat}{k:Pg R}(h:VP k Q):VP (.ix i n k) Q:=by unfold VP;rw[dN];exact h
theorem lY {p:Prop}{k:Pg R}(h:VP k Q):VP (.as p k) Q:=by unfold VP;rw[gm];exact h
theorem iW {v:A}{k:A->Pg R}(h:∀x,x=v->VP (k x) Q):VP (.lt v k) Q:=by unfold VP;rw[bF];exact h v rfl
theorem iU {b:Bool}{t e:Pg R}(c:b=true->VP t Q)(a:b=false->VP e Q):VP (.br b t e) Q:=by
 unfold VP;rw[aN];cases b with
 | true=>exact c rfl
 | false=>exact a rfl
theorem gZ (d:X->Prop){a:Pg (X⊕R)}{k:X->Pg R}(b:VP a (Sum.elim d Q))(e:∀x,d x->VP (k x) Q):VP (.cut k a) Q:=by
 unfold VP at b⊢;rw[gz];cases c:a.val with
 | inl x=>rw[c]at b;exact e x b
 | inr r=>rw[c]at b;exact b
theorem kW {h:Bool}{s:Ix X Y}{l:List A}{d:A}{a:Int->A->Y->Pg (Y⊕R)}{c:Int->Y->Pg R}{y:Y}(I:Nat->Y->Prop)(g:I 0 y)(e:∀(k:Nat) (y:Y),k < l.length->I k y->VP (a ↑k (l.getD k d) y) (Sum.elim (I (k+1)) Q))(i:∀y,I l.length y->VP (c ↑l.length y) Q):VP (.each h s l d a c y) Q:=by
 unfold VP;rw[fM];refine IR (d:=d) I l 0 y g (fun j y f b=> ?_) (fun y b=> ?_)
 ·rw[zM]at b⊢;exact e j y f b
 ·rw[zM]at b⊢;exact i y b
theorem axP {s:Ix X Y}{a b:Int}{c:Int->Y->Pg (Y⊕R)}{e:Int->Y->Pg R}{y:Y}(I:Int->Y->Prop)(j:I a y)
  (h:∀(i:Int) (y:Y),a<=i->i < b->I i y->VP (c i y) (Sum.elim (I (i+1)) Q)) (k:∀i y,a<=i->b<=i->I i y->VP (e i y) Q):VP (.cnt s a b c e y) Q:=by
 unfold VP;rw[qx];refine Iz (fun i y=>a<=i/\I i y) b _ a y rfl ⟨ZU _,j⟩ (fun i y f d=> ?_) (fun i y f d=>k i y d.1 f d.2);have:=h i y d.1 f d.2;unfold VP at this;cases g:(c i y).val with
 | inr r=>rw[g]at this;exact this
 | inl l=>rw[g]at this;exact⟨by omega,this⟩
end
theorem fJ {a:Bool}{e:Int}{x:ak}(h:(gp a e x).out=[]):a=true/\x.out=[]:=by
 cases a with
 | true=>exact⟨rfl,h⟩
 | false=>
  have h:x.out++[dW.mk x.qN x.num e]=[]:=h;exact absurd (Ll List.length h) kM
theorem yF {l:List Note}{t:Int}{x:ak}(h:(l9 l t x).out=[]):x.out=[]:=(fJ h).2
theorem PO {l:List ou}{a b:Int}{x:ak}(h:(JZ l a b x).out=[]):x.out=[]:=by
 have k:VP (spans l a b x) (fun y=>y.out=[]->x.out=[]):=by
  unfold spans;refine lY (kW (fun _ y=>y.out=[]->x.out=[]) id (fun k y e c=> ?_) (fun y c=>bz c));repeat' first
   | exact bz fun h=>c (fJ (fJ h).2).2
   | exact bz fun h=>c (fJ h).2
   | refine bI ?_
   | refine lT ?_
   | refine lY ?_
   | (refine iW fun x d=> ?_;subst d)
   | refine iU (fun _=> ?_) (fun _=> ?_)
   | refine gZ (fun z=>z.out=[]->x.out=[]) ?_ (fun z c=> ?_)
 exact k h
def Jn (s:aF)(f:bu):Prop:=(1<=f.Num/\f.Num<=65535)/\(1<=f.Card/\f.Card<=5/\Ew f.Card f.Key=true)/\H6 s f=true
theorem ab6 {s:aF}{m:aK}{i:Int}{x:ak}(h:(Em s m i x).out=[]):x.out=[]/\Jn s (m.Fields.getD i.toNat aB):=by
 have k:VP (field s m i x) (fun y=>y.out=[]->x.out=[]/\Jn s (m.Fields.getD i.toNat aB)):=by
  unfold field;simp only[af.dn];generalize D:m.Fields.getD i.toNat aB=f;have j:bu.mk f.Num f.Name f.Card f.Key f.di f.Union f.jf f.Default f.Notes=f:=rfl;rw[j];refine lT (gZ (fun z=>z.out=[]->x.out=[]) (bz fun h=>h) fun J q=>gZ (fun z=>z.out=[]->x.out=[]/\1<=f.Num/\f.Num<=65535) ?_ fun H g=>gZ (fun z=>z.out=[]->x.out=[]/\1<=f.Num/\f.Num<=65535) ?_ fun I r=>gZ (fun z=>z.out=[]->x.out=[]/\1<=f.Num/\f.Num<=65535) ?_ fun L p=>gZ (fun z=>z.out=[]->x.out=[]/\1<=f.Num/\f.Num<=65535) ?_ fun E l=>gZ (fun z=>z.out=[]->x.out=[]/\1<=f.Num/\f.Num<=65535) ?_ fun C e=>
   gZ (fun z=>z.out=[]->x.out=[]/\(1<=f.Num/\f.Num<=65535)/\(1<=f.Card/\f.Card<=5/\Ew f.Card f.Key=true)) ?_ fun K b=>gZ (fun z=>z.out=[]->x.out=[]/\Jn s f) ?_ fun F t=>gZ (fun z=>z.out=[]->x.out=[]/\Jn s f) ?_ fun G n=> ?_)
  ·refine iU (fun c=>bI (bz fun h=>⟨q (fJ h).2,EU c,EU (fJ h).1⟩)) (fun _=>bI (bz fun h=>absurd (fJ h).1 jy))
  ·refine iU (fun _=>bI (bz fun h=>g (fJ h).2)) (fun _=>iW fun B a=>lT (bI (bz fun h=>g (fJ h).2)))
  ·exact bI (bz fun h=>r (fJ h).2)
  ·exact lT (bI (bz fun h=>p (fJ h).2))
  ·refine iU (fun _=>bI (bz fun h=>l (fJ h).2)) (fun _=>bI (bz fun h=>l (fJ h).2))
  ·refine iW fun v a=>iU (fun c=>iU (fun o=>bI (bz fun h=>⟨(e (fJ h).2).1,(e (fJ h).2).2,EU c,EU o,(fJ h).1⟩)) (fun _=>bI (bz fun h=> ?_))) (fun _=>bI (bz fun h=> ?_))
   ·rw[a]at h;exact absurd (fJ h).1 jy
   ·rw[a]at h;exact absurd (fJ h).1 jy
  ·exact bI (bz fun h=>⟨(b (fJ h).2).1,(b (fJ h).2).2.1,(b (fJ h).2).2.2,(fJ h).1⟩)
  ·exact bI (bI (bz fun h=>t (fJ h).2))
  ·refine bI (iW fun A u=>bI (iW fun w d=>bz fun h=> ?_));subst u d;exact n (fJ (yF h)).2
 exact k h
theorem aqj {s:aF}{m:aK}{b:List (Str×Bool)}(h:vZ s m b=[]){i:Nat}(n:i < m.Fields.length):Jn s (m.Fields.getD i aB):=by
 have k:VP (Rx s m b) (fun r=>r=[]->∀i,i < m.Fields.length->Jn s (m.Fields.getD i aB)):=by
  unfold Rx;refine gZ (fun _=>True) (bI (bI (bz trivial))) fun u _=>gZ (fun _=>True) (iU (fun _=>bI (lY (lY (bz trivial)))) (fun _=>bI (bz trivial))) fun t _=>
   gZ (fun y=>y.out=[]->∀i,i < m.Fields.length->Jn s (m.Fields.getD i aB)) (lY (axP (fun i y=>y.out=[]->∀j:Nat,(j:Int) < i->Jn s (m.Fields.getD j aB)) (fun _ j c=>absurd c au) (fun i y o l a=>bI (bz fun h=> ?_)) (fun i y o l a=>bz fun h j c=>a h j au))) fun q p=>
   bI (lY (kW (fun _ y=>y.out=[]->∀i,i < m.Fields.length->Jn s (m.Fields.getD i aB)) (fun h=>p (PO h)) (fun k y w a=>lT (bI (bI (bz fun h=>a (fJ h).2)))) (fun y a=>bI (bI (iW fun v d=>bI (bz fun h=> ?_))))))
  ·obtain⟨g,f⟩:=ab6 h;intro j c;rcases Int.lt_or_eq_of_le (show(j:Int)<=i by omega)with e | e
   ·exact a g j e
   ·rw[<-e]at f;exact f
  ·subst d;exact a (yF (fJ h).2)
 exact k h i n
theorem ahl {s:aF}(h:F8 s=[]){m:aK}(q:m∈s.Messages):vZ s m (oH s)=[]:=by
 have k:VP (aiU s) (fun r=>r=[]->∀i,i < s.Messages.length->vZ s (s.Messages.getD i b_) (oH s)=[]):=by
  unfold aiU;refine bI (iW fun t _=>gZ (fun _=>True) ?_ fun B _=>gZ (fun _=>True) (bI (bz trivial)) fun A _=>bI (gZ (fun y=>y.out=[]->∀i,i < s.Messages.length->vZ s (s.Messages.getD i b_) (oH s)=[]) ?_ fun w l=>gZ (fun y=>y.out=[]->∀i,i < s.Messages.length->vZ s (s.Messages.getD i b_) (oH s)=[]) ?_ fun u g=> ?_))
  ·repeat' first
    | exact bz trivial
    | refine bI ?_
    | refine iW fun _ _=> ?_
    | refine gZ (fun _=>True) ?_ fun _ _=> ?_
  ·refine lY (kW (fun n y=>y.out=[]->∀i,i < n->vZ s (s.Messages.getD i b_) (oH s)=[]) (fun _ i b=>absurd b au) (fun k y j a=>lT (bI (iW fun z c=>bI (bz fun h=> ?_)))) (fun y a=>bz a));intro i b;obtain⟨p,o⟩:=Qcx.1 h;rcases Qc7 i k with f | x
   ·exact a p i f
   ·rw[show i=k by omega,<-c];exact o
  ·exact lY (kW (fun _ y=>y.out=[]->∀i,i < s.Messages.length->vZ s (s.Messages.getD i b_) (oH s)=[]) l (fun k y j a=>lT (bI (iW fun v c=>bI (bz fun h=>a (Qcx.1 h).1)))) (fun y a=>bz a))
  ·exact lY (kW (fun _ y=>y.out=[]->∀i,i < s.Messages.length->vZ s (s.Messages.getD i b_) (oH s)=[]) g (fun k y j a=>lT (bI (iW fun v c=>bI (bz fun h=>a (Qcx.1 h).1)))) (fun y a=>bz a))
 obtain⟨i,b,e⟩:=zW (d:=b_) q;rw[<-e];exact k h i b
theorem abt {s:aF}(h:nK s=true){m:aK}(g:m∈s.Messages){f:bu}(c:f∈m.Fields):Jn s f:=by
 have e:F8 s=[]:=by
  unfold nK PW at h;simp only[bG,bF,gm,ay]at h;cases b:F8 s with
  | nil=>rfl
  | cons a l=>rw[b]at h;simp at h;omega
 obtain⟨i,j,k⟩:=zW (d:=aB) c;rw[<-k];exact aqj (ahl e g) j
def aHo (x:Note)(a:Str):Pg Bool:=.ret (x.Name==a)
def awp (x:Note)(a:Str):=(aHo x a).val
def axr:bT Z:=UH [] [] (ax (aQ EY) (a1 (lm 0))) (b1 (cZ cStr)) (R1 aW) [0] func179 1 (u11 aHo)
def aFU:bT Z:=EIB [axr] jE 179 [0] (b1 (cZ cStr)) func178 qI fun x b=>awp x b
def ati (l:List Note)(a:Str):Pg Int:=.ret (dP (fun(x:Note)=>awp x a) l)
def aBS (l:List Note)(a:Str):=(ati l a).val
def axs:bT Z:=E0 [aFU,axr] [] (ax (df jE) (a1 (df cStr))) (R1 cI) [] func107 1 (u2 ati)
def auq (l:List Note)(b:Str):Pg (af×Bool):=.lt (aBS l b) fun a=> .br (decide (a < 0)) (.ret (af.mk 0 0 [] [] [] [] [],false)) (.ix a l.length (.ret ((l.getD a.toNat qI).Val.re,true)))
def acG (l:List Note)(a:Str):=(auq l a).val
theorem aw2 (l:List Note)(a:Str):Is (auq l a):=
 dm fun c b=>bn iR (fun _=>dJ au (by rw[b];exact(kU (fun(x:Note)=>awp x a) l).1) aZ)
def aoY:bT Z:=E0 [axs] [] (ax (df jE) (a1 (df cStr))) (shr [.slot 0 true (nn 7), s0 1] (aC aH (l1 aW))) [] func57 2 (u2 auq) fun a=>aw2 a.1 a.2
def aw1 (l:List Note):Pg (List UInt8):=.ret (acG l [97,108,105,97,115]).1.Text
def wM (l:List Note):=(aw1 l).val
def auD:bT Z:=E0 [aoY] [] (a1 (df jE)) (R1 cStr) [] func52 1 aw1
def auE (l:List ou):Pg (List ou):=.unk false (fun(b:Bool)=>b=true->l.length=0) (.ret []) (.ob (dE (0+l.length) 16) (.ret l))
theorem ara (l:List ou)(h:l.length<=1048576):Is (auE l):=
 FZ (dw au au)
def avM:bT Z:=E2 [] [] (a1 (df pW)) (shr [.slot 0 false [some 137]] (l1 pW)) [] func56 1 auE (fun a=>some (a.length<=1048576)) (fun a=>a) fun a h=>⟨ara a h,rfl⟩
def agT (e:gu):Pg gu:=.ob (e.Reserved.length<=1048576) (aL e.Items (.each false rP e.Items iT (fun c b (a:gu)=> .ix c e.Items.length (.lt (acG b.Notes [97,108,105,97,115]) fun d=> .br d.2 (.ob (dE (a.Items.length+1) 48) (rl (gu.mk a.Name a.Open (a.Items++[Item.mk b.Name b.Num [Note.mk [97,108,105,97,115] d.1.re]]) a.Reserved a.Notes))) (.ob (dE (a.Items.length+1) 48) (rl (gu.mk a.Name a.Open (a.Items++[Item.mk b.Name b.Num []]) a.Reserved a.Notes))))) (fun c (a:gu)=> .ret a) (gu.mk e.Name e.Open [] e.Reserved [])))
def vP (e:gu):=(agT e).val
theorem arR (e:gu)(h:e.Reserved.length<=1048576/\e.Items.length<=1048576):kw (agT e) (fun r=>r.Items.length=e.Items.length/\r.Reserved=e.Reserved/\r.Name=e.Name):=
 aj (qbu) (fD <| dA (fun(b:Nat) a=>a.Items.length=b/\a.Reserved=e.Reserved/\a.Name=e.Name) (by exact⟨rfl,rfl,rfl⟩) au (fun b a f c=>have hI:a.Items.length=b/\a.Reserved=e.Reserved/\a.Name=e.Name:=c;aX au au (aI fun g d=>dL (fun _=>aj (qbu) (ai qbe)) (fun _=>aj (qbu) (ai qbe)))) (fun a hI=>have hI:a.Items.length=e.Items.length/\a.Reserved=e.Reserved/\a.Name=e.Name:=hI;ai qbe))
def aBG:bT Z:=E1 [avM,aoY] [jS 3 (dh (fun b=>[s0 20, .cells (pid (b 3)) [none,none,some 139,none,none]]) (aC cI (l1 o6))),jS 800001 (dh (fun b=>[.cells (pid (b 3)) [none,none,some 139,none,none]]) (l1 o6))] (a1 (aQ o6)) (shr [.slot 0 true (nn 5)] (l1 o6)) [] func26 1 agT (fun a=>a.Reserved.length<=1048576/\a.Items.length<=1048576) fun a h=>(arR a h).1
def aGX (x:aK)(t:DD):Pg Bool:=.ret (x.Name==t.Name)
def aCK (x:aK)(t:DD):=(aGX x t).val
def auX:bT Z:=UH [] [] (ax (aQ jq) (a1 (lm 0))) (b1 (cZ wW)) (R1 aW) [0] func104 1 (u11 aGX)
def aF9:bT Z:=EIB [auX] xB 104 [0] (b1 (cZ wW)) func103 b_ fun x b=>aCK x b
def aGU (x:gu)(t:DD):Pg Bool:=.ret (x.Name==t.Name)
def aC0 (x:gu)(t:DD):=(aGU x t).val
def auU:bT Z:=UH [] [] (ax (aQ o6) (a1 (lm 0))) (b1 (cZ wW)) (R1 aW) [0] func106 1 (u11 aGU)
def aFw:bT Z:=EIB [auU] Dp 106 [0] (b1 (cZ wW)) func105 fF fun x b=>aC0 x b
def UB (s:aF)(t:DD):Pg Int:=.br (t.Kind==10) (.ret (dP (fun(x:aK)=>aCK x t) s.Messages)) (.br (t.Kind==9) (.ret (dP (fun(x:gu)=>aC0 x t) s.Enums)) (.ret (-1)))
def oC (s:aF)(t:DD):=(UB s t).val
def arP:bT Z:=E0 [ayw,aF9,auX,ax1,aFw,auU] [] (ax (aQ bV) (a1 (aQ wW))) (R1 cI) [] func53 1 (u2 UB)
def apS (s:aF)(m:aK)(o:Op):Prop:=∃f∈m.Fields,o.Kind=f.di.Kind/\o.Card=f.Card/\o.Key=f.Key/\o.Target=oC s f.di/\o.Alias=wM f.Notes/\o.Num=f.Num
theorem axU {s:aF}{m:aK}{l:List Op}(h:∀o∈l,apS s m o){f:bu}(b:f∈m.Fields){u:Int}:∀o∈l++[Op.mk f.Num f.Name (wM f.Notes) f.Card f.Key f.di.Kind (oC s f.di) u],apS s m o:=fun o a=>by
 rcases vN.1 a with a | a
 ·exact h o a
 ·rw[FY.1 a];exact⟨f,b,rfl,rfl,rfl,rfl,rfl,rfl⟩
theorem iI {A B:Type}{g:A->B}{l:List A}{i:Nat}{d:A}(a:i < l.length):(l.take (i+1)).map g=(l.take i).map g++[g (l.getD i d)]:=by
 rw[take_snoc (d:=d) a,Qef];rfl
def ahA (s:aF)(m:aK):Pg bC:=aL m.Fields (.each false rP m.Fields aB (fun f b (a:List Str×bC)=> .ix f m.Fields.length (.lt (oC s b.di) fun c=> .lt (wM b.Notes) fun d=> .br (b.Union !=[]) (.br (!a.1.any fun(x:Str)=>b.Union==x) (.ob (dE (a.1.length+1) 16) (.ob (dE (a.2.Ops.length+1) 80) (.lt (a.1++[b.Union]) fun(e:List Str)=> rl (e, bC.mk a.2.Name (a.2.Ops++[Op.mk b.Num b.Name d b.Card b.Key b.di.Kind c (dP (fun(x:Str)=>b.Union==x) e)]) a.2.Zw)))) (.ob (dE (a.2.Ops.length+1) 80) (rl (a.1, bC.mk a.2.Name (a.2.Ops++[Op.mk b.Num b.Name d b.Card b.Key b.di.Kind c (dP (fun(x:Str)=>b.Union==x) a.1)]) a.2.Zw)))) (.ob (dE (a.2.Ops.length+1) 80) (rl (a.1,bC.mk a.2.Name (a.2.Ops++[Op.mk b.Num b.Name d b.Card b.Key b.di.Kind c (-1)]) a.2.Zw))))) (fun f (a:List Str×bC)=> aL a.1 (.ret (bC.mk a.2.Name a.2.Ops (↑a.1.length:Int)))) ([],bC.mk m.Name [] 0))
def mP (s:aF)(m:aK):=(ahA s m).val
theorem aau (s:aF)(m:aK)(h:m.Fields.length<=1048576):kw (ahA s m) (fun g=>g.Ops.length<=m.Fields.length/\g.Name=m.Name/\∀o∈g.Ops,apS s m o):=
 fD <| dA (fun(b:Nat) a=>a.1.length<=b/\a.2.Ops.length<=b/\a.2.Name=m.Name/\∀o∈a.2.Ops,apS s m o) (by exact⟨rC 0,rC 0,rfl,fun o c=>absurd c kM⟩) au (fun b a uC e=>have hI:a.1.length<=b/\a.2.Ops.length<=b/\a.2.Name=m.Name/\∀o∈a.2.Ops,apS s m o:=e;aX au au (aI fun i hv4=>aI fun j hv5=>dL (fun _=>dL (fun _=>aj (qbb) (aj (qbb) (aI fun f hv6=>ai qau))) (fun _=>aj (qbb) (ai qau))) (fun _=>aj (qbb) (ai qau)))) (fun a hI=>have hI:a.1.length<=m.Fields.length/\a.2.Ops.length<=m.Fields.length/\a.2.Name=m.Name/\∀o∈a.2.Ops,apS s m o:=hI;fD <| ai qau)
def azA:bT Z:=E1 [auD,arP,ao6,aCv] [jS 4 (dh (fun b=>[s0 16, .slot 6 false [some 9], .cells (pid (b 5)) [none,some 132,none]]) (aC cI (aC dI (l1 jV)))),jS 800001 (dh (fun b=>[.cells (pid (b 5)) [none,some 132,none]]) (l1 jV))] (ax (aQ bV) (a1 (aQ jq))) (shr [.slot 0 true (nn 3)] (l1 jV)) [] func25 1 (u2 ahA) (fun a=>a.2.Fields.length<=1048576) fun a h=>(aau a.1 a.2 h).1
def aaR (s:aF):Pg (aJ×Int):=.ob (okS s) (.br (!nK s) (.ret (aJ.mk [] [],1)) (.cut (fun(g:aJ)=> aL s.Enums (.each false rP s.Enums fF (fun d c (b:aJ)=> .ix d s.Enums.length (.ob (c.Reserved.length<=1048576/\c.Items.length<=1048576) (.ob (dE (b.Enums.length+1) 96) (rl (aJ.mk b.aO (b.Enums++[vP c])))))) (fun d (b:aJ)=> .ret (b,0)) g)) (aL s.Messages (.each false rP s.Messages b_ (fun e f (a:aJ)=> .ix e s.Messages.length (.ob (f.Fields.length<=1048576) (.ob (dE (a.aO.length+1) 48) (rl (aJ.mk (a.aO++[mP s f]) a.Enums))))) (fun e (a:aJ)=> rl a) (aJ.mk [] [])))))
def tZ (s:aF):=(aaR s).val
theorem abl (s:aF)(h:okS s):kw (aaR s) (fun r=>r.2=0->nK s=true/\r.1=aJ.mk (s.Messages.map (mP s)) (s.Enums.map vP)):=
 have o:s.Messages.length<=150:=h.1;have m:s.Enums.length<=150:=h.2.1;aj (qaw) (dL (fun _=>ai qar) (fun _=>bP (fun i=>i=aJ.mk (s.Messages.map (mP s)) []) (fD <| dA (fun(g:Nat) b=>b=aJ.mk ((s.Messages.take g).map (mP s)) []) (by rfl) au (fun g b n k=>have hI:b=aJ.mk ((s.Messages.take g).map (mP s)) []:=k;aX au au (aj (qaw) (aj (qaw) (ai qar)))) (fun b hI=>have hI:b=aJ.mk ((s.Messages.take s.Messages.length).map (mP s)) []:=hI;ai qar)) (fun i a=>have a:i=aJ.mk (s.Messages.map (mP s)) []:=a;fD <| dA (fun(f:Nat) c=>c=aJ.mk (s.Messages.map (mP s)) ((s.Enums.take f).map vP)) (by(rw[a];rfl)) au (fun f c l j=>have hI:c=aJ.mk (s.Messages.map (mP s)) ((s.Enums.take f).map vP):=j;aX au au (aj (qaw) (aj (qaw) (ai qar)))) (fun c hI=>have hI:c=aJ.mk (s.Messages.map (mP s)) ((s.Enums.take s.Enums.length).map vP):=hI;ai qar))))
def aBv:bT Z:=E1 [auR,azA,aBG] [jS 5 (dh (fun b=>[s0 16, .cells (pid (b 4)) [some 86,some 90]]) (aC cI (l1 dU))),jS 10 (dh (fun b=>[s0 32, .cells (pid (b 4)) [some 86,some 90]]) (aC cI (l1 dU))),jS 100009 (dh (fun b=>[.cells (pid (b 4)) [some 86,some 90]]) (l1 dU)),jS 800003 (dh (fun b=>[.cells (pid (b 4)) [some 86,some 90]]) (l1 dU))] (a1 (aQ bV)) (shr [.slot 0 true [none,none], s0 1] (aC dU (l1 cI))) [] func10 2 aaR (fun a=>okS a) fun a h=>(abl a h).1
theorem af2 {s:aF}(a:okS s)(h:(tZ s).2=0):nK s=true/\(tZ s).1=aJ.mk (s.Messages.map (mP s)) (s.Enums.map vP):=(abl s a).2 h
theorem key_ok {b a:Int}(h:Ew b a=true)(d:b=5):j_ a=true:=by
 subst d;unfold Ew afr at h;simp only[aN,ay]at h;by_cases c:1<=a
 ·by_cases e:a<=7
  ·unfold j_ sIs;simp only[aN,ay];rw[jK c];exact jK au
  ·rw[jK c,jF e]at h;cases h
 ·rw[jF c]at h;cases h
theorem aqS {s:aF}{t:DD}(h:(gG s t.Name).2=true)(a:t.Kind=10):0<=oC s t/\oC s t < s.Messages.length:=by
 have e:oC s t=dP (fun(x:aK)=>x.Name==t.Name) s.Messages:=by
  unfold oC UB;simp only[aN,ay,a];rfl
 have c:=(kU (fun(x:aK)=>x.Name==t.Name) s.Messages).1;rw[A_]at h;rw[e];by_cases b:dP (fun(x:aK)=>x.Name==t.Name) s.Messages < 0
 ·rw[jK b]at h;cases h
 ·exact⟨by omega,c⟩
theorem asJ {s:aF}{f:bu}(h:H6 s f=true)(a:f.di.Kind=10):(gG s f.di.Name).2=true:=by
 unfold H6 aeU at h;simp only[bF,aN,ay,a]at h;cases e:(gG s f.di.Name).2 with
 | true=>rfl
 | false=>
  rw[e]at h;have h:(bif false then f.Card !=3 else false)=true:=h;cases h
theorem aeQ {s:aF}(c:okS s)(h:(tZ s).2=0):mf (tZ s).1:=by
 obtain⟨k,e⟩:=af2 c h;rw[e];intro g u;obtain⟨m,i,rfl⟩:=JC.1 u;have a:=c.2.2.2.1 m i;obtain⟨r,_,t⟩:=(aau s m a.1).2;refine⟨KF r a.1,fun o n=> ?_⟩;obtain⟨f,p,q,j,v,l,_,w⟩:=t o n;obtain⟨f0,⟨f1,f2,f3⟩,f4⟩:=abt k i p;refine⟨fun b=> ?_,fun d=> ?_,by rw[w];exact f0⟩
 ·rw[q]at b;obtain⟨t1,t2⟩:=aqS (asJ f4 b) b;show 0<=o.Target/\o.Target < ((s.Messages.map (mP s)).length:Int)
  rw[l,Qby];exact⟨t1,t2⟩
 ·rw[j]at d;rw[v];exact key_ok f3 d
section
variable {A B Y Z R R' X:Type}
def adQ (I:Y->Z->Prop)(Q:R->R'->Prop):Y⊕R->Z⊕R'->Prop
 | .inl y, .inl z=>I y z
 | .inr r, .inr s=>Q r s
 | _,_=>False
theorem QG {c:Type}{I:X->c->Prop}{Q:R->R'->Prop}{a:X⊕R}{b:c⊕R'}{k:X->R}{d:c->R'}(h:adQ I Q a b)(e:∀x y,I x y->Q (k x) (d y)):Q (thenS a k) (thenS b d):=by
 cases a<;>cases b
 ·exact e _ _ h
 ·exact h.elim
 ·exact h.elim
 ·exact h
theorem rU {b:Nat->A->Y->Y⊕R}{f:Nat->Y->R}{m:Nat->B->Z->Z⊕R'}{u:Nat->Z->R'}{d:A}{d':B}(I:Nat->Y->Z->Prop)(Q:R->R'->Prop):∀(l:List A) (g:List B) (k:Nat) (y:Y) (z:Z),l.length=g.length->I k y z->
  (∀j y z,j < l.length->I (k+j) y z->adQ (I (k+j+1)) Q (b (k+j) (l.getD j d) y) (m (k+j) (g.getD j d') z))->
  (∀y z,I (k+l.length) y z->Q (f (k+l.length) y) (u (k+l.length) z))->Q (jZ b f l k y) (jZ m u g k z)
 | [],[],k,y,z,_,n,_,p=>p y z n
 | a::l,c::g,k,y,z,w,n,o,p=>by
  have e:=o 0 y z kM n;simp only[Qb,show(a::l).getD 0 d=a from rfl,show(c::g).getD 0 d'=c from rfl]at e;unfold jZ;cases i:b k a y with
  | inl v=>cases h:m k c z with
   | inl t=>
    rw[i,h]at e;refine rU (d:=d) (d':=d') I Q l g (k+1) v t (by simpa using w) e (fun j y z C x=> ?_) (fun y z x=> ?_)
    ·have q:=o (j+1) y z xI
     grind
    grind
   | inr s=>rw[i,h]at e;exact e.elim
  | inr r=>cases h:m k c z with
   | inl t=>rw[i,h]at e;exact e.elim
   | inr s=>rw[i,h]at e;exact e
theorem ach {b:Nat->A->Y->Y⊕R}{f:Nat->Y->R}{c:Int->Y->Y⊕R}{g:Int->Y->R}{d:A}:∀(l:List A) (k:Nat) (y:Y),(∀j y,j < l.length->b (k+j) (l.getD j d) y=c ↑(k+j) y)->(∀y,f (k+l.length) y=g ↑(k+l.length) y)->jZ b f l k y=oq c g l.length ↑k y
 | [],k,y,_,i=>i y
 | a::l,k,y,h,i=>by
  have m:=h 0 y kM;simp only[Qb,show(a::l).getD 0 d=a from rfl]at m;unfold jZ;show _=oq c g (l.length+1) ↑k y
  unfold oq;rw[m];cases c ↑k y with
  | inr r=>rfl
  | inl n=>
   have e:((k:Nat):Int)+1=↑(k+1):=by omega
   dsimp only;rw[e];refine ach (d:=d) l (k+1) n (fun j y o=> ?_) (fun y=> ?_)
   ·have q:=h (j+1) y xI
    grind
   grind
end
section
theorem WV {c:UInt8}:∀{v:List UInt8},(∀x∈v,(x==c)=false)->iw c v=[v]
 | [],_=>rfl
 | x::v,h=>by rw[yD (h x kM),WV fun y a=>h y (by simp[a])]
theorem VI {c:UInt8}{v:List UInt8}(b:∀x∈v,(x==c)=false):∀u:List UInt8,iw c (u++c::v)=iw c u++[v]
 | []=>by rw[Qbs,zC kM,WV b];rfl
 | x::u=>by
  have d:=VI b u;rw[Qb1];cases a:x==c with
  | true=>rw[zC a,zC a,d];rfl
  | false=>
   rw[yD a,yD a,d];cases e:iw c u with
   | nil=>exact absurd e (QK c u)
   | cons p f=>rfl
end
theorem auO (b:Nat):b &&& 9218868437227405312=((b / 2 ^ 52) % 2 ^ 11)*2 ^ 52:=by
 have e:(9218868437227405312:Nat)=(2 ^ 11 - 1) <<< 52:=by decide
 rw[e,<-Nat.shiftLeft_eq];apply Nat.eq_of_testBit_eq;intro i;rw[Nat.testBit_and,Nat.testBit_shiftLeft,Nat.testBit_shiftLeft,Nat.testBit_mod_two_pow,Nat.testBit_two_pow_sub_one,Nat.testBit_div_two_pow]
 grind
theorem aFa (b:Nat)(h:b < 2 ^ 64):(b &&& 9218868437227405312=9218868437227405312/\¬(b &&& 4503599627370495=0)) ↔ 9218868437227405312 < b % 9223372036854775808:=by
 have a:b &&& 4503599627370495=b % 2 ^ 52:=Nat.and_two_pow_sub_one_eq_mod b 52;rw[auO,a];omega
def ann (c:UInt8)(s:List UInt8)(r:List UInt8×List UInt8):Prop:=
 (r.1=[]/\r.2=s/\∀x∈s,(x==c)=false)\/(s=r.1++c::r.2/\∀x∈r.2,(x==c)=false)
theorem Gm {c:UInt8}{isW:List UInt8->Bool}{sp:List UInt8->List UInt8×List UInt8}(d:isW []=false)(f:∀y,y.length<=120->ann c y (sp y)){b:Int->List UInt8->List UInt8⊕Bool}
  (j:∀i y,b i y=bif y==[]then .inr true else bif isW (sp y).2 then .inr false else .inl (sp y).1):∀(n:Nat) (i:Int) (y:List UInt8),y.length<=n->n<=120->oq b (fun _ _=>true) n i y= !(iw c y).any isW
 | 0,i,[],_,_=>by simp[oq,iw,d]
 | n+1,i,y,h,s=>by
  unfold oq;rw[j];cases y with
  | nil=>simp[iw,d]
  | cons a y=>
   have e:((a::y)==[])=false:=rfl;rw[e,jm];generalize r:a::y=w at*;rcases f w au with⟨l,g,o⟩ | ⟨l,g⟩
   ·rw[l,g,WV o];cases m:isW w with
    | true=>simp[m]
    | false=>
     have q:=Gm (c:=c) d f j n (i+1) [] kM au;simp only[jm];rw[q];simp[iw,d,m]
   ·have p:(sp w).1.length<=n:=by
     grind
    have q:=Gm (c:=c) d f j n (i+1) (sp w).1 p au;have k:=VI g (sp w).1
    grind
theorem aA0 {c:UInt8}{s:List UInt8}{step:Int->Int⊕(List UInt8×List UInt8)}(a:∀x:Int,-1<=x->x < s.length->step x=bif decide (0<=x)then bif s.getD x.toNat 0==c then .inr (s.take x.toNat,s.drop (x.toNat+1))else .inl (x - 1)else .inr ([],s))(l:List UInt8×List UInt8)(n:Nat)(t:s.length < n):
  ann c s (JE step l n ((s.length:Int) - 1)):=by
 refine Oe (fun(x:Int)=> -1<=x/\x < s.length/\∀j:Nat,x < j->j < s.length->(s.getD j 0==c)=false) (fun(x:Int)=>(x+1).toNat) (fun r=>ann c s r) (fun x b=> ?_) n ((s.length:Int) - 1) ⟨by omega,by omega,fun j h g=>by omega⟩ au;obtain⟨h,g,p⟩:=b;rw[a x h g];by_cases d:0<=x
 ·rw[jK d,cond_true];obtain⟨k,rfl⟩:=Qa8 d;simp only[uZ];cases b:s.getD k 0==c with
  | true=>
   refine .inr ⟨_,rfl, .inr ⟨?_,fun x f=> ?_⟩⟩
   ·have q:k < s.length:=by omega
    have m:s.getD k 0=c:=eq_of_beq b;have e:s.getD k 0=s[k]:=by grind
    rw[<-m,e];simp
   ·obtain⟨i,o,rfl⟩:=Qb7.1 f
    grind
  | false=>
   grind
 ·rw[jF d,jm];refine .inr ⟨_,rfl, .inl ⟨rfl,rfl,fun y f=> ?_⟩⟩;obtain⟨i,o,rfl⟩:=Qb7.1 f
  grind
section
variable {α:Type}[DecidableEq α]
abbrev qy (a:Type):=List (a×((a->Bool)->Bool))
def WE (X:α->Bool)(n:α):α->Bool:=fun a=>decide (a=n) || X a
def uh (X:α->Bool)(r:α×((α->Bool)->Bool)):α->Bool:=bif r.2 X then WE X r.1 else X
def oQ (R:qy α)(X:α->Bool):α->Bool:=R.foldl uh X
def LeB (X Y:α->Bool):Prop:=∀a,X a=true->Y a=true
def aoD (R:qy α):Prop:=∀r∈R,∀X Y,LeB X Y->r.2 X=true->r.2 Y=true
def UU (R:qy α)(C:α->Bool):Prop:=∀r∈R,r.2 C=true->C r.1=true
theorem agz (X:α->Bool)(r:α×((α->Bool)->Bool)):LeB X (uh X r):=fun a h=>by
 unfold uh;cases r.2 X<;>simp[WE,h]
theorem Ny:∀(R:qy α) (X:α->Bool),LeB X (oQ R X)
 | [],X=>fun a h=>h
 | r::R,X=>fun a h=>Ny R (uh X r) a (agz X r a h)
theorem Tc {R:qy α}{C:α->Bool}(g:aoD R)(f:UU R C):∀(c:qy α) (X:α->Bool),(∀r∈c,r∈R)->LeB X C->LeB (oQ c X) C
 | [],X,_,h=>h
 | r::c,X,e,h=>by
  refine Tc g f c (uh X r) (fun q i=>e q (by simp[i])) fun a b=> ?_;unfold uh at b;cases d:r.2 X with
  | false=>rw[d]at b;exact h a b
  | true=>
   rw[d]at b;simp only[cond_true,WE,Qbi,Lh]at b;rcases b with rfl | b
   ·exact f r (e r kM) (g r (e r kM) X C h d)
   ·exact h a b
theorem aa5:∀(R:qy α) (X:α->Bool),LeB (oQ R X) X->UU R X
 | [],X,_=>fun r f=>by cases f
 | r::R,X,h=>by
  have e:uh X r=X:=funext fun a=>by
   cases b:X a with
   | true=>exact agz X r a b
   | false=>
    cases d:uh X r a with
    | false=>rfl
    | true=>rw[h a (Ny R _ a d)]at b;cases b
  have g:LeB (oQ R X) X:=by
   have k:oQ (r::R) X=oQ R (uh X r):=rfl
   grind
  intro q c b;rcases zN.1 c with rfl | c
  ·rw[<-e];unfold uh;rw[b];simp[WE]
  ·exact aa5 R X g q c b
def VY (R:qy α)(X:α->Bool):Nat:=R.countP fun r=>X r.1
end
section
variable {α:Type}
theorem aAV (R:qy α)(X:α->Bool):VY R X<=R.length:=List.countP_le_length
theorem cnt_mono {R:qy α}{X Y:α->Bool}(h:LeB X Y):VY R X<=VY R Y:=List.countP_mono_left fun r _ a=>h _ a
theorem cnt_lt {X Y:α->Bool}(h:LeB X Y):∀{R:qy α} {r:α×((α->Bool)->Bool)},r∈R->X r.1=false->Y r.1=true->VY R X < VY R Y
 | q::R,r,a,c,d=>by
  have m:=cnt_mono (R:=R) h;unfold VY at m⊢;rw[List.countP_cons,List.countP_cons];rcases zN.1 a with rfl | a
  ·grind
  ·have l:=cnt_lt h a c d;unfold VY at l;have k:(if X q.1=true then 1 else 0)<=(if Y q.1=true then 1 else 0):=by
    by_cases b:X q.1=true
    ·rw[nI b,nI (h _ b)];omega
    grind
   omega
end
section
variable {α:Type}[DecidableEq α]
theorem auQ {X:α->Bool}{r:α×((α->Bool)->Bool)}{a:α}(h:uh X r a=true)(b:X a=false):a=r.1:=by
 unfold uh at h;cases c:r.2 X with
 | false=>grind
 | true=>
  rw[c]at h;simp only[cond_true,WE,Qbi,Lh,b,RX,or_false]at h;exact h
theorem ahD:∀(R:qy α) (X:α->Bool) (a:α),oQ R X a=true->X a=false->∃r∈R,r.1=a
 | [],X,a,h,b=>by rw[show X a=true from h]at b;cases b
 | r::R,X,a,h,b=>by
  cases c:uh X r a with
  | true=>exact⟨r,by simp,(auQ c b).symm⟩
  | false=>
   obtain⟨q,d,e⟩:=ahD R (uh X r) a h c
   grind
theorem apH {R:qy α}{X:α->Bool}(h:¬LeB (oQ R X) X):VY R X < VY R (oQ R X):=by
 obtain⟨a,d⟩:∃a,¬(oQ R X a=true->X a=true):=Classical.not_forall.1 h;have c:oQ R X a=true:=Classical.byContradiction fun k=>d fun q=>absurd q k
 have b:X a=false:=by grind
 obtain⟨r,f,e⟩:=ahD R X a c b;subst e;exact cnt_lt (Ny R X) f b c
def zk (R:qy α):Nat->(α->Bool)->(α->Bool)
 | 0,X=>X
 | n+1,X=>zk R n (oQ R X)
theorem ay9 {R:qy α}{X:α->Bool}(h:LeB (oQ R X) X):oQ R X=X:=funext fun a=>by
 cases b:X a with
 | true=>exact Ny R X a b
 | false=>cases c:oQ R X a with
  | false=>rfl
  | true=>rw[h a c]at b;cases b
theorem QM {R:qy α}{X:α->Bool}(h:LeB (oQ R X) X):∀n,zk R n X=X
 | 0=>rfl
 | n+1=>by unfold zk;rw[ay9 h];exact QM h n
theorem EJ {R:qy α}:∀(n:Nat) (X:α->Bool),R.length<=n+VY R X->UU R (zk R n X)
 | 0,X,h=>fun r b _=>by
  have k:=aAV R X;exact List.countP_eq_length.1 (show R.countP (fun r=>X r.1)=R.length from by unfold VY at*;omega) r b
 | n+1,X,h=>by
  by_cases a:LeB (oQ R X) X
  ·rw[QM a];exact aa5 R X a
  ·have k:=apH a;exact EJ n (oQ R X) au
theorem Gx {R:qy α}{C:α->Bool}(b:aoD R)(a:UU R C):∀(n:Nat) (X:α->Bool),LeB X C->LeB (zk R n X) C
 | 0,X,h=>h
 | n+1,X,h=>Gx b a n _ (Tc b a R X (fun _ h=>h) h)
end
section
variable {A S:Type}
theorem not_any {l:List S}{f g:S->Bool}:(!l.any fun n=>f n && !g n)=true ↔ ∀n∈l,f n=true->g n=true:=by
 grind
def Qs (M:List A)(a:A->S)(d:A->List S)(c:S->Bool)(b:S->A):qy S:=M.map fun m=>(a m,fun X=> !(d (b (a m))).any fun n=>c n && !X n)
def KZ (a:Nat)(b:Nat->A)(e:A->List S)(c:S->Bool)(d:S->Nat):qy Nat:=(List.range a).map fun i=>(i,fun X=> !(e (b i)).any fun n=>c n && !X (d n))
theorem aGJ (M:List A)(g:A->S)(i:A->List S)(a:S->Bool)(c:S->A):aoD (Qs M g i a c):=by
 intro r e X Y b h;obtain⟨m,_,rfl⟩:=JC.1 e;exact not_any.2 fun n f d=>b n (not_any.1 h n f d)
theorem aGH (b:Nat)(c:Nat->A)(l:A->List S)(e:S->Bool)(a:S->Nat):aoD (KZ b c l e a):=by
 intro r j X Y d h;obtain⟨i,_,rfl⟩:=JC.1 j;exact(not_any (g:=fun n=>Y (a n))).2 fun n k f=>d _ ((not_any (g:=fun n=>X (a n))).1 h n k f)
end
section
variable {A S:Type}[DecidableEq S]
theorem arn (M:List A)(d:A)(g:A->S)(j:A->List S)(c:S->Bool)(f:S->Nat)(l:S->A)
  (D:∀n,c n=true->f n < M.length/\g (M.getD (f n) d)=n) (z:∀i,i < M.length->c (g (M.getD i d))=true)
  (J:∀n,c n=true->l n=M.getD (f n) d) (a b:Nat) (L:M.length<=a) (I:M.length<=b) (n:S) (K:c n=true):
  zk (Qs M g j c l) a (fun _=>false) n=zk (KZ M.length (fun i=>M.getD i d) j c f) b (fun _=>false) (f n):=by
 have v:=EJ (R:=Qs M g j c l) a (fun _=>false) (by unfold Qs;grind);have w:=EJ (R:=KZ M.length (fun i=>M.getD i d) j c f) b (fun _=>false) (by unfold KZ;grind);generalize H:zk (Qs M g j c l) a (fun _=>false)=F at v;generalize C:zk (KZ M.length (fun i=>M.getD i d) j c f) b (fun _=>false)=G at w;have B:LeB F (fun n=> !c n || G (f n)):=by
  rw[<-H];refine Gx (aGJ M g j c l) (fun r t h=> ?_) a _ (fun _ h=>by cases h);obtain⟨m,E,rfl⟩:=JC.1 t;obtain⟨i,o,rfl⟩:=Qb7.1 E;have e:M[i]=M.getD i d:=by grind
  have s:=z i o;rw[<-e]at s;dsimp only at h⊢;rw[s,Qbj,Qdt];have u:=(D _ s).1;refine w (f (g M[i]),fun X=> !(j (M.getD (f (g M[i])) d)).any fun n=>c n && !X (f n)) (JC.2 ⟨f (g M[i]),Qcv.2 u,rfl⟩) ?_
  grind
 have x:LeB G (fun i=>decide (i≠f (g (M.getD i d))) || F (g (M.getD i d))):=by
  rw[<-C];refine Gx (aGH M.length (fun i=>M.getD i d) j c f) (fun r t h=> ?_) b _ (fun _ h=>by cases h);obtain⟨i,o,rfl⟩:=JC.1 t;have o:=Qcv.1 o;dsimp only at h⊢;by_cases p:i=f (g (M.getD i d))
  ·rw[jF (fun k=>k p),Qdt];have e:M[i]=M.getD i d:=by grind
   refine v (g (M.getD i d),fun X=> !(j (l (g (M.getD i d)))).any fun n=>c n && !X n) (JC.2 ⟨M.getD i d,e▸Qea o,rfl⟩) ?_
   grind
  grind
 cases p:F n with
 | true=>
  have q:(!c n || G (f n))=true:=B n p
  grind
 | false=>
  cases y:G (f n)with
  | false=>rfl
  | true=>
   have q:(decide (f n≠f (g (M.getD (f n) d))) || F (g (M.getD (f n) d)))=true:=x _ y
   grind
end
section
variable {A B Y Z R R' X:Type}
theorem Ij {b:Nat->A->Unit->Unit⊕R}{f:Nat->Unit->R}{p:A->Bool}{g:Nat->R}{z:R}:∀(l:List A) (k:Nat),(∀j a,l[j]? =some a->b (k+j) a ()=bif p a then .inr (g (k+j))else .inl ())->f (k+l.length) ()=z->jZ b f l k ()=bif decide (0<=nZ p l k)then g (nZ p l k).toNat else z
 | [],k,_,c=>c
 | a::l,k,e,c=>by
  have d:=e 0 a rfl;unfold jZ nZ;rw[Qb]at d;rw[d];cases p a with
  | true=>simp
  | false=>exact Ij l (k+1) (fun j a h=>by rw[Qec,Qdn 1 j];simp_all) qg
def axz (p:Nat->A->Bool):List A->Nat->Bool
 | [],_=>false
 | a::l,k=>p k a || axz p l (k+1)
def abG (g:Nat->A->Y->Y):List A->Nat->Y->Y
 | [],_,y=>y
 | a::l,k,y=>abG g l (k+1) (g k a y)
theorem aa3 {b:Nat->A->Y->Y⊕R}{f:Nat->Y->R}{p:Nat->A->Bool}{g:Nat->A->Y->Y}{r:R}:∀(l:List A) (k:Nat) (y:Y),(∀j a y,l[j]? =some a->b (k+j) a y=bif p (k+j) a then .inr r else .inl (g (k+j) a y))->jZ b f l k y=bif axz p l k then r else f (k+l.length) (abG g l k y)
 | [],k,y,_=>rfl
 | a::l,k,y,c=>by
  have d:=c 0 a y rfl;unfold jZ axz abG;rw[Qb]at d;rw[d];cases p k a with
  | true=>rfl
  | false=>
   have q:=aa3 (f:=f) l (k+1) (g k a y) (fun j a y h=>by rw[Qec,Qdn 1 j];exact c (j+1) a y h)
   grind
theorem af_ (p:A->Bool):∀(l:List A) (k:Nat),axz (fun _ a=>p a) l k=l.any p
 | [],_=>rfl
 | a::l,k=>by unfold axz;rw[Qct,af_ p l (k+1)]
theorem acj (p:A->Bool)(n:Nat):∀(l:List A) (k:Nat) (y:Bool),abG (fun j a y=>bif decide (j < n)then bif p a then true else y else y) l k y=(y || (l.take (n - k)).any p)
 | [],k,y=>by simp[abG]
 | a::l,k,y=>by
  unfold abG;rw[acj p n l (k+1)];by_cases h:k < n
  ·rw[jK h,cond_true,show n - k=(n - (k+1))+1 by omega,Qcb,Qct]
   grind
  ·rw[jF h,jm,show n - k=0 by omega,show n - (k+1)=0 by omega];simp
theorem aik {A Y c:Type}[DecidableEq c]{abs:Y->c->Bool}{I:Y->Prop}{g:Y->A->Y}{r:A->c×((c->Bool)->Bool)}:∀(l:List A) (y:Y),I y->(∀a∈l,∀y,I y->I (g y a)/\abs (g y a)=uh (abs y) (r a))->I (l.foldl g y)/\abs (l.foldl g y)=oQ (l.map r) (abs y)
 | [],y,d,_=>⟨d,rfl⟩
 | a::l,y,d,h=>by
  have e:=h a kM y d;have q:=aik l (g y a) e.1 fun b f=>h b (by simp[f])
  refine⟨q.1,?_⟩;show abs (l.foldl g (g y a))=oQ (l.map r) (uh (abs y) (r a))
  rw[q.2,e.2]
theorem aBk (l:List (List UInt8×Bool))(k:List UInt8):(fun n=>mD false (qC l k true) n)=WE (fun n=>mD false l n) k:=funext fun n=>by
 rw[ar8];unfold WE
 grind
theorem azc (l:List Bool)(i:Nat)(h:i < l.length):(fun n=>(l.set i true).getD n false)=WE (fun n=>l.getD n false) i:=funext fun n=>by
 unfold WE
 grind
theorem aky {b:Type}[DecidableEq b](X:b->Bool)(i:b)(h:X i=true):WE X i=X:=funext fun a=>by
 unfold WE;simp_all
end
section
variable {A B Y Z R R' X:Type}
def acb (g:Y->Y):Nat->Y->Y
 | 0,y=>y
 | n+1,y=>acb g n (g y)
theorem abj {b:Int->Y->Y⊕R}{f:Int->Y->R}{g:Y->Y}(a:∀i y,b i y= .inl (g y)):∀(n:Nat) (i:Int) (y:Y),oq b f n i y=f (i+n) (acb g n y)
 | 0,i,y=>by show f i y=f (i+((0:Nat):Int)) y;grind
 | n+1,i,y=>by
  unfold oq acb;rw[a];dsimp only;rw[abj a n (i+1) (g y),show i+1+(n:Int)=i+((n+1:Nat):Int) by omega]
theorem aim {a:Type}[DecidableEq a]{abs:Y->a->Bool}{I:Y->Prop}{g:Y->Y}{c:qy a}(b:∀y,I y->I (g y)/\abs (g y)=oQ c (abs y)):∀(n:Nat) (y:Y),I y->abs (acb g n y)=zk c n (abs y)
 | 0,y,_=>rfl
 | n+1,y,d=>by
  have h:=b y d;unfold acb zk;rw[aim b n (g y) h.1,h.2]
theorem ah0 {e:Type}[DecidableEq e]{abs:Y->e->Bool}{I:Y->Prop}{g:Y->Bool×Y}{Rs:qy e}{b:Int->Bool×Y->(Bool×Y)⊕R}{f:Int->Bool×Y->R}{F:Y->R}(j:∀i m y,I y->b i (m,y)=bif m then .inl (g y)else .inr (F y))(k:∀i m y,f i (m,y)=F y)
  (l:∀y,I y->I (g y).2/\abs (g y).2=oQ Rs (abs y)/\((g y).1=false->abs (g y).2=abs y)):∀(n:Nat) (i:Int) (m:Bool) (y:Y),I y->(m=false->oQ Rs (abs y)=abs y)->∃d,oq b f n i (m,y)=F d/\I d/\abs d=zk Rs n (abs y)
 | 0,i,m,y,c,_=>⟨y,k i m y,c,rfl⟩
 | n+1,i,m,y,c,s=>by
  unfold oq;rw[j i m y c];cases m with
  | false=>
   refine⟨y,rfl,c,?_⟩;rw[QM (fun a h=>by simp_all)]
  | true=>
   obtain⟨r,q,u⟩:=l y c;obtain⟨d,o,p,t⟩:=ah0 j k l n (i+1) (g y).1 (g y).2 r fun s=>by
    grind
   refine⟨d,o,p,?_⟩;rw[t,q];rfl
theorem JB {A c:Type}[DecidableEq c]{abs:Y->c->Bool}{I:Y->Prop}{g:Bool×Y->A->Bool×Y}{r:A->c×((c->Bool)->Bool)}:∀(l:List A) (m:Bool) (y:Y),I y->(∀a∈l,∀m y,I y->I (g (m,y) a).2/\abs (g (m,y) a).2=uh (abs y) (r a)/\((g (m,y) a).1=false->m=false/\abs (g (m,y) a).2=abs y))->
  I (l.foldl g (m,y)).2/\abs (l.foldl g (m,y)).2=oQ (l.map r) (abs y)/\((l.foldl g (m,y)).1=false->m=false/\abs (l.foldl g (m,y)).2=abs y)
 | [],m,y,d,_=>⟨d,rfl,fun h=>⟨h,rfl⟩⟩
 | a::l,m,y,d,h=>by
  obtain⟨i,n,k⟩:=h a kM m y d;obtain⟨e,j,p⟩:=JB l (g (m,y) a).1 (g (m,y) a).2 i fun b f=>h b (by simp[f])
  refine⟨e,?_,fun o=> ?_⟩
  ·show abs (l.foldl g (g (m,y) a)).2=oQ (l.map r) (uh (abs y) (r a))
   grind
  grind
end
def xU (v:af):Prop:=0<=v.Bits/\v.Bits < 18446744073709551616/\v.Text.length<=1048576/\v.List.length<=1048576/\v.Pairs.length<=1048576/\v.Slots.length<=1048576/\v.dH.length<=1048576
theorem anr (s:Str):Ib s=Ie s:=rfl
theorem af5 (k:Int):EG k=zl k:=rfl
theorem acQ (k:Int):j_ k=Gy k:=rfl
theorem ao7 (v:af):wL v=decide ((v.List.length:Int)+v.Pairs.length+v.Slots.length+v.dH.length=0):=by
 unfold wL adM;simp only[aN,ay,Qa7,Vt]
 grind
theorem anA (v:af)(h:xU v):adZ v=(bif wL v then bif zl v.Kind then v.Bits==0 else v.Text==[]else false):=by
 obtain⟨_,_,_,d,c,b,a⟩:=h;have w:∀x:Int,0<=x->x<=16777216->bJ .i64 x=x:=fun x _ _=>bY (k:= .i64) p_
 unfold adZ awI;simp only[gm,bF,aN,ay,af5];rw[w ((v.List.length:Int)+v.Pairs.length) au au,w (_+(v.Slots.length:Int)) au au,w (_+(v.dH.length:Int)) au au,ao7]
 grind
theorem Ye (k:Int)(v:af)(h:xU v):KO k v=wJ k v:=by
 unfold KO aub wJ P7;simp only[aN,ay,bG,bF,af.dn,anA v h,anr,acQ];cases Gy k with
 | false=>rfl
 | true=>
  cases a:v.Kind !=k with
  | true=>rfl
  | false=>
   have a:v.Kind=k:=by simpa using a
   cases wL v with
   | false=>rfl
   | true=>
    unfold aio aeY zl Vs;simp only[aN,ay,bF,a,Qbj,jm,cond_true]
    grind
theorem agf (b:Int)(d:0<=b)(e:b < 18446744073709551616):(Ig b==0)=(CO b==0):=by
 obtain⟨n,rfl⟩:=Qa8 d;have a:n < 2 ^ 64:=by omega
 have a1:uF .u64 (n:Int) 9218868437227405312=((n &&& 9218868437227405312:Nat):Int):=GH (k:= .u64) rfl a jy;have a2:uF .u64 (n:Int) 4503599627370495=((n &&& 4503599627370495:Nat):Int):=GH (k:= .u64) rfl a jy;have c:=aFa n a;have m:(n:Int).tmod 9223372036854775808=((n % 9223372036854775808:Nat):Int):=rfl;unfold Ig ala CO Ut;simp only[aN,ay,bG,a1,a2,m,Qa7,Vt,Qdd,Lh,ne_eq]
 grind
theorem Vg (v:af)(h:xU v):kQ v=lq v:=by
 unfold kQ ah8 lq XT;simp only[aN,ay,agf v.Bits h.1 h.2.1]
theorem aHa (v:af)(h:xU v)(w:af)(b:w.List.length=v.List.length/\w.Pairs.length=v.Pairs.length/\w.Slots.length=v.Slots.length/\w.dH.length=v.dH.length):Fe v w=(v.Kind==w.Kind && (v.Bits==w.Bits && (v.Text==w.Text && wL v))):=by
 obtain⟨_,_,_,f,e,d,c⟩:=h;have a:∀x:Int,0<=x->x<=16777216->bJ .i64 x=x:=fun x _ _=>bY (k:= .i64) p_
 unfold Fe WH;simp only[gm,aN,ay];rw[b.1,b.2.1,b.2.2.1,b.2.2.2];rw[a ((v.List.length:Int)+v.Pairs.length) au au];rw[a ((v.List.length:Int)+v.Pairs.length+v.Slots.length) au au];rw[a ((v.List.length:Int)+v.Pairs.length+v.Slots.length+v.dH.length) au au];rw[a ((v.List.length:Int)+v.Pairs.length+v.Slots.length+v.dH.length+v.List.length) au au];rw[a ((v.List.length:Int)+v.Pairs.length+v.Slots.length+v.dH.length+v.List.length+v.Pairs.length) au au];rw[a ((v.List.length:Int)+v.Pairs.length+v.Slots.length+v.dH.length+v.List.length+v.Pairs.length+v.Slots.length) au au];rw[a ((v.List.length:Int)+v.Pairs.length+v.Slots.length+v.dH.length+v.List.length+v.Pairs.length+v.Slots.length+v.dH.length) au au,ao7]
 grind
theorem Qy:nC=[([100,101,112,114,101,99,97,116,101,100],⟨1,126⟩),([100,111,99],⟨7,126⟩),([97,108,105,97,115],⟨7,84⟩),([115,105,110,99,101],⟨4,84⟩),([117,110,116,105,108],⟨4,84⟩),([109,105,110],⟨3,4⟩),([109,97,120],⟨3,4⟩),([108,101,110,103,116,104],⟨4,4⟩),([115,101,99,114,101,116],⟨1,4⟩),([105,100,101,109,112,111,116,101,110,116],⟨1,64⟩),([116,105,109,101,111,117,116],⟨4,64⟩),([114,111,117,116,101],⟨7,64⟩),([111,119,110,101,114],⟨7,34⟩)]:=rfl
theorem apd {Q:Str->Prop}(b:∀p∈nC,Q p.1)(a:∀n,(∀p∈nC,n≠p.1)->Q n)(n:Str):Q n:=by
 grind
theorem aC1 {Q:Str×h_->Prop}(l:Q ([100,101,112,114,101,99,97,116,101,100],⟨1,126⟩))(j:Q ([100,111,99],⟨7,126⟩))(i:Q ([97,108,105,97,115],⟨7,84⟩))(f:Q ([115,105,110,99,101],⟨4,84⟩))(n:Q ([117,110,116,105,108],⟨4,84⟩))(g:Q ([109,105,110],⟨3,4⟩))(h:Q ([109,97,120],⟨3,4⟩))(m:Q ([108,101,110,103,116,104],⟨4,4⟩))(k:Q ([115,101,99,114,101,116],⟨1,4⟩))(b:Q ([105,100,101,109,112,111,116,101,110,116],⟨1,64⟩))(c:Q ([116,105,109,101,111,117,116],⟨4,64⟩))(d:Q ([114,111,117,116,101],⟨7,64⟩))(e:Q ([111,119,110,101,114],⟨7,34⟩)):∀p∈nC,Q p:=by
 intro p a;rw[Qy]at a;simp only[zN,Qbq,or_false]at a;rcases a with rfl | rfl | rfl | rfl | rfl | rfl | rfl | rfl | rfl | rfl | rfl | rfl | rfl<;>assumption
theorem ay5 {n:Str}(h:∀p∈nC,n≠p.1):n≠[100,101,112,114,101,99,97,116,101,100]/\n≠[100,111,99]/\n≠[97,108,105,97,115]/\n≠[115,105,110,99,101]/\n≠[117,110,116,105,108]/\n≠[109,105,110]/\n≠[109,97,120]/\n≠[108,101,110,103,116,104]/\n≠[115,101,99,114,101,116]/\n≠[105,100,101,109,112,111,116,101,110,116]/\n≠[116,105,109,101,111,117,116]/\n≠[114,111,117,116,101]/\n≠[111,119,110,101,114]:=by
 rw[Qy]at h;simp_all
theorem kind_other {n:Str}(h:∀p∈nC,n≠p.1):PI n=0/\qw n=0/\zn nC n=false:=by
 obtain⟨l,j,i,e,o,f,g,m,k,a,b,c,d⟩:=ay5 h;refine⟨?_,?_,?_⟩
 ·unfold PI axp;simp only[ay,Qy,mD,l,j,i,e,o,f,g,m,k,a,b,c,d,if_false];rfl
 ·unfold qw aeP;simp only[gz,aN,ay,beq_eq_false_iff_ne.2 l,beq_eq_false_iff_ne.2 j,beq_eq_false_iff_ne.2 i,beq_eq_false_iff_ne.2 e,beq_eq_false_iff_ne.2 o,beq_eq_false_iff_ne.2 f,beq_eq_false_iff_ne.2 g,beq_eq_false_iff_ne.2 m,beq_eq_false_iff_ne.2 k,beq_eq_false_iff_ne.2 a,beq_eq_false_iff_ne.2 b,beq_eq_false_iff_ne.2 c,beq_eq_false_iff_ne.2 d,jm,fG]
 ·unfold zn
  grind
theorem Kq:∀p∈nC,PI p.1=p.2.kind/\qw p.1=p.2.kind/\p.2.kind≠0/\zn nC p.1=true/\(mD kH.z nC p.1)=p.2:=
 aC1 ⟨rfl,rfl,by decide,rfl,rfl⟩ ⟨rfl,rfl,by decide,rfl,rfl⟩ ⟨rfl,rfl,by decide,rfl,rfl⟩ ⟨rfl,rfl,by decide,rfl,rfl⟩ ⟨rfl,rfl,by decide,rfl,rfl⟩ ⟨rfl,rfl,by decide,rfl,rfl⟩ ⟨rfl,rfl,by decide,rfl,rfl⟩ ⟨rfl,rfl,by decide,rfl,rfl⟩ ⟨rfl,rfl,by decide,rfl,rfl⟩ ⟨rfl,rfl,by decide,rfl,rfl⟩ ⟨rfl,rfl,by decide,rfl,rfl⟩ ⟨rfl,rfl,by decide,rfl,rfl⟩ ⟨rfl,rfl,by decide,rfl,rfl⟩
theorem ajE (t:Int)(a:t=1\/t=2\/t=3\/t=4\/t=5\/t=6):∀p∈nC,(uF .i64 (BD .i64 p.2.targets t) (1:Int)==0)= !IQ p.1 t:=by
 rcases a with rfl | rfl | rfl | rfl | rfl | rfl<;>exact aC1 rfl rfl rfl rfl rfl rfl rfl rfl rfl rfl rfl rfl rfl
theorem right_eq (n:Note)(h:xU n.Val):aeH n=wX n:=by
 have c:PI n.Name=qw n.Name:=apd (Q:=fun m=>PI m=qw m) (fun p a=>(Kq p a).1.trans (Kq p a).2.1.symm) (fun m b=>(kind_other b).1.trans (kind_other b).2.1.symm) n.Name;unfold aeH akk wX Vd;simp only[bF,aN,ay,af.dn,c,Ye _ _ h];cases qw n.Name !=0 with
 | false=>rfl
 | true=>
  cases d:n.Val.Kind==qw n.Name with
  | true=>rfl
  | false=>
   have:(n.Val.Kind !=qw n.Name)=true:=by grind
   unfold wJ P7;simp_all
def XG (l:List Note):Prop:=∀n∈l,xU n.Val
theorem aEN (n:Note)(h:xU n.Val)(t:Int)(i:t=1\/t=2\/t=3\/t=4\/t=5\/t=6)(a:Str)(b:Bool):as4 n t a b=(bif qw n.Name==0 then 8 else bif !IQ n.Name t then 1 else bif !wX n then 12 else bif b then bif Op.bytesLess n.Name a then 11 else bif n.Name==a then 9 else 0 else 0):=by
 have t1:¬t < 1:=by omega
 have t6:¬(6:Int) < t:=by omega
 unfold as4 aE0;simp only[aN,gz,ay,bG,af.dn,right_eq n h,jF t1,jF t6,jm,fG];have c:(TD kH D.kG nC).has (Pv.str n.Name)=zn nC n.Name:=rfl;rw[c];refine apd (Q:=fun m=>(bif !zn nC m then(8:Int)else bif uF .i64 (BD .i64 (mD kH.z nC m).targets t) (1:Int)==0 then 1 else bif !wX n then 12 else bif b then bif Op.bytesLess n.Name a then 11 else bif b then bif n.Name==a then 9 else 0 else 0 else bif b then bif n.Name==a then 9 else 0 else 0)=(bif qw m==0 then 8 else bif !IQ m t then 1 else bif !wX n then 12 else bif b then bif Op.bytesLess n.Name a then 11 else bif n.Name==a then 9 else 0 else 0)) (fun p e=> ?_) (fun m c=> ?_) n.Name
 ·obtain⟨_,d,f,j,g⟩:=Kq p e;rw[j,g,ajE t i p e,d,beq_eq_false_iff_ne.2 f]
  grind
 ·obtain⟨_,d,f⟩:=kind_other c
  grind
theorem avL (l:List Note)(h:XG l)(t:Int)(g:t=1\/t=2\/t=3\/t=4\/t=5\/t=6):aeM l t=O4 l t:=by
 unfold aeM amE O4 Uk;simp only[aN,gm,fM,dN,bF,gz,ay];cases c:decide (8 < (l.length:Int))with
 | true=>rfl
 | false=>
  have c:¬8 < (l.length:Int):=Qbm c;simp only[jm];refine rU (d:=qI) (d':=qI) (fun k (y:List UInt8) _=>k=0\/y=(l.getD (k - 1) qI).Name) Eq l l 0 [] () rfl (.inl rfl) (fun j y z f b=> ?_) (fun _ _ _=>rfl);simp only[zM]at b⊢;have o:=h _ (getD_mem (d:=qI) f);generalize p:l.getD j qI=n at*;have i:(Note.mk n.Name n.Val.re)=n:=by rw[af.dn]
  rw[i,aEN n o t g y];by_cases a:j=0
  ·have d0:decide ((0:Int) < (j:Int))=false:=jF au;rw[d0];cases qw n.Name==0 with
   | true=>rfl
   | false=>
    cases IQ n.Name t with
    | false=>rfl
    | true=>
     cases wX n with
     | false=>rfl
     | true=>exact .inr qg
  ·have d0:decide ((0:Int) < (j:Int))=true:=jK au;have m:y=(l.getD (j - 1) qI).Name:=b.resolve_left a;have e:(bJ .i64 ((j:Int) - 1)).toNat=j - 1:=by rw[bY (k:= .i64) p_];omega
   rw[d0,e,<-m];cases qw n.Name==0 with
   | true=>rfl
   | false=>
    cases IQ n.Name t with
    | false=>rfl
    | true=>
     cases wX n with
     | false=>rfl
     | true=>
      cases Op.bytesLess n.Name y with
      | true=>rfl
      | false=>
       cases n.Name==y with
       | true=>rfl
       | false=>exact .inr qg
end
end Go.Proofs.YtenjjcfebflefaaGreatDoor
