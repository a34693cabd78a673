/- Codecs: plan.Check. -/
import Derived.Test.YtjojefbphdmnjaaGreatDoorP4
import Derived.WalkKit
import Derived.WalkSpells
import Derived.Lib.Overlaps
import Derived.Lib.AppendZeros
import Derived.Laws.Externs
import Derived.Shelf.RegionOpenPlain
import Derived.Lib.Walk
import Derived.Shelf.Spec.SlicesInsert
import Derived.Test.YtjojefbphdmnjaaGreatDoorEng17
import Derived.Lib.SliceRun
namespace Go.Proofs.YtjojefbphdmnjaaGreatDoor
noncomputable section
open Go.RowKit Go.Vc
open Tryz
set_option linter.unusedVariables false
set_option linter.unusedSimpArgs false
set_option maxRecDepth 100000
def ao4 (o:Op):Pg Bool:=.br (o.Card !=5) (.ret (o.Key==0)) (.br (decide (1<=o.Key)) (.br (decide (o.Key<=7)) (.ret (o.Key !=6)) (.ret false)) (.ret false))
def avS (o:Op):=(ao4 o).val
def ars:Ent Z:=E0 [] [] (a1 (aAgg gU)) (R1 aj) [] func366 1 ao4
def aq8 (p:bJ)(o:Op):Pg Bool:=.br (o.Kind==10) (.br (decide (0<=o.Target)) (.br (decide (o.Target < (↑p.aO.length:Int))) (aL p.aO (.ret (o.Card !=3))) (aL p.aO (.ret false))) (.ret false)) (.br (o.Kind==9) (.br (decide (0<=o.Target)) (aL p.Enums (.ret (decide (o.Target < (↑p.Enums.length:Int))))) (.ret false)) (.br (fA o.Kind) (.ret (o.Target==(-1))) (.ret false)))
def axI (p:bJ)(o:Op):=(aq8 p o).val
def arG:Ent Z:=E0 [DV] [] (aCons (aAgg b_) (a1 (aAgg gU))) (R1 aj) [] func367 1 (u2 aq8)
def ajj (g:aY):Pg Bool:=aL g.Ops (.each false lF g.Ops x9 (fun c a (b:Int×Int)=> .ix c g.Ops.length (.br (a.Union !=(-1)) (.br (a.Card !=2) (.ret (.inr false)) (.lt (wrp .i64 (b.1+1)) fun d=> .br (a.Union !=d) (.br (a.Union !=b.2) (.ret (.inr false)) (rl (max b.1 a.Union,a.Union))) (rl (max b.1 a.Union,a.Union)))) (rl (max b.1 a.Union,a.Union)))) (fun c (b:Int×Int)=> .ret (g.TY==wrp .i64 (b.1+1))) ((-1),(-1)))
def atm (g:aY):=(ajj g).val
def amZ:Ent Z:=E0 [] [jS 3 (aT (fun b=>[s0 10, s0 3, s0 4]) (lCons cI (lCons cI (l1 cI))))] (a1 (aAgg fJ)) (R1 aj) [] func364 1 ajj
def azO (x:Op)(p:bJ):Pg Bool:=.ob (List.length x.Alias<=9223372036854775700) (.br (!yN x.Alias) (.ret true) (.br (decide (4096 < (↑(List.length x.Alias):Int))) (.ret true) (.br (decide (x.Card < 1)) (.ret true) (.br (decide (5 < x.Card)) (.ret true) (.br (!avS x) (.ret true) (.ret !axI p x))))))
def Bd (x:Op)(p:bJ):=(azO x p).val
def Nq:Ent Z:=Ae [um,ars,arG] [] (aCons (aAgg gU) (a1 (fG 0))) (b1 (aF b_)) (R1 aj) [0] func365 1 (u11 azO) fun a=>a.1.1.Alias.length<=1048576
def aAb (l:List Op)(p:bJ):Pg Int:=aL l (.each false m_ l x9 (fun a b (c:Unit)=> .ix a l.length (.ob (List.length b.Alias<=1048576) (.br (Bd b p) (.ret (.inr a)) (rl ())))) (fun a (c:Unit)=> .ret (-1)) ())
theorem aqV (l:List Op)(p:bJ)(h:∀x∈l,x.Alias.length<=1048576):Is (aAb l p):=
 bW fun _=>dh (.inr ah) (fun b a _ _=>aW ah ah (az ((h _ (getD_mem ah))) (is_br iR iR))) (fun a _=>is_ret)
def akh:Ent Z:=WO [Nq] [jS 2 (aT (fun b=>[s0 8]) (l1 cI))] (aCons (aLf lN) (a1 (ja 365 [0]))) (b1 (aF b_)) (R1 cI) [0] func422 1 (u11 aAb) (fun a=>some (∀x∈a.1.1,x.Alias.length<=1048576)) (fun a=>eX (fun(x:Op)=>(Bd x a.2)) a.1.1) fun a h=>⟨aqV a.1.1 a.2 h,(fun(l:List Op) p _=>lJ (fun(x:Op)=>(Bd x p)) l 0) a.1.1 a.2 h⟩
def aAC (l:List Op)(p:bJ):Pg Bool:=.ob (∀(x:Op),x∈l->List.length x.Alias<=1048576) (.lt (eX (fun(x:Op)=>Bd x p) l) fun a=> .ret (decide (0<=a)))
theorem aqs (l:List Op)(p:bJ)(h:∀x∈l,x.Alias.length<=1048576):Is (aAC l p):=
 az (h) (bg fun b a=>is_ret)
def ai4:Ent Z:=WO [Nq,Js,G8,Ot,ZR,akh] [] (aCons (aLf lN) (a1 (ja 365 [0]))) (b1 (aF b_)) (R1 aj) [0] func438 1 (u11 aAC) (fun a=>some (∀x∈a.1.1,x.Alias.length<=1048576)) (fun a=>a.1.1.any fun(x:Op)=>(Bd x a.2)) fun a h=>⟨aqs a.1.1 a.2 h,(fun(l:List Op) p _=>nJ _ l) a.1.1 a.2 h⟩
def az8 (l:List Op)(p:bJ):Pg Bool:=.ob (∀(x:Op),x∈l->List.length x.Alias<=1048576) (.ret (l.any fun(x:Op)=>Bd x p))
theorem aok (l:List Op)(p:bJ)(h:∀x∈l,x.Alias.length<=1048576):Is (az8 l p):=
 az (h) (is_ret)
def ajs:Ent Z:=WO [Nq,FO,M_,ZH,ai4] [] (aCons (aLf lN) (a1 (ja 365 [0]))) (b1 (aF b_)) (R1 aj) [0] func337 1 (u11 az8) (fun a=>some (∀x∈a.1.1,x.Alias.length<=1048576)) (fun a=>a.1.1.any fun(x:Op)=>(Bd x a.2)) fun a h=>⟨aok a.1.1 a.2 h,rfl⟩
def aFq (x:aY)(p:bJ):Pg Bool:=.br (!atm x) (.ret true) (.ob (∀(a:Op),a∈x.Ops->List.length a.Alias<=1048576) (.ret (x.Ops.any fun(x:Op)=>Bd x p)))
def KL (x:aY)(p:bJ):=(aFq x p).val
def Zt:Ent Z:=Ae [H8,NW,Xj,ajs,amZ,Nq] [] (aCons (aAgg fJ) (a1 (fG 0))) (b1 (aF b_)) (R1 aj) [0] func363 1 (u11 aFq) fun a=>∀o∈a.1.1.Ops,o.Alias.length<=1048576
def aGG (l:List aY)(p:bJ):Pg Int:=aL l (.each false m_ l bH (fun a b (c:Unit)=> .ix a l.length (.ob (∀(o:Op),o∈b.Ops->List.length o.Alias<=1048576) (.br (KL b p) (.ret (.inr a)) (rl ())))) (fun a (c:Unit)=> .ret (-1)) ())
theorem ay5 (l:List aY)(p:bJ)(h:∀x∈l,∀o∈x.Ops,o.Alias.length<=1048576):Is (aGG l p):=
 bW fun _=>dh (.inr ah) (fun b a _ _=>aW ah ah (az ((h _ (getD_mem ah))) (is_br iR iR))) (fun a _=>is_ret)
def aDy:Ent Z:=WO [Zt] [jS 2 (aT (fun b=>[s0 8]) (l1 cI))] (aCons (aLf g_) (a1 (ja 363 [0]))) (b1 (aF b_)) (R1 cI) [0] func173 1 (u11 aGG) (fun a=>some (∀x∈a.1.1,∀o∈x.Ops,o.Alias.length<=1048576)) (fun a=>eX (fun(x:aY)=>(KL x a.2)) a.1.1) fun a h=>⟨ay5 a.1.1 a.2 h,(fun(l:List aY) p _=>lJ (fun(x:aY)=>(KL x p)) l 0) a.1.1 a.2 h⟩
def aHs (l:List aY)(p:bJ):Pg Bool:=.ob (∀(x:aY),x∈l->∀(o:Op),o∈x.Ops->List.length o.Alias<=1048576) (.lt (eX (fun(x:aY)=>KL x p) l) fun a=> .ret (decide (0<=a)))
theorem awx (l:List aY)(p:bJ)(h:∀x∈l,∀o∈x.Ops,o.Alias.length<=1048576):Is (aHs l p):=
 az (h) (bg fun b a=>is_ret)
def aC8:Ent Z:=WO [uu,Jk,Qz,YV,ae7,ar7,aDy,Zt] [] (aCons (aLf g_) (a1 (ja 363 [0]))) (b1 (aF b_)) (R1 aj) [0] func436 1 (u11 aHs) (fun a=>some (∀x∈a.1.1,∀o∈x.Ops,o.Alias.length<=1048576)) (fun a=>a.1.1.any fun(x:aY)=>(KL x a.2)) fun a h=>⟨awx a.1.1 a.2 h,(fun(l:List aY) p _=>nJ _ l) a.1.1 a.2 h⟩
def aHT (l:List aY)(p:bJ):Pg Bool:=.ob (∀(x:aY),x∈l->∀(o:Op),o∈x.Ops->List.length o.Alias<=1048576) (.ret (l.any fun(x:aY)=>KL x p))
theorem azd (l:List aY)(p:bJ)(h:∀x∈l,∀o∈x.Ops,o.Alias.length<=1048576):Is (aHT l p):=
 az (h) (is_ret)
def aCx:Ent Z:=WO [Zt,J5,O0,Zk,afg,arf,aC8] [] (aCons (aLf g_) (a1 (ja 363 [0]))) (b1 (aF b_)) (R1 aj) [0] func331 1 (u11 aHT) (fun a=>some (∀x∈a.1.1,∀o∈x.Ops,o.Alias.length<=1048576)) (fun a=>a.1.1.any fun(x:aY)=>(KL x a.2)) fun a h=>⟨azd a.1.1 a.2 h,rfl⟩
def azZ (x:Item):Pg Bool:=.br (decide (1 < (↑x.Notes.length:Int))) (.ret true) (.br ((↑x.Notes.length:Int)==1) (.ix 0 x.Notes.length (.br ((x.Notes.getD 0 zC).Name !=[97,108,105,97,115]) (.ret true) (.ret (aiK x.Notes (4:Int) !=0)))) (.ret false))
def XN (x:Item):=(azZ x).val
def Oz:Ent Z:=E0 [ach] [] (a1 (aAgg kE)) (R1 aj) [] func369 1 azZ
def axg:Ent Z:=EI [Oz] eG 369 func299 jF XN
def avy:Ent Z:=EA [I9,Pj,Gm,OG,J6,atr,axg,Oz] eG 369 func214 XN
def avM:Ent Z:=E0 [Je,PQ,Ih,ND,Jm,arW,avy,Oz] [] (aCons (aLf eG) (a1 (ja 369 []))) (R1 aj) [] func341 1 fun a=>.ret (a.1.any fun(x:Item)=>(XN x))
def aG_ (x:df):Pg Bool:=.br (decide (0 < (↑x.Notes.length:Int))) (.ret true) (.ret (x.Items.any fun(x:Item)=>XN x))
def ahY (x:df):=(aG_ x).val
def XZ:Ent Z:=E0 [N_,Ja,asX,avM,Oz] [] (a1 (aAgg iF)) (R1 aj) [] func368 1 aG_
def aCO:Ent Z:=EI [XZ] dY 368 func186 jg ahY
def aCQ:Ent Z:=EA [yP,AO,EU,IQ,Rx,N7,aeU,azK,aCO,XZ] dY 368 func437 ahY
def aCt:Ent Z:=E0 [XZ,Em,JK,Rw,Np,aeA,aAv,aCQ] [] (aCons (aLf dY) (a1 (ja 368 []))) (R1 aj) [] func333 1 fun a=>.ret (a.1.any fun(x:df)=>(ahY x))
def asD (p:bJ):Pg Bool:=.ob (∀(x:aY),x∈p.aO->∀(o:Op),o∈x.Ops->List.length o.Alias<=1048576) (.br (p.aO.any fun(x:aY)=>KL x p) (.ret true) (.ret (p.Enums.any fun(x:df)=>ahY x)))
def awf (p:bJ):=(asD p).val
def atJ:Ent Z:=E1 [Jw,QN,Zc,afv,anT,aCx,EF,JB,Rf,OI,afA,aAM,aCt,Zt,XZ] [] (a1 (aAgg b_)) (R1 aj) [] func249 1 asD fun a=>∀x∈a.aO,∀o∈x.Ops,o.Alias.length<=1048576
def aGj (x:Op)(a:List Bool):Pg Bool:=.br (x.Card==1) (.br (x.Kind==10) (.ix x.Target a.length (.ob (x.Target.toNat < a.length) (.ret !a.getD x.Target.toNat false))) (.ret false)) (.ret false)
def KZ (x:Op)(a:List Bool):=(aGj x a).val
def ZO:Ent Z:=Ae [] [] (aCons (aAgg gU) (a1 (fG 0))) (eF (XV 1) (b1 (jJ 4 D.bool qw))) (R1 aj) [0,1] func370 1 (fun a=>aGj a.1.1 a.2.2) fun a=>a.1.1.Kind=10->0<=a.1.1.Target/\a.1.1.Target < a.2.2.length
def aGz (l:List Op)(b:List Bool):Pg Int:=aL l (.each false m_ l x9 (fun c a (d:Unit)=> .ix c l.length (.ob (a.Kind=10->0<=a.Target/\a.Target < (↑b.length:Int)) (.br (KZ a b) (.ret (.inr c)) (rl ())))) (fun c (d:Unit)=> .ret (-1)) ())
theorem axK (l:List Op)(a:List Bool)(h:∀x∈l,x.Kind=10->0<=x.Target/\x.Target < a.length):Is (aGz l a):=
 bW fun _=>dh (.inr ah) (fun c b _ _=>aW ah ah (az ((h _ (getD_mem ah))) (is_br iR iR))) (fun b _=>is_ret)
def aBe:Ent Z:=WO [ZO] [jS 2 (aT (fun c=>[s0 8]) (l1 cI))] (aCons (aLf lN) (a1 (ja 370 [0]))) (eF (XV 1) (b1 (jJ 4 D.bool qw))) (R1 cI) [0,1] func422 1 (fun a=>aGz a.1.1 a.2.2) (fun a=>some (∀x∈a.1.1,x.Kind=10->0<=x.Target/\x.Target < a.2.2.length)) (fun a=>eX (fun(x:Op)=>(KZ x a.2.2)) a.1.1) fun a h=>⟨axK a.1.1 a.2.2 h,(fun(l:List Op) b _=>lJ (fun(x:Op)=>(KZ x b)) l 0) a.1.1 a.2.2 h⟩
def aFt (l:List Op)(a:List Bool):Pg Bool:=.ob (∀(x:Op),x∈l->x.Kind=10->0<=x.Target/\x.Target < (↑a.length:Int)) (.lt (eX (fun(x:Op)=>KZ x a) l) fun b=> .ret (decide (0<=b)))
theorem azc (l:List Op)(a:List Bool)(h:∀x∈l,x.Kind=10->0<=x.Target/\x.Target < a.length):Is (aFt l a):=
 az (h) (bg fun c b=>is_ret)
def aDP:Ent Z:=WO [ZO,Js,G8,Ot,ZR,akh,aBe] [] (aCons (aLf lN) (a1 (ja 370 [0]))) (eF (XV 1) (b1 (jJ 4 D.bool qw))) (R1 aj) [0,1] func438 1 (fun a=>aFt a.1.1 a.2.2) (fun a=>some (∀x∈a.1.1,x.Kind=10->0<=x.Target/\x.Target < a.2.2.length)) (fun a=>a.1.1.any fun(x:Op)=>(KZ x a.2.2)) fun a h=>⟨azc a.1.1 a.2.2 h,(fun(l:List Op) b _=>nJ _ l) a.1.1 a.2.2 h⟩
def aG5 (l:List Op)(a:List Bool):Pg Bool:=.ob (∀(x:Op),x∈l->x.Kind=10->0<=x.Target/\x.Target < (↑a.length:Int)) (.ret (l.any fun(x:Op)=>KZ x a))
theorem awp (l:List Op)(a:List Bool)(h:∀x∈l,x.Kind=10->0<=x.Target/\x.Target < a.length):Is (aG5 l a):=
 az (h) (is_ret)
def aDQ:Ent Z:=WO [ZO,FO,M_,ZH,ai4,aDP] [] (aCons (aLf lN) (a1 (ja 370 [0]))) (eF (XV 1) (b1 (jJ 4 D.bool qw))) (R1 aj) [0,1] func337 1 (fun a=>aG5 a.1.1 a.2.2) (fun a=>some (∀x∈a.1.1,x.Kind=10->0<=x.Target/\x.Target < a.2.2.length)) (fun a=>a.1.1.any fun(x:Op)=>(KZ x a.2.2)) fun a h=>⟨awp a.1.1 a.2.2 h,rfl⟩
def ixB (l:List Bool)(v:Bool):Pg Int:=aL l (.each false m_ l false (fun a b (c:Unit)=> .ix a l.length (.br (v==b) (.ret (.inr a)) (rl ()))) (fun a (c:Unit)=> .ret (-1)) ())
theorem aDL (l:List Bool)(v:Bool):Is (ixB l v):=
 bW fun _=>dh (.inr ah) (fun b a _ _=>aW ah ah (is_br iR iR)) (fun a _=>is_ret)
def aFU:Ent Z:=E2 [] [jS 2 (aT (fun b=>[s0 8]) (l1 cI))] (aCons (aLf oH) (a1 (aLf aj))) (R1 cI) [] func442 1 (u2 ixB) (fun a=>none) (fun a=>eX (fun(x:Bool)=>a.2==x) a.1) fun a h=>⟨aDL a.1 a.2,(fun(l:List Bool) (v:Bool)=>lJ (fun(x:Bool)=>v==x) l 0) a.1 a.2⟩
def coB (l:List Bool)(v:Bool):Pg Bool:=.lt (eX (fun(x:Bool)=>v==x) l) fun a=> .ret (decide (0<=a))
theorem aDN (l:List Bool)(v:Bool):Is (coB l v):=
 bg fun b a=>is_ret
def aHM:Ent Z:=E2 [aFU] [] (aCons (aLf oH) (a1 (aLf aj))) (R1 aj) [] func371 1 (u2 coB) (fun a=>none) (fun a=>a.1.any fun(x:Bool)=>a.2==x) fun a h=>⟨aDN a.1 a.2,(fun(l:List Bool) (v:Bool)=>nJ (fun(x:Bool)=>v==x) l) a.1 a.2⟩
def Ti (p:bJ):Pg Bool:=.ob ((↑p.aO.length:Int)=(↑p.aO.length:Int)/\ 0<=(↑p.aO.length:Int)/\(↑p.aO.length:Int)*(1:Int)<=281474976710656/\(↑p.aO.length:Int)<=1099511627776) (aL p.aO (aL p.aO (.cnt lF 0 (↑p.aO.length:Int) (fun e (c:List Bool)=> aL p.aO (.each false lF p.aO bH (fun b d (a:List Bool)=> .ix b p.aO.length (.ix b a.length (.ob (b.toNat < a.length) (.br (a.getD b.toNat false) (.ix b a.length (.ob (b.toNat < a.length) (rl (a.set b.toNat true)))) (.ob (∀(x:Op),x∈d.Ops->x.Kind=10->0<=x.Target/\x.Target < (↑a.length:Int)) (.ix b a.length (.ob (b.toNat < a.length) (rl (a.set b.toNat !d.Ops.any fun(x:Op)=>KZ x a))))))))) (fun b (a:List Bool)=> rl a) c)) (fun e (c:List Bool)=> .ret (c.any fun(x:Bool)=>false==x)) (List.replicate p.aO.length false))))
def alX (p:bJ):=(Ti p).val
theorem ZB (p:bJ)(h:p.aO.length<=1048576/\bZ p):IsP (Ti p) (fun _=>True):=
 isP_ob (qa9) (isP_as <| isP_as <| isP_cnt (fun(e:Int) a=>a.length=p.aO.length) oG ah ah (fun e a k i f=>have hI:a.length=p.aO.length:=f;isP_as <| isP_each (fun(g:Nat) b=>b.length=p.aO.length) (by exact hI) ah (fun g b au8 c=>have hI:b.length=p.aO.length:=c;isP_ix ah ah (isP_ix ah ah (isP_ob (qa9) (isP_br (fun _=>isP_ix ah ah (isP_ob (qa9) (isP_ret qbf))) (fun _=>isP_ob (qa9) (isP_ix ah ah (isP_ob (qa9) (isP_ret qbf)))))))) (fun b hI=>have hI:b.length=p.aO.length:=hI;isP_ret qbf)) (fun e a _ j hI=>have hI:a.length=p.aO.length:=hI;isP_ret qbf))
def ag3:Ent Z:=E1 [H8,NW,Xj,ajs,aDQ,ZO,aHM] [jS 3 (aT (fun b=>[s0 13, .row (pid (b 9)) 4]) (lCons cI (l1 oH))),jS 5 (aT (fun b=>[s0 18, .row (pid (b 9)) 4]) (lCons cI (l1 oH)))] (a1 (aAgg b_)) (R1 aj) [] func250 1 Ti (fun a=>a.aO.length<=1048576/\bZ a) fun a h=>(ZB a h).1
theorem UL {p:bJ}(h:I_ p=false):∀x∈p.Enums,0 < x.Items.length:=by
 intro x b;unfold I_ Rk at h;simp only[val_as,a_,val_ret,Qa2]at h;have k:(p.Enums.any fun x=>Vk x)=false:=by
  (repeat' split at h)<;>first | exact h | cases h
 have a:=Qd.1 k x b;rcases Qdo x.Items.length with e | e
 ·refine absurd ?_ a;unfold Vk aB4;simp only[val_as,a_,val_ret];rw[pY (show(x.Items.length:Int) < 1 by omega)];rfl
 ·exact e
def agD (p:bJ):Pg Int:=.br (I_ p) (.ret 3) (.ob ((∀(x:aY),x∈p.aO->List.length x.Name<=4294967296)/\∀(x:df),x∈p.Enums->List.length x.Name<=4294967296) (.br (ad3 p) (.ret 8) (.br (adb p) (.ret 11) (.br (avz p) (.ret 9) (.ob (∀(x:df),x∈p.Enums->0 < x.Items.length) (.br (ap7 p) (.ret 6) (.ob (∀(x:aY),x∈p.aO->∀(o:Op),o∈x.Ops->List.length o.Alias<=1048576) (.br (awf p) (.ret 1) (.ob (p.aO.length<=1048576/\bZ p) (.br (alX p) (.ret 19) (.ret 0)))))))))))
def awF (p:bJ):=(agD p).val
theorem alq (p:bJ)(h:Gt p/\bZ p):Is (agD p):=
 is_br iR (fun a=>az ⟨h.1.2.1,h.1.2.2.1⟩ (is_br iR (fun _=>is_br iR (fun _=>is_br iR (fun _=>az (UL a) (is_br iR (fun _=>az h.1.2.2.2 (is_br iR (fun _=>az ⟨h.1.1,h.2⟩ (is_br iR iR))))))))))
def aqI:Ent Z:=E1 [aeL,abn,XF,ase,amL,atJ,ag3] [] (a1 (aAgg b_)) (R1 cI) [] func178 1 agD (fun a=>Gt a/\bZ a) fun a h=>alq a h
def clV (l:List AVal):Pg (List AVal):=.unk false (fun(b:Bool)=>b=true->l.length=0) (.ret []) (.ob (bM (0+l.length) 128) (.ret l))
theorem aBT (l:List AVal)(h:l.length<=1048576):Is (clV l):=
 uz (room_of ah ah)
def aH5:Ent Z:=E2 [] [] (a1 (aLf fP)) (shr [.slot 0 false [some 77]] (l1 fP)) [] func376 1 clV (fun a=>some (a.length<=1048576)) (fun a=>a) fun a h=>⟨aBT a h,rfl⟩
theorem Gp {g:aY}{num:Int}(h:(j_ g num).2=true):(j_ g num).1∈g.Ops:=by
 have b:=(lI (fun(x:Op)=>adr x num) g.Ops).1;unfold j_ pOp aq6 ain at h⊢;simp only[val_lt,a_,iY,val_ret]at h⊢;by_cases a:eX (fun(x:Op)=>adr x num) g.Ops < 0
 ·rw[pY a]at h;cases h
 ·rw[nU a];exact getD_mem ah
theorem nT {A:Type}{P:A->Prop}{l m:List A}(h:∀z∈l,P z)(k:∀z∈m,P z):∀z∈l++m,P z:=fun z a=>(xN.1 a).elim (h z) (k z)
theorem jq {A:Type}{P:A->Prop}{a:A}(h:P a):∀z∈[a],P z:=fun z b=>by rw[Be.1 b];exact h
theorem ajI {A:Type}{P:A->Prop}{a b:A}(h:P a)(k:P b):∀z∈[a,b],P z:=fun z c=>by
 rcases IP.1 c with e | e
 ·rw[e];exact h
 ·rw[Be.1 e];exact k
theorem ajd {v x:AVal}(h:x∈v.List):tV x < tV v:=by
 have:=aiY h;have:=gQ v;omega
theorem Zd {v:AVal}{x:Pair}(h:x∈v.Pairs):tV x.Key < tV v/\tV x.Val < tV v:=by
 have:=ajU h;have:=gQ v;omega
theorem akl {v:AVal}{x:Slot}(h:x∈v.Slots):tV x.Val < tV v:=by
 have:=ZE h;have:=gQ v;omega
theorem aHy {v:AVal}(h:tV v<=1048576):v.bC.length<=1048576/\v.Slots.length<=1048576/\v.List.length<=1048576/\v.Pairs.length<=1048576:=by
 have c:=gQ v;have a:=Fv v.bC;have d:=NL v.Slots;have e:=FB v.List;have b:=FT v.Pairs;omega
def asF (v:AVal):Pg Bool:=.lt (wrp .i64 ((↑v.Slots.length:Int)+(↑v.bC.length:Int))) fun a=> .br (v.Kind==7) (.br (v.Kind !=11) (.br (decide (0 < (↑v.List.length:Int))) (.ret true) (.br (v.Kind !=12) (.br (decide (0 < (↑v.Pairs.length:Int))) (.ret true) (.br (v.Kind !=10) (.br (decide (0 < a)) (aL v.Slots (aL v.bC (.ret true))) (.br (v.Bits !=0) (aL v.Slots (aL v.bC (.ret true))) (.br (v.Text !=[]) (aL v.Slots (aL v.bC (.ret false))) (aL v.Slots (aL v.bC (.ret false)))))) (.br (v.Bits !=0) (.ret true) (.br (v.Text !=[]) (.ret false) (.ret false))))) (.br (v.Kind !=10) (.br (decide (0 < a)) (aL v.Slots (aL v.bC (.ret true))) (.br (v.Bits !=0) (aL v.Slots (aL v.bC (.ret true))) (.br (v.Text !=[]) (aL v.Slots (aL v.bC (.ret false))) (aL v.Slots (aL v.bC (.ret false)))))) (.br (v.Bits !=0) (.ret true) (.br (v.Text !=[]) (.ret false) (.ret false)))))) (.br (v.Kind !=12) (.br (decide (0 < (↑v.Pairs.length:Int))) (.ret true) (.br (v.Kind !=10) (.br (decide (0 < a)) (aL v.Slots (aL v.bC (.ret true))) (.br (v.Bits !=0) (aL v.Slots (aL v.bC (.ret true))) (.br (v.Text !=[]) (aL v.Slots (aL v.bC (.ret false))) (aL v.Slots (aL v.bC (.ret false)))))) (.br (v.Bits !=0) (.ret true) (.br (v.Text !=[]) (.ret false) (.ret false))))) (.br (v.Kind !=10) (.br (decide (0 < a)) (aL v.Slots (aL v.bC (.ret true))) (.br (v.Bits !=0) (aL v.Slots (aL v.bC (.ret true))) (.br (v.Text !=[]) (aL v.Slots (aL v.bC (.ret false))) (aL v.Slots (aL v.bC (.ret false)))))) (.br (v.Bits !=0) (.ret true) (.br (v.Text !=[]) (.ret false) (.ret false)))))) (.br (v.Kind !=11) (.br (decide (0 < (↑v.List.length:Int))) (.ret true) (.br (v.Kind !=12) (.br (decide (0 < (↑v.Pairs.length:Int))) (.ret true) (.br (v.Kind !=10) (.br (decide (0 < a)) (aL v.Slots (aL v.bC (.ret true))) (.br (v.Bits !=0) (.br (v.Kind==8) (aL v.Slots (aL v.bC (.ret true))) (.br (decide (10<=v.Kind)) (.br (decide (v.Kind<=12)) (aL v.Slots (aL v.bC (.ret true))) (.br (v.Text !=[]) (aL v.Slots (aL v.bC (.ret !v.Kind==8))) (aL v.Slots (aL v.bC (.ret false))))) (.br (v.Text !=[]) (aL v.Slots (aL v.bC (.ret !v.Kind==8))) (aL v.Slots (aL v.bC (.ret false)))))) (.br (v.Text !=[]) (aL v.Slots (aL v.bC (.ret !v.Kind==8))) (aL v.Slots (aL v.bC (.ret false)))))) (.br (v.Bits !=0) (.br (v.Kind==8) (.ret true) (.br (decide (10<=v.Kind)) (.br (decide (v.Kind<=12)) (.ret true) (.br (v.Text !=[]) (.ret !v.Kind==8) (.ret false))) (.br (v.Text !=[]) (.ret !v.Kind==8) (.ret false)))) (.br (v.Text !=[]) (.ret !v.Kind==8) (.ret false))))) (.br (v.Kind !=10) (.br (decide (0 < a)) (aL v.Slots (aL v.bC (.ret true))) (.br (v.Bits !=0) (.br (v.Kind==8) (aL v.Slots (aL v.bC (.ret true))) (.br (decide (10<=v.Kind)) (.br (decide (v.Kind<=12)) (aL v.Slots (aL v.bC (.ret true))) (.br (v.Text !=[]) (aL v.Slots (aL v.bC (.ret !v.Kind==8))) (aL v.Slots (aL v.bC (.ret false))))) (.br (v.Text !=[]) (aL v.Slots (aL v.bC (.ret !v.Kind==8))) (aL v.Slots (aL v.bC (.ret false)))))) (.br (v.Text !=[]) (aL v.Slots (aL v.bC (.ret !v.Kind==8))) (aL v.Slots (aL v.bC (.ret false)))))) (.br (v.Bits !=0) (.br (v.Kind==8) (.ret true) (.br (decide (10<=v.Kind)) (.br (decide (v.Kind<=12)) (.ret true) (.br (v.Text !=[]) (.ret !v.Kind==8) (.ret false))) (.br (v.Text !=[]) (.ret !v.Kind==8) (.ret false)))) (.br (v.Text !=[]) (.ret !v.Kind==8) (.ret false)))))) (.br (v.Kind !=12) (.br (decide (0 < (↑v.Pairs.length:Int))) (.ret true) (.br (v.Kind !=10) (.br (decide (0 < a)) (aL v.Slots (aL v.bC (.ret true))) (.br (v.Bits !=0) (.br (v.Kind==8) (aL v.Slots (aL v.bC (.ret true))) (.br (decide (10<=v.Kind)) (.br (decide (v.Kind<=12)) (aL v.Slots (aL v.bC (.ret true))) (.br (v.Text !=[]) (aL v.Slots (aL v.bC (.ret !v.Kind==8))) (aL v.Slots (aL v.bC (.ret false))))) (.br (v.Text !=[]) (aL v.Slots (aL v.bC (.ret !v.Kind==8))) (aL v.Slots (aL v.bC (.ret false)))))) (.br (v.Text !=[]) (aL v.Slots (aL v.bC (.ret !v.Kind==8))) (aL v.Slots (aL v.bC (.ret false)))))) (.br (v.Bits !=0) (.br (v.Kind==8) (.ret true) (.br (decide (10<=v.Kind)) (.br (decide (v.Kind<=12)) (.ret true) (.br (v.Text !=[]) (.ret !v.Kind==8) (.ret false))) (.br (v.Text !=[]) (.ret !v.Kind==8) (.ret false)))) (.br (v.Text !=[]) (.ret !v.Kind==8) (.ret false))))) (.br (v.Kind !=10) (.br (decide (0 < a)) (aL v.Slots (aL v.bC (.ret true))) (.br (v.Bits !=0) (.br (v.Kind==8) (aL v.Slots (aL v.bC (.ret true))) (.br (decide (10<=v.Kind)) (.br (decide (v.Kind<=12)) (aL v.Slots (aL v.bC (.ret true))) (.br (v.Text !=[]) (aL v.Slots (aL v.bC (.ret !v.Kind==8))) (aL v.Slots (aL v.bC (.ret false))))) (.br (v.Text !=[]) (aL v.Slots (aL v.bC (.ret !v.Kind==8))) (aL v.Slots (aL v.bC (.ret false)))))) (.br (v.Text !=[]) (aL v.Slots (aL v.bC (.ret !v.Kind==8))) (aL v.Slots (aL v.bC (.ret false)))))) (.br (v.Bits !=0) (.br (v.Kind==8) (.ret true) (.br (decide (10<=v.Kind)) (.br (decide (v.Kind<=12)) (.ret true) (.br (v.Text !=[]) (.ret !v.Kind==8) (.ret false))) (.br (v.Text !=[]) (.ret !v.Kind==8) (.ret false)))) (.br (v.Text !=[]) (.ret !v.Kind==8) (.ret false))))))
def YM (v:AVal):=(asF v).val
def SQ:Ent Z:=E0 [] [] (a1 (aAgg ay)) (R1 aj) [] func251 1 asF
def aGk (x:ak)(a:Int)(b:Int)(v:AVal):Pg Int:=.br (v.Kind !=a) (.ret 12) (.br (YM v.re) (.ret 12) (.br (decide (4096 < (↑(List.length v.Text):Int))) (.ret 3) (.lt (ahW x.p b v.Bits) fun c=> .lt (QU a v.re) fun d=> .br (a==7) (.ob (List.length v.Text<=9223372036854775700) (.br (!yN v.Text) (.ret 7) (.br (!d) (.ret 12) (.br (a==9) (.br (!c) (.ret 16) (.ret 0)) (.ret 0))))) (.br (!d) (.ret 12) (.br (a==9) (.br (!c) (.ret 16) (.ret 0)) (.ret 0))))))
def aAd (x:ak)(a:Int)(b:Int)(v:AVal):=(aGk x a b v).val
def arU:Ent Z:=E1 [um,SQ,NH,ae1] [] (aCons (aAgg gX) (aCons (aLf cI) (aCons (aLf cI) (a1 (aAgg ay))))) (R1 cI) [] func473 1 (u4 aGk) fun a=>a.2.2.2.Text.length<=1048576
def aGX (x:ak)(g:aY)(f:Raw):Pg Int:=.lt (j_ g f.Num) fun a=> .cut (fun(b:Bool)=> .cut (fun(c:Bool)=> .br c (.ret 1) (.br (decide (f.dF<=2)) (.br (f.Data !=[]) (.ret 1) (.br (!decide (f.dF<=2)) (.br (f.Bits !=0) (.ret 1) (.br a.2 (.br (!b) (.ret 1) (.br (f.dF==3) (.br (decide (4096 < (↑(List.length f.Data):Int))) (.ret 3) (.br (decide (65536 < (↑(List.length f.Data):Int))) (.ret 3) (.ret 0))) (.br (decide (65536 < (↑(List.length f.Data):Int))) (.ret 3) (.ret 0)))) (.br (f.dF==3) (.br (decide (4096 < (↑(List.length f.Data):Int))) (.ret 3) (.br (decide (65536 < (↑(List.length f.Data):Int))) (.ret 3) (.ret 0))) (.br (decide (65536 < (↑(List.length f.Data):Int))) (.ret 3) (.ret 0))))) (.br a.2 (.br (!b) (.ret 1) (.br (f.dF==3) (.br (decide (4096 < (↑(List.length f.Data):Int))) (.ret 3) (.br (decide (65536 < (↑(List.length f.Data):Int))) (.ret 3) (.ret 0))) (.br (decide (65536 < (↑(List.length f.Data):Int))) (.ret 3) (.ret 0)))) (.br (f.dF==3) (.br (decide (4096 < (↑(List.length f.Data):Int))) (.ret 3) (.br (decide (65536 < (↑(List.length f.Data):Int))) (.ret 3) (.ret 0))) (.br (decide (65536 < (↑(List.length f.Data):Int))) (.ret 3) (.ret 0)))))) (.br (!decide (f.dF<=2)) (.br (f.Bits !=0) (.ret 1) (.br a.2 (.br (!b) (.ret 1) (.br (f.dF==3) (.br (decide (4096 < (↑(List.length f.Data):Int))) (.ret 3) (.br (decide (65536 < (↑(List.length f.Data):Int))) (.ret 3) (.ret 0))) (.br (decide (65536 < (↑(List.length f.Data):Int))) (.ret 3) (.ret 0)))) (.br (f.dF==3) (.br (decide (4096 < (↑(List.length f.Data):Int))) (.ret 3) (.br (decide (65536 < (↑(List.length f.Data):Int))) (.ret 3) (.ret 0))) (.br (decide (65536 < (↑(List.length f.Data):Int))) (.ret 3) (.ret 0))))) (.br a.2 (.br (!b) (.ret 1) (.br (f.dF==3) (.br (decide (4096 < (↑(List.length f.Data):Int))) (.ret 3) (.br (decide (65536 < (↑(List.length f.Data):Int))) (.ret 3) (.ret 0))) (.br (decide (65536 < (↑(List.length f.Data):Int))) (.ret 3) (.ret 0)))) (.br (f.dF==3) (.br (decide (4096 < (↑(List.length f.Data):Int))) (.ret 3) (.br (decide (65536 < (↑(List.length f.Data):Int))) (.ret 3) (.ret 0))) (.br (decide (65536 < (↑(List.length f.Data):Int))) (.ret 3) (.ret 0))))))) (.br (decide (f.Num < 1)) (rl true) (.br (decide (65535 < f.Num)) (rl true) (.br (decide (f.dF < 0)) (rl true) (rl (decide (6 < f.dF))))))) (.br (a.1.Kind==9) (.br (a.1.Card !=5) (.br (f.dF==0) (.br (decide (f.Bits<=2147483647)) (.ret (.inl !ahW x.p a.1.Target f.Bits)) (rl false)) (rl false)) (rl false)) (rl false))
def aGN (x:ak)(g:aY)(f:Raw):=(aGX x g f).val
def aBr:Ent Z:=E0 [MC,ae1] [jS 100004 (aT (fun b=>[s0 10]) (l1 aj)),jS 100005 (aT (fun b=>[s0 49]) (l1 aj))] (aCons (aAgg gX) (aCons (aAgg fJ) (a1 (aAgg lh)))) (R1 cI) [] func255 1 (u3 aGX)
def aHq (y:Slot)(o:Op):Pg Bool:=.ret (y.Num==o.Num)
def atH (y:Slot)(o:Op):=(aHq y o).val
def afI:Ent Z:=vz [] [] (aCons (aAgg jP) (a1 (fG 0))) (b1 (aF gU)) (R1 aj) [0] func372 1 (u11 aHq)
def anE:Ent Z:=Me [afI] bf 372 [0] (b1 (aF gU)) func374 bn fun x b=>atH x b
def asf:Ent Z:=EAB [afI,anE] bf 372 [0] (b1 (aF gU)) func253 fun x b=>atH x b
def aHD (y:Slot)(o:Op):Pg Bool:=.ret (y.Num==o.Num)
def apf (y:Slot)(o:Op):=(aHD y o).val
def aeq:Ent Z:=vz [] [] (aCons (aAgg jP) (a1 (fG 0))) (b1 (aF gU)) (R1 aj) [0] func254 1 (u11 aHD)
def aBY:Ent Z:=Me [aeq] bf 254 [0] (b1 (aF gU)) func374 bn fun x b=>apf x b
def asA:Ent Z:=EAB [aeq,anE,aBY] bf 254 [0] (b1 (aF gU)) func253 fun x b=>apf x b
def aGi (q:Pair)(p:Pair):Pg Bool:=.ob (fA q.Key.re.Kind=true/\fA p.Key.re.Kind=true) (.ret (aio q.Key.re p.Key.re))
def aFX (q:Pair)(p:Pair):=(aGi q p).val
def aea:Ent Z:=Ae [aaF] [] (aCons (aAgg oV) (a1 (fG 0))) (b1 (aF oV)) (R1 aj) [0] func475 1 (u11 aGi) fun a=>fA a.1.1.Key.Kind=true/\fA a.2.Key.Kind=true
def aDF (l:List Pair)(p:Pair):Pg Int:=aL l (.each false m_ l dJ (fun b a (c:Unit)=> .ix b l.length (.ob (fA (Pair.mk a.Key.re a.Val.re).Key.Kind=true/\fA (Pair.mk p.Key.re p.Val.re).Key.Kind=true) (.br (aFX (Pair.mk a.Key.re a.Val.re) (Pair.mk p.Key.re p.Val.re)) (.ret (.inr b)) (rl ())))) (fun b (c:Unit)=> .ret (-1)) ())
def aGu (l:List Pair)(p:Pair):=(aDF l p).val
theorem ayb (l:List Pair)(p:Pair)(h:(∀x∈l,fA x.Key.Kind=true)/\fA p.Key.Kind=true):Is (aDF l p):=
 bW fun _=>dh (.inr ah) (fun a b _ _=>aW ah ah (az (by simp only[AVal.cZ];exact⟨h.1 (l.getD a dJ) (getD_mem ah),h.2⟩) (is_br iR iR))) (fun b _=>is_ret)
def aC3:Ent Z:=Ae [aea] [jS 2 (aT (fun b=>[s0 8]) (l1 cI))] (aCons (aLf dC) (a1 (ja 475 [0]))) (b1 (aF oV)) (R1 cI) [0] func485 1 (u11 aDF) (fun a=>(∀x∈a.1.1,fA x.Key.Kind=true)/\fA a.2.Key.Kind=true) fun a h=>ayb a.1.1 a.2 h
def aHl (l:List Pair)(p:Pair):Pg Bool:=.ob ((∀(x:Pair),x∈l->fA x.Key.Kind=true)/\fA (Pair.mk p.Key.re p.Val.re).Key.Kind=true) (.lt (aGu l (Pair.mk p.Key.re p.Val.re)) fun a=> .ret (decide (0<=a)))
def aFQ (l:List Pair)(p:Pair):=(aHl l p).val
def aDn:Ent Z:=Ae [aea,aC3] [] (aCons (aLf dC) (a1 (ja 475 [0]))) (b1 (aF oV)) (R1 aj) [0] func474 1 (u11 aHl) fun a=>(∀x∈a.1.1,fA x.Key.Kind=true)/\fA a.2.Key.Kind=true
def an5 (g:ak->Op->AVal->Int->Int)(lQ:ak->Op->AVal->Int->Prop)(f:ak->Op->List Pair->Int->Int)(iw:ak->Op->List Pair->Int->Prop)(e:ak->Op->AVal->Int->Int)(kC:ak->Op->AVal->Int->Prop)(d:ak->aY->List Slot->Int->Int->Int)(mY:ak->aY->List Slot->Int->Int->Prop)(c:ak->aY->AVal->Int->Int)(iC:ak->aY->AVal->Int->Prop)(x:ak)(o:Op)(v:AVal)(a:Int):Pg Int:=.br (o.Kind==10) (.ix o.Target x.p.aO.length (.lt (wrp .i64 (a+1)) fun b=> .ob (iC x (x.p.aO.getD o.Target.toNat bH) v.re b) (.ret (c x (x.p.aO.getD o.Target.toNat bH) v.re b)))) (.ob (List.length v.re.Text<=1048576) (.ret (aAd x o.Kind o.Target v.re)))
def Qv (d:ak->Op->AVal->Int->Int)(lQ:ak->Op->AVal->Int->Prop)(i:ak->Op->List Pair->Int->Int)(iw:ak->Op->List Pair->Int->Prop)(h:ak->Op->AVal->Int->Int)(kC:ak->Op->AVal->Int->Prop)(g:ak->aY->List Slot->Int->Int->Int)(mY:ak->aY->List Slot->Int->Int->Prop)(j:ak->aY->AVal->Int->Int)(iC:ak->aY->AVal->Int->Prop)(x:ak)(o:Op)(l:List Pair)(b:Int):Pg Int:=aL l (.each false m_ l dJ (fun c a (f:Unit)=> .ix c l.length (.ob (List.length a.Key.re.Text<=1048576) (.lt (aAd x o.Key (-1) a.Key.re) fun e=> .br (e !=0) (.ret (.inr e)) (.ob ((0:Int)<=0/\0<=c/\c<=(↑l.length:Int)) (.ob ((∀(x:Pair),x∈List.take c.toNat l->fA x.Key.Kind=true)/\fA (Pair.mk a.Key.re a.Val.re).Key.Kind=true) (.br (aFQ (List.take c.toNat l) (Pair.mk a.Key.re a.Val.re)) (.ret (.inr 9)) (.ob (lQ x o a.Val.re b) (.br (d x o a.Val.re b !=0) (.ret (.inr (d x o a.Val.re b))) (rl ()))))))))) (fun c (f:Unit)=> .ret 0) ())
def BD (c:ak->Op->AVal->Int->Int)(lQ:ak->Op->AVal->Int->Prop)(g:ak->Op->List Pair->Int->Int)(iw:ak->Op->List Pair->Int->Prop)(i:ak->Op->AVal->Int->Int)(kC:ak->Op->AVal->Int->Prop)(h:ak->aY->List Slot->Int->Int->Int)(mY:ak->aY->List Slot->Int->Int->Prop)(j:ak->aY->AVal->Int->Int)(iC:ak->aY->AVal->Int->Prop)(x:ak)(o:Op)(v:AVal)(a:Int):Pg Int:=.lt (YM v.re) fun e=> .br (o.Card==4) (.br (v.Kind !=11) (.ret 12) (.br e (.ret 12) (aL v.List (.each false m_ v.List dK (fun d b (f:Unit)=> .ix d v.List.length (.ob (lQ x o b.re a) (.br (c x o b.re a !=0) (.ret (.inr (c x o b.re a))) (rl ())))) (fun d (f:Unit)=> .ret 0) ())))) (.br (o.Card==5) (.br (v.Kind !=12) (.ret 12) (.br e (.ret 12) (.ob (iw x o v.Pairs a) (.ret (g x o v.Pairs a))))) (.ob (lQ x o v.re a) (.ret (c x o v.re a))))
def ao6 (j:ak->Op->AVal->Int->Int)(lQ:ak->Op->AVal->Int->Prop)(k:ak->Op->List Pair->Int->Int)(iw:ak->Op->List Pair->Int->Prop)(e:ak->Op->AVal->Int->Int)(kC:ak->Op->AVal->Int->Prop)(h:ak->aY->List Slot->Int->Int->Int)(mY:ak->aY->List Slot->Int->Int->Prop)(m:ak->aY->AVal->Int->Int)(iC:ak->aY->AVal->Int->Prop)(x:ak)(g:aY)(l:List Slot)(i:Int)(a:Int):Pg Int:=.ix i l.length (.lt (j_ g (l.getD i.toNat bn).Num) fun b=> .br (!b.2) (.ret 8) (.ob ((0:Int)<=0/\0<=i/\i<=(↑l.length:Int)) (.br ((List.take i.toNat l).any fun(x:Slot)=>atH x b.1) (.ret 9) (.ob ((0:Int)<=0/\0<=i/\i<=(↑l.length:Int)) (.as ((List.take i.toNat l).length<=9223372036854775807) (.each false m_ (List.take i.toNat l) bn (fun c d (f:Unit)=> .ix c (List.take i.toNat l).length (.br (b.1.Union !=(-1)) (.br ((j_ g d.Num).1.Union==b.1.Union) (.ret (.inr 15)) (rl ())) (rl ()))) (fun c (f:Unit)=> .ix i l.length (.ob (kC x b.1 (l.getD i.toNat bn).Val.re a) (.ret (e x b.1 (l.getD i.toNat bn).Val.re a)))) ()))))))
def QX (q:ak->Op->AVal->Int->Int)(lQ:ak->Op->AVal->Int->Prop)(p:ak->Op->List Pair->Int->Int)(iw:ak->Op->List Pair->Int->Prop)(s:ak->Op->AVal->Int->Int)(kC:ak->Op->AVal->Int->Prop)(d:ak->aY->List Slot->Int->Int->Int)(mY:ak->aY->List Slot->Int->Int->Prop)(n:ak->aY->AVal->Int->Int)(iC:ak->aY->AVal->Int->Prop)(x:ak)(g:aY)(v:AVal)(a:Int):Pg Int:=.cut (fun(m:Unit)=> .cut (fun(r:Unit)=> .cut (fun(o:Unit)=> aL v.bC (.each false m_ v.bC lD (fun i h (k:Unit)=> .ix i v.bC.length (.lt (aGN x g h) fun c=> .br (c !=0) (.ret (.inr c)) (rl ()))) (fun i (k:Unit)=> .ret 0) ())) (aL g.Ops (.each false m_ g.Ops x9 (fun e f (j:Unit)=> .ix e g.Ops.length (.br (f.Card==1) (.br (!v.Slots.any fun(x:Slot)=>apf x f) (.ret (.inr (.inr 14))) (rl ())) (rl ()))) (fun e (j:Unit)=> rl ()) ()))) (aL v.Slots (.cnt m_ 0 (↑v.Slots.length:Int) (fun b (l:Unit)=> .ob (mY x g v.Slots b a) (.br (d x g v.Slots b a !=0) (.ret (.inr (.inr (d x g v.Slots b a)))) (rl ()))) (fun b (l:Unit)=> rl ()) ()))) (.br (v.Kind !=10) (.ret (.inr 12)) (.br (YM v.re) (.ret (.inr 12)) (.br (decide (16 < a)) (.ret (.inr 17)) (rl ()))))
def lQ (b:Nat)(x:ak)(o:Op)(v:AVal)(a:Int):Prop:=bZ x.p/\TN x.p o/\gV v/\4*tV v+1<=b
def iw (a:Nat)(x:ak)(o:Op)(l:List Pair)(b:Int):Prop:=bZ x.p/\TN x.p o/\(mf l/\∀p∈l,gV p.Val/\p.Key.Text.length<=1048576)/\1<=a/\∀p∈l,4*tV p.Val+2<=a
def kC (b:Nat)(x:ak)(o:Op)(v:AVal)(a:Int):Prop:=bZ x.p/\TN x.p o/\gV v/\4*tV v+2<=b
def mY (b:Nat)(x:ak)(g:aY)(l:List Slot)(i:Int)(a:Int):Prop:=bZ x.p/\g∈x.p.aO/\l.length<=1048576/\(0<=i/\i < l.length)/\gV (l.getD i.toNat bn).Val/\4*tV (l.getD i.toNat bn).Val+3<=b
def iC (b:Nat)(x:ak)(g:aY)(v:AVal)(a:Int):Prop:=bZ x.p/\g∈x.p.aO/\gV v/\4*tV v<=b
def qO:Nat->(ak->Op->AVal->Int->Int)×(ak->Op->(List Pair)->Int->Int)×(ak->Op->AVal->Int->Int)×(ak->aY->(List Slot)->Int->Int->Int)×(ak->aY->AVal->Int->Int)
 | 0=>(fun _ _ _ _=>default,fun _ _ _ _=>default,fun _ _ _ _=>default,fun _ _ _ _ _=>default,fun _ _ _ _=>default)
 | a+1=>(fun x o v b=>(an5 ((qO a).1) (lQ a) ((qO a).2.1) (iw a) ((qO a).2.2.1) (kC a) ((qO a).2.2.2.1) (mY a) ((qO a).2.2.2.2) (iC a) x o v b).val,fun x o l b=>(Qv ((qO a).1) (lQ a) ((qO a).2.1) (iw a) ((qO a).2.2.1) (kC a) ((qO a).2.2.2.1) (mY a) ((qO a).2.2.2.2) (iC a) x o l b).val,fun x o v b=>(BD ((qO a).1) (lQ a) ((qO a).2.1) (iw a) ((qO a).2.2.1) (kC a) ((qO a).2.2.2.1) (mY a) ((qO a).2.2.2.2) (iC a) x o v b).val,fun x g l i b=>(ao6 ((qO a).1) (lQ a) ((qO a).2.1) (iw a) ((qO a).2.2.1) (kC a) ((qO a).2.2.2.1) (mY a) ((qO a).2.2.2.2) (iC a) x g l i b).val,fun x g v b=>(QX ((qO a).1) (lQ a) ((qO a).2.1) (iw a) ((qO a).2.2.1) (kC a) ((qO a).2.2.2.1) (mY a) ((qO a).2.2.2.2) (iC a) x g v b).val)
def VU (x:ak)(g:aY)(v:AVal)(a:Int):Int:=(qO (4*tV v)).2.2.2.2 x g v a
abbrev Yn (a:Nat):=an5 ((qO a).1) (lQ a) ((qO a).2.1) (iw a) ((qO a).2.2.1) (kC a) ((qO a).2.2.2.1) (mY a) ((qO a).2.2.2.2) (iC a)
theorem apS (d:Nat)(x:ak)(o:Op)(v:AVal)(a:Int)(h:lQ (d+1) x o v a):Is (Yn d x o v a):=
 by
 obtain⟨f,b,e,l⟩:=h;have k:=gQ v;have i:=e.2;unfold Yn an5;simp only[AVal.cZ];exact bu (fun c=>aW (b.1 c).1 (b.1 c).2 (bg fun j g=>az ⟨f,getD_mem (by have:=b.1 c;omega),e,by omega⟩ is_ret)) (fun _=>az ah is_ret)
abbrev Eg (a:Nat):=Qv ((qO a).1) (lQ a) ((qO a).2.1) (iw a) ((qO a).2.2.1) (kC a) ((qO a).2.2.2.1) (mY a) ((qO a).2.2.2.2) (iC a)
theorem acV (f:Nat)(x:ak)(o:Op)(l:List Pair)(a:Int)(h:iw (f+1) x o l a):Is (Eg f x o l a):=
 by
 obtain⟨q,k,⟨c,j⟩,u,m⟩:=h;unfold Eg Qv;simp only[AVal.cZ];refine bW fun _=>dh (.inr (by have:=c.1;omega)) (fun g i e _=> ?_) (fun i _=>is_ret);have b:=getD_mem (d:=dJ) e;obtain⟨n,p⟩:=j _ b;exact aW ah ah (az p (bg fun t s=>dm iR (fun _=>az ah (az ⟨fun x r=>c.2 x (List.mem_of_mem_take r),c.2 (l.getD g dJ) b⟩ (is_br iR (fun _=>az ⟨q,k,n,by have:=m _ b;omega⟩ (dm iR iR)))))))
abbrev SG (a:Nat):=BD ((qO a).1) (lQ a) ((qO a).2.1) (iw a) ((qO a).2.2.1) (kC a) ((qO a).2.2.2.1) (mY a) ((qO a).2.2.2.2) (iC a)
theorem anc (k:Nat)(x:ak)(o:Op)(v:AVal)(a:Int)(h:kC (k+1) x o v a):Is (SG k x o v a):=
 by
 obtain⟨g,f,b,t⟩:=h;have l:=oh b;have u:=b.2;unfold SG BD;simp only[AVal.cZ];refine bg fun w r=>bu (fun _=>dm iR (fun _=>is_br iR (fun _=>bW fun _=>dh (.inr ah) (fun s m i _=>aW ah ah (az ?_ (dm iR iR))) (fun m _=>is_ret)))) (fun _=>bu (fun _=>dm iR (fun _=>is_br iR (fun _=>az ?_ is_ret))) (fun _=>az ⟨g,f,b,by omega⟩ is_ret))
 ·obtain⟨c,j⟩:=Iw b (getD_mem (d:=dK) i);exact⟨g,f,c,by omega⟩
 ·refine⟨g,f,⟨l.2.2.2,fun p e=> ?_⟩,by have:=jH v;omega,fun p e=> ?_⟩
  ·obtain⟨c,j,q,n⟩:=FN b e;exact⟨c,by have:=gQ p.Key;omega⟩
  ·obtain⟨c,j,q,n⟩:=FN b e;omega
abbrev Z4 (a:Nat):=ao6 ((qO a).1) (lQ a) ((qO a).2.1) (iw a) ((qO a).2.2.1) (kC a) ((qO a).2.2.2.1) (mY a) ((qO a).2.2.2.2) (iC a)
theorem arC (d:Nat)(x:ak)(g:aY)(l:List Slot)(i:Int)(a:Int)(h:mY (d+1) x g l i a):Is (Z4 d x g l i a):=
 by
 obtain⟨e,j,o,b,k,n⟩:=h;unfold Z4 ao6;simp only[AVal.cZ];refine aW b.1 b.2 (bg fun q f=>is_br iR (fun c=>az ah (is_br iR (fun _=>az ah (bW fun _=>dh (.inr qcn) (fun p m _ _=>aW ah ah (dm (fun _=>bu iR iR) iR)) (fun m _=>aW b.1 b.2 (az ⟨e,?_,k,by omega⟩ is_ret)))))));rw[f]at c⊢;exact(e g j).2 _ (Gp (by simpa using c))
abbrev EM (a:Nat):=QX ((qO a).1) (lQ a) ((qO a).2.1) (iw a) ((qO a).2.2.1) (kC a) ((qO a).2.2.2.1) (mY a) ((qO a).2.2.2.2) (iC a)
theorem abL (j:Nat)(x:ak)(g:aY)(v:AVal)(a:Int)(h:iC (j+1) x g v a):Is (EM j x g v a):=
 by
 obtain⟨k,c,f,B⟩:=h;have o:=oh f;have r:=k g c;unfold EM QX;simp only[AVal.cZ];refine gG (dm iR (fun _=>is_br iR (fun _=>aQ iR iR))) (fun A y=>gG (bW fun _=>EX ah ah (fun m s e b=>az ?_ (dm iR iR)) (fun m s _ _=>is_ret)) (fun F u=>gG (bW fun _=>dh (.inr (by have:=r.1;omega)) (fun C p _ _=>aW ah ah (bu (fun _=>is_br iR iR) iR)) (fun p _=>is_ret)) (fun D w=>bW fun _=>dh (.inr ah) (fun G q _ _=>aW ah ah (bg fun t z=>dm iR iR)) (fun q _=>is_ret))));obtain⟨n,E⟩:=OC f (getD_mem (d:=bn) (l:=v.Slots) (i:=m.toNat) ah);exact⟨k,c,o.2.1,⟨e,b⟩,n,by omega⟩
theorem az3:∀b,CtOk Z.P Z.S 443 (ctN (args (aCons (aAgg gX) (aCons (aAgg gU) (aCons (aAgg ay) (a1 (aLf cI)))))) (R1 cI) 1 [] (fun a=>some (lQ b (a.1) (a.2.1) (a.2.2.1) (a.2.2.2))) (fun a=>(qO b).1 (a.1) (a.2.1) (a.2.2.1) (a.2.2.2)))/\CtOk Z.P Z.S 444 (ctN (args (aCons (aAgg gX) (aCons (aAgg gU) (aCons (aLf dC) (a1 (aLf cI)))))) (R1 cI) 1 [] (fun a=>some (iw b (a.1) (a.2.1) (a.2.2.1) (a.2.2.2))) (fun a=>(qO b).2.1 (a.1) (a.2.1) (a.2.2.1) (a.2.2.2)))/\CtOk Z.P Z.S 373 (ctN (args (aCons (aAgg gX) (aCons (aAgg gU) (aCons (aAgg ay) (a1 (aLf cI)))))) (R1 cI) 1 [] (fun a=>some (kC b (a.1) (a.2.1) (a.2.2.1) (a.2.2.2))) (fun a=>(qO b).2.2.1 (a.1) (a.2.1) (a.2.2.1) (a.2.2.2)))/\CtOk Z.P Z.S 252 (ctN (args (aCons (aAgg gX) (aCons (aAgg fJ) (aCons (aLf bf) (aCons (aLf cI) (a1 (aLf cI))))))) (R1 cI) 1 [] (fun a=>some (mY b (a.1) (a.2.1) (a.2.2.1) (a.2.2.2.1) (a.2.2.2.2))) (fun a=>(qO b).2.2.2.1 (a.1) (a.2.1) (a.2.2.1) (a.2.2.2.1) (a.2.2.2.2)))/\CtOk Z.P Z.S 179 (ctN (args (aCons (aAgg gX) (aCons (aAgg fJ) (aCons (aAgg ay) (a1 (aLf cI)))))) (R1 cI) 1 [] (fun a=>some (iC b (a.1) (a.2.1) (a.2.2.1) (a.2.2.2))) (fun a=>(qO b).2.2.2.2 (a.1) (a.2.1) (a.2.2.1) (a.2.2.2)))
 | 0=>⟨dH func443 dE (fun a h=>by have k:=h.2.2.2;omega),
  dH func444 dE (fun a h=>by have k:=h.2.2.2.1;omega),
  dH func373 dE (fun a h=>by have k:=h.2.2.2;omega),
  dH func252 dE (fun a h=>by have k:=h.2.2.2.2.2;omega),
  dH func179 dE (fun a h=>by have k:=h.2.2.2;have:=jH (a.2.2.1);omega)⟩
 | b+1=>by
  obtain⟨i,f,d,g,j⟩:=az3 b;exact⟨xM [arU,⟨443,_,i⟩,⟨444,_,f⟩,⟨373,_,d⟩,⟨252,_,g⟩,⟨179,_,j⟩] [] func443 ntmps443 (fun a=>Yn b a.1 a.2.1 a.2.2.1 a.2.2.2) (fun a h=>⟨apS b a.1 a.2.1 a.2.2.1 a.2.2.2 h,rfl⟩) (iE (n:=31) rfl),
   xM [arU,aDn,aea,⟨443,_,i⟩,⟨444,_,f⟩,⟨373,_,d⟩,⟨252,_,g⟩,⟨179,_,j⟩] [jS 2 (aT (fun c=>[s0 15]) (l1 cI))] func444 ntmps444 (fun a=>Eg b a.1 a.2.1 a.2.2.1 a.2.2.2) (fun a h=>⟨acV b a.1 a.2.1 a.2.2.1 a.2.2.2 h,rfl⟩) (iE (n:=44) rfl),
   xM [SQ,⟨443,_,i⟩,⟨444,_,f⟩,⟨373,_,d⟩,⟨252,_,g⟩,⟨179,_,j⟩] [jS 6 (aT (fun c=>[s0 26]) (l1 cI))] func373 ntmps373 (fun a=>SG b a.1 a.2.1 a.2.2.1 a.2.2.2) (fun a h=>⟨anc b a.1 a.2.1 a.2.2.1 a.2.2.2 h,rfl⟩) (iE (n:=59) rfl),
   xM [MC,asf,asA,afI,⟨443,_,i⟩,⟨444,_,f⟩,⟨373,_,d⟩,⟨252,_,g⟩,⟨179,_,j⟩] [jS 7 (aT (fun c=>[s0 38]) (l1 cI))] func252 ntmps252 (fun a=>Z4 b a.1 a.2.1 a.2.2.1 a.2.2.2.1 a.2.2.2.2) (fun a h=>⟨arC b a.1 a.2.1 a.2.2.1 a.2.2.2.1 a.2.2.2.2 h,rfl⟩) (iE (n:=69) rfl),
   xM [SQ,asf,asA,aeq,aBr,⟨443,_,i⟩,⟨444,_,f⟩,⟨373,_,d⟩,⟨252,_,g⟩,⟨179,_,j⟩] [jS 6 (aT (fun c=>[s0 30]) (l1 cI)),jS 13 (aT (fun c=>[s0 47]) (l1 cI)),jS 19 (aT (fun c=>[s0 65]) (l1 cI)),jS 100005 (aT (fun c=>[]) l0),jS 100012 (aT (fun c=>[]) l0),jS 100018 (aT (fun c=>[]) l0)] func179 ntmps179 (fun a=>EM b a.1 a.2.1 a.2.2.1 a.2.2.2) (fun a h=>⟨abL b a.1 a.2.1 a.2.2.1 a.2.2.2 h,rfl⟩) (iE (n:=77) rfl)⟩
def afw:Ent Z:=⟨179,ctN (args (aCons (aAgg gX) (aCons (aAgg fJ) (aCons (aAgg ay) (a1 (aLf cI)))))) (R1 cI) 1 [] (fun a=>some (bZ (a.1).p/\(a.2.1)∈(a.1).p.aO/\gV (a.2.2.1))) (fun a=>VU (a.1) (a.2.1) (a.2.2.1) (a.2.2.2)),ctFam_ok (fun n=>((az3 n).2.2.2.2)) _ _ (fun a h=>⟨4*tV (a.2.2.1),⟨h.1,h.2.1,h.2.2,lH _⟩,rfl⟩)⟩
def afj (v:AVal):Pg (List AVal):=.ob (v.List.length<=1048576) (.cut (fun(g:List AVal)=> aL v.Slots (.each false lF v.Slots bn (fun e f (a:List AVal)=> .ix e v.Slots.length (.ob (bM (a.length+1) 128) (rl (a++[f.Val.re])))) (fun e (a:List AVal)=> .ret a) g)) (aL v.Pairs (.each false lF v.Pairs dJ (fun d c (b:List AVal)=> .ix d v.Pairs.length (.ob (bM (b.length+2) 128) (rl (b++[c.Key.re,c.Val.re])))) (fun d (b:List AVal)=> rl b) v.List)))
def axY (v:AVal):=(afj v).val
theorem Qo (v:AVal)(h:tV v<=1048576):IsP (afj v) (fun r=>r.length<=4194304/\∀z∈r,tV z < tV v):=
 have k:=aHy h;isP_ob (qbn) (isP_cut (fun d=>d.length<=v.List.length+2*v.Pairs.length/\∀z∈d,tV z < tV v) (isP_as <| isP_each (fun(e:Nat) b=>b.length<=v.List.length+2*e/\∀z∈b,tV z < tV v) (by exact⟨lH _,fun z j=>ajd j⟩) ah (fun e b nO i=>have hI:b.length<=v.List.length+2*e/\∀z∈b,tV z < tV v:=i;isP_ix ah ah (isP_ob (qbn) (isP_ret qan))) (fun b hI=>have hI:b.length<=v.List.length+2*v.Pairs.length/\∀z∈b,tV z < tV v:=hI;isP_ret qan)) (fun d c=>have c:d.length<=v.List.length+2*v.Pairs.length/\∀z∈d,tV z < tV v:=c;isP_as <| isP_each (fun(f:Nat) a=>a.length<=v.List.length+2*v.Pairs.length+f/\∀z∈a,tV z < tV v) (by exact c) ah (fun f a au9 g=>have hI:a.length<=v.List.length+2*v.Pairs.length+f/\∀z∈a,tV z < tV v:=g;isP_ix ah ah (isP_ob (qbn) (isP_ret qan))) (fun a hI=>have hI:a.length<=v.List.length+2*v.Pairs.length+v.Slots.length/\∀z∈a,tV z < tV v:=hI;isP_ret qan)))
def ate:Ent Z:=E1 [aH5] [jS 3 (aT (fun b=>[s0 14, .slot 3 false [some 77]]) (lCons cI (l1 fP))),jS 8 (aT (fun b=>[s0 29, .slot 3 false [some 77]]) (lCons cI (l1 fP))),jS 100007 (aT (fun b=>[.slot 3 false [some 77]]) (l1 fP))] (a1 (aAgg ay)) (shr [.slot 0 false [some 77]] (l1 fP)) [] func256 1 afj (fun a=>tV a<=1048576) fun a h=>(Qo a h).1
def af9 (e:AVal->Int)(Df:AVal->Prop)(v:AVal):Pg Int:=.ob (tV v.re<=1048576) (.lt (axY v.re) fun a=> aL a (.lt (wrp .i64 (1+(↑v.bC.length:Int))) fun f=> .each false lF a dK (fun b d (c:Int)=> .ix b a.length (.ob (b.toNat < a.length) (.ob (Df d.re) (rl (wrp .i64 (c+e d.re)))))) (fun(b c:Int)=> .ret c) f))
def Df (a:Nat)(v:AVal):Prop:=tV v<=1048576/\tV v<=a
def vcV:Nat->(AVal->Int)
 | 0=>(fun _=>default)
 | a+1=>(fun v=>(af9 ((vcV a)) (Df a) v).val)
def aj0 (v:AVal):Int:=(vcV (tV v)) v
abbrev RG (a:Nat):=af9 ((vcV a)) (Df a)
theorem ane (a:Nat)(v:AVal)(h:Df (a+1) v):Is (RG a v):=
 by
 obtain⟨b,l⟩:=h;have f:=(Qo v b).2;unfold RG af9;simp only[AVal.cZ];refine az b (bg fun j c=>bW fun _=>bg fun m k=>dh (.inr ah) (fun g i e _=>aW ah ah (az ah (az ?_ is_ret))) (fun i _=>is_ret));have:=f.2 (j.getD g dK) (by have:=getD_mem (d:=dK) e;rw[c]at this⊢;exact this);exact⟨by omega,by omega⟩
theorem az5:∀b,CtOk Z.P Z.S 180 (ctN (args (a1 (aAgg ay))) (R1 cI) 1 [] (fun a=>some (Df b a)) (fun a=>(vcV b) a))
 | 0=>dH func180 dE (fun a h=>by have k:=h.2;have:=jH a;omega)
 | b+1=>by
  have c:=az5 b;exact xM [ate,⟨180,_,c⟩] [jS 3 (aT (fun d=>[s0 13, s0 3]) (lCons cI (l1 cI)))] func180 ntmps180 (fun a=>RG b a) (fun a h=>⟨ane b a h,rfl⟩) (iE (n:=23) rfl)
def asH:Ent Z:=⟨180,ctN (args (a1 (aAgg ay))) (R1 cI) 1 [] (fun a=>some (tV a<=1048576)) (fun a=>aj0 a),ctFam_ok (fun n=>((az5 n))) _ _ (fun a h=>⟨tV a,⟨h,lH _⟩,rfl⟩)⟩
def aih (p:bJ)(prog:Int)(v:AVal):Pg Int:=.br (decide (prog < 0)) (.ret 10) (aL p.aO (.br (decide ((↑p.aO.length:Int)<=prog)) (.ret 10) (.ix prog p.aO.length (.ob (bZ p/\p.aO.getD prog.toNat bH∈p.aO/\gV v.re) (.lt (VU (ak.mk p) (p.aO.getD prog.toNat bH) v.re 1) fun a=> .br (a !=0) (.ret a) (.ob (tV v.re<=1048576) (.lt (aj0 v.re) fun b=> .br (decide (4096 < b)) (.ret 3) (.ret 0))))))))
def aC2 (p:bJ)(prog:Int)(v:AVal):=(aih p prog v).val
theorem apN (p:bJ)(prog:Int)(v:AVal)(h:bZ p/\gV v):Is (aih p prog v):=
 by
 unfold aih;simp only[AVal.cZ];exact aQ iR (fun _=>bW fun _=>aQ iR (fun _=>aW ah ah (az ⟨h.1,getD_mem ah,h.2⟩ (bg fun c b=>dm iR (fun _=>az h.2.2 (bg fun d a=>aQ iR iR))))))
def awt:Ent Z:=E1 [afw,asH] [] (aCons (aAgg b_) (aCons (aLf cI) (a1 (aAgg ay)))) (R1 cI) [] func106 1 (u3 aih) (fun a=>bZ a.1/\gV a.2.2) fun a h=>apN a.1 a.2.1 a.2.2 h
theorem put_pos (u:Int)(h:0<=u/\u < 18446744073709551616):1<=(vputP u).length:=by
 obtain⟨x,rfl⟩:∃x:Nat,u=(x:Int):=⟨u.toNat,by omega⟩;rw[vput_nat x ah,txU_len,Na];unfold encV;split<;>simp
theorem ayZ {f:Raw}(h:H9 f=true):1<=(zB f.Num f.dF).1.length/\(zB f.Num f.dF).1.length<=10:=by
 have e:(zB f.Num f.dF).2=0:=by
  unfold H9 XO at h;simp only[a_,val_ret]at h;cases e:(zB f.Num f.dF).2 !=0 with
  | true=>rw[e]at h;cases h
  | false=>exact ji.1 e
 unfold zB aa4 at e⊢;simp only[a_,val_lt,val_ob,val_ret]at e⊢;by_cases b:f.Num < 1
 ·rw[pY b]at e;cases e
 rw[nU b]at e⊢;by_cases a:65535 < f.Num
 ·rw[pY a]at e;cases e
 rw[nU a]at e⊢;by_cases c:f.dF < 0
 ·rw[pY c]at e;cases e
 rw[nU c]at e⊢;by_cases d:6 < f.dF
 ·rw[pY d]at e;cases e
 rw[nU d];exact⟨put_pos _ (LQ _),put_len _ (LQ _)⟩
def sJ (l:List Raw):Nat:=smL (fun x=>24+x.Data.length) l
theorem aaW {l:List Raw}{i:Nat}(a:i < l.length):sJ (l.take (i+1))=sJ (l.take i)+(24+(l.getD i lD).Data.length):=oJ (f:=fun x:Raw=>24+x.Data.length) (d:=lD) a
theorem arY {l:List Raw}{i:Nat}:sJ (l.take i)<=sJ l:=rJ (Qcp i l)
theorem GM (l m:List Raw):sJ (l++m)=sJ l+sJ m:=ni l m
theorem CB (l:List Raw):l.length<=sJ l:=ww fun x=>by omega
def UD (l:List Raw):Prop:=(∀x∈l,IM x)/\sJ l<=68719476736
def aBf (l:List Raw)(i:Nat)(y:List Int):Prop:=y.length<=sJ (l.take i)/\(0 < i->0 < y.length)/\∀k,wV y k=true
theorem TT {l:List Raw}{i:Nat}{y:List Int}{a b:Str}(c:i < l.length)(h:aBf l i y)(e:1<=a.length/\a.length<=10)(d:b.length<=10+(l.getD i lD).Data.length):aBf l (i+1) (y++BG a++BG b):=by
 refine⟨?_,fun _=> ?_,Qs (Qs h.2.2 (uT a)) (uT b)⟩
 ·rw[aaW c];simp only[kG,ng];have:=h.1;omega
 ·simp only[kG,ng];omega
theorem ayB (a b:Str):BG (a++b)=BG a++BG b:=by simp[BG]
def af2:List Raw:=[]
def ajJ:Pg (List UInt8):=aL af2 (.ob ((dp ((0:Int)=0)).p/\True) (.ret []))
def Ul:Str:=(ajJ).val
theorem atZ:Is (ajJ):=
 bW fun _=>az ((⟨rfl,trivial⟩)) (is_ret)
def azB:Ent Z:=rE Z [oK,yz,A_,aby,YC,agQ,afT] [jS 600003 (aT (fun _=>List.replicate 2 (.iter 0)) l0)] (args (a1 (aLf aZ))) (iE (n:=54) rfl) (R1 cStr) [] func182 ntmps182 dE 1 rfl (fun a=>ajJ) (fun a=>some (a=af2)) (fun(l) e h=>by have b:l=af2:=h;subst b;show _=_;kernel_rfl) (fun a=>Ul) (fun a h=>⟨atZ,rfl⟩)
def ah3 (l:List Raw):Pg (List UInt8):=aL l (.each false lF l lD (fun g a (b:List Int)=> .ix g l.length (.br (!H9 a) (rl b) (.lt (zB a.Num a.dF) fun i=> .ob ((dp (bM (b.length+i.1.length) 1)).p/\True) (.lt (b++BG i.1) fun(c:List Int)=> .br (a.dF==2) (.lt (aAp a.Bits) fun j=> .ob ((dp (bM (c.length+List.length j) 1)).p/\True) (rl (c++BG j))) (.br (ai0 a.dF) (.ob (isU64 a.Bits) (.lt (vputP a.Bits) fun f=> .ob ((dp (bM (c.length+List.length f) 1)).p/\True) (rl (c++BG f)))) (.lt (wrp .u64 (↑(List.length a.Data):Int)) fun e=> .ob (isU64 e) (.lt (vputP e) fun h=> .ob ((dp (bM (c.length+List.length h) 1)).p/\True) (.as (List.length a.Data<=9223372036854775807) (.lt (c++BG h) fun(d:List Int)=> .ob ((dp (bM (d.length+List.length a.Data) 1)).p/\True) (rl (d++BG a.Data))))))))))) (fun g (b:List Int)=> .ob ((dp (0 < b.length)).p/\(dp ((↑b.length:Int)=(↑b.length:Int)/\0 < (↑b.length:Int)/\zy (wV b) b.length=true)).p/\True) (.ret (txU b))) [])
def an_ (l:List Raw):=(ah3 l).val
theorem Wy (l:List Raw)(h:l≠[]/\UD l):IsP (ah3 l) (fun r=>r.length<=sJ l):=
 by
 obtain⟨y,C,L⟩:=h;have F:=CB l;unfold ah3;refine isP_as <| isP_each (aBf l) ⟨lH _,fun h=>absurd h h_,fun k=>uT [] k⟩ ah (fun m o f c=> ?_) fun o c=> ?_
 ·have j:=C _ (getD_mem (d:=lD) f);have g:=ayZ j.2;have p:=c.1;have M:=arY (l:=l) (i:=m);have O:=aaW f;have K:=arY (l:=l) (i:=m+1);have b:∀n,n<=sJ (l.take (m+1))->(dp (bM n 1)).p/\True:=fun n P=>⟨room_of ah ah,trivial⟩
  refine isP_ix ah ah (isP_br (fun E=>absurd E (by rw[j.2];decide)) fun _=>isP_lt fun G v=> ?_);rw[<-v]at g;refine isP_ob (b _ ah) (isP_lt fun u e=> ?_);have R:u.length=o.length+G.1.length:=by rw[e,kG,ng]
  refine isP_beq (fun _=>isP_lt fun J A=> ?_) fun _=>isP_br (fun _=>isP_ob j.1 (isP_lt fun I q=> ?_)) fun _=>isP_lt fun N s=>isP_ob (by rw[s];exact LQ _) (isP_lt fun B H=> ?_)
  ·have x:J.length=8:=by rw[A];exact(RY _).2
   exact isP_ob (b _ ah) (isP_ret (by rw[e];exact TT f c g ah))
  ·have x:I.length<=10:=by rw[q];exact put_len _ j.1
   exact isP_ob (b _ ah) (isP_ret (by rw[e];exact TT f c g ah))
  ·have x:B.length<=10:=by rw[H];exact put_len _ (by rw[s];exact LQ _)
   refine isP_ob (b _ ah) (isP_as <| isP_lt fun w z=> ?_);have Q:w.length=u.length+B.length:=by rw[z,kG,ng]
   refine isP_ob (b _ ah) (isP_ret ?_);rw[z,e,UA,<-ayB];exact TT f c g (by rw[kG];omega)
 ·have D:0 < o.length:=c.2.1 (by
   cases l with
   | nil=>exact absurd rfl y
   | cons a t=>simp)
  have p:=c.1;rw[yS]at p;exact isP_ob ⟨D,⟨rfl,by omega,mW c.2.2 _⟩,trivial⟩ (isP_ret (by rw[txU_len];exact p))
def azC:Ent Z:=E1 [oK,yz,A_,aby,YC,agQ,afT] [jS 3 (aT (fun b=>[s0 10, .tcs (pid (b 3)) 102 [some 5]]) (lCons cI (l1 uG)))] (a1 (aLf aZ)) (R1 cStr) [] func182 1 ah3 (fun a=>a≠[]/\UD a) fun a h=>(Wy a h).1
def KQ (l:List Raw):Str:=bif l.isEmpty then Ul else an_ l
theorem aaH {l:List Raw}(h:UD l):(KQ l).length<=sJ l:=by
 unfold KQ;cases l with
 | nil=>
  show Ul.length<=_
  unfold Ul ajJ;simp only[val_as,val_ob,val_ret];exact qR _
 | cons a t=>exact(Wy (a::t) ⟨by simp,h⟩).2
def anK:Ent Z:=⟨182,ctN (args (a1 (aLf aZ))) (R1 cStr) 1 [] (fun a=>some (UD a)) (fun a=>KQ a),by
  have c:CtOk Z.P Z.S 182 (ctN (args (a1 (aLf aZ))) (R1 cStr) 1 [] (fun a=>some (List.isEmpty a=true/\UD a)) (fun a=>Ul)):=ctFam_ok (fun _=>azB.ok) _ _ (fun a h=>⟨0,List.isEmpty_iff.1 h.1,rfl⟩);have b:CtOk Z.P Z.S 182 (ctN (args (a1 (aLf aZ))) (R1 cStr) 1 [] (fun a=>some (List.isEmpty a=false/\UD a)) (fun a=>an_ a)):=ctFam_ok (fun _=>azC.ok) _ _ (fun a h=>⟨0,⟨fun e=>absurd h.1 (by rw[show a=[]from e];decide),h.2⟩,rfl⟩);exact ctN_if c b⟩
def aDD:Ent Z:=xQ Z [uj] 257 [true] func257 dE
def aBH:Ent Z:=xQ Z [uj] 257 [false,true] func257 dE
def aEq:Ent Z:=xQ Z [uj] 257 [false,false,true] func257 dE
def aDb:Ent Z:=xQ Z [uj] 257 [false,false,false] func257 dE
def Nz (v:AVal):Pg Raw:=.cut (fun(a:Bool)=> .br a (.ret (Raw.mk 0 0 v.Bits [])) (.cut (fun(b:Bool)=> .br b (.ret (Raw.mk 0 1 (aov (wrp .i64 v.Bits)) [])) (.br (v.Kind==6) (.ret (Raw.mk 0 2 (lS v.re).Bits [])) (.br (v.Kind==7) (.br (v.Kind==7) (.ret (Raw.mk 0 3 0 v.Text)) (.ret (Raw.mk 0 0 0 []))) (.br (v.Kind==8) (.ret (Raw.mk 0 3 0 v.Text)) (.ret (Raw.mk 0 0 0 [])))))) (.br (v.Kind==2) (rl (v.Kind==2)) (rl (v.Kind==3))))) (.br (v.Kind==1) (rl (v.Kind==1)) (.br (v.Kind==4) (rl (v.Kind==4)) (.br (v.Kind==5) (rl (v.Kind==5)) (rl (v.Kind==9)))))
def AV (v:AVal):=(Nz v).val
def JC:Ent Z:=E0 [G5,aCc] [jS 100006 (aT (fun b=>[s0 5]) (l1 aj)),jS 100009 (aT (fun b=>[s0 13]) (l1 aj))] (a1 (aAgg ay)) (shr [.slot 0 true (nn 4)] (l1 lh)) [] func447 1 Nz
def V6 (a:Int)(f:Raw):Pg Raw:=.ret (Raw.mk a f.dF f.Bits f.Data)
def rq (a:Int)(f:Raw):=(V6 a f).val
def Bh:Ent Z:=E0 [] [] (aCons (aLf cI) (a1 (aAgg lh))) (shr [.slot 0 true (nn 4)] (l1 lh)) [] func446 1 (u2 V6)
def eOk (f:Raw)(n:Nat):Prop:=(0<=f.dF/\f.dF<=6)/\isU64 f.Bits/\(f.dF<=2->f.Data=[])/\(3<=f.dF->f.Bits=0)/\f.Data.length<=n
theorem Nv {w b:Int}{n:Nat}(a:0<=w/\w<=2)(c:isU64 b):eOk (Raw.mk 0 w b []) n:=⟨⟨a.1,by show w<=6;omega⟩,c,fun _=>rfl,fun h=>absurd a.2 (by have h:3<=w:=h;omega),qR _⟩
theorem aiX {w:Int}{d:Str}{n:Nat}(a:3<=w/\w<=6)(b:d.length<=n):eOk (Raw.mk 0 w 0 d) n:=⟨⟨by show 0<=w;omega,a.2⟩,u0,fun h=>absurd a.1 (by have h:w<=2:=h;omega),fun _=>rfl,b⟩
theorem anL {f:Raw}{n m:Nat}(h:eOk f n)(a:n<=m):eOk f m:=⟨h.1,h.2.1,h.2.2.1,h.2.2.2.1,zW h.2.2.2.2 a⟩
theorem aB1 (n:Int):isU64 (aov n):=by
 unfold aov aBz;simp only[val_ob,val_ret];exact aeP _
theorem E5 {v:AVal}(h:kV v):eOk (AV v) v.Text.length:=by
 have c:=((gW v).1 h).1.1;have d:=((gW _).1 (Nr h)).1.1;have k:VP (Nz v) (fun f=>eOk f v.Text.length):=by
  unfold Nz;simp only[AVal.cZ];have b:eOk (Raw.mk 0 0 0 []) v.Text.length:=Nv ⟨by decide,by decide⟩ u0;have a:eOk (Raw.mk 0 3 0 v.Text) v.Text.length:=aiX ⟨by decide,by decide⟩ (lH _);refine vp_cut (fun _=>True) ?_ fun e _=>vp_br (fun _=>vp_ret (Nv ⟨by decide,by decide⟩ c)) fun _=>vp_cut (fun _=>True) ?_ fun g _=>vp_br (fun _=>vp_ret (Nv ⟨by decide,by decide⟩ (aB1 _))) fun _=>vp_br (fun _=>vp_ret (Nv ⟨by decide,by decide⟩ d)) fun _=>vp_br (fun _=>vp_br (fun _=>vp_ret a) fun _=>vp_ret b) fun _=>vp_br (fun _=>vp_ret a) fun _=>vp_ret b
  ·exact vp_br (fun _=>vp_ret trivial) fun _=>vp_br (fun _=>vp_ret trivial) fun _=>vp_br (fun _=>vp_ret trivial) fun _=>vp_ret trivial
  ·exact vp_br (fun _=>vp_ret trivial) fun _=>vp_ret trivial
 exact k
theorem wF {num:Int}{f:Raw}{n:Nat}(a:1<=num/\num<=65535)(h:eOk f n):IM (rq num f)/\(rq num f).Data.length<=n:=
 ⟨Qq (f:=Raw.mk num f.dF f.Bits f.Data) a h.1 h.2.1 h.2.2.1 h.2.2.2.1,h.2.2.2.2⟩
theorem ay1 (l:List Raw):sJ l<=24*UK l:=by
 induction l with
 | nil=>exact lH _
 | cons a t b=>
  show 24+a.Data.length+sJ t<=24*(1+a.Data.length+UK t)
  omega
theorem Gg (x:Raw):sJ [x]=24+x.Data.length:=rfl
theorem QW (x:Raw)(l:List Raw):sJ (x::l)=24+x.Data.length+sJ l:=rfl
def enI (v:AVal)(i:Nat)(y:List Raw×List Raw):Prop:=(∀x∈y.1,IM x)/\(∀x∈y.2,IM x)/\y.2.length<=v.bC.length/\sJ y.1+sJ y.2<=sJ v.bC+64*smL tS (v.Slots.take i)
def ah1 (w:af)(o:Op)(v:AVal):Pg (List Raw):=aL v.List (.lt (wrp .u8 (ael (Op.mk o.Num o.Name o.Alias 2 o.Key o.Kind o.Target o.Union))) fun g=> .each false lF v.List dK (fun d f (a:List Int)=> .ix d v.List.length (.lt (AV f.re) fun b=> .br (ael (Op.mk o.Num o.Name o.Alias 2 o.Key o.Kind o.Target o.Union)==2) (.lt (aAp b.Bits) fun e=> .ob (bM (a.length+List.length e) 1) (rl (a++BG e))) (.ob (isU64 b.Bits) (.lt (vputP b.Bits) fun c=> .ob (bM (a.length+List.length c) 1) (rl (a++BG c)))))) (fun d (a:List Int)=> .ob (zy (fun(i:Nat)=>true) a.length=true) (.ret [Raw.mk o.Num 5 0 (txU a)])) [g])
def aCe (w:af)(o:Op)(v:AVal):=(ah1 w o v).val
theorem V8 (w:af)(o:Op)(v:AVal)(h:(1<=o.Num/\o.Num<=65535)/\gV v):IsP (ah1 w o v) (fun r=>(∀x∈r,IM x)/\sJ r<=24+64*tV v):=
 by
 obtain⟨q,c⟩:=h;have u:=oh c;have A:=c.2;have z:=gQ v;have B:=FB v.List;unfold ah1;simp only[AVal.cZ];refine isP_as <| isP_lt fun D t=>isP_each (fun i y=>y.length<=1+10*i) oG ah (fun m a n s=> ?_) fun a s=>isP_ob (mW (fun _=>rfl) _) (isP_ret ⟨jq (Qq (f:=Raw.mk o.Num 5 0 (txU a)) q ⟨(by decide:(0:Int)<=5),(by decide:(5:Int)<=6)⟩ u0 (fun h=>absurd h (by decide:¬(5:Int)<=2)) (fun _=>rfl)),?_⟩)
 ·have e:isU64 (AV (v.List.getD m dK)).Bits:=(E5 (Iw c (getD_mem (d:=dK) n)).1.1).2.1;refine isP_ix ah ah (isP_lt fun C b=>isP_beq (fun _=>isP_lt fun l j=> ?_) fun _=>isP_ob (by rw[b];exact e) (isP_lt fun k g=> ?_))
  ·have p:l.length=8:=by rw[j];exact(RY _).2
   exact isP_ob (room_of ah ah) (isP_ret (by show(a++BG l).length<=_;rw[kG,ng];omega))
  ·have p:k.length<=10:=by rw[g];exact put_len _ (by rw[b];exact e)
   exact isP_ob (room_of ah ah) (isP_ret (by show(a++BG k).length<=_;rw[kG,ng];omega))
 ·rw[Gg];show 24+(txU a).length<=_
  rw[txU_len];omega
def ayd:Ent Z:=E1 [A_,agQ,aiC,JC] [jS 6 (aT (fun b=>[s0 23, .slot 9 false [some 5]]) (lCons cI (l1 uG)))] (aCons (aAgg dN) (aCons (aAgg gU) (a1 (aAgg ay)))) (R1 aZ) [] func378 1 (u3 ah1) (fun a=>(1<=a.2.1.Num/\a.2.1.Num<=65535)/\gV a.2.2) fun a h=>(V8 a.1 a.2.1 a.2.2 h).1
def PE (b:af->Op->AVal->Raw)(bV:af->Op->AVal->Prop)(d:af->Op->AVal->List Raw)(dw:af->Op->AVal->Prop)(f:af->Op->AVal->List Raw)(bT:af->Op->AVal->Prop)(e:af->Op->AVal->List Raw)(dI:af->Op->AVal->Prop)(c:af->Int->Slot->List Raw)(dX:af->Int->Slot->Prop)(a:af->Int->AVal->Str)(iq:af->Int->AVal->Prop)(w:af)(o:Op)(v:AVal):Pg Raw:=.br (o.Kind==10) (.ob (iq w o.Target v.re) (.ret (Raw.mk 0 4 0 (a w o.Target v.re)))) (.ret (AV v.re))
def SE (f:af->Op->AVal->Raw)(bV:af->Op->AVal->Prop)(i:af->Op->AVal->List Raw)(dw:af->Op->AVal->Prop)(k:af->Op->AVal->List Raw)(bT:af->Op->AVal->Prop)(j:af->Op->AVal->List Raw)(dI:af->Op->AVal->Prop)(g:af->Int->Slot->List Raw)(dX:af->Int->Slot->Prop)(h:af->Int->AVal->Str)(iq:af->Int->AVal->Prop)(w:af)(o:Op)(v:AVal):Pg (List Raw):=aL v.Pairs (.each false lF v.Pairs dJ (fun c b (a:List Raw)=> .ix c v.Pairs.length (.ob (bV w o b.Val.re) (.lt (rq 2 (f w o b.Val.re)) fun e=> .lt (rq 1 (AV b.Key.re)) fun d=> .ob (UD [d,e]) (.ob (bM (a.length+1) 40) (rl (a++[Raw.mk o.Num 6 0 (KQ [d,e])])))))) (fun c (a:List Raw)=> .ret a) [])
def IZ (d:af->Op->AVal->Raw)(bV:af->Op->AVal->Prop)(f:af->Op->AVal->List Raw)(dw:af->Op->AVal->Prop)(i:af->Op->AVal->List Raw)(bT:af->Op->AVal->Prop)(g:af->Op->AVal->List Raw)(dI:af->Op->AVal->Prop)(e:af->Int->Slot->List Raw)(dX:af->Int->Slot->Prop)(h:af->Int->AVal->Str)(iq:af->Int->AVal->Prop)(w:af)(o:Op)(v:AVal):Pg (List Raw):=aL v.List (.each false lF v.List dK (fun c b (a:List Raw)=> .ix c v.List.length (.ob (bV w o b.re) (.ob (bM (a.length+1) 40) (rl (a++[rq o.Num (d w o b.re)]))))) (fun c (a:List Raw)=> .ret a) [])
def Zg (a:af->Op->AVal->Raw)(bV:af->Op->AVal->Prop)(c:af->Op->AVal->List Raw)(dw:af->Op->AVal->Prop)(f:af->Op->AVal->List Raw)(bT:af->Op->AVal->Prop)(d:af->Op->AVal->List Raw)(dI:af->Op->AVal->Prop)(b:af->Int->Slot->List Raw)(dX:af->Int->Slot->Prop)(e:af->Int->AVal->Str)(iq:af->Int->AVal->Prop)(w:af)(o:Op)(v:AVal):Pg (List Raw):=.ob (bV w o v.re) (.ret [rq o.Num (a w o v.re)])
def aCC (g:af->Op->AVal->Raw)(bV:af->Op->AVal->Prop)(b:af->Op->AVal->List Raw)(dw:af->Op->AVal->Prop)(f:af->Op->AVal->List Raw)(bT:af->Op->AVal->Prop)(e:af->Op->AVal->List Raw)(dI:af->Op->AVal->Prop)(c:af->Int->Slot->List Raw)(dX:af->Int->Slot->Prop)(d:af->Int->AVal->Str)(iq:af->Int->AVal->Prop)(w:af)(prog:Int)(s:Slot):Pg (List Raw):=.ix prog w.p.aO.length (.lt (j_ (w.p.aO.getD prog.toNat bH) s.Num) fun a=> .br (!a.2) (.ret []) (.ob ((a.1.Card==5)=true/\True) (.ob (dw w a.1 s.Val.re) (.ret (b w a.1 s.Val.re)))))
def asq (g:af->Op->AVal->Raw)(bV:af->Op->AVal->Prop)(c:af->Op->AVal->List Raw)(dw:af->Op->AVal->Prop)(f:af->Op->AVal->List Raw)(bT:af->Op->AVal->Prop)(e:af->Op->AVal->List Raw)(dI:af->Op->AVal->Prop)(b:af->Int->Slot->List Raw)(dX:af->Int->Slot->Prop)(d:af->Int->AVal->Str)(iq:af->Int->AVal->Prop)(w:af)(prog:Int)(s:Slot):Pg (List Raw):=.ix prog w.p.aO.length (.lt (j_ (w.p.aO.getD prog.toNat bH) s.Num) fun a=> .br (!a.2) (.ret []) (.ob ((a.1.Card==5)=false/\jE a.1=true/\True) (.ob ((1<=a.1.Num/\a.1.Num<=65535)/\gV s.Val.re) (.ret (aCe w a.1 s.Val.re)))))
def aDZ (g:af->Op->AVal->Raw)(bV:af->Op->AVal->Prop)(d:af->Op->AVal->List Raw)(dw:af->Op->AVal->Prop)(b:af->Op->AVal->List Raw)(bT:af->Op->AVal->Prop)(f:af->Op->AVal->List Raw)(dI:af->Op->AVal->Prop)(c:af->Int->Slot->List Raw)(dX:af->Int->Slot->Prop)(e:af->Int->AVal->Str)(iq:af->Int->AVal->Prop)(w:af)(prog:Int)(s:Slot):Pg (List Raw):=.ix prog w.p.aO.length (.lt (j_ (w.p.aO.getD prog.toNat bH) s.Num) fun a=> .br (!a.2) (.ret []) (.ob ((a.1.Card==5)=false/\jE a.1=false/\(a.1.Card==4)=true/\True) (.ob (bT w a.1 s.Val.re) (.ret (b w a.1 s.Val.re)))))
def aBw (g:af->Op->AVal->Raw)(bV:af->Op->AVal->Prop)(d:af->Op->AVal->List Raw)(dw:af->Op->AVal->Prop)(f:af->Op->AVal->List Raw)(bT:af->Op->AVal->Prop)(b:af->Op->AVal->List Raw)(dI:af->Op->AVal->Prop)(c:af->Int->Slot->List Raw)(dX:af->Int->Slot->Prop)(e:af->Int->AVal->Str)(iq:af->Int->AVal->Prop)(w:af)(prog:Int)(s:Slot):Pg (List Raw):=.ix prog w.p.aO.length (.lt (j_ (w.p.aO.getD prog.toNat bH) s.Num) fun a=> .br (!a.2) (.ret []) (.ob ((a.1.Card==5)=false/\jE a.1=false/\(a.1.Card==4)=false/\True) (.ob (dI w a.1 s.Val.re) (.ret (b w a.1 s.Val.re)))))
def aqp (m:af->Op->AVal->Raw)(bV:af->Op->AVal->Prop)(j:af->Op->AVal->List Raw)(dw:af->Op->AVal->Prop)(l:af->Op->AVal->List Raw)(bT:af->Op->AVal->Prop)(k:af->Op->AVal->List Raw)(dI:af->Op->AVal->Prop)(f:af->Int->Slot->List Raw)(dX:af->Int->Slot->Prop)(i:af->Int->AVal->Str)(iq:af->Int->AVal->Prop)(w:af)(prog:Int)(v:AVal):Pg (List UInt8):=.ob (gV v.re) (.lt (Tc w.p prog v.re) fun d=> aL d.Slots (.each false lF d.Slots bn (fun g b (c:List Raw×List Raw)=> .ix g d.Slots.length (.cut (fun(e:List Raw×List Raw)=> .ob (dX w prog (Slot.mk b.Num b.Val.re)) (.ob (bM (e.1.length+(f w prog (Slot.mk b.Num b.Val.re)).length) 40) (rl (e.1++f w prog (Slot.mk b.Num b.Val.re),e.2)))) (.wh (tV v+1) default (fun(a:List Raw×List Raw)=> .br (decide (0 < (↑a.2.length:Int))) (.ix 0 a.2.length (.br (decide ((a.2.getD 0 lD).Num < b.Num)) (.ix 0 a.2.length (.ob (bM (a.1.length+1) 40) (.ob ((0:Int)<=1/\1<=(↑a.2.length:Int)/\(↑a.2.length:Int)<=(↑a.2.length:Int)) (rl (a.1++[a.2.getD 0 lD],List.drop 1 (List.take a.2.length a.2)))))) (.ret (.inr (.inl a))))) (.ret (.inr (.inl a)))) c))) (fun g (c:List Raw×List Raw)=> .ob (bM (c.1.length+c.2.length) 40) (.lt (c.1++c.2) fun(h:List Raw)=> .ob (UD h) (.ret (KQ h)))) ([],d.bC)))
def bV (a:Nat)(w:af)(o:Op)(v:AVal):Prop:=bZ w.p/\TN w.p o/\gV v/\4*tV v+1<=a
def dw (a:Nat)(w:af)(o:Op)(v:AVal):Prop:=bZ w.p/\TN w.p o/\gV v/\4*tV v+2<=a
def bT (a:Nat)(w:af)(o:Op)(v:AVal):Prop:=bZ w.p/\TN w.p o/\gV v/\4*tV v+2<=a
def dI (a:Nat)(w:af)(o:Op)(v:AVal):Prop:=bZ w.p/\TN w.p o/\gV v/\4*tV v+2<=a
def dX (a:Nat)(w:af)(prog:Int)(s:Slot):Prop:=bZ w.p/\(0<=prog/\prog < w.p.aO.length)/\gV s.Val/\4*tV s.Val+3<=a
def iq (a:Nat)(w:af)(prog:Int)(v:AVal):Prop:=bZ w.p/\(0<=prog/\prog < w.p.aO.length)/\gV v/\4*tV v<=a
def iJ:Nat->(af->Op->AVal->Raw)×(af->Op->AVal->(List Raw))×(af->Op->AVal->(List Raw))×(af->Op->AVal->(List Raw))×(af->Int->Slot->(List Raw))×(af->Int->AVal->Str)
 | 0=>(fun _ _ _=>default,fun _ _ _=>default,fun _ _ _=>default,fun _ _ _=>default,fun _ _ _=>default,fun _ _ _=>default)
 | a+1=>(fun w o v=>(PE ((iJ a).1) (bV a) ((iJ a).2.1) (dw a) ((iJ a).2.2.1) (bT a) ((iJ a).2.2.2.1) (dI a) ((iJ a).2.2.2.2.1) (dX a) ((iJ a).2.2.2.2.2) (iq a) w o v).val,fun w o v=>(SE ((iJ a).1) (bV a) ((iJ a).2.1) (dw a) ((iJ a).2.2.1) (bT a) ((iJ a).2.2.2.1) (dI a) ((iJ a).2.2.2.2.1) (dX a) ((iJ a).2.2.2.2.2) (iq a) w o v).val,fun w o v=>(IZ ((iJ a).1) (bV a) ((iJ a).2.1) (dw a) ((iJ a).2.2.1) (bT a) ((iJ a).2.2.2.1) (dI a) ((iJ a).2.2.2.2.1) (dX a) ((iJ a).2.2.2.2.2) (iq a) w o v).val,fun w o v=>(Zg ((iJ a).1) (bV a) ((iJ a).2.1) (dw a) ((iJ a).2.2.1) (bT a) ((iJ a).2.2.2.1) (dI a) ((iJ a).2.2.2.2.1) (dX a) ((iJ a).2.2.2.2.2) (iq a) w o v).val,fun w prog s=>bif (j_ (w.p.aO.getD prog.toNat bH) s.Num).1.Card==5 then(aCC ((iJ a).1) (bV a) ((iJ a).2.1) (dw a) ((iJ a).2.2.1) (bT a) ((iJ a).2.2.2.1) (dI a) ((iJ a).2.2.2.2.1) (dX a) ((iJ a).2.2.2.2.2) (iq a) w prog s).val else bif jE (j_ (w.p.aO.getD prog.toNat bH) s.Num).1 then(asq ((iJ a).1) (bV a) ((iJ a).2.1) (dw a) ((iJ a).2.2.1) (bT a) ((iJ a).2.2.2.1) (dI a) ((iJ a).2.2.2.2.1) (dX a) ((iJ a).2.2.2.2.2) (iq a) w prog s).val else bif (j_ (w.p.aO.getD prog.toNat bH) s.Num).1.Card==4 then(aDZ ((iJ a).1) (bV a) ((iJ a).2.1) (dw a) ((iJ a).2.2.1) (bT a) ((iJ a).2.2.2.1) (dI a) ((iJ a).2.2.2.2.1) (dX a) ((iJ a).2.2.2.2.2) (iq a) w prog s).val else(aBw ((iJ a).1) (bV a) ((iJ a).2.1) (dw a) ((iJ a).2.2.1) (bT a) ((iJ a).2.2.2.1) (dI a) ((iJ a).2.2.2.2.1) (dX a) ((iJ a).2.2.2.2.2) (iq a) w prog s).val,fun w prog v=>(aqp ((iJ a).1) (bV a) ((iJ a).2.1) (dw a) ((iJ a).2.2.1) (bT a) ((iJ a).2.2.2.1) (dI a) ((iJ a).2.2.2.2.1) (dX a) ((iJ a).2.2.2.2.2) (iq a) w prog v).val)
def arl (w:af)(prog:Int)(v:AVal):Str:=(iJ (4*tV v)).2.2.2.2.2 w prog v
def wZ (a:Nat):Prop:=(∀(w:af) (o:Op) (v:AVal),bV a w o v->(fun r=>eOk r (64*tV v)) ((iJ a).1 w o v))/\(∀(w:af) (o:Op) (v:AVal),dw a w o v->(fun r=>(∀x∈r,IM x)/\sJ r<=24+64*tV v) ((iJ a).2.1 w o v))/\(∀(w:af) (o:Op) (v:AVal),bT a w o v->(fun r=>(∀x∈r,IM x)/\sJ r<=24+64*tV v) ((iJ a).2.2.1 w o v))/\(∀(w:af) (o:Op) (v:AVal),dI a w o v->(fun r=>(∀x∈r,IM x)/\sJ r<=24+64*tV v) ((iJ a).2.2.2.1 w o v))/\(∀(w:af) (prog:Int) (s:Slot),dX a w prog s->(fun r=>(∀x∈r,IM x)/\sJ r<=24+64*tV s.Val) ((iJ a).2.2.2.2.1 w prog s))/\(∀(w:af) (prog:Int) (v:AVal),iq a w prog v->(fun r=>r.length<=64*tV v) ((iJ a).2.2.2.2.2 w prog v))
abbrev zq (a:Nat):=PE ((iJ a).1) (bV a) ((iJ a).2.1) (dw a) ((iJ a).2.2.1) (bT a) ((iJ a).2.2.2.1) (dI a) ((iJ a).2.2.2.2.1) (dX a) ((iJ a).2.2.2.2.2) (iq a)
theorem Ig (a:Nat)(e:wZ a)(w:af)(o:Op)(v:AVal)(h:bV (a+1) w o v):IsP (zq a w o v) (fun r=>eOk r (64*tV v)):=
 by
 obtain⟨g,f,b,i⟩:=h;unfold zq PE;simp only[AVal.cZ];refine isP_beq (fun c=> ?_) (fun c=>isP_ret ?_)
 ·have d:iq a w o.Target v:=⟨g,f.1 c,b,by omega⟩;exact isP_ob d (isP_ret (aiX ⟨by decide,by decide⟩ (e.2.2.2.2.2 _ _ _ d)))
 ·exact anL (E5 b.1) (by have:=gQ v;omega)
abbrev yZ (a:Nat):=SE ((iJ a).1) (bV a) ((iJ a).2.1) (dw a) ((iJ a).2.2.1) (bT a) ((iJ a).2.2.2.1) (dI a) ((iJ a).2.2.2.2.1) (dX a) ((iJ a).2.2.2.2.2) (iq a)
theorem Iu (e:Nat)(F:wZ e)(w:af)(o:Op)(v:AVal)(h:dw (e+1) w o v):IsP (yZ e w o v) (fun r=>(∀x∈r,IM x)/\sJ r<=24+64*tV v):=
 by
 obtain⟨J,u,c,Q⟩:=h;have j:=oh c;have R:=c.2;have N:=j.2.2.2.1;have P:=gQ v;have S:=xu v.Pairs;unfold yZ SE;simp only[AVal.cZ];refine isP_as <| isP_each (fun i y=>y.length<=i/\(∀x∈y,IM x)/\sJ y<=64*smL tP (v.Pairs.take i)) ⟨lH _,fun x L=>absurd L (YH),qR _⟩ (by have:=j.2.2.2.1;omega) (fun g l k hI=> ?_) fun l hI=>isP_ret ⟨hI.2.1,?_⟩
 ·have n:=getD_mem (d:=dJ) k;obtain⟨B,U,V,T⟩:=FN c n;have C:=as2 c n;have p:bV e w o (v.Pairs.getD g dJ).Val:=⟨J,u,B,by omega⟩;have G:=F.1 _ _ _ p;have I:=E5 C;have O:=gQ (v.Pairs.getD g dJ).Key;have D:=oJ (f:=tP) (d:=dJ) k;have K:=Wq (v.Pairs.getD g dJ);refine isP_ix ah ah (isP_ob p (isP_lt fun b s=>isP_lt fun a m=> ?_));obtain⟨t,H⟩:=wF (num:=2) ⟨by decide,by decide⟩ G;obtain⟨q,E⟩:=wF (num:=1) ⟨by decide,by decide⟩ I;rw[<-s]at t H;rw[<-m]at q E;have A:sJ [a,b]=24+a.Data.length+(24+b.Data.length):=rfl;have z:UD [a,b]:=⟨ajI q t,by rw[A];omega⟩;have M:=aaH z;rw[A]at M;refine isP_ob z (isP_ob (room_of qbh qbh) (isP_ret ⟨by have:=hI.1;simp only[kG,uU,uF];omega,nT hI.2.1 (jq ?_),?_⟩))
  ·exact Qq (f:=Raw.mk o.Num 6 0 (KQ [a,b])) u.2.2 ⟨(by decide:(0:Int)<=6),AA 6⟩ u0 (fun h=>absurd h (by decide:¬(6:Int)<=2)) (fun _=>rfl)
  ·have:=hI.2.2;rw[GM,Gg,D,K];show sJ l+(24+(KQ [a,b]).length)<=_
   omega
 ·have:=hI.2.2;rw[yS]at this;omega
abbrev wR (a:Nat):=IZ ((iJ a).1) (bV a) ((iJ a).2.1) (dw a) ((iJ a).2.2.1) (bT a) ((iJ a).2.2.2.1) (dI a) ((iJ a).2.2.2.2.1) (dX a) ((iJ a).2.2.2.2.2) (iq a)
theorem DK (a:Nat)(p:wZ a)(w:af)(o:Op)(v:AVal)(h:bT (a+1) w o v):IsP (wR a w o v) (fun r=>(∀x∈r,IM x)/\sJ r<=24+64*tV v):=
 by
 obtain⟨s,g,b,A⟩:=h;have u:=oh b;have B:=b.2;have z:=gQ v;have C:=xq v.List;unfold wR IZ;simp only[AVal.cZ];refine isP_as <| isP_each (fun i y=>y.length<=i/\(∀x∈y,IM x)/\sJ y<=64*smL (fun x=>1+tV x) (v.List.take i)) ⟨lH _,fun x t=>absurd t (YH),qR _⟩ ah (fun k l c hI=> ?_) fun l hI=>isP_ret ⟨hI.2.1,?_⟩
 ·obtain⟨j,D⟩:=Iw b (getD_mem (d:=dK) c);have e:bV a w o (v.List.getD k dK):=⟨s,g,j,by omega⟩;have q:=p.1 _ _ _ e;have m:=oJ (f:=fun x=>1+tV x) (d:=dK) c;obtain⟨n,E⟩:=wF g.2.2 q;refine isP_ix ah ah (isP_ob e (isP_ob (room_of qbh qbh) (isP_ret ⟨by have:=hI.1;simp only[kG,uU,uF];omega,nT hI.2.1 (jq n),?_⟩)));have:=hI.2.2;rw[GM,Gg,m];omega
 ·have:=hI.2.2;rw[yS]at this;omega
abbrev BZ (a:Nat):=Zg ((iJ a).1) (bV a) ((iJ a).2.1) (dw a) ((iJ a).2.2.1) (bT a) ((iJ a).2.2.2.1) (dI a) ((iJ a).2.2.2.2.1) (dX a) ((iJ a).2.2.2.2.2) (iq a)
theorem KN (a:Nat)(d:wZ a)(w:af)(o:Op)(v:AVal)(h:dI (a+1) w o v):IsP (BZ a w o v) (fun r=>(∀x∈r,IM x)/\sJ r<=24+64*tV v):=
 by
 obtain⟨e,b,f,j⟩:=h;unfold BZ Zg;simp only[AVal.cZ];have c:bV a w o v:=⟨e,b,f,by omega⟩;obtain⟨g,i⟩:=wF b.2.2 (d.1 _ _ _ c);exact isP_ob c (isP_ret ⟨jq g,by rw[Gg];omega⟩)
abbrev TK (a:Nat):=aCC ((iJ a).1) (bV a) ((iJ a).2.1) (dw a) ((iJ a).2.2.1) (bT a) ((iJ a).2.2.2.1) (dI a) ((iJ a).2.2.2.2.1) (dX a) ((iJ a).2.2.2.2.2) (iq a)
theorem abH (a:Nat)(k:wZ a)(w:af)(prog:Int)(s:Slot)(h:dX (a+1) w prog s)(c:((j_ (w.p.aO.getD prog.toNat bH) s.Num).1.Card==5)=true):IsP (TK a w prog s) (fun r=>(∀x∈r,IM x)/\sJ r<=24+64*tV s.Val):=
 by
 obtain⟨e,b,m,p⟩:=h;unfold TK aCC;simp only[AVal.cZ];refine isP_ix b.1 b.2 (isP_lt fun n hv1=>isP_br (fun _=>isP_ret ⟨fun x o=>absurd o (YH),qR _⟩) fun hf=> ?_);have f:=(e _ (getD_mem (d:=bH) (l:=w.p.aO) (i:=prog.toNat) ah)).2 _ (Gp (g:=w.p.aO.getD prog.toNat bH) (num:=s.Num) qci);rw[<-hv1]at f c;have j:dw a w n.1 s.Val:=⟨e,f,m,by omega⟩;exact isP_ob ⟨c,trivial⟩ (isP_ob j (isP_ret (k.2.1 _ _ _ j)))
abbrev FZ (a:Nat):=asq ((iJ a).1) (bV a) ((iJ a).2.1) (dw a) ((iJ a).2.2.1) (bT a) ((iJ a).2.2.2.1) (dI a) ((iJ a).2.2.2.2.1) (dX a) ((iJ a).2.2.2.2.2) (iq a)
theorem Vb (a:Nat)(n:wZ a)(w:af)(prog:Int)(s:Slot)(h:dX (a+1) w prog s)(b:(jE (j_ (w.p.aO.getD prog.toNat bH) s.Num).1)=true/\((j_ (w.p.aO.getD prog.toNat bH) s.Num).1.Card==5)=false):IsP (FZ a w prog s) (fun r=>(∀x∈r,IM x)/\sJ r<=24+64*tV s.Val):=
 by
 obtain⟨j,e,f,o⟩:=h;unfold FZ asq;simp only[AVal.cZ];refine isP_ix e.1 e.2 (isP_lt fun k hv1=>isP_br (fun _=>isP_ret ⟨fun x m=>absurd m (YH),qR _⟩) fun hf=> ?_);have c:=(j _ (getD_mem (d:=bH) (l:=w.p.aO) (i:=prog.toNat) ah)).2 _ (Gp (g:=w.p.aO.getD prog.toNat bH) (num:=s.Num) qci);rw[<-hv1]at c b;exact isP_ob ⟨b.2,b.1,trivial⟩ (isP_ob ⟨c.2.2,f⟩ (isP_ret (V8 w k.1 s.Val ⟨c.2.2,f⟩).2))
abbrev Sr (a:Nat):=aDZ ((iJ a).1) (bV a) ((iJ a).2.1) (dw a) ((iJ a).2.2.1) (bT a) ((iJ a).2.2.2.1) (dI a) ((iJ a).2.2.2.2.1) (dX a) ((iJ a).2.2.2.2.2) (iq a)
theorem abp (a:Nat)(k:wZ a)(w:af)(prog:Int)(s:Slot)(h:dX (a+1) w prog s)(b:((j_ (w.p.aO.getD prog.toNat bH) s.Num).1.Card==4)=true/\(jE (j_ (w.p.aO.getD prog.toNat bH) s.Num).1)=false/\((j_ (w.p.aO.getD prog.toNat bH) s.Num).1.Card==5)=false):IsP (Sr a w prog s) (fun r=>(∀x∈r,IM x)/\sJ r<=24+64*tV s.Val):=
 by
 obtain⟨e,c,m,p⟩:=h;unfold Sr aDZ;simp only[AVal.cZ];refine isP_ix c.1 c.2 (isP_lt fun n hv1=>isP_br (fun _=>isP_ret ⟨fun x o=>absurd o (YH),qR _⟩) fun hf=> ?_);have f:=(e _ (getD_mem (d:=bH) (l:=w.p.aO) (i:=prog.toNat) ah)).2 _ (Gp (g:=w.p.aO.getD prog.toNat bH) (num:=s.Num) qci);rw[<-hv1]at f b;have j:bT a w n.1 s.Val:=⟨e,f,m,by omega⟩;exact isP_ob ⟨b.2.2,b.2.1,b.1,trivial⟩ (isP_ob j (isP_ret (k.2.2.1 _ _ _ j)))
abbrev TJ (a:Nat):=aBw ((iJ a).1) (bV a) ((iJ a).2.1) (dw a) ((iJ a).2.2.1) (bT a) ((iJ a).2.2.2.1) (dI a) ((iJ a).2.2.2.2.1) (dX a) ((iJ a).2.2.2.2.2) (iq a)
theorem acX (a:Nat)(k:wZ a)(w:af)(prog:Int)(s:Slot)(h:dX (a+1) w prog s)(b:((j_ (w.p.aO.getD prog.toNat bH) s.Num).1.Card==4)=false/\(jE (j_ (w.p.aO.getD prog.toNat bH) s.Num).1)=false/\((j_ (w.p.aO.getD prog.toNat bH) s.Num).1.Card==5)=false):IsP (TJ a w prog s) (fun r=>(∀x∈r,IM x)/\sJ r<=24+64*tV s.Val):=
 by
 obtain⟨e,c,m,p⟩:=h;unfold TJ aBw;simp only[AVal.cZ];refine isP_ix c.1 c.2 (isP_lt fun n hv1=>isP_br (fun _=>isP_ret ⟨fun x o=>absurd o (YH),qR _⟩) fun hf=> ?_);have f:=(e _ (getD_mem (d:=bH) (l:=w.p.aO) (i:=prog.toNat) ah)).2 _ (Gp (g:=w.p.aO.getD prog.toNat bH) (num:=s.Num) qci);rw[<-hv1]at f b;have j:dI a w n.1 s.Val:=⟨e,f,m,by omega⟩;exact isP_ob ⟨b.2.2,b.2.1,b.1,trivial⟩ (isP_ob j (isP_ret (k.2.2.2.1 _ _ _ j)))
abbrev OJ (a:Nat):=aqp ((iJ a).1) (bV a) ((iJ a).2.1) (dw a) ((iJ a).2.2.1) (bT a) ((iJ a).2.2.2.1) (dI a) ((iJ a).2.2.2.2.1) (dX a) ((iJ a).2.2.2.2.2) (iq a)
theorem VM (m:Nat)(O:wZ m)(w:af)(prog:Int)(v:AVal)(h:iq (m+1) w prog v):IsP (OJ m w prog v) (fun r=>r.length<=64*tV v):=
 by
 obtain⟨U,P,y,h4⟩:=h;unfold OJ aqp;simp only[AVal.cZ];obtain⟨u,T⟩:=Kq w.p prog v y;have hb:=y.2;refine isP_ob y (isP_lt fun b J=> ?_);rw[<-J]at u T;have K:gV b:=⟨u,by omega⟩;have X:=oh K;have Z:=gQ b;have ks:=(gW b).1 u;have sR:=ay1 b.bC;have sL:=Fv b.bC;have sS:=xg b.Slots;have q:∀i,smL tS (b.Slots.take i)<=smL tS b.Slots:=fun i=>rJ (Qcp i _)
 refine isP_as <| isP_each (enI b) ⟨fun x p=>absurd p (YH),ks.1.2,lH _,by show sJ []+sJ b.bC<=_;have:sJ []=0:=rfl;omega⟩ ah (fun j l C n=> ?_) fun l n=> ?_
 ·refine isP_ix ah ah (isP_cut (enI b j) (isP_wh (enI b j) (fun x=>x.2.length) n (by have:=n.2.2.1;show l.2.length < tV v+1;omega) fun x p=> ?_) fun A G=> ?_)
  ·obtain⟨o,r⟩:=x;cases r with
   | nil=>exact isP_brd (fun F=>absurd F (by show ¬(0:Int) < ((([]:List Raw).length:Nat):Int);simp)) fun _=>isP_ret p
   | cons a t=>
    obtain⟨k,c,g,e⟩:=p;have g:t.length+1<=b.bC.length:=g;have e:sJ o+sJ (a::t)<=sJ b.bC+64*smL tS (b.Slots.take j):=e;rw[QW]at e;have D:=CB o;have I:=q j;have R:List.drop 1 (List.take (a::t).length (a::t))=t:=by simp
    refine isP_brd (fun F=>isP_ix (AA 0) qb7 (isP_brd (fun W=>isP_ix (AA 0) qb7 (isP_ob (room_of (by show o.length+1<=_;omega) (by show(o.length+1)*40<=_;omega)) (isP_ob (by simp only[uU];omega) (isP_ret ?_)))) fun _=>isP_ret ⟨k,c,g,by rw[QW];exact e⟩)) fun _=>isP_ret ⟨k,c,g,by rw[QW];exact e⟩;rw[R];refine⟨⟨nT k (jq (c a (List.mem_cons_self))),fun z Q=>c z (Qb _ Q),by show t.length<=_;omega,?_⟩,by show t.length < (a::t).length;simp⟩;show sJ (o++[a])+sJ t<=_
    rw[GM,Gg];omega
  ·have M:=getD_mem (d:=bn) C;obtain⟨L,g2⟩:=OC K M;have N:=oJ (f:=tS) (d:=bn) C;have V:=yc (b.Slots.getD j bn);have I:=q (j+1);generalize b.Slots.getD j bn=a at*;rw[Slot.eta];have E:dX m w prog a:=⟨U,P,L,by omega⟩;obtain⟨S,k2⟩:=O.2.2.2.2.1 w prog a E;obtain⟨k,c,g,e⟩:=G;have D:=CB A.1;have Y:=CB ((iJ m).2.2.2.2.1 w prog a);refine isP_ob E (isP_ob (room_of ah ah) (isP_ret ⟨nT k S,c,g,?_⟩));show sJ (A.1++(iJ m).2.2.2.2.1 w prog a)+sJ A.2<=_
   rw[GM,N,V];omega
 ·obtain⟨k,c,g,e⟩:=n;have D:=CB l.1;have I:=CB l.2;rw[yS]at e;refine isP_ob (room_of ah ah) (isP_lt fun B s=> ?_);have e7:sJ B=sJ l.1+sJ l.2:=by rw[s,GM]
  have H:UD B:=⟨by rw[s];exact nT k c,by omega⟩;have pl:=aaH H;exact isP_ob H (isP_ret (by show(KQ B).length<=64*tV v;omega))
theorem kD:∀a,wZ a
 | 0=>⟨fun w o v h=>False.elim qbz,
  fun w o v h=>False.elim qbz,
  fun w o v h=>False.elim qbz,
  fun w o v h=>False.elim qbz,
  fun w prog s h=>False.elim (by have k:=h.2.2.2;have:=jH s.Val;omega),
  fun w prog v h=>False.elim qbz⟩
 | a+1=>⟨fun w o v h=>(Ig a (kD a) w o v h).2,
  fun w o v h=>(Iu a (kD a) w o v h).2,
  fun w o v h=>(DK a (kD a) w o v h).2,
  fun w o v h=>(KN a (kD a) w o v h).2,
  fun w prog s h=>by
  show(fun r=>(∀x∈r,IM x)/\sJ r<=24+64*tV s.Val) ((iJ (a+1)).2.2.2.2.1 w prog s)
  unfold iJ;dsimp only;cases b:((j_ (w.p.aO.getD prog.toNat bH) s.Num).1.Card==5)with
  | true=>exact(abH a (kD a) w prog s h b).2
  | false=>
   cases c:(jE (j_ (w.p.aO.getD prog.toNat bH) s.Num).1)with
   | true=>exact(Vb a (kD a) w prog s h ⟨c,b⟩).2
   | false=>
    cases d:((j_ (w.p.aO.getD prog.toNat bH) s.Num).1.Card==4)with
    | true=>exact(abp a (kD a) w prog s h ⟨d,c,b⟩).2
    | false=>
     exact(acX a (kD a) w prog s h ⟨d,c,b⟩).2,
  fun w prog v h=>(VM a (kD a) w prog v h).2⟩
theorem aa1 (a:Nat)(w:af)(o:Op)(v:AVal)(h:bV (a+1) w o v):Is (zq a w o v):=(Ig a (kD a) w o v h).1
theorem abe (a:Nat)(w:af)(o:Op)(v:AVal)(h:dw (a+1) w o v):Is (yZ a w o v):=(Iu a (kD a) w o v h).1
theorem Zv (a:Nat)(w:af)(o:Op)(v:AVal)(h:bT (a+1) w o v):Is (wR a w o v):=(DK a (kD a) w o v h).1
theorem adV (a:Nat)(w:af)(o:Op)(v:AVal)(h:dI (a+1) w o v):Is (BZ a w o v):=(KN a (kD a) w o v h).1
theorem awW (a:Nat)(w:af)(prog:Int)(s:Slot)(h:dX (a+1) w prog s)(b:((j_ (w.p.aO.getD prog.toNat bH) s.Num).1.Card==5)=true):Is (TK a w prog s):=(abH a (kD a) w prog s h b).1
theorem apX (a:Nat)(w:af)(prog:Int)(s:Slot)(h:dX (a+1) w prog s)(b:(jE (j_ (w.p.aO.getD prog.toNat bH) s.Num).1)=true/\((j_ (w.p.aO.getD prog.toNat bH) s.Num).1.Card==5)=false):Is (FZ a w prog s):=(Vb a (kD a) w prog s h b).1
theorem ayv (a:Nat)(w:af)(prog:Int)(s:Slot)(h:dX (a+1) w prog s)(b:((j_ (w.p.aO.getD prog.toNat bH) s.Num).1.Card==4)=true/\(jE (j_ (w.p.aO.getD prog.toNat bH) s.Num).1)=false/\((j_ (w.p.aO.getD prog.toNat bH) s.Num).1.Card==5)=false):Is (Sr a w prog s):=(abp a (kD a) w prog s h b).1
theorem aw1 (a:Nat)(w:af)(prog:Int)(s:Slot)(h:dX (a+1) w prog s)(b:((j_ (w.p.aO.getD prog.toNat bH) s.Num).1.Card==4)=false/\(jE (j_ (w.p.aO.getD prog.toNat bH) s.Num).1)=false/\((j_ (w.p.aO.getD prog.toNat bH) s.Num).1.Card==5)=false):Is (TJ a w prog s):=(acX a (kD a) w prog s h b).1
theorem arN (a:Nat)(w:af)(prog:Int)(v:AVal)(h:iq (a+1) w prog v):Is (OJ a w prog v):=(VM a (kD a) w prog v h).1
set_option maxHeartbeats 4000000 in
theorem aAY:∀b,CtOk Z.P Z.S 448 (ctN (args (aCons (aAgg dN) (aCons (aAgg gU) (a1 (aAgg ay))))) (shr [.slot 0 true (nn 4)] (l1 lh)) 1 [] (fun a=>some (bV b (a.1) (a.2.1) (a.2.2))) (fun a=>(iJ b).1 (a.1) (a.2.1) (a.2.2)))/\CtOk Z.P Z.S 377 (ctN (args (aCons (aAgg dN) (aCons (aAgg gU) (a1 (aAgg ay))))) (R1 aZ) 1 [] (fun a=>some (dw b (a.1) (a.2.1) (a.2.2))) (fun a=>(iJ b).2.1 (a.1) (a.2.1) (a.2.2)))/\CtOk Z.P Z.S 379 (ctN (args (aCons (aAgg dN) (aCons (aAgg gU) (a1 (aAgg ay))))) (R1 aZ) 1 [] (fun a=>some (bT b (a.1) (a.2.1) (a.2.2))) (fun a=>(iJ b).2.2.1 (a.1) (a.2.1) (a.2.2)))/\CtOk Z.P Z.S 380 (ctN (args (aCons (aAgg dN) (aCons (aAgg gU) (a1 (aAgg ay))))) (R1 aZ) 1 [] (fun a=>some (dI b (a.1) (a.2.1) (a.2.2))) (fun a=>(iJ b).2.2.2.1 (a.1) (a.2.1) (a.2.2)))/\CtOk Z.P Z.S 181 (ctN (args (aCons (aAgg dN) (aCons (aLf cI) (a1 (aAgg jP))))) (R1 aZ) 1 [] (fun a=>some (dX b (a.1) (a.2.1) (a.2.2))) (fun a=>(iJ b).2.2.2.2.1 (a.1) (a.2.1) (a.2.2)))/\CtOk Z.P Z.S 107 (ctN (args (aCons (aAgg dN) (aCons (aLf cI) (a1 (aAgg ay))))) (R1 cStr) 1 [] (fun a=>some (iq b (a.1) (a.2.1) (a.2.2))) (fun a=>(iJ b).2.2.2.2.2 (a.1) (a.2.1) (a.2.2)))
 | 0=>⟨dH func448 dE (fun a h=>by have k:=h.2.2.2;have:=jH (a.2.2);omega),
  dH func377 dE (fun a h=>by have k:=h.2.2.2;have:=jH (a.2.2);omega),
  dH func379 dE (fun a h=>by have k:=h.2.2.2;have:=jH (a.2.2);omega),
  dH func380 dE (fun a h=>by have k:=h.2.2.2;have:=jH (a.2.2);omega),
  dH func181 dE (fun a h=>by have k:=h.2.2.2;have:=jH (a.2.2).Val;omega),
  dH func107 dE (fun a h=>by have k:=h.2.2.2;have:=jH (a.2.2);omega)⟩
 | b+1=>by
  obtain⟨i,f,c,g,j,d⟩:=aAY b;have p:CtOk Z.P Z.S 181 (ctN (args (aCons (aAgg dN) (aCons (aLf cI) (a1 (aAgg jP))))) (R1 aZ) 1 [] (fun a=>some (((j_ ((a.1).p.aO.getD (a.2.1).toNat bH) (a.2.2).Num).1.Card==5)=true/\(dX (b+1) (a.1) (a.2.1) (a.2.2)))) (fun a=>(TK b (a.1) (a.2.1) (a.2.2)).val)):=xM [MC,aDD,⟨448,_,i⟩,⟨377,_,f⟩,⟨379,_,c⟩,⟨380,_,g⟩,⟨181,_,j⟩,⟨107,_,d⟩] [] func181 ntmps181 (fun a=>TK b a.1 a.2.1 a.2.2) (fun a h=>⟨awW b a.1 a.2.1 a.2.2 h.2 h.1,rfl⟩) (iE (n:=30) rfl);have o:CtOk Z.P Z.S 181 (ctN (args (aCons (aAgg dN) (aCons (aLf cI) (a1 (aAgg jP))))) (R1 aZ) 1 [] (fun a=>some ((jE (j_ ((a.1).p.aO.getD (a.2.1).toNat bH) (a.2.2).Num).1)=true/\(((j_ ((a.1).p.aO.getD (a.2.1).toNat bH) (a.2.2).Num).1.Card==5)=false/\(dX (b+1) (a.1) (a.2.1) (a.2.2))))) (fun a=>(FZ b (a.1) (a.2.1) (a.2.2)).val)):=xM [MC,aBH,ayd,⟨448,_,i⟩,⟨377,_,f⟩,⟨379,_,c⟩,⟨380,_,g⟩,⟨181,_,j⟩,⟨107,_,d⟩] [] func181 ntmps181 (fun a=>FZ b a.1 a.2.1 a.2.2) (fun a h=>⟨apX b a.1 a.2.1 a.2.2 h.2.2 ⟨h.1,h.2.1⟩,rfl⟩) (iE (n:=30) rfl);have m:CtOk Z.P Z.S 181 (ctN (args (aCons (aAgg dN) (aCons (aLf cI) (a1 (aAgg jP))))) (R1 aZ) 1 [] (fun a=>some (((j_ ((a.1).p.aO.getD (a.2.1).toNat bH) (a.2.2).Num).1.Card==4)=true/\((jE (j_ ((a.1).p.aO.getD (a.2.1).toNat bH) (a.2.2).Num).1)=false/\(((j_ ((a.1).p.aO.getD (a.2.1).toNat bH) (a.2.2).Num).1.Card==5)=false/\(dX (b+1) (a.1) (a.2.1) (a.2.2)))))) (fun a=>(Sr b (a.1) (a.2.1) (a.2.2)).val)):=xM [MC,aEq,⟨448,_,i⟩,⟨377,_,f⟩,⟨379,_,c⟩,⟨380,_,g⟩,⟨181,_,j⟩,⟨107,_,d⟩] [] func181 ntmps181 (fun a=>Sr b a.1 a.2.1 a.2.2) (fun a h=>⟨ayv b a.1 a.2.1 a.2.2 h.2.2.2 ⟨h.1,h.2.1,h.2.2.1⟩,rfl⟩) (iE (n:=30) rfl);have q:CtOk Z.P Z.S 181 (ctN (args (aCons (aAgg dN) (aCons (aLf cI) (a1 (aAgg jP))))) (R1 aZ) 1 [] (fun a=>some (((j_ ((a.1).p.aO.getD (a.2.1).toNat bH) (a.2.2).Num).1.Card==4)=false/\((jE (j_ ((a.1).p.aO.getD (a.2.1).toNat bH) (a.2.2).Num).1)=false/\(((j_ ((a.1).p.aO.getD (a.2.1).toNat bH) (a.2.2).Num).1.Card==5)=false/\(dX (b+1) (a.1) (a.2.1) (a.2.2)))))) (fun a=>(TJ b (a.1) (a.2.1) (a.2.2)).val)):=xM [MC,aDb,⟨448,_,i⟩,⟨377,_,f⟩,⟨379,_,c⟩,⟨380,_,g⟩,⟨181,_,j⟩,⟨107,_,d⟩] [] func181 ntmps181 (fun a=>TJ b a.1 a.2.1 a.2.2) (fun a h=>⟨aw1 b a.1 a.2.1 a.2.2 h.2.2.2 ⟨h.1,h.2.1,h.2.2.1⟩,rfl⟩) (iE (n:=30) rfl);exact⟨xM [JC,⟨448,_,i⟩,⟨377,_,f⟩,⟨379,_,c⟩,⟨380,_,g⟩,⟨181,_,j⟩,⟨107,_,d⟩] [] func448 ntmps448 (fun a=>zq b a.1 a.2.1 a.2.2) (fun a h=>⟨aa1 b a.1 a.2.1 a.2.2 h,rfl⟩) (iE (n:=18) rfl),
   xM [anK,Bh,JC,⟨448,_,i⟩,⟨377,_,f⟩,⟨379,_,c⟩,⟨380,_,g⟩,⟨181,_,j⟩,⟨107,_,d⟩] [jS 3 (aT (fun l=>[s0 14, .slot 7 false [some 294]]) (lCons cI (l1 aZ)))] func377 ntmps377 (fun a=>yZ b a.1 a.2.1 a.2.2) (fun a h=>⟨abe b a.1 a.2.1 a.2.2 h,rfl⟩) (iE (n:=39) rfl),
   xM [Bh,⟨448,_,i⟩,⟨377,_,f⟩,⟨379,_,c⟩,⟨380,_,g⟩,⟨181,_,j⟩,⟨107,_,d⟩] [jS 3 (aT (fun l=>[s0 13, .slot 7 false [some 294]]) (lCons cI (l1 aZ)))] func379 ntmps379 (fun a=>wR b a.1 a.2.1 a.2.2) (fun a h=>⟨Zv b a.1 a.2.1 a.2.2 h,rfl⟩) (iE (n:=29) rfl),
   xM [Bh,⟨448,_,i⟩,⟨377,_,f⟩,⟨379,_,c⟩,⟨380,_,g⟩,⟨181,_,j⟩,⟨107,_,d⟩] [] func380 ntmps380 (fun a=>BZ b a.1 a.2.1 a.2.2) (fun a h=>⟨adV b a.1 a.2.1 a.2.2 h,rfl⟩) (iE (n:=15) rfl),
   ctN_if p (ctN_if o (ctN_if m (q))),
   xM [aiW,anK,⟨448,_,i⟩,⟨377,_,f⟩,⟨379,_,c⟩,⟨380,_,g⟩,⟨181,_,j⟩,⟨107,_,d⟩] [jS 5 (aT (fun l=>[s0 22, .slot 8 false [some 294], s0 9]) (lCons cI (lCons aZ (l1 aZ)))),jS 7 (aT (fun l=>[.slot 8 false [some 294], s0 9]) (lCons aZ (l1 aZ))),jS 100010 (aT (fun l=>[.slot 8 false [some 294], s0 9]) (lCons aZ (l1 aZ)))] func107 ntmps107 (fun a=>OJ b a.1 a.2.1 a.2.2) (fun a h=>⟨arN b a.1 a.2.1 a.2.2 h,rfl⟩) (iE (n:=57) rfl)⟩
def axH:Ent Z:=⟨107,ctN (args (aCons (aAgg dN) (aCons (aLf cI) (a1 (aAgg ay))))) (R1 cStr) 1 [] (fun a=>some (bZ (a.1).p/\(0<=(a.2.1)/\(a.2.1) < (a.1).p.aO.length)/\gV (a.2.2))) (fun a=>arl (a.1) (a.2.1) (a.2.2)),ctFam_ok (fun n=>((aAY n).2.2.2.2.2)) _ _ (fun a h=>⟨4*tV (a.2.2),⟨h.1,h.2.1,h.2.2,lH _⟩,rfl⟩)⟩
def aiZ (p:bJ)(prog:Int):Pg Bool:=.br (decide (0<=prog)) (.br (decide (prog < (↑p.aO.length:Int))) (.ob (Gt p/\bZ p) (aL p.aO (.ret (awF p==0)))) (aL p.aO (.ret false))) (.ret false)
def anJ (p:bJ)(prog:Int):=(aiZ p prog).val
def ame:Ent Z:=E1 [aqI] [] (aCons (aAgg b_) (a1 (aLf cI))) (R1 aj) [] func105 1 (u2 aiZ) fun a=>Gt a.1/\bZ a.1
def Ou (p:bJ)(b:Str)(v:AVal):Pg (List UInt8×Int):=.lt (xx p b) fun a=> .br (!a.2) (.ret ([],10)) (.ob (Gt p/\bZ p) (.br (!anJ p a.1) (.ret ([],1)) (.ob (bZ p/\gV v.re) (.lt (aC2 p a.1 v.re) fun d=> .br (d !=0) (.ret ([],d)) (.ob (bZ p/\(0<=a.1/\a.1 < (↑p.aO.length:Int))/\gV v.re) (.lt (arl (af.mk p) a.1 v.re) fun c=> .br (decide (65536 < (↑(List.length c):Int))) (.ret ([],3)) (.ret (c,0))))))))
def aqO (p:bJ)(a:Str)(v:AVal):=(Ou p a v).val
theorem KT (p:bJ)(b:Str)(v:AVal)(h:Gt p/\bZ p/\gV v):IsP (Ou p b v) (fun r=>r.1.length<=65536):=
 by
 obtain⟨f,a,d⟩:=h;unfold Ou;simp only[AVal.cZ];refine isP_lt fun l e=>isP_br (fun _=>isP_ret (qR _)) fun c=>isP_ob ⟨f,a⟩ (isP_br (fun _=>isP_ret (qR _)) fun _=>isP_ob ⟨a,d⟩ (isP_lt fun m i=>isP_bne (fun _=>isP_ret (qR _)) fun _=>isP_ob ⟨a,?_,d⟩ (isP_lt fun g j=>isP_brd (fun _=>isP_ret (qR _)) fun k=>isP_ret (by show g.length<=65536;omega))));rw[e]at c⊢;exact Ry (by simpa using c)
def Ci:Ent Z:=E1 [YF,ame,awt,axH] [] (aCons (aAgg b_) (aCons (aLf cStr) (a1 (aAgg ay)))) (shr [s0 0, s0 1] (lCons cStr (l1 cI))) [] func48 2 (u3 Ou) (fun a=>Gt a.1/\bZ a.1/\gV a.2.2) fun a h=>(KT a.1 a.2.1 a.2.2 h).1
def ai3 (shape:Int):Pg Bool:=.br (decide (1<=shape)) (.ret (decide (shape<=4))) (.ret false)
def atM (shape:Int):=(ai3 shape).val
def amK:Ent Z:=E0 [] [] (a1 (aLf cI)) (R1 aj) [] func109 1 ai3
def aiR (shape:Int):Pg (Int×Int×Int×Int):=.br (!atM shape) (.ret (0,0,0,0)) (.lt (mV shape) fun b=> .cut (fun(a:Int×Int)=> .br b.2 (.ret (a.1,a.2,0,(-1))) (.ret (a.1,a.2,1,1))) (.br b.1 (rl (0,(-1))) (rl (1,1))))
def aaX (shape:Int):=(aiR shape).val
def W_:Ent Z:=E0 [rf,amK] [jS 100007 (aT (fun b=>[s0 8, s0 9]) (lCons cI (l1 cI)))] (a1 (aLf cI)) (shr [s0 0, s0 1, s0 2, s0 3] (lCons cI (lCons cI (lCons cI (l1 cI))))) [] func51 4 aiR

theorem CS {A:Type}{l:List (List A)}{k:Nat}(h:k < l.length):(l.take (k+1)).flatten=(l.take k).flatten++l.getD k []:=by
 rw[take_snoc (d:=[]) h,List.flatten_append];simp
theorem aee {A:Type}(l:List (List A))(k:Nat):(l.take k).flatten.length<=l.flatten.length:=by
 have e:l.flatten=(l.take k).flatten++(l.drop k).flatten:=by rw[<-List.flatten_append,Qcn]
 rw[e,kG];omega
theorem awe (w:World):Calls Tryz.prog 470 #[.slice none 0 0, .int .i64 0] w fun e a=>e= .returned (.slice none 0 0)/\a=w:=by
 have mixed:Tryz.prog.follows Departure.mixedOrders=true:=by kernel_rfl
 go_enter func470,ntmps470
 go_wp2
 go_ret
 exact⟨rfl,rfl⟩
set_option maxHeartbeats 1000000 in
theorem avq (n h a:Nat)(w c:World)(l:0 < n)(j:n<=a)(m:n<=9223372036854775807)(b:∀d,(Builtin.append_ #[72,3] d #[.slice none 0 0, .int .i64 n]).run Tryz.prog w= .ok (.slice (some ⟨h,0,none⟩) n a) c):
  Calls Tryz.prog 470 #[.slice none 0 0, .int .i64 n] w fun e f=>e= .returned (.slice (some ⟨h,0,none⟩) 0 a)/\f=c:=by
 have k:¬((n:Int) < 0):=by omega
 have g:IntKind.i64.wrap ((n:Int))=(n:Int):=by rw[IntKind.wrap_i64];omega
 have o:(n:Int) > 0:=by omega
 have i:(0:Int) < (n:Int):=by omega
 have mixed:Tryz.prog.follows Departure.mixedOrders=true:=by kernel_rfl
 go_enter func470,ntmps470
 go_wp2_with (at_builtin;refine Lib.wpList_append_run _ rfl _ _ 72 3 rfl _ _ rfl rfl _ _ (b _) ?_)
 all_goals (go_ret;exact⟨rfl,rfl⟩)
def ajb:Ct D:=SA S 77 7 128 ([.int .i64 0, .int .u64 0, .string ⟨#[]⟩, .slice none 0 0, .slice none 0 0, .slice none 0 0, .slice none 0 0].map fun v=>(vk v).norm)
theorem af_:CtOk Tryz.prog S 470 ajb:=by
 obtain⟨inf,z,f,d,g,i,e⟩:=rM (axq 77 _ rfl);refine JJ (t:=72) (ti:=3) (kn:= .i64) (inf:=inf) (z:=z) ax5 (fun args w=> ?_) ⟨awe,avq⟩ h_ underlying72 underlying3 f d g i ?_
 ·have b:=func470;have a:¬f470.name= "runtime.NumGoroutine" :=by decide+kernel
  obtain⟨c,h⟩:∃c,f470.body=some c:=⟨_,rfl⟩;simp[callFunc,b,a,h]
 ·rw[<-Qbp,e];rfl
def aBZ:Ent Z:=⟨470,ajb,af_⟩
def avo (l:List (List AVal)):Pg (List AVal):=.cut (fun(c:Int)=> .ob (0<=c/\c*(128:Int)<=281474976710656/\c<=1099511627776) (aL l (.each false lF l [] (fun h (f a:List AVal)=> .ix h l.length (.ob (bM (a.length+f.length) 128) (rl (a++f)))) (fun h (a:List AVal)=> .ret a) (List.replicate 0 (AVal.mk 0 0 [] [] [] [] []))))) (aL l (.each false lF l [] (fun g e (b:Int)=> .ix g l.length (aL e (.lt (wrp .i64 (b+(↑e.length:Int))) fun d=> .br (decide (d < 0)) (.no default) (rl d)))) (fun(g b:Int)=> rl b) 0))
def aAU (l:List (List AVal)):=(avo l).val
theorem aas (l:List (List AVal))(h:l.flatten.length<=2097152/\l.length<=2097152):IsP (avo l) (fun r=>r=l.flatten):=
 by
 have c:=aee l;unfold avo;refine isP_cut (fun y=>y=(l.flatten.length:Int)) (isP_as (isP_each (fun k y=>y=((l.take k).flatten.length:Int)) rfl ah (fun k y a hI=> ?_) (fun y hI=>isP_ret qbp))) (fun m g=>isP_ob ⟨by omega,by omega,by omega⟩ (isP_as (isP_each (fun k y=>y=(l.take k).flatten) rfl ah (fun k y a hI=> ?_) (fun y hI=>isP_ret qbp))))
 ·have e:=Qb3 List.length (CS a);rw[kG]at e;have b:=c (k+1);exact isP_ix ah ah (isP_as (kT fun f i j=>isP_brd (fun d=>absurd d ah) (fun _=>isP_ret (by show f=_;omega))))
 ·have e:=CS a;have b:=c (k+1);rw[e,kG]at b;exact isP_ix ah ah (isP_ob qcd (isP_ret (by rw[hI];exact e.symm)))
def aEk:Ent Z:=E1 [aBZ] [jS 3 (aT (fun b=>[s0 11, s0 3]) (lCons cI (l1 cI))),jS 11 (aT (fun b=>[s0 27, .slot 6 false [some 77]]) (lCons cI (l1 fP))),jS 100009 (aT (fun b=>[s0 3]) (l1 cI))] (a1 (aLf Vs)) (shr [.slot 0 false [some 77]] (l1 fP)) [] func432 1 avo (fun a=>a.flatten.length<=2097152/\a.length<=2097152) fun a h=>(aas a h).1
theorem av5 (w:World):Calls Tryz.prog 471 #[.slice none 0 0, .int .i64 0] w fun e a=>e= .returned (.slice none 0 0)/\a=w:=by
 have mixed:Tryz.prog.follows Departure.mixedOrders=true:=by kernel_rfl
 go_enter func471,ntmps471
 go_wp2
 go_ret
 exact⟨rfl,rfl⟩
set_option maxHeartbeats 1000000 in
theorem ayO (n h a:Nat)(w c:World)(l:0 < n)(j:n<=a)(m:n<=9223372036854775807)(b:∀d,(Builtin.append_ #[73,3] d #[.slice none 0 0, .int .i64 n]).run Tryz.prog w= .ok (.slice (some ⟨h,0,none⟩) n a) c):
  Calls Tryz.prog 471 #[.slice none 0 0, .int .i64 n] w fun e f=>e= .returned (.slice (some ⟨h,0,none⟩) 0 a)/\f=c:=by
 have k:¬((n:Int) < 0):=by omega
 have g:IntKind.i64.wrap ((n:Int))=(n:Int):=by rw[IntKind.wrap_i64];omega
 have o:(n:Int) > 0:=by omega
 have i:(0:Int) < (n:Int):=by omega
 have mixed:Tryz.prog.follows Departure.mixedOrders=true:=by kernel_rfl
 go_enter func471,ntmps471
 go_wp2_with (at_builtin;refine Lib.wpList_append_run _ rfl _ _ 73 3 rfl _ _ rfl rfl _ _ (b _) ?_)
 all_goals (go_ret;exact⟨rfl,rfl⟩)
def akn:Ct D:=SA S 358 14 256 ([.int .i64 0, .int .u64 0, .string ⟨#[]⟩, .slice none 0 0, .slice none 0 0, .slice none 0 0, .slice none 0 0, .int .i64 0, .int .u64 0, .string ⟨#[]⟩, .slice none 0 0, .slice none 0 0, .slice none 0 0, .slice none 0 0].map fun v=>(vk v).norm)
theorem agl:CtOk Tryz.prog S 471 akn:=by
 obtain⟨inf,z,f,d,g,i,e⟩:=rM (axq 358 _ rfl);refine JJ (t:=73) (ti:=3) (kn:= .i64) (inf:=inf) (z:=z) ax5 (fun args w=> ?_) ⟨av5,ayO⟩ h_ underlying73 underlying3 f d g i ?_
 ·have b:=func471;have a:¬f471.name= "runtime.NumGoroutine" :=by decide+kernel
  obtain⟨c,h⟩:∃c,f471.body=some c:=⟨_,rfl⟩;simp[callFunc,b,a,h]
 ·rw[<-Qbp,e];rfl
def aBh:Ent Z:=⟨471,akn,agl⟩
def axt (l:List (List Pair)):Pg (List Pair):=.cut (fun(c:Int)=> .ob (0<=c/\c*(256:Int)<=281474976710656/\c<=1099511627776) (aL l (.each false lF l [] (fun h (f a:List Pair)=> .ix h l.length (.ob (bM (a.length+f.length) 256) (rl (a++f)))) (fun h (a:List Pair)=> .ret a) (List.replicate 0 (Pair.mk (AVal.mk 0 0 [] [] [] [] []) (AVal.mk 0 0 [] [] [] [] [])))))) (aL l (.each false lF l [] (fun g e (b:Int)=> .ix g l.length (aL e (.lt (wrp .i64 (b+(↑e.length:Int))) fun d=> .br (decide (d < 0)) (.no default) (rl d)))) (fun(g b:Int)=> rl b) 0))
def aAP (l:List (List Pair)):=(axt l).val
theorem adn (l:List (List Pair))(h:l.flatten.length<=2097152/\l.length<=2097152):IsP (axt l) (fun r=>r=l.flatten):=
 by
 have c:=aee l;unfold axt;refine isP_cut (fun y=>y=(l.flatten.length:Int)) (isP_as (isP_each (fun k y=>y=((l.take k).flatten.length:Int)) rfl ah (fun k y a hI=> ?_) (fun y hI=>isP_ret qbp))) (fun m g=>isP_ob ⟨by omega,by omega,by omega⟩ (isP_as (isP_each (fun k y=>y=(l.take k).flatten) rfl ah (fun k y a hI=> ?_) (fun y hI=>isP_ret qbp))))
 ·have e:=Qb3 List.length (CS a);rw[kG]at e;have b:=c (k+1);exact isP_ix ah ah (isP_as (kT fun f i j=>isP_brd (fun d=>absurd d ah) (fun _=>isP_ret (by show f=_;omega))))
 ·have e:=CS a;have b:=c (k+1);rw[e,kG]at b;exact isP_ix ah ah (isP_ob qcd (isP_ret (by rw[hI];exact e.symm)))
def aCk:Ent Z:=E1 [aBh] [jS 3 (aT (fun b=>[s0 11, s0 3]) (lCons cI (l1 cI))),jS 11 (aT (fun b=>[s0 27, .slot 6 false [some 358]]) (lCons cI (l1 dC))),jS 100009 (aT (fun b=>[s0 3]) (l1 cI))] (a1 (aLf Wh)) (shr [.slot 0 false [some 358]] (l1 dC)) [] func433 1 axt (fun a=>a.flatten.length<=2097152/\a.length<=2097152) fun a h=>(adn a h).1
theorem axn (w:World):Calls Tryz.prog 472 #[.slice none 0 0, .int .i64 0] w fun e a=>e= .returned (.slice none 0 0)/\a=w:=by
 have mixed:Tryz.prog.follows Departure.mixedOrders=true:=by kernel_rfl
 go_enter func472,ntmps472
 go_wp2
 go_ret
 exact⟨rfl,rfl⟩
set_option maxHeartbeats 1000000 in
theorem avx (n h a:Nat)(w c:World)(l:0 < n)(j:n<=a)(m:n<=9223372036854775807)(b:∀d,(Builtin.append_ #[75,3] d #[.slice none 0 0, .int .i64 n]).run Tryz.prog w= .ok (.slice (some ⟨h,0,none⟩) n a) c):
  Calls Tryz.prog 472 #[.slice none 0 0, .int .i64 n] w fun e f=>e= .returned (.slice (some ⟨h,0,none⟩) 0 a)/\f=c:=by
 have k:¬((n:Int) < 0):=by omega
 have g:IntKind.i64.wrap ((n:Int))=(n:Int):=by rw[IntKind.wrap_i64];omega
 have o:(n:Int) > 0:=by omega
 have i:(0:Int) < (n:Int):=by omega
 have mixed:Tryz.prog.follows Departure.mixedOrders=true:=by kernel_rfl
 go_enter func472,ntmps472
 go_wp2_with (at_builtin;refine Lib.wpList_append_run _ rfl _ _ 75 3 rfl _ _ rfl rfl _ _ (b _) ?_)
 all_goals (go_ret;exact⟨rfl,rfl⟩)
def ajl:Ct D:=SA S 294 4 40 ([.int .i64 0, .int .i64 0, .int .u64 0, .string ⟨#[]⟩].map fun v=>(vk v).norm)
theorem afc:CtOk Tryz.prog S 472 ajl:=by
 obtain⟨inf,z,f,d,g,i,e⟩:=rM (axq 294 _ rfl);refine JJ (t:=75) (ti:=3) (kn:= .i64) (inf:=inf) (z:=z) ax5 (fun args w=> ?_) ⟨axn,avx⟩ h_ underlying75 underlying3 f d g i ?_
 ·have b:=func472;have a:¬f472.name= "runtime.NumGoroutine" :=by decide+kernel
  obtain⟨c,h⟩:∃c,f472.body=some c:=⟨_,rfl⟩;simp[callFunc,b,a,h]
 ·rw[<-Qbp,e];rfl
def aCq:Ent Z:=⟨472,ajl,afc⟩
def axD (l:List (List Raw)):Pg (List Raw):=.cut (fun(c:Int)=> .ob (0<=c/\c*(40:Int)<=281474976710656/\c<=1099511627776) (aL l (.each false lF l [] (fun h (f a:List Raw)=> .ix h l.length (.ob (bM (a.length+f.length) 40) (rl (a++f)))) (fun h (a:List Raw)=> .ret a) (List.replicate 0 (Raw.mk 0 0 0 []))))) (aL l (.each false lF l [] (fun g e (b:Int)=> .ix g l.length (aL e (.lt (wrp .i64 (b+(↑e.length:Int))) fun d=> .br (decide (d < 0)) (.no default) (rl d)))) (fun(g b:Int)=> rl b) 0))
def at7 (l:List (List Raw)):=(axD l).val
theorem abz (l:List (List Raw))(h:l.flatten.length<=2097152/\l.length<=2097152):IsP (axD l) (fun r=>r=l.flatten):=
 by
 have c:=aee l;unfold axD;refine isP_cut (fun y=>y=(l.flatten.length:Int)) (isP_as (isP_each (fun k y=>y=((l.take k).flatten.length:Int)) rfl ah (fun k y a hI=> ?_) (fun y hI=>isP_ret qbp))) (fun m g=>isP_ob ⟨by omega,by omega,by omega⟩ (isP_as (isP_each (fun k y=>y=(l.take k).flatten) rfl ah (fun k y a hI=> ?_) (fun y hI=>isP_ret qbp))))
 ·have e:=Qb3 List.length (CS a);rw[kG]at e;have b:=c (k+1);exact isP_ix ah ah (isP_as (kT fun f i j=>isP_brd (fun d=>absurd d ah) (fun _=>isP_ret (by show f=_;omega))))
 ·have e:=CS a;have b:=c (k+1);rw[e,kG]at b;exact isP_ix ah ah (isP_ob qcd (isP_ret (by rw[hI];exact e.symm)))
def aDp:Ent Z:=E1 [aCq] [jS 3 (aT (fun b=>[s0 11, s0 3]) (lCons cI (l1 cI))),jS 11 (aT (fun b=>[s0 27, .slot 6 false [some 294]]) (lCons cI (l1 aZ))),jS 100009 (aT (fun b=>[s0 3]) (l1 cI))] (a1 (aLf acv)) (shr [.slot 0 false [some 294]] (l1 aZ)) [] func434 1 axD (fun a=>a.flatten.length<=2097152/\a.length<=2097152) fun a h=>(abz a h).1
def clF (l:List aB):Pg (List aB):=.unk false (fun(b:Bool)=>b=true->l.length=0) (.ret []) (.ob (bM (0+l.length) 240) (.ret l))
theorem aDE (l:List aB)(h:l.length<=1048576):Is (clF l):=
 uz (room_of ah ah)
def aFv:Ent Z:=E2 [] [] (a1 (aLf dS)) (shr [.slot 0 false [some 79]] (l1 dS)) [] func467 1 clF (fun a=>some (a.length<=1048576)) (fun a=>a) fun a h=>⟨aDE a h,rfl⟩
def unC (x:aB)(a:Str):Pg Bool:=.ret (x.Union !=a)
def ab2 (x:aB)(a:Str):=(unC x a).val
def ape:Ent Z:=vz [] [] (aCons (aAgg dA) (a1 (fG 0))) (b1 (aF cStr)) (R1 aj) [0] func468 1 (u11 unC)
def aAI:Ent Z:=Me [ape] dS 468 [0] (b1 (aF cStr)) func389 ax fun x b=>ab2 x b
def unD (l:List aB)(b:Str):Pg (List aB):=.lt (eX (fun(x:aB)=>ab2 x b) l) fun c=> .br (c==(-1)) (.ret l) (.lt (wrp .i64 (c+1)) fun f=> .wh (l.length+1) default (fun(a:Int×Int×List aB)=> aL a.2.2 (.br (decide (a.1 < (↑a.2.2.length:Int))) (.ix a.1 a.2.2.length (.ob (a.1.toNat < a.2.2.length) (.lt (wrp .i64 (a.1+1)) fun e=> .br (!ab2 (aB.mk (a.2.2.getD a.1.toNat ax).Num (a.2.2.getD a.1.toNat ax).Name (a.2.2.getD a.1.toNat ax).Card (a.2.2.getD a.1.toNat ax).Key (a.2.2.getD a.1.toNat ax).cO (a.2.2.getD a.1.toNat ax).Union (a.2.2.getD a.1.toNat ax).bU (a.2.2.getD a.1.toNat ax).Default.re (a.2.2.getD a.1.toNat ax).Notes) b) (.ix a.2.1 a.2.2.length (.ob (a.2.1.toNat < a.2.2.length) (rl (e,wrp .i64 (a.2.1+1), a.2.2.set a.2.1.toNat (aB.mk (a.2.2.getD a.1.toNat ax).Num (a.2.2.getD a.1.toNat ax).Name (a.2.2.getD a.1.toNat ax).Card (a.2.2.getD a.1.toNat ax).Key (a.2.2.getD a.1.toNat ax).cO (a.2.2.getD a.1.toNat ax).Union (a.2.2.getD a.1.toNat ax).bU (a.2.2.getD a.1.toNat ax).Default.re (a.2.2.getD a.1.toNat ax).Notes))))) (rl (e,a.2))))) (.ob (0<=a.2.1/\a.2.1<=(↑a.2.2.length:Int)/\(↑a.2.2.length:Int)<=(↑a.2.2.length:Int)) (.ob (a.2.2.length=a.2.2.length) (.lt (List.take a.2.1.toNat a.2.2++ List.replicate (a.2.2.length - a.2.1.toNat) (aB.mk 0 [] 0 0 (oN.mk 0 []) [] false (AVal.mk 0 0 [] [] [] [] []) [])) fun d=> .ob ((0:Int)<=0/\0<=a.2.1/\a.2.1<=(↑d.length:Int)) (.ret (.inr (List.take a.2.1.toNat d)))))))) (f,c,l))
theorem aii (l:List aB)(a:Str):unD l a=abl (fun(x:aB)=>ab2 x a) ax l:=by
 unfold unD abl;(try simp only[AVal.cZ])
 rfl
theorem aCD (l:List aB)(a:Str)(h:l.length<=1048576):Is (unD l a):=
 by
 rw[aii];exact(aqT (fun(x:aB)=>ab2 x a) ax l ah).1
def aHb:Ent Z:=WO [SX,Yj,afP,aAI,ape] [jS 5 (aT (fun c=>[s0 6, s0 5, .row (pid (c 0)) 79]) (lCons cI (lCons cI (l1 dS))))] (aCons (lV 0) (a1 (ja 468 [1]))) (eF (jJ 79 D.aB rC) (b1 (aF cStr))) (R1 dS) [1] func466 1 (fun a=>unD a.2.1 a.2.2) (fun a=>some (a.2.1.length<=1048576)) (fun a=>a.2.1.filter fun(x:aB)=> !(ab2 x a.2.2)) fun a h=>⟨aCD a.2.1 a.2.2 h,(fun(l:List aB) b (h:l.length<=1048576)=>(Qb3 Pg.val (aii l b)).trans (aqT (fun(x:aB)=>ab2 x b) ax l ah).2) a.2.1 a.2.2 h⟩
def apy (m:aH)(a:Str):Pg (List aB):=.br (a==[]) (.ret []) (.ob (m.Fields.length<=1048576) (.ob (m.Fields.length<=1048576) (.ret (List.filter (fun(x:aB)=> !ab2 x a) m.Fields))))
def ayY (m:aH)(a:Str):=(apy m a).val
def anG:Ent Z:=E1 [aHb,aFv,ape] [] (aCons (aAgg dG) (a1 (aLf cStr))) (R1 dS) [] func428 1 (u2 apy) fun a=>a.1.Fields.length<=1048576
def phC (x:Slot)(a:Int):Pg Bool:=.ret (x.Num==a)
def aGc (x:Slot)(a:Int):=(phC x a).val
def aAo:Ent Z:=vz [] [] (aCons (aAgg jP) (a1 (fG 0))) (b1 (aF cI)) (R1 aj) [0] func484 1 (u11 phC)
def aqN:Ent Z:=Me [aAo] bf 484 [0] (b1 (aF cI)) func374 bn fun x b=>aGc x b
def arh (l:List Slot)(a:Int):Pg Int:=.ret (eX (fun(x:Slot)=>aGc x a) l)
def ayS (l:List Slot)(a:Int):=(arh l a).val
def atL:Ent Z:=E0 [aqN,aAo] [] (aCons (aLf bf) (a1 (aLf cI))) (R1 cI) [] func469 1 (u2 arh)
def aFE (v:AVal)(a:Int):Pg Bool:=.lt (ayS v.Slots a) fun b=> .ret (decide (0<=b))
def aGh (v:AVal)(a:Int):=(aFE v a).val
def aDz:Ent Z:=E0 [atL] [] (aCons (aAgg ay) (a1 (aLf cI))) (R1 aj) [] func430 1 (u2 aFE)
end
end Go.Proofs.YtjojefbphdmnjaaGreatDoor
