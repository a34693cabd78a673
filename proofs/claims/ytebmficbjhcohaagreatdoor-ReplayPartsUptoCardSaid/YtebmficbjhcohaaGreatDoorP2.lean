/- Server: what check asks of lists. -/
import Derived.Test.YtebmficbjhcohaaGreatDoorP1
import Derived.Test.YtebmficbjhcohaaGreatDoorEng16
namespace Go.Proofs.YtebmficbjhcohaaGreatDoor
noncomputable section
open Go.RowKit Go.Vc
open Tryz
set_option linter.unusedVariables false
set_option linter.unusedSimpArgs false
set_option maxRecDepth 100000
theorem pg {A:Type}(p:A->Bool)(l:List A):decide (0<=iI p l)=l.any p:=by
 rcases Ac p l with⟨h,k⟩ | ⟨u,a,v,rfl,b,d,h⟩
 ·rw[h,sQ au];exact(Qco.2 fun x c=>by rw[k x c];simp).symm
 ·rw[h,wO au];exact(Qcu.2 ⟨a,by simp,b⟩).symm
def isWord (s:Str):Pg Bool:=.cut (fun(a:Bool)=> .br a (.ret true) (.br (s==[105,109,112,111,114,116]) (.br (s==[105,109,112,111,114,116]) (.ret true) (.ret false)) (.br (s==[115,112,97,99,101]) (.br (s==[115,112,97,99,101]) (.ret true) (.ret false)) (.br (s==[114,112,99]) (.br (s==[114,112,99]) (.ret true) (.ret false)) (.br (s==[115,116,114,101,97,109]) (.br (s==[115,116,114,101,97,109]) (.ret true) (.ret false)) (.br (s==[114,101,116,117,114,110,115]) (.br (s==[114,101,116,117,114,110,115]) (.ret true) (.ret false)) (.br (s==[111,112,101,110]) (.br (s==[111,112,101,110]) (.ret true) (.ret false)) (.br (s==[116,114,117,101]) (.br (s==[116,114,117,101]) (.ret true) (.ret false)) (.br (s==[102,97,108,115,101]) (.br (s==[102,97,108,115,101]) (.ret true) (.ret false)) (.br (s==[110,97,110]) (.br (s==[110,97,110]) (.ret true) (.ret false)) (.br (s==[105,110,102]) (.ret true) (.ret false)))))))))))) (.br (s==[109,101,115,115,97,103,101]) (rl (s==[109,101,115,115,97,103,101])) (.br (s==[101,110,117,109]) (rl (s==[101,110,117,109])) (.br (s==[115,101,114,118,105,99,101]) (rl (s==[115,101,114,118,105,99,101])) (.br (s==[117,110,105,111,110]) (rl (s==[117,110,105,111,110])) (.br (s==[109,97,112]) (rl (s==[109,97,112])) (.br (s==[108,105,115,116]) (rl (s==[108,105,115,116])) (.br (s==[114,101,113,117,105,114,101,100]) (rl (s==[114,101,113,117,105,114,101,100])) (.br (s==[111,112,116,105,111,110,97,108]) (rl (s==[111,112,116,105,111,110,97,108])) (.br (s==[112,108,97,105,110]) (rl (s==[112,108,97,105,110])) (.br (s==[100,101,102,97,117,108,116]) (rl (s==[100,101,102,97,117,108,116])) (rl (s==[114,101,115,101,114,118,101,100]))))))))))))
def ED (s:Str):=(isWord s).val
def zX:aY Z:=E0 [] [jS 100013 (bJ (fun b=>[s0 4]) (l1 aG))] (a1 (bz cStr)) (R1 aG) [] func207 1 isWord
def acQ:aY Z:=EI [zX] bF 207 func205 [] ED
def ae1:aY Z:=EA [acQ,zX] bF 207 func145 ED
def aAf (s:Str):Pg Bool:=.br (aa5 s) (.ret !ED s) (.ret false)
def aaV (s:Str):=(aAf s).val
def PM:aY Z:=E0 [QO,zX] [] (a1 (bz cStr)) (R1 aG) [] func155 1 aAf
def aAC (s:Str):Pg Bool:=.ob (List.length s<=4294967296) (.br (ahC s) (.ob ([46]=uy/\List.length s<=4294967296) (.ret !(lI 46 s).any fun(x:Str)=>ED x)) (.ret false))
def agv (s:Str):=(aAC s).val
def abQ:aY Z:=E1 [Zm,UD,ae1,zX] [] (a1 (bz cStr)) (R1 aG) [] func150 1 aAC fun a=>a.length<=4294967296
def ixS (l:List Str)(v:Str):Pg Int:=aL l (.each false um l [] (fun a c (b:Unit)=> .ix a l.length (.br (v==c) (.ret (.inr a)) (rl ()))) (fun a (b:Unit)=> .ret (-1)) ())
theorem aEs (l:List Str)(v:Str):Is (ixS l v):=
 eH fun _=>fU (.inr au) (fun b a _ _=>bW au au (aT iR iR)) (fun a _=>aO)
def aAY:aY Z:=E2 [] [jS 2 (bJ (fun b=>[s0 8]) (l1 cI))] (ak (bz bF) (a1 (bz cStr))) (R1 cI) [] func54 1 (u2 ixS) (fun a=>none) (fun a=>iI (fun(x:Str)=>a.2==x) a.1) fun a h=>⟨aEs a.1 a.2,(fun(l:List Str) (v:Str)=>m_ (fun(x:Str)=>v==x) l 0) a.1 a.2⟩
def coS (l:List Str)(v:Str):Pg Bool:=.lt (iI (fun(x:Str)=>v==x) l) fun a=> .ret (decide (0<=a))
theorem aCj (l:List Str)(v:Str):Is (coS l v):=
 dC fun b a=>aO
def aiM:aY Z:=E2 [aAY] [] (ak (bz bF) (a1 (bz cStr))) (R1 aG) [] func53 1 (u2 coS) (fun a=>none) (fun a=>a.1.any fun(x:Str)=>a.2==x) fun a h=>⟨aCj a.1 a.2,(fun(l:List Str) (v:Str)=>pg (fun(x:Str)=>v==x) l) a.1 a.2⟩
def aGs (x:aX)(a:Str):Pg Bool:=.ret (x.Name==a)
def arT (x:aX)(a:Str):=(aGs x a).val
def apD:aY Z:=yu [] [] (ak (aI fF) (a1 (iE 0))) (b1 (aS cStr)) (R1 aG) [0] func206 1 (u11 aGs)
def asP:aY Z:=Oc [apD] rq 206 [0] (b1 (aS cStr)) func97 f_ fun x b=>arT x b
def JZ (s:aH)(a:Str):Pg (aX×Bool):=.lt (iI (fun(x:aX)=>arT x a) s.Messages) fun b=> .br (decide (b < 0)) (.ret (aX.mk [] [] [] [] [],false)) (.ix b s.Messages.length (.ret (s.Messages.getD b.toNat f_,true)))
def mg (s:aH)(a:Str):=(JZ s a).val
theorem adn (s:aH)(a:Str):Is (JZ s a):=
 dC fun c b=>cZ iR (fun _=>bW au (by have:=oM (fun(x:aX)=>arT x a) s.Messages;rw[b];exact this.1) (aO))
def wB:aY Z:=E0 [asP,apD] [] (ak (aI bn) (a1 (bz cStr))) (shr [.slot 0 true (nn 5), s0 1] (ay fF (l1 aG))) [] func147 2 (u2 JZ) fun a=>adn a.1 a.2
def aHz (x:dP)(a:Str):Pg Bool:=.ret (x.Name==a)
def aqZ (x:dP)(a:Str):=(aHz x a).val
def aqO:aY Z:=yu [] [] (ak (aI jv) (a1 (iE 0))) (b1 (aS cStr)) (R1 aG) [0] func373 1 (u11 aHz)
def Bd:aY Z:=Oc [aqO] gJ 373 [0] (b1 (aS cStr)) func99 jV fun x b=>aqZ x b
def aoJ (s:aH)(a:Str):Pg (dP×Bool):=.lt (iI (fun(x:dP)=>aqZ x a) s.Enums) fun b=> .br (decide (b < 0)) (.ret (dP.mk [] false [] [] [],false)) (.ix b s.Enums.length (.ret (s.Enums.getD b.toNat jV,true)))
def ast (s:aH)(a:Str):=(aoJ s a).val
theorem atO (s:aH)(a:Str):Is (aoJ s a):=
 dC fun c b=>cZ iR (fun _=>bW au (by have:=oM (fun(x:dP)=>aqZ x a) s.Enums;rw[b];exact this.1) (aO))
def ajp:aY Z:=E0 [Bd,aqO] [] (ak (aI bn) (a1 (bz cStr))) (shr [.slot 0 true (nn 5), s0 1] (ay jv (l1 aG))) [] func277 2 (u2 aoJ) fun a=>atO a.1 a.2
def aHM (x:mG)(n:Int):Pg Bool:=.br (decide (x.From<=n)) (.ret (decide (n<=x.To))) (.ret false)
def aoz (x:mG)(n:Int):=(aHM x n).val
def af9:aY Z:=yu [] [] (ak (aI PV) (a1 (iE 0))) (b1 (aS cI)) (R1 aG) [0] func219 1 (u11 aHM)
def aD9:aY Z:=Oc [af9] ou 219 [0] (b1 (aS cI)) func286 uO fun x b=>aoz x b
def aDn:aY Z:=EAB [af9,aD9] ou 219 [0] (b1 (aS cI)) func218 fun x b=>aoz x b
def YD (l:List mG)(n:Int):Pg Bool:=.ret (l.any fun(x:mG)=>aoz x n)
def Hm (l:List mG)(n:Int):=(YD l n).val
def Dj:aY Z:=E0 [aDn,af9] [] (ak (bz ou) (a1 (bz cI))) (R1 aG) [] func158 1 (u2 YD)
def fname (f:aP):Pg (List UInt8):=.ret f.Name
def apt (f:aP):=(fname f).val
def ZR:aY Z:=E0 [] [] (a1 (aI dY)) (R1 cStr) [] func209 1 fname
def aBp (f:Item):Pg (List UInt8):=.ret f.Name
def atI (f:Item):=(aBp f).val
def abU:aY Z:=E0 [] [] (a1 (aI lV)) (R1 cStr) [] func157 1 aBp
def aHd (x:aP)(a:List aP)(b:Int):Pg Bool:=.ix b a.length (.ret (apt (aP.mk x.Num x.Name x.Card x.Key x.dS x.Union x.dK x.Default.re x.Notes)== apt (aP.mk (a.getD b.toNat aJ).Num (a.getD b.toNat aJ).Name (a.getD b.toNat aJ).Card (a.getD b.toNat aJ).Key (a.getD b.toNat aJ).dS (a.getD b.toNat aJ).Union (a.getD b.toNat aJ).dK (a.getD b.toNat aJ).Default.re (a.getD b.toNat aJ).Notes)))
def YR (x:aP)(a:List aP)(b:Int):=(aHd x a b).val
def agA:aY Z:=Df [ZR] [] (ak (aI dY) (ak (iE 0) (ak (iE 1) (a1 (iE 2))))) (gQ (bFn 209 []) (gQ (aS fZ) (b1 (aS cI)))) (R1 aG) [0,1,2] func276 1 (fun a=>aHd a.1.1 a.2.2.1 a.2.2.2) fun a=>0<=a.2.2.2/\a.2.2.2 < a.2.2.1.length
def aHN (l:List aP)(c:List aP)(d:Int):Pg Int:=aL l (.each false um l aJ (fun b a (e:Unit)=> .ix b l.length (.ix d c.length (.br (YR (aP.mk a.Num a.Name a.Card a.Key a.dS a.Union a.dK a.Default.re a.Notes) c d) (.ret (.inr b)) (rl ())))) (fun b (e:Unit)=> .ret (-1)) ())
theorem awj (l:List aP)(b:List aP)(a:Int)(h:0<=a/\a < b.length):Is (aHN l b a):=
 eH fun _=>fU (.inr au) (fun d c _ _=>bW au au (bW au au (aT iR iR))) (fun c _=>aO)
def UQ:aY Z:=XX [agA] [jS 2 (bJ (fun d=>[s0 8]) (l1 cI))] (ak (bz fZ) (a1 (jP 276 [0,1,2]))) (gQ (bFn 209 []) (gQ (aS fZ) (b1 (aS cI)))) (R1 cI) [0,1,2] func372 1 (fun a=>aHN a.1.1 a.2.2.1 a.2.2.2) (fun a=>some (0<=a.2.2.2/\a.2.2.2 < a.2.2.1.length)) (fun a=>iI (fun(x:aP)=>(YR x a.2.2.1 a.2.2.2)) a.1.1) fun a h=>⟨awj a.1.1 a.2.2.1 a.2.2.2 h,(fun(l:List aP) b c _=>m_ (fun(x:aP)=>(YR x b c)) l 0) a.1.1 a.2.2.1 a.2.2.2 h⟩
def aIs (l:List aP)(a:List aP)(b:Int):Pg Bool:=.ix b a.length (.lt (iI (fun(x:aP)=>YR x a b) l) fun c=> .ret (decide (0<=c)))
theorem awr (l:List aP)(b:List aP)(a:Int)(h:0<=a/\a < b.length):Is (aIs l b a):=
 bW au au (dC fun d c=>aO)
def ahK:aY Z:=XX [agA,UQ] [] (ak (bz fZ) (a1 (jP 276 [0,1,2]))) (gQ (bFn 209 []) (gQ (aS fZ) (b1 (aS cI)))) (R1 aG) [0,1,2] func275 1 (fun a=>aIs a.1.1 a.2.2.1 a.2.2.2) (fun a=>some (0<=a.2.2.2/\a.2.2.2 < a.2.2.1.length)) (fun a=>a.1.1.any fun(x:aP)=>(YR x a.2.2.1 a.2.2.2)) fun a h=>⟨awr a.1.1 a.2.2.1 a.2.2.2 h,(fun(l:List aP) c b _=>pg _ l) a.1.1 a.2.2.1 a.2.2.2 h⟩
def az5 (l:List aP)(i:Int):Pg Bool:=.ob ((0:Int)<=0/\0<=i/\i<=(↑l.length:Int)) (.ix i l.length (.ret ((List.take i.toNat l).any fun(x:aP)=>YR x l i)))
def aEg (l:List aP)(i:Int):=(az5 l i).val
def axo:aY Z:=E1 [ZR,ahK,agA] [] (ak (bz fZ) (ak (bz cI) (a1 (jP 209 [])))) (R1 aG) [] func208 1 (fun a=>az5 a.1 a.2.1) fun a=>0<=a.2.1/\a.2.1 < a.1.length
def aIN (x:Item)(a:List Item)(b:Int):Pg Bool:=.ix b a.length (.ret (atI x==atI (a.getD b.toNat kW)))
def X_ (x:Item)(a:List Item)(b:Int):=(aIN x a b).val
def af5:aY Z:=Df [abU] [] (ak (aI lV) (ak (iE 0) (ak (iE 1) (a1 (iE 2))))) (gQ (bFn 157 []) (gQ (aS gW) (b1 (aS cI)))) (R1 aG) [0,1,2] func217 1 (fun a=>aIN a.1.1 a.2.2.1 a.2.2.2) fun a=>0<=a.2.2.2/\a.2.2.2 < a.2.2.1.length
def aHu (l:List Item)(b:List Item)(c:Int):Pg Int:=aL l (.each false um l kW (fun a e (d:Unit)=> .ix a l.length (.ix c b.length (.br (X_ e b c) (.ret (.inr a)) (rl ())))) (fun a (d:Unit)=> .ret (-1)) ())
theorem awZ (l:List Item)(b:List Item)(a:Int)(h:0<=a/\a < b.length):Is (aHu l b a):=
 eH fun _=>fU (.inr au) (fun d c _ _=>bW au au (bW au au (aT iR iR))) (fun c _=>aO)
def L6:aY Z:=XX [af5] [jS 2 (bJ (fun d=>[s0 8]) (l1 cI))] (ak (bz gW) (a1 (jP 217 [0,1,2]))) (gQ (bFn 157 []) (gQ (aS gW) (b1 (aS cI)))) (R1 cI) [0,1,2] func285 1 (fun a=>aHu a.1.1 a.2.2.1 a.2.2.2) (fun a=>some (0<=a.2.2.2/\a.2.2.2 < a.2.2.1.length)) (fun a=>iI (fun(x:Item)=>(X_ x a.2.2.1 a.2.2.2)) a.1.1) fun a h=>⟨awZ a.1.1 a.2.2.1 a.2.2.2 h,(fun(l:List Item) b c _=>m_ (fun(x:Item)=>(X_ x b c)) l 0) a.1.1 a.2.2.1 a.2.2.2 h⟩
def aGy (l:List Item)(a:List Item)(b:Int):Pg Bool:=.ix b a.length (.lt (iI (fun(x:Item)=>X_ x a b) l) fun c=> .ret (decide (0<=c)))
theorem avS (l:List Item)(b:List Item)(a:Int)(h:0<=a/\a < b.length):Is (aGy l b a):=
 bW au au (dC fun d c=>aO)
def K_:aY Z:=XX [af5,L6] [] (ak (bz gW) (a1 (jP 217 [0,1,2]))) (gQ (bFn 157 []) (gQ (aS gW) (b1 (aS cI)))) (R1 aG) [0,1,2] func216 1 (fun a=>aGy a.1.1 a.2.2.1 a.2.2.2) (fun a=>some (0<=a.2.2.2/\a.2.2.2 < a.2.2.1.length)) (fun a=>a.1.1.any fun(x:Item)=>(X_ x a.2.2.1 a.2.2.2)) fun a h=>⟨avS a.1.1 a.2.2.1 a.2.2.2 h,(fun(l:List Item) c b _=>pg _ l) a.1.1 a.2.2.1 a.2.2.2 h⟩
def aBG (l:List Item)(i:Int):Pg Bool:=.ob ((0:Int)<=0/\0<=i/\i<=(↑l.length:Int)) (.ix i l.length (.ret ((List.take i.toNat l).any fun(x:Item)=>X_ x l i)))
def aEZ (l:List Item)(i:Int):=(aBG l i).val
def ayQ:aY Z:=E1 [abU,K_,af5] [] (ak (bz gW) (ak (bz cI) (a1 (jP 157 [])))) (R1 aG) [] func156 1 (fun a=>aBG a.1 a.2.1) fun a=>0<=a.2.1/\a.2.1 < a.1.length
def afO (b:Int)(a:Int):Pg Bool:=.br (b !=5) (.ret (a==0)) (.br (decide (1<=a)) (.br (decide (a<=7)) (.ret (a !=6)) (.ret false)) (.ret false))
def J_ (a:Int)(b:Int):=(afO a b).val
def apv:aY Z:=E0 [] [] (ak (bz cI) (a1 (bz cI))) (R1 aG) [] func210 1 (u2 afO)
def aft (s:aH)(f:aP):Pg Bool:=.lt (ast s f.dS.Name) fun b=> .lt (mg s f.dS.Name) fun a=> .br (decide (1<=f.dS.Kind)) (.br (decide (f.dS.Kind<=8)) (.ret (f.dS.Name==[])) (.br (f.dS.Kind==9) (.ret b.2) (.br (f.dS.Kind==10) (.br a.2 (.ret (f.Card !=3)) (.ret false)) (.ret false)))) (.br (f.dS.Kind==9) (.ret b.2) (.br (f.dS.Kind==10) (.br a.2 (.ret (f.Card !=3)) (.ret false)) (.ret false)))
def P_ (s:aH)(f:aP):=(aft s f).val
def aqa:aY Z:=E0 [wB,ajp] [] (ak (aI bn) (a1 (aI dY))) (R1 aG) [] func211 1 (u2 aft)
def az4 (v:af):Pg Bool:=.br (v.Kind==0) (.br (v.Bits==0) (.br (v.Text==[]) (aL v.List (aL v.Pairs (aL v.Slots (aL v.bT (.ret (dA .i64 (dA .i64 (dA .i64 ((↑v.List.length:Int)+(↑v.Pairs.length:Int))+(↑v.Slots.length:Int))+(↑v.bT.length:Int))== 0)))))) (.ret false)) (.ret false)) (.ret false)
def aES (v:af):=(az4 v).val
def azb:aY Z:=E0 [] [] (a1 (aI aK)) (R1 aG) [] func280 1 az4
def aHB (x:aP)(f:aP):Pg Bool:=.ret (x.Name==f.Union)
def arO (x:aP)(f:aP):=(aHB x f).val
def aha:aY Z:=yu [] [] (ak (aI dY) (a1 (iE 0))) (b1 (aS dY)) (R1 aG) [0] func278 1 (u11 aHB)
def Ze:aY Z:=Oc [aha] fZ 278 [0] (b1 (aS dY)) func372 aJ fun x b=>arO x b
def aud:aY Z:=EAB [aha,UQ,Ze] fZ 278 [0] (b1 (aS dY)) func275 fun x b=>arO x b
def aHJ (x:aP)(f:aP):Pg Bool:=.ret (x.Union==f.Union)
def aop (x:aP)(f:aP):=(aHJ x f).val
def agt:aY Z:=yu [] [] (ak (aI dY) (a1 (iE 0))) (b1 (aS dY)) (R1 aG) [0] func279 1 (u11 aHJ)
def ahY:aY Z:=Oc [agt] fZ 279 [0] (b1 (aS dY)) func372 aJ fun x b=>aop x b
def atU:aY Z:=EAB [agt,UQ,Ze,ahY] fZ 279 [0] (b1 (aS dY)) func275 fun x b=>aop x b
def aaB (m:aX)(i:Int):Pg Bool:=.ix i m.Fields.length (.br ((m.Fields.getD i.toNat aJ).Union==[]) (.ret true) (.br ((m.Fields.getD i.toNat aJ).Card !=2) (.ret false) (.br (!aaV (m.Fields.getD i.toNat aJ).Union) (.ret false) (.br (m.Fields.any fun(x:aP)=> arO x (aP.mk (m.Fields.getD i.toNat aJ).Num (m.Fields.getD i.toNat aJ).Name (m.Fields.getD i.toNat aJ).Card (m.Fields.getD i.toNat aJ).Key (m.Fields.getD i.toNat aJ).dS (m.Fields.getD i.toNat aJ).Union (m.Fields.getD i.toNat aJ).dK (m.Fields.getD i.toNat aJ).Default.re (m.Fields.getD i.toNat aJ).Notes)) (.ret false) (.ob ((0:Int)<=0/\0<=i/\i<=(↑m.Fields.length:Int)) (.br (!(List.take i.toNat m.Fields).any fun(x:aP)=> aop x (aP.mk (m.Fields.getD i.toNat aJ).Num (m.Fields.getD i.toNat aJ).Name (m.Fields.getD i.toNat aJ).Card (m.Fields.getD i.toNat aJ).Key (m.Fields.getD i.toNat aJ).dS (m.Fields.getD i.toNat aJ).Union (m.Fields.getD i.toNat aJ).dK (m.Fields.getD i.toNat aJ).Default.re (m.Fields.getD i.toNat aJ).Notes)) (.ret true) (.lt (dA .i64 (i - 1)) fun a=> .ix a m.Fields.length (.ret ((m.Fields.getD a.toNat aJ).Union==(m.Fields.getD i.toNat aJ).Union)))))))))
def atC (m:aX)(i:Int):=(aaB m i).val
theorem aid (m:aX)(i:Int)(h:0<=i/\i < m.Fields.length/\m.Fields.length<=1048576):Is (aaB m i):=
 by
 refine bW au au (aT iR (fun _=>eX iR (fun _=>aT iR (fun _=>aT iR (fun _=>aW ⟨by omega,by omega,by omega⟩ (aT iR (fun b=> ?_)))))));have a:0 < i:=by
  rcases Int.lt_or_le 0 i with a | a
  ·exact a
  ·rw[show i.toNat=0 by omega,Qdu]at b;cases b
 exact l9 fun d c e=>bW au au aO
def anV:aY Z:=E1 [PM,ahK,aud,atU,aha,agt] [] (ak (aI fF) (a1 (bz cI))) (R1 aG) [] func212 1 (u2 aaB) (fun a=>0<=a.2/\a.2 < a.1.Fields.length/\a.1.Fields.length<=1048576) fun a h=>aid a.1 a.2 h
def aGt (x:Item)(f:aP):Pg Bool:=.ret (dA .u64 x.Num==f.Default.Bits)
def aqF (x:Item)(f:aP):=(aGt x f).val
def ag1:aY Z:=yu [] [] (ak (aI lV) (a1 (iE 0))) (b1 (aS dY)) (R1 aG) [0] func283 1 (u11 aGt)
def VT:aY Z:=Oc [ag1] gW 283 [0] (b1 (aS dY)) func285 kW fun x b=>aqF x b
def TZ:aY Z:=EAB [ag1,L6,VT] gW 283 [0] (b1 (aS dY)) func216 fun x b=>aqF x b
def TF (s:aH)(f:aP):Pg Bool:=.br (!f.dK) (.ret (aES f.Default.re)) (.br (f.Card !=2) (.ret false) (.br (f.Union !=[]) (.ret false) (.br (!TU f.dS.Kind f.Default.re) (.ret false) (.br ((nC f.Default.re).Bits !=f.Default.Bits) (.ret false) (.br (f.dS.Kind !=9) (.ret true) (.lt (ast s f.dS.Name) fun a=> .br a.2 (.ret (a.1.Items.any fun(x:Item)=>aqF x (aP.mk f.Num f.Name f.Card f.Key f.dS f.Union f.dK f.Default.re f.Notes))) (.ret false)))))))
def adx (s:aH)(f:aP):=(TF s f).val
def ZP:aY Z:=E0 [K_,TZ,ajp,azb,QQ,IK,ag1] [] (ak (aI bn) (a1 (aI dY))) (R1 aG) [] func213 1 (u2 TF)
def ahD (m:aX):Pg (List Str):=aL m.Fields (.each false oG m.Fields aJ (fun c b (a:List Str)=> .ix c m.Fields.length (.br (b.Card==1) (.br (b.dS.Kind==10) (.ob (dE (a.length+1) 16) (rl (a++[b.dS.Name]))) (rl a)) (rl a))) (fun c (a:List Str)=> .ret a) [])
def alf (m:aX):=(ahD m).val
theorem afz (m:aX)(h:m.Fields.length<=1048576):jG (ahD m) (fun r=>r.length<=m.Fields.length):=
 dw <| bY (fun(c:Nat) a=>a.length<=c) oI au (fun c a e d=>have b:a.length<=c:=d;aU au au (dZ (fun _=>dZ (fun _=>aj ((dI au au)) (ah qa7)) (fun _=>ah qa7)) (fun _=>ah qa7))) (fun a b=>have b:a.length<=m.Fields.length:=b;ah qa7)
def ae5:aY Z:=E1 [] [jS 3 (bJ (fun b=>[s0 9, .slot 3 false [some 9]]) (ay cI (l1 bF)))] (a1 (aI fF)) (R1 bF) [] func148 1 ahD (fun a=>a.Fields.length<=1048576) fun a h=>(afz a h).1
def aGN (n:Str)(s:aH)(a:List (Str×Bool)):Pg Bool:=.br (mg s n).2 (.ret !zO Cc.z a n) (.ret false)
def Yo (n:Str)(s:aH)(a:List (Str×Bool)):=(aGN n s a).val
def aig:aY Z:=yu [wB] [] (ak (bz cStr) (ak (iE 0) (a1 (iE 1)))) (gQ (aS bn) (gQ (Y4 2) (b1 (anG D.nJ mJ)))) (R1 aG) [0,1,2] func149 1 fun a=>aGN a.1.1 a.2.1 a.2.2.2
def aAo (l:List Str)(s:aH)(b:List (Str×Bool)):Pg Int:=aL l (.each false um l [] (fun a d (c:Unit)=> .ix a l.length (.br (Yo d s b) (.ret (.inr a)) (rl ()))) (fun a (c:Unit)=> .ret (-1)) ())
theorem auf (l:List Str)(s:aH)(a:List (Str×Bool)):Is (aAo l s a):=
 eH fun _=>fU (.inr au) (fun c b _ _=>bW au au (aT iR iR)) (fun b _=>aO)
def QV:aY Z:=XX [aig] [jS 2 (bJ (fun c=>[s0 8]) (l1 cI))] (ak (bz bF) (a1 (jP 149 [0,1]))) (gQ (aS bn) (gQ (Y4 2) (b1 (anG D.nJ mJ)))) (R1 cI) [0,1,2] func205 1 (fun a=>aAo a.1.1 a.2.1 a.2.2.2) (fun a=>none) (fun a=>iI (fun(x:Str)=>Yo x a.2.1 a.2.2.2) a.1.1) fun a h=>⟨auf a.1.1 a.2.1 a.2.2.2,(fun(l:List Str) s b=>m_ (fun(x:Str)=>Yo x s b) l 0) a.1.1 a.2.1 a.2.2.2⟩
def aGl (l:List Str)(s:aH)(a:List (Str×Bool)):Pg Bool:=.lt (iI (fun(x:Str)=>Yo x s a) l) fun b=> .ret (decide (0<=b))
theorem azv (l:List Str)(s:aH)(a:List (Str×Bool)):Is (aGl l s a):=
 dC fun c b=>aO
def ab3:aY Z:=XX [aig,acQ,QV] [] (ak (bz bF) (a1 (jP 149 [0,1]))) (gQ (aS bn) (gQ (Y4 2) (b1 (anG D.nJ mJ)))) (R1 aG) [0,1,2] func145 1 (fun a=>aGl a.1.1 a.2.1 a.2.2.2) (fun a=>none) (fun a=>a.1.1.any fun(x:Str)=>Yo x a.2.1 a.2.2.2) fun a h=>⟨azv a.1.1 a.2.1 a.2.2.2,(fun(l:List Str) s b=>pg _ l) a.1.1 a.2.1 a.2.2.2⟩
theorem NG (s:aH)(a:Str):mg s a=bif decide (iI (fun(x:aX)=>x.Name==a) s.Messages < 0)then(aX.mk [] [] [] [] [],false)else(s.Messages.getD (iI (fun(x:aX)=>x.Name==a) s.Messages).toNat f_,true):=by
 unfold mg JZ;simp only[dV,cO,lG,bu];rfl
theorem Py (s:aH)(a:Str)(h:∀m∈s.Messages,m.Fields.length<=1048576):(mg s a).1.Fields.length<=1048576:=by
 rw[NG];have c:=oM (fun(x:aX)=>x.Name==a) s.Messages;by_cases b:iI (fun(x:aX)=>x.Name==a) s.Messages < 0
 ·rw[wO b];exact vP _
 ·rw[sQ b];exact h _ (getD_mem au)
def aai (s:aH):Pg (List (Str×Bool)):=.lt (dA .i64 ((↑s.Messages.length:Int)+1)) fun f=> .cnt oG 0 f (fun g (b:List (Str×Bool))=> aL s.Messages (.each false oG s.Messages f_ (fun c e (a:List (Str×Bool))=> .ix c s.Messages.length (.lt (mg s e.Name) fun d=> .ob (d.1.Fields.length<=1048576) (.br (!(alf d.1).any fun(x:Str)=>Yo x s a) (rl (rZ a e.Name true)) (rl a)))) (fun c (a:List (Str×Bool))=> rl a) b)) (fun g (b:List (Str×Bool))=> .ret b) []
def uM (s:aH):=(aai s).val
theorem ahH (s:aH)(h:s.Messages.length<=1048576/\∀m∈s.Messages,m.Fields.length<=1048576):Is (aai s):=
 l9 fun i e _=>Vz au au (fun d b _ _=>eH fun _=>fU (.inr au) (fun f c _ _=>bW au au (dC fun g a=>aW (by rw[a];exact Py s _ h.2) (aT iR iR))) (fun c _=>aO)) (fun d b _ _=>aO)
def al3:aY Z:=E1 [ae1,ab3,wB,ae5,aig] [jS 3 (bJ (fun b=>[s0 14, .aca (pid (b 9))]) (ay cI (l1 lg))),jS 5 (bJ (fun b=>[s0 19, .aca (pid (b 9))]) (ay cI (l1 lg)))] (a1 (aI bn)) (R1 lg) [] func93 1 aai (fun a=>a.Messages.length<=1048576/\∀m∈a.Messages,m.Fields.length<=1048576) fun a h=>ahH a h
def aH7 (x:Str)(s:aH)(a:List (Str×Bool)):Pg Bool:=.br (mg s x).2 (.ret !zO Cc.z a x) (.ret false)
def aq2 (x:Str)(s:aH)(a:List (Str×Bool)):=(aH7 x s a).val
def ag2:aY Z:=yu [wB] [] (ak (bz cStr) (ak (iE 0) (a1 (iE 1)))) (gQ (aS bn) (b1 (aS lg))) (R1 aG) [0,1] func215 1 fun a=>aH7 a.1.1 a.2.1 a.2.2
def agi:aY Z:=Oc [ag2] bF 215 [0,1] (gQ (aS bn) (b1 (aS lg))) func205 [] fun x b=>aq2 x b.1 b.2
def agC:aY Z:=EAB [acQ,QV,agi,ag2] bF 215 [0,1] (gQ (aS bn) (b1 (aS lg))) func145 fun x b=>aq2 x b.1 b.2
def alo (s:aH)(m:aX)(a:List (Str×Bool)):Pg Bool:=.ob (m.Fields.length<=1048576) (.ret ((alf m).any fun(x:Str)=>aq2 x s a))
def asx (s:aH)(m:aX)(a:List (Str×Bool)):=(alo s m a).val
def amx:aY Z:=E1 [ae1,ab3,agC,ae5,ag2] [] (ak (aI bn) (ak (aI fF) (a1 (bz lg)))) (R1 aG) [] func154 1 (u3 alo) fun a=>a.2.1.Fields.length<=1048576
def unl (a:Bool)(e:Int)(x:ax):Pg ax:=.br (!a) (.ob (dE (x.out.length+1) 32) (.ret (ax.mk x.zA x.num (x.out++[fK.mk x.zA x.num e])))) (.ret x)
def iP (a:Bool)(e:Int)(x:ax):=(unl a e x).val
theorem aFm (a:Bool)(e:Int)(x:ax)(h:x.out.length<=68719476736):Is (unl a e x):=
 aT (fun _=>aW ((dI au au)) (aO)) iR
def Tj:aY Z:=uF Z [] [] (jF (ak (iE 0) (ak (bz aG) (a1 (bz cI)))) (WW 1 [none,none,some 125] aQ)) (uI (jC (xP 0) (jC (oJ I7) (N_ (oJ (nO _))))) (AP (k:=1) nZ (fun _=>rfl)) rfl) (shr [.cells 0 [none,none,some 125]] (l1 aQ)) [] func90 ntmps90 eF 0 rfl (fun a=>unl (a.1.2.1) (a.1.2.2) (a.2)) (fun a=>some ((a.2).out.length<=68719476736)) (fun a e _=>by kernel_rfl) (fun a=>iP (a.1.2.1) (a.1.2.2) (a.2)) (fun a h=>⟨aFm (a.1.2.1) (a.1.2.2) (a.2) h,rfl⟩)
theorem tJ {a:Bool}{e:Int}{x v:ax}(h:v=iP a e x):v.out.length<=x.out.length+1:=by
 subst h;unfold iP unl;cases a
 ·simp[Pg.val]
 ·exact Nat.le_succ _
theorem aAm {c a:Bool}{e b:Int}{x v:ax}(h:v=iP c e (iP a b x)):v.out.length<=x.out.length+2:=by
 have f:=tJ h;have d:=tJ (rfl:iP a b x=_);omega
theorem alp (a:Bool)(e:Int)(x:ax):(iP a e x).out.length<=x.out.length+1:=tJ rfl
def ape (l:List Note)(a:Int)(x:ax):Pg ax:=.ob (x.out.length<=68719476736) (.lt (alg l a) fun b=> .ret (iP (b==0) b x))
def o5 (l:List Note)(a:Int)(x:ax):=(ape l a x).val
theorem au4 (l:List Note)(a:Int)(x:ax)(h:x.out.length<=68719476736):Is (ape l a x):=
 aW qas (dC fun c b=>aO)
def QK:aY Z:=uF Z [Tj,adJ] [] (jF (ak (iE 0) (ak (bz kQ) (a1 (bz cI)))) (WW 1 [none,none,some 125] aQ)) (uI (jC (xP 0) (jC (oJ O7) (N_ (oJ (nO _))))) (AP (k:=1) nZ (fun _=>rfl)) rfl) (shr [.cells 0 [none,none,some 125]] (l1 aQ)) [] func153 ntmps153 eF 0 rfl (fun a=>ape (a.1.2.1) (a.1.2.2) (a.2)) (fun a=>some ((a.2).out.length<=68719476736)) (fun a e _=>by kernel_rfl) (fun a=>o5 (a.1.2.1) (a.1.2.2) (a.2)) (fun a h=>⟨au4 (a.1.2.1) (a.1.2.2) (a.2) h,rfl⟩)
theorem aic {l:List Note}{a:Int}{x v:ax}(h:v=o5 l a x):v.out.length<=x.out.length+1:=by
 subst h;exact alp _ _ _
theorem ajy (l:List Note)(a:Int)(x:ax):(o5 l a x).out.length<=x.out.length+1:=aic rfl
def spans (l:List mG)(f:Int)(h:Int)(x:ax):Pg ax:=aL l (.each false oG l uO (fun b c (a:ax)=> .ix b l.length (.lt (iP (decide ((l.getD (dA .i64 (b - 1)).toNat uO).To < c.From)) 11 (iP false 6 a)) fun i=> .lt (dA .i64 (b - 1)) fun d=> .lt (iP true 11 (iP false 6 a)) fun j=> .lt (iP false 6 a) fun e=> .br (decide (f<=c.From)) (.br (decide (c.To<=h)) (.ob (a.out.length<=68719476736) (.lt (iP (decide (c.From<=c.To)) 6 a) fun g=> .br (b==0) (.ob (g.out.length<=68719476736) (rl (iP true 11 g))) (.ix d l.length (.ob (g.out.length<=68719476736) (rl (iP (decide ((l.getD d.toNat uO).To < c.From)) 11 g)))))) (.ob (a.out.length<=68719476736) (.br (b==0) (.ob (e.out.length<=68719476736) (rl j)) (.ix d l.length (.ob (e.out.length<=68719476736) (rl i)))))) (.ob (a.out.length<=68719476736) (.br (b==0) (.ob (e.out.length<=68719476736) (rl j)) (.ix d l.length (.ob (e.out.length<=68719476736) (rl i))))))) (fun b (a:ax)=> .ret a) x)
def TY (l:List mG)(a:Int)(b:Int)(x:ax):=(spans l a b x).val
theorem XV (l:List mG)(b:Int)(e:Int)(x:ax)(h:x.out.length+2*l.length<=68719476736):jG (spans l b e x) (fun r=>r.out.length<=x.out.length+2*l.length):=
 dw <| bY (fun(d:Nat) a=>a.out.length<=x.out.length+2*d) au au (fun d a u j=>have c:a.out.length<=x.out.length+2*d:=j;aU au au (aC fun s g=>have m:=aAm g;lU fun y q _=>aC fun w f=>have p:=aAm f;aC fun v i=>have n:=tJ i;bK (fun _=>bK (fun _=>aj (au) (aC fun t k=>have o:=tJ k;dZ (fun _=>aj (au) (ah qa)) (fun _=>aU au au (aj (au) (ah qa))))) (fun _=>aj (au) (dZ (fun _=>aj (au) (ah qa)) (fun _=>aU au au (aj (au) (ah qa)))))) (fun _=>aj (au) (dZ (fun _=>aj (au) (ah qa)) (fun _=>aU au au (aj (au) (ah qa))))))) (fun a c=>have c:a.out.length<=x.out.length+2*l.length:=c;ah qa)
def alk:aY Z:=uF Z [Tj] [jS 1 (bJ (fun b=>[s0 12, .cells (pid (b 0)) [none,none,some 125]]) (ay cI (l1 aQ)))] (jF (ak (iE 0) (ak (bz ou) (ak (bz cI) (a1 (bz cI))))) (WW 1 [none,none,some 125] aQ)) (uI (jC (xP 0) (jC (oJ O8) (jC (oJ (nO _)) (N_ (oJ (nO _)))))) (AP (k:=1) nZ (fun _=>rfl)) rfl) (shr [.cells 0 [none,none,some 125]] (l1 aQ)) [] func152 ntmps152 eF 0 rfl (fun a=>spans (a.1.2.1) (a.1.2.2.1) (a.1.2.2.2) (a.2)) (fun a=>some ((a.2).out.length+2*(a.1.2.1).length<=68719476736)) (fun a e _=>by kernel_rfl) (fun a=>TY (a.1.2.1) (a.1.2.2.1) (a.1.2.2.2) (a.2)) (fun a h=>⟨(XV (a.1.2.1) (a.1.2.2.1) (a.1.2.2.2) (a.2) h).1,rfl⟩)
theorem ajK {l:List mG}{a b:Int}{p v:ax}(c:p.out.length+2*l.length<=68719476736)(h:v=TY l a b p):v.out.length<=p.out.length+2*l.length:=by
 subst h;exact(XV l a b p c).2
def field (s:aH)(m:aX)(i:Int)(x:ax):Pg ax:=.ix i m.Fields.length (.cut (fun(c:ax)=> .cut (fun(b:ax)=> .cut (fun(l:ax)=> .cut (fun(n:ax)=> .cut (fun(d:ax)=> .cut (fun(a:ax)=> .cut (fun(j:ax)=> .cut (fun(o:ax)=> .cut (fun(k:ax)=> .ob (k.out.length<=68719476736) (.lt (iP (adx s (aP.mk (m.Fields.getD i.toNat aJ).Num (m.Fields.getD i.toNat aJ).Name (m.Fields.getD i.toNat aJ).Card (m.Fields.getD i.toNat aJ).Key (m.Fields.getD i.toNat aJ).dS (m.Fields.getD i.toNat aJ).Union (m.Fields.getD i.toNat aJ).dK (m.Fields.getD i.toNat aJ).Default.re (m.Fields.getD i.toNat aJ).Notes)) 1 k) fun e=> .ob (e.out.length<=68719476736) (.lt (o5 (m.Fields.getD i.toNat aJ).Notes 2 e) fun g=> .ret (ax.mk g.zA (-1) g.out)))) (.ob (0<=i/\i < (↑m.Fields.length:Int)/\m.Fields.length<=1048576) (.ob (o.out.length<=68719476736) (rl (iP (atC m i) 15 o))))) (.ob (j.out.length<=68719476736) (rl (iP (P_ s (aP.mk (m.Fields.getD i.toNat aJ).Num (m.Fields.getD i.toNat aJ).Name (m.Fields.getD i.toNat aJ).Card (m.Fields.getD i.toNat aJ).Key (m.Fields.getD i.toNat aJ).dS (m.Fields.getD i.toNat aJ).Union (m.Fields.getD i.toNat aJ).dK (m.Fields.getD i.toNat aJ).Default.re (m.Fields.getD i.toNat aJ).Notes)) 12 j)))) (.lt (iP false 1 a) fun h=> .br (decide (1<=(m.Fields.getD i.toNat aJ).Card)) (.br (decide ((m.Fields.getD i.toNat aJ).Card<=5)) (.ob (a.out.length<=68719476736) (rl (iP (J_ (m.Fields.getD i.toNat aJ).Card (m.Fields.getD i.toNat aJ).Key) 1 a))) (.ob (a.out.length<=68719476736) (rl h))) (.ob (a.out.length<=68719476736) (rl h)))) (.br (!Hm m.Reserved (m.Fields.getD i.toNat aJ).Num) (.ob (d.out.length<=68719476736) (rl (iP (!m.Gone.any fun(x:Str)=>(m.Fields.getD i.toNat aJ).Name==x) 21 d))) (.ob (d.out.length<=68719476736) (rl (iP false 21 d))))) (.ix i m.Fields.length (.ob (n.out.length<=68719476736) (rl (iP (!aEg m.Fields i) 9 n))))) (.ob (l.out.length<=68719476736) (rl (iP (aaV (m.Fields.getD i.toNat aJ).Name) 8 l)))) (.br (i==0) (.ob (b.out.length<=68719476736) (rl (iP true 11 b))) (.lt (dA .i64 (i - 1)) fun f=> .ix f m.Fields.length (.ob (b.out.length<=68719476736) (rl (iP (decide ((m.Fields.getD f.toNat aJ).Num < (m.Fields.getD i.toNat aJ).Num)) 11 b)))))) (.br (decide (1<=(m.Fields.getD i.toNat aJ).Num)) (.ob (c.out.length<=68719476736) (rl (iP (decide ((m.Fields.getD i.toNat aJ).Num<=65535)) 6 c))) (.ob (c.out.length<=68719476736) (rl (iP false 6 c))))) (rl (ax.mk x.zA (m.Fields.getD i.toNat aJ).Num x.out)))
def aag (s:aH)(m:aX)(i:Int)(x:ax):=(field s m i x).val
theorem YP (s:aH)(m:aX)(i:Int)(x:ax)(h:x.out.length+10<=68719476736/\0<=i/\i < m.Fields.length/\m.Fields.length<=1048576):jG (field s m i x) (fun r=>r.out.length<=x.out.length+10):=
 aU au au (bQ (fun q=>q.out.length<=x.out.length+0) (ah qa) (fun q a=>have a:q.out.length<=x.out.length+0:=a;bQ (fun o=>o.out.length<=x.out.length+1) (bK (fun _=>aj (au) (ah qa)) (fun _=>aj (au) (ah qa))) (fun o e=>have e:o.out.length<=x.out.length+1:=e;bQ (fun n=>n.out.length<=x.out.length+2) (dZ (fun _=>aj (au) (ah qa)) (fun _=>lU fun D H _=>aU au au (aj (au) (ah qa)))) (fun n d=>have d:n.out.length<=x.out.length+2:=d;bQ (fun w=>w.out.length<=x.out.length+3) (aj (au) (ah qa)) (fun w k=>have k:w.out.length<=x.out.length+3:=k;bQ (fun t=>t.out.length<=x.out.length+4) (aU au au (aj (au) (ah qa))) (fun t b=>have b:t.out.length<=x.out.length+4:=b;bQ (fun u=>u.out.length<=x.out.length+5) (dX (fun _=>aj (au) (ah qa)) (fun _=>aj (au) (ah qa))) (fun u c=>have c:u.out.length<=x.out.length+5:=c;bQ (fun l=>l.out.length<=x.out.length+6) (aC fun G y=>have F:=tJ y;bK (fun _=>bK (fun _=>aj (au) (ah qa)) (fun _=>aj (au) (ah qa))) (fun _=>aj (au) (ah qa))) (fun l g=>have g:l.out.length<=x.out.length+6:=g;bQ (fun v=>v.out.length<=x.out.length+7) (aj (au) (ah qa)) (fun v j=>have j:v.out.length<=x.out.length+7:=j;bQ (fun p=>p.out.length<=x.out.length+8) (aj (au) (aj (au) (ah qa))) (fun p f=>have f:p.out.length<=x.out.length+8:=f;aj (au) (aC fun I A=>have B:=tJ A;aj (au) (aC fun E z=>have C:=aic z;ah qa))))))))))))
def ayk:aY Z:=uF Z [aiM,Tj,QK,PM,Dj,axo,ZR,apv,aqa,anV,ZP] [jS 100003 (bJ (fun b=>[.cells (pid (b 0)) [none,none,some 125]]) (l1 aQ)),jS 100004 (bJ (fun b=>[.cells (pid (b 0)) [none,none,some 125]]) (l1 aQ)),jS 100005 (bJ (fun b=>[.cells (pid (b 0)) [none,none,some 125]]) (l1 aQ)),jS 100006 (bJ (fun b=>[.cells (pid (b 0)) [none,none,some 125]]) (l1 aQ)),jS 100007 (bJ (fun b=>[.cells (pid (b 0)) [none,none,some 125]]) (l1 aQ)),jS 100008 (bJ (fun b=>[.cells (pid (b 0)) [none,none,some 125]]) (l1 aQ)),jS 100009 (bJ (fun b=>[.cells (pid (b 0)) [none,none,some 125]]) (l1 aQ)),jS 100010 (bJ (fun b=>[.cells (pid (b 0)) [none,none,some 125]]) (l1 aQ)),jS 100011 (bJ (fun b=>[.cells (pid (b 0)) [none,none,some 125]]) (l1 aQ))] (jF (ak (iE 0) (ak (aI bn) (ak (aI fF) (a1 (bz cI))))) (WW 1 [none,none,some 125] aQ)) (uI (jC (xP 0) (jC (abX ab6) (jC (abX zy) (N_ (oJ (nO _)))))) (AP (k:=1) nZ (fun _=>rfl)) rfl) (shr [.cells 0 [none,none,some 125]] (l1 aQ)) [] func151 ntmps151 eF 0 rfl (fun a=>field (a.1.2.1) (a.1.2.2.1) (a.1.2.2.2) (a.2)) (fun a=>some ((a.2).out.length+10<=68719476736/\0<=(a.1.2.2.2)/\(a.1.2.2.2) < (a.1.2.2.1).Fields.length/\(a.1.2.2.1).Fields.length<=1048576)) (fun a e _=>by kernel_rfl) (fun a=>aag (a.1.2.1) (a.1.2.2.1) (a.1.2.2.2) (a.2)) (fun a h=>⟨(YP (a.1.2.1) (a.1.2.2.1) (a.1.2.2.2) (a.2) h).1,rfl⟩)
theorem aaC {s:aH}{m:aX}{i:Int}{p v:ax}(a:p.out.length+10<=68719476736/\0<=i/\i < m.Fields.length/\m.Fields.length<=1048576)(h:v=aag s m i p):v.out.length<=p.out.length+10:=by
 subst h;exact(YP s m i p a).2
def okM (m:aX):Prop:=m.Fields.length<=1048576/\m.Reserved.length<=1048576/\m.Gone.length<=1048576/\m.Name.length<=1048576/\∀g∈m.Gone,g.length<=1048576
def okE (e:dP):Prop:=e.Items.length<=1048576/\e.Reserved.length<=1048576/\e.Name.length<=1048576
def aa_ (v:gU):Prop:=v.Methods.length<=1048576/\v.Name.length<=1048576
def okS (s:aH):Prop:=s.Messages.length<=150/\s.Enums.length<=150/\s.gK.length<=150/\(∀m∈s.Messages,okM m)/\(∀e∈s.Enums,okE e)/\∀v∈s.gK,aa_ v
def adF (s:aH)(m:aX)(h:List (Str×Bool)):Pg (List fK):=.cut (fun(c:ax)=> .cut (fun(j:ax)=> .cut (fun(g:ax)=> .ob (g.out.length+2*m.Reserved.length<=68719476736) (aL m.Gone (.each false oG m.Gone [] (fun e i (a:ax)=> .ix e m.Gone.length (.ob (List.length i<=9223372036854775700) (.ob (a.out.length<=68719476736) (rl (iP (EK i) 7 a))))) (fun e (a:ax)=> .ob (a.out.length<=68719476736) (.ob (m.Fields.length<=1048576) (.lt (o5 m.Notes 1 a) fun f=> .ob (f.out.length<=68719476736) (.ret (iP (!asx s m h) 19 f).out)))) (TY m.Reserved 1 65535 g)))) (aL m.Fields (.cnt oG 0 (↑m.Fields.length:Int) (fun b (d:ax)=> .ob (d.out.length+10<=68719476736/\0<=b/\b < (↑m.Fields.length:Int)/\m.Fields.length<=1048576) (rl (aag s m b d))) (fun b (d:ax)=> rl d) j))) (.br (decide ((↑m.Fields.length:Int)<=64)) (.ob (c.out.length<=68719476736) (aL m.Reserved (aL m.Gone (rl (iP (decide (max (↑m.Reserved.length:Int) (↑m.Gone.length:Int)<=16)) 3 c))))) (.ob (c.out.length<=68719476736) (rl (iP false 3 c))))) (.ob (List.length m.Name<=4294967296) (.ob (0<=68719476736) (rl (iP (agv m.Name) 8 (ax.mk m.Name (-1) [])))))
def yQ (s:aH)(m:aX)(a:List (Str×Bool)):=(adF s m a).val
theorem XP (s:aH)(m:aX)(o:List (Str×Bool))(h:okM m):jG (adF s m o) (fun r=>r.length<=16777216):=
 have B:m.Fields.length<=1048576:=h.1;have z:m.Reserved.length<=1048576:=h.2.1;have C:m.Gone.length<=1048576:=h.2.2.1;have A:m.Name.length<=1048576:=h.2.2.2.1;bQ (fun k=>k.out.length<=1) (aj (qap) (aj (qap) (ah qa))) (fun k e=>have e:k.out.length<=1:=e;bQ (fun j=>j.out.length<=2) (bK (fun _=>aj (qap) (dw <| dw <| ah qa)) (fun _=>aj (qap) (ah qa))) (fun j g=>have g:j.out.length<=2:=g;bQ (fun l=>l.out.length<=10485762) (dw <| rM (fun(a:Int) d=>d.out.length<=2+10*a/\a<=(m.Fields.length:Int)) qaw au au (fun a d x t n=>have b:d.out.length<=2+10*a/\a<=(m.Fields.length:Int):=n;aj (qap) (ah qa)) (fun a d _ w b=>have b:d.out.length<=2+10*a/\a<=(m.Fields.length:Int):=b;ah qa)) (fun l f=>have f:l.out.length<=10485762:=f;aj (qap) (dw <| bY (fun(i:Nat) c=>c.out.length<=12582914+1*i) qaw au (fun i c u q=>have b:c.out.length<=12582914+1*i:=q;aU au au (aj (qap) (aj (qap) (ah qa)))) (fun c b=>have b:c.out.length<=12582914+1*m.Gone.length:=b;aj (qap) (aj (qap) (aC fun y p=>have v:=aic p;aj (qap) (ah qa))))))))
def axf:aY Z:=E1 [Tj,Dz,abQ,ayk,alk,QK,amx] [jS 5 (bJ (fun b=>[s0 39, .cells (pid (b 14)) [none,none,some 125]]) (ay cI (l1 aQ))),jS 11 (bJ (fun b=>[s0 55, .cells (pid (b 14)) [none,none,some 125]]) (ay cI (l1 aQ))),jS 100003 (bJ (fun b=>[.cells (pid (b 14)) [none,none,some 125]]) (l1 aQ)),jS 100004 (bJ (fun b=>[.cells (pid (b 14)) [none,none,some 125]]) (l1 aQ)),jS 100009 (bJ (fun b=>[.cells (pid (b 14)) [none,none,some 125]]) (l1 aQ)),jS 800001 (bJ (fun b=>[.cells (pid (b 7)) [none,none,some 125]]) (l1 aQ))] (ak (aI bn) (ak (aI fF) (a1 (bz lg)))) (R1 kz) [] func94 1 (u3 adF) (fun a=>okM a.2.1) fun a h=>(XP a.1 a.2.1 a.2.2 h).1
def ahB (e:dP):Pg (List fK):=.cut (fun(d:ax)=> .cut (fun(f:ax)=> .cut (fun(o:ax)=> aL e.Items (.each false oG e.Items kW (fun c b (a:ax)=> .ix c e.Items.length (.cut (fun(g:ax)=> .cut (fun(m:ax)=> .ob (m.out.length<=68719476736) (.ix c e.Items.length (.lt (iP (aaV b.Name) 8 m) fun n=> .ob (n.out.length<=68719476736) (.lt (iP (!aEZ e.Items c) 9 n) fun i=> .ob (i.out.length<=68719476736) (.lt (iP (!Hm e.Reserved b.Num) 21 i) fun k=> .ob (k.out.length<=68719476736) (rl (o5 b.Notes 4 k))))))) (.br (c==0) (.ob (g.out.length<=68719476736) (rl (iP true 11 g))) (.lt (dA .i64 (c - 1)) fun l=> .ix l e.Items.length (.ob (g.out.length<=68719476736) (rl (iP (decide ((e.Items.getD l.toNat kW).Num < b.Num)) 11 g)))))) (.br (decide (0<=b.Num)) (.ob (a.out.length<=68719476736) (rl (iP (decide (b.Num<=2147483647)) 6 (ax.mk a.zA b.Num a.out)))) (.ob (a.out.length<=68719476736) (rl (iP false 6 (ax.mk a.zA b.Num a.out))))))) (fun c (a:ax)=> .ob (a.out.length+2*e.Reserved.length<=68719476736) (.lt (TY e.Reserved 0 2147483647 (ax.mk a.zA (-1) a.out)) fun j=> .ob (j.out.length<=68719476736) (.ret (o5 e.Notes 3 j).out))) o)) (.br ((↑e.Items.length:Int)==0) (.ob (f.out.length<=68719476736) (rl (iP true 14 f))) (.ix 0 e.Items.length (.ob (f.out.length<=68719476736) (rl (iP ((e.Items.getD 0 kW).Num==0) 14 f)))))) (.lt (iP false 3 d) fun h=> .br (decide (1<=(↑e.Items.length:Int))) (.br (decide ((↑e.Items.length:Int)<=64)) (.ob (d.out.length<=68719476736) (rl (iP (decide ((↑e.Reserved.length:Int)<=16)) 3 d))) (.ob (d.out.length<=68719476736) (rl h))) (.ob (d.out.length<=68719476736) (rl h)))) (.ob (List.length e.Name<=4294967296) (.ob (0<=68719476736) (rl (iP (agv e.Name) 8 (ax.mk e.Name (-1) [])))))
def aju (e:dP):=(ahB e).val
theorem U_ (e:dP)(h:okE e):jG (ahB e) (fun r=>r.length<=16777216):=
 have J:e.Items.length<=1048576:=h.1;have I:e.Reserved.length<=1048576:=h.2.1;have L:e.Name.length<=1048576:=h.2.2;bQ (fun n=>n.out.length<=1) (aj (x8) (aj (x8) (ah qa))) (fun n c=>have c:n.out.length<=1:=c;bQ (fun m=>m.out.length<=2) (aC fun F p=>have z:=tJ p;bK (fun _=>bK (fun _=>aj (x8) (ah qa)) (fun _=>aj (x8) (ah qa))) (fun _=>aj (x8) (ah qa))) (fun m g=>have g:m.out.length<=2:=g;bQ (fun l=>l.out.length<=3) (dZ (fun _=>aj (x8) (ah qa)) (fun _=>aU au au (aj (x8) (ah qa)))) (fun l f=>have f:l.out.length<=3:=f;dw <| bY (fun(a:Nat) b=>b.out.length<=3+6*a) qaw au (fun a b K s=>have k:b.out.length<=3+6*a:=s;aU au au (bQ (fun o=>o.out.length<=3+6*a+1) (bK (fun _=>aj (x8) (ah qa)) (fun _=>aj (x8) (ah qa))) (fun o d=>have d:o.out.length<=3+6*a+1:=d;bQ (fun j=>j.out.length<=3+6*a+2) (dZ (fun _=>aj (x8) (ah qa)) (fun _=>lU fun D C _=>aU au au (aj (x8) (ah qa)))) (fun j i=>have i:j.out.length<=3+6*a+2:=i;aj (x8) (aU au au (aC fun H q=>have A:=tJ q;aj (x8) (aC fun G v=>have w:=tJ v;aj (x8) (aC fun B u=>have x:=tJ u;aj (x8) (ah qa))))))))) (fun b k=>have k:b.out.length<=3+6*e.Items.length:=k;aj (x8) (aC fun y t=>have E:=ajK (by first | omega | (dsimp only;omega)) t;aj (x8) (ah qa))))))
def asY:aY Z:=E1 [Tj,abQ,alk,QK,PM,ayQ,abU,Dj] [jS 6 (bJ (fun b=>[s0 50, .cells (pid (b 9)) [none,none,some 125]]) (ay cI (l1 aQ))),jS 100003 (bJ (fun b=>[.cells (pid (b 9)) [none,none,some 125]]) (l1 aQ)),jS 100004 (bJ (fun b=>[.cells (pid (b 9)) [none,none,some 125]]) (l1 aQ)),jS 100005 (bJ (fun b=>[.cells (pid (b 9)) [none,none,some 125]]) (l1 aQ)),jS 100010 (bJ (fun b=>[.cells (pid (b 9)) [none,none,some 125]]) (l1 aQ)),jS 100011 (bJ (fun b=>[.cells (pid (b 9)) [none,none,some 125]]) (l1 aQ)),jS 800001 (bJ (fun b=>[.cells (pid (b 3)) [none,none,some 125]]) (l1 aQ))] (a1 (aI jv)) (R1 kz) [] func95 1 ahB (fun a=>okE a) fun a h=>(U_ a h).1
def aD4 (s:aH)(v:gU):Pg (List fK):=.ob (List.length v.Name<=4294967296) (.ob (0<=68719476736) (.lt (iP (agv v.Name) 8 (ax.mk v.Name (-1) [])) fun u=> .ob (u.out.length<=68719476736) (aL v.Methods (.each false oG v.Methods oD (fun g a (b:ax)=> .ix g v.Methods.length (.ob (b.out.length<=68719476736) (.lt (iP (aaV a.Name) 8 (ax.mk b.zA g b.out)) fun k=> .lt (mg s a.In) fun x=> .lt (mg s a.Out) fun w=> .br (g==0) (.ob (k.out.length<=68719476736) (.lt (iP true 11 k) fun i=> .br x.2 (.ob (i.out.length<=68719476736) (.lt (iP w.2 12 i) fun j=> .br (decide (1<=a.Shape)) (.ob (j.out.length<=68719476736) (.lt (iP (decide (a.Shape<=4)) 1 j) fun r=> .ob (r.out.length<=68719476736) (rl (o5 a.Notes 6 r)))) (.ob (j.out.length<=68719476736) (.lt (iP false 1 j) fun o=> .ob (o.out.length<=68719476736) (rl (o5 a.Notes 6 o)))))) (.ob (i.out.length<=68719476736) (.lt (iP false 12 i) fun e=> .br (decide (1<=a.Shape)) (.ob (e.out.length<=68719476736) (.lt (iP (decide (a.Shape<=4)) 1 e) fun l=> .ob (l.out.length<=68719476736) (rl (o5 a.Notes 6 l)))) (.ob (e.out.length<=68719476736) (.lt (iP false 1 e) fun p=> .ob (p.out.length<=68719476736) (rl (o5 a.Notes 6 p)))))))) (.lt (dA .i64 (g - 1)) fun h=> .ix h v.Methods.length (.ob (k.out.length<=68719476736) (.lt (iP (!(Op.bytesLess a.Name (v.Methods.getD h.toNat oD).Name || a.Name==(v.Methods.getD h.toNat oD).Name)) 11 k) fun c=> .br x.2 (.ob (c.out.length<=68719476736) (.lt (iP w.2 12 c) fun f=> .br (decide (1<=a.Shape)) (.ob (f.out.length<=68719476736) (.lt (iP (decide (a.Shape<=4)) 1 f) fun t=> .ob (t.out.length<=68719476736) (rl (o5 a.Notes 6 t)))) (.ob (f.out.length<=68719476736) (.lt (iP false 1 f) fun n=> .ob (n.out.length<=68719476736) (rl (o5 a.Notes 6 n)))))) (.ob (c.out.length<=68719476736) (.lt (iP false 12 c) fun d=> .br (decide (1<=a.Shape)) (.ob (d.out.length<=68719476736) (.lt (iP (decide (a.Shape<=4)) 1 d) fun q=> .ob (q.out.length<=68719476736) (rl (o5 a.Notes 6 q)))) (.ob (d.out.length<=68719476736) (.lt (iP false 1 d) fun m=> .ob (m.out.length<=68719476736) (rl (o5 a.Notes 6 m)))))))))))) (fun g (b:ax)=> .ob (b.out.length<=68719476736) (.ret (o5 v.Notes 5 (ax.mk b.zA (-1) b.out)).out)) (iP (decide ((↑v.Methods.length:Int)<=64)) 3 u)))))
def aBk (s:aH)(v:gU):=(aD4 s v).val
theorem ac_ (s:aH)(v:gU)(h:aa_ v):jG (aD4 s v) (fun r=>r.length<=16777216):=
 have h1:v.Methods.length<=1048576:=h.1;have h2:v.Name.length<=1048576:=h.2;aj (x8) (aj (x8) (aC fun v4 l=>have L:=tJ l;aj (x8) (dw <| bY (fun(c:Nat) a=>a.out.length<=2+5*c) qaw au (fun c a pJ t=>have b:a.out.length<=2+5*c:=t;aU au au (aj (x8) (aC fun v5 d=>have D:=tJ d;aC fun v6 H=>aC fun v7 Q=>dZ (fun _=>aj (x8) (aC fun v8 w=>have R:=tJ w;dX (fun _=>aj (x8) (aC fun v9 i=>have M:=tJ i;bK (fun _=>aj (x8) (aC fun Y x=>have y:=tJ x;aj (x8) (ah qa))) (fun _=>aj (x8) (aC fun O u=>have C:=tJ u;aj (x8) (ah qa))))) (fun _=>aj (x8) (aC fun S m=>have P:=tJ m;bK (fun _=>aj (x8) (aC fun E o=>have V:=tJ o;aj (x8) (ah qa))) (fun _=>aj (x8) (aC fun W g=>have N:=tJ g;aj (x8) (ah qa))))))) (fun _=>lU fun Z J _=>aU au au (aj (x8) (aC fun A k=>have B:=tJ k;dX (fun _=>aj (x8) (aC fun T j=>have ad:=tJ j;bK (fun _=>aj (x8) (aC fun aa q=>have ab:=tJ q;aj (x8) (ah qa))) (fun _=>aj (x8) (aC fun I e=>have z:=tJ e;aj (x8) (ah qa))))) (fun _=>aj (x8) (aC fun K p=>have ac:=tJ p;bK (fun _=>aj (x8) (aC fun X f=>have G:=tJ f;aj (x8) (ah qa))) (fun _=>aj (x8) (aC fun F n=>have U:=tJ n;aj (x8) (ah qa))))))))))) (fun a b=>have b:a.out.length<=2+5*v.Methods.length:=b;aj (x8) (ah qa)))))
def aCw:aY Z:=E1 [Tj,wB,abQ,QK,PM] [jS 5 (bJ (fun b=>[s0 30, .cells (pid (b 15)) [none,none,some 125]]) (ay cI (l1 aQ))),jS 800001 (bJ (fun b=>[.cells (pid (b 5)) [none,none,some 125]]) (l1 aQ))] (ak (aI bn) (a1 (aI pI))) (R1 kz) [] func96 1 (u2 aD4) (fun a=>aa_ a.2) fun a h=>(ac_ a.1 a.2 h).1
def rising (l:List Str):Pg Bool:=.Hz [] (some (l.length<=9223372036854775807)) um 1 (↑l.length:Int) (fun a (c:Unit)=> .ix a l.length (.lt (dA .i64 (a - 1)) fun b=> .ix b l.length (.br (Op.bytesLess (l.getD a.toNat []) (l.getD b.toNat []) || l.getD a.toNat []==l.getD b.toNat []) (.ret (.inr false)) (rl ())))) (fun a (c:Unit)=> .ret true) ()
def abD (l:List Str):=(rising l).val
theorem anT (l:List Str):Is (rising l):=
 yM trivial au (fun h=>by simp only[o_]at h;omega) (fun b a _ _ _=>bW au au (l9 fun d c _=>bW au au (aT iR iR))) (fun b a _ _=>aO)
def atu:aY Z:=E0 [] [jS 2 (bJ (fun b=>[s0 3]) (l1 cI))] (a1 (bz bF)) (R1 aG) [] func91 1 rising fun a=>anT a
def lists (s:aH):Pg (List (List Str)):=.cut (fun(e:List (List Str))=> .cut (fun(d:List (List Str))=> aL s.gK (.each false oG s.gK qU (fun h g (a:List (List Str))=> .ix h s.gK.length (.ob ((0:Int)<=2/\(2:Int) < 3) (.ob (dE ((a.getD 2 []).length+1) 16) (.ob ((0:Int)<=2/\(2:Int) < 3) (.ret (.inl [a.getD 0 [],a.getD 1 [],a.getD 2 []++[g.Name]])))))) (fun h (a:List (List Str))=> .ret [a.getD 0 [],a.getD 1 [],a.getD 2 []]) [d.getD 0 [],d.getD 1 [],d.getD 2 []])) (aL s.Enums (.each false oG s.Enums jV (fun f j (c:List (List Str))=> .ix f s.Enums.length (.ob ((0:Int)<=1/\(1:Int) < 3) (.ob (dE ((c.getD 1 []).length+1) 16) (.ob ((0:Int)<=1/\(1:Int) < 3) (.ret (.inl [c.getD 0 [],c.getD 1 []++[j.Name],c.getD 2 []])))))) (fun f (c:List (List Str))=> .ret (.inl [c.getD 0 [],c.getD 1 [],c.getD 2 []])) [e.getD 0 [],e.getD 1 [],e.getD 2 []]))) (aL s.Messages (.each false oG s.Messages f_ (fun i k (b:List (List Str))=> .ix i s.Messages.length (.ob ((0:Int)<=0/\(0:Int) < 3) (.ob (dE ((b.getD 0 []).length+1) 16) (.ob ((0:Int)<=0/\(0:Int) < 3) (.ret (.inl [b.getD 0 []++[k.Name],b.getD 1 [],b.getD 2 []])))))) (fun i (b:List (List Str))=> .ret (.inl [b.getD 0 [],b.getD 1 [],b.getD 2 []])) [[],[],[]]))
def aCd (s:aH):=(lists s).val
theorem amn (s:aH)(h:okS s):jG (lists s) (fun _=>True):=
 have u:s.Messages.length<=150:=h.1;have t:s.Enums.length<=150:=h.2.1;have v:s.gK.length<=150:=h.2.2.1;bQ (fun f=>(f.getD 0 []).length<=150/\(f.getD 1 []).length<=0/\(f.getD 2 []).length<=0) (dw <| bY (fun(j:Nat) b=>(b.getD 0 []).length<=j/\(b.getD 1 []).length<=0/\(b.getD 2 []).length<=0) qbs au (fun j b r o=>have a:(b.getD 0 []).length<=j/\(b.getD 1 []).length<=0/\(b.getD 2 []).length<=0:=o;aU au au (aj (qbb) (aj (qbb) (aj (qbb) (ah qa0))))) (fun b a=>have a:(b.getD 0 []).length<=s.Messages.length/\(b.getD 1 []).length<=0/\(b.getD 2 []).length<=0:=a;ah qa0)) (fun f i=>have i:(f.getD 0 []).length<=150/\(f.getD 1 []).length<=0/\(f.getD 2 []).length<=0:=i;bQ (fun e=>(e.getD 0 []).length<=150/\(e.getD 1 []).length<=150/\(e.getD 2 []).length<=0) (dw <| bY (fun(k:Nat) c=>(c.getD 0 []).length<=150/\(c.getD 1 []).length<=k/\(c.getD 2 []).length<=0) qbs au (fun k c q m=>have a:(c.getD 0 []).length<=150/\(c.getD 1 []).length<=k/\(c.getD 2 []).length<=0:=m;aU au au (aj (qbb) (aj (qbb) (aj (qbb) (ah qa0))))) (fun c a=>have a:(c.getD 0 []).length<=150/\(c.getD 1 []).length<=s.Enums.length/\(c.getD 2 []).length<=0:=a;ah qa0)) (fun e g=>have g:(e.getD 0 []).length<=150/\(e.getD 1 []).length<=150/\(e.getD 2 []).length<=0:=g;dw <| bY (fun(l:Nat) d=>(d.getD 0 []).length<=150/\(d.getD 1 []).length<=150/\(d.getD 2 []).length<=l) qbs au (fun l d p n=>have a:(d.getD 0 []).length<=150/\(d.getD 1 []).length<=150/\(d.getD 2 []).length<=l:=n;aU au au (aj (qbb) (aj (qbb) (aj (qbb) (ah qa0))))) (fun d a=>have a:(d.getD 0 []).length<=150/\(d.getD 1 []).length<=150/\(d.getD 2 []).length<=s.gK.length:=a;ah qa0)))
def axs:aY Z:=E1 [] [jS 3 (bJ (fun b=>[s0 13, .cells (pid (b 3)) [some 9,some 9,some 9]]) (ay cI (l1 (G_ 3 [] bF)))),jS 8 (bJ (fun b=>[s0 28, .cells (pid (b 3)) [some 9,some 9,some 9]]) (ay cI (l1 (G_ 3 [] bF)))),jS 13 (bJ (fun b=>[s0 43, .cells (pid (b 3)) [some 9,some 9,some 9]]) (ay cI (l1 (G_ 3 [] bF)))),jS 100007 (bJ (fun b=>[.cells (pid (b 3)) [some 9,some 9,some 9]]) (l1 (G_ 3 [] bF))),jS 100012 (bJ (fun b=>[.cells (pid (b 3)) [some 9,some 9,some 9]]) (l1 (G_ 3 [] bF)))] (a1 (aI bn)) (shr [.slot 0 true (nn 3)] (l1 (G_ 3 [] bF))) [] func89 1 lists (fun a=>okS a) fun a h=>(amn a h).1
def ap0 (x:Str)(l:List (List Str)):Pg Bool:=.ob ((0:Int)<=0/\(0:Int) < 3) (.ret ((l.getD 0 []).any fun(a:Str)=>x==a))
def ayD (x:Str)(l:List (List Str)):=(ap0 x l).val
def acy:aY Z:=yu [aiM] [] (ak (bz cStr) (ak (iE 0) (a1 (iE 1)))) (gQ (aS (G_ 3 [] bF)) (b1 (adQ .i64 0))) (R1 aG) [0,1] func146 1 fun a=>ap0 a.1.1 a.2.1
def auh:aY Z:=Oc [acy] bF 146 [0,1] (gQ (aS (G_ 3 [] bF)) (b1 (adQ .i64 0))) func205 [] fun x b=>ayD x b.1
def arl:aY Z:=EAB [acy,acQ,QV,agi,auh] bF 146 [0,1] (gQ (aS (G_ 3 [] bF)) (b1 (adQ .i64 0))) func145 fun x b=>ayD x b.1
def ap1 (x:Str)(l:List (List Str)):Pg Bool:=.ob ((0:Int)<=1/\(1:Int) < 3) (.ret ((l.getD 1 []).any fun(a:Str)=>x==a))
def aBY (x:Str)(l:List (List Str)):=(ap1 x l).val
def atw:aY Z:=yu [aiM] [] (ak (bz cStr) (ak (iE 0) (a1 (iE 1)))) (gQ (aS (G_ 3 [] bF)) (b1 (adQ .i64 1))) (R1 aG) [0,1] func146 1 fun a=>ap1 a.1.1 a.2.1
def aCa:aY Z:=Oc [acy,atw] bF 146 [0,1] (gQ (aS (G_ 3 [] bF)) (b1 (adQ .i64 1))) func205 [] fun x b=>aBY x b.1
def apu:aY Z:=EAB [acy,atw,acQ,QV,agi,auh,aCa] bF 146 [0,1] (gQ (aS (G_ 3 [] bF)) (b1 (adQ .i64 1))) func145 fun x b=>aBY x b.1
def apart (l:List (List Str)):Pg Bool:=.lt (dA .i64 (0+1)) fun b=> .ob (0<=b/\b < 3) (.br ((l.getD 1 []).any fun(x:Str)=>ayD x [l.getD 0 [],l.getD 1 [],l.getD 2 []]) (.ret false) (.lt (dA .i64 (b+1)) fun a=> .ob (0<=a/\a < 3) (.br ((l.getD 2 []).any fun(x:Str)=>ayD x [l.getD 0 [],l.getD 1 [],l.getD 2 []]) (.ret false) (.ob (0<=a/\a < 3) (.br ((l.getD 2 []).any fun(x:Str)=>aBY x [l.getD 0 [],l.getD 1 [],l.getD 2 []]) (.ret false) (.ret true))))))
def aCW (l:List (List Str)):=(apart l).val
def awJ:aY Z:=E0 [ae1,ab3,agC,arl,apu,acy,atw] [jS 600002 (bJ (fun _=>List.replicate 4 (.iter 0)) l0),jS 600005 (bJ (fun _=>List.replicate 4 (.iter 0)) l0)] (a1 (aI (G_ 3 [] bF))) (R1 aG) [] func92 1 apart
theorem aDf {s:aH}{m:aX}{a:List (Str×Bool)}{v:List fK}(b:okM m)(h:v=yQ s m a):v.length<=16777216:=by
 subst h;exact(XP s m a b).2
theorem ay8 {e:dP}{v:List fK}(a:okE e)(h:v=aju e):v.length<=16777216:=by
 subst h;exact(U_ e a).2
theorem aGH {s:aH}{x:gU}{v:List fK}(a:aa_ x)(h:v=aBk s x):v.length<=16777216:=by
 subst h;exact(ac_ s x a).2
def auv (s:aH):Pg (List fK):=.ob (okS s) (.lt (aCd s) fun a=> .cut (fun(p:ax)=> .cut (fun(A:ax)=> .ob (s.Messages.length<=1048576/\∀(m:aX),m∈s.Messages->m.Fields.length<=1048576) (.cut (fun(t:ax)=> .cut (fun(y:ax)=> aL s.gK (.each false oG s.gK qU (fun f h (d:ax)=> .ix f s.gK.length (.ob (aa_ h) (.lt (aBk s h) fun n=> .ob (dE (d.out.length+n.length) 32) (rl (ax.mk d.zA d.num (d.out++n)))))) (fun f (d:ax)=> .ret d.out) y)) (aL s.Enums (.each false oG s.Enums jV (fun i o (b:ax)=> .ix i s.Enums.length (.ob (okE o) (.lt (aju o) fun j=> .ob (dE (b.out.length+j.length) 32) (rl (ax.mk b.zA b.num (b.out++j)))))) (fun i (b:ax)=> rl b) t))) (aL s.Messages (.each false oG s.Messages f_ (fun w g (c:ax)=> .ix w s.Messages.length (.ob (okM g) (.lt (yQ s g (uM s)) fun k=> .ob (dE (c.out.length+k.length) 32) (rl (ax.mk c.zA c.num (c.out++k)))))) (fun w (c:ax)=> rl c) A)))) (.ob (p.out.length<=68719476736) (rl (iP (aCW [a.getD 0 [],a.getD 1 [],a.getD 2 []]) 9 p)))) (.cut (fun(r:ax)=> .lt (dA .i64 (0+1)) fun e=> .cut (fun(x:ax)=> .cut (fun(z:ax)=> rl z) (.lt (dA .i64 (e+1)) fun l=> .ob (0<=l/\l < 3) (.cut (fun(v:ax)=> .ob (v.out.length<=68719476736) (rl (iP (abD (a.getD 2 [])) 11 v))) (.ob (x.out.length<=68719476736) (rl (iP (decide ((↑(a.getD 2 []).length:Int)<=64)) 3 x)))))) (.ob (0<=e/\e < 3) (.cut (fun(q:ax)=> .ob (q.out.length<=68719476736) (rl (iP (abD (a.getD 1 [])) 11 q))) (.ob (r.out.length<=68719476736) (rl (iP (decide ((↑(a.getD 1 []).length:Int)<=64)) 3 r)))))) (.ob ((0:Int)<=0/\(0:Int) < 3) (.cut (fun(u:ax)=> .ob (u.out.length<=68719476736) (rl (iP (abD (a.getD 0 [])) 11 u))) (.ob (0<=68719476736) (rl (iP (decide ((↑(a.getD 0 []).length:Int)<=64)) 3 (ax.mk [] (-1) []))))))))
def ai9 (s:aH):=(auv s).val
theorem auQ (s:aH)(h:okS s):jG (auv s) (fun _=>True):=
 have h1:s.Messages.length<=150:=h.1;have Z:s.Enums.length<=150:=h.2.1;have h3:s.gK.length<=150:=h.2.2.1;aj (qad) (aC fun R X=>bQ (fun v=>v.out.length<=6) (bQ (fun x=>x.out.length<=2) (aj (qad) (bQ (fun y=>y.out.length<=1) (aj (qad) (ah qac)) (fun y k=>have k:y.out.length<=1:=k;aj (qad) (ah qac)))) (fun x p=>have p:x.out.length<=2:=p;lU fun T L _=>bQ (fun D=>D.out.length<=4) (aj (qad) (bQ (fun w=>w.out.length<=3) (aj (qad) (ah qac)) (fun w o=>have o:w.out.length<=3:=o;aj (qad) (ah qac)))) (fun D t=>have t:D.out.length<=4:=t;bQ (fun A=>A.out.length<=6) (lU fun S K _=>aj (qad) (bQ (fun z=>z.out.length<=5) (aj (qad) (ah qac)) (fun z l=>have l:z.out.length<=5:=l;aj (qad) (ah qac)))) (fun A n=>have n:A.out.length<=6:=n;ah qac)))) (fun v q=>have q:v.out.length<=6:=q;bQ (fun C=>C.out.length<=7) (aj (qad) (ah qac)) (fun C r=>have r:C.out.length<=7:=r;aj (qad) (bQ (fun f=>f.out.length<=2516582407) (dw <| bY (fun(B:Nat) g=>g.out.length<=7+16777216*B) qaw au (fun B g U I=>have a:g.out.length<=7+16777216*B:=I;aU au au (aj (qad) (aC fun P F=>have M:=aDf (h.2.2.2.1 _ (getD_mem au)) F;aj (qad) (ah qac)))) (fun g a=>have a:g.out.length<=7+16777216*s.Messages.length:=a;ah qac)) (fun f j=>have j:f.out.length<=2516582407:=j;bQ (fun e=>e.out.length<=5033164807) (dw <| bY (fun(d:Nat) b=>b.out.length<=2516582407+16777216*d) qaw au (fun d b Q G=>have a:b.out.length<=2516582407+16777216*d:=G;aU au au (aj (qad) (aC fun N J=>have V:=ay8 (h.2.2.2.2.1 _ (getD_mem au)) J;aj (qad) (ah qac)))) (fun b a=>have a:b.out.length<=2516582407+16777216*s.Enums.length:=a;ah qac)) (fun e u=>have u:e.out.length<=5033164807:=u;dw <| bY (fun(c:Nat) i=>i.out.length<=5033164807+16777216*c) qaw au (fun c i Y E=>have a:i.out.length<=5033164807+16777216*c:=E;aU au au (aj (qad) (aC fun W H=>have O:=aGH (h.2.2.2.2.2 _ (getD_mem au)) H;aj (qad) (ah qac)))) (fun i a=>have a:i.out.length<=5033164807+16777216*s.gK.length:=a;ah qac)))))))
def aCq:aY Z:=E1 [axs,Tj,atu,awJ,al3,axf,asY,aCw] [jS 600004 (bJ (fun _=>List.replicate 4 (.iter 0)) l0),jS 12 (bJ (fun b=>[s0 41, .cells (pid (b 15)) [none,none,some 125]]) (ay cI (l1 aQ))),jS 17 (bJ (fun b=>[s0 61, .cells (pid (b 15)) [none,none,some 125]]) (ay cI (l1 aQ))),jS 22 (bJ (fun b=>[s0 79, .cells (pid (b 15)) [none,none,some 125]]) (ay cI (l1 aQ))),jS 100007 (bJ (fun b=>[.cells (pid (b 15)) [none,none,some 125]]) (l1 aQ)),jS 100008 (bJ (fun b=>[.cells (pid (b 15)) [none,none,some 125]]) (l1 aQ)),jS 100009 (bJ (fun b=>[.cells (pid (b 15)) [none,none,some 125]]) (l1 aQ)),jS 100010 (bJ (fun b=>[.cells (pid (b 15)) [none,none,some 125]]) (l1 aQ)),jS 100016 (bJ (fun b=>[.cells (pid (b 15)) [none,none,some 125]]) (l1 aQ)),jS 100021 (bJ (fun b=>[.cells (pid (b 15)) [none,none,some 125]]) (l1 aQ)),jS 800001 (bJ (fun b=>[.cells (pid (b 3)) [none,none,some 125]]) (l1 aQ))] (a1 (aI bn)) (R1 kz) [] func50 1 auv (fun a=>okS a) fun a h=>(auQ a h).1
def age (s:aH):Pg Bool:=.ob (okS s) (.ret ((↑(ai9 s).length:Int)==0))
def ES (s:aH):=(age s).val
def au_:aY Z:=E1 [aCq] [] (a1 (aI bn)) (R1 aG) [] func23 1 age fun a=>okS a
def ajS (s:aH)(a:Str):Pg Int:=.each true um s.Messages f_ (fun b d (c:Unit)=> .ix b s.Messages.length (.br (d.Name==a) (.ret (.inr b)) (rl ()))) (fun b (c:Unit)=> .ret (-1)) ()
theorem ag_ (s:aH)(a:Str):Is (ajS s a):=
 fU (.inl rfl) (fun c b _ _=>bW au au (aT iR iR)) (fun b _=>aO)
def Lu:aY Z:=E2 [] [jS 2 (bJ (fun c=>[s0 5]) (l1 cI))] (ak (aI bn) (a1 (bz cStr))) (R1 cI) [] func49 1 (u2 ajS) (fun a=>none) (fun a=>iI (fun(m:aX)=>m.Name==a.2) a.1.Messages) fun a h=>⟨ag_ a.1 a.2,(fun(s:aH) (b:Str)=>m_ (fun(m:aX)=>m.Name==b) s.Messages 0) a.1 a.2⟩
def aiW (s:aH)(a:Str):Pg Int:=.each true um s.Enums jV (fun b d (c:Unit)=> .ix b s.Enums.length (.br (d.Name==a) (.ret (.inr b)) (rl ()))) (fun b (c:Unit)=> .ret (-1)) ()
theorem agn (s:aH)(a:Str):Is (aiW s a):=
 fU (.inl rfl) (fun c b _ _=>bW au au (aT iR iR)) (fun b _=>aO)
def YF:aY Z:=E2 [] [jS 2 (bJ (fun c=>[s0 5]) (l1 cI))] (ak (aI bn) (a1 (bz cStr))) (R1 cI) [] func83 1 (u2 aiW) (fun a=>none) (fun a=>iI (fun(m:dP)=>m.Name==a.2) a.1.Enums) fun a h=>⟨agn a.1 a.2,(fun(s:aH) (b:Str)=>m_ (fun(m:dP)=>m.Name==b) s.Enums 0) a.1 a.2⟩
def Ui (s:aH)(m:aX)(a:List Bool):Pg Bool:=.each true um m.Fields aJ (fun d c (e:Unit)=> .ix d m.Fields.length (.br (c.Card !=1) (rl ()) (.br (c.dS.Kind !=10) (rl ()) (.lt (iI (fun(m:aX)=>m.Name==c.dS.Name) s.Messages) fun b=> .br (decide (0<=b)) (.ix b a.length (.br (!a.getD b.toNat false) (.ret (.inr true)) (rl ()))) (rl ()))))) (fun d (e:Unit)=> .ret false) ()
def Xm (s:aH)(m:aX)(a:List Bool):=(Ui s m a).val
theorem aeN (s:aH)(m:aX)(a:List Bool)(h:s.Messages.length<=a.length):Is (Ui s m a):=
 fU (.inl rfl) (fun d c _ _=>bW au au (eX iR (fun _=>eX iR (fun _=>dC fun f e=>cZ (fun _=>bW au (by have:=(oM (fun(b:aX)=>b.Name==(m.Fields.getD d aJ).dS.Name) s.Messages).1;omega) (aT iR iR)) iR)))) (fun c _=>aO)
def Q8:aY Z:=E1 [Lu] [jS 2 (bJ (fun b=>[s0 7]) (l1 cI))] (ak (aI bn) (ak (aI fF) (a1 (bz qm)))) (R1 aG) [] func38 1 (u3 Ui) (fun a=>a.1.Messages.length<=a.2.2.length) fun a h=>aeN a.1 a.2.1 a.2.2 h
def afQ (s:aH):Pg (List Bool):=.ob ((↑s.Messages.length:Int)=(↑s.Messages.length:Int)/\ 0<=(↑s.Messages.length:Int)/\(↑s.Messages.length:Int)*(1:Int)<=281474976710656/\(↑s.Messages.length:Int)<=1099511627776) (aL s.Messages (.cnt oG 0 (↑s.Messages.length:Int) (fun e (c:Bool×List Bool)=> aL s.Messages (.br c.1 (.each true oG s.Messages f_ (fun b d (a:Bool×List Bool)=> .ix b a.2.length (.ob (b.toNat < a.2.length) (.br (!a.2.getD b.toNat false) (.ix b s.Messages.length (.ob (s.Messages.length<=a.2.length) (.br (!Xm s d a.2) (.ix b a.2.length (.ob (b.toNat < a.2.length) (rl (true,a.2.set b.toNat true)))) (rl a)))) (rl a)))) (fun b (a:Bool×List Bool)=> rl a) (false,c.2)) (.ret (.inr c.2)))) (fun e (c:Bool×List Bool)=> aL s.Messages (.ret c.2)) (true,List.replicate s.Messages.length false)))
def akL (s:aH):=(afQ s).val
theorem Uz (s:aH)(h:s.Messages.length<=1048576):jG (afQ s) (fun r=>r.length=s.Messages.length):=
 aj (au) (dw <| rM (fun(e:Int) b=>b.2.length=s.Messages.length) oI au au (fun e b l k f=>have a:b.2.length=s.Messages.length:=f;dw <| dX (fun _=>bY (fun(g:Nat) c=>c.2.length=s.Messages.length) au au (fun g c j d=>have a:c.2.length=s.Messages.length:=d;aU au au (aj (au) (dX (fun _=>aU au au (aj (au) (dX (fun _=>aU au au (aj (au) (ah qa6))) (fun _=>ah qa6)))) (fun _=>ah qa6)))) (fun c a=>have a:c.2.length=s.Messages.length:=a;ah qa6)) (fun _=>ah qa6)) (fun e b _ i a=>have a:b.2.length=s.Messages.length:=a;dw <| ah qa6))
def au8:aY Z:=E1 [Q8] [jS 4 (bJ (fun b=>[s0 5, s0 4, .row (pid (b 3)) 4]) (ay cI (ay aG (l1 qm)))),jS 8 (bJ (fun b=>[s0 6, s0 4, .row (pid (b 3)) 4]) (ay cI (ay aG (l1 qm))))] (a1 (aI bn)) (R1 qm) [] func19 1 afQ (fun a=>a.Messages.length<=1048576) fun a h=>(Uz a h).1
def agX (l:List mG)(n:Int):Pg Bool:=.each true um l uO (fun a b (c:Unit)=> .ix a l.length (.br (decide (b.From<=n)) (.ix a l.length (.br (decide (n<=b.To)) (.ret (.inr true)) (rl ()))) (rl ()))) (fun a (c:Unit)=> .ret false) ()
def ajV (l:List mG)(n:Int):=(agX l n).val
theorem al4 (l:List mG)(n:Int):Is (agX l n):=
 fU (.inl rfl) (fun b a _ _=>bW au au (cZ (fun _=>bW au au (cZ iR iR)) iR)) (fun a _=>aO)
def ad8:aY Z:=E0 [] [jS 2 (bJ (fun b=>[s0 5]) (l1 cI))] (ak (bz ou) (a1 (bz cI))) (R1 aG) [] func41 1 (u2 agX) fun a=>al4 a.1 a.2
def Z8 (bad:Bool)(a:Int)(e:Int)(p:aF):Pg aF:=.br bad (.ob (dE (p.l.length+1) 32) (.ret (aF.mk p.zA (p.l++[fK.mk p.zA a e])))) (.ret p)
def bU (bad:Bool)(a:Int)(e:Int)(p:aF):=(Z8 bad a e p).val
theorem an6 (bad:Bool)(a:Int)(e:Int)(p:aF)(h:p.l.length<=68719476736):Is (Z8 bad a e p):=
 aT (fun _=>aW ((dI au au)) (aO)) iR
def Ap:aY Z:=uF Z [] [] (jF (ak (iE 0) (ak (bz aG) (ak (bz cI) (a1 (bz cI))))) (WW 1 [none,some 125] bC)) (uI (jC (xP 0) (jC (oJ I7) (jC (oJ (nO _)) (N_ (oJ (nO _)))))) (AP (k:=1) uj (fun _=>rfl)) rfl) (shr [.cells 0 [none,some 125]] (l1 bC)) [] func16 ntmps16 eF 0 rfl (fun a=>Z8 (a.1.2.1) (a.1.2.2.1) (a.1.2.2.2) (a.2)) (fun a=>some ((a.2).l.length<=68719476736)) (fun a e _=>by kernel_rfl) (fun a=>bU (a.1.2.1) (a.1.2.2.1) (a.1.2.2.2) (a.2)) (fun a h=>⟨an6 (a.1.2.1) (a.1.2.2.1) (a.1.2.2.2) (a.2) h,rfl⟩)
theorem oV {bad:Bool}{a e:Int}{p v:aF}(h:v=bU bad a e p):v.l.length<=p.l.length+1:=by
 subst h;unfold bU Z8;cases bad
 ·exact Nat.le_succ _
 ·simp[Pg.val]
theorem aAy {bad a:Bool}{d e b c:Int}{p v:aF}(h:v=bU bad d e (bU a b c p)):v.l.length<=p.l.length+2:=by
 have g:=oV h;have f:=oV (rfl:bU a b c p=_);omega
theorem aes (bad:Bool)(a e:Int)(p:aF):(bU bad a e p).l.length<=p.l.length+1:=oV rfl
def Tc (l:List Note)(a:Int)(c:Int)(p:aF):Pg aF:=.ob (p.l.length<=68719476736) (.lt (apl l a) fun b=> .ret (bU (b !=0) c b p))
def mr (l:List Note)(a:Int)(b:Int)(p:aF):=(Tc l a b p).val
theorem aeF (l:List Note)(a:Int)(b:Int)(p:aF)(h:p.l.length<=68719476736):Is (Tc l a b p):=
 aW qas (dC fun d c=>aO)
def GV:aY Z:=uF Z [Ap,am2] [] (jF (ak (iE 0) (ak (bz kQ) (ak (bz cI) (a1 (bz cI))))) (WW 1 [none,some 125] bC)) (uI (jC (xP 0) (jC (oJ O7) (jC (oJ (nO _)) (N_ (oJ (nO _)))))) (AP (k:=1) uj (fun _=>rfl)) rfl) (shr [.cells 0 [none,some 125]] (l1 bC)) [] func46 ntmps46 eF 0 rfl (fun a=>Tc (a.1.2.1) (a.1.2.2.1) (a.1.2.2.2) (a.2)) (fun a=>some ((a.2).l.length<=68719476736)) (fun a e _=>by kernel_rfl) (fun a=>mr (a.1.2.1) (a.1.2.2.1) (a.1.2.2.2) (a.2)) (fun a h=>⟨aeF (a.1.2.1) (a.1.2.2.1) (a.1.2.2.2) (a.2) h,rfl⟩)
theorem atZ {l:List Note}{a b:Int}{p v:aF}(h:v=mr l a b p):v.l.length<=p.l.length+1:=by
 subst h;exact aes _ _ _ _
theorem axL (l:List Note)(a b:Int)(p:aF):(mr l a b p).l.length<=p.l.length+1:=atZ rfl
def Uc (l:List mG)(e:Int)(h:Int)(p:aF):Pg aF:=.each true oG l uO (fun a c (b:aF)=> .ix a l.length (.lt (bU (decide (c.From<=(l.getD (dA .i64 (a - 1)).toNat uO).To)) (-1) 11 (bU true (-1) 6 b)) fun j=> .lt (bU false (-1) 11 (bU true (-1) 6 b)) fun i=> .lt (bU true (-1) 6 b) fun f=> .lt (dA .i64 (a - 1)) fun d=> .br (decide (c.From < e)) (.ob (b.l.length<=68719476736) (.br (decide (0 < a)) (.ix a l.length (.ix d l.length (.ob (f.l.length<=68719476736) (rl j)))) (.ob (f.l.length<=68719476736) (rl i)))) (.ix a l.length (.br (decide (h < c.To)) (.ob (b.l.length<=68719476736) (.br (decide (0 < a)) (.ix a l.length (.ix d l.length (.ob (f.l.length<=68719476736) (rl j)))) (.ob (f.l.length<=68719476736) (rl i)))) (.ix a l.length (.ix a l.length (.ob (b.l.length<=68719476736) (.lt (bU (decide (c.To < c.From)) (-1) 6 b) fun g=> .br (decide (0 < a)) (.ix a l.length (.ix d l.length (.ob (g.l.length<=68719476736) (rl (bU (decide (c.From<=(l.getD d.toNat uO).To)) (-1) 11 g))))) (.ob (g.l.length<=68719476736) (rl (bU false (-1) 11 g))))))))))) (fun a (b:aF)=> .ret b) p
def Ff (l:List mG)(a:Int)(b:Int)(p:aF):=(Uc l a b p).val
theorem J6 (l:List mG)(b:Int)(e:Int)(p:aF)(h:p.l.length+2*l.length<=68719476736):jG (Uc l b e p) (fun r=>r.l.length<=p.l.length+2*l.length):=
 bY (fun(d:Nat) a=>a.l.length<=p.l.length+2*d) au au (fun d a v j=>have c:a.l.length<=p.l.length+2*d:=j;aU au au (aC fun t g=>have n:=aAy g;aC fun y i=>have m:=aAy i;aC fun x f=>have s:=oV f;lU fun w o _=>bK (fun _=>aj (au) (bK (fun _=>aU au au (aU au au (aj (au) (ah xN)))) (fun _=>aj (au) (ah xN)))) (fun _=>aU au au (bK (fun _=>aj (au) (bK (fun _=>aU au au (aU au au (aj (au) (ah xN)))) (fun _=>aj (au) (ah xN)))) (fun _=>aU au au (aU au au (aj (au) (aC fun u k=>have q:=oV k;bK (fun _=>aU au au (aU au au (aj (au) (ah xN)))) (fun _=>aj (au) (ah xN)))))))))) (fun a c=>have c:a.l.length<=p.l.length+2*l.length:=c;ah xN)
def Un:aY Z:=uF Z [Ap] [jS 1 (bJ (fun b=>[s0 8, .cells (pid (b 0)) [none,some 125]]) (ay cI (l1 bC)))] (jF (ak (iE 0) (ak (bz ou) (ak (bz cI) (a1 (bz cI))))) (WW 1 [none,some 125] bC)) (uI (jC (xP 0) (jC (oJ O8) (jC (oJ (nO _)) (N_ (oJ (nO _)))))) (AP (k:=1) uj (fun _=>rfl)) rfl) (shr [.cells 0 [none,some 125]] (l1 bC)) [] func47 ntmps47 eF 0 rfl (fun a=>Uc (a.1.2.1) (a.1.2.2.1) (a.1.2.2.2) (a.2)) (fun a=>some ((a.2).l.length+2*(a.1.2.1).length<=68719476736)) (fun a e _=>by kernel_rfl) (fun a=>Ff (a.1.2.1) (a.1.2.2.1) (a.1.2.2.2) (a.2)) (fun a h=>⟨(J6 (a.1.2.1) (a.1.2.2.1) (a.1.2.2.2) (a.2) h).1,rfl⟩)
def ZB (f:aP):Pg Bool:=.br (f.Card !=5) (.br (decide (1<=f.Card)) (.br (decide (f.Card<=4)) (.ret (f.Key==0)) (.ret false)) (.ret false)) (.br (f.Key==1) (.br (f.Key==1) (.ret true) (.ret false)) (.br (f.Key==2) (.br (f.Key==2) (.ret true) (.ret false)) (.br (f.Key==3) (.br (f.Key==3) (.ret true) (.ret false)) (.br (f.Key==4) (.br (f.Key==4) (.ret true) (.ret false)) (.br (f.Key==5) (.br (f.Key==5) (.ret true) (.ret false)) (.br (f.Key==7) (.ret true) (.ret false)))))))
def asB (f:aP):=(ZB f).val
theorem ahp (f:aP):Is (ZB f):=
 eX (fun _=>cZ (fun _=>cZ iR iR) iR) (fun _=>dM (fun _=>dM iR iR) (fun _=>dM (fun _=>dM iR iR) (fun _=>dM (fun _=>dM iR iR) (fun _=>dM (fun _=>dM iR iR) (fun _=>dM (fun _=>dM iR iR) (fun _=>dM iR iR))))))
def an_:aY Z:=E0 [] [] (a1 (aI dY)) (R1 aG) [] func42 1 ZB fun a=>ahp a
def ahP (s:aH)(f:aP):Pg Bool:=.br (f.dS.Kind==9) (.lt (iI (fun(m:dP)=>m.Name==f.dS.Name) s.Enums) fun b=> .ret (decide (0<=b))) (.br (f.dS.Kind==10) (.lt (iI (fun(m:aX)=>m.Name==f.dS.Name) s.Messages) fun a=> .br (decide (0<=a)) (.ret (f.Card !=3)) (.ret false)) (.br (decide (1<=f.dS.Kind)) (.br (decide (f.dS.Kind<=8)) (.ret (f.dS.Name==[])) (.ret false)) (.ret false)))
def awN (s:aH)(f:aP):=(ahP s f).val
theorem an2 (s:aH)(f:aP):Is (ahP s f):=
 dM (fun _=>dC fun c b=>aO) (fun _=>dM (fun _=>dC fun d a=>cZ iR iR) (fun _=>cZ (fun _=>cZ iR iR) iR))
def atP:aY Z:=E0 [Lu,YF] [] (ak (aI bn) (a1 (aI dY))) (R1 aG) [] func43 1 (u2 ahP) fun a=>an2 a.1 a.2
def TG (m:aX)(a:Int):Pg Bool:=.ix a m.Fields.length (.br ((m.Fields.getD a.toNat aJ).Union==[]) (.ret true) (.br ((m.Fields.getD a.toNat aJ).Card !=2) (.ret false) (.br (!QL (m.Fields.getD a.toNat aJ).Union) (.ret false) (.each true oG m.Fields aJ (fun c e (b:Bool)=> .ix c m.Fields.length (.br (e.Name==(m.Fields.getD a.toNat aJ).Union) (.ret (.inr false)) (.br (decide (c < a)) (.ix c m.Fields.length (.br (e.Union==(m.Fields.getD a.toNat aJ).Union) (rl true) (rl b))) (rl b)))) (fun c (b:Bool)=> .br (!b) (.ret true) (.lt (dA .i64 (a - 1)) fun d=> .ix d m.Fields.length (.ret ((m.Fields.getD d.toNat aJ).Union==(m.Fields.getD a.toNat aJ).Union)))) false))))
def anv (m:aX)(a:Int):=(TG m a).val
theorem acl (m:aX)(a:Int)(h:0<=a/\a < m.Fields.length):Is (TG m a):=
 by
 refine bW au au (aT iR (fun _=>eX iR (fun _=>aT iR (fun _=>DR (fun _ y=>y=true->0 < a) (fun h=>by cases h) (.inl rfl) (fun l f _ _ b=>⟨bW au au (aT iR (fun _=>cZ (fun _=>bW au au (aT iR iR)) iR)),fun k c=> ?_⟩) (fun f _ b=>aT iR (fun d=> ?_))))))
 ·revert c;simp only[lG,cO,bu,Qbu,WL];(repeat' split)<;>intro e<;>cases e<;>first | exact b | (intro _;omega)
 ·have:=b (by simpa using d);exact l9 fun i g j=>bW au au aO
def ahm:aY Z:=E1 [KA] [jS 8 (bJ (fun b=>[s0 7, s0 6]) (ay cI (l1 aG)))] (ak (aI fF) (a1 (bz cI))) (R1 aG) [] func44 1 (u2 TG) (fun a=>0<=a.2/\a.2 < a.1.Fields.length) fun a h=>acl a.1 a.2 h
def Sr (s:aH)(f:aP):Pg Bool:=.br (!f.dK) (.ret (aj7 f.Default.re (af.mk 0 0 [] [] [] [] []))) (.br (f.Card !=2) (.ret false) (.br (f.Union !=[]) (.ret false) (.br (!ai6 f.dS.Kind f.Default.re) (.ret false) (.br (!aj7 f.Default.re (axH f.Default.re).re) (.ret false) (.br (f.dS.Kind !=9) (.ret true) (.lt (iI (fun(m:dP)=>m.Name==f.dS.Name) s.Enums) fun a=> .br (decide (a < 0)) (.ret false) (.Y0 [0<=a/\a < (↑s.Enums.length:Int)] true um (s.Enums.getD a.toNat jV).Items kW (fun b e (d:Unit)=> .ix a s.Enums.length (.ix b (s.Enums.getD a.toNat jV).Items.length (.lt (dA .u64 e.Num) fun c=> .br (c==f.Default.Bits) (.ret (.inr true)) (rl ())))) (fun b (d:Unit)=> .ret false) ())))))))
def ami (s:aH)(f:aP):=(Sr s f).val
theorem aeJ (s:aH)(f:aP):Is (Sr s f):=
 aT iR (fun _=>eX iR (fun _=>aT iR (fun _=>aT iR (fun _=>aT iR (fun _=>eX iR (fun _=>dC fun g b=>cZ iR (fun _=>by
 have e:=(oM (fun(m:dP)=>m.Name==f.dS.Name) s.Enums).1;exact auu ⟨by omega,trivial⟩ (.inl rfl) (fun h a _ _=>bW au au (bW au au (dC fun d c=>dM iR iR))) (fun a _=>aO))))))))
def agW:aY Z:=E0 [YF,asC,adK,apj] [jS 12 (bJ (fun b=>[s0 7]) (l1 cI))] (ak (aI bn) (a1 (aI dY))) (R1 aG) [] func45 1 (u2 Sr) fun a=>aeJ a.1 a.2
def agq (l:List Str):Pg Bool:=.Hz [] (some (l.length<=9223372036854775807)) um 1 (↑l.length:Int) (fun a (c:Unit)=> .ix a l.length (.lt (dA .i64 (a - 1)) fun b=> .ix b l.length (.br (Op.bytesLess (l.getD a.toNat []) (l.getD b.toNat []) || l.getD a.toNat []==l.getD b.toNat []) (.ret (.inr false)) (rl ())))) (fun a (c:Unit)=> .ret true) ()
def akI (l:List Str):=(agq l).val
theorem am6 (l:List Str):Is (agq l):=
 yM trivial au (fun h=>by simp only[o_]at h;omega) (fun b a _ _ _=>bW au au (l9 fun d c _=>bW au au (aT iR iR))) (fun b a _ _=>aO)
def aov:aY Z:=E0 [] [jS 2 (bJ (fun b=>[s0 3]) (l1 cI))] (a1 (bz bF)) (R1 aG) [] func17 1 agq fun a=>am6 a
def abK (a:List Str)(b:List Str):Pg Bool:=.each true um a [] (fun c e (d:Unit)=> .ix c a.length (.br (ao9 b e) (.ret (.inr true)) (rl ()))) (fun c (d:Unit)=> .ret false) ()
def UK (a:List Str)(b:List Str):=(abK a b).val
theorem ahc (a:List Str)(b:List Str):Is (abK a b):=
 fU (.inl rfl) (fun d c _ _=>bW au au (aT iR iR)) (fun c _=>aO)
def anM:aY Z:=E0 [ajH] [jS 2 (bJ (fun b=>[s0 5]) (l1 cI))] (ak (bz bF) (a1 (bz bF))) (R1 aG) [] func18 1 (u2 abK) fun a=>ahc a.1 a.2
def UJ (s:aH)(b:Int):Pg (List Str):=.cut (fun(e:List Str)=> .cut (fun(f:List Str)=> .wh (s.gK.length+1) default (fun(a:Int×List Str)=> .br (b==3) (aL s.gK (.br (decide (a.1 < (↑s.gK.length:Int))) (.ix a.1 s.gK.length (.ob (dE (a.2.length+1) 16) (rl (dA .i64 (a.1+1),a.2++[(s.gK.getD a.1.toNat qU).Name])))) (.ret (.inr a.2)))) (.ret (.inr a.2))) (0,f)) (.wh (s.Enums.length+1) default (fun(c:Int×List Str)=> .br (b==2) (aL s.Enums (.br (decide (c.1 < (↑s.Enums.length:Int))) (.ix c.1 s.Enums.length (.ob (dE (c.2.length+1) 16) (rl (dA .i64 (c.1+1),c.2++[(s.Enums.getD c.1.toNat jV).Name])))) (.ret (.inr (.inl c.2))))) (.ret (.inr (.inl c.2)))) (0,e))) (.wh (s.Messages.length+1) default (fun(d:Int×List Str)=> .br (b==1) (aL s.Messages (.br (decide (d.1 < (↑s.Messages.length:Int))) (.ix d.1 s.Messages.length (.ob (dE (d.2.length+1) 16) (rl (dA .i64 (d.1+1),d.2++[(s.Messages.getD d.1.toNat f_).Name])))) (.ret (.inr (.inl d.2))))) (.ret (.inr (.inl d.2)))) (0,[]))
def vW (s:aH)(a:Int):=(UJ s a).val
theorem ac1 (s:aH)(a:Int)(h:okS s):Is (UJ s a):=
 by
 obtain⟨j,i,g,_⟩:=h;have w:∀x:Int,0<=x->x < 1000->dA .i64 (x+1)=x+1:=fun x _ _=>eQ (k:= .i64) ve
 refine jG.is (Q:=fun _=>True) (bQ (fun d=>d.length<=150) ?_ (fun d c=>bQ (fun e=>e.length<=300) ?_ (fun e b=> ?_)))
 ·refine oU (fun x=>0<=x.1/\x.1<=s.Messages.length/\x.2.length<=x.1.toNat) (fun x=>s.Messages.length - x.1.toNat) ⟨H8 _,by dsimp only;omega,oC _⟩ (by dsimp only;omega) (fun x f=>dZ (fun _=>dw <| bK (fun _=>aU au au (aj (dI au au) (ah ?_))) (fun _=>ah ?_)) (fun _=>ah ?_))
  ·simp only[Sum.elim_inl,qO,Qbx];rw[w _ au au];omega
  ·show x.2.length<=150;omega
  ·show x.2.length<=150;omega
 ·have c:d.length<=150:=c;refine oU (fun x=>0<=x.1/\x.1<=s.Enums.length/\x.2.length<=150+x.1.toNat) (fun x=>s.Enums.length - x.1.toNat) ⟨H8 _,by dsimp only;omega,by dsimp only;omega⟩ (by dsimp only;omega) (fun x f=>dZ (fun _=>dw <| bK (fun _=>aU au au (aj (dI au au) (ah ?_))) (fun _=>ah ?_)) (fun _=>ah ?_))
  ·simp only[Sum.elim_inl,qO,Qbx];rw[w _ au au];omega
  ·show x.2.length<=300;omega
  ·show x.2.length<=300;omega
 ·have b:e.length<=300:=b;refine oU (fun x=>0<=x.1/\x.1<=s.gK.length/\x.2.length<=300+x.1.toNat) (fun x=>s.gK.length - x.1.toNat) ⟨H8 _,by dsimp only;omega,by dsimp only;omega⟩ (by dsimp only;omega) (fun x f=>dZ (fun _=>dw <| bK (fun _=>aU au au (aj (dI au au) (ah ?_))) (fun _=>ah trivial)) (fun _=>ah trivial))
  ·simp only[Sum.elim_inl,qO,Qbx];rw[w _ au au];omega
def ahy:aY Z:=E1 [] [jS 3 (bJ (fun b=>[s0 6, .slot 5 false [some 9]]) (ay cI (l1 bF))),jS 7 (bJ (fun b=>[s0 7, .slot 5 false [some 9]]) (ay cI (l1 bF))),jS 11 (bJ (fun b=>[s0 8, .slot 5 false [some 9]]) (ay cI (l1 bF))),jS 100006 (bJ (fun b=>[.slot 5 false [some 9]]) (l1 bF)),jS 100010 (bJ (fun b=>[.slot 5 false [some 9]]) (l1 bF))] (ak (aI bn) (a1 (bz cI))) (R1 bF) [] func15 1 (u2 UJ) (fun a=>okS a.1) fun a h=>ac1 a.1 a.2 h
theorem ao_ {l:List mG}{a b:Int}{p v:aF}(c:p.l.length+2*l.length<=68719476736)(h:v=Ff l a b p):v.l.length<=p.l.length+2*l.length:=by
 subst h;exact(J6 l a b p c).2
def afr (s:aH)(v:gU):Pg (List fK):=.ob (List.length v.Name<=9223372036854775807) (.ob (0<=68719476736) (.lt (bU (!MO v.Name) (-1) 8 (aF.mk v.Name [])) fun h=> .ob (h.l.length<=68719476736) (.each true oG v.Methods oD (fun a b (d:aF)=> .ix a v.Methods.length (.ob (d.l.length<=68719476736) (.cut (fun(f:aF)=> .cut (fun(g:aF)=> .cut (fun(i:aF)=> .ob (i.l.length<=68719476736) (rl (mr b.Notes 6 a i))) (.br (decide (b.Shape < 1)) (.ob (g.l.length<=68719476736) (rl (bU true a 1 g))) (.ob (g.l.length<=68719476736) (rl (bU (decide (4 < b.Shape)) a 1 g))))) (.lt (iI (fun(m:aX)=>m.Name==b.In) s.Messages) fun k=> .br (decide (k < 0)) (.ob (f.l.length<=68719476736) (rl (bU true a 12 f))) (.ob (f.l.length<=68719476736) (.lt (iI (fun(m:aX)=>m.Name==b.Out) s.Messages) fun j=> rl (bU (decide (j < 0)) a 12 f))))) (.lt (bU (!QL b.Name) a 8 d) fun c=> .br (decide (0 < a)) (.lt (dA .i64 (a - 1)) fun e=> .ix e v.Methods.length (.ob (c.l.length<=68719476736) (rl (bU (Op.bytesLess b.Name (v.Methods.getD e.toNat oD).Name || b.Name==(v.Methods.getD e.toNat oD).Name) a 11 c)))) (.ob (c.l.length<=68719476736) (rl (bU false a 11 c))))))) (fun a (d:aF)=> .ob (d.l.length<=68719476736) (.ret (mr v.Notes 5 (-1) d).l)) (bU (decide (64 < (↑v.Methods.length:Int))) (-1) 3 h))))
def aw2 (s:aH)(v:gU):=(afr s v).val
theorem Tt (s:aH)(v:gU)(h:aa_ v):jG (afr s v) (fun r=>r.length<=16777216):=
 have C:v.Methods.length<=1048576:=h.1;have A:v.Name.length<=1048576:=h.2;aj (yS) (aj (yS) (aC fun y k=>have o:=oV k;aj (yS) (bY (fun(a:Nat) b=>b.l.length<=2+5*a) qa3 au (fun a b x l=>have f:b.l.length<=2+5*a:=l;aU au au (aj (yS) (bQ (fun g=>g.l.length<=2+5*a+2) (aC fun t m=>have n:=oV m;bK (fun _=>lU fun p w _=>aU au au (aj (yS) (ah xN))) (fun _=>aj (yS) (ah xN))) (fun g d=>have d:g.l.length<=2+5*a+2:=d;bQ (fun j=>j.l.length<=2+5*a+3) (aC fun u B=>bK (fun _=>aj (yS) (ah xN)) (fun _=>aj (yS) (aC fun z q=>ah xN))) (fun j e=>have e:j.l.length<=2+5*a+3:=e;bQ (fun i=>i.l.length<=2+5*a+4) (bK (fun _=>aj (yS) (ah xN)) (fun _=>aj (yS) (ah xN))) (fun i c=>have c:i.l.length<=2+5*a+4:=c;aj (yS) (ah xN))))))) (fun b f=>have f:b.l.length<=2+5*v.Methods.length:=f;aj (yS) (ah xN)))))
def aqe:aY Z:=E1 [Ap,GY,KA,GV,Lu] [jS 5 (bJ (fun b=>[s0 6, .cells (pid (b 5)) [none,some 125]]) (ay cI (l1 bC))),jS 100010 (bJ (fun b=>[.cells (pid (b 5)) [none,some 125]]) (l1 bC)),jS 100011 (bJ (fun b=>[.cells (pid (b 5)) [none,some 125]]) (l1 bC)),jS 100012 (bJ (fun b=>[.cells (pid (b 5)) [none,some 125]]) (l1 bC)),jS 800001 (bJ (fun b=>[.cells (pid (b 5)) [none,some 125]]) (l1 bC))] (ak (aI bn) (a1 (aI pI))) (R1 kz) [] func22 1 (u2 afr) (fun a=>aa_ a.2) fun a h=>(Tt a.1 a.2 h).1
def aaH (e:dP):Pg (List fK):=.cut (fun(j:aF)=> .cut (fun(k:aF)=> .cut (fun(F:aF)=> .each true oG e.Items kW (fun i a (b:aF)=> .ix i e.Items.length (.cnt oG 0 i (fun E (h:Bool)=> .ix E e.Items.length (.br ((e.Items.getD E.toNat kW).Name==a.Name) (rl true) (rl h))) (fun E (h:Bool)=> .lt (dA .i64 (i - 1)) fun l=> .lt (ajV e.Reserved a.Num) fun g=> .lt (QL a.Name) fun c=> .br (decide (a.Num < 0)) (.ob (b.l.length<=68719476736) (.lt (bU true a.Num 6 b) fun d=> .br (decide (0 < i)) (.ix l e.Items.length (.ob (d.l.length<=68719476736) (.lt (bU (decide (a.Num<=(e.Items.getD l.toNat kW).Num)) a.Num 11 d) fun p=> .ob (p.l.length<=68719476736) (.lt (bU (!c) a.Num 8 p) fun A=> .ob (A.l.length<=68719476736) (.lt (bU h a.Num 9 A) fun B=> .ob (B.l.length<=68719476736) (.lt (bU g a.Num 21 B) fun m=> .ob (m.l.length<=68719476736) (rl (mr a.Notes 4 a.Num m)))))))) (.ob (d.l.length<=68719476736) (.lt (bU false a.Num 11 d) fun z=> .ob (z.l.length<=68719476736) (.lt (bU (!c) a.Num 8 z) fun C=> .ob (C.l.length<=68719476736) (.lt (bU h a.Num 9 C) fun s=> .ob (s.l.length<=68719476736) (.lt (bU g a.Num 21 s) fun t=> .ob (t.l.length<=68719476736) (rl (mr a.Notes 4 a.Num t))))))))) (.ob (b.l.length<=68719476736) (.lt (bU (decide (2147483647 < a.Num)) a.Num 6 b) fun f=> .br (decide (0 < i)) (.ix l e.Items.length (.ob (f.l.length<=68719476736) (.lt (bU (decide (a.Num<=(e.Items.getD l.toNat kW).Num)) a.Num 11 f) fun q=> .ob (q.l.length<=68719476736) (.lt (bU (!c) a.Num 8 q) fun r=> .ob (r.l.length<=68719476736) (.lt (bU h a.Num 9 r) fun x=> .ob (x.l.length<=68719476736) (.lt (bU g a.Num 21 x) fun u=> .ob (u.l.length<=68719476736) (rl (mr a.Notes 4 a.Num u)))))))) (.ob (f.l.length<=68719476736) (.lt (bU false a.Num 11 f) fun y=> .ob (y.l.length<=68719476736) (.lt (bU (!c) a.Num 8 y) fun D=> .ob (D.l.length<=68719476736) (.lt (bU h a.Num 9 D) fun n=> .ob (n.l.length<=68719476736) (.lt (bU g a.Num 21 n) fun o=> .ob (o.l.length<=68719476736) (rl (mr a.Notes 4 a.Num o)))))))))) false)) (fun i (b:aF)=> .ob (b.l.length+2*e.Reserved.length<=68719476736) (.lt (Ff e.Reserved 0 2147483647 b) fun v=> .ob (v.l.length<=68719476736) (.ret (mr e.Notes 3 (-1) v).l))) F) (.br (decide (0 < (↑e.Items.length:Int))) (.ix 0 e.Items.length (.ob (k.l.length<=68719476736) (rl (bU ((e.Items.getD 0 kW).Num !=0) (-1) 14 k)))) (.ob (k.l.length<=68719476736) (rl (bU false (-1) 14 k))))) (.lt (bU true (-1) 3 j) fun w=> .br (decide ((↑e.Items.length:Int) < 1)) (.ob (j.l.length<=68719476736) (rl w)) (.br (decide (64 < (↑e.Items.length:Int))) (.ob (j.l.length<=68719476736) (rl w)) (.ob (j.l.length<=68719476736) (rl (bU (decide (16 < (↑e.Reserved.length:Int))) (-1) 3 j)))))) (.ob (List.length e.Name<=9223372036854775807) (.ob (0<=68719476736) (rl (bU (!MO e.Name) (-1) 8 (aF.mk e.Name [])))))
def auZ (e:dP):=(aaH e).val
theorem Om (e:dP)(h:okE e):jG (aaH e) (fun r=>r.length<=16777216):=
 have h1:e.Items.length<=1048576:=h.1;have h2:e.Reserved.length<=1048576:=h.2.1;have h3:e.Name.length<=1048576:=h.2.2;bQ (fun i=>i.l.length<=1) (aj (yS) (aj (yS) (ah xN))) (fun i f=>have f:i.l.length<=1:=f;bQ (fun m=>m.l.length<=2) (aC fun ar g=>have P:=oV g;bK (fun _=>aj (yS) (ah xN)) (fun _=>bK (fun _=>aj (yS) (ah xN)) (fun _=>aj (yS) (ah xN)))) (fun m c=>have c:m.l.length<=2:=c;bQ (fun n=>n.l.length<=3) (bK (fun _=>aU au au (aj (yS) (ah xN))) (fun _=>aj (yS) (ah xN))) (fun n d=>have d:n.l.length<=3:=d;bY (fun(l:Nat) b=>b.l.length<=3+6*l) qa3 au (fun l b Y1 w=>have a:b.l.length<=3+6*l:=w;aU au au (rM (fun(D:Int) t=>True) (by trivial) au au (fun D t aq Y y=>have a:True:=y;aU au au (dX (fun _=>ah xN) (fun _=>ah xN))) (fun D t _ aR a=>have a:True:=a;lU fun v9 a9 _=>aC fun av Cb=>aC fun a8 PG=>bK (fun _=>aj (yS) (aC fun V x=>have T:=oV x;bK (fun _=>aU au au (aj (yS) (aC fun an C=>have bb:=oV C;aj (yS) (aC fun aa v=>have Q:=oV v;aj (yS) (aC fun bc H=>have S:=oV H;aj (yS) (aC fun a4 J=>have aD:=oV J;aj (yS) (ah xN))))))) (fun _=>aj (yS) (aC fun W E=>have ag:=oV E;aj (yS) (aC fun aw z=>have ad:=oV z;aj (yS) (aC fun O I=>have L:=oV I;aj (yS) (aC fun ap G=>have aA:=oV G;aj (yS) (ah xN)))))))) (fun _=>aj (yS) (aC fun ab A=>have ao:=oV A;bK (fun _=>aU au au (aj (yS) (aC fun aE F=>have Z:=oV F;aj (yS) (aC fun N u=>have a6:=oV u;aj (yS) (aC fun U p=>have X:=oV p;aj (yS) (aC fun aM o=>have al:=oV o;aj (yS) (ah xN))))))) (fun _=>aj (yS) (aC fun ba B=>have M:=oV B;aj (yS) (aC fun a3 j=>have ac:=oV j;aj (yS) (aC fun a5 k=>have K:=oV k;aj (yS) (aC fun am q=>have R:=oV q;aj (yS) (ah xN))))))))))) (fun b a=>have a:b.l.length<=3+6*e.Items.length:=a;aj (yS) (aC fun a7 s=>have a2:=ao_ au s;aj (yS) (ah xN))))))
def amJ:aY Z:=E1 [Ap,GY,KA,ad8,GV,Un] [jS 6 (bJ (fun b=>[s0 4, .cells (pid (b 3)) [none,some 125]]) (ay cI (l1 bC))),jS 11 (bJ (fun b=>[s0 7, s0 6]) (ay cI (l1 aG))),jS 100003 (bJ (fun b=>[.cells (pid (b 3)) [none,some 125]]) (l1 bC)),jS 100004 (bJ (fun b=>[.cells (pid (b 3)) [none,some 125]]) (l1 bC)),jS 100005 (bJ (fun b=>[.cells (pid (b 3)) [none,some 125]]) (l1 bC)),jS 800001 (bJ (fun b=>[.cells (pid (b 3)) [none,some 125]]) (l1 bC))] (a1 (aI jv)) (R1 kz) [] func21 1 aaH (fun a=>okE a) fun a h=>(Om a h).1
def agL (s:aH)(m:aX)(j:List Bool):Pg (List fK):=.cut (fun(f:aF)=> .cut (fun(z:aF)=> .cut (fun(w:aF)=> .ob (w.l.length+2*m.Reserved.length<=68719476736) (.each true oG m.Gone [] (fun o q (b:aF)=> .ix o m.Gone.length (.ob (List.length q<=9223372036854775700) (.ob (b.l.length<=68719476736) (rl (bU (!ajf q) (-1) 7 b))))) (fun o (b:aF)=> .ob (b.l.length<=68719476736) (.ob (s.Messages.length<=j.length) (.lt (mr m.Notes 1 (-1) b) fun r=> .ob (r.l.length<=68719476736) (.ret (bU (Xm s m j) (-1) 19 r).l)))) (Ff m.Reserved 1 65535 w))) (.each true oG m.Fields aJ (fun c a (e:aF)=> .ix c m.Fields.length (.cnt oG 0 c (fun u (v:Bool)=> .ix u m.Fields.length (.br ((m.Fields.getD u.toNat aJ).Name==a.Name) (rl true) (rl v))) (fun u (v:Bool)=> .cut (fun(g:aF)=> .cut (fun(y:aF)=> .ob (y.l.length<=68719476736) (.lt (bU (!QL a.Name) a.Num 8 y) fun h=> .ob (h.l.length<=68719476736) (.cut (fun(x:aF)=> .ob (x.l.length<=68719476736) (.lt (bU (!asB (aP.mk a.Num a.Name a.Card a.Key a.dS a.Union a.dK a.Default.re a.Notes)) a.Num 1 x) fun p=> .ob (p.l.length<=68719476736) (.ix c m.Fields.length (.lt (bU (!awN s (aP.mk a.Num a.Name a.Card a.Key a.dS a.Union a.dK a.Default.re a.Notes)) a.Num 12 p) fun t=> .ob (t.l.length<=68719476736) (.lt (bU (!anv m c) a.Num 15 t) fun l=> .ob (l.l.length<=68719476736) (.lt (bU (!ami s (aP.mk a.Num a.Name a.Card a.Key a.dS a.Union a.dK a.Default.re a.Notes)) a.Num 1 l) fun n=> .ob (n.l.length<=68719476736) (rl (mr a.Notes 2 a.Num n)))))))) (.lt (bU v a.Num 9 h) fun d=> .br (ajV m.Reserved a.Num) (.ob (d.l.length<=68719476736) (rl (bU true a.Num 21 d))) (.ob (d.l.length<=68719476736) (rl (bU (ao9 m.Gone a.Name) a.Num 21 d))))))) (.br (decide (0 < c)) (.lt (dA .i64 (c - 1)) fun i=> .ix i m.Fields.length (.ob (g.l.length<=68719476736) (rl (bU (decide (a.Num<=(m.Fields.getD i.toNat aJ).Num)) a.Num 11 g)))) (.ob (g.l.length<=68719476736) (rl (bU false a.Num 11 g))))) (.br (decide (a.Num < 1)) (.ob (e.l.length<=68719476736) (rl (bU true a.Num 6 e))) (.ob (e.l.length<=68719476736) (rl (bU (decide (65535 < a.Num)) a.Num 6 e))))) false)) (fun c (e:aF)=> rl e) z)) (.lt (bU true (-1) 3 f) fun k=> .br (decide (64 < (↑m.Fields.length:Int))) (.ob (f.l.length<=68719476736) (rl k)) (.br (decide (16 < (↑m.Reserved.length:Int))) (.ob (f.l.length<=68719476736) (rl k)) (.ob (f.l.length<=68719476736) (rl (bU (decide (16 < (↑m.Gone.length:Int))) (-1) 3 f)))))) (.ob (List.length m.Name<=9223372036854775807) (.ob (0<=68719476736) (rl (bU (!MO m.Name) (-1) 8 (aF.mk m.Name [])))))
def ay2 (s:aH)(m:aX)(a:List Bool):=(agL s m a).val
theorem Ul (s:aH)(m:aX)(i:List Bool)(h:okM m/\s.Messages.length<=i.length):jG (agL s m i) (fun r=>r.length<=16777216):=
 have h1:m.Fields.length<=1048576:=h.1.1;have h2:m.Reserved.length<=1048576:=h.1.2.1;have h3:m.Gone.length<=1048576:=h.1.2.2.1;have h4:m.Name.length<=1048576:=h.1.2.2.2.1;bQ (fun v=>v.l.length<=1) (aj (QT) (aj (QT) (ah xN))) (fun v g=>have g:v.l.length<=1:=g;bQ (fun t=>t.l.length<=2) (aC fun S y=>have P:=oV y;bK (fun _=>aj (QT) (ah xN)) (fun _=>bK (fun _=>aj (QT) (ah xN)) (fun _=>aj (QT) (ah xN)))) (fun t k=>have k:t.l.length<=2:=k;bQ (fun p=>p.l.length<=10485762) (bY (fun(b:Nat) e=>e.l.length<=2+10*b) qa3 au (fun b e K x=>have a:e.l.length<=2+10*b:=x;aU au au (rM (fun(D:Int) H=>True) (by trivial) au au (fun D H L X C=>have a:True:=C;aU au au (dX (fun _=>ah xN) (fun _=>ah xN))) (fun D H _ W a=>have a:True:=a;bQ (fun q=>q.l.length<=2+10*b+1) (bK (fun _=>aj (QT) (ah xN)) (fun _=>aj (QT) (ah xN))) (fun q n=>have n:q.l.length<=2+10*b+1:=n;bQ (fun w=>w.l.length<=2+10*b+2) (bK (fun _=>lU fun Q Z _=>aU au au (aj (QT) (ah xN))) (fun _=>aj (QT) (ah xN))) (fun w o=>have o:w.l.length<=2+10*b+2:=o;aj (QT) (aC fun M F=>have N:=oV F;aj (QT) (bQ (fun u=>u.l.length<=2+10*b+5) (aC fun aa B=>have R:=oV B;dX (fun _=>aj (QT) (ah xN)) (fun _=>aj (QT) (ah xN))) (fun u l=>have l:u.l.length<=2+10*b+5:=l;aj (QT) (aC fun Y E=>have al:=oV E;aj (QT) (aU au au (aC fun ac J=>have ad:=oV J;aj (QT) (aC fun T A=>have O:=oV A;aj (QT) (aC fun U I=>have ag:=oV I;aj (QT) (ah xN)))))))))))))) (fun e a=>have a:e.l.length<=2+10*m.Fields.length:=a;ah xN)) (fun p j=>have j:p.l.length<=10485762:=j;aj (QT) (bY (fun(f:Nat) c=>c.l.length<=12582914+1*f) qa3 au (fun f c aFS G=>have a:c.l.length<=12582914+1*f:=G;aU au au (aj (QT) (aj (QT) (ah xN)))) (fun c a=>have a:c.l.length<=12582914+1*m.Gone.length:=a;aj (QT) (aj (QT) (aC fun ab z=>have V:=atZ z;aj (QT) (ah xN))))))))
def apn:aY Z:=E1 [Ap,ajH,Q8,GY,KA,ad8,an_,atP,ahm,agW,GV,Un,adC] [jS 5 (bJ (fun b=>[s0 8, .cells (pid (b 7)) [none,some 125]]) (ay cI (l1 bC))),jS 10 (bJ (fun b=>[s0 11, s0 10]) (ay cI (l1 aG))),jS 26 (bJ (fun b=>[s0 12, .cells (pid (b 7)) [none,some 125]]) (ay cI (l1 bC))),jS 100003 (bJ (fun b=>[.cells (pid (b 7)) [none,some 125]]) (l1 bC)),jS 100004 (bJ (fun b=>[.cells (pid (b 7)) [none,some 125]]) (l1 bC)),jS 100015 (bJ (fun b=>[.cells (pid (b 7)) [none,some 125]]) (l1 bC)),jS 100016 (bJ (fun b=>[.cells (pid (b 7)) [none,some 125]]) (l1 bC)),jS 100019 (bJ (fun b=>[.cells (pid (b 7)) [none,some 125]]) (l1 bC)),jS 100024 (bJ (fun b=>[.cells (pid (b 7)) [none,some 125]]) (l1 bC)),jS 800001 (bJ (fun b=>[.cells (pid (b 7)) [none,some 125]]) (l1 bC))] (ak (aI bn) (ak (aI fF) (a1 (bz qm)))) (R1 kz) [] func20 1 (u3 agL) (fun a=>okM a.2.1/\a.1.Messages.length<=a.2.2.length) fun a h=>(Ul a.1 a.2.1 a.2.2 h).1
def ah5 (s:aH):Pg (List fK):=.cut (fun(e:aF)=> .ob (okS s) (.ob (okS s) (.ob (okS s) (.cut (fun(x:aF)=> .ob (s.Messages.length<=1048576) (.cut (fun(w:aF)=> .cut (fun(u:aF)=> .each true oG s.gK qU (fun r g (d:aF)=> .ix r s.gK.length (.ob (aa_ g) (.lt (aw2 s g) fun n=> .ob (dE (d.l.length+n.length) 32) (rl (aF.mk d.zA (d.l++n)))))) (fun r (d:aF)=> .ret d.l) u) (.each true oG s.Enums jV (fun j o (b:aF)=> .ix j s.Enums.length (.ob (okE o) (.lt (auZ o) fun q=> .ob (dE (b.l.length+q.length) 32) (rl (aF.mk b.zA (b.l++q)))))) (fun j (b:aF)=> rl b) w)) (.each true oG s.Messages f_ (fun t v (c:aF)=> .ix t s.Messages.length (.lt (akL s) fun i=> .ob (okM v/\s.Messages.length<=i.length) (.lt (ay2 s v i) fun k=> .ob (dE (c.l.length+k.length) 32) (rl (aF.mk c.zA (c.l++k)))))) (fun t (c:aF)=> rl c) x))) (.lt (bU true (-1) 9 e) fun p=> .lt (vW s 1) fun f=> .lt (vW s 2) fun h=> .br (UK f h) (.ob (e.l.length<=68719476736) (rl p)) (.lt (vW s 3) fun m=> .br (UK f m) (.ob (e.l.length<=68719476736) (rl p)) (.ob (e.l.length<=68719476736) (rl (bU (UK h m) (-1) 9 e))))))))) (.wh (5) default (fun(a:Int×aF)=> .br (decide (a.1<=3)) (.ob (okS s) (.ob (a.2.l.length<=68719476736) (.lt (bU (decide (64 < (↑(vW s a.1).length:Int))) (-1) 3 a.2) fun l=> .ob (l.l.length<=68719476736) (rl (dA .i64 (a.1+1),bU (!akI (vW s a.1)) (-1) 11 l))))) (.ret (.inr (.inl a.2)))) (1,aF.mk [] []))
def awL (s:aH):=(ah5 s).val
theorem am8 (s:aH)(h:okS s):Is (ah5 s):=
 by
 have i:=h;obtain⟨Z,Y,h3,P,M,N⟩:=h;refine jG.is (Q:=fun _=>True) (bQ (fun E=>E.l.length<=10) ?_ (fun E t=>aj i (aj i (aj i (bQ (fun C=>C.l.length<=11) ?_ (fun C j=>aj au (bQ (fun B=>B.l.length<=2600000000) ?_ (fun B p=>bQ (fun g=>g.l.length<=5200000000) ?_ (fun g o=> ?_)))))))))
 ·refine oU (fun x=>1<=x.1/\x.1<=4/\x.2.l.length+2<=2*x.1.toNat) (fun x=>4 - x.1.toNat) ⟨H8 _,by decide,oC _⟩ qp (fun x hx=>bK (fun z=>aj i (aj au (aC fun I A=>have k:=oV A;aj au (ah ?_)))) (fun _=>ah ?_))
  ·have X:=aes (!akI (vW s x.1)) (-1) 11 I;have w:dA .i64 (x.1+1)=x.1+1:=eQ (k:= .i64) ve;simp only[Sum.elim_inl,w];omega
  ·show x.2.l.length<=10;omega
 ·have t:E.l.length<=10:=t;refine aC fun r H=>have k:=oV H;aC fun S W=>aC fun T U=>dX (fun _=>aj au (ah ?_)) (fun _=>aC fun V O=>dX (fun _=>aj au (ah ?_)) (fun _=>aj au (ah ?_)))
  ·show r.l.length<=11;omega
  ·show r.l.length<=11;omega
  ·exact EZ (aes _ _ _ _) au
 ·have j:C.l.length<=11:=j;have R:(akL s).length=s.Messages.length:=(Uz s au).2;refine bY (fun k y=>y.l.length<=11+16777216*k) au au (fun F f b a=>aU au au (aC fun l G=> ?_)) (fun f a=>ah (by have a:f.l.length<=11+16777216*s.Messages.length:=a;show f.l.length<=2600000000;omega));have a:f.l.length<=11+16777216*F:=a;have c:=P _ (getD_mem (d:=f_) b);have z:s.Messages.length<=l.length:=by rw[G,R];exact oC _
  refine aj ⟨c,z⟩ (aC fun m K=> ?_);have k:m.length<=16777216:=by rw[K];exact(Ul s _ l ⟨c,z⟩).2
  exact aj (dI au au) (ah (by show(f.l++m).length<=11+16777216*(F+1);rw[qO];omega))
 ·have p:B.l.length<=2600000000:=p;refine bY (fun k y=>y.l.length<=2600000000+16777216*k) au au (fun n e b a=>aU au au ?_) (fun e a=>ah (by have a:e.l.length<=2600000000+16777216*s.Enums.length:=a;show e.l.length<=5200000000;omega));have a:e.l.length<=2600000000+16777216*n:=a;have c:=M _ (getD_mem (d:=jV) b);refine aj c (aC fun u L=> ?_);have k:u.length<=16777216:=by rw[L];exact(Om _ c).2
  exact aj (dI au au) (ah (by show(e.l++u).length<=2600000000+16777216*(n+1);rw[qO];omega))
 ·have o:g.l.length<=5200000000:=o;refine bY (fun k y=>y.l.length<=5200000000+16777216*k) au au (fun v D b a=>aU au au ?_) (fun D a=>ah trivial);have a:D.l.length<=5200000000+16777216*v:=a;have c:=N _ (getD_mem (d:=qU) b);refine aj c (aC fun q J=> ?_);have k:q.length<=16777216:=by rw[J];exact(Tt s _ c).2
  exact aj (dI au au) (ah (by show(D.l++q).length<=5200000000+16777216*(v+1);rw[qO];omega))
def apZ:aY Z:=E1 [ahy,Ap,aov,anM,au8,apn,amJ,aqe] [jS 3 (bJ (fun b=>[s0 4, .cells (pid (b 3)) [none,some 125]]) (ay cI (l1 bC))),jS 14 (bJ (fun b=>[s0 10, .cells (pid (b 3)) [none,some 125]]) (ay cI (l1 bC))),jS 18 (bJ (fun b=>[s0 11, .cells (pid (b 3)) [none,some 125]]) (ay cI (l1 bC))),jS 22 (bJ (fun b=>[s0 12, .cells (pid (b 3)) [none,some 125]]) (ay cI (l1 bC))),jS 100008 (bJ (fun b=>[.cells (pid (b 3)) [none,some 125]]) (l1 bC)),jS 100012 (bJ (fun b=>[.cells (pid (b 3)) [none,some 125]]) (l1 bC)),jS 100017 (bJ (fun b=>[.cells (pid (b 3)) [none,some 125]]) (l1 bC)),jS 100021 (bJ (fun b=>[.cells (pid (b 3)) [none,some 125]]) (l1 bC)),jS 800001 (bJ (fun b=>[.cells (pid (b 3)) [none,some 125]]) (l1 bC))] (a1 (aI bn)) (R1 kz) [] func10 1 ah5 (fun a=>okS a) fun a h=>am8 a h
def Vs (s:aH):Pg Bool:=.ob (okS s) (.ret ((↑(awL s).length:Int)==0))
def X8 (s:aH):=(Vs s).val
theorem acX (s:aH)(h:okS s):Is (Vs s):=
 aW (h) (aO)
def afu:aY Z:=E1 [apZ] [] (a1 (aI bn)) (R1 aG) [] func6 1 Vs (fun a=>okS a) fun a h=>acX a h
def aIL (x:aX)(a:Str):Pg Bool:=.ret (x.Name==a)
def aIx (x:aX)(a:Str):=(aIL x a).val
def aox:aY Z:=yu [] [] (ak (aI fF) (a1 (iE 0))) (b1 (aS cStr)) (R1 aG) [0] func241 1 (u11 aIL)
def fsM (l:List aX)(a:Str):Pg (aX×Bool):=aL l (.each false um l f_ (fun c b (d:Unit)=> .ix c l.length (.br (aIx b a) (.ret (.inr (b,true))) (rl ()))) (fun c (d:Unit)=> .ret (aX.mk [] [] [] [] [],false)) ())
def aJ3 (l:List aX)(a:Str):=(fsM l a).val
def aHQ:aY Z:=yu [aox] [jS 2 (bJ (fun b=>[s0 11]) (l1 cI))] (ak (bz rq) (a1 (jP 241 [0]))) (b1 (aS cStr)) (shr [.slot 0 true (nn 5), s0 1] (ay fF (l1 aG))) [0] func240 2 (u11 fsM)
def aGE (x:gU)(a:Str):Pg Bool:=.ret (x.Name==a)
def aGP (x:gU)(a:Str):=(aGE x a).val
def aqd:aY Z:=yu [] [] (ak (aI pI) (a1 (iE 0))) (b1 (aS cStr)) (R1 aG) [0] func164 1 (u11 aGE)
def fsS (l:List gU)(a:Str):Pg (gU×Bool):=aL l (.each false um l qU (fun c b (d:Unit)=> .ix c l.length (.br (aGP b a) (.ret (.inr (b,true))) (rl ()))) (fun c (d:Unit)=> .ret (gU.mk [] [] [],false)) ())
def aJZ (l:List gU)(a:Str):=(fsS l a).val
def aHR:aY Z:=yu [aqd] [jS 2 (bJ (fun b=>[s0 11]) (l1 cI))] (ak (bz xU) (a1 (jP 164 [0]))) (b1 (aS cStr)) (shr [.slot 0 true (nn 3), s0 1] (ay pI (l1 aG))) [0] func163 2 (u11 fsS)
def aHi (x:fH)(a:Str):Pg Bool:=.ret (x.Name==a)
def aIa (x:fH)(a:Str):=(aHi x a).val
def auA:aY Z:=yu [] [] (ak (aI pz) (a1 (iE 0))) (b1 (aS cStr)) (R1 aG) [0] func107 1 (u11 aHi)
def fsW (l:List fH)(a:Str):Pg (fH×Bool):=aL l (.each false um l oD (fun c b (d:Unit)=> .ix c l.length (.br (aIa b a) (.ret (.inr (b,true))) (rl ()))) (fun c (d:Unit)=> .ret (fH.mk [] [] [] 0 [],false)) ())
def aJV (l:List fH)(a:Str):=(fsW l a).val
def aIi:aY Z:=yu [auA] [jS 2 (bJ (fun b=>[s0 11]) (l1 cI))] (ak (bz yJ) (a1 (jP 107 [0]))) (b1 (aS cStr)) (shr [.slot 0 true (nn 5), s0 1] (ay pz (l1 aG))) [0] func106 2 (u11 fsW)
def aGn (x:aP)(a:Int):Pg Bool:=.ret (x.Num==a)
def aH5 (x:aP)(a:Int):=(aGn x a).val
def ara:aY Z:=yu [] [] (ak (aI dY) (a1 (iE 0))) (b1 (aS cI)) (R1 aG) [0] func243 1 (u11 aGn)
def fsF (l:List aP)(b:Int):Pg (aP×Bool):=aL l (.each false um l aJ (fun c a (d:Unit)=> .ix c l.length (.br (aH5 (aP.mk a.Num a.Name a.Card a.Key a.dS a.Union a.dK a.Default.re a.Notes) b) (.ret (.inr (aP.mk a.Num a.Name a.Card a.Key a.dS a.Union a.dK a.Default.re a.Notes,true))) (rl ()))) (fun c (d:Unit)=> .ret (aP.mk 0 [] 0 0 (xg.mk 0 []) [] false (af.mk 0 0 [] [] [] [] []) [],false)) ())
def aJ1 (l:List aP)(a:Int):=(fsF l a).val
def aIj:aY Z:=yu [ara] [jS 2 (bJ (fun b=>[s0 11]) (l1 cI))] (ak (bz fZ) (a1 (jP 243 [0]))) (b1 (aS cI)) (shr [.slot 0 true (nn 16), s0 1] (ay dY (l1 aG))) [0] func242 2 (u11 fsF)
def adW (s:aH)(a:Str):Pg (aX×Bool):=.ret (aJ3 s.Messages a)
def Lj (s:aH)(a:Str):=(adW s a).val
def Rx:aY Z:=E0 [aHQ,aox] [] (ak (aI bn) (a1 (bz cStr))) (shr [.slot 0 true (nn 5), s0 1] (ay fF (l1 aG))) [] func173 2 (u2 adW)
def adB (s:aH)(a:Str):Pg (gU×Bool):=.ret (aJZ s.gK a)
def aoa (s:aH)(a:Str):=(adB s a).val
def ahX:aY Z:=E0 [aHR,aqd] [] (ak (aI bn) (a1 (bz cStr))) (shr [.slot 0 true (nn 3), s0 1] (ay pI (l1 aG))) [] func105 2 (u2 adB)
def apN (m:aX)(b:Int):Pg (aP×Bool):=.lt (aJ1 m.Fields b) fun a=> .ret (aP.mk a.1.Num a.1.Name a.1.Card a.1.Key a.1.dS a.1.Union a.1.dK a.1.Default.re a.1.Notes,a.2)
def aat (m:aX)(a:Int):=(apN m a).val
def SS:aY Z:=E0 [aIj,ara] [] (ak (aI fF) (a1 (bz cI))) (shr [.slot 0 true (nn 16), s0 1] (ay dY (l1 aG))) [] func174 2 (u2 apN)
def mO:Str:=[47]
def ak0 (s:Str):Pg Int:=.as (List.length mO<=9223372036854775807) (.br (mO==s) (.ret 0) (.ix 0 (List.length mO) (.ret (Lib.indexByte s (List.getD mO 0 0).toNat.toUInt8))))
def abR (s:Str):=(ak0 s).val
theorem aor (s:Str):Is (ak0 s):=
 eH fun _=>aT iR (fun _=>bW qp qp aO)
def awz:aY Z:=uF Z [NJ] [jS 15 (bJ (fun c=>[s0 8, s0 10]) (ay cI (l1 cI)))] (args (ak (bz cStr) (a1 (bz cStr)))) (jr (n:=143) rfl) (R1 cI) [] func161 ntmps161 eF 1 rfl (fun a=>ak0 (a.1)) (fun a=>some (a.2=mO)) (fun⟨s,p⟩ e h=>by have b:p=mO:=h;subst b;show _=_;kernel_rfl) (fun a=>abR (a.1)) (fun a h=>⟨aor (a.1),rfl⟩)
theorem JF (c:UInt8):∀(s:List UInt8) (k:Nat),BR (fun x=>x==c) s k=bif decide (Lib.indexByte s c= -1)then -1 else Lib.indexByte s c+k
 | [],k=>rfl
 | x::s,k=>by
  have a:=JF c s (k+1);have d:=Lib.indexByte_ge s c;unfold BR Lib.indexByte;cases e:x==c with
  | true=>simp
  | false=>
   simp only[qH,Ot,if_false];rw[a];by_cases h:Lib.indexByte s c= -1
   ·simp[h]
   ·have b:(Lib.indexByte s c== -1)=false:=beq_eq_false_iff_ne.2 h;rw[b];simp only[Ot,if_false];rw[sQ h,sQ au];simp only[qH];omega
theorem alc (s:Str):abR s=iI (fun x=>x==47) s:=by
 have e:Lib.indexByte s 47=iI (fun x=>x==47) s:=by
  unfold iI;rw[JF];by_cases h:Lib.indexByte s 47= -1
  ·simp[h]
  ·rw[sQ h];simp
 unfold abR ak0;simp only[kK,cO,lG,bu];cases h:mO==s with
 | true=>
  have:s=[47]:=(eq_of_beq h).symm;rw[this];rfl
 | false=>exact e
def aj9 (s:Str):Pg (List UInt8×List UInt8×Bool):=.ob (mO=mO) (.lt (abR s) fun a=> .br (decide (0<=a)) (.ob ((0:Int)<=0/\0<=a/\a<=(↑(List.length s):Int)) (.lt (dA .i64 (a+(↑(List.length mO):Int))) fun b=> .ob (0<=b/\b<=(↑(List.length s):Int)/\(↑(List.length s):Int)<=(↑(List.length s):Int)) (.as (List.length mO<=9223372036854775807) (.ret (List.take a.toNat s,List.drop b.toNat (List.take (List.length s) s),true))))) (.ret (s,[],false)))
def agV (s:Str):=(aj9 s).val
theorem apw (s:Str)(h:s.length<=1048576):Is (aj9 s):=
 by
 refine aW rfl (dC fun c b=>cZ (fun _=> ?_) iR);have f:c < s.length:=by rw[b,alc];exact(oM (fun(x:UInt8)=>x==47) s).1
 have e:(List.length mO:Int)=1:=rfl;refine aW ⟨by omega,by omega,by omega⟩ (dC fun d a=> ?_);rw[e,eQ (k:= .i64) ve]at a;exact aW ⟨by omega,by omega,by omega⟩ (eH fun _=>aO)
def aym:aY Z:=uF Z [awz,ajz] [] (args (ak (bz cStr) (a1 (bz cStr)))) (jr (n:=23) rfl) (shr [s0 0, s0 1, s0 2] (ay cStr (ay cStr (l1 aG)))) [] func102 ntmps102 eF 3 rfl (fun a=>aj9 (a.1)) (fun a=>some ((a.2=mO)/\((a.1).length<=1048576))) (fun⟨s,p⟩ e h=>by have b:p=mO:=h.1;subst b;show _=_;kernel_rfl) (fun a=>agV (a.1)) (fun a h=>⟨apw (a.1) h.2,rfl⟩)
def azm (s:Str):Pg (List UInt8×List UInt8×Bool):=.ob (mO=mO/\List.length s<=1048576) (.ret (agV s))
def Yi (s:Str):=(azm s).val
theorem axg (s:Str)(h:s.length<=1048576):Is (azm s):=
 aW ((⟨rfl,h⟩)) (aO)
def aqy:aY Z:=uF Z [aym] [] (args (ak (bz cStr) (a1 (bz cStr)))) (jr (n:=13) rfl) (shr [s0 0, s0 1, s0 2] (ay cStr (ay cStr (l1 aG)))) [] func57 ntmps57 eF 3 rfl (fun a=>azm (a.1)) (fun a=>some ((a.2=mO)/\((a.1).length<=1048576))) (fun⟨s,p⟩ e h=>by have b:p=mO:=h.1;subst b;show _=_;kernel_rfl) (fun a=>Yi (a.1)) (fun a h=>⟨axg (a.1) h.2,rfl⟩)
theorem ayc (s:Str)(h:s.length<=1048576):Yi s=bif decide (0<=iI (fun x=>x==47) s)then(s.take (iI (fun x=>x==47) s).toNat,s.drop ((iI (fun x=>x==47) s).toNat+1),true)else(s,[],false):=by
 have b:=(oM (fun(x:UInt8)=>x==47) s).1;unfold Yi azm agV aj9;simp only[eG,dV,cO,kK,bu,alc];by_cases a:0<=iI (fun x=>x==47) s
 ·have e:(List.length mO:Int)=1:=rfl;rw[wO a,e,eQ (k:= .i64) ve,Lc];rw[show(iI (fun x=>x==47) s+1).toNat=(iI (fun x=>x==47) s).toNat+1 by omega]
 ·rw[sQ a];rfl
theorem auJ (s:Str)(h:s.length<=1048576):(Yi s).1.length<=s.length:=by
 rw[ayc s h];cases decide (0<=iI (fun x=>x==47) s)
 ·exact oC _
 ·simp only[AC,zC];omega
def ajE (s:aH)(a:Str):Pg (fH×Bool):=.ob ([47]=mO/\List.length a<=1048576) (.lt (Yi a) fun b=> .br (!b.2.2) (.ret (fH.mk [] [] [] 0 [],false)) (.lt (aoa s b.1) fun c=> .br (!c.2) (.ret (fH.mk [] [] [] 0 [],false)) (.ret (aJV c.1.Methods b.2.1))))
def ap9 (s:aH)(a:Str):=(ajE s a).val
def anp:aY Z:=E1 [aqy,ahX,aIi,auA] [] (ak (aI bn) (a1 (bz cStr))) (shr [.slot 0 true (nn 5), s0 1] (ay pz (l1 aG))) [] func60 2 (u2 ajE) fun a=>a.2.length<=1048576
def aro (s:aH)(a:Str):Pg (fH×Int):=.ob ([47]=mO/\List.length a<=1048576) (.lt (Yi a) fun b=> .br (!b.2.2) (.ret (fH.mk [] [] [] 0 [],2)) (.ob (b.1.length<=4294967296) (.br (!ahC b.1) (.ret (fH.mk [] [] [] 0 [],2)) (.br (!aa5 b.2.1) (.ret (fH.mk [] [] [] 0 [],2)) (.ob (List.length a<=1048576) (.lt (ap9 s a) fun c=> .br (!c.2) (.ret (fH.mk [] [] [] 0 [],10)) (.ret (c.1,0))))))))
def Bg (s:aH)(a:Str):=(aro s a).val
theorem auO (s:aH)(a:Str)(h:a.length<=1048576):Is (aro s a):=
 aW ((⟨rfl,h⟩)) (dC fun d b=>aT iR (fun _=>aW (by have:=auJ a h;rw[b];omega) (aT iR (fun _=>aT iR (fun _=>aW qas (dC fun e c=>aT iR iR))))))
def FK:aY Z:=E1 [aqy,Zm,QO,anp] [] (ak (aI bn) (a1 (bz cStr))) (shr [.slot 0 true (nn 5), s0 1] (ay pz (l1 cI))) [] func26 2 (u2 aro) (fun a=>a.2.length<=1048576) fun a h=>auO a.1 a.2 h
def adD (shape:Int):Pg (Bool×Bool):=.br (shape==3) (.br (shape==2) (.ret (true,true)) (.ret (true,shape==4))) (.br (shape==2) (.ret (shape==4,true)) (.ret (shape==4,shape==4)))
def pV (shape:Int):=(adD shape).val
def wG:aY Z:=E0 [] [] (a1 (bz cI)) (shr [s0 0, s0 1] (ay aG (l1 aG))) [] func64 2 adD
def ranged (x:bZ):Pg Bool:=.br (decide (x.azA < 0)) (.ret false) (.br (decide (1099511627776 < x.azA)) (.ret false) (.cut (fun(a:Bool)=> .br a (.ret (x.Num==0)) (.br (x.Kind==3) (.br (decide (1<=x.Num)) (.ret (decide (x.Num<=65535))) (.ret false)) (.br (x.Kind==4) (.br (decide (0<=x.Num)) (.ret (decide (x.Num<=64))) (.ret false)) (.br (x.Kind==5) (.br (decide (1<=x.Num)) (.ret (decide (x.Num<=13))) (.ret false)) (.ret false))))) (.br (x.Kind==1) (rl (x.Kind==1)) (rl (x.Kind==2)))))
def aa4 (x:bZ):=(ranged x).val
def aqS:aY Z:=E0 [] [jS 100006 (bJ (fun b=>[s0 13]) (l1 aG))] (a1 (aI jc)) (R1 aG) [] func111 1 ranged
def counted (s:aH)(b:Str)(c:Int):Pg (aP×Bool):=.lt (aat (Lj s b).1 c) fun a=> .br (a.1.dS.Kind==4) (.br a.2 (.br (a.1.Card !=4) (.ret (aP.mk a.1.Num a.1.Name a.1.Card a.1.Key a.1.dS a.1.Union a.1.dK a.1.Default.re a.1.Notes,a.1.Card !=5)) (.ret (aP.mk a.1.Num a.1.Name a.1.Card a.1.Key a.1.dS a.1.Union a.1.dK a.1.Default.re a.1.Notes,false))) (.ret (aP.mk a.1.Num a.1.Name a.1.Card a.1.Key a.1.dS a.1.Union a.1.dK a.1.Default.re a.1.Notes,false))) (.br a.2 (.br (a.1.dS.Kind==5) (.br (a.1.Card !=4) (.ret (aP.mk a.1.Num a.1.Name a.1.Card a.1.Key a.1.dS a.1.Union a.1.dK a.1.Default.re a.1.Notes,a.1.Card !=5)) (.ret (aP.mk a.1.Num a.1.Name a.1.Card a.1.Key a.1.dS a.1.Union a.1.dK a.1.Default.re a.1.Notes,false))) (.ret (aP.mk a.1.Num a.1.Name a.1.Card a.1.Key a.1.dS a.1.Union a.1.dK a.1.Default.re a.1.Notes,false))) (.ret (aP.mk a.1.Num a.1.Name a.1.Card a.1.Key a.1.dS a.1.Union a.1.dK a.1.Default.re a.1.Notes,false)))
def acu (s:aH)(a:Str)(b:Int):=(counted s a b).val
def YA:aY Z:=E0 [Rx,SS] [] (ak (aI bn) (ak (bz cStr) (a1 (bz cI)))) (shr [.slot 0 true (nn 16), s0 1] (ay dY (l1 aG))) [] func112 2 (u3 counted)
def fits (s:aH)(x:bZ):Pg Bool:=.ob (List.length x.Method<=1048576) (.lt (Bg s x.Method) fun a=> .br (a.2 !=0) (.ret false) (.br (!aa4 (bZ.mk x.Method x.Kind x.Num 0)) (.ret false) (.lt (pV a.1.Shape) fun b=> .br (x.Kind==2) (.ret !b.2) (.br (x.Kind==3) (.br (acu s a.1.Out x.Num).2 (.ret !b.2) (.ret false)) (.br (x.Kind==4) (.br b.2 (.ret (a.1.In==a.1.Out)) (.ret false)) (.ret true))))))
def aiI (s:aH)(x:bZ):=(fits s x).val
def aa9:aY Z:=E1 [FK,wG,aqS,YA] [] (ak (aI bn) (a1 (aI jc))) (R1 aG) [] func63 1 (u2 fits) fun a=>a.2.Method.length<=1048576
def apc (x:Int):Pg Bool:=.ret (x !=x)
def ajv (x:Int):=(apc x).val
def auo:aY Z:=E0 [] [] (a1 (bz cI)) (R1 aG) [] func263 1 apc
def aHs (x:Int)(y:Int):Pg Int:=.lt (ajv y) fun a=> .br (ajv x) (.br a (.ret 0) (.ret (-1))) (.br a (.ret 1) (.br (decide (x < y)) (.ret (-1)) (.br (decide (y < x)) (.ret 1) (.ret 0))))
def wY (x:Int)(y:Int):=(aHs x y).val
def uh:aY Z:=E0 [auo] [] (ak (bz cI) (a1 (bz cI))) (R1 cI) [] func181 1 (u2 aHs)
def rwC (a:Raw)(b:Raw):Pg Int:=.ret (wY a.Num b.Num)
def aqr (a:Raw)(b:Raw):=(rwC a b).val
def UO:aY Z:=E1 [uh] [] (ak (aI mQ) (a1 (aI mQ))) (R1 cI) [] func239 1 (u2 rwC) fun a=>True
def aHm (a:Int)(b:Int)(n:Int)(l:List Raw):Pg (List Raw):=VF (fun a=>a) nH a b n l
theorem axR (a:Int)(b:Int)(n:Int)(l:List Raw)(h:swQ a b n l.length):Is (aHm a b n l):=
 (LX (fun _=>rfl) h).1
def apf:aY Z:=Df [UO] [jS 1 (bJ (fun b=>[s0 10, .row (pid (b 0)) 286]) (ay cI (l1 bG)))] (ak (nM 0) (ak (bz cI) (ak (bz cI) (ak (bz cI) (a1 (jP 239 [])))))) (b1 (kX 286 D.Raw kT)) (shr [.row 0 286] (l1 bG)) [] func458 0 (fun a=>aHm a.1.2.1 a.1.2.2.1 a.1.2.2.2.1 a.2) (fun a=>swQ a.1.2.1 a.1.2.2.1 a.1.2.2.2.1 a.2.length) fun a h=>axR a.1.2.1 a.1.2.2.1 a.1.2.2.2.1 a.2 h
def aIJ (a:Int)(m:Int)(b:Int)(l:List Raw):Pg (List Raw):=Uj (fun a=>a) nH a m b l
theorem awP (a:Int)(m:Int)(b:Int)(l:List Raw)(h:roQ a m b l.length):Is (aIJ a m b l):=
 (KZ (fun _=>rfl) h).1
def arG:aY Z:=Df [UO,apf] [jS 2 (bJ (fun b=>[s0 10, s0 11, .row (pid (b 0)) 286]) (ay cI (ay cI (l1 bG))))] (ak (nM 0) (ak (bz cI) (ak (bz cI) (ak (bz cI) (a1 (jP 239 [])))))) (b1 (kX 286 D.Raw kT)) (shr [.row 0 286] (l1 bG)) [] func439 0 (fun a=>aIJ a.1.2.1 a.1.2.2.1 a.1.2.2.2.1 a.2) (fun a=>roQ a.1.2.1 a.1.2.2.1 a.1.2.2.2.1 a.2.length) fun a h=>awP a.1.2.1 a.1.2.2.1 a.1.2.2.2.1 a.2 h
def aCC (a:Int)(b:Int)(l:List Raw):Pg (List Raw):=VO (fun a=>a) aqr (fun _ _=>True) nH a b l
def aGw (a:Int)(b:Int)(l:List Raw):=(aCC a b l).val
theorem awV (a:Int)(b:Int)(l:List Raw)(h:Hg (fun _ _=>True) a b l):Is (aCC a b l):=
 (LJ (fun _=>rfl) h).1
def apO:aY Z:=uF Z [UO] [jS 1 (bJ (fun b=>[s0 8, .row (pid (b 0)) 286]) (ay cI (l1 bG))),jS 4 (bJ (fun b=>[s0 9, .row (pid (b 0)) 286]) (ay cI (l1 bG)))] (jF (ak (nM 0) (ak (bz cI) (ak (bz cI) (a1 (jP 239 []))))) (b1 (kX 286 D.Raw kT))) (nT (n:=53) rfl) (shr [.row 0 286] (l1 bG)) [] func399 ntmps399 eF 0 rfl (fun a=>aCC (a.1.2.1) (a.1.2.2.1) (a.2)) (fun a=>some (Hg (fun _ _=>True) (a.1.2.1) (a.1.2.2.1) (a.2))) (fun a e _=>by kernel_rfl) (fun a=>aGw (a.1.2.1) (a.1.2.2.1) (a.2)) (fun a h=>⟨awV (a.1.2.1) (a.1.2.2.1) (a.2) h,rfl⟩)
def aGu (c:Int->Int->Int->List Raw->List Raw)(OJ:Int->Int->Int->List Raw->Prop)(a:Int)(m:Int)(b:Int)(l:List Raw):Pg (List Raw):=YN (fun a=>a) aqr (fun _ _=>True) nH c OJ a m b l
def OJ (c:Nat)(a:Int)(m:Int)(b:Int)(l:List Raw):Prop:=WZ (fun _ _=>True) c a m b l
def an5:Nat->(Int->Int->Int->(List Raw)->(List Raw))
 | 0=>(fun _ _ _ _=>default)
 | c+1=>(fun a m b l=>(aGu ((an5 c)) (OJ c) a m b l).val)
def aiX (a:Int)(m:Int)(b:Int)(l:List Raw):List Raw:=(an5 ((b - a).toNat+1)) a m b l
theorem Kz:∀(e:Nat) (a m b:Int) (l:List Raw),OJ e a m b l->(an5 e a m b l).Perm l
 | 0,_,_,_,_,h=>FY h
 | e+1,_,_,_,_,h=>(zo (fun _=>rfl) (c:=aqr) (Pe:=an5 e) (Xh:=OJ e) (d:=nH) (fun _ _ _ _ h=>h) (Kz e) h).2
abbrev aty (a:Nat):=aGu ((an5 a)) (OJ a)
theorem axl (c:Nat)(a:Int)(m:Int)(b:Int)(l:List Raw)(h:OJ (c+1) a m b l):Is (aty c a m b l):=
 (zo (fun _=>rfl) (fun _ _ _ _ h=>h) (Kz c) h).1
theorem ao0:∀c,dJ Z.P Z.S 400 (mi (jF (ak (nM 0) (ak (bz cI) (ak (bz cI) (ak (bz cI) (a1 (jP 239 [])))))) (b1 (kX 286 D.Raw kT))) (shr [.row 0 286] (l1 bG)) 0 [] (fun a=>some (OJ c (a.1.2.1) (a.1.2.2.1) (a.1.2.2.2.1) (a.2))) (fun a=>(an5 c) (a.1.2.1) (a.1.2.2.1) (a.1.2.2.2.1) (a.2)))
 | 0=>gp func400 eF (fun a h=>FY h)
 | c+1=>by
  have d:=ao0 c;exact zD [UO,arG,⟨400,_,d⟩] [jS 3 (bJ (fun b=>[s0 10, s0 11]) (ay cI (l1 cI))),jS 9 (bJ (fun b=>[s0 13, .row (pid (b 0)) 286]) (ay cI (l1 bG))),jS 15 (bJ (fun b=>[s0 14, s0 15]) (ay cI (l1 cI))),jS 21 (bJ (fun b=>[s0 17, .row (pid (b 0)) 286]) (ay cI (l1 bG))),jS 33 (bJ (fun b=>[s0 20, s0 21]) (ay cI (l1 cI))),jS 100008 (bJ (fun b=>[s0 10]) (l1 cI)),jS 100012 (bJ (fun b=>[.row (pid (b 0)) 286]) (l1 bG)),jS 100020 (bJ (fun b=>[s0 14]) (l1 cI)),jS 100024 (bJ (fun b=>[.row (pid (b 0)) 286]) (l1 bG)),jS 100032 (bJ (fun b=>[s0 20, s0 21]) (ay cI (l1 cI))),jS 100038 (bJ (fun b=>[s0 20]) (l1 cI)),jS 100041 (bJ (fun b=>[.row (pid (b 0)) 286]) (l1 bG)),jS 100043 (bJ (fun b=>[.row (pid (b 0)) 286]) (l1 bG))] func400 ntmps400 (fun a=>aty c a.1.2.1 a.1.2.2.1 a.1.2.2.2.1 a.2) (fun a h=>⟨axl c a.1.2.1 a.1.2.2.1 a.1.2.2.2.1 a.2 h,rfl⟩) (nT (n:=220) rfl)
def apB:aY Z:=⟨400,mi (jF (ak (nM 0) (ak (bz cI) (ak (bz cI) (ak (bz cI) (a1 (jP 239 [])))))) (b1 (kX 286 D.Raw kT))) (shr [.row 0 286] (l1 bG)) 0 [] (fun a=>some (WZ (fun _ _=>True) (((a.1.2.2.2.1) - (a.1.2.1)).toNat+1) (a.1.2.1) (a.1.2.2.1) (a.1.2.2.2.1) (a.2))) (fun a=>aiX (a.1.2.1) (a.1.2.2.1) (a.1.2.2.2.1) (a.2)),jH (fun n=>((ao0 n))) _ _ (fun a h=>⟨((a.1.2.2.2.1) - (a.1.2.1)).toNat+1,h,rfl⟩)⟩
def aDb (n:Int)(l:List Raw):Pg (List Raw):=Xo (fun a=>a) aqr (fun _ _=>True) nH aiX n l
def aGc (n:Int)(l:List Raw):=(aDb n l).val
theorem awX (n:Int)(l:List Raw)(h:stQ (fun _ _=>True) n l):Is (aDb n l):=
 (zq (fun _=>rfl) (Pe:=aiX) (fun a m b l h=>Kz _ a m b l h) h).1
def aoG:aY Z:=Df [UO,apO,apB] [jS 2 (bJ (fun b=>[s0 7, s0 8, .row (pid (b 0)) 286]) (ay cI (ay cI (l1 bG)))),jS 7 (bJ (fun b=>[s0 6, .row (pid (b 0)) 286]) (ay cI (l1 bG))),jS 9 (bJ (fun b=>[s0 7, s0 8, .row (pid (b 0)) 286]) (ay cI (ay cI (l1 bG)))),jS 100006 (bJ (fun b=>[s0 7, .row (pid (b 0)) 286]) (ay cI (l1 bG))),jS 100013 (bJ (fun b=>[s0 7, .row (pid (b 0)) 286]) (ay cI (l1 bG)))] (ak (nM 0) (ak (bz cI) (a1 (jP 239 [])))) (b1 (kX 286 D.Raw kT)) (shr [.row 0 286] (l1 bG)) [] func309 0 (fun a=>aDb a.1.2.1 a.2) (fun a=>stQ (fun _ _=>True) a.1.2.1 a.2) fun a h=>awX a.1.2.1 a.2 h
def aFa (l:List Raw):Pg (List Raw):=.ob (stQ (fun(x b:Raw)=>True) (↑l.length:Int) l) (.lt (aGc (↑l.length:Int) l) fun a=> aL a (.ret a))
def NL (l:List Raw):=(aFa l).val
theorem av7 (l:List Raw)(h:rE (fun _ _=>True) l):Is (aFa l):=
 aW ((⟨h,rfl⟩)) (dC fun b a=>eH fun _=>aO)
def arF:aY Z:=Df [UO,aoG] [] (ak (nM 0) (a1 (jP 239 []))) (b1 (kX 286 D.Raw kT)) (shr [.row 0 286] (l1 bG)) [] func238 0 (fun a=>aFa a.2) (fun a=>rE (fun _ _=>True) a.2) fun a h=>av7 a.2 h
theorem anm {l:List Raw}(h:rE (fun _ _=>True) l):(NL l).Perm l:=
 (zq (fun _=>rfl) (c:=aqr) (q:=(fun _ _=>True)) (d:=nH) (Pe:=aiX) (fun a m b l h=>Kz _ a m b l h) ⟨h,rfl⟩).2
theorem ajO {l:List Raw}(h:l.length<=1048576):(NL l).Perm l:=anm ⟨by omega,fun _ _ _ _=>trivial⟩
end
end Go.Proofs.YtebmficbjhcohaaGreatDoor
