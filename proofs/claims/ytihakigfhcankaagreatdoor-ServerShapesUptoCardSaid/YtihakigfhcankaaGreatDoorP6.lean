/- Server: merging, the parts. -/
import Derived.Test.YtihakigfhcankaaGreatDoorP5
import Derived.Test.YtihakigfhcankaaGreatDoorEng17
import Derived.WalkKit
import Derived.WalkSpells
import Derived.Laws.Externs
import Derived.Shelf.RegionOpenPlain
import Derived.Lib.Walk
import Derived.Lib.SliceRun
namespace Go.Proofs.YtihakigfhcankaaGreatDoor
noncomputable section
open Go.RowKit Go.Vc
open Tryz
set_option linter.unusedVariables false
set_option linter.unusedSimpArgs false
set_option maxRecDepth 100000
theorem EC {A:Type}{l:List (List A)}{k:Nat}(h:k < l.length):(l.take (k+1)).flatten=(l.take k).flatten++l.getD k []:=by
 rw[take_snoc (d:=[]) h,List.flatten_append];simp
theorem agx {A:Type}(l:List (List A))(k:Nat):(l.take k).flatten.length<=l.flatten.length:=by
 have e:l.flatten=(l.take k).flatten++(l.drop k).flatten:=by rw[<-List.flatten_append,Qcq]
 rw[e,pz];omega
theorem av8 (w:World):Calls Tryz.prog 432 #[.slice none 0 0, .int .i64 0] w fun e w'=>e= .returned (.slice none 0 0)/\w'=w:=by
 have mixed:Tryz.prog.follows Departure.mixedOrders=true:=by kernel_rfl
 go_enter func432,ntmps432
 go_wp2
 go_ret
 exact⟨rfl,rfl⟩
set_option maxHeartbeats 1000000 in
theorem ayq (n h cc:Nat)(w w1:World)(hn:0 < n)(hc:n<=cc)(hm:n<=9223372036854775807)(hap:∀ty,(Builtin.append_ #[72,3] ty #[.slice none 0 0, .int .i64 n]).run Tryz.prog w= .ok (.slice (some ⟨h,0,none⟩) n cc) w1):
  Calls Tryz.prog 432 #[.slice none 0 0, .int .i64 n] w fun e w'=>e= .returned (.slice (some ⟨h,0,none⟩) 0 cc)/\w'=w1:=by
 have h1:¬((n:Int) < 0):=by omega
 have h2:IntKind.i64.wrap ((n:Int))=(n:Int):=by rw[IntKind.wrap_i64];omega
 have h4:(n:Int) > 0:=by omega
 have h5:(0:Int) < (n:Int):=by omega
 have mixed:Tryz.prog.follows Departure.mixedOrders=true:=by kernel_rfl
 go_enter func432,ntmps432
 go_wp2_with (at_builtin;refine Lib.wpList_append_run _ rfl _ _ 72 3 rfl _ _ rfl rfl _ _ (hap _) ?_)
 all_goals (go_ret;exact⟨rfl,rfl⟩)
def aiP:Ct D:=UN S 77 7 128 ([.int .i64 0, .int .u64 0, .string ⟨#[]⟩, .slice none 0 0, .slice none 0 0, .slice none 0 0, .slice none 0 0].map fun v=>(xG v).norm)
theorem ag3:fV Tryz.prog S 432 aiP:=by
 obtain⟨inf,z,h1,h2,h3,h4,h5⟩:=qR (aep 77 _ rfl);refine LC (t:=72) (ti:=3) (kn:= .i64) (inf:=inf) (z:=z) amq (fun args w=> ?_) ⟨av8,ayq⟩ lY underlying72 underlying3 h1 h2 h3 h4 ?_
 ·have hf:=func432;have hnm:¬f432.name= "runtime.NumGoroutine" :=by decide+kernel
  obtain⟨c,hc⟩:∃c,f432.body=some c:=⟨_,rfl⟩;simp[callFunc,hf,hnm,hc]
 ·rw[<-O5,h5];rfl
def aCe:aU Z:=⟨432,aiP,ag3⟩
def axk (l:List (List af)):Pg (List af):=.cut (fun(y4:Int)=> .ob (0<=y4/\y4*(128:Int)<=281474976710656/\y4<=1099511627776) (aL l (.each false qw l [] (fun i5 (a7 y6:List af)=> .ix i5 l.length (.ob (bT (y6.length+a7.length) 128) (rl (y6++a7)))) (fun i5 (y6:List af)=> .ret y6) (List.replicate 0 (af.mk 0 0 [] [] [] [] []))))) (aL l (.each false qw l [] (fun i1 a3 (y2:Int)=> .ix i1 l.length (aL a3 (.lt (dD .i64 (y2+(↑a3.length:Int))) fun(v8:Int)=> .br (decide (v8 < 0)) (.no default) (rl v8)))) (fun(i1 y2:Int)=> rl y2) 0))
def azX (l:List (List af)):=(axk l).val
theorem aeE (l:List (List af))(h:l.flatten.length<=2097152/\l.length<=2097152):jP (axk l) (fun r=>r=l.flatten):=
 by
 have hl:=agx l;unfold axk;refine dh (fun y=>y=(l.flatten.length:Int)) (bZ (df (fun k y=>y=((l.take k).flatten.length:Int)) rfl au (fun k y hk hI=> ?_) (fun y hI=>ah qbs))) (fun y4 hy4=>ak ⟨by omega,by omega,by omega⟩ (bZ (df (fun k y=>y=(l.take k).flatten) rfl au (fun k y hk hI=> ?_) (fun y hI=>ah qbs))))
 ·have e:=Qd List.length (EC hk);rw[pz]at e;have h1:=hl (k+1);exact bi au au (bZ (pG fun v8 Py hw=>bV (fun hlt=>absurd hlt au) (fun _=>ah (by show v8=_;omega))))
 ·have e:=EC hk;have h1:=hl (k+1);rw[e,pz]at h1;exact bi au au (ak qce (ah (by rw[hI];exact e.symm)))
def aC2:aU Z:=E1 [aCe] [jS 3 (bP (fun sl=>[s0 11, s0 3]) (az cI (l1 cI))),jS 11 (bP (fun sl=>[s0 27, .slot 6 false [some 77]]) (az cI (l1 jh))),jS 100009 (bP (fun sl=>[s0 3]) (l1 cI))] (a1 (bn Yy)) (shr [.slot 0 false [some 77]] (l1 jh)) [] func385 1 axk (fun a=>a.flatten.length<=2097152/\a.length<=2097152) fun a h=>(aeE a h).1
theorem ayw (w:World):Calls Tryz.prog 433 #[.slice none 0 0, .int .i64 0] w fun e w'=>e= .returned (.slice none 0 0)/\w'=w:=by
 have mixed:Tryz.prog.follows Departure.mixedOrders=true:=by kernel_rfl
 go_enter func433,ntmps433
 go_wp2
 go_ret
 exact⟨rfl,rfl⟩
set_option maxHeartbeats 1000000 in
theorem auQ (n h cc:Nat)(w w1:World)(hn:0 < n)(hc:n<=cc)(hm:n<=9223372036854775807)(hap:∀ty,(Builtin.append_ #[73,3] ty #[.slice none 0 0, .int .i64 n]).run Tryz.prog w= .ok (.slice (some ⟨h,0,none⟩) n cc) w1):
  Calls Tryz.prog 433 #[.slice none 0 0, .int .i64 n] w fun e w'=>e= .returned (.slice (some ⟨h,0,none⟩) 0 cc)/\w'=w1:=by
 have h1:¬((n:Int) < 0):=by omega
 have h2:IntKind.i64.wrap ((n:Int))=(n:Int):=by rw[IntKind.wrap_i64];omega
 have h4:(n:Int) > 0:=by omega
 have h5:(0:Int) < (n:Int):=by omega
 have mixed:Tryz.prog.follows Departure.mixedOrders=true:=by kernel_rfl
 go_enter func433,ntmps433
 go_wp2_with (at_builtin;refine Lib.wpList_append_run _ rfl _ _ 73 3 rfl _ _ rfl rfl _ _ (hap _) ?_)
 all_goals (go_ret;exact⟨rfl,rfl⟩)
def ajx:Ct D:=UN S 328 14 256 ([.int .i64 0, .int .u64 0, .string ⟨#[]⟩, .slice none 0 0, .slice none 0 0, .slice none 0 0, .slice none 0 0, .int .i64 0, .int .u64 0, .string ⟨#[]⟩, .slice none 0 0, .slice none 0 0, .slice none 0 0, .slice none 0 0].map fun v=>(xG v).norm)
theorem afZ:fV Tryz.prog S 433 ajx:=by
 obtain⟨inf,z,h1,h2,h3,h4,h5⟩:=qR (aep 328 _ rfl);refine LC (t:=73) (ti:=3) (kn:= .i64) (inf:=inf) (z:=z) amq (fun args w=> ?_) ⟨ayw,auQ⟩ lY underlying73 underlying3 h1 h2 h3 h4 ?_
 ·have hf:=func433;have hnm:¬f433.name= "runtime.NumGoroutine" :=by decide+kernel
  obtain⟨c,hc⟩:∃c,f433.body=some c:=⟨_,rfl⟩;simp[callFunc,hf,hnm,hc]
 ·rw[<-O5,h5];rfl
def aDO:aU Z:=⟨433,ajx,afZ⟩
def axQ (l:List (List Pair)):Pg (List Pair):=.cut (fun(y4:Int)=> .ob (0<=y4/\y4*(256:Int)<=281474976710656/\y4<=1099511627776) (aL l (.each false qw l [] (fun i5 (a7 y6:List Pair)=> .ix i5 l.length (.ob (bT (y6.length+a7.length) 256) (rl (y6++a7)))) (fun i5 (y6:List Pair)=> .ret y6) (List.replicate 0 (Pair.mk (af.mk 0 0 [] [] [] [] []) (af.mk 0 0 [] [] [] [] [])))))) (aL l (.each false qw l [] (fun i1 a3 (y2:Int)=> .ix i1 l.length (aL a3 (.lt (dD .i64 (y2+(↑a3.length:Int))) fun(v8:Int)=> .br (decide (v8 < 0)) (.no default) (rl v8)))) (fun(i1 y2:Int)=> rl y2) 0))
def az8 (l:List (List Pair)):=(axQ l).val
theorem aeN (l:List (List Pair))(h:l.flatten.length<=2097152/\l.length<=2097152):jP (axQ l) (fun r=>r=l.flatten):=
 by
 have hl:=agx l;unfold axQ;refine dh (fun y=>y=(l.flatten.length:Int)) (bZ (df (fun k y=>y=((l.take k).flatten.length:Int)) rfl au (fun k y hk hI=> ?_) (fun y hI=>ah qbs))) (fun y4 hy4=>ak ⟨by omega,by omega,by omega⟩ (bZ (df (fun k y=>y=(l.take k).flatten) rfl au (fun k y hk hI=> ?_) (fun y hI=>ah qbs))))
 ·have e:=Qd List.length (EC hk);rw[pz]at e;have h1:=hl (k+1);exact bi au au (bZ (pG fun v8 Py hw=>bV (fun hlt=>absurd hlt au) (fun _=>ah (by show v8=_;omega))))
 ·have e:=EC hk;have h1:=hl (k+1);rw[e,pz]at h1;exact bi au au (ak qce (ah (by rw[hI];exact e.symm)))
def aDL:aU Z:=E1 [aDO] [jS 3 (bP (fun sl=>[s0 11, s0 3]) (az cI (l1 cI))),jS 11 (bP (fun sl=>[s0 27, .slot 6 false [some 328]]) (az cI (l1 dZ))),jS 100009 (bP (fun sl=>[s0 3]) (l1 cI))] (a1 (bn YM)) (shr [.slot 0 false [some 328]] (l1 dZ)) [] func386 1 axQ (fun a=>a.flatten.length<=2097152/\a.length<=2097152) fun a h=>(aeN a h).1
theorem avI (w:World):Calls Tryz.prog 434 #[.slice none 0 0, .int .i64 0] w fun e w'=>e= .returned (.slice none 0 0)/\w'=w:=by
 have mixed:Tryz.prog.follows Departure.mixedOrders=true:=by kernel_rfl
 go_enter func434,ntmps434
 go_wp2
 go_ret
 exact⟨rfl,rfl⟩
set_option maxHeartbeats 1000000 in
theorem avO (n h cc:Nat)(w w1:World)(hn:0 < n)(hc:n<=cc)(hm:n<=9223372036854775807)(hap:∀ty,(Builtin.append_ #[75,3] ty #[.slice none 0 0, .int .i64 n]).run Tryz.prog w= .ok (.slice (some ⟨h,0,none⟩) n cc) w1):
  Calls Tryz.prog 434 #[.slice none 0 0, .int .i64 n] w fun e w'=>e= .returned (.slice (some ⟨h,0,none⟩) 0 cc)/\w'=w1:=by
 have h1:¬((n:Int) < 0):=by omega
 have h2:IntKind.i64.wrap ((n:Int))=(n:Int):=by rw[IntKind.wrap_i64];omega
 have h4:(n:Int) > 0:=by omega
 have h5:(0:Int) < (n:Int):=by omega
 have mixed:Tryz.prog.follows Departure.mixedOrders=true:=by kernel_rfl
 go_enter func434,ntmps434
 go_wp2_with (at_builtin;refine Lib.wpList_append_run _ rfl _ _ 75 3 rfl _ _ rfl rfl _ _ (hap _) ?_)
 all_goals (go_ret;exact⟨rfl,rfl⟩)
def akD:Ct D:=UN S 264 4 40 ([.int .i64 0, .int .i64 0, .int .u64 0, .string ⟨#[]⟩].map fun v=>(xG v).norm)
theorem afG:fV Tryz.prog S 434 akD:=by
 obtain⟨inf,z,h1,h2,h3,h4,h5⟩:=qR (aep 264 _ rfl);refine LC (t:=75) (ti:=3) (kn:= .i64) (inf:=inf) (z:=z) amq (fun args w=> ?_) ⟨avI,avO⟩ lY underlying75 underlying3 h1 h2 h3 h4 ?_
 ·have hf:=func434;have hnm:¬f434.name= "runtime.NumGoroutine" :=by decide+kernel
  obtain⟨c,hc⟩:∃c,f434.body=some c:=⟨_,rfl⟩;simp[callFunc,hf,hnm,hc]
 ·rw[<-O5,h5];rfl
def aBa:aU Z:=⟨434,akD,afG⟩
def avk (l:List (List Raw)):Pg (List Raw):=.cut (fun(y4:Int)=> .ob (0<=y4/\y4*(40:Int)<=281474976710656/\y4<=1099511627776) (aL l (.each false qw l [] (fun i5 (a7 y6:List Raw)=> .ix i5 l.length (.ob (bT (y6.length+a7.length) 40) (rl (y6++a7)))) (fun i5 (y6:List Raw)=> .ret y6) (List.replicate 0 (Raw.mk 0 0 0 []))))) (aL l (.each false qw l [] (fun i1 a3 (y2:Int)=> .ix i1 l.length (aL a3 (.lt (dD .i64 (y2+(↑a3.length:Int))) fun(v8:Int)=> .br (decide (v8 < 0)) (.no default) (rl v8)))) (fun(i1 y2:Int)=> rl y2) 0))
def arT (l:List (List Raw)):=(avk l).val
theorem ad6 (l:List (List Raw))(h:l.flatten.length<=2097152/\l.length<=2097152):jP (avk l) (fun r=>r=l.flatten):=
 by
 have hl:=agx l;unfold avk;refine dh (fun y=>y=(l.flatten.length:Int)) (bZ (df (fun k y=>y=((l.take k).flatten.length:Int)) rfl au (fun k y hk hI=> ?_) (fun y hI=>ah qbs))) (fun y4 hy4=>ak ⟨by omega,by omega,by omega⟩ (bZ (df (fun k y=>y=(l.take k).flatten) rfl au (fun k y hk hI=> ?_) (fun y hI=>ah qbs))))
 ·have e:=Qd List.length (EC hk);rw[pz]at e;have h1:=hl (k+1);exact bi au au (bZ (pG fun v8 Py hw=>bV (fun hlt=>absurd hlt au) (fun _=>ah (by show v8=_;omega))))
 ·have e:=EC hk;have h1:=hl (k+1);rw[e,pz]at h1;exact bi au au (ak qce (ah (by rw[hI];exact e.symm)))
def aCG:aU Z:=E1 [aBa] [jS 3 (bP (fun sl=>[s0 11, s0 3]) (az cI (l1 cI))),jS 11 (bP (fun sl=>[s0 27, .slot 6 false [some 264]]) (az cI (l1 bD))),jS 100009 (bP (fun sl=>[s0 3]) (l1 cI))] (a1 (bn ad1)) (shr [.slot 0 false [some 264]] (l1 bD)) [] func387 1 avk (fun a=>a.flatten.length<=2097152/\a.length<=2097152) fun a h=>(ad6 a h).1
def clF (l:List aJ):Pg (List aJ):=.unk false (fun(b:Bool)=>b=true->l.length=0) (.ret []) (.ob (bT (0+l.length) 240) (.ret l))
theorem aCV (l:List aJ)(h:l.length<=1048576):Is (clF l):=
 qI (b_ au au)
def aE1:aU Z:=E2 [] [] (a1 (bn gp)) (shr [.slot 0 false [some 79]] (l1 gp)) [] func429 1 clF (fun a=>some (a.length<=1048576)) (fun a=>a) fun a h=>⟨aCV a h,rfl⟩
def unC (x:aJ)(name:Str):Pg Bool:=.ret (x.Union !=name)
def aeQ (x:aJ)(name:Str):=(unC x name).val
def asw:aU Z:=vX [] [] (aj (aF eG) (a1 (iM 0))) (b1 (aP cStr)) (R1 aG) [0] func430 1 (u11 unC)
def azP:aU Z:=GG [asw] gp 430 [0] (b1 (aP cStr)) func345 aN fun x b=>aeQ x b
def unD (l:List aJ)(name:Str):Pg (List aJ):=.lt (fG (fun(x:aJ)=>aeQ x name) l) fun(v4:Int)=> .br (v4==(-1)) (.ret l) (.lt (dD .i64 (v4+1)) fun(v5:Int)=> .wh (l.length+1) default (fun(x3:Int×Int×List aJ)=> aL x3.2.2 (.br (decide (x3.1 < (↑x3.2.2.length:Int))) (.ix x3.1 x3.2.2.length (.ob (x3.1.toNat < x3.2.2.length) (.lt (dD .i64 (x3.1+1)) fun(v6:Int)=> .br (!aeQ (aJ.mk (x3.2.2.getD x3.1.toNat aN).Num (x3.2.2.getD x3.1.toNat aN).Name (x3.2.2.getD x3.1.toNat aN).Card (x3.2.2.getD x3.1.toNat aN).Key (x3.2.2.getD x3.1.toNat aN).eF (x3.2.2.getD x3.1.toNat aN).Union (x3.2.2.getD x3.1.toNat aN).dn (x3.2.2.getD x3.1.toNat aN).Default.re (x3.2.2.getD x3.1.toNat aN).Notes) name) (.ix x3.2.1 x3.2.2.length (.ob (x3.2.1.toNat < x3.2.2.length) (rl (v6,dD .i64 (x3.2.1+1), x3.2.2.set x3.2.1.toNat (aJ.mk (x3.2.2.getD x3.1.toNat aN).Num (x3.2.2.getD x3.1.toNat aN).Name (x3.2.2.getD x3.1.toNat aN).Card (x3.2.2.getD x3.1.toNat aN).Key (x3.2.2.getD x3.1.toNat aN).eF (x3.2.2.getD x3.1.toNat aN).Union (x3.2.2.getD x3.1.toNat aN).dn (x3.2.2.getD x3.1.toNat aN).Default.re (x3.2.2.getD x3.1.toNat aN).Notes))))) (rl (v6,x3.2))))) (.ob (0<=x3.2.1/\x3.2.1<=(↑x3.2.2.length:Int)/\(↑x3.2.2.length:Int)<=(↑x3.2.2.length:Int)) (.ob (x3.2.2.length=x3.2.2.length) (.lt (List.take x3.2.1.toNat x3.2.2++ List.replicate (x3.2.2.length - x3.2.1.toNat) (aJ.mk 0 [] 0 0 (sW.mk 0 []) [] false (af.mk 0 0 [] [] [] [] []) [])) fun(v7:List aJ)=> .ob ((0:Int)<=0/\0<=x3.2.1/\x3.2.1<=(↑v7.length:Int)) (.ret (.inr (List.take x3.2.1.toNat v7)))))))) (v5,v4,l))
theorem aj3 (l:List aJ)(name:Str):unD l name=acK (fun(x:aJ)=>aeQ x name) aN l:=by
 unfold unD acK;(try simp only[af.dM])
 rfl
theorem aBw (l:List aJ)(name:Str)(h:l.length<=1048576):Is (unD l name):=
 by
 rw[aj3];exact(LG (fun(x:aJ)=>aeQ x name) aN l au).1
def aGC:aU Z:=O6 [UB,abE,afv,azP,asw] [jS 5 (bP (fun sl=>[s0 6, s0 5, .row (pid (sl 0)) 79]) (az cI (az cI (l1 gp))))] (aj (ng 0) (a1 (kJ 430 [1]))) (iC (j_ 79 D.aJ uu) (b1 (aP cStr))) (R1 gp) [1] func428 1 (fun a=>unD a.2.1 a.2.2) (fun a=>some (a.2.1.length<=1048576)) (fun a=>a.2.1.filter fun(x:aJ)=> !(aeQ x a.2.2)) fun a h=>⟨aBw a.2.1 a.2.2 h,(fun(l:List aJ) name (h:l.length<=1048576)=>(Qd Pg.val (aj3 l name)).trans (LG (fun(x:aJ)=>aeQ x name) aN l au).2) a.2.1 a.2.2 h⟩
def aoG (m:bg)(name:Str):Pg (List aJ):=.br (name==[]) (.ret []) (.ob (m.Fields.length<=1048576) (.ob (m.Fields.length<=1048576) (.ret (List.filter (fun(x:aJ)=> !aeQ x name) m.Fields))))
def avx (m:bg)(name:Str):=(aoG m name).val
def arQ:aU Z:=E1 [aGC,aE1,asw] [] (aj (aF gQ) (a1 (bn cStr))) (R1 gp) [] func381 1 (u2 aoG) fun a=>a.1.Fields.length<=1048576
def phC (x:Slot)(num:Int):Pg Bool:=.ret (x.Num==num)
def aFi (x:Slot)(num:Int):=(phC x num).val
def aze:aU Z:=vX [] [] (aj (aF mg) (a1 (iM 0))) (b1 (aP cI)) (R1 aG) [0] func448 1 (u11 phC)
def aq4:aU Z:=GG [aze] bF 448 [0] (b1 (aP cI)) func333 bI fun x b=>aFi x b
def aoK (l:List Slot)(num:Int):Pg Int:=.ret (fG (fun(x:Slot)=>aFi x num) l)
def au6 (l:List Slot)(num:Int):=(aoK l num).val
def aow:aU Z:=E0 [aq4,aze] [] (aj (bn bF) (a1 (bn cI))) (R1 cI) [] func431 1 (u2 aoK)
def aG8 (v:af)(num:Int):Pg Bool:=.lt (au6 v.Slots num) fun(v1:Int)=> .ret (decide (0<=v1))
def aGe (v:af)(num:Int):=(aG8 v num).val
def aAP:aU Z:=E0 [aow] [] (aj (aF aI) (a1 (bn cI))) (R1 aG) [] func383 1 (u2 aG8)
def moC (g:aJ)(f:aJ)(b:af):Pg Bool:=.br (g.Num !=f.Num) (.ret (aGe b.re g.Num)) (.ret false)
def aCC (g:aJ)(f:aJ)(b:af):=(moC g f b).val
def ar6:aU Z:=vX [aAP] [] (aj (aF eG) (aj (iM 0) (a1 (iM 1)))) (iC (aP eG) (b1 (aP aI))) (R1 aG) [0,1] func382 1 fun a=>moC a.1.1 a.2.1 a.2.2
def aEP:aU Z:=GG [ar6] gp 382 [0,1] (iC (aP eG) (b1 (aP aI))) func345 aN fun x b=>aCC x b.1 b.2
def aGj:aU Z:=EAB [UB,abE,afv,azP,aEP,ar6] gp 382 [0,1] (iC (aP eG) (b1 (aP aI))) func241 fun x b=>aCC x b.1 b.2
def ain (m:bg)(f:aJ)(b:af):Pg Bool:=.ob (m.Fields.length<=1048576) (.ret ((avx m f.Union).any fun(x:aJ)=>aCC x (aJ.mk f.Num f.Name f.Card f.Key f.eF f.Union f.dn f.Default.re f.Notes) b.re))
def apZ (m:bg)(f:aJ)(b:af):=(ain m f b).val
def ame:aU Z:=E1 [ahn,atI,apc,aGj,arQ,ar6] [] (aj (aF gQ) (aj (aF eG) (a1 (aF aI)))) (R1 aG) [] func285 1 (u3 ain) fun a=>a.1.Fields.length<=1048576
def mgC (x:Slot)(m:bg)(b:af):Pg Bool:=.ob (m.Fields.length<=1048576) (.lt (Qp m x.Num) fun(v1:aJ×Bool)=> .ret (apZ m (aJ.mk v1.1.Num v1.1.Name v1.1.Card v1.1.Key v1.1.eF v1.1.Union v1.1.dn v1.1.Default.re v1.1.Notes) b.re))
def Ls (x:Slot)(m:bg)(b:af):=(mgC x m b).val
def asD:aU Z:=EK [KJ,ame] [] (aj (aF mg) (aj (iM 0) (a1 (iM 1)))) (iC (aP gQ) (b1 (aP aI))) (R1 aG) [0,1] func284 1 (fun a=>mgC a.1.1 a.2.1 a.2.2) fun a=>a.2.1.Fields.length<=1048576
def mgI (l:List Slot)(m:bg)(b:af):Pg Int:=aL l (.each false tX l bI (fun i1 a3 (y2:Unit)=> .ix i1 l.length (.ob (i1.toNat < l.length) (.ob (m.Fields.length<=1048576) (.br (Ls (Slot.mk a3.Num a3.Val.re) m b.re) (.ret (.inr i1)) (rl ()))))) (fun i1 (y2:Unit)=> .ret (-1)) ())
theorem aAZ (l:List Slot)(m:bg)(b:af):(mgI l m b).val=fG (fun x=>Ls x m b) l:=by
 unfold mgI;simp only[kN,qJ,iV,dK,bH,aV,af.dM];exact o5 (fun x=>Ls x m b) l 0
theorem aDF (l:List Slot)(m:bg)(b:af)(h:m.Fields.length<=1048576):Is (mgI l m b):=
 iH fun _=>gU (.inr au) (fun i1 y2 _ _=>dm au au (aX au (aX h (di iR iR)))) (fun y2 _=>aT)
def azp:aU Z:=O6 [asD] [jS 2 (bP (fun sl=>[s0 8]) (l1 cI))] (aj (ng 0) (a1 (kJ 284 [1,2]))) (iC (j_ 257 D.Slot jE) (iC (aP gQ) (b1 (aP aI)))) (R1 cI) [0,1,2] func333 1 (fun a=>mgI a.2.1 a.2.2.1 a.2.2.2) (fun a=>some (a.2.2.1.Fields.length<=1048576)) (fun a=>fG (fun(x:Slot)=>Ls x a.2.2.1 a.2.2.2) a.2.1) fun a h=>⟨aDF a.2.1 a.2.2.1 a.2.2.2 h,(fun l m b _=>aAZ l m b) a.2.1 a.2.2.1 a.2.2.2 h⟩
def mgD (l:List Slot)(m:bg)(b:af):Pg (List Slot):=.ob (m.Fields.length<=1048576) (.lt (fG (fun(x:Slot)=>Ls x m b.re) l) fun(v4:Int)=> .br (v4==(-1)) (.ret l) (.lt (dD .i64 (v4+1)) fun(v5:Int)=> .wh (l.length+1) default (fun(x3:Int×Int×List Slot)=> aL x3.2.2 (.br (decide (x3.1 < (↑x3.2.2.length:Int))) (.ix x3.1 x3.2.2.length (.ob (x3.1.toNat < x3.2.2.length) (.ob (m.Fields.length<=1048576) (.lt (dD .i64 (x3.1+1)) fun(v6:Int)=> .br (!Ls (Slot.mk (x3.2.2.getD x3.1.toNat bI).Num (x3.2.2.getD x3.1.toNat bI).Val.re) m b.re) (.ix x3.2.1 x3.2.2.length (.ob (x3.2.1.toNat < x3.2.2.length) (rl (v6,dD .i64 (x3.2.1+1), x3.2.2.set x3.2.1.toNat (Slot.mk (x3.2.2.getD x3.1.toNat bI).Num (x3.2.2.getD x3.1.toNat bI).Val.re))))) (rl (v6,x3.2)))))) (.ob (0<=x3.2.1/\x3.2.1<=(↑x3.2.2.length:Int)/\(↑x3.2.2.length:Int)<=(↑x3.2.2.length:Int)) (.ob (x3.2.2.length=x3.2.2.length) (.lt (List.take x3.2.1.toNat x3.2.2++ List.replicate (x3.2.2.length - x3.2.1.toNat) (Slot.mk 0 (af.mk 0 0 [] [] [] [] []))) fun(v7:List Slot)=> .ob ((0:Int)<=0/\0<=x3.2.1/\x3.2.1<=(↑v7.length:Int)) (.ret (.inr (List.take x3.2.1.toNat v7)))))))) (v5,v4,l)))
def UY {A:Type}(c:Prop)(p:A->Bool)(d:A)(l:List A):Pg (List A):=.ob c <| .lt (fG p l) fun v1=> .br (v1==(-1)) (.ret l) (.lt (dD .i64 (v1+1)) fun v4=> .wh (l.length+1) default (fun(x3:Int×Int×List A)=> aL x3.2.2 (.br (decide (x3.1 < (↑x3.2.2.length:Int))) (.ix x3.1 x3.2.2.length (.ob (x3.1.toNat < x3.2.2.length) <| .ob c (.lt (dD .i64 (x3.1+1)) fun(v5:Int)=> .br (!p (x3.2.2.getD x3.1.toNat d)) (.ix x3.2.1 x3.2.2.length (.ob (x3.2.1.toNat < x3.2.2.length) (rl (v5,dD .i64 (x3.2.1+1),x3.2.2.set x3.2.1.toNat (x3.2.2.getD x3.1.toNat d))))) (rl (v5,x3.2))))) (.ob (0<=x3.2.1/\x3.2.1<=(↑x3.2.2.length:Int)/\(↑x3.2.2.length:Int)<=(↑x3.2.2.length:Int)) (.ob (x3.2.2.length=x3.2.2.length) (.lt (List.take x3.2.1.toNat x3.2.2++List.replicate (x3.2.2.length - x3.2.1.toNat) d) fun(v6:List A)=> .ob ((0:Int)<=0/\0<=x3.2.1/\x3.2.1<=(↑v6.length:Int)) (.ret (.inr (List.take x3.2.1.toNat v6)))))))) (v4,v1,l))
structure Y2 {A:Type}(p:A->Bool)(l:List A)(x:Int×Int×List A)(j i:Nat):Prop where
 hj:x.1=↑j
 hi:x.2.1=↑i
 lt:i < j
 le:j<=l.length
 len:x.2.2.length=l.length
 tk:x.2.2.take i=(l.take j).filter fun a=> !p a
 dr:x.2.2.drop j=l.drop j
theorem ajK {A:Type}{c:Prop}(hc:c)(p:A->Bool)(d:A)(l:List A)(hl:l.length<=9223372036854775806):Is (UY c p d l)/\(UY c p d l).val=l.filter fun a=> !p a:=by
 unfold UY;rcases rF p l with⟨h1,h2⟩ | ⟨u,a,v,hu,ha,hb,hx⟩
 ·rw[h1];refine⟨aX hc <| dB fun v1 hv1=>by subst hv1;exact di iR (fun h=>by cases h),?_⟩;simp only[dK,dE,bH,aV];refine(Qdt.2 fun a ha=> ?_).symm;rw[h2 a ha];rfl
 ·rw[hx];have hlen:l.length=u.length+(v.length+1):=by rw[hu];simp
  have hne:(((u.length:Int))== -1)=false:=by
   rw[Qb7];omega
  have hw:dD .i64 ((u.length:Int)+1)=((u.length+1:Nat):Int):=by
   rw[fO (k:= .i64) zO];omega
  have h0:Y2 p l (dD .i64 ((u.length:Int)+1),(u.length:Int),l) (u.length+1) u.length:=by
   refine⟨hw,rfl,by omega,by omega,rfl,?_,rfl⟩;show l.take u.length=_
   rw[hu];have:(u++a::v).take (u.length+1)=u++[a]:=by
    rw[show u++a::v=(u++[a])++v by simp,show u.length+1=(u++[a]).length by simp,Qc7]
   rw[this,Qbw,Qc7];have e1:u.filter (fun a=> !p a)=u:=Qdt.2 fun x hx=>by rw[hb x hx];rfl
   rw[e1];simp[ha]
  have at_:∀(x:Int×Int×List A) (j i:Nat),Y2 p l x j i->j < l.length->x.2.2.getD j d=l.getD j d/\l.take (j+1)=l.take j++[l.getD j d]/\x.2.2.drop (j+1)=l.drop (j+1):=by
   intro x j i hx hj;have hj2:j < x.2.2.length:=by rw[hx.len];exact hj
   have e1:=Qbm hj;have e2:=Qbm hj2;have:=hx.dr;rw[e1,e2]at this;injection this with q1 q2
   refine⟨by rw[getD_some hj,getD_some hj2,q1],?_,q2⟩;rw[getD_some hj,Qbv hj]
  have step:∀(x:Int×Int×List A) (j i:Nat),Y2 p l x j i->j < l.length->∀q,p (l.getD j d)=q->
    Y2 p l (dD .i64 (x.1+1),(cond (!q) (dD .i64 (x.2.1+1),x.2.2.set x.2.1.toNat (x.2.2.getD x.1.toNat d)) x.2)) (j+1) (cond (!q) (i+1) i):=by
   intro x j i hx hj q hq;obtain⟨k1,k2,k3⟩:=at_ x j i hx hj
   have w1:dD .i64 (x.1+1)=((j+1:Nat):Int):=by rw[hx.hj,fO (k:= .i64) zO];omega
   have hlt:=hx.lt;cases q with
   | true=>
    refine⟨w1,hx.hi,?_,by omega,hx.len,?_,k3⟩
    ·simp;omega
    ·show x.2.2.take i=_
     rw[hx.tk,k2,Qbw,Qcg,hq];simp
   | false=>
    refine⟨w1,?_,?_,by omega,?_,?_,?_⟩
    ·show dD .i64 (x.2.1+1)=_
     rw[hx.hi,fO (k:= .i64) zO];simp
    ·simp;omega
    ·simp[hx.len]
    ·show(x.2.2.set x.2.1.toNat (x.2.2.getD x.1.toNat d)).take (i+1)=_
     rw[hx.hi,hx.hj,zk,zk,k1];have hi2:i < (x.2.2.set i (l.getD j d)).length:=by rw[Qbq,hx.len];omega
     rw[Qbv hi2,List.getElem_set_self,List.take_set_of_le (lU i),hx.tk,k2,Qbw,Qcg,hq];simp
    ·show(x.2.2.set x.2.1.toNat (x.2.2.getD x.1.toNat d)).drop (j+1)=_
     rw[hx.hi,zk,Qdr au];exact k3
  refine⟨aX hc <| dB fun v1 hv1=>di iR fun _=>dB fun v4 hv4=> ?_,?_⟩
  ·subst hv1 hv4;refine Gg (fun x=>∃j i,Y2 p l x j i) (fun x=>l.length - x.1.toNat) ⟨_,_,h0⟩ au ?_;rintro x ⟨j,i,hx⟩;have q1:=hx.hj;have q2:=hx.hi;have q3:=hx.lt;have q4:=hx.le;have q5:=hx.len;refine⟨iH fun _=>dV (fun h=>dm au au (aX au <| aX hc (dB fun v5 hv5=>di (fun _=>dm au au (aX au aT)) iR))) (fun h=>aX au (aX rfl (dB fun v6 hv6=>aX qb4 aT))),fun x' hx'=> ?_⟩;revert hx';simp only[kN,bH,iV,dK,dE,aV];by_cases h:x.1 < (↑x.2.2.length:Int)
   ·simp only[h,decide_true,wB];intro e;have hj:j < l.length:=by omega
    obtain⟨k1,_,_⟩:=at_ x j i hx hj
    have hs:=step x j i hx hj _ rfl;have ek:x.2.2.getD x.1.toNat d=l.getD j d:=by rw[q1,zk];exact k1
    rw[ek]at e hs;have w1:dD .i64 (x.1+1)=((j+1:Nat):Int):=hs.hj;cases hq:p (l.getD j d)with
    | true=>
     rw[hq]at e hs;injection e with e
     subst e;exact⟨⟨_,_,hs⟩,by
       have:(dD .i64 (x.1+1)).toNat=j+1:=by rw[w1];rfl
       show l.length - (dD .i64 (x.1+1)).toNat < _
       omega⟩
    | false=>
     rw[hq]at e hs;injection e with e
     subst e;exact⟨⟨_,_,hs⟩,by
       have:(dD .i64 (x.1+1)).toNat=j+1:=by rw[w1];rfl
       show l.length - (dD .i64 (x.1+1)).toNat < _
       omega⟩
   ·simp only[h,decide_false,nR];intro e;cases e
  ·simp only[dE,bH,hne,nR,Bv];refine KC (fun x=>∃j i,Y2 p l x j i) (fun x=>l.length - x.1.toNat) (fun r=>r=l.filter fun a=> !p a) ?_ _ _ ⟨_,_,h0⟩ au;rintro x ⟨j,i,hx⟩;have q1:=hx.hj;have q2:=hx.hi;have q3:=hx.lt;have q4:=hx.le;have q5:=hx.len;simp only[kN,bH,iV,dK,dE,aV];by_cases h:x.1 < (↑x.2.2.length:Int)
   ·left
    simp only[h,decide_true,wB];have hj:j < l.length:=by omega
    obtain⟨k1,_,_⟩:=at_ x j i hx hj
    have hs:=step x j i hx hj _ rfl;have ek:x.2.2.getD x.1.toNat d=l.getD j d:=by rw[q1,zk];exact k1
    rw[ek]at hs⊢;have w1:dD .i64 (x.1+1)=((j+1:Nat):Int):=hs.hj;have hm:l.length - (dD .i64 (x.1+1)).toNat < l.length - x.1.toNat:=by
     have:(dD .i64 (x.1+1)).toNat=j+1:=by rw[w1];rfl
     omega
    cases hq:p (l.getD j d)with
    | true=>rw[hq]at hs;exact⟨_,rfl,⟨_,_,hs⟩,hm⟩
    | false=>rw[hq]at hs;exact⟨_,rfl,⟨_,_,hs⟩,hm⟩
   ·right
    simp only[h,decide_false,nR];refine⟨_,rfl,?_⟩;have hj:j=l.length:=by omega
    rw[q2,zk];have e:=hx.tk;rw[hj,DT]at e;rw[<-e,Qbs qa8,Qc8,Nat.min_self]
theorem aol (x:Slot):Slot.mk x.Num x.Val=x:=by cases x;rfl
theorem ajI (l:List Slot)(m:bg)(b:af):mgD l m b=UY (m.Fields.length<=1048576) (fun x=>Ls x m b) bI l:=by
 unfold mgD UY;simp only[af.dM,aol];rfl
theorem aBo (l:List Slot)(m:bg)(b:af)(h:m.Fields.length<=1048576/\l.length<=1048576):(mgD l m b).val=l.filter fun(x:Slot)=> !(Ls x m b):=by
 rw[ajI];exact(ajK h.1 (fun x=>Ls x m b) bI l au).2
theorem aCQ (l:List Slot)(m:bg)(b:af)(h:m.Fields.length<=1048576/\l.length<=1048576):Is (mgD l m b):=
 by
 rw[ajI];exact(ajK h.1 (fun x=>Ls x m b) bI l au).1
def aEF:aU Z:=O6 [asD,aq4,azp] [jS 5 (bP (fun sl=>[s0 6, s0 5, .row (pid (sl 0)) 257]) (az cI (az cI (l1 bF))))] (aj (ng 0) (a1 (kJ 284 [1,2]))) (iC (j_ 257 D.Slot jE) (iC (aP gQ) (b1 (aP aI)))) (shr [.slot 0 false [some 257]] (l1 bF)) [1,2] func283 1 (fun a=>mgD a.2.1 a.2.2.1 a.2.2.2) (fun a=>some (a.2.2.1.Fields.length<=1048576/\a.2.1.length<=1048576)) (fun a=>a.2.1.filter fun(x:Slot)=> !(Ls x a.2.2.1 a.2.2.2)) fun a h=>⟨aCQ a.2.1 a.2.2.1 a.2.2.2 h,aBo a.2.1 a.2.2.1 a.2.2.2 h⟩
def saC (x:Slot)(num:Int):Pg Bool:=.ret (x.Num==num)
def aGo (x:Slot)(num:Int):=(saC x num).val
def azw:aU Z:=vX [] [] (aj (aF mg) (a1 (iM 0))) (b1 (aP cI)) (R1 aG) [0] func384 1 (u11 saC)
def aEZ:aU Z:=GG [azw] bF 384 [0] (b1 (aP cI)) func333 bI fun x b=>aGo x b
def Za (l:List Slot)(num:Int):Pg Int:=.ret (fG (fun(x:Slot)=>aGo x num) l)
def UL (l:List Slot)(num:Int):=(Za l num).val
def amd:aU Z:=E0 [aq4,azp,aEZ,azw] [] (aj (bn bF) (a1 (bn cI))) (R1 cI) [] func286 1 (u2 Za)
def rrC (a:Raw)(b:Raw):Pg Int:=.ret (SK a.Num b.Num)
def anI (a:Raw)(b:Raw):=(rrC a b).val
def Rz:aU Z:=E1 [L9] [] (aj (aF og) (a1 (aF og))) (R1 cI) [] func388 1 (u2 rrC) fun a=>True
def aEu (a:Int)(b:Int)(n:Int)(l:List Raw):Pg (List Raw):=SY (fun a=>a) oN a b n l
theorem av6 (a:Int)(b:Int)(n:Int)(l:List Raw)(h:swQ a b n l.length):Is (aEu a b n l):=
 (Mc (fun _=>rfl) h).1
def aB6:aU Z:=EK [Rz] [jS 1 (bP (fun sl=>[s0 10, .row (pid (sl 0)) 264]) (az cI (l1 bD)))] (aj (ng 0) (aj (bn cI) (aj (bn cI) (aj (bn cI) (a1 (kJ 388 [])))))) (b1 (j_ 264 D.Raw lD)) (shr [.row 0 264] (l1 bD)) [] func447 0 (fun a=>aEu a.1.2.1 a.1.2.2.1 a.1.2.2.2.1 a.2) (fun a=>swQ a.1.2.1 a.1.2.2.1 a.1.2.2.2.1 a.2.length) fun a h=>av6 a.1.2.1 a.1.2.2.1 a.1.2.2.2.1 a.2 h
def aF9 (a:Int)(m:Int)(b:Int)(l:List Raw):Pg (List Raw):=Tc (fun a=>a) oN a m b l
theorem aw5 (a:Int)(m:Int)(b:Int)(l:List Raw)(h:roQ a m b l.length):Is (aF9 a m b l):=
 (LM (fun _=>rfl) h).1
def aAp:aU Z:=EK [Rz,arC,aB6] [jS 2 (bP (fun sl=>[s0 10, s0 11, .row (pid (sl 0)) 264]) (az cI (az cI (l1 bD))))] (aj (ng 0) (aj (bn cI) (aj (bn cI) (aj (bn cI) (a1 (kJ 388 [])))))) (b1 (j_ 264 D.Raw lD)) (shr [.row 0 264] (l1 bD)) [] func427 0 (fun a=>aF9 a.1.2.1 a.1.2.2.1 a.1.2.2.2.1 a.2) (fun a=>roQ a.1.2.1 a.1.2.2.1 a.1.2.2.2.1 a.2.length) fun a h=>aw5 a.1.2.1 a.1.2.2.1 a.1.2.2.2.1 a.2 h
def aC0 (a:Int)(b:Int)(l:List Raw):Pg (List Raw):=SH (fun a=>a) anI (fun _ _=>True) oN a b l
def aEW (a:Int)(b:Int)(l:List Raw):=(aC0 a b l).val
theorem avF (a:Int)(b:Int)(l:List Raw)(h:Gq (fun _ _=>True) a b l):Is (aC0 a b l):=
 (L6 (fun _=>rfl) h).1
def aAR:aU Z:=vS Z [Rz] [jS 1 (bP (fun sl=>[s0 8, .row (pid (sl 0)) 264]) (az cI (l1 bD))),jS 4 (bP (fun sl=>[s0 9, .row (pid (sl 0)) 264]) (az cI (l1 bD)))] (kz (aj (ng 0) (aj (bn cI) (aj (bn cI) (a1 (kJ 388 []))))) (b1 (j_ 264 D.Raw lD))) (oq (n:=53) rfl) (shr [.row 0 264] (l1 bD)) [] func379 ntmps379 dS 0 rfl (fun a=>aC0 (a.1.2.1) (a.1.2.2.1) (a.2)) (fun a=>some (Gq (fun _ _=>True) (a.1.2.1) (a.1.2.2.1) (a.2))) (fun a e _=>by kernel_rfl) (fun a=>aEW (a.1.2.1) (a.1.2.2.1) (a.2)) (fun a h=>⟨avF (a.1.2.1) (a.1.2.2.1) (a.2) h,rfl⟩)
def aFv (aHE:Int->Int->Int->List Raw->List Raw)(NF:Int->Int->Int->List Raw->Prop)(a:Int)(m:Int)(b:Int)(l:List Raw):Pg (List Raw):=XZ (fun a=>a) anI (fun _ _=>True) oN aHE NF a m b l
def NF (fu:Nat)(a:Int)(m:Int)(b:Int)(l:List Raw):Prop:=Wl (fun _ _=>True) fu a m b l
def ali:Nat->(Int->Int->Int->(List Raw)->(List Raw))
 | 0=>(fun _ _ _ _=>default)
 | fu+1=>(fun a m b l=>(aFv ((ali fu)) (NF fu) a m b l).val)
def ajS (a:Int)(m:Int)(b:Int)(l:List Raw):List Raw:=(ali ((b - a).toNat+1)) a m b l
theorem JE:∀(fu:Nat) (a m b:Int) (l:List Raw),NF fu a m b l->(ali fu a m b l).Perm l
 | 0,_,_,_,_,h=>FY h
 | fu+1,_,_,_,_,h=>(yN (fun _=>rfl) (c:=anI) (O4:=ali fu) (Xe:=NF fu) (d:=oN) (fun _ _ _ _ h=>h) (JE fu) h).2
abbrev atf (fu:Nat):=aFv ((ali fu)) (NF fu)
theorem avq (fu:Nat)(a:Int)(m:Int)(b:Int)(l:List Raw)(h:NF (fu+1) a m b l):Is (atf fu a m b l):=
 (yN (fun _=>rfl) (fun _ _ _ _ h=>h) (JE fu) h).1
theorem ari:∀fu,fV Z.P Z.S 380 (oL (kz (aj (ng 0) (aj (bn cI) (aj (bn cI) (aj (bn cI) (a1 (kJ 388 [])))))) (b1 (j_ 264 D.Raw lD))) (shr [.row 0 264] (l1 bD)) 0 [] (fun a=>some (NF fu (a.1.2.1) (a.1.2.2.1) (a.1.2.2.2.1) (a.2))) (fun a=>(ali fu) (a.1.2.1) (a.1.2.2.1) (a.1.2.2.2.1) (a.2)))
 | 0=>iG func380 dS (fun a h=>FY h)
 | fu+1=>by
  have h0:=ari fu;exact Eo [Rz,apw,aAp,⟨380,_,h0⟩] [jS 3 (bP (fun sl=>[s0 10, s0 11]) (az cI (l1 cI))),jS 9 (bP (fun sl=>[s0 13, .row (pid (sl 0)) 264]) (az cI (l1 bD))),jS 15 (bP (fun sl=>[s0 14, s0 15]) (az cI (l1 cI))),jS 21 (bP (fun sl=>[s0 17, .row (pid (sl 0)) 264]) (az cI (l1 bD))),jS 33 (bP (fun sl=>[s0 20, s0 21]) (az cI (l1 cI))),jS 100008 (bP (fun sl=>[s0 10]) (l1 cI)),jS 100012 (bP (fun sl=>[.row (pid (sl 0)) 264]) (l1 bD)),jS 100020 (bP (fun sl=>[s0 14]) (l1 cI)),jS 100024 (bP (fun sl=>[.row (pid (sl 0)) 264]) (l1 bD)),jS 100032 (bP (fun sl=>[s0 20, s0 21]) (az cI (l1 cI))),jS 100038 (bP (fun sl=>[s0 20]) (l1 cI)),jS 100041 (bP (fun sl=>[.row (pid (sl 0)) 264]) (l1 bD)),jS 100043 (bP (fun sl=>[.row (pid (sl 0)) 264]) (l1 bD))] func380 ntmps380 (fun a=>atf fu a.1.2.1 a.1.2.2.1 a.1.2.2.2.1 a.2) (fun a h=>⟨avq fu a.1.2.1 a.1.2.2.1 a.1.2.2.2.1 a.2 h,rfl⟩) (oq (n:=220) rfl)
def aCN:aU Z:=⟨380,oL (kz (aj (ng 0) (aj (bn cI) (aj (bn cI) (aj (bn cI) (a1 (kJ 388 [])))))) (b1 (j_ 264 D.Raw lD))) (shr [.row 0 264] (l1 bD)) 0 [] (fun a=>some (Wl (fun _ _=>True) (((a.1.2.2.2.1) - (a.1.2.1)).toNat+1) (a.1.2.1) (a.1.2.2.1) (a.1.2.2.2.1) (a.2))) (fun a=>ajS (a.1.2.1) (a.1.2.2.1) (a.1.2.2.2.1) (a.2)),jT (fun n=>((ari n))) _ _ (fun a h=>⟨((a.1.2.2.2.1) - (a.1.2.1)).toNat+1,h,rfl⟩)⟩
def aAx (n:Int)(l:List Raw):Pg (List Raw):=Xu (fun a=>a) anI (fun _ _=>True) oN ajS n l
def aE5 (n:Int)(l:List Raw):=(aAx n l).val
theorem avv (n:Int)(l:List Raw)(h:stQ (fun _ _=>True) n l):Is (aAx n l):=
 (yM (fun _=>rfl) (O4:=ajS) (fun a m b l h=>JE _ a m b l h) h).1
def aCs:aU Z:=EK [asZ,aAR,anN,aCN,Rz] [jS 2 (bP (fun sl=>[s0 7, s0 8, .row (pid (sl 0)) 264]) (az cI (az cI (l1 bD)))),jS 7 (bP (fun sl=>[s0 6, .row (pid (sl 0)) 264]) (az cI (l1 bD))),jS 9 (bP (fun sl=>[s0 7, s0 8, .row (pid (sl 0)) 264]) (az cI (az cI (l1 bD)))),jS 100006 (bP (fun sl=>[s0 7, .row (pid (sl 0)) 264]) (az cI (l1 bD))),jS 100013 (bP (fun sl=>[s0 7, .row (pid (sl 0)) 264]) (az cI (l1 bD)))] (aj (ng 0) (aj (bn cI) (a1 (kJ 388 [])))) (b1 (j_ 264 D.Raw lD)) (shr [.row 0 264] (l1 bD)) [] func281 0 (fun a=>aAx a.1.2.1 a.2) (fun a=>stQ (fun _ _=>True) a.1.2.1 a.2) fun a h=>avv a.1.2.1 a.2 h
def aC_ (l:List Raw):Pg (List Raw):=.ob (stQ (fun(x x_1:Raw)=>True) (↑l.length:Int) l) (.lt (aE5 (↑l.length:Int) l) fun(v1:List Raw)=> aL v1 (.ret v1))
def az5 (l:List Raw):=(aC_ l).val
theorem avC (l:List Raw)(h:rU (fun _ _=>True) l):Is (aC_ l):=
 aX ((⟨h,rfl⟩)) (dB fun v1 hv1=>iH fun _=>aT)
def aCt:aU Z:=EK [anS,aCs,Rz] [] (aj (ng 0) (a1 (kJ 388 []))) (b1 (j_ 264 D.Raw lD)) (shr [.row 0 264] (l1 bD)) [] func205 0 (fun a=>aC_ a.2) (fun a=>rU (fun _ _=>True) a.2) fun a h=>avC a.2 h
theorem alU {l:List Raw}(h:rU (fun _ _=>True) l):(az5 l).Perm l:=
 (yM (fun _=>rfl) (c:=anI) (q:=(fun _ _=>True)) (d:=oN) (O4:=ajS) (fun a m b l h=>JE _ a m b l h) ⟨h,rfl⟩).2
def ssC (x:Slot)(y:Slot):Pg Int:=.ret (SK x.Num y.Num)
def auc (x:Slot)(y:Slot):=(ssC x y).val
def Su:aU Z:=E1 [L9] [] (aj (aF mg) (a1 (aF mg))) (R1 cI) [] func288 1 (u2 ssC) fun a=>True
def aF3 (a:Int)(b:Int)(n:Int)(l:List Slot):Pg (List Slot):=SY vz bI a b n l
theorem ayx (a:Int)(b:Int)(n:Int)(l:List Slot)(h:swQ a b n l.length):Is (aF3 a b n l):=
 (Mc kX h).1
def aDv:aU Z:=EK [Su] [jS 1 (bP (fun sl=>[s0 10, .row (pid (sl 0)) 257]) (az cI (l1 bF)))] (aj (ng 0) (aj (bn cI) (aj (bn cI) (aj (bn cI) (a1 (kJ 288 [])))))) (b1 (j_ 257 D.Slot jE)) (shr [.row 0 257] (l1 bF)) [] func450 0 (fun a=>aF3 a.1.2.1 a.1.2.2.1 a.1.2.2.2.1 a.2) (fun a=>swQ a.1.2.1 a.1.2.2.1 a.1.2.2.2.1 a.2.length) fun a h=>ayx a.1.2.1 a.1.2.2.1 a.1.2.2.2.1 a.2 h
def aGq (a:Int)(m:Int)(b:Int)(l:List Slot):Pg (List Slot):=Tc vz bI a m b l
theorem awf (a:Int)(m:Int)(b:Int)(l:List Slot)(h:roQ a m b l.length):Is (aGq a m b l):=
 (LM kX h).1
def aB9:aU Z:=EK [Su,aoA,aDv] [jS 2 (bP (fun sl=>[s0 10, s0 11, .row (pid (sl 0)) 257]) (az cI (az cI (l1 bF))))] (aj (ng 0) (aj (bn cI) (aj (bn cI) (aj (bn cI) (a1 (kJ 288 [])))))) (b1 (j_ 257 D.Slot jE)) (shr [.row 0 257] (l1 bF)) [] func441 0 (fun a=>aGq a.1.2.1 a.1.2.2.1 a.1.2.2.2.1 a.2) (fun a=>roQ a.1.2.1 a.1.2.2.1 a.1.2.2.2.1 a.2.length) fun a h=>awf a.1.2.1 a.1.2.2.1 a.1.2.2.2.1 a.2 h
def aDN (a:Int)(b:Int)(l:List Slot):Pg (List Slot):=SH vz auc (fun _ _=>True) bI a b l
def aFV (a:Int)(b:Int)(l:List Slot):=(aDN a b l).val
theorem ax5 (a:Int)(b:Int)(l:List Slot)(h:Gq (fun _ _=>True) a b l):Is (aDN a b l):=
 (L6 kX h).1
def aBg:aU Z:=vS Z [Su] [jS 1 (bP (fun sl=>[s0 8, .row (pid (sl 0)) 257]) (az cI (l1 bF))),jS 4 (bP (fun sl=>[s0 9, .row (pid (sl 0)) 257]) (az cI (l1 bF)))] (kz (aj (ng 0) (aj (bn cI) (aj (bn cI) (a1 (kJ 288 []))))) (b1 (j_ 257 D.Slot jE))) (oq (n:=53) rfl) (shr [.row 0 257] (l1 bF)) [] func414 ntmps414 dS 0 rfl (fun a=>aDN (a.1.2.1) (a.1.2.2.1) (a.2)) (fun a=>some (Gq (fun _ _=>True) (a.1.2.1) (a.1.2.2.1) (a.2))) (fun a e _=>by kernel_rfl) (fun a=>aFV (a.1.2.1) (a.1.2.2.1) (a.2)) (fun a h=>⟨ax5 (a.1.2.1) (a.1.2.2.1) (a.2) h,rfl⟩)
def aEx (aHG:Int->Int->Int->List Slot->List Slot)(Om:Int->Int->Int->List Slot->Prop)(a:Int)(m:Int)(b:Int)(l:List Slot):Pg (List Slot):=XZ vz auc (fun _ _=>True) bI aHG Om a m b l
def Om (fu:Nat)(a:Int)(m:Int)(b:Int)(l:List Slot):Prop:=Wl (fun _ _=>True) fu a m b l
def ak7:Nat->(Int->Int->Int->(List Slot)->(List Slot))
 | 0=>(fun _ _ _ _=>default)
 | fu+1=>(fun a m b l=>(aEx ((ak7 fu)) (Om fu) a m b l).val)
def aiE (a:Int)(m:Int)(b:Int)(l:List Slot):List Slot:=(ak7 ((b - a).toNat+1)) a m b l
theorem Jo:∀(fu:Nat) (a m b:Int) (l:List Slot),Om fu a m b l->(ak7 fu a m b l).Perm l
 | 0,_,_,_,_,h=>FY h
 | fu+1,_,_,_,_,h=>(yN kX (c:=auc) (O4:=ak7 fu) (Xe:=Om fu) (d:=bI) (fun _ _ _ _ h=>h) (Jo fu) h).2
abbrev arG (fu:Nat):=aEx ((ak7 fu)) (Om fu)
theorem axi (fu:Nat)(a:Int)(m:Int)(b:Int)(l:List Slot)(h:Om (fu+1) a m b l):Is (arG fu a m b l):=
 (yN kX (fun _ _ _ _ h=>h) (Jo fu) h).1
theorem anW:∀fu,fV Z.P Z.S 415 (oL (kz (aj (ng 0) (aj (bn cI) (aj (bn cI) (aj (bn cI) (a1 (kJ 288 [])))))) (b1 (j_ 257 D.Slot jE))) (shr [.row 0 257] (l1 bF)) 0 [] (fun a=>some (Om fu (a.1.2.1) (a.1.2.2.1) (a.1.2.2.2.1) (a.2))) (fun a=>(ak7 fu) (a.1.2.1) (a.1.2.2.1) (a.1.2.2.2.1) (a.2)))
 | 0=>iG func415 dS (fun a h=>FY h)
 | fu+1=>by
  have h0:=anW fu;exact Eo [Su,ao4,aB9,⟨415,_,h0⟩] [jS 3 (bP (fun sl=>[s0 10, s0 11]) (az cI (l1 cI))),jS 9 (bP (fun sl=>[s0 13, .row (pid (sl 0)) 257]) (az cI (l1 bF))),jS 15 (bP (fun sl=>[s0 14, s0 15]) (az cI (l1 cI))),jS 21 (bP (fun sl=>[s0 17, .row (pid (sl 0)) 257]) (az cI (l1 bF))),jS 33 (bP (fun sl=>[s0 20, s0 21]) (az cI (l1 cI))),jS 100008 (bP (fun sl=>[s0 10]) (l1 cI)),jS 100012 (bP (fun sl=>[.row (pid (sl 0)) 257]) (l1 bF)),jS 100020 (bP (fun sl=>[s0 14]) (l1 cI)),jS 100024 (bP (fun sl=>[.row (pid (sl 0)) 257]) (l1 bF)),jS 100032 (bP (fun sl=>[s0 20, s0 21]) (az cI (l1 cI))),jS 100038 (bP (fun sl=>[s0 20]) (l1 cI)),jS 100041 (bP (fun sl=>[.row (pid (sl 0)) 257]) (l1 bF)),jS 100043 (bP (fun sl=>[.row (pid (sl 0)) 257]) (l1 bF))] func415 ntmps415 (fun a=>arG fu a.1.2.1 a.1.2.2.1 a.1.2.2.2.1 a.2) (fun a h=>⟨axi fu a.1.2.1 a.1.2.2.1 a.1.2.2.2.1 a.2 h,rfl⟩) (oq (n:=220) rfl)
def aAH:aU Z:=⟨415,oL (kz (aj (ng 0) (aj (bn cI) (aj (bn cI) (aj (bn cI) (a1 (kJ 288 [])))))) (b1 (j_ 257 D.Slot jE))) (shr [.row 0 257] (l1 bF)) 0 [] (fun a=>some (Wl (fun _ _=>True) (((a.1.2.2.2.1) - (a.1.2.1)).toNat+1) (a.1.2.1) (a.1.2.2.1) (a.1.2.2.2.1) (a.2))) (fun a=>aiE (a.1.2.1) (a.1.2.2.1) (a.1.2.2.2.1) (a.2)),jT (fun n=>((anW n))) _ _ (fun a h=>⟨((a.1.2.2.2.1) - (a.1.2.1)).toNat+1,h,rfl⟩)⟩
def aA7 (n:Int)(l:List Slot):Pg (List Slot):=Xu vz auc (fun _ _=>True) bI aiE n l
def aEN (n:Int)(l:List Slot):=(aA7 n l).val
theorem axB (n:Int)(l:List Slot)(h:stQ (fun _ _=>True) n l):Is (aA7 n l):=
 (yM kX (O4:=aiE) (fun a m b l h=>Jo _ a m b l h) h).1
def aA3:aU Z:=EK [Su,atx,aBg,aoN,aAH] [jS 2 (bP (fun sl=>[s0 7, s0 8, .row (pid (sl 0)) 257]) (az cI (az cI (l1 bF)))),jS 7 (bP (fun sl=>[s0 6, .row (pid (sl 0)) 257]) (az cI (l1 bF))),jS 9 (bP (fun sl=>[s0 7, s0 8, .row (pid (sl 0)) 257]) (az cI (az cI (l1 bF)))),jS 100006 (bP (fun sl=>[s0 7, .row (pid (sl 0)) 257]) (az cI (l1 bF))),jS 100013 (bP (fun sl=>[s0 7, .row (pid (sl 0)) 257]) (az cI (l1 bF)))] (aj (ng 0) (aj (bn cI) (a1 (kJ 288 [])))) (b1 (j_ 257 D.Slot jE)) (shr [.row 0 257] (l1 bF)) [] func373 0 (fun a=>aA7 a.1.2.1 a.2) (fun a=>stQ (fun _ _=>True) a.1.2.1 a.2) fun a h=>axB a.1.2.1 a.2 h
def aCB (l:List Slot):Pg (List Slot):=.ob (stQ (fun(x x_1:Slot)=>True) (↑l.length:Int) l) (.lt (aEN (↑l.length:Int) l) fun(v1:List Slot)=> aL v1 (.ret v1))
def az1 (l:List Slot):=(aCB l).val
theorem avp (l:List Slot)(h:rU (fun _ _=>True) l):Is (aCB l):=
 aX ((⟨h,rfl⟩)) (dB fun v1 hv1=>iH fun _=>aT)
def aDo:aU Z:=EK [Su,aon,aA3] [] (aj (ng 0) (a1 (kJ 288 []))) (b1 (j_ 257 D.Slot jE)) (shr [.row 0 257] (l1 bF)) [] func274 0 (fun a=>aCB a.2) (fun a=>rU (fun _ _=>True) a.2) fun a h=>avp a.2 h
theorem am4 {l:List Slot}(h:rU (fun _ _=>True) l):(az1 l).Perm l:=
 (yM kX (c:=auc) (q:=(fun _ _=>True)) (d:=bI) (O4:=aiE) (fun a m b l h=>Jo _ a m b l h) ⟨h,rfl⟩).2
def ase (a:List Raw)(b:List Raw):Pg (List Raw):=.ob ([a,b].flatten.length<=2097152/\2<=2097152) (.lt (arT [a,b]) fun(v1:List Raw)=> .ob (rU (fun(x x_1:Raw)=>True) v1) (.ret (az5 v1)))
def aqE (a:List Raw)(b:List Raw):=(ase a b).val
theorem YQ (a:List Raw)(b:List Raw)(h:a.length+b.length<=1048576):jP (ase a b) (fun r=>r.Perm (a++b)):=
 by
 have q:[a,b].flatten.length<=2097152/\(2:Nat)<=2097152:=⟨by simp only[List.flatten_cons,List.flatten_nil,Qdf,pz];omega,by decide⟩;have hc:arT [a,b]=a++b:=((ad6 [a,b] q).2).trans oJ;have hs:rU (fun(_ _:Raw)=>True) (arT [a,b]):=by rw[hc];exact⟨by rw[pz];omega,fun _ _ _ _=>trivial⟩
 refine ak q (aC fun v1 hv1=> ?_);rw[hv1];refine ak hs (ah ?_);have k:=alU hs;rw[hc]at k;rw[hc];exact k
def axS:aU Z:=E1 [anJ,aCt,aCG,Rz] [] (aj (bn bD) (a1 (bn bD))) (R1 bD) [] func289 1 (u2 ase) (fun a=>a.1.length+a.2.length<=1048576) fun a h=>(YQ a.1 a.2 h).1
def aqA (s:Str)(m:Str):Pg (List UInt8):=.ob (List.length s+1<=9223372036854775807) (.lt (s++[47]) fun(v1:List UInt8)=> .ob (v1.length+List.length m<=9223372036854775807) (.ret (v1++m)))
def Z7 (s:Str)(m:Str):=(aqA s m).val
theorem al6 (s:Str)(m:Str)(h:s.length+m.length<=4194304):jP (aqA s m) (fun r=>r.length=s.length+1+m.length):=
 ak au (aC fun v1 hv1=>ak (by rw[hv1];simp only[pz,xH,A7];omega) (ah (by rw[hv1,pz,pz];rfl)))
def aan:aU Z:=E1 [] [] (aj (bn cStr) (a1 (bn cStr))) (R1 cStr) [] func44 1 (u2 aqA) (fun a=>a.1.length+a.2.length<=4194304) fun a h=>(al6 a.1 a.2 h).1
def Dj (n:Nat)(t:List Trace):Prop:=t.length<=n/\∀x∈t,x.Times.length<=n
theorem aii {n:Nat}{t:List Trace}(h:Dj n t):Dj (n+1) t:=⟨by have:=h.1;omega,fun x hx=>by have:=h.2 x hx;omega⟩
theorem asM {n:Nat}(path:Str)(now:Int):∀t:List Trace,(∀x∈t,x.Times.length<=n)->(adT path now t).length=t.length/\∀x∈adT path now t,x.Times.length<=n+1
 | [],_=>⟨rfl,fun x hx=>by cases hx⟩
 | a::t,h=>by
  obtain⟨i1,i2⟩:=asM path now t fun x hx=>h x (by simp[hx])
  have ha:=h a oJ;unfold adT;cases Qw path a with
  | true=>
   refine⟨rfl,fun x hx=> ?_⟩;rcases yR.1 hx with e | hx
   ·rw[e];simp only[pz,Qcp];omega
   ·have:=h x (by simp[hx]);omega
  | false=>
   refine⟨by simp only[nR,xH,i1],fun x hx=> ?_⟩;rcases yR.1 hx with e | hx
   ·rw[e];omega
   ·exact i2 x hx
theorem awy {n:Nat}{t:List Trace}{path:Str}{now:Int}(h:Dj n t):Dj (n+1) (UK t path now):=by
 obtain⟨h1,h2⟩:=h;unfold UK;cases t.any (Qw path)with
 | true=>
  obtain⟨i1,i2⟩:=asM path now t h2;exact⟨by rw[wB,i1];omega,i2⟩
 | false=>
  obtain⟨u,v,e1,e2⟩:=TD path [now] t;rw[nR,e2];rw[e1]at h1 h2;refine⟨by simp only[pz,xH]at h1⊢;omega,fun x hx=> ?_⟩;rcases tY.1 hx with hx | hx
  ·have:=h2 x (by simp[hx]);omega
  ·rcases yR.1 hx with e | hx
   ·rw[e];simp
   ·have:=h2 x (by simp[hx]);omega
theorem auV {n:Nat}{t:List Trace}{than:Int}(h:Dj n t):Dj n (aey than t):=by
 obtain⟨h1,h2⟩:=h;unfold aey;refine⟨Ak (Qca _ _) (by rw[Qbl];exact h1),fun x hx=> ?_⟩;obtain⟨y,hy,rfl⟩:=Ik.1 (Qbx.1 hx).1;exact Ak (Qca _ _) (h2 y hy)
def XI (hd r:Head):Prop:=r.bG=hd.bG/\r.Method=hd.Method/\r.eY.length<=40
theorem akn (x:iY):(Pv.gS (mO.get (qV x) 169 0)).length<=x.Key.length:=by
 unfold qV action;simp only[bH,aV];cases x.Kind==1<;>cases x.Kind==2<;>cases x.Kind==3<;>cases x.Kind==4<;>cases x.Kind==5<;>cases x.Kind==6<;>first | exact lU _ | exact uN _
def stamp (hd:Head)(key:Str)(val:Str):Pg (Head×Int):=.ob (List.length key<=9223372036854775700) (.lt (aqG key val) fun(v2:Int)=> .br (v2 !=0) (.ret (hd,v2)) (.ob (hd.eY.length<=1000000) (.cut (fun(y1:List mJ)=> .br (decide (16 < (↑y1.length:Int))) (.ret (hd,3)) (.ret (Head.mk hd.bG hd.Method hd.fF y1,0))) (.lt (fG (fun(m:mJ)=>m.Key==key) hd.eY) fun(v3:Int)=> .br (decide (0<=v3)) (.ix v3 hd.eY.length (.ob (v3.toNat < hd.eY.length) (rl (hd.eY.set v3.toNat (mJ.mk (hd.eY.getD v3.toNat Nh).Key val))))) (.lt (fG (fun(m:mJ)=>gtS m.Key key) hd.eY) fun(v4:Int)=> .br (decide (v4 < 0)) (aL hd.eY (.ob (0<=(↑hd.eY.length:Int)/\ (↑hd.eY.length:Int)<=(↑hd.eY.length:Int)/\0 < 1/\bT (hd.eY.length+1) 32) (rl (List.take hd.eY.length hd.eY++([mJ.mk key val]++List.drop hd.eY.length (List.take hd.eY.length hd.eY)))))) (.ob (0<=v4/\v4<=(↑hd.eY.length:Int)/\0 < 1/\bT (hd.eY.length+1) 32) (rl (List.take v4.toNat hd.eY++([mJ.mk key val]++List.drop v4.toNat (List.take hd.eY.length hd.eY))))))))))
def aDa (hd:Head)(key:Str)(val:Str):=(stamp hd key val).val
theorem XU (hd:Head)(key:Str)(val:Str)(h:key.length<=1048576/\hd.eY.length<=40):jP (stamp hd key val) (fun r=>XI hd r.1):=
 by
 have e1:=lF (fun(m:mJ)=>m.Key==key) hd.eY;have e2:=lF (fun(m:mJ)=>gtS m.Key key) hd.eY;exact ak au (aC fun v2 hv2=>dw (fun _=>ah ⟨rfl,rfl,h.2⟩) (fun _=>ak au (dh (fun _=>True) (aC fun v3 hv3=>bV (fun _=>bi au au (ak au (ah trivial)))
  (fun _=>aC fun v4 hv4=>bV (fun _=>bZ (ak ⟨by omega,by omega,by omega,b_ au au⟩ (ah trivial))) (fun _=>ak ⟨by omega,by omega,by omega,b_ au au⟩ (ah trivial)))) (fun y1 _=>bV (fun _=>ah ⟨rfl,rfl,h.2⟩) (fun _=>ah ⟨rfl,rfl,by show y1.length<=40;omega⟩)))))
def axF:aU Z:=E1 [ajL,aoc,aBb,aBB,atg,arj,aAq] [jS 100012 (bP (fun sl=>[.slot 9 false [some 349]]) (l1 su))] (aj (aF qh) (aj (bn cStr) (a1 (bn cStr)))) (shr [.slot 0 true (nn 4), s0 1] (az qh (l1 cI))) [] func146 2 (u3 stamp) (fun a=>a.2.1.length<=1048576/\a.1.eY.length<=40) fun a h=>(XU a.1 a.2.1 a.2.2 h).1
def arh (x:iY)(t:List Trace)(now:Int)(hd:Head):Pg (Head×Int):=.lt (qV x) fun(v1:Option mO)=> .ob (mO.ok v1 168 true [Value.string (ByteArray.mk (Array.mk [])),Value.string (ByteArray.mk (Array.mk []))]=true) (.br (mO.is v1 168) (.lt (aBI hd (Pv.gS (mO.get v1 168 0))) fun(v2:Str×Bool)=> .br (!v2.2) (.ret (hd,21)) (.br (v2.1 !=Pv.gS (mO.get v1 168 1)) (.ret (hd,21)) (.ret (hd,0)))) (.ob (mO.ok v1 175 true [Value.int .i64 0,Value.int .i64 0]=true) (.br (mO.is v1 175) (.ob (List.length hd.bG+List.length hd.Method<=4194304) (.lt (aye t (Z7 hd.bG hd.Method) (dD .i64 (now - Pv.gI (mO.get v1 175 1)))) fun(v3:Int)=> .lt (Pv.gI (mO.get v1 175 0)) fun(v4:Int)=> .br (decide (v4<=v3)) (.ret (hd,22)) (.ret (hd,0)))) (.ob (mO.ok v1 169 true [Value.string (ByteArray.mk (Array.mk [])),Value.string (ByteArray.mk (Array.mk []))]=true) (.br (mO.is v1 169) (.lt (Pv.gS (mO.get v1 169 0)) fun(v5:List UInt8)=> .ob (v5.length<=1048576/\hd.eY.length<=40) (.ret (aDa hd v5 (Pv.gS (mO.get v1 169 1))))) (.ob (mO.ok v1 177 true [Value.int .i64 0]=true) (.br (mO.is v1 177) (.ret (Head.mk hd.bG hd.Method (aq_ hd.fF (Ve now (Pv.gI (mO.get v1 177 0)))) hd.eY,0)) (.ret (hd,0)))))))))
def aue (x:iY)(t:List Trace)(now:Int)(hd:Head):=(arh x t now hd).val
theorem YC (x:iY)(t:List Trace)(now:Int)(hd:Head)(h:x.Key.length<=1048576/\hd.eY.length<=40/\hd.bG.length+hd.Method.length<=4194304):jP (arh x t now hd) (fun r=>XI hd r.1):=
 by
 have same:XI hd hd:=⟨rfl,rfl,h.2.1⟩;refine aC fun v1 hv1=>ak (hv1▸(wL x).1) (dR (fun _=>aC fun v2 hv2=>dR (fun _=>ah same) (fun _=>dR (fun _=>ah same) (fun _=>ah same))) (fun _=>ak (hv1▸(wL x).2.2.2.1) (dR (fun _=>ak h.2.2 (aC fun v3 _=>aC fun v4 _=>bV (fun _=>ah same) (fun _=>ah same)))
  (fun _=>ak (hv1▸(wL x).2.1) (dR (fun _=>aC fun v5 hv5=>ak ?_ (ah ?_)) (fun _=>ak (hv1▸(wL x).2.2.2.2.1) (dR (fun _=>ah ⟨rfl,rfl,h.2.1⟩) (fun _=>ah same))))))))
 ·exact⟨by rw[hv5,hv1];have:=akn x;omega,h.2.1⟩
 ·exact(XU hd _ _ ⟨by rw[hv5,hv1];have:=akn x;omega,h.2.1⟩).2
def axe:aU Z:=E1 [aan,aiT,Sr,avh,aod,axF,al_] [] (aj (aF wO) (aj (bn jA) (aj (bn cI) (a1 (aF qh))))) (shr [.slot 0 true (nn 4), s0 1] (az qh (l1 cI))) [] func94 2 (u4 arh) (fun a=>a.1.Key.length<=1048576/\a.2.2.2.eY.length<=40/\a.2.2.2.bG.length+a.2.2.2.Method.length<=4194304) fun a h=>(YC a.1 a.2.1 a.2.2.1 a.2.2.2 h).1
def before (l:List iY)(t:List Trace)(now:Int)(hd:Head):Pg (Head×List Trace×Status):=.cut (fun(y4:Int×Head)=> .cut (fun(y5:Unit)=> .br (decide (0 < y4.1)) (.ob (List.length hd.bG+List.length hd.Method<=4194304) (.ob (okT t) (.ret (y4.2,aey (dD .i64 (now - y4.1)) (UK t (Z7 hd.bG hd.Method) now),Status.mk 0 [])))) (.ret (y4.2,t,Status.mk 0 []))) (.br (decide (1<=y4.2.fF)) (.br (decide (y4.2.fF<=now)) (.ret (.inr (hd,t,SL 23))) (rl ())) (rl ()))) (aL l (.each false qw l r_ (fun i1 a3 (y2:Int×Head)=> .ix i1 l.length (.ob (List.length a3.Key<=1048576/\y2.2.eY.length<=40/\List.length y2.2.bG+List.length y2.2.Method<=4194304) (.lt (aue a3 t now y2.2) fun(v6:Head×Int)=> .br (v6.2 !=0) (.ret (.inr (.inr (hd,t,SL v6.2)))) (.br (a3.Kind==3) (rl (max y2.1 a3.nN,v6.1)) (rl (y2.1,v6.1)))))) (fun i1 (y2:Int×Head)=> rl y2) (0,hd)))
def ayp (l:List iY)(t:List Trace)(now:Int)(hd:Head):=(before l t now hd).val
theorem SG (l:List iY)(t:List Trace)(now:Int)(hd:Head)(h:okT t/\H8 l/\l.length<=100/\hd.eY.length<=40/\hd.bG.length+hd.Method.length<=4194304):jP (before l t now hd) (fun r=>r.1.eY.length<=40/\∀n,Dj n t->Dj (n+1) r.2.1):=
 by
 obtain⟨h1,h2,h3,h4,h5⟩:=h;have stay:∀x:Status,hd.eY.length<=40/\∀n,Dj n t->Dj (n+1) t:=fun _=>⟨h4,fun n hn=>aii hn⟩
 refine dh (fun(y:Int×Head)=>XI hd y.2) (bZ (df (fun _ (y:Int×Head)=>XI hd y.2) ⟨rfl,rfl,h4⟩ au (fun k y hk hI=> ?_) (fun y hI=>ah hI))) (fun y4 hy4=>dh (fun _=>True) (bV (fun _=>bV (fun _=>ah (stay (SL 23))) (fun _=>ah trivial)) (fun _=>ah trivial)) (fun y5 _=>bV (fun _=>ak h5 (ak h1 (ah ⟨hy4.2.2,fun n hn=>auV (awy hn)⟩))) (fun _=>ah ⟨hy4.2.2,fun n hn=>aii hn⟩)));have k2:=h2 _ (getD_mem (d:=r_) hk);obtain⟨q1,q2,q3⟩:=hI;have pq:(l.getD k r_).Key.length<=1048576/\y.2.eY.length<=40/\y.2.bG.length+y.2.Method.length<=4194304:=⟨k2,q3,by rw[q1,q2];exact h5⟩;have pr:=(YC (l.getD k r_) t now y.2 pq).2;have pr:XI hd (aue (l.getD k r_) t now y.2).1:=⟨pr.1.trans q1,pr.2.1.trans q2,pr.2.2⟩;exact bi au au (ak pq (aC fun v6 hv6=>dw (fun _=>ah (stay (SL v6.2))) (fun _=>dR (fun _=>ah (by rw[hv6];exact pr)) (fun _=>ah (by rw[hv6];exact pr)))))
def aoD:aU Z:=E1 [aan,ag1,axe,am5] [jS 3 (bP (fun sl=>[s0 20, s0 12, .cells (pid (sl 11)) (nn 4)]) (az cI (az cI (l1 qh)))),jS 100012 (bP (fun sl=>[s0 12, .cells (pid (sl 11)) (nn 4)]) (az cI (l1 qh))),jS 100014 (bP (fun sl=>[]) l0)] (aj (bn qg) (aj (bn jA) (aj (bn cI) (a1 (aF qh))))) (shr [.slot 0 true (nn 4), s0 1, .slot 2 true [none,none]] (az qh (az jA (l1 jy)))) [] func47 3 (u4 before) (fun a=>okT a.2.1/\H8 a.1/\a.1.length<=100/\a.2.2.2.eY.length<=40/\a.2.2.2.bG.length+a.2.2.2.Method.length<=4194304) fun a h=>(SG a.1 a.2.1 a.2.2.1 a.2.2.2 h).1
theorem MS {s:Server}{p:Str}(h:∀x∈s.Handlers,x.Method.length<=1048576):(jH s p).1.Method.length<=1048576/\((jH s p).2=true->p.length<=1048576):=by
 have k:VP (ug s p) (fun r=>r.1.Method.length<=1048576/\(r.2=true->p.length<=1048576)):=by
  unfold ug;refine oZ (kE (fun _ _=>True) trivial (fun k y hk _=>nJ (eP (fun e=>aS ?_) fun _=>aS trivial)) fun y _=>aS ⟨uN _,fun e=>by cases e⟩);have hm:=h _ (getD_mem (d:=kC) hk);exact⟨hm,fun _=>by rw[<-eq_of_beq e];exact hm⟩
 exact k
def aGg (s:Server)(c i:Int)(r:Server×Status):Prop:=
 (r.2.Code≠0/\r.1=s)\/(r.2.Code=0/\ji s c i < 0/\s.mM=false/\(s.Tasks.length:Int) < s.Most/\∃tr t,(∀n,Dj n s.Traces->Dj (n+1) tr)/\(t.qB=c/\t.Id=i/\t.In=[]/\t.Ready= -1/\t.nS=false/\t.dP=[]/\t.Method.length<=1048576/\(jH s t.Method).2=true)/\r.1=Server.mk s.Name s.ay s.Handlers s.iq tr (s.Tasks++[t]) s.Most s.mM)
noncomputable def P_ (s:Server)(now:Int)(conn:Int)(id:Int)(hd:Head)(shape:Int):Pg (Server×Status):=.ob (List.length hd.bG+List.length hd.Method<=4194304) (.lt (jH s (Z7 hd.bG hd.Method)) fun(v2:cO×Bool)=> .ob (List.length v2.1.Method<=1048576) (.cut (fun(y1:Unit)=> .ob (okT s.Traces/\H8 s.iq/\s.iq.length<=100/\hd.eY.length<=40/\List.length hd.bG+List.length hd.Method<=4194304) (.lt (ayp s.iq s.Traces now hd) fun(v3:Head×List Trace×Status)=> .br (v3.2.2.Code !=0) (.ret (s,v3.2.2)) (aL s.Tasks (.ob (0<=(↑s.Tasks.length:Int)/\(↑s.Tasks.length:Int)=(↑s.Tasks.length:Int)/\(↑s.Tasks.length:Int)<=(↑s.Tasks.length:Int)) (.ob (bT (0+v3.1.eY.length) 32) (.ob (0 < 1/\bT ((List.take s.Tasks.length s.Tasks).length+1) 152) (.ret (Server.mk s.Name s.ay s.Handlers s.iq v3.2.1 (List.take s.Tasks.length s.Tasks++ [ig.mk conn id (Z7 hd.bG hd.Method) v3.1.eY v3.1.fF [] (-1) [] (Status.mk 0 []) false]) s.Most s.mM, Status.mk 0 [])))))))) (.lt (ji s conn id) fun(v4:Int)=> .br (decide (0<=v4)) (.ret (.inr (s,Status.mk 11 []))) (.br s.mM (.ret (.inr (s,Status.mk 12 []))) (.br (!v2.2) (.ret (.inr (s,Status.mk 10 []))) (.br ((fD s.ay v2.1.Method).1.Shape !=shape) (.ret (.inr (s,Status.mk 10 []))) (aL s.Tasks (.br (decide (s.Most<=(↑s.Tasks.length:Int))) (.ret (.inr (s,Status.mk 7 []))) (rl ())))))))))
noncomputable def atS (s:Server)(now:Int)(conn:Int)(id:Int)(hd:Head)(shape:Int):Server×Status:=(P_ s now conn id hd shape).val
theorem Oz (s:Server)(now:Int)(conn:Int)(id:Int)(hd:Head)(shape:Int)(h:xY s/\(∀x∈s.Handlers,x.Method.length<=1048576)/\H8 s.iq/\s.iq.length<=100/\okT s.Traces/\hd.eY.length<=40/\hd.bG.length+hd.Method.length<=4194304):jP (P_ s now conn id hd shape) (fun r=>aGg s conn id r):=
 by
 obtain⟨⟨a1,a2,a3,a4⟩,b1,b2,b3,b4,c1,c2⟩:=h;refine ak c2 (aC fun v2 hv2=>ak (by rw[hv2];exact(MS b1).1) (dh (fun _=>v2.2=true/\ji s conn id < 0/\s.mM=false/\(s.Tasks.length:Int) < s.Most) (aC fun v4 hv4=>bV (fun _=>ah (.inl ⟨by simp,rfl⟩)) (fun i0=>dR (fun _=>ah (.inl ⟨by simp,rfl⟩)) (fun hd0=>dR (fun _=>ah (.inl ⟨by simp,rfl⟩)) (fun hf=>dw (fun _=>ah (.inl ⟨by simp,rfl⟩)) (fun _=>bZ (bV (fun _=>ah (.inl ⟨by simp,rfl⟩)) (fun hlt=>ah ⟨by simpa using hf,by rw[<-hv4];omega,hd0,by omega⟩))))))) (fun y1 hy1=> ?_)));obtain⟨k1,k2,k3,k4⟩:=hy1;have q:okT s.Traces/\H8 s.iq/\s.iq.length<=100/\hd.eY.length<=40/\hd.bG.length+hd.Method.length<=4194304:=⟨b4,b2,b3,c1,c2⟩;have pb:=(SG s.iq s.Traces now hd q).2;refine ak q (aC fun v3 hv3=>dw (fun hne=>ah (.inl ⟨hne,rfl⟩)) fun he=> ?_);have pb1:v3.1.eY.length<=40:=by rw[hv3];exact pb.1
 refine bZ (ak ⟨by omega,rfl,PE _⟩ (ak (b_ au au) (ak ⟨by decide,b_ (by rw[DT];omega) (by rw[DT];omega)⟩ (ah (.inr ⟨rfl,k2,k3,k4,v3.2.1,_,by rw[hv3];exact pb.2,⟨rfl,rfl,rfl,rfl,rfl,rfl,?_,?_⟩,by rw[DT]⟩)))))
 ·rw[hv2]at k1;exact(MS b1).2 k1
 ·rw[hv2]at k1;exact k1
theorem afh (s:Server)(now:Int)(conn:Int)(id:Int)(hd:Head)(shape:Int)(h:xY s/\(∀x∈s.Handlers,x.Method.length<=1048576)/\H8 s.iq/\s.iq.length<=100/\okT s.Traces/\hd.eY.length<=40/\hd.bG.length+hd.Method.length<=4194304):Is (P_ s now conn id hd shape):=(Oz s now conn id hd shape h).1
noncomputable def ana:aU Z:=E1 [uG,aan,CY,LV,aoD] [jS 100012 (bP (fun sl=>[]) l0)] (aj (aF gW) (aj (bn cI) (aj (bn cI) (aj (bn cI) (aj (aF qh) (a1 (bn cI))))))) (shr [.slot 0 true (nn 10), .slot 1 true [none,none]] (az gW (l1 jy))) [] func19 2 (fun a=>P_ a.1 a.2.1 a.2.2.1 a.2.2.2.1 a.2.2.2.2.1 a.2.2.2.2.2) (fun a=>xY a.1/\(∀x∈a.1.Handlers,x.Method.length<=1048576)/\H8 a.1.iq/\a.1.iq.length<=100/\okT a.1.Traces/\a.2.2.2.2.1.eY.length<=40/\a.2.2.2.2.1.bG.length+a.2.2.2.2.1.Method.length<=4194304) fun a h=>afh a.1 a.2.1 a.2.2.1 a.2.2.2.1 a.2.2.2.2.1 a.2.2.2.2.2 h
theorem aAI {s:ay}{name:Str}(h:okS s):(ED s name).1.Fields.length<=1048576:=by
 have k:VP (fsM s.Messages name) (fun r=>r.1.Fields.length<=1048576):=by
  unfold fsM;exact oZ (kE (fun _ _=>True) trivial (fun k y hk _=>nJ (eP (fun _=>aS (h.2.2.2.1 _ (getD_mem (d:=iW) hk)).1) fun _=>aS trivial)) fun y _=>aS (uN _))
 exact k
theorem amx (l:List Slot)(n:Int):UL l n < l.length:=by
 unfold UL Za;rw[aV];exact(lF _ _).1
theorem aeH {A:Type}{f:A->Nat}{d r:A}:∀{l:List A} {i:Nat},i < l.length->jF f (l.set i r)+f (l.getD i d)=jF f l+f r
 | a::l,0,_=>by
  show f r+jF f l+f a=f a+jF f l+f r
  omega
 | a::l,i+1,hi=>by
  have:=aeH (f:=f) (d:=d) (r:=r) (l:=l) (i:=i) qcm;show f a+jF f (l.set i r)+f (l.getD i d)=f a+jF f l+f r
  omega
theorem aEB {a b:List af}(h:a.length+b.length<=2097152):([a,b].flatten.length<=2097152/\(2:Nat)<=2097152)/\azX [a,b]=a++b:=by
 have q:[a,b].flatten.length<=2097152/\(2:Nat)<=2097152:=⟨by simp only[List.flatten_cons,List.flatten_nil,Qdf,pz];omega,by decide⟩;exact⟨q,((aeE [a,b] q).2).trans oJ⟩
theorem aFH {a b:List Pair}(h:a.length+b.length<=2097152):([a,b].flatten.length<=2097152/\(2:Nat)<=2097152)/\az8 [a,b]=a++b:=by
 have q:[a,b].flatten.length<=2097152/\(2:Nat)<=2097152:=⟨by simp only[List.flatten_cons,List.flatten_nil,Qdf,pz];omega,by decide⟩;exact⟨q,((aeN [a,b] q).2).trans oJ⟩
theorem aqf (k b:Int)(t:Str)(l:List af)(p:List Pair)(sl:List Slot)(r:List Raw):tV (af.mk k b t l p sl r)=1+t.length+YP l+WP p+tSs sl+PZ r:=iy _
theorem atr {A:Type}{P:A->Prop}{r:A}{l:List A}{i:Nat}(h:∀x∈l,P x)(hr:P r):∀x∈l.set i r,P x:=fun x hx=>by
 rcases Qcn hx with h' | rfl
 ·exact h x h'
 ·exact hr
theorem ajt:lK 0:=⟨by decide,by decide⟩
theorem aCw {y:List Slot}{i:Nat}{n:Int}{r:af}{B:Nat}(hi:i < y.length)(hr:tV r<=tV (y.getD i bI).Val+B):jF tS (y.set i (Slot.mk n r))<=jF tS y+B:=by
 have e:=aeH (f:=tS) (d:=bI) (r:=Slot.mk n r) hi;rw[wS,wS]at e;have e:jF tS (y.set i (Slot.mk n r))+(1+tV (y.getD i bI).Val)=jF tS y+(1+tV r):=e;omega
def ap7 (auG:ay->aJ->af->af->af)(xk:ay->aJ->af->af->Prop)(ak4:ay->Str->af->af->af)(sQ:ay->Str->af->af->Prop)(s:ay)(f:aJ)(a:af)(b:af):Pg af:=.br (f.Card==4) (.ob ([a.List,b.List].flatten.length<=2097152/\2<=2097152) (.ret (af.mk 11 0 [] (azX [a.List,b.List]) [] [] []))) (.br (f.Card==5) (.ob ([a.Pairs,b.Pairs].flatten.length<=2097152/\2<=2097152) (.lt (az8 [a.Pairs,b.Pairs]) fun(v1:List Pair)=> .ob (oh v1) (.ret (af.mk 12 0 [] [] (nY v1) [] [])))) (.br (f.eF.Kind==10) (.ob (sQ s f.eF.Name a.re b.re) (.ret (ak4 s f.eF.Name a.re b.re).re)) (.ret b.re)))
def agy (auG:ay->aJ->af->af->af)(xk:ay->aJ->af->af->Prop)(ak4:ay->Str->af->af->af)(sQ:ay->Str->af->af->Prop)(s:ay)(name:Str)(a:af)(b:af):Pg af:=.ob ((↑a.Slots.length:Int)=(↑a.Slots.length:Int)/\ 0<=(↑a.Slots.length:Int)/\(↑a.Slots.length:Int)*(136:Int)<=281474976710656/\(↑a.Slots.length:Int)<=1099511627776) (aL a.Slots (.lt (List.take (min a.Slots.length (List.replicate a.Slots.length (Slot.mk 0 (af.mk 0 0 [] [] [] [] []))).length) a.Slots++ List.drop (min a.Slots.length (List.replicate a.Slots.length (Slot.mk 0 (af.mk 0 0 [] [] [] [] []))).length) (List.take (List.replicate a.Slots.length (Slot.mk 0 (af.mk 0 0 [] [] [] [] []))).length (List.replicate a.Slots.length (Slot.mk 0 (af.mk 0 0 [] [] [] [] []))))) fun(v4:List Slot)=> .lt (ED s name) fun(v5:bg×Bool)=> .ob (v5.1.Fields.length<=1048576/\v4.length<=1048576) (aL b.Slots (.each false qw b.Slots bI (fun i1 a3 (y2:List Slot)=> .ix i1 b.Slots.length (.lt (UL y2 a3.Num) fun(v6:Int)=> .br (decide (0<=v6)) (.ix v6 y2.length (.ob (v6.toNat < y2.length) (.lt (Qp v5.1 a3.Num) fun(v7:aJ×Bool)=> .ob (xk s (aJ.mk v7.1.Num v7.1.Name v7.1.Card v7.1.Key v7.1.eF v7.1.Union v7.1.dn v7.1.Default.re v7.1.Notes) (y2.getD v6.toNat bI).Val.re a3.Val.re) (.ix v6 y2.length (.ob (v6.toNat < y2.length) (rl (y2.set v6.toNat (Slot.mk (y2.getD v6.toNat bI).Num (auG s (aJ.mk v7.1.Num v7.1.Name v7.1.Card v7.1.Key v7.1.eF v7.1.Union v7.1.dn v7.1.Default.re v7.1.Notes) (y2.getD v6.toNat bI).Val.re a3.Val.re).re)))))))) (.ob (bT (y2.length+1) 136) (rl (y2++[Slot.mk a3.Num a3.Val.re]))))) (fun i1 (y2:List Slot)=> .ob (rU (fun(x x_1:Slot)=>True) y2) (.ob (a.bJ.length+b.bJ.length<=1048576) (.ret (af.mk 10 0 [] [] [] (az1 y2) (aqE a.bJ b.bJ))))) (List.filter (fun(x:Slot)=> !Ls x v5.1 b.re) v4)))))
def xk (fu:Nat)(s:ay)(f:aJ)(a:af)(b:af):Prop:=okS s/\(kV a/\kV b/\tV a+tV b<=1048576)/\2*tV b+1<=fu
def sQ (fu:Nat)(s:ay)(name:Str)(a:af)(b:af):Prop:=okS s/\(kV a/\kV b/\tV a+tV b<=1048576)/\2*tV b<=fu
def mmV:Nat->(ay->aJ->af->af->af)×(ay->Str->af->af->af)
 | 0=>(fun _ _ _ _=>default,fun _ _ _ _=>default)
 | fu+1=>(fun s f a b=>(ap7 ((mmV fu).1) (xk fu) ((mmV fu).2) (sQ fu) s f a b).val,fun s name a b=>(agy ((mmV fu).1) (xk fu) ((mmV fu).2) (sQ fu) s name a b).val)
def abt (s:ay)(name:Str)(a:af)(b:af):af:=(mmV (2*tV b)).2 s name a b
def ahh (fu:Nat):Prop:=(∀(s:ay) (f:aJ) (a:af) (b:af),xk fu s f a b->(fun r=>kV r/\tV r<=tV a+tV b) ((mmV fu).1 s f a b))/\(∀(s:ay) (name:Str) (a:af) (b:af),sQ fu s name a b->(fun r=>kV r/\tV r<=tV a+tV b) ((mmV fu).2 s name a b))
abbrev Q4 (fu:Nat):=ap7 ((mmV fu).1) (xk fu) ((mmV fu).2) (sQ fu)
theorem XF (fu:Nat)(ih:ahh fu)(s:ay)(f:aJ)(a:af)(b:af)(h:xk (fu+1) s f a b):jP (Q4 fu s f a b) (fun r=>kV r/\tV r<=tV a+tV b):=
 by
 obtain⟨h1,⟨ka,kb,ht⟩,h2⟩:=h;have ea:=iy a;have eb:=iy b;have l1:=J6 a.List;have l2:=J6 b.List;have l3:=EO a.Pairs;have l4:=EO b.Pairs;obtain⟨a1,a2,a3,a4⟩:=(ik a).1 ka;obtain⟨b1,b2,b3,b4⟩:=(ik b).1 kb;unfold Q4 ap7;simp only[af.dM];refine dO (fun _=> ?_) (fun _=>dO (fun _=> ?_) (fun _=>dO (fun _=>ak ⟨h1,⟨ka,kb,ht⟩,by omega⟩ (ah (ih.2 _ _ _ _ ⟨h1,⟨ka,kb,ht⟩,by omega⟩))) (fun _=>ah ⟨kb,by omega⟩)))
 ·obtain⟨q,e⟩:=aEB (a:=a.List) (b:=b.List) au;refine ak q (ah ?_);rw[e];refine⟨(ik _).2 ⟨⟨ajt,fun r hr=>by cases hr⟩,o6 a2 b2,fun x hx=>qcw,fun x hx=>qcw⟩,?_⟩;rw[aqf,ul,ou,<-ul,<-ul];show 1+0+(YP a.List+YP b.List)+0+0+0<=_
  omega
 ·obtain⟨q,e⟩:=aFH (a:=a.Pairs) (b:=b.Pairs) au;have hall:=o6 a3 b3;have hp:oh (a.Pairs++b.Pairs):=⟨by rw[pz];omega,fun x hx=>(hall x hx).1.1⟩;refine ak q (aC fun v1 hv1=> ?_);rw[hv1,e];refine ak hp (ah ⟨(ik _).2 ⟨⟨ajt,fun r hr=>by cases hr⟩,fun x hx=>qcw,fun x hx=>hall x (G6 hp hx),fun x hx=>qcw⟩,?_⟩);have k:=VI hp;rw[ou,<-ve,<-ve,<-ve]at k;rw[aqf];show 1+0+0+WP (nY (a.Pairs++b.Pairs))+0+0<=_
  omega
abbrev J5 (fu:Nat):=agy ((mmV fu).1) (xk fu) ((mmV fu).2) (sQ fu)
theorem UU (fu:Nat)(ih:ahh fu)(s:ay)(name:Str)(a:af)(b:af)(h:sQ (fu+1) s name a b):jP (J5 fu s name a b) (fun r=>kV r/\tV r<=tV a+tV b):=
 by
 obtain⟨h1,⟨ka,kb,ht⟩,h2⟩:=h;have ea:=iy a;have eb:=iy b;have l1:=PX a.Slots;have l2:=PX b.Slots;have l3:=IG a.bJ;have l4:=IG b.bJ;have s1:=vG a.Slots;have s2:=vG b.Slots;obtain⟨a1,a2,a3,a4⟩:=(ik a).1 ka;obtain⟨b1,b2,b3,b4⟩:=(ik b).1 kb;unfold J5 agy;simp only[af.dM];refine ak ⟨trivial,by omega,by omega,by omega⟩ (bZ (aC fun v4 hv4=>aC fun v5 hv5=> ?_));have hv:v4=a.Slots:=by
  rw[hv4];simp
 rw[hv];have hf:v5.1.Fields.length<=1048576:=by rw[hv5];exact aAI h1
 have hsub:(List.filter (fun(x:Slot)=> !Ls x v5.1 b) a.Slots).Sublist a.Slots:=List.filter_sublist;refine ak ⟨hf,by omega⟩ (bZ (df (fun k (y:List Slot)=>y.length<=a.Slots.length+k/\(∀x∈y,kV x.Val)/\jF tS y<=jF tS a.Slots+jF tS (b.Slots.take k)) ⟨hsub.length_le,fun x hx=>a4 x (hsub.subset hx),uH hsub⟩ au (fun k y hk hI=> ?_) (fun y hI=> ?_)))
 ·obtain⟨i1,i2,i3⟩:=hI;have e:jF tS (b.Slots.take (k+1))=jF tS (b.Slots.take k)+tS (b.Slots.getD k bI):=pR hk;have hle:jF tS (b.Slots.take (k+1))<=jF tS b.Slots:=uH (Qdi _ _);have e2:=wS (b.Slots.getD k bI);have kb4:=b4 _ (getD_mem (d:=bI) hk);refine bi au au (aC fun v6 hv6=>bV (fun h0=> ?_) (fun h0=>ak (b_ au au) (ah ⟨by simp only[pz,xH,A7];omega,o6 i2 (kG kb4),?_⟩)))
  ·have hlt:=amx y (b.Slots.getD k bI).Num;rw[<-hv6]at hlt;have hm:=getD_mem (d:=bI) (l:=y) (i:=v6.toNat) au;have ky:=i2 _ hm;have ty:tS (y.getD v6.toNat bI)<=jF tS y:=EY hm;have e3:=wS (y.getD v6.toNat bI);have hq:okS s/\(kV (y.getD v6.toNat bI).Val/\kV (b.Slots.getD k bI).Val/\tV (y.getD v6.toNat bI).Val+tV (b.Slots.getD k bI).Val<=1048576)/\2*tV (b.Slots.getD k bI).Val+1<=fu:=⟨h1,⟨ky,kb4,by omega⟩,by omega⟩;refine bi au au (ak au (aC fun v7 hv7=>ak hq (bi au au (ak au (ah ?_)))));obtain⟨r1,r2⟩:=ih.1 s (aJ.mk v7.1.Num v7.1.Name v7.1.Card v7.1.Key v7.1.eF v7.1.Union v7.1.dn v7.1.Default v7.1.Notes) _ _ hq;exact⟨by rw[Qbq];omega,atr i2 r1,Ak (aCw au r2) au⟩
  ·rw[ou];show jF tS y+(tS (Slot.mk (b.Slots.getD k bI).Num (b.Slots.getD k bI).Val)+0)<=_
   rw[wS];show jF tS y+(1+tV (b.Slots.getD k bI).Val+0)<=_
   omega
 ·obtain⟨i1,i2,i3⟩:=hI;rw[DT]at i3;have hq:rU (fun(_ _:Slot)=>True) y:=⟨by omega,fun _ _ _ _=>trivial⟩;have hr:a.bJ.length+b.bJ.length<=1048576:=by omega
  refine ak hq (ak hr (ah ?_));have p1:=(am4 hq).symm;have p2:(aqE a.bJ b.bJ).Perm (a.bJ++b.bJ):=(YQ a.bJ b.bJ hr).2;refine⟨(ik _).2 ⟨⟨ajt,fun r hr=> ?_⟩,fun x hx=>qcw,fun x hx=>qcw,fun x hx=>i2 x (p1.mem_iff.2 hx)⟩,?_⟩
  ·rcases tY.1 (p2.mem_iff.1 hr)with e | e
   ·exact a1.2 r e
   ·exact b1.2 r e
  ·rw[aqf,vG,<-Ed p1,D9,Ed p2,ou,<-D9,<-D9];show 1+0+0+0+jF tS y+(PZ a.bJ+PZ b.bJ)<=_
   omega
theorem Jb:∀fu,ahh fu
 | 0=>⟨fun s f a b h=>False.elim (by have k:=h.2.2;omega),
  fun s name a b h=>False.elim (by have k:=h.2.2;have:=lV b;omega)⟩
 | fu+1=>⟨fun s f a b h=>(XF fu (Jb fu) s f a b h).2,
  fun s name a b h=>(UU fu (Jb fu) s name a b h).2⟩
theorem atH (fu:Nat)(s:ay)(f:aJ)(a:af)(b:af)(h:xk (fu+1) s f a b):Is (Q4 fu s f a b):=(XF fu (Jb fu) s f a b h).1
theorem alS (fu:Nat)(s:ay)(name:Str)(a:af)(b:af)(h:sQ (fu+1) s name a b):Is (J5 fu s name a b):=(UU fu (Jb fu) s name a b h).1
theorem aaH (s:ay)(name:Str)(a:af)(b:af)(h:okS s/\(kV a/\kV b/\tV a+tV b<=1048576)):(fun r=>kV r/\tV r<=tV a+tV b) (abt s name a b):=(Jb (2*tV b)).2 s name a b (⟨h.1,h.2,lU _⟩)
theorem azu:∀fu,fV Z.P Z.S 287 (oL (args (aj (aF bC) (aj (aF eG) (aj (aF aI) (a1 (aF aI)))))) (shr [.slot 0 true (nn 7)] (l1 aI)) 1 [] (fun a=>some (xk fu (a.1) (a.2.1) (a.2.2.1) (a.2.2.2))) (fun a=>(mmV fu).1 (a.1) (a.2.1) (a.2.2.1) (a.2.2.2)))/\fV Z.P Z.S 208 (oL (args (aj (aF bC) (aj (bn cStr) (aj (aF aI) (a1 (aF aI)))))) (shr [.slot 0 true (nn 7)] (l1 aI)) 1 [] (fun a=>some (sQ fu (a.1) (a.2.1) (a.2.2.1) (a.2.2.2))) (fun a=>(mmV fu).2 (a.1) (a.2.1) (a.2.2.1) (a.2.2.2)))
 | 0=>⟨iG func287 dS (fun a h=>by have k:=h.2.2;omega),
  iG func208 dS (fun a h=>by have k:=h.2.2;have:=lV (a.2.2.2);omega)⟩
 | fu+1=>by
  obtain⟨h0,h1⟩:=azu fu;exact⟨Eo [Uh,aC2,aDL,⟨287,_,h0⟩,⟨208,_,h1⟩] [] func287 ntmps287 (fun a=>Q4 fu a.1 a.2.1 a.2.2.1 a.2.2.2) (fun a h=>⟨atH fu a.1 a.2.1 a.2.2.1 a.2.2.2 h,rfl⟩) (kL (n:=45) rfl),
   Eo [Hq,KJ,asj,aDo,aEF,asD,amd,Su,axS,⟨287,_,h0⟩,⟨208,_,h1⟩] [jS 6 (bP (fun sl=>[s0 37, .slot 11 false [some 257]]) (az cI (l1 bF)))] func208 ntmps208 (fun a=>J5 fu a.1 a.2.1 a.2.2.1 a.2.2.2) (fun a h=>⟨alS fu a.1 a.2.1 a.2.2.1 a.2.2.2 h,rfl⟩) (kL (n:=82) rfl)⟩
def aqv:aU Z:=⟨208,oL (args (aj (aF bC) (aj (bn cStr) (aj (aF aI) (a1 (aF aI)))))) (shr [.slot 0 true (nn 7)] (l1 aI)) 1 [] (fun a=>some (okS (a.1)/\(kV (a.2.2.1)/\kV (a.2.2.2)/\tV (a.2.2.1)+tV (a.2.2.2)<=1048576))) (fun a=>abt (a.1) (a.2.1) (a.2.2.1) (a.2.2.2)),jT (fun n=>((azu n).2)) _ _ (fun a h=>⟨2*tV (a.2.2.2),⟨h.1,h.2,lU _⟩,rfl⟩)⟩
def awn (s:ay)(name:Str)(l:List af):Pg af:=aL l (.each false qw l fM (fun i1 (a3 y2:af)=> .ix i1 l.length (.br (i1==0) (rl a3.re) (.ob (okS s/\kV y2.re/\kV a3.re/\tV y2.re+tV a3.re<=1048576) (rl (abt s name y2.re a3.re).re)))) (fun i1 (y2:af)=> .ret y2.re) (af.mk 10 0 [] [] [] [] []))
def aFl (s:ay)(name:Str)(l:List af):=(awn s name l).val
theorem RG (s:ay)(name:Str)(l:List af)(h:okS s/\(∀v∈l,kV v)/\jF (fun v=>1+tV v) l<=1048576):jP (awn s name l) (fun r=>kV r/\tV r<=1048576):=
 by
 obtain⟨h1,h2,h3⟩:=h;have hl:l.length<=1048576:=Ak (yu fun x=>by omega) h3;unfold awn;simp only[af.dM];refine bZ (df (fun k (y:af)=>kV y/\tV y<=1+jF (fun v=>1+tV v) (l.take k)/\(0 < k->tV y+1<=1+jF (fun v=>1+tV v) (l.take k))) ⟨(kF 10 0 [] ⟨by decide,by decide⟩).1,by rw[(kF 10 0 [] ⟨by decide,by decide⟩).2];exact Qee (uN _) 1,fun e=>absurd e lY⟩ au (fun k y hk hI=> ?_) (fun y hI=>ah ⟨hI.1,?_⟩))
 ·have e:=pR (f:=fun v=>1+tV v) (d:=fM) hk;have e:jF (fun v=>1+tV v) (l.take (k+1))=jF (fun v=>1+tV v) (l.take k)+(1+tV (l.getD k fM)):=e;have hle:jF (fun v=>1+tV v) (l.take (k+1))<=jF (fun v=>1+tV v) l:=uH (Qdi _ l);have hk2:=h2 _ (getD_mem (d:=fM) hk);refine bi au au (dO (fun h0=>ah ⟨hk2,by omega,fun _=>by omega⟩) (fun h0=> ?_));have hq:okS s/\(kV y/\kV (l.getD k fM)/\tV y+tV (l.getD k fM)<=1048576):=⟨h1,hI.1,hk2,by have:=hI.2.2 au;omega⟩;obtain⟨r1,r2⟩:=aaH s name y (l.getD k fM) hq;exact ak hq (ah ⟨r1,by have:=hI.2.1;omega,fun _=>by have:=hI.2.2 au;omega⟩)
 ·rw[DT]at hI;by_cases h0:l.length=0
  ·have:l=[]:=List.length_eq_zero_iff.1 h0;subst this;have:=hI.2.1;simp only[jF]at this;omega
  ·have:=hI.2.2 au;omega
def aBl:aU Z:=E1 [aqv] [jS 3 (bP (fun sl=>[s0 13, .cells (pid (sl 7)) (nn 7)]) (az cI (l1 aI)))] (aj (aF bC) (aj (bn cStr) (a1 (bn jh)))) (shr [.slot 0 true (nn 7)] (l1 aI)) [] func138 1 (u3 awn) (fun a=>okS a.1/\(∀v∈a.2.2,kV v)/\jF (fun v=>1+tV v) a.2.2<=1048576) fun a h=>(RG a.1 a.2.1 a.2.2 h).1
theorem air {v:af}(h:gV v):v.Pairs.length<=1048576:=by
 have h1:=iy v;have h2:=EO v.Pairs;have:=h.2;omega
theorem aax {A:Type}{f:A->Nat}{d r:A}:∀{l:List A} {i:Nat},i < l.length->f r<=f (l.getD i d)->jF f (l.set i r)<=jF f l
 | a::l,0,_,h=>by
  have h:f r<=f a:=h;show f r+jF f l<=f a+jF f l
  omega
 | a::l,i+1,hi,h=>by
  have:=aax (l:=l) (i:=i) qcm h;show f a+jF f (l.set i r)<=f a+jF f l
  omega
theorem aic {A:Type}{P:A->Prop}{r:A}{l:List A}{i:Nat}(h:∀x∈l,P x)(hr:P r):∀x∈l.set i r,P x:=fun x hx=>by
 rcases Qcn hx with h' | rfl
 ·exact h x h'
 ·exact hr
theorem ak_ {v:af}{y:List af}(h:kV v)(hy:∀x∈y,kV x)(ht:jF (fun x=>1+tV x) y<=YP v.List):kV (af.mk v.Kind v.Bits v.Text y v.Pairs v.Slots v.bJ)/\tV (af.mk v.Kind v.Bits v.Text y v.Pairs v.Slots v.bJ)<=tV v:=by
 obtain⟨h1,h2,h3,h4⟩:=(ik v).1 h;refine⟨(ik _).2 ⟨h1,hy,h3,h4⟩,?_⟩;rw[iy v,iy,ul];show 1+v.Text.length+jF _ y+WP v.Pairs+tSs v.Slots+PZ v.bJ<=_
 rw[ul]at ht⊢;omega
theorem afQ {v:af}{y:List Pair}(h:kV v)(hy:∀x∈y,(jQ x.Key.Kind=true/\kV x.Key)/\kV x.Val)(ht:jF tP y<=WP v.Pairs):kV (af.mk v.Kind v.Bits v.Text v.List y v.Slots v.bJ)/\tV (af.mk v.Kind v.Bits v.Text v.List y v.Slots v.bJ)<=tV v:=by
 obtain⟨h1,h2,h3,h4⟩:=(ik v).1 h;refine⟨(ik _).2 ⟨h1,h2,hy,h4⟩,?_⟩;rw[iy v,iy];show 1+v.Text.length+YP v.List+WP y+tSs v.Slots+PZ v.bJ<=_
 rw[ve y];omega
theorem af9 {v:af}{y:List Slot}(h:kV v)(hy:∀x∈y,kV x.Val)(ht:jF tS y<=tSs v.Slots):kV (af.mk v.Kind v.Bits v.Text v.List v.Pairs y v.bJ)/\tV (af.mk v.Kind v.Bits v.Text v.List v.Pairs y v.bJ)<=tV v:=by
 obtain⟨h1,h2,h3,h4⟩:=(ik v).1 h;refine⟨(ik _).2 ⟨h1,h2,h3,hy⟩,?_⟩;rw[iy v,iy];show 1+v.Text.length+YP v.List+WP v.Pairs+tSs y+PZ v.bJ<=_
 rw[vG y];omega
def az_ (l:List Note)(name:Str):Pg Bool:=.lt (abf l name) fun(v1:af×Bool)=> .br v1.2 (.br (v1.1.Kind==1) (.ret (v1.1.Bits==1)) (.ret false)) (.ret false)
def aBZ (l:List Note)(name:Str):=(az_ l name).val
def ax8:aU Z:=E0 [aa6] [] (aj (bn lJ) (a1 (bn cStr))) (R1 aG) [] func239 1 (u2 az_)
def abZ (KU:ay->aJ->af->af)(nM:ay->aJ->af->Prop)(auF:ay->Str->af->af)(wR:ay->Str->af->Prop)(s:ay)(f:aJ)(v:af):Pg af:=.br (f.eF.Kind !=10) (.ret v.re) (.br (v.Kind==10) (.ob (wR s f.eF.Name v.re) (.ret (auF s f.eF.Name v.re).re)) (.br (v.Kind==11) (.ob (v.List.length<=1048576) (aL v.List (.cnt qw 0 (↑v.List.length:Int) (fun i1 (y2:List af)=> .ix i1 y2.length (.ob (i1.toNat < y2.length) (.ob (nM s (aJ.mk f.Num f.Name f.Card f.Key f.eF f.Union f.dn f.Default.re f.Notes) (y2.getD i1.toNat fM).re) (.ix i1 y2.length (.ob (i1.toNat < y2.length) (rl (y2.set i1.toNat (KU s (aJ.mk f.Num f.Name f.Card f.Key f.eF f.Union f.dn f.Default.re f.Notes) (y2.getD i1.toNat fM).re).re))))))) (fun i1 (y2:List af)=> .ret (af.mk v.Kind v.Bits v.Text y2 v.Pairs v.Slots v.bJ)) v.List))) (.br (v.Kind==12) (.ob (v.Pairs.length<=1048576) (aL v.Pairs (.cnt qw 0 (↑v.Pairs.length:Int) (fun i3 (y4:List Pair)=> .ix i3 y4.length (.ob (i3.toNat < y4.length) (.ob (nM s (aJ.mk f.Num f.Name f.Card f.Key f.eF f.Union f.dn f.Default.re f.Notes) (y4.getD i3.toNat gG).Val.re) (.ix i3 y4.length (.ob (i3.toNat < y4.length) (rl (y4.set i3.toNat (Pair.mk (y4.getD i3.toNat gG).Key.re (KU s (aJ.mk f.Num f.Name f.Card f.Key f.eF f.Union f.dn f.Default.re f.Notes) (y4.getD i3.toNat gG).Val.re).re)))))))) (fun i3 (y4:List Pair)=> .ret (af.mk v.Kind v.Bits v.Text v.List y4 v.Slots v.bJ)) v.Pairs))) (.ret v.re))))
def ash (KU:ay->aJ->af->af)(nM:ay->aJ->af->Prop)(auF:ay->Str->af->af)(wR:ay->Str->af->Prop)(s:ay)(name:Str)(v:af):Pg af:=.lt (ED s name) fun(v5:bg×Bool)=> .br (!v5.2) (.ret v.re) (aL v.Slots (.each false qw v.Slots bI (fun i1 a4 (y2:List Slot)=> .ix i1 v.Slots.length (.lt (Qp v5.1 a4.Num) fun(v6:aJ×Bool)=> .cut (fun(y3:Unit)=> .br v6.2 (.ob (nM s (aJ.mk v6.1.Num v6.1.Name v6.1.Card v6.1.Key v6.1.eF v6.1.Union v6.1.dn v6.1.Default.re v6.1.Notes) a4.Val.re) (.ob (bT (y2.length+1) 136) (rl (y2++ [Slot.mk a4.Num (KU s (aJ.mk v6.1.Num v6.1.Name v6.1.Card v6.1.Key v6.1.eF v6.1.Union v6.1.dn v6.1.Default.re v6.1.Notes) a4.Val.re).re])))) (.ob (bT (y2.length+1) 136) (rl (y2++[Slot.mk a4.Num a4.Val.re])))) (.br v6.2 (.br (aBZ v6.1.Notes [115,101,99,114,101,116]) (.br (v6.1.Card !=1) (.ret (.inr (.inl y2))) (rl ())) (rl ())) (rl ())))) (fun i1 (y2:List Slot)=> .ret (af.mk v.Kind v.Bits v.Text v.List v.Pairs y2 v.bJ)) []))
def nM (fu:Nat)(s:ay)(f:aJ)(v:af):Prop:=gV v/\2*tV v+1<=fu
def wR (fu:Nat)(s:ay)(name:Str)(v:af):Prop:=gV v/\2*tV v<=fu
def hdV:Nat->(ay->aJ->af->af)×(ay->Str->af->af)
 | 0=>(fun _ _ _=>default,fun _ _ _=>default)
 | fu+1=>(fun s f v=>(abZ ((hdV fu).1) (nM fu) ((hdV fu).2) (wR fu) s f v).val,fun s name v=>(ash ((hdV fu).1) (nM fu) ((hdV fu).2) (wR fu) s name v).val)
def afR (s:ay)(name:Str)(v:af):af:=(hdV (2*tV v)).2 s name v
def agQ (fu:Nat):Prop:=(∀(s:ay) (f:aJ) (v:af),nM fu s f v->(fun r=>kV r/\tV r<=tV v) ((hdV fu).1 s f v))/\(∀(s:ay) (name:Str) (v:af),wR fu s name v->(fun r=>kV r/\tV r<=tV v) ((hdV fu).2 s name v))
abbrev EW (fu:Nat):=abZ ((hdV fu).1) (nM fu) ((hdV fu).2) (wR fu)
theorem OD (fu:Nat)(ih:agQ fu)(s:ay)(f:aJ)(v:af)(h:nM (fu+1) s f v):jP (EW fu s f v) (fun r=>kV r/\tV r<=tV v):=
 by
 obtain⟨h1,h2⟩:=h;have hl:=oV h1;have ht:=h1.2;unfold EW abZ;simp only[af.dM];refine dw (fun _=>ah ⟨h1.1,lU _⟩) (fun _=>dO (fun _=>ak ⟨h1,by omega⟩ (ah (ih.2 _ _ _ ⟨h1,by omega⟩))) (fun _=>dO (fun _=>ak hl.2.2.1 (bZ (vO (fun _ (y:List af)=>y.length=v.List.length/\(∀x∈y,kV x/\tV x < tV v)/\jF (fun x=>1+tV x) y<=YP v.List) ⟨rfl,fun x hx=>⟨(Bz h1 hx).1.1,(Bz h1 hx).2⟩,by rw[ul];exact lU _⟩ au au (fun i y hi1 hi2 hI=> ?_) (fun i y _ _ hI=>ah (ak_ h1.1 (fun x hx=>(hI.2.1 x hx).1) hI.2.2)))))
  (fun _=>dO (fun _=>ak (air h1) (bZ (vO (fun _ (y:List Pair)=>y.length=v.Pairs.length/\(∀x∈y,((jQ x.Key.Kind=true/\kV x.Key)/\kV x.Val)/\tV x.Val < tV v)/\jF tP y<=WP v.Pairs) ⟨rfl,fun x hx=>⟨⟨⟨(yc h1 hx).2.2.1,ahe h1 hx⟩,(yc h1 hx).1.1⟩,(yc h1 hx).2.1⟩,by rw[ve];exact lU _⟩ au (by have:=air h1;omega) (fun i y hi1 hi2 hI=> ?_) (fun i y _ _ hI=>ah (afQ h1.1 (fun x hx=>(hI.2.1 x hx).1) hI.2.2))))) (fun _=>ah ⟨h1.1,lU _⟩))))
 ·obtain⟨i1,i2,i3⟩:=hI;have hk:=i2 _ (getD_mem (d:=fM) (l:=y) (i:=i.toNat) au);have hq:gV (y.getD i.toNat fM)/\2*tV (y.getD i.toNat fM)+1<=fu:=⟨⟨hk.1,by omega⟩,by omega⟩;obtain⟨r1,r2⟩:=ih.1 s f (y.getD i.toNat fM) hq;exact bi au au (ak au (ak hq (bi au au (ak au (ah ⟨by rw[Qbq];exact i1,aic i2 ⟨r1,Qeh r2 hk.2⟩,Ak (aax (f:=fun x=>1+tV x) (d:=fM) au (Qee r2 1)) i3⟩)))))
 ·obtain⟨i1,i2,i3⟩:=hI;have hk:=i2 _ (getD_mem (d:=gG) (l:=y) (i:=i.toNat) au);have hq:gV (y.getD i.toNat gG).Val/\2*tV (y.getD i.toNat gG).Val+1<=fu:=⟨⟨hk.1.2,by omega⟩,by omega⟩;obtain⟨r1,r2⟩:=ih.1 s f (y.getD i.toNat gG).Val hq;exact bi au au (ak au (ak hq (bi au au (ak au (ah ⟨by rw[Qbq];exact i1,aic i2 ⟨⟨hk.1.1,r1⟩,Qeh r2 hk.2⟩,Ak (aax (f:=tP) (d:=gG) au (by rw[OL,OL];show 1+_+_<=1+_+_;exact Qee r2 _)) i3⟩)))))
abbrev Qg (fu:Nat):=ash ((hdV fu).1) (nM fu) ((hdV fu).2) (wR fu)
theorem YO (fu:Nat)(ih:agQ fu)(s:ay)(name:Str)(v:af)(h:wR (fu+1) s name v):jP (Qg fu s name v) (fun r=>kV r/\tV r<=tV v):=
 by
 obtain⟨h1,h2⟩:=h;have hl:=oV h1;have ht:=h1.2;unfold Qg ash;simp only[af.dM];refine aC fun v5 hv5=>dR (fun _=>ah ⟨h1.1,lU _⟩) (fun _=>bZ (df (fun k (y:List Slot)=>y.length<=k/\(∀x∈y,kV x.Val)/\jF tS y<=jF tS (v.Slots.take k)) ⟨lU _,fun x hx=>absurd hx (V7),uN _⟩ au (fun k y hk hI=> ?_) (fun y hI=>ah (af9 h1.1 hI.2.1 (by have:=hI.2.2;rw[DT]at this;rw[vG];exact this)))));obtain⟨g1,g2⟩:=J4 h1 (getD_mem (d:=bI) hk);have e:=pR (f:=tS) (d:=bI) hk;have e2:=wS (v.Slots.getD k bI);have add:∀r,kV r->tV r<=tV (v.Slots.getD k bI).Val->(y++[Slot.mk (v.Slots.getD k bI).Num r]).length<=k+1/\(∀x∈y++[Slot.mk (v.Slots.getD k bI).Num r],kV x.Val)/\jF tS (y++[Slot.mk (v.Slots.getD k bI).Num r])<=jF tS (v.Slots.take (k+1)):=fun r r1 r2=>by
  refine⟨by have:=hI.1;simp only[pz,xH,A7];omega,o6 hI.2.1 (kG r1),?_⟩;have e3:jF tS (y++[Slot.mk (v.Slots.getD k bI).Num r])=jF tS y+(1+tV r):=by
   rw[ou];show jF tS y+(tS _+0)=_
   rw[wS];rfl
  have:=hI.2.2;omega
 have skip:y.length<=k+1/\(∀x∈y,kV x.Val)/\jF tS y<=jF tS (v.Slots.take (k+1)):=⟨by have:=hI.1;omega,hI.2.1,by have:=hI.2.2;omega⟩;refine bi au au (aC fun v6 hv6=>dh (fun _=>True) (dR (fun _=>dR (fun _=>dR (fun _=>ah skip) (fun _=>ah trivial)) (fun _=>ah trivial)) (fun _=>ah trivial)) (fun y3 _=>dR (fun _=>ak ⟨g1,by omega⟩ (ak (b_ qba qba) (ah ?_))) (fun _=>ak (b_ qba qba) (ah (add _ g1.1 (lU _))))));obtain⟨r1,r2⟩:=ih.1 s (aJ.mk v6.1.Num v6.1.Name v6.1.Card v6.1.Key v6.1.eF v6.1.Union v6.1.dn v6.1.Default v6.1.Notes) (v.Slots.getD k bI).Val ⟨g1,by omega⟩;exact add _ r1 r2
theorem KH:∀fu,agQ fu
 | 0=>⟨fun s f v h=>False.elim (by have k:=h.2;omega),
  fun s name v h=>False.elim (by have k:=h.2;have:=lV v;omega)⟩
 | fu+1=>⟨fun s f v h=>(OD fu (KH fu) s f v h).2,
  fun s name v h=>(YO fu (KH fu) s name v h).2⟩
theorem afW (fu:Nat)(s:ay)(f:aJ)(v:af)(h:nM (fu+1) s f v):Is (EW fu s f v):=(OD fu (KH fu) s f v h).1
theorem ate (fu:Nat)(s:ay)(name:Str)(v:af)(h:wR (fu+1) s name v):Is (Qg fu s name v):=(YO fu (KH fu) s name v h).1
theorem adL (s:ay)(name:Str)(v:af)(h:gV v):(fun r=>kV r/\tV r<=tV v) (afR s name v):=(KH (2*tV v)).2 s name v (⟨h,lU _⟩)
theorem hd_ok:∀fu,fV Z.P Z.S 240 (oL (args (aj (aF bC) (aj (aF eG) (a1 (aF aI))))) (shr [.slot 0 true (nn 7)] (l1 aI)) 1 [] (fun a=>some (nM fu (a.1) (a.2.1) (a.2.2))) (fun a=>(hdV fu).1 (a.1) (a.2.1) (a.2.2)))/\fV Z.P Z.S 158 (oL (args (aj (aF bC) (aj (bn cStr) (a1 (aF aI))))) (shr [.slot 0 true (nn 7)] (l1 aI)) 1 [] (fun a=>some (wR fu (a.1) (a.2.1) (a.2.2))) (fun a=>(hdV fu).2 (a.1) (a.2.1) (a.2.2)))
 | 0=>⟨iG func240 dS (fun a h=>by have k:=h.2;omega),
  iG func158 dS (fun a h=>by have k:=h.2;have:=lV (a.2.2);omega)⟩
 | fu+1=>by
  obtain⟨h0,h1⟩:=hd_ok fu;exact⟨Eo [azv,az2,⟨240,_,h0⟩,⟨158,_,h1⟩] [jS 9 (bP (fun sl=>[s0 35, .row (pid (sl 33)) 77]) (az cI (l1 jh))),jS 16 (bP (fun sl=>[s0 58, .row (pid (sl 56)) 328]) (az cI (l1 dZ)))] func240 ntmps240 (fun a=>EW fu a.1 a.2.1 a.2.2) (fun a h=>⟨afW fu a.1 a.2.1 a.2.2 h,rfl⟩) (kL (n:=75) rfl),
   Eo [Hq,KJ,ax8,⟨240,_,h0⟩,⟨158,_,h1⟩] [jS 6 (bP (fun sl=>[s0 26, .slot 9 false [some 257]]) (az cI (l1 bF))),jS 100010 (bP (fun sl=>[]) l0)] func158 ntmps158 (fun a=>Qg fu a.1 a.2.1 a.2.2) (fun a h=>⟨ate fu a.1 a.2.1 a.2.2 h,rfl⟩) (kL (n:=63) rfl)⟩
def ayu:aU Z:=⟨158,oL (args (aj (aF bC) (aj (bn cStr) (a1 (aF aI))))) (shr [.slot 0 true (nn 7)] (l1 aI)) 1 [] (fun a=>some (gV (a.2.2))) (fun a=>afR (a.1) (a.2.1) (a.2.2)),jT (fun n=>((hd_ok n).2)) _ _ (fun a h=>⟨2*tV (a.2.2),⟨h,lU _⟩,rfl⟩)⟩
def aaX (l:List iY)(s:ay)(name:Str)(v:af):Pg af:=aL l (.each false tX l r_ (fun i1 a3 (y2:Unit)=> .ix i1 l.length (.br (a3.Kind==6) (.ob (gV v.re) (.ret (.inr (afR s name v.re).re))) (rl ()))) (fun i1 (y2:Unit)=> .ret v.re) ())
def abj (l:List iY)(s:ay)(name:Str)(v:af):=(aaX l s name v).val
theorem TZ (l:List iY)(s:ay)(name:Str)(v:af)(h:gV v/\l.length<=1048576):jP (aaX l s name v) (fun r=>kV r/\tV r<=tV v):=
 by
 unfold aaX;simp only[af.dM];exact bZ (df (fun _ _=>True) trivial au (fun k y hk _=>bi au au (dO (fun _=>ak h.1 (ah (adL s name v h.1))) (fun _=>ah trivial))) (fun y _=>ah ⟨h.1.1,lU _⟩))
def as1:aU Z:=E1 [ayu] [jS 2 (bP (fun sl=>[s0 13]) (l1 cI))] (aj (bn qg) (aj (aF bC) (aj (bn cStr) (a1 (aF aI))))) (shr [.slot 0 true (nn 7)] (l1 aI)) [] func99 1 (u4 aaX) (fun a=>gV a.2.2.2/\a.1.length<=1048576) fun a h=>(TZ a.1 a.2.1 a.2.2.1 a.2.2.2 h).1
theorem adZ {x:cO}(h:QW x=true):(x.Kind=5->1<=x.Num)/\(x.Kind=4->x.Num<=64)/\(x.Kind=1\/x.Kind=2\/x.Kind=3\/x.Kind=4\/x.Kind=5):=by
 have k:VP (ranged x) (fun r=>r=true->(x.Kind=5->1<=x.Num)/\(x.Kind=4->x.Num<=64)/\(x.Kind=1\/x.Kind=2\/x.Kind=3\/x.Kind=4\/x.Kind=5)):=by
  unfold ranged;have no:∀{p:Prop},(false=true->p):=fun e=>by cases e
  refine eP (fun _=>aS no) fun _=>eP (fun _=>aS no) fun _=>jI (fun y=>y=true->x.Kind=1\/x.Kind=2) (eP (fun e=>aS fun _=> .inl (eq_of_beq e)) fun _=>aS fun e=> .inr (eq_of_beq e)) fun y hy=>eP (fun e=>aS fun _=> ?_) fun _=>eP (fun e=> ?_) fun _=>eP (fun e=> ?_) fun _=>eP (fun e=> ?_) fun _=>aS no
  ·rcases hy e with k | k<;>refine⟨fun q=> ?_,fun q=> ?_,by omega⟩<;>omega
  ·have e:=eq_of_beq e;exact eP (fun _=>aS fun _=>⟨fun q=>by omega,fun q=>by omega,by omega⟩) fun _=>aS no
  ·have e:=eq_of_beq e;exact eP (fun _=>aS fun q2=>⟨fun q=>by omega,fun _=>Cj q2,by omega⟩) fun _=>aS no
  ·have e:=eq_of_beq e;exact eP (fun q1=>aS fun _=>⟨fun _=>Cj q1,fun q=>by omega,by omega⟩) fun _=>aS no
 exact k h
theorem Lr {s:ay}{x:cO}(h:adM s x=true):(x.Kind=5->1<=x.Num)/\(x.Kind=4->x.Num<=64/\(kZ (fD s x.Method).1.Shape).2=true)/\(x.Kind=1\/x.Kind=2\/x.Kind=3\/x.Kind=4\/x.Kind=5):=by
 have k:VP (fits s x) (fun r=>r=true->(x.Kind=5->1<=x.Num)/\(x.Kind=4->x.Num<=64/\(kZ (fD s x.Method).1.Shape).2=true)/\(x.Kind=1\/x.Kind=2\/x.Kind=3\/x.Kind=4\/x.Kind=5)):=by
  unfold fits;have no:∀{p:Prop},(false=true->p):=fun e=>by cases e
  refine fC (oM fun v1 hv1=>eP (fun _=>aS no) fun _=>eP (fun _=>aS no) fun hr=>oM fun v2 hv2=> ?_);have hr:QW (cO.mk x.Method x.Kind x.Num 0)=true:=by simpa using hr
  obtain⟨r1,r2,r3⟩:=adZ hr;have r1:x.Kind=5->1<=x.Num:=r1;have r2:x.Kind=4->x.Num<=64:=r2;have r3:x.Kind=1\/x.Kind=2\/x.Kind=3\/x.Kind=4\/x.Kind=5:=r3;have fin:∀{b:Bool},(x.Kind=4->(kZ (fD s x.Method).1.Shape).2=true)->(b=true->(x.Kind=5->1<=x.Num)/\(x.Kind=4->x.Num<=64/\(kZ (fD s x.Method).1.Shape).2=true)/\(x.Kind=1\/x.Kind=2\/x.Kind=3\/x.Kind=4\/x.Kind=5)):=fun k _=>⟨r1,fun q=>⟨r2 q,k q⟩,r3⟩
  refine eP (fun e=>aS (fin fun q=> ?_)) fun _=>eP (fun e=>eP (fun _=>aS (fin fun q=> ?_)) fun _=>aS no) fun _=>eP (fun _=>eP (fun e=>aS (fin fun _=> ?_)) fun _=>aS no) fun e=>aS (fin fun q=> ?_)
  ·have e:=eq_of_beq e;omega
  ·have e:=eq_of_beq e;omega
  ·rw[hv2,hv1]at e;exact e
  ·rw[q]at e;cases e
 exact k h
def Gq (l:List Str):Prop:=jF (fun d=>2+8*d.length) l<=1048576
def wOk (w:dJ):Prop:=(∀v∈w.CG,kV v)/\jF (fun v=>1+tV v) w.CG<=1048576
def Xn (w:dJ)(r:List af):Prop:=(∀v∈r,gV v)/\r.length<=67108864/\(w.one=true->w.h.Kind≠4->r.length=1)
theorem aoH {w:dJ}(h:wOk w):∀v∈w.CG,gV v:=fun v hv=>⟨h.1 v hv,by
 have k:1+tV v<=jF (fun v=>1+tV v) w.CG:=EY (f:=fun v=>1+tV v) hv;have:=h.2;omega⟩
theorem ajB {w:dJ}(h:wOk w):w.CG.length<=1048576:=Ak (yu fun x=>by omega) h.2
theorem auW (k b:Int)(hb:lK b):gV (af.mk k b [] [] [] [] []):=⟨(kF k b [] hb).1,by rw[(kF k b [] hb).2];decide⟩
theorem avD {l:List Str}(h:Gq l):l.length<=1048576:=Ak (yu fun x=>by omega) h
theorem asq {l:List Str}(h:Gq l)(k:Nat):jF (fun d:Str=>2+8*d.length) (l.take k)<=1048576:=Ak (uH (Qdi k l)) h
def aaj (s:ay)(x:cO)(r:List Str×Status):Prop:=(∀d∈r.1,d.length<=65536)/\(r.2.Code≠0->r.1=[])/\(r.2.Code=0->(kZ (fD s x.Method).1.Shape).2=false->r.1.length=1)/\r.1.length<=67108864
theorem Je {s:ay}{x:cO}{c:Int}(h:c≠0):aaj s x ([],Status.mk c []):=⟨fun d hd=>(by cases hd),fun _=>rfl,fun e=>absurd e h,uN _⟩
def akv (w:dJ):Pg (List af):=.br (!w.one) (.ret w.CG) (aL w.CG (.br (decide (0 < (↑w.CG.length:Int))) (.lt (dD .i64 ((↑w.CG.length:Int) - 1)) fun(v1:Int)=> .ob (0<=v1/\v1<=(↑w.CG.length:Int)/\(↑w.CG.length:Int)<=(↑w.CG.length:Int)) (.ret (List.drop v1.toNat (List.take w.CG.length w.CG)))) (.ret [af.mk 10 0 [] [] [] [] []])))
def aBc (w:dJ):=(akv w).val
theorem YE (w:dJ)(h:wOk w):jP (akv w) (fun r=>Xn w r):=
 by
 have hl:=ajB h;unfold akv;refine dR (fun hb=>ah ⟨aoH h,by omega,fun e=>by rw[e]at hb;cases hb⟩) (fun hb=>bZ (bV (fun hp=>pG fun v1 hv1 hw=>ak ⟨by omega,by omega,PE _⟩ (ah ⟨fun v hv=>aoH h v ?_,?_,fun _ _=> ?_⟩)) (fun _=>ah ⟨kG (auW 10 0 ⟨by decide,by decide⟩),by decide,fun _ _=>rfl⟩)))
 ·rw[DT]at hv;exact Qd8 hv
 ·rw[PW,DT];omega
 ·rw[PW,DT];omega
def au5:aU Z:=E1 [] [] (a1 (aF eH)) (R1 jh) [] func87 1 akv (fun a=>wOk a) fun a h=>(YE a h).1
def abd (w:dJ):Pg (List af):=aL w.CG (.lt (ac6 w.s w.m.Out w.h.Num) fun(v1:aJ×Bool)=> .ret [af.mk 10 0 [] [] [] [Slot.mk v1.1.Num (af.mk v1.1.eF.Kind (dD .u64 (↑w.CG.length:Int)) [] [] [] [] [])] []])
def auS (w:dJ):=(abd w).val
theorem SC (w:dJ)(h:wOk w):jP (abd w) (fun r=>Xn w r):=
 by
 unfold abd;refine bZ (aC fun v1 hv1=>ah ⟨kG ⟨?_,?_⟩,by show 1<=67108864;decide,fun _ _=>rfl⟩)
 ·have k:=(kF v1.1.eF.Kind (dD .u64 (w.CG.length:Int)) [] (Og _)).1;exact(ik _).2 ⟨⟨ajt,fun r hr=>(by cases hr)⟩,fun x hx=>qcw,fun x hx=>qcw,kG k⟩
 ·have k:=(kF v1.1.eF.Kind (dD .u64 (w.CG.length:Int)) [] (Og _)).2;rw[iy];show 1+0+0+0+(tS _+0)+0<=_
  rw[wS];show 1+0+0+0+(1+tV (af.mk v1.1.eF.Kind (dD .u64 (w.CG.length:Int)) [] [] [] [] [])+0)+0<=_
  rw[k];decide
def aoz:aU Z:=E1 [XW] [] (a1 (aF eH)) (R1 jh) [] func89 1 abd (fun a=>wOk a) fun a h=>(SC a h).1
def PD (w:dJ):Pg (List af):=aL w.CG (.each false qw w.CG fM (fun i1 a5 (y2:List af)=> .ix i1 w.CG.length (.cnt qw 0 w.h.Num (fun i3 (y4:List af)=> .ob (bT (y4.length+1) 128) (rl (y4++[a5.re]))) (fun i3 (y4:List af)=> rl y4) y2)) (fun i1 (y2:List af)=> .ret y2) [])
def aqZ (w:dJ):=(PD w).val
theorem OT (w:dJ)(h:wOk w/\w.h.Num<=64/\w.h.Kind=4):jP (PD w) (fun r=>Xn w r):=
 by
 obtain⟨h,hn,hk⟩:=h;have hl:=ajB h;unfold PD;simp only[af.dM];refine bZ (df (fun k (y:List af)=>(∀v∈y,gV v)/\y.length<=64*k) ⟨fun v hv=>(by cases hv),lU _⟩ au (fun k y hk1 hI=> ?_) (fun y hI=>ah ⟨hI.1,by have:=hI.2;omega,fun _ e=>absurd hk e⟩));have hg:=aoH h _ (getD_mem (d:=fM) hk1);exact bi au au (vO (fun i (z:List af)=>(∀v∈z,gV v)/\(z.length:Int)<=64*k+i/\i<=64) ⟨hI.1,by have:=hI.2;omega,by decide⟩ lY au (fun i z hi1 hi2 hJ=>ak (b_ au au) (ah ⟨o6 hJ.1 (kG hg),by simp only[pz,xH,A7];omega,by omega⟩)) (fun i z _ _ hJ=>ah ⟨hJ.1,by omega⟩))
def amF:aU Z:=E1 [] [jS 3 (bP (fun sl=>[s0 9, .slot 3 false [some 77]]) (az cI (l1 jh))),jS 6 (bP (fun sl=>[s0 16, .slot 3 false [some 77]]) (az cI (l1 jh)))] (a1 (aF eH)) (R1 jh) [] func90 1 PD (fun a=>wOk a/\a.h.Num<=64/\a.h.Kind=4) fun a h=>(OT a h).1
def QN (w:dJ):Pg (List af):=.ob (okS w.s/\(∀(v:af),v∈w.CG->kV v)/\jF (fun(v:af)=>1+tV v) w.CG<=1048576) (.ret [(aFl w.s w.m.Out w.CG).re])
def ar5 (w:dJ):=(QN w).val
theorem Ol (w:dJ)(h:wOk w/\okS w.s):jP (QN w) (fun r=>Xn w r):=
 by
 have q:okS w.s/\(∀v∈w.CG,kV v)/\jF (fun v=>1+tV v) w.CG<=1048576:=⟨h.2,h.1.1,h.1.2⟩;unfold QN;simp only[af.dM];exact ak q (ah ⟨kG ⟨(RG w.s w.m.Out w.CG q).2.1,(RG w.s w.m.Out w.CG q).2.2⟩,by show 1<=67108864;decide,fun _ _=>rfl⟩)
def amP:aU Z:=E1 [aBl] [] (a1 (aF eH)) (R1 jh) [] func88 1 QN (fun a=>wOk a/\okS a.s) fun a h=>(Ol a h).1
def aBS:aU Z:=J9 Z [] 42 [true] func42 dS
def aDE:aU Z:=J9 Z [] 42 [false,true] func42 dS
def aCu:aU Z:=J9 Z [] 42 [false,false,true] func42 dS
def aAz:aU Z:=J9 Z [] 42 [false,false,false] func42 dS
def ama (c:cO->Prop)(q:dJ->Prop)(W:dJ->List af)(s:ay)(x:cO)(l:List Str):Pg (List Str×Status):=.ob (okS s) (.lt (sH s) fun(v8:dC×Int)=> .br (v8.2 !=0) (.ret ([],Status.mk 11 [])) (.ob (List.length x.Method<=1048576) (.br (!adM s x) (.ret ([],Status.mk 11 [])) (.br (x.Kind==5) (.ret ([],Status.mk x.Num [])) (.ob (List.length x.Method<=1048576) (.lt (fD s x.Method) fun(v9:dG×Int)=> .cut (fun(y4:dJ)=> .ob (c y4.h) (.ob (q y4) (.lt (W y4) fun(v10:List af)=> aL v10 (.each false qw v10 fM (fun i5 a7 (y6:List Str)=> .ix i5 v10.length (.ob (Gp v8.1/\gu v8.1/\gV a7.re) (.lt (adB v8.1 v9.1.Out a7.re) fun(v11:Str×Int)=> .br (v11.2 !=0) (.ret (.inr ([],Status.mk 11 []))) (.ob (bT (y6.length+1) 16) (rl (y6++[v11.1])))))) (fun i5 (y6:List Str)=> .ret (y6,Status.mk 0 [])) [])))) (aL l (.each false qw l [] (fun i1 a3 (y2:dJ)=> .ix i1 l.length (.ob (gu v8.1/\okL uB) (.lt (DI v8.1 v9.1.Out a3 uB) fun(v12:af×Int)=> .br (v12.2 !=0) (.ret (.inr (.inr ([],Status.mk 11 [])))) (.ob (bT (y2.CG.length+1) 128) (rl (dJ.mk y2.s y2.h y2.m (y2.CG++[v12.1.re]) y2.one)))))) (fun i1 (y2:dJ)=> rl y2) (dJ.mk s x v9.1 [] !(kZ v9.1.Shape).2)))))))))
theorem Js {c:cO->Prop}{q:dJ->Prop}{W:dJ->List af}{s:ay}{x:cO}{l:List Str}(h:okS s/\ZT s/\x.Method.length<=1048576/\Gq l)(hc:c x)(hQ:adM s x=true->¬x.Kind=5->∀y:dJ,y.s=s->y.h=x->wOk y->q y)(hW:∀y,q y->Xn y (W y)):jP (ama c q W s x l) (fun r=>aaj s x r):=by
 obtain⟨h1,hn,hm,hq⟩:=h;have hlen:=avD hq;unfold ama;simp only[af.dM];refine ak h1 (aC fun v8 Py=>dw (fun _=>ah (Je lY)) (fun h0=>ak hm (dR (fun _=>ah (Je lY)) (fun hf=> ?_))));have hf:adM s x=true:=by simpa using hf
 obtain⟨f1,f2,f3⟩:=Lr hf;rw[Py]at h0⊢;have hp1:=ao8 h1 hn h0;have hp2:=aaq h1 h0;refine dO (fun e=>ah (Je (by have:=f1 e;omega))) (fun e5=>ak hm (aC fun v9 hv9=> ?_));refine dh (fun y=>y.s=s/\y.h=x/\y.one= !(kZ v9.1.Shape).2/\wOk y) (bZ (df (fun k y=>(y.s=s/\y.h=x/\y.one= !(kZ v9.1.Shape).2)/\(∀v∈y.CG,kV v)/\jF (fun v=>1+tV v) y.CG<=jF (fun d:Str=>2+8*d.length) (l.take k)/\y.CG.length=k) ⟨⟨rfl,rfl,rfl⟩,fun v hv=>(by cases hv),uN _,rfl⟩ au (fun k y hk1 hI=> ?_) (fun y hI=>ah ⟨hI.1.1,hI.1.2.1,hI.1.2.2,hI.2.1,?_⟩))) (fun y4 hy4=> ?_)
 ·have hd:(DI (sH s).1 v9.1.Out (l.getD k []) uB).2=0->kV (DI (sH s).1 v9.1.Out (l.getD k []) uB).1/\tV (DI (sH s).1 v9.1.Out (l.getD k []) uB).1<=1+8*(l.getD k []).length:=(Df (sH s).1 v9.1.Out (l.getD k []) uB ⟨hp2,JL⟩).2;obtain⟨⟨i1,i2,i3⟩,j1,j2,j3⟩:=hI;have e:jF (fun d:Str=>2+8*d.length) (l.take (k+1))=jF (fun d:Str=>2+8*d.length) (l.take k)+(2+8*(l.getD k []).length):=pR (f:=fun d:Str=>2+8*d.length) (d:=[]) hk1;refine bi au au (ak ⟨hp2,JL⟩ (aC fun v12 ah3=>dw (fun _=>ah (show aaj s x ([],Status.mk 11 [])from Je lY)) (fun h2=> ?_)));rw[<-ah3]at hd;obtain⟨d1,d2⟩:=hd h2;refine ak (b_ au au) (ah ⟨⟨i1,i2,i3⟩,o6 j1 (kG d1),?_,?_⟩)
  ·show jF (fun v=>1+tV v) (y.CG++[_])<=_
   rw[ou,e];show _+(1+tV _+0)<=_
   omega
  ·show(y.CG++[_]).length=_
   rw[pz,j3];rfl
 ·have:=hI.2.2.1;have h2:=asq hq l.length;exact Ak this h2
 ·obtain⟨g1,g2,g3,g4⟩:=hy4;have wq:q y4:=hQ hf e5 y4 g1 g2 g4;have hw:Xn y4 (W y4):=hW y4 wq;refine ak (by rw[g2];exact hc) (ak wq (aC fun v10 Ij=> ?_));rw[<-Ij]at hw;obtain⟨w1,w2,w3⟩:=hw;refine bZ (df (fun k (y:List Str)=>(∀d∈y,d.length<=65536)/\y.length=k) ⟨fun d hd=>(by cases hd),rfl⟩ au (fun k y hk1 hI=> ?_) (fun y hI=>ah ⟨hI.1,fun e=>absurd rfl e,fun _ hs=> ?_,by have:=hI.2;show y.length<=_;omega⟩))
  ·have hg:=w1 _ (getD_mem (d:=fM) hk1);have he:=(Dt (sH s).1 v9.1.Out (v10.getD k fM) ⟨hp1,hp2,hg⟩).2;exact bi au au (ak ⟨hp1,hp2,hg⟩ (aC fun v11 Xa=>dw (fun _=>ah (show aaj s x ([],Status.mk 11 [])from Je lY)) (fun _=>ak (b_ (by have:=hI.2;omega) (by have:=hI.2;omega)) (ah ⟨o6 hI.1 (kG (by rw[Xa];exact he)),by have:=hI.2;simp only[pz,xH,A7];omega⟩))))
  ·show y.length=1
   have:=hI.2;rw[this];refine w3 ?_ ?_
   ·rw[g3,hv9,hs];rfl
   ·rw[g2];intro e;have:=(f2 e).2;rw[hs]at this;cases this
def aqD (s:ay)(x:cO)(l:List Str):Pg (List Str×Status):=ama (fun h=>(h.Kind==1)=true/\True) wOk aBc s x l
def aqI (s:ay)(x:cO)(l:List Str):=(aqD s x l).val
theorem Yb (s:ay)(x:cO)(l:List Str)(h:okS s/\ZT s/\x.Method.length<=1048576/\Gq l/\x.Kind=1):jP (aqD s x l) (fun r=>aaj s x r):=
 by
 obtain⟨h1,hn,hm,hq,hk⟩:=h;have h:=And.intro h1 (And.intro hn (And.intro hm hq));exact Js h ⟨beq_iff_eq.2 hk,trivial⟩ (fun _ _ y _ _ k=>k) fun y k=>(YE y k).2
def ayP:aU Z:=E1 [uG,Vd,tZ,ET,zH,D7,aBS,z_,au5] [jS 11 (bP (fun sl=>[s0 68, .cells (pid (sl 15)) [none,none,none,none,none,none,none,none,none,none,none,none,some 77,none]]) (az cI (l1 eH))),jS 21 (bP (fun sl=>[s0 96, .slot 21 false [some 9]]) (az cI (l1 bY))),jS 100018 (bP (fun sl=>[.cells (pid (sl 15)) [none,none,none,none,none,none,none,none,none,none,none,none,some 77,none]]) (l1 eH)),jS 800009 (bP (fun sl=>[.cells (pid (sl 15)) [none,none,none,none,none,none,none,none,none,none,none,none,some 77,none]]) (l1 eH))] (aj (aF bC) (aj (aF jm) (a1 (bn bY)))) (shr [s0 0, .slot 1 true [none,none]] (az bY (l1 jy))) [] func17 2 (u3 aqD) (fun a=>okS a.1/\ZT a.1/\a.2.1.Method.length<=1048576/\Gq a.2.2/\a.2.1.Kind=1) fun a h=>(Yb a.1 a.2.1 a.2.2 h).1
def aqP (s:ay)(x:cO)(l:List Str):Pg (List Str×Status):=ama (fun h=>(h.Kind==1)=false/\(h.Kind==2)=true/\True) (fun y=>wOk y/\okS y.s) ar5 s x l
def anV (s:ay)(x:cO)(l:List Str):=(aqP s x l).val
theorem Ye (s:ay)(x:cO)(l:List Str)(h:okS s/\ZT s/\x.Method.length<=1048576/\Gq l/\x.Kind=2):jP (aqP s x l) (fun r=>aaj s x r):=
 by
 obtain⟨h1,hn,hm,hq,hk⟩:=h;have h:=And.intro h1 (And.intro hn (And.intro hm hq));exact Js h ⟨by rw[hk];rfl,by rw[hk];rfl,trivial⟩ (fun _ _ y e _ k=>⟨k,by rw[e];exact h.1⟩) fun y k=>(Ol y k).2
def ayQ:aU Z:=E1 [uG,Vd,tZ,ET,zH,D7,aDE,z_,amP] [jS 11 (bP (fun sl=>[s0 68, .cells (pid (sl 15)) [none,none,none,none,none,none,none,none,none,none,none,none,some 77,none]]) (az cI (l1 eH))),jS 21 (bP (fun sl=>[s0 96, .slot 21 false [some 9]]) (az cI (l1 bY))),jS 100018 (bP (fun sl=>[.cells (pid (sl 15)) [none,none,none,none,none,none,none,none,none,none,none,none,some 77,none]]) (l1 eH)),jS 800009 (bP (fun sl=>[.cells (pid (sl 15)) [none,none,none,none,none,none,none,none,none,none,none,none,some 77,none]]) (l1 eH))] (aj (aF bC) (aj (aF jm) (a1 (bn bY)))) (shr [s0 0, .slot 1 true [none,none]] (az bY (l1 jy))) [] func17 2 (u3 aqP) (fun a=>okS a.1/\ZT a.1/\a.2.1.Method.length<=1048576/\Gq a.2.2/\a.2.1.Kind=2) fun a h=>(Ye a.1 a.2.1 a.2.2 h).1
def arc (s:ay)(x:cO)(l:List Str):Pg (List Str×Status):=ama (fun h=>(h.Kind==1)=false/\(h.Kind==2)=false/\(h.Kind==3)=true/\True) wOk auS s x l
def aoB (s:ay)(x:cO)(l:List Str):=(arc s x l).val
theorem Xj (s:ay)(x:cO)(l:List Str)(h:okS s/\ZT s/\x.Method.length<=1048576/\Gq l/\x.Kind=3):jP (arc s x l) (fun r=>aaj s x r):=
 by
 obtain⟨h1,hn,hm,hq,hk⟩:=h;have h:=And.intro h1 (And.intro hn (And.intro hm hq));exact Js h ⟨by rw[hk];rfl,by rw[hk];rfl,by rw[hk];rfl,trivial⟩ (fun _ _ y _ _ k=>k) fun y k=>(SC y k).2
def ayO:aU Z:=E1 [uG,Vd,tZ,ET,zH,D7,aCu,z_,aoz] [jS 11 (bP (fun sl=>[s0 68, .cells (pid (sl 15)) [none,none,none,none,none,none,none,none,none,none,none,none,some 77,none]]) (az cI (l1 eH))),jS 21 (bP (fun sl=>[s0 96, .slot 21 false [some 9]]) (az cI (l1 bY))),jS 100018 (bP (fun sl=>[.cells (pid (sl 15)) [none,none,none,none,none,none,none,none,none,none,none,none,some 77,none]]) (l1 eH)),jS 800009 (bP (fun sl=>[.cells (pid (sl 15)) [none,none,none,none,none,none,none,none,none,none,none,none,some 77,none]]) (l1 eH))] (aj (aF bC) (aj (aF jm) (a1 (bn bY)))) (shr [s0 0, .slot 1 true [none,none]] (az bY (l1 jy))) [] func17 2 (u3 arc) (fun a=>okS a.1/\ZT a.1/\a.2.1.Method.length<=1048576/\Gq a.2.2/\a.2.1.Kind=3) fun a h=>(Xj a.1 a.2.1 a.2.2 h).1
def apA (s:ay)(x:cO)(l:List Str):Pg (List Str×Status):=ama (fun h=>(h.Kind==1)=false/\(h.Kind==2)=false/\(h.Kind==3)=false/\True) (fun y=>wOk y/\y.h.Num<=64/\y.h.Kind=4) aqZ s x l
def arY (s:ay)(x:cO)(l:List Str):=(apA s x l).val
theorem Xo (s:ay)(x:cO)(l:List Str)(h:okS s/\ZT s/\x.Method.length<=1048576/\Gq l/\(x.Kind≠1/\x.Kind≠2/\x.Kind≠3)):jP (apA s x l) (fun r=>aaj s x r):=
 by
 obtain⟨h1,hn,hm,hq,hk⟩:=h;have h:=And.intro h1 (And.intro hn (And.intro hm hq));exact Js h ⟨beq_eq_false_iff_ne.2 hk.1,beq_eq_false_iff_ne.2 hk.2.1,beq_eq_false_iff_ne.2 hk.2.2,trivial⟩ (fun hf e5 y _ e k=>by have k4:x.Kind=4:=(by have:=(Lr hf).2.2;omega);rw[e];exact⟨k,((Lr hf).2.1 k4).1,k4⟩) fun y k=>(OT y k).2
def ayR:aU Z:=E1 [uG,Vd,tZ,ET,zH,D7,aAz,z_,amF] [jS 11 (bP (fun sl=>[s0 68, .cells (pid (sl 15)) [none,none,none,none,none,none,none,none,none,none,none,none,some 77,none]]) (az cI (l1 eH))),jS 21 (bP (fun sl=>[s0 96, .slot 21 false [some 9]]) (az cI (l1 bY))),jS 100018 (bP (fun sl=>[.cells (pid (sl 15)) [none,none,none,none,none,none,none,none,none,none,none,none,some 77,none]]) (l1 eH)),jS 800009 (bP (fun sl=>[.cells (pid (sl 15)) [none,none,none,none,none,none,none,none,none,none,none,none,some 77,none]]) (l1 eH))] (aj (aF bC) (aj (aF jm) (a1 (bn bY)))) (shr [s0 0, .slot 1 true [none,none]] (az bY (l1 jy))) [] func17 2 (u3 apA) (fun a=>okS a.1/\ZT a.1/\a.2.1.Method.length<=1048576/\Gq a.2.2/\(a.2.1.Kind≠1/\a.2.1.Kind≠2/\a.2.1.Kind≠3)) fun a h=>(Xo a.1 a.2.1 a.2.2 h).1
def anP (s:ay)(x:cO)(l:List Str):Prop:=okS s/\ZT s/\x.Method.length<=1048576/\Gq l
def zW (s:ay)(x:cO)(l:List Str):List Str×Status:=bif x.Kind==1 then aqI s x l else bif x.Kind==2 then anV s x l else bif x.Kind==3 then aoB s x l else arY s x l
def SN:aU Z:=⟨17,oL (args (aj (aF bC) (aj (aF jm) (a1 (bn bY))))) (shr [s0 0, .slot 1 true [none,none]] (az bY (l1 jy))) 2 [] (fun a=>some (anP a.1 a.2.1 a.2.2)) (fun a=>zW a.1 a.2.1 a.2.2),by
  have hE:fV Z.P Z.S 17 (oL (args (aj (aF bC) (aj (aF jm) (a1 (bn bY))))) (shr [s0 0, .slot 1 true [none,none]] (az bY (l1 jy))) 2 [] (fun a=>some ((a.2.1.Kind==1)=true/\anP a.1 a.2.1 a.2.2)) (fun a=>aqI a.1 a.2.1 a.2.2)):=jT (fun _=>ayP.ok) _ _ (fun a h=>⟨0,⟨h.2.1,h.2.2.1,h.2.2.2.1,h.2.2.2.2,eq_of_beq h.1⟩,rfl⟩);have hM:fV Z.P Z.S 17 (oL (args (aj (aF bC) (aj (aF jm) (a1 (bn bY))))) (shr [s0 0, .slot 1 true [none,none]] (az bY (l1 jy))) 2 [] (fun a=>some ((a.2.1.Kind==2)=true/\((a.2.1.Kind==1)=false/\anP a.1 a.2.1 a.2.2))) (fun a=>anV a.1 a.2.1 a.2.2)):=jT (fun _=>ayQ.ok) _ _ (fun a h=>⟨0,⟨h.2.2.1,h.2.2.2.1,h.2.2.2.2.1,h.2.2.2.2.2,eq_of_beq h.1⟩,rfl⟩);have hC:fV Z.P Z.S 17 (oL (args (aj (aF bC) (aj (aF jm) (a1 (bn bY))))) (shr [s0 0, .slot 1 true [none,none]] (az bY (l1 jy))) 2 [] (fun a=>some ((a.2.1.Kind==3)=true/\((a.2.1.Kind==2)=false/\((a.2.1.Kind==1)=false/\anP a.1 a.2.1 a.2.2)))) (fun a=>aoB a.1 a.2.1 a.2.2)):=jT (fun _=>ayO.ok) _ _ (fun a h=>⟨0,⟨h.2.2.2.1,h.2.2.2.2.1,h.2.2.2.2.2.1,h.2.2.2.2.2.2,eq_of_beq h.1⟩,rfl⟩);have hR:fV Z.P Z.S 17 (oL (args (aj (aF bC) (aj (aF jm) (a1 (bn bY))))) (shr [s0 0, .slot 1 true [none,none]] (az bY (l1 jy))) 2 [] (fun a=>some ((a.2.1.Kind==3)=false/\((a.2.1.Kind==2)=false/\((a.2.1.Kind==1)=false/\anP a.1 a.2.1 a.2.2)))) (fun a=>arY a.1 a.2.1 a.2.2)):=jT (fun _=>ayR.ok) _ _ (fun a h=>⟨0,⟨h.2.2.2.1,h.2.2.2.2.1,h.2.2.2.2.2.1,h.2.2.2.2.2.2,beq_eq_false_iff_ne.1 h.2.2.1,beq_eq_false_iff_ne.1 h.2.1,beq_eq_false_iff_ne.1 h.1⟩,rfl⟩);exact GU hE (GU hM (GU hC hR))⟩
theorem WO {s:ay}{x:cO}{l:List Str}(h:anP s x l):aaj s x (zW s x l):=by
 obtain⟨h1,h2,h3,h4⟩:=h;unfold zW;cases e1:x.Kind==1 with
 | true=>exact(Yb s x l ⟨h1,h2,h3,h4,eq_of_beq e1⟩).2
 | false=>
  cases e2:x.Kind==2 with
  | true=>exact(Ye s x l ⟨h1,h2,h3,h4,eq_of_beq e2⟩).2
  | false=>
   cases e3:x.Kind==3 with
   | true=>exact(Xj s x l ⟨h1,h2,h3,h4,eq_of_beq e3⟩).2
   | false=>exact(Xo s x l ⟨h1,h2,h3,h4,beq_eq_false_iff_ne.1 e1,beq_eq_false_iff_ne.1 e2,beq_eq_false_iff_ne.1 e3⟩).2
def adw (s:Server):Prop:=okS s.ay/\ZT s.ay/\(∀x∈s.Handlers,x.Method.length<=1048576)/\s.iq.length<=1048576
def Wq (t:ig):Prop:=t.Method.length<=1048576/\Gq t.In
def aiB (s:Server)(t:ig)(r:List Str×Status):Prop:=(r.2.Code≠0->r.1=[])/\(r.2.Code=0->(kZ (fD s.ay (jH s t.Method).1.Method).1.Shape).2=false->r.1.length=1)
def pF (now:Int)(t:ig):Bool:=(decide (1<=t.fF) && decide (t.fF<=now)) || (t.nS || (t.Ready != -1 && decide (t.Ready<=now)))
def azs (s:Server)(l:List ig):Server:=Server.mk s.Name s.ay s.Handlers s.iq s.Traces l s.Most s.mM
def outT (s:Server)(t t':ig):Prop:=(t'.qB=t.qB/\t'.Id=t.Id/\t'.Method=t.Method/\t'.In=t.In/\t'.nS=true)/\((t'.Status.Code≠0/\t'.dP=t.dP)\/(t'.Status=t.Status/\t'.dP=t.dP/\t.nS=true)\/(t.nS=false/\t.Ready≠ -1/\aiB s t (t'.dP,t'.Status)))
inductive Pm {A B:Type} (R:A->B->Prop):List A->List B->Prop
 | nil:Pm R [] []
 | cons {a b l m}:R a b->Pm R l m->Pm R (a::l) (b::m)
theorem alF {A B:Type}{R:A->B->Prop}{l:List A}{m:List B}{a:A}{b:B}(h:Pm R l m)(h2:R a b):Pm R (l++[a]) (m++[b]):=by
 induction h with
 | nil=>exact .cons h2 .nil
 | cons h1 _ ih=>exact .cons h1 ih
theorem adx {A B:Type}{R:A->B->Prop}{l:List A}{m:List B}(h:Pm R l m):m.length=l.length:=by
 induction h with
 | nil=>rfl
 | cons _ _ ih=>simp[ih]
def aDH (s:Server)(now:Int)(r:Server×List ig):Prop:=r.1=azs s (s.Tasks.filter fun t=> !pF now t)/\Pm (outT s) (s.Tasks.filter (pF now)) r.2
def AP (s:Server)(t:ig):Pg (List Str×Status):=.lt (jH s t.Method) fun(v4:cO×Bool)=> .ob (anP s.ay v4.1 t.In) (.lt (zW s.ay v4.1 t.In) fun(v5:List Str×Status)=> .br (v5.2.Code !=0) (.ret ([],v5.2)) (.ob (List.length t.Method<=1048576) (aL v5.1 (.each false qw v5.1 [] (fun i1 a3 (y2:List Str)=> .ix i1 v5.1.length (.ob (okS s.ay) (.lt (wY s.ay (fD s.ay t.Method).1.Out a3) fun(v6:af×Int)=> .br (v6.2 !=0) (.ret (.inr ([],Status.mk 11 []))) (.ob (gV v6.1.re/\s.iq.length<=1048576) (.lt (abj s.iq s.ay (fD s.ay t.Method).1.Out v6.1.re) fun(v7:af)=> .ob (okS s.ay/\ZT s.ay/\gV v7.re) (.lt (af1 s.ay (fD s.ay t.Method).1.Out v7.re) fun(v8:Str×Int)=> .br (v8.2 !=0) (.ret (.inr ([],Status.mk 11 []))) (.ob (bT (y2.length+1) 16) (rl (y2++[v8.1]))))))))) (fun i1 (y2:List Str)=> .ret (y2,Status.mk 0 [])) []))))
def uM (s:Server)(t:ig):=(AP s t).val
theorem D_ (s:Server)(t:ig)(h:adw s/\Wq t):jP (AP s t) (fun r=>aiB s t r):=
 by
 obtain⟨⟨h1,hn,hh,hi⟩,hm,hq⟩:=h;have ha:anP s.ay (jH s t.Method).1 t.In:=⟨h1,hn,(MS hh).1,hq⟩;have hp:=WO ha;have fail:aiB s t ([],Status.mk 11 []):=⟨fun _=>rfl,fun e=>absurd (show(11:Int)=0 from e) lY⟩;unfold AP;simp only[af.dM];refine aC fun v4 hv4=> ?_;rw[hv4];refine ak ha (aC fun v5 hv5=> ?_);rw[<-hv5]at hp;obtain⟨p1,p2,p3,p4⟩:=hp;refine dw (fun hne=>ah ⟨fun _=>rfl,fun e=>absurd e hne⟩) (fun h0=>ak hm (bZ (df (fun k (y:List Str)=>y.length=k) rfl au (fun k y hk hI=> ?_) (fun y hI=>ah ⟨fun e=>absurd rfl e,fun _ hs=> ?_⟩))))
 ·have hd:(wY s.ay (fD s.ay t.Method).1.Out (v5.1.getD k [])).2=0->kV (wY s.ay (fD s.ay t.Method).1.Out (v5.1.getD k [])).1/\tV (wY s.ay (fD s.ay t.Method).1.Out (v5.1.getD k [])).1<=1+8*(v5.1.getD k []).length:=(FW s.ay (fD s.ay t.Method).1.Out (v5.1.getD k []) h1).2;have he:=p1 _ (getD_mem (d:=[]) hk);refine bi au au (ak h1 (aC fun v6 hv6=>dw (fun _=>ah fail) (fun h6=> ?_)));rw[<-hv6]at hd;obtain⟨d1,d2⟩:=hd h6;have hg:gV v6.1:=⟨d1,by omega⟩;have hf:kV (abj s.iq s.ay (fD s.ay t.Method).1.Out v6.1)/\tV (abj s.iq s.ay (fD s.ay t.Method).1.Out v6.1)<=tV v6.1:=(TZ s.iq s.ay (fD s.ay t.Method).1.Out v6.1 ⟨hg,hi⟩).2;refine ak ⟨hg,hi⟩ (aC fun v7 hv7=> ?_);rw[<-hv7]at hf;have hg7:gV v7:=⟨hf.1,by have h8:=hf.2;have h9:=hg.2;omega⟩;exact ak ⟨h1,hn,hg7⟩ (aC fun v8 Py=>dw (fun _=>ah fail) (fun _=>ak (b_ au au) (ah (by show(y++[v8.1]).length=k+1;rw[pz,hI];rfl))))
 ·show y.length=1
  rw[hI];exact p3 h0 hs
def aaN:aU Z:=E1 [uG,SN,CY,OO,ad2,as1] [jS 8 (bP (fun sl=>[s0 48, .slot 12 false [some 9]]) (az cI (l1 bY)))] (aj (aF gW) (a1 (aF Fj))) (shr [s0 0, .slot 1 true [none,none]] (az bY (l1 jy))) [] func56 2 (u2 AP) (fun a=>adw a.1/\Wq a.2) fun a h=>(D_ a.1 a.2 h).1
def aaP (s:Server)(now:Int):Pg (Server×List ig):=aL s.Tasks (.each false qw s.Tasks bM (fun i1 a3 (y2:List ig×List ig)=> .ix i1 s.Tasks.length (.lt (y2.1++[ig.mk a3.qB a3.Id a3.Method a3.eY a3.fF a3.In a3.Ready (uM s a3).1 (uM s a3).2 true]) fun(v4:List ig)=> .lt (y2.1++[ig.mk a3.qB a3.Id a3.Method a3.eY a3.fF a3.In a3.Ready a3.dP a3.Status true]) fun(v5:List ig)=> .lt (y2.2++[a3]) fun(v6:List ig)=> .br (decide (1<=a3.fF)) (.br (decide (a3.fF<=now)) (.ob (bT (y2.1.length+1) 152) (rl (y2.1++[ig.mk a3.qB a3.Id a3.Method a3.eY a3.fF a3.In a3.Ready a3.dP (Status.mk 3 []) true],y2.2))) (.br a3.nS (.ob (bT (y2.1.length+1) 152) (rl (v5,y2.2))) (.br (a3.Ready !=(-1)) (.br (decide (a3.Ready<=now)) (.ob (adw s/\Wq a3) (.ob (bT (y2.1.length+1) 152) (rl (v4,y2.2)))) (.ob (bT (y2.2.length+1) 152) (rl (y2.1,v6)))) (.ob (bT (y2.2.length+1) 152) (rl (y2.1,v6)))))) (.br a3.nS (.ob (bT (y2.1.length+1) 152) (rl (v5,y2.2))) (.br (a3.Ready !=(-1)) (.br (decide (a3.Ready<=now)) (.ob (adw s/\Wq a3) (.ob (bT (y2.1.length+1) 152) (rl (v4,y2.2)))) (.ob (bT (y2.2.length+1) 152) (rl (y2.1,v6)))) (.ob (bT (y2.2.length+1) 152) (rl (y2.1,v6))))))) (fun i1 (y2:List ig×List ig)=> .ret (Server.mk s.Name s.ay s.Handlers s.iq s.Traces y2.2 s.Most s.mM,y2.1)) ([],[]))
def axY (s:Server)(now:Int):=(aaP s now).val
theorem Vb (s:Server)(now:Int)(h:adw s/\s.Tasks.length<=1048576/\∀t∈s.Tasks,Wq t):jP (aaP s now) (fun r=>aDH s now r):=
 by
 obtain⟨h1,h2,h3⟩:=h;unfold aaP;refine bZ (df (fun k (y:List ig×List ig)=>y.2=(s.Tasks.take k).filter (fun t=> !pF now t)/\Pm (outT s) ((s.Tasks.take k).filter (pF now)) y.1) ⟨rfl, .nil⟩ au (fun k y hk hI=> ?_) (fun y hI=>ah ?_))
 ·obtain⟨i1,i2⟩:=hI;have ha:=h3 _ (getD_mem (d:=bM) hk);have hpa:aiB s (s.Tasks.getD k bM) (uM s (s.Tasks.getD k bM)):=(D_ s (s.Tasks.getD k bM) ⟨h1,ha⟩).2;have e:=take_snoc (d:=bM) hk;have l1:y.1.length<=k:=by
   rw[adx i2];exact Ak (Qca _ _) qa8
  have l2:y.2.length<=k:=by
   rw[i1];exact Ak (Qca _ _) qa8
  have yes:pF now (s.Tasks.getD k bM)=true->∀t',outT s (s.Tasks.getD k bM) t'->y.2=(s.Tasks.take (k+1)).filter (fun t=> !pF now t)/\Pm (outT s) ((s.Tasks.take (k+1)).filter (pF now)) (y.1++[t']):=fun hd t' ht=>by
   rw[e,Qbw,Qbw];have e1:[s.Tasks.getD k bM].filter (fun t=> !pF now t)=[]:=by simp only[Qcg,hd,Qby,Qbr,if_false,Qdw]
   have e2:[s.Tasks.getD k bM].filter (pF now)=[s.Tasks.getD k bM]:=by simp only[Qcg,hd,if_true,Qdw]
   rw[e1,e2,Qdf];exact⟨i1,alF i2 ht⟩
  have no:pF now (s.Tasks.getD k bM)=false->y.2++[s.Tasks.getD k bM]=(s.Tasks.take (k+1)).filter (fun t=> !pF now t)/\Pm (outT s) ((s.Tasks.take (k+1)).filter (pF now)) y.1:=fun hd=>by
   rw[e,Qbw,Qbw];have e1:[s.Tasks.getD k bM].filter (fun t=> !pF now t)=[s.Tasks.getD k bM]:=by simp only[Qcg,hd,Bool.not_false,if_true,Qdw]
   have e2:[s.Tasks.getD k bM].filter (pF now)=[]:=by simp only[Qcg,hd,Qbr,if_false,Qdw]
   rw[e1,e2,Qdf,i1];exact⟨rfl,i2⟩
  have r1:bT (y.1.length+1) 152:=b_ au au;have r2:bT (y.2.length+1) 152:=b_ au au;have dl:∀a:ig,a=s.Tasks.getD k bM->1<=a.fF->a.fF<=now->pF now a=true:=fun a _ q1 q2=>by
   unfold pF;rw[qW q1,qW q2];rfl
  have en:∀a:ig,a.nS=true->pF now a=true:=fun a q=>by
   unfold pF;rw[q];simp
  have rd:∀a:ig,¬a.Ready= -1->a.Ready<=now->pF now a=true:=fun a q1 q2=>by
   unfold pF;rw[qW q2,bne_iff_ne.2 q1];simp
  have nn:∀a:ig,¬(1<=a.fF/\a.fF<=now)->a.nS=false->¬(¬a.Ready= -1/\a.Ready<=now)->pF now a=false:=fun a q1 q2 q3=>by
   unfold pF;rw[q2];have e1:(decide (1<=a.fF) && decide (a.fF<=now))=false:=by
    rw[Bool.and_eq_false_iff];by_cases q:1<=a.fF
    ·exact .inr (qo fun q'=>q1 ⟨q,q'⟩)
    ·exact .inl (qo q)
   have e2:(a.Ready != -1 && decide (a.Ready<=now))=false:=by
    rw[Bool.and_eq_false_iff];by_cases q:a.Ready= -1
    ·exact .inl (by rw[q];rfl)
    ·exact .inr (qo fun q'=>q3 ⟨q,q'⟩)
   rw[e1,e2];rfl
  generalize hA:s.Tasks.getD k bM=a at*;refine bi au au (aC fun v4 hv4=>aC fun v5 hv5=>aC fun v6 hv6=> ?_);have oE:a.nS=true->outT s a (ig.mk a.qB a.Id a.Method a.eY a.fF a.In a.Ready a.dP a.Status true):=fun q=>⟨⟨rfl,rfl,rfl,rfl,rfl⟩, .inr (.inl ⟨rfl,rfl,q⟩)⟩
  have oA:a.nS=false->¬a.Ready= -1->outT s a (ig.mk a.qB a.Id a.Method a.eY a.fF a.In a.Ready (uM s a).1 (uM s a).2 true):=fun q1 q2=>⟨⟨rfl,rfl,rfl,rfl,rfl⟩, .inr (.inr ⟨q1,q2,hpa⟩)⟩
  have rest:¬(1<=a.fF/\a.fF<=now)->jP (Pg.br a.nS (.ob (bT (y.1.length+1) 152) (rl (v5,y.2))) (.br (a.Ready !=(-1)) (.br (decide (a.Ready<=now)) (.ob (adw s/\Wq a) (.ob (bT (y.1.length+1) 152) (rl (v4,y.2)))) (.ob (bT (y.2.length+1) 152) (rl (y.1,v6)))) (.ob (bT (y.2.length+1) 152) (rl (y.1,v6))))) (Sum.elim (fun(y:List ig×List ig)=>y.2=(s.Tasks.take (k+1)).filter (fun t=> !pF now t)/\Pm (outT s) ((s.Tasks.take (k+1)).filter (pF now)) y.1) (fun r=>aDH s now r)):=fun q0=>by
   refine dR (fun q=>ak r1 (ah ?_)) (fun q=>dw (fun q1=>bV (fun q2=>ak ⟨h1,ha⟩ (ak r1 (ah ?_))) (fun q2=>ak r2 (ah ?_))) (fun q1=>ak r2 (ah ?_)))
   ·rw[hv5];exact yes (en a q) _ (oE q)
   ·rw[hv4];exact yes (rd a q1 q2) _ (oA q q1)
   ·rw[hv6];exact no (nn a q0 q fun z=>q2 z.2)
   ·rw[hv6];exact no (nn a q0 q fun z=>z.1 q1)
  exact bV (fun q1=>bV (fun q2=>ak r1 (ah (yes (dl a rfl q1 q2) _ ⟨⟨rfl,rfl,rfl,rfl,rfl⟩, .inl ⟨by show(3:Int)≠0;decide,rfl⟩⟩))) (fun q2=>rest fun z=>q2 z.2)) (fun q1=>rest fun z=>q1 z.1)
 ·obtain⟨i1,i2⟩:=hI;rw[DT]at i1 i2;exact⟨by rw[i1];rfl,i2⟩
def atq:aU Z:=E1 [aaN] [jS 3 (bP (fun sl=>[s0 13, .slot 6 false [some 58], .slot 7 false [some 58]]) (az cI (az zV (l1 zV))))] (aj (aF gW) (a1 (bn cI))) (shr [.slot 0 true (nn 10), s0 1] (az gW (l1 zV))) [] func23 2 (u2 aaP) (fun a=>adw a.1/\a.1.Tasks.length<=1048576/\∀t∈a.1.Tasks,Wq t) fun a h=>(Vb a.1 a.2 h).1
end
end Go.Proofs.YtihakigfhcankaaGreatDoor
