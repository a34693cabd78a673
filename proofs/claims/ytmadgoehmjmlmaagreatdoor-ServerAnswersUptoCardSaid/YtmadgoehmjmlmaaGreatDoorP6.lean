/- Server: merging, the parts. -/
import Derived.Test.YtmadgoehmjmlmaaGreatDoorP5
import Derived.Test.YtmadgoehmjmlmaaGreatDoorEng18
import Derived.WalkKit
import Derived.WalkSpells
import Derived.Laws.Externs
import Derived.Shelf.RegionOpenPlain
import Derived.Lib.Walk
import Derived.Lib.SliceRun
namespace Go.Proofs.YtmadgoehmjmlmaaGreatDoor
noncomputable section
open Go.RowKit Go.Vc
open Tryz
set_option linter.unusedVariables false
set_option linter.unusedSimpArgs false
set_option maxRecDepth 100000
theorem Gi {A:Type}{l:List (List A)}{k:Nat}(h:k < l.length):(l.take (k+1)).flatten=(l.take k).flatten++l.getD k []:=by
 rw[take_snoc (d:=[]) h,List.flatten_append];simp
theorem agt {A:Type}(l:List (List A))(k:Nat):(l.take k).flatten.length<=l.flatten.length:=by
 have e:l.flatten=(l.take k).flatten++(l.drop k).flatten:=by rw[<-List.flatten_append,Qbk]
 rw[e,kT];omega
theorem ayY (w:World):Calls Tryz.prog 422 #[.slice none 0 0, .int .i64 0] w fun e w'=>e= .returned (.slice none 0 0)/\w'=w:=by
 have mixed:Tryz.prog.follows Departure.mixedOrders=true:=by kernel_rfl
 go_enter func422,ntmps422
 go_wp2
 go_ret
 exact⟨rfl,rfl⟩
set_option maxHeartbeats 1000000 in
theorem awV (n h cc:Nat)(w w1:World)(hn:0 < n)(hc:n<=cc)(hm:n<=9223372036854775807)(hap:∀ty,(Builtin.append_ #[79,3] ty #[.slice none 0 0, .int .i64 n]).run Tryz.prog w= .ok (.slice (some ⟨h,0,none⟩) n cc) w1):
  Calls Tryz.prog 422 #[.slice none 0 0, .int .i64 n] w fun e w'=>e= .returned (.slice (some ⟨h,0,none⟩) 0 cc)/\w'=w1:=by
 have h1:¬((n:Int) < 0):=by omega
 have h2:IntKind.i64.wrap ((n:Int))=(n:Int):=by rw[IntKind.wrap_i64];omega
 have h4:(n:Int) > 0:=by omega
 have h5:(0:Int) < (n:Int):=by omega
 have mixed:Tryz.prog.follows Departure.mixedOrders=true:=by kernel_rfl
 go_enter func422,ntmps422
 go_wp2_with (at_builtin;refine Lib.wpList_append_run _ rfl _ _ 79 3 rfl _ _ rfl rfl _ _ (hap _) ?_)
 all_goals (go_ret;exact⟨rfl,rfl⟩)
def al4:Ct D:=Ue S 84 7 128 ([.int .i64 0, .int .u64 0, .string ⟨#[]⟩, .slice none 0 0, .slice none 0 0, .slice none 0 0, .slice none 0 0].map fun v=>(yI v).norm)
theorem agp:fV Tryz.prog S 422 al4:=by
 obtain⟨inf,z,h1,h2,h3,h4,h5⟩:=rF (afE 84 _ rfl);refine OE (t:=79) (ti:=3) (kn:= .i64) (inf:=inf) (z:=z) am5 (fun args w=> ?_) ⟨ayY,awV⟩ nG underlying79 underlying3 h1 h2 h3 h4 ?_
 ·have hf:=func422;have hnm:¬f422.name= "runtime.NumGoroutine" :=by decide+kernel
  obtain⟨c,hc⟩:∃c,f422.body=some c:=⟨_,rfl⟩;simp[callFunc,hf,hnm,hc]
 ·rw[<-Qj,h5];rfl
def aE2:aS Z:=⟨422,al4,agp⟩
def awz (l:List (List af)):Pg (List af):=.cut (fun(y4:Int)=> .ob (0<=y4/\y4*(128:Int)<=281474976710656/\y4<=1099511627776) (aL l (.each false qi l [] (fun i5 (a7 y6:List af)=> .ix i5 l.length (.ob (bQ (y6.length+a7.length) 128) (rl (y6++a7)))) (fun i5 (y6:List af)=> .ret y6) (List.replicate 0 (af.mk 0 0 [] [] [] [] []))))) (aL l (.each false qi l [] (fun i1 a3 (y2:Int)=> .ix i1 l.length (aL a3 (.lt (dB .i64 (y2+(↑a3.length:Int))) fun(v8:Int)=> .br (decide (v8 < 0)) (.no default) (rl v8)))) (fun(i1 y2:Int)=> rl y2) 0))
def aA6 (l:List (List af)):=(awz l).val
theorem afJ (l:List (List af))(h:l.flatten.length<=2097152/\l.length<=2097152):jF (awz l) (fun r=>r=l.flatten):=
 by
 have hl:=agt l;unfold awz;refine df (fun y=>y=(l.flatten.length:Int)) (dm (cZ (fun k y=>y=((l.take k).flatten.length:Int)) rfl au (fun k y hk hI=> ?_) (fun y hI=>ah qbs))) (fun y4 hy4=>ak ⟨by omega,by omega,by omega⟩ (dm (cZ (fun k y=>y=(l.take k).flatten) rfl au (fun k y hk hI=> ?_) (fun y hI=>ah qbs))))
 ·have e:=Qc5 List.length (Gi hk);rw[kT]at e;have h1:=hl (k+1);exact aZ au au (dm (pJ fun v8 Nl hw=>bT (fun hlt=>absurd hlt au) (fun _=>ah (by show v8=_;omega))))
 ·have e:=Gi hk;have h1:=hl (k+1);rw[e,kT]at h1;exact aZ au au (ak qce (ah (by rw[hI];exact e.symm)))
def aDM:aS Z:=E1 [aE2] [jS 3 (bU (fun sl=>[s0 11, s0 3]) (az cI (l1 cI))),jS 11 (bU (fun sl=>[s0 27, .slot 6 false [some 84]]) (az cI (l1 jd))),jS 100009 (bU (fun sl=>[s0 3]) (l1 cI))] (a1 (bu Zy)) (shr [.slot 0 false [some 84]] (l1 jd)) [] func375 1 awz (fun a=>a.flatten.length<=2097152/\a.length<=2097152) fun a h=>(afJ a h).1
theorem ay2 (w:World):Calls Tryz.prog 423 #[.slice none 0 0, .int .i64 0] w fun e w'=>e= .returned (.slice none 0 0)/\w'=w:=by
 have mixed:Tryz.prog.follows Departure.mixedOrders=true:=by kernel_rfl
 go_enter func423,ntmps423
 go_wp2
 go_ret
 exact⟨rfl,rfl⟩
set_option maxHeartbeats 1000000 in
theorem aww (n h cc:Nat)(w w1:World)(hn:0 < n)(hc:n<=cc)(hm:n<=9223372036854775807)(hap:∀ty,(Builtin.append_ #[80,3] ty #[.slice none 0 0, .int .i64 n]).run Tryz.prog w= .ok (.slice (some ⟨h,0,none⟩) n cc) w1):
  Calls Tryz.prog 423 #[.slice none 0 0, .int .i64 n] w fun e w'=>e= .returned (.slice (some ⟨h,0,none⟩) 0 cc)/\w'=w1:=by
 have h1:¬((n:Int) < 0):=by omega
 have h2:IntKind.i64.wrap ((n:Int))=(n:Int):=by rw[IntKind.wrap_i64];omega
 have h4:(n:Int) > 0:=by omega
 have h5:(0:Int) < (n:Int):=by omega
 have mixed:Tryz.prog.follows Departure.mixedOrders=true:=by kernel_rfl
 go_enter func423,ntmps423
 go_wp2_with (at_builtin;refine Lib.wpList_append_run _ rfl _ _ 80 3 rfl _ _ rfl rfl _ _ (hap _) ?_)
 all_goals (go_ret;exact⟨rfl,rfl⟩)
def ajT:Ct D:=Ue S 333 14 256 ([.int .i64 0, .int .u64 0, .string ⟨#[]⟩, .slice none 0 0, .slice none 0 0, .slice none 0 0, .slice none 0 0, .int .i64 0, .int .u64 0, .string ⟨#[]⟩, .slice none 0 0, .slice none 0 0, .slice none 0 0, .slice none 0 0].map fun v=>(yI v).norm)
theorem ahg:fV Tryz.prog S 423 ajT:=by
 obtain⟨inf,z,h1,h2,h3,h4,h5⟩:=rF (afE 333 _ rfl);refine OE (t:=80) (ti:=3) (kn:= .i64) (inf:=inf) (z:=z) am5 (fun args w=> ?_) ⟨ay2,aww⟩ nG underlying80 underlying3 h1 h2 h3 h4 ?_
 ·have hf:=func423;have hnm:¬f423.name= "runtime.NumGoroutine" :=by decide+kernel
  obtain⟨c,hc⟩:∃c,f423.body=some c:=⟨_,rfl⟩;simp[callFunc,hf,hnm,hc]
 ·rw[<-Qj,h5];rfl
def aCj:aS Z:=⟨423,ajT,ahg⟩
def ayd (l:List (List Pair)):Pg (List Pair):=.cut (fun(y4:Int)=> .ob (0<=y4/\y4*(256:Int)<=281474976710656/\y4<=1099511627776) (aL l (.each false qi l [] (fun i5 (a7 y6:List Pair)=> .ix i5 l.length (.ob (bQ (y6.length+a7.length) 256) (rl (y6++a7)))) (fun i5 (y6:List Pair)=> .ret y6) (List.replicate 0 (Pair.mk (af.mk 0 0 [] [] [] [] []) (af.mk 0 0 [] [] [] [] [])))))) (aL l (.each false qi l [] (fun i1 a3 (y2:Int)=> .ix i1 l.length (aL a3 (.lt (dB .i64 (y2+(↑a3.length:Int))) fun(v8:Int)=> .br (decide (v8 < 0)) (.no default) (rl v8)))) (fun(i1 y2:Int)=> rl y2) 0))
def aAK (l:List (List Pair)):=(ayd l).val
theorem adR (l:List (List Pair))(h:l.flatten.length<=2097152/\l.length<=2097152):jF (ayd l) (fun r=>r=l.flatten):=
 by
 have hl:=agt l;unfold ayd;refine df (fun y=>y=(l.flatten.length:Int)) (dm (cZ (fun k y=>y=((l.take k).flatten.length:Int)) rfl au (fun k y hk hI=> ?_) (fun y hI=>ah qbs))) (fun y4 hy4=>ak ⟨by omega,by omega,by omega⟩ (dm (cZ (fun k y=>y=(l.take k).flatten) rfl au (fun k y hk hI=> ?_) (fun y hI=>ah qbs))))
 ·have e:=Qc5 List.length (Gi hk);rw[kT]at e;have h1:=hl (k+1);exact aZ au au (dm (pJ fun v8 Nl hw=>bT (fun hlt=>absurd hlt au) (fun _=>ah (by show v8=_;omega))))
 ·have e:=Gi hk;have h1:=hl (k+1);rw[e,kT]at h1;exact aZ au au (ak qce (ah (by rw[hI];exact e.symm)))
def aC6:aS Z:=E1 [aCj] [jS 3 (bU (fun sl=>[s0 11, s0 3]) (az cI (l1 cI))),jS 11 (bU (fun sl=>[s0 27, .slot 6 false [some 333]]) (az cI (l1 dW))),jS 100009 (bU (fun sl=>[s0 3]) (l1 cI))] (a1 (bu Zr)) (shr [.slot 0 false [some 333]] (l1 dW)) [] func376 1 ayd (fun a=>a.flatten.length<=2097152/\a.length<=2097152) fun a h=>(adR a h).1
theorem azy (w:World):Calls Tryz.prog 424 #[.slice none 0 0, .int .i64 0] w fun e w'=>e= .returned (.slice none 0 0)/\w'=w:=by
 have mixed:Tryz.prog.follows Departure.mixedOrders=true:=by kernel_rfl
 go_enter func424,ntmps424
 go_wp2
 go_ret
 exact⟨rfl,rfl⟩
set_option maxHeartbeats 1000000 in
theorem ay0 (n h cc:Nat)(w w1:World)(hn:0 < n)(hc:n<=cc)(hm:n<=9223372036854775807)(hap:∀ty,(Builtin.append_ #[82,3] ty #[.slice none 0 0, .int .i64 n]).run Tryz.prog w= .ok (.slice (some ⟨h,0,none⟩) n cc) w1):
  Calls Tryz.prog 424 #[.slice none 0 0, .int .i64 n] w fun e w'=>e= .returned (.slice (some ⟨h,0,none⟩) 0 cc)/\w'=w1:=by
 have h1:¬((n:Int) < 0):=by omega
 have h2:IntKind.i64.wrap ((n:Int))=(n:Int):=by rw[IntKind.wrap_i64];omega
 have h4:(n:Int) > 0:=by omega
 have h5:(0:Int) < (n:Int):=by omega
 have mixed:Tryz.prog.follows Departure.mixedOrders=true:=by kernel_rfl
 go_enter func424,ntmps424
 go_wp2_with (at_builtin;refine Lib.wpList_append_run _ rfl _ _ 82 3 rfl _ _ rfl rfl _ _ (hap _) ?_)
 all_goals (go_ret;exact⟨rfl,rfl⟩)
def alL:Ct D:=Ue S 268 4 40 ([.int .i64 0, .int .i64 0, .int .u64 0, .string ⟨#[]⟩].map fun v=>(yI v).norm)
theorem agu:fV Tryz.prog S 424 alL:=by
 obtain⟨inf,z,h1,h2,h3,h4,h5⟩:=rF (afE 268 _ rfl);refine OE (t:=82) (ti:=3) (kn:= .i64) (inf:=inf) (z:=z) am5 (fun args w=> ?_) ⟨azy,ay0⟩ nG underlying82 underlying3 h1 h2 h3 h4 ?_
 ·have hf:=func424;have hnm:¬f424.name= "runtime.NumGoroutine" :=by decide+kernel
  obtain⟨c,hc⟩:∃c,f424.body=some c:=⟨_,rfl⟩;simp[callFunc,hf,hnm,hc]
 ·rw[<-Qj,h5];rfl
def aEr:aS Z:=⟨424,alL,agu⟩
def ayG (l:List (List Raw)):Pg (List Raw):=.cut (fun(y4:Int)=> .ob (0<=y4/\y4*(40:Int)<=281474976710656/\y4<=1099511627776) (aL l (.each false qi l [] (fun i5 (a7 y6:List Raw)=> .ix i5 l.length (.ob (bQ (y6.length+a7.length) 40) (rl (y6++a7)))) (fun i5 (y6:List Raw)=> .ret y6) (List.replicate 0 (Raw.mk 0 0 0 []))))) (aL l (.each false qi l [] (fun i1 a3 (y2:Int)=> .ix i1 l.length (aL a3 (.lt (dB .i64 (y2+(↑a3.length:Int))) fun(v8:Int)=> .br (decide (v8 < 0)) (.no default) (rl v8)))) (fun(i1 y2:Int)=> rl y2) 0))
def akN (l:List (List Raw)):=(ayG l).val
theorem aeg (l:List (List Raw))(h:l.flatten.length<=2097152/\l.length<=2097152):jF (ayG l) (fun r=>r=l.flatten):=
 by
 have hl:=agt l;unfold ayG;refine df (fun y=>y=(l.flatten.length:Int)) (dm (cZ (fun k y=>y=((l.take k).flatten.length:Int)) rfl au (fun k y hk hI=> ?_) (fun y hI=>ah qbs))) (fun y4 hy4=>ak ⟨by omega,by omega,by omega⟩ (dm (cZ (fun k y=>y=(l.take k).flatten) rfl au (fun k y hk hI=> ?_) (fun y hI=>ah qbs))))
 ·have e:=Qc5 List.length (Gi hk);rw[kT]at e;have h1:=hl (k+1);exact aZ au au (dm (pJ fun v8 Nl hw=>bT (fun hlt=>absurd hlt au) (fun _=>ah (by show v8=_;omega))))
 ·have e:=Gi hk;have h1:=hl (k+1);rw[e,kT]at h1;exact aZ au au (ak qce (ah (by rw[hI];exact e.symm)))
def aD0:aS Z:=E1 [aEr] [jS 3 (bU (fun sl=>[s0 11, s0 3]) (az cI (l1 cI))),jS 11 (bU (fun sl=>[s0 27, .slot 6 false [some 268]]) (az cI (l1 bF))),jS 100009 (bU (fun sl=>[s0 3]) (l1 cI))] (a1 (bu aff)) (shr [.slot 0 false [some 268]] (l1 bF)) [] func377 1 ayG (fun a=>a.flatten.length<=2097152/\a.length<=2097152) fun a h=>(aeg a h).1
def clF (l:List aJ):Pg (List aJ):=.unk false (fun(b:Bool)=>b=true->l.length=0) (.ret []) (.ob (bQ (0+l.length) 240) (.ret l))
theorem aEx (l:List aJ)(h:l.length<=1048576):Is (clF l):=
 qR (b_ au au)
def aHw:aS Z:=E2 [] [] (a1 (bu gp)) (shr [.slot 0 false [some 86]] (l1 gp)) [] func419 1 clF (fun a=>some (a.length<=1048576)) (fun a=>a) fun a h=>⟨aEx a h,rfl⟩
def unC (x:aJ)(name:Str):Pg Bool:=.ret (x.Union !=name)
def adX (x:aJ)(name:Str):=(unC x name).val
def ao6:aS Z:=wZ [] [] (aj (aF d_) (a1 (iQ 0))) (b1 (aP cStr)) (R1 aH) [0] func420 1 (u11 unC)
def aAX:aS Z:=Ir [ao6] gp 420 [0] (b1 (aP cStr)) func335 aK fun x b=>adX x b
def unD (l:List aJ)(name:Str):Pg (List aJ):=.lt (h_ (fun(x:aJ)=>adX x name) l) fun(v4:Int)=> .br (v4==(-1)) (.ret l) (.lt (dB .i64 (v4+1)) fun(v5:Int)=> .wh (l.length+1) default (fun(x3:Int×Int×List aJ)=> aL x3.2.2 (.br (decide (x3.1 < (↑x3.2.2.length:Int))) (.ix x3.1 x3.2.2.length (.ob (x3.1.toNat < x3.2.2.length) (.lt (dB .i64 (x3.1+1)) fun(v6:Int)=> .br (!adX (aJ.mk (x3.2.2.getD x3.1.toNat aK).Num (x3.2.2.getD x3.1.toNat aK).Name (x3.2.2.getD x3.1.toNat aK).Card (x3.2.2.getD x3.1.toNat aK).Key (x3.2.2.getD x3.1.toNat aK).dZ (x3.2.2.getD x3.1.toNat aK).Union (x3.2.2.getD x3.1.toNat aK).dw (x3.2.2.getD x3.1.toNat aK).Default.re (x3.2.2.getD x3.1.toNat aK).Notes) name) (.ix x3.2.1 x3.2.2.length (.ob (x3.2.1.toNat < x3.2.2.length) (rl (v6,dB .i64 (x3.2.1+1), x3.2.2.set x3.2.1.toNat (aJ.mk (x3.2.2.getD x3.1.toNat aK).Num (x3.2.2.getD x3.1.toNat aK).Name (x3.2.2.getD x3.1.toNat aK).Card (x3.2.2.getD x3.1.toNat aK).Key (x3.2.2.getD x3.1.toNat aK).dZ (x3.2.2.getD x3.1.toNat aK).Union (x3.2.2.getD x3.1.toNat aK).dw (x3.2.2.getD x3.1.toNat aK).Default.re (x3.2.2.getD x3.1.toNat aK).Notes))))) (rl (v6,x3.2))))) (.ob (0<=x3.2.1/\x3.2.1<=(↑x3.2.2.length:Int)/\(↑x3.2.2.length:Int)<=(↑x3.2.2.length:Int)) (.ob (x3.2.2.length=x3.2.2.length) (.lt (List.take x3.2.1.toNat x3.2.2++ List.replicate (x3.2.2.length - x3.2.1.toNat) (aJ.mk 0 [] 0 0 (ul.mk 0 []) [] false (af.mk 0 0 [] [] [] [] []) [])) fun(v7:List aJ)=> .ob ((0:Int)<=0/\0<=x3.2.1/\x3.2.1<=(↑v7.length:Int)) (.ret (.inr (List.take x3.2.1.toNat v7)))))))) (v5,v4,l))
theorem ajx (l:List aJ)(name:Str):unD l name=aeL (fun(x:aJ)=>adX x name) aK l:=by
 unfold unD aeL;(try simp only[af.dK])
 rfl
theorem aEP (l:List aJ)(name:Str)(h:l.length<=1048576):Is (unD l name):=
 by
 rw[ajx];exact(Nr (fun(x:aJ)=>adX x name) aK l au).1
def aHe:aS Z:=Qq [UO,aaj,aii,aAX,ao6] [jS 5 (bU (fun sl=>[s0 6, s0 5, .row (pid (sl 0)) 86]) (az cI (az cI (l1 gp))))] (aj (ni 0) (a1 (kE 420 [1]))) (iC (iq 86 D.aJ uK) (b1 (aP cStr))) (R1 gp) [1] func418 1 (fun a=>unD a.2.1 a.2.2) (fun a=>some (a.2.1.length<=1048576)) (fun a=>a.2.1.filter fun(x:aJ)=> !(adX x a.2.2)) fun a h=>⟨aEP a.2.1 a.2.2 h,(fun(l:List aJ) name (h:l.length<=1048576)=>(Qc5 Pg.val (ajx l name)).trans (Nr (fun(x:aJ)=>adX x name) aK l au).2) a.2.1 a.2.2 h⟩
def aqh (m:bg)(name:Str):Pg (List aJ):=.br (name==[]) (.ret []) (.ob (m.Fields.length<=1048576) (.ob (m.Fields.length<=1048576) (.ret (List.filter (fun(x:aJ)=> !adX x name) m.Fields))))
def axE (m:bg)(name:Str):=(aqh m name).val
def ao8:aS Z:=E1 [aHe,aHw,ao6] [] (aj (aF gQ) (a1 (bu cStr))) (R1 gp) [] func371 1 (u2 aqh) fun a=>a.1.Fields.length<=1048576
def phC (x:Slot)(num:Int):Pg Bool:=.ret (x.Num==num)
def aGU (x:Slot)(num:Int):=(phC x num).val
def aAW:aS Z:=wZ [] [] (aj (aF mV) (a1 (iQ 0))) (b1 (aP cI)) (R1 aH) [0] func438 1 (u11 phC)
def ap9:aS Z:=Ir [aAW] bD 438 [0] (b1 (aP cI)) func325 bK fun x b=>aGU x b
def ash (l:List Slot)(num:Int):Pg Int:=.ret (h_ (fun(x:Slot)=>aGU x num) l)
def axD (l:List Slot)(num:Int):=(ash l num).val
def aqt:aS Z:=E0 [ap9,aAW] [] (aj (bu bD) (a1 (bu cI))) (R1 cI) [] func421 1 (u2 ash)
def aHj (v:af)(num:Int):Pg Bool:=.lt (axD v.Slots num) fun(v1:Int)=> .ret (decide (0<=v1))
def aGX (v:af)(num:Int):=(aHj v num).val
def aEb:aS Z:=E0 [aqt] [] (aj (aF aI) (a1 (bu cI))) (R1 aH) [] func373 1 (u2 aHj)
def moC (g:aJ)(f:aJ)(b:af):Pg Bool:=.br (g.Num !=f.Num) (.ret (aGX b.re g.Num)) (.ret false)
def aCW (g:aJ)(f:aJ)(b:af):=(moC g f b).val
def auy:aS Z:=wZ [aEb] [] (aj (aF d_) (aj (iQ 0) (a1 (iQ 1)))) (iC (aP d_) (b1 (aP aI))) (R1 aH) [0,1] func372 1 fun a=>moC a.1.1 a.2.1 a.2.2
def aHN:aS Z:=Ir [auy] gp 372 [0,1] (iC (aP d_) (b1 (aP aI))) func335 aK fun x b=>aCW x b.1 b.2
def aHp:aS Z:=EAB [UO,aaj,aii,aAX,aHN,auy] gp 372 [0,1] (iC (aP d_) (b1 (aP aI))) func233 fun x b=>aCW x b.1 b.2
def ala (m:bg)(f:aJ)(b:af):Pg Bool:=.ob (m.Fields.length<=1048576) (.ret ((axE m f.Union).any fun(x:aJ)=>aCW x (aJ.mk f.Num f.Name f.Card f.Key f.dZ f.Union f.dw f.Default.re f.Notes) b.re))
def aoP (m:bg)(f:aJ)(b:af):=(ala m f b).val
def am6:aS Z:=E1 [agz,arS,aoW,aHp,ao8,auy] [] (aj (aF gQ) (aj (aF d_) (a1 (aF aI)))) (R1 aH) [] func277 1 (u3 ala) fun a=>a.1.Fields.length<=1048576
def mgC (x:Slot)(m:bg)(b:af):Pg Bool:=.ob (m.Fields.length<=1048576) (.lt (Q7 m x.Num) fun(v1:aJ×Bool)=> .ret (aoP m (aJ.mk v1.1.Num v1.1.Name v1.1.Card v1.1.Key v1.1.dZ v1.1.Union v1.1.dw v1.1.Default.re v1.1.Notes) b.re))
def NL (x:Slot)(m:bg)(b:af):=(mgC x m b).val
def apP:aS Z:=Ee [Lc,am6] [] (aj (aF mV) (aj (iQ 0) (a1 (iQ 1)))) (iC (aP gQ) (b1 (aP aI))) (R1 aH) [0,1] func276 1 (fun a=>mgC a.1.1 a.2.1 a.2.2) fun a=>a.2.1.Fields.length<=1048576
def mgI (l:List Slot)(m:bg)(b:af):Pg Int:=aL l (.each false wB l bK (fun i1 a3 (y2:Unit)=> .ix i1 l.length (.ob (i1.toNat < l.length) (.ob (m.Fields.length<=1048576) (.br (NL (Slot.mk a3.Num a3.Val.re) m b.re) (.ret (.inr i1)) (rl ()))))) (fun i1 (y2:Unit)=> .ret (-1)) ())
theorem aEF (l:List Slot)(m:bg)(b:af):(mgI l m b).val=h_ (fun x=>NL x m b) l:=by
 unfold mgI;simp only[lh,EG,jZ,dP,bV,aV,af.dK];exact pF (fun x=>NL x m b) l 0
theorem aE_ (l:List Slot)(m:bg)(b:af)(h:m.Fields.length<=1048576):Is (mgI l m b):=
 iL fun _=>iF (.inr au) (fun i1 y2 _ _=>dR au au (aX au (aX h (dM iR iR)))) (fun y2 _=>aU)
def aA2:aS Z:=Qq [apP] [jS 2 (bU (fun sl=>[s0 8]) (l1 cI))] (aj (ni 0) (a1 (kE 276 [1,2]))) (iC (iq 261 D.Slot jD) (iC (aP gQ) (b1 (aP aI)))) (R1 cI) [0,1,2] func325 1 (fun a=>mgI a.2.1 a.2.2.1 a.2.2.2) (fun a=>some (a.2.2.1.Fields.length<=1048576)) (fun a=>h_ (fun(x:Slot)=>NL x a.2.2.1 a.2.2.2) a.2.1) fun a h=>⟨aE_ a.2.1 a.2.2.1 a.2.2.2 h,(fun l m b _=>aEF l m b) a.2.1 a.2.2.1 a.2.2.2 h⟩
def mgD (l:List Slot)(m:bg)(b:af):Pg (List Slot):=.ob (m.Fields.length<=1048576) (.lt (h_ (fun(x:Slot)=>NL x m b.re) l) fun(v4:Int)=> .br (v4==(-1)) (.ret l) (.lt (dB .i64 (v4+1)) fun(v5:Int)=> .wh (l.length+1) default (fun(x3:Int×Int×List Slot)=> aL x3.2.2 (.br (decide (x3.1 < (↑x3.2.2.length:Int))) (.ix x3.1 x3.2.2.length (.ob (x3.1.toNat < x3.2.2.length) (.ob (m.Fields.length<=1048576) (.lt (dB .i64 (x3.1+1)) fun(v6:Int)=> .br (!NL (Slot.mk (x3.2.2.getD x3.1.toNat bK).Num (x3.2.2.getD x3.1.toNat bK).Val.re) m b.re) (.ix x3.2.1 x3.2.2.length (.ob (x3.2.1.toNat < x3.2.2.length) (rl (v6,dB .i64 (x3.2.1+1), x3.2.2.set x3.2.1.toNat (Slot.mk (x3.2.2.getD x3.1.toNat bK).Num (x3.2.2.getD x3.1.toNat bK).Val.re))))) (rl (v6,x3.2)))))) (.ob (0<=x3.2.1/\x3.2.1<=(↑x3.2.2.length:Int)/\(↑x3.2.2.length:Int)<=(↑x3.2.2.length:Int)) (.ob (x3.2.2.length=x3.2.2.length) (.lt (List.take x3.2.1.toNat x3.2.2++ List.replicate (x3.2.2.length - x3.2.1.toNat) (Slot.mk 0 (af.mk 0 0 [] [] [] [] []))) fun(v7:List Slot)=> .ob ((0:Int)<=0/\0<=x3.2.1/\x3.2.1<=(↑v7.length:Int)) (.ret (.inr (List.take x3.2.1.toNat v7)))))))) (v5,v4,l)))
def TT {A:Type}(c:Prop)(p:A->Bool)(d:A)(l:List A):Pg (List A):=.ob c <| .lt (h_ p l) fun v1=> .br (v1==(-1)) (.ret l) (.lt (dB .i64 (v1+1)) fun v4=> .wh (l.length+1) default (fun(x3:Int×Int×List A)=> aL x3.2.2 (.br (decide (x3.1 < (↑x3.2.2.length:Int))) (.ix x3.1 x3.2.2.length (.ob (x3.1.toNat < x3.2.2.length) <| .ob c (.lt (dB .i64 (x3.1+1)) fun(v5:Int)=> .br (!p (x3.2.2.getD x3.1.toNat d)) (.ix x3.2.1 x3.2.2.length (.ob (x3.2.1.toNat < x3.2.2.length) (rl (v5,dB .i64 (x3.2.1+1),x3.2.2.set x3.2.1.toNat (x3.2.2.getD x3.1.toNat d))))) (rl (v5,x3.2))))) (.ob (0<=x3.2.1/\x3.2.1<=(↑x3.2.2.length:Int)/\(↑x3.2.2.length:Int)<=(↑x3.2.2.length:Int)) (.ob (x3.2.2.length=x3.2.2.length) (.lt (List.take x3.2.1.toNat x3.2.2++List.replicate (x3.2.2.length - x3.2.1.toNat) d) fun(v6:List A)=> .ob ((0:Int)<=0/\0<=x3.2.1/\x3.2.1<=(↑v6.length:Int)) (.ret (.inr (List.take x3.2.1.toNat v6)))))))) (v4,v1,l))
structure ZP {A:Type}(p:A->Bool)(l:List A)(x:Int×Int×List A)(j i:Nat):Prop where
 hj:x.1=↑j
 hi:x.2.1=↑i
 lt:i < j
 le:j<=l.length
 len:x.2.2.length=l.length
 tk:x.2.2.take i=(l.take j).filter fun a=> !p a
 dr:x.2.2.drop j=l.drop j
theorem ajn {A:Type}{c:Prop}(hc:c)(p:A->Bool)(d:A)(l:List A)(hl:l.length<=9223372036854775806):Is (TT c p d l)/\(TT c p d l).val=l.filter fun a=> !p a:=by
 unfold TT;rcases su p l with⟨h1,h2⟩ | ⟨u,a,v,hu,ha,hb,hx⟩
 ·rw[h1];refine⟨aX hc <| dF fun v1 hv1=>by subst hv1;exact dM iR (fun h=>by cases h),?_⟩;simp only[dP,dJ,bV,aV];refine(Qcw.2 fun a ha=> ?_).symm;rw[h2 a ha];rfl
 ·rw[hx];have hlen:l.length=u.length+(v.length+1):=by rw[hu];simp
  have hne:(((u.length:Int))== -1)=false:=by
   rw[Qcc];omega
  have hw:dB .i64 ((u.length:Int)+1)=((u.length+1:Nat):Int):=by
   rw[gz (k:= .i64) BZ];omega
  have h0:ZP p l (dB .i64 ((u.length:Int)+1),(u.length:Int),l) (u.length+1) u.length:=by
   refine⟨hw,rfl,by omega,by omega,rfl,?_,rfl⟩;show l.take u.length=_
   rw[hu];have:(u++a::v).take (u.length+1)=u++[a]:=by
    rw[show u++a::v=(u++[a])++v by simp,show u.length+1=(u++[a]).length by simp,Qd]
   rw[this,Qbf,Qd];have e1:u.filter (fun a=> !p a)=u:=Qcw.2 fun x hx=>by rw[hb x hx];rfl
   rw[e1];simp[ha]
  have at_:∀(x:Int×Int×List A) (j i:Nat),ZP p l x j i->j < l.length->x.2.2.getD j d=l.getD j d/\l.take (j+1)=l.take j++[l.getD j d]/\x.2.2.drop (j+1)=l.drop (j+1):=by
   intro x j i hx hj;have hj2:j < x.2.2.length:=by rw[hx.len];exact hj
   have e1:=Qbw hj;have e2:=Qbw hj2;have:=hx.dr;rw[e1,e2]at this;injection this with q1 q2
   refine⟨by rw[getD_some hj,getD_some hj2,q1],?_,q2⟩;rw[getD_some hj,Qby hj]
  have step:∀(x:Int×Int×List A) (j i:Nat),ZP p l x j i->j < l.length->∀q,p (l.getD j d)=q->
    ZP p l (dB .i64 (x.1+1),(cond (!q) (dB .i64 (x.2.1+1),x.2.2.set x.2.1.toNat (x.2.2.getD x.1.toNat d)) x.2)) (j+1) (cond (!q) (i+1) i):=by
   intro x j i hx hj q hq;obtain⟨k1,k2,k3⟩:=at_ x j i hx hj
   have w1:dB .i64 (x.1+1)=((j+1:Nat):Int):=by rw[hx.hj,gz (k:= .i64) BZ];omega
   have hlt:=hx.lt;cases q with
   | true=>
    refine⟨w1,hx.hi,?_,by omega,hx.len,?_,k3⟩
    ·simp;omega
    ·show x.2.2.take i=_
     rw[hx.tk,k2,Qbf,Qca,hq];simp
   | false=>
    refine⟨w1,?_,?_,by omega,?_,?_,?_⟩
    ·show dB .i64 (x.2.1+1)=_
     rw[hx.hi,gz (k:= .i64) BZ];simp
    ·simp;omega
    ·simp[hx.len]
    ·show(x.2.2.set x.2.1.toNat (x.2.2.getD x.1.toNat d)).take (i+1)=_
     rw[hx.hi,hx.hj,ww,ww,k1];have hi2:i < (x.2.2.set i (l.getD j d)).length:=by rw[Qbm,hx.len];omega
     rw[Qby hi2,List.getElem_set_self,List.take_set_of_le (l9 i),hx.tk,k2,Qbf,Qca,hq];simp
    ·show(x.2.2.set x.2.1.toNat (x.2.2.getD x.1.toNat d)).drop (j+1)=_
     rw[hx.hi,ww,Qdu au];exact k3
  refine⟨aX hc <| dF fun v1 hv1=>dM iR fun _=>dF fun v4 hv4=> ?_,?_⟩
  ·subst hv1 hv4;refine JI (fun x=>∃j i,ZP p l x j i) (fun x=>l.length - x.1.toNat) ⟨_,_,h0⟩ au ?_;rintro x ⟨j,i,hx⟩;have q1:=hx.hj;have q2:=hx.hi;have q3:=hx.lt;have q4:=hx.le;have q5:=hx.len;refine⟨iL fun _=>gu (fun h=>dR au au (aX au <| aX hc (dF fun v5 hv5=>dM (fun _=>dR au au (aX au aU)) iR))) (fun h=>aX au (aX rfl (dF fun v6 hv6=>aX qb5 aU))),fun x' hx'=> ?_⟩;revert hx';simp only[lh,bV,jZ,dP,dJ,aV];by_cases h:x.1 < (↑x.2.2.length:Int)
   ·simp only[h,decide_true,Bo];intro e;have hj:j < l.length:=by omega
    obtain⟨k1,_,_⟩:=at_ x j i hx hj
    have hs:=step x j i hx hj _ rfl;have ek:x.2.2.getD x.1.toNat d=l.getD j d:=by rw[q1,ww];exact k1
    rw[ek]at e hs;have w1:dB .i64 (x.1+1)=((j+1:Nat):Int):=hs.hj;cases hq:p (l.getD j d)with
    | true=>
     rw[hq]at e hs;injection e with e
     subst e;exact⟨⟨_,_,hs⟩,by
       have:(dB .i64 (x.1+1)).toNat=j+1:=by rw[w1];rfl
       show l.length - (dB .i64 (x.1+1)).toNat < _
       omega⟩
    | false=>
     rw[hq]at e hs;injection e with e
     subst e;exact⟨⟨_,_,hs⟩,by
       have:(dB .i64 (x.1+1)).toNat=j+1:=by rw[w1];rfl
       show l.length - (dB .i64 (x.1+1)).toNat < _
       omega⟩
   ·simp only[h,decide_false,pO];intro e;cases e
  ·simp only[dJ,bV,hne,pO,Ns];refine JG (fun x=>∃j i,ZP p l x j i) (fun x=>l.length - x.1.toNat) (fun r=>r=l.filter fun a=> !p a) ?_ _ _ ⟨_,_,h0⟩ au;rintro x ⟨j,i,hx⟩;have q1:=hx.hj;have q2:=hx.hi;have q3:=hx.lt;have q4:=hx.le;have q5:=hx.len;simp only[lh,bV,jZ,dP,dJ,aV];by_cases h:x.1 < (↑x.2.2.length:Int)
   ·left
    simp only[h,decide_true,Bo];have hj:j < l.length:=by omega
    obtain⟨k1,_,_⟩:=at_ x j i hx hj
    have hs:=step x j i hx hj _ rfl;have ek:x.2.2.getD x.1.toNat d=l.getD j d:=by rw[q1,ww];exact k1
    rw[ek]at hs⊢;have w1:dB .i64 (x.1+1)=((j+1:Nat):Int):=hs.hj;have hm:l.length - (dB .i64 (x.1+1)).toNat < l.length - x.1.toNat:=by
     have:(dB .i64 (x.1+1)).toNat=j+1:=by rw[w1];rfl
     omega
    cases hq:p (l.getD j d)with
    | true=>rw[hq]at hs;exact⟨_,rfl,⟨_,_,hs⟩,hm⟩
    | false=>rw[hq]at hs;exact⟨_,rfl,⟨_,_,hs⟩,hm⟩
   ·right
    simp only[h,decide_false,pO];refine⟨_,rfl,?_⟩;have hj:j=l.length:=by omega
    rw[q2,ww];have e:=hx.tk;rw[hj,Eo]at e;rw[<-e,Qbv qa9,Qda,Nat.min_self]
theorem atS (x:Slot):Slot.mk x.Num x.Val=x:=by cases x;rfl
theorem alg (l:List Slot)(m:bg)(b:af):mgD l m b=TT (m.Fields.length<=1048576) (fun x=>NL x m b) bK l:=by
 unfold mgD TT;simp only[af.dK,atS];rfl
theorem aEa (l:List Slot)(m:bg)(b:af)(h:m.Fields.length<=1048576/\l.length<=1048576):(mgD l m b).val=l.filter fun(x:Slot)=> !(NL x m b):=by
 rw[alg];exact(ajn h.1 (fun x=>NL x m b) bK l au).2
theorem aDG (l:List Slot)(m:bg)(b:af)(h:m.Fields.length<=1048576/\l.length<=1048576):Is (mgD l m b):=
 by
 rw[alg];exact(ajn h.1 (fun x=>NL x m b) bK l au).1
def aHO:aS Z:=Qq [apP,ap9,aA2] [jS 5 (bU (fun sl=>[s0 6, s0 5, .row (pid (sl 0)) 261]) (az cI (az cI (l1 bD))))] (aj (ni 0) (a1 (kE 276 [1,2]))) (iC (iq 261 D.Slot jD) (iC (aP gQ) (b1 (aP aI)))) (shr [.slot 0 false [some 261]] (l1 bD)) [1,2] func275 1 (fun a=>mgD a.2.1 a.2.2.1 a.2.2.2) (fun a=>some (a.2.2.1.Fields.length<=1048576/\a.2.1.length<=1048576)) (fun a=>a.2.1.filter fun(x:Slot)=> !(NL x a.2.2.1 a.2.2.2)) fun a h=>⟨aDG a.2.1 a.2.2.1 a.2.2.2 h,aEa a.2.1 a.2.2.1 a.2.2.2 h⟩
def saC (x:Slot)(num:Int):Pg Bool:=.ret (x.Num==num)
def aF4 (x:Slot)(num:Int):=(saC x num).val
def aA0:aS Z:=wZ [] [] (aj (aF mV) (a1 (iQ 0))) (b1 (aP cI)) (R1 aH) [0] func374 1 (u11 saC)
def aGz:aS Z:=Ir [aA0] bD 374 [0] (b1 (aP cI)) func325 bK fun x b=>aF4 x b
def aah (l:List Slot)(num:Int):Pg Int:=.ret (h_ (fun(x:Slot)=>aF4 x num) l)
def Vt (l:List Slot)(num:Int):=(aah l num).val
def anB:aS Z:=E0 [ap9,aA2,aGz,aA0] [] (aj (bu bD) (a1 (bu cI))) (R1 cI) [] func278 1 (u2 aah)
def rrC (a:Raw)(b:Raw):Pg Int:=.ret (H5 a.Num b.Num)
def afY (a:Raw)(b:Raw):=(rrC a b).val
def Ui:aS Z:=E1 [NH] [] (aj (aF oq) (a1 (aF oq))) (R1 cI) [] func378 1 (u2 rrC) fun a=>True
theorem NF:FO (ltOf afY):=QB (fun a=>a.Num) fun a b=>CJ a.Num b.Num
def aIr (a:Int)(b:Int)(n:Int)(l:List Raw):Pg (List Raw):=ah_ pz a b n l
theorem azE (a:Int)(b:Int)(n:Int)(l:List Raw)(h:swQ a b n l.length):Is (aIr a b n l):=
 avj h
def aCn:aS Z:=Ee [Ui] [jS 1 (bU (fun sl=>[s0 10, .row (pid (sl 0)) 268]) (az cI (l1 bF)))] (aj (ni 0) (aj (bu cI) (aj (bu cI) (aj (bu cI) (a1 (kE 378 [])))))) (b1 (iq 268 D.Raw kZ)) (shr [.row 0 268] (l1 bF)) [] func437 0 (fun a=>aIr a.1.2.1 a.1.2.2.1 a.1.2.2.2.1 a.2) (fun a=>swQ a.1.2.1 a.1.2.2.1 a.1.2.2.2.1 a.2.length) fun a h=>azE a.1.2.1 a.1.2.2.1 a.1.2.2.2.1 a.2 h
def aHZ (a:Int)(m:Int)(b:Int)(l:List Raw):Pg (List Raw):=axo pz a m b l
theorem axu (a:Int)(m:Int)(b:Int)(l:List Raw)(h:roQ a m b l.length):Is (aHZ a m b l):=
 aqA h
def aCS:aS Z:=Ee [Ui,auN,aCn] [jS 2 (bU (fun sl=>[s0 10, s0 11, .row (pid (sl 0)) 268]) (az cI (az cI (l1 bF))))] (aj (ni 0) (aj (bu cI) (aj (bu cI) (aj (bu cI) (a1 (kE 378 [])))))) (b1 (iq 268 D.Raw kZ)) (shr [.row 0 268] (l1 bF)) [] func417 0 (fun a=>aHZ a.1.2.1 a.1.2.2.1 a.1.2.2.2.1 a.2) (fun a=>roQ a.1.2.1 a.1.2.2.1 a.1.2.2.2.1 a.2.length) fun a h=>axu a.1.2.1 a.1.2.2.1 a.1.2.2.2.1 a.2 h
def aD7 (a:Int)(b:Int)(l:List Raw):Pg (List Raw):=awe afY (fun _ _=>True) pz a b l
def aGa (a:Int)(b:Int)(l:List Raw):=(aD7 a b l).val
theorem aws (a:Int)(b:Int)(l:List Raw)(h:JC (fun _ _=>True) a b l):Is (aD7 a b l):=
 auj NF h
def aE4:aS Z:=w_ Z [Ui] [jS 1 (bU (fun sl=>[s0 8, .row (pid (sl 0)) 268]) (az cI (l1 bF))),jS 4 (bU (fun sl=>[s0 9, .row (pid (sl 0)) 268]) (az cI (l1 bF)))] (jW (aj (ni 0) (aj (bu cI) (aj (bu cI) (a1 (kE 378 []))))) (b1 (iq 268 D.Raw kZ))) (oG (n:=53) rfl) (shr [.row 0 268] (l1 bF)) [] func369 ntmps369 dU 0 rfl (fun a=>aD7 (a.1.2.1) (a.1.2.2.1) (a.2)) (fun a=>some (JC (fun _ _=>True) (a.1.2.1) (a.1.2.2.1) (a.2))) (fun a e _=>by kernel_rfl) (fun a=>aGa (a.1.2.1) (a.1.2.2.1) (a.2)) (fun a h=>⟨aws (a.1.2.1) (a.1.2.2.1) (a.2) h,rfl⟩)
def aJv (aI5:Int->Int->Int->List Raw->List Raw)(SQ:Int->Int->Int->List Raw->Prop)(a:Int)(m:Int)(b:Int)(l:List Raw):Pg (List Raw):=asq afY (fun _ _=>True) pz aI5 SQ a m b l
def SQ (fu:Nat)(a:Int)(m:Int)(b:Int)(l:List Raw):Prop:=Ql afY (fun _ _=>True) fu a m b l
def atZ:Nat->(Int->Int->Int->(List Raw)->(List Raw))
 | 0=>(fun _ _ _ _=>default)
 | fu+1=>(fun a m b l=>(aJv ((atZ fu)) (SQ fu) a m b l).val)
abbrev aqI (fu:Nat):=aJv ((atZ fu)) (SQ fu)
def akm (a:Int)(m:Int)(b:Int)(l:List Raw):List Raw:=(atZ ((b - a).toNat+1)) a m b l
theorem Kr:∀(fu:Nat) (a m b:Int) (l:List Raw),SQ fu a m b l->mrg afY a b l (atZ fu a m b l)
 | 0,_,_,_,_,h=>Ht h
 | fu+1,_,_,_,_,h=>(TJ (DI:=atZ fu) (Hr:=SQ fu) (d:=pz) NF (fun _ _ _ _ h=>h) (Kr fu) h).2
theorem awI (fu:Nat)(a:Int)(m:Int)(b:Int)(l:List Raw)(h:SQ (fu+1) a m b l):Is (aqI fu a m b l):=
 (TJ NF (fun _ _ _ _ h=>h) (Kr fu) h).1
theorem aqk:∀fu,fV Z.P Z.S 370 (oP (jW (aj (ni 0) (aj (bu cI) (aj (bu cI) (aj (bu cI) (a1 (kE 378 [])))))) (b1 (iq 268 D.Raw kZ))) (shr [.row 0 268] (l1 bF)) 0 [] (fun a=>some (SQ fu (a.1.2.1) (a.1.2.2.1) (a.1.2.2.2.1) (a.2))) (fun a=>(atZ fu) (a.1.2.1) (a.1.2.2.1) (a.1.2.2.2.1) (a.2)))
 | 0=>iH func370 dU (fun a h=>Ht h)
 | fu+1=>by
  have h0:=aqk fu;exact G9 [Ui,avo,aCS,⟨370,_,h0⟩] [jS 3 (bU (fun sl=>[s0 10, s0 11]) (az cI (l1 cI))),jS 9 (bU (fun sl=>[s0 13, .row (pid (sl 0)) 268]) (az cI (l1 bF))),jS 15 (bU (fun sl=>[s0 14, s0 15]) (az cI (l1 cI))),jS 21 (bU (fun sl=>[s0 17, .row (pid (sl 0)) 268]) (az cI (l1 bF))),jS 33 (bU (fun sl=>[s0 20, s0 21]) (az cI (l1 cI))),jS 100008 (bU (fun sl=>[s0 10]) (l1 cI)),jS 100012 (bU (fun sl=>[.row (pid (sl 0)) 268]) (l1 bF)),jS 100020 (bU (fun sl=>[s0 14]) (l1 cI)),jS 100024 (bU (fun sl=>[.row (pid (sl 0)) 268]) (l1 bF)),jS 100032 (bU (fun sl=>[s0 20, s0 21]) (az cI (l1 cI))),jS 100038 (bU (fun sl=>[s0 20]) (l1 cI)),jS 100041 (bU (fun sl=>[.row (pid (sl 0)) 268]) (l1 bF)),jS 100043 (bU (fun sl=>[.row (pid (sl 0)) 268]) (l1 bF))] func370 ntmps370 (fun a=>aqI fu a.1.2.1 a.1.2.2.1 a.1.2.2.2.1 a.2) (fun a h=>⟨awI fu a.1.2.1 a.1.2.2.1 a.1.2.2.2.1 a.2 h,rfl⟩) (oG (n:=220) rfl)
def aCi:aS Z:=⟨370,oP (jW (aj (ni 0) (aj (bu cI) (aj (bu cI) (aj (bu cI) (a1 (kE 378 [])))))) (b1 (iq 268 D.Raw kZ))) (shr [.row 0 268] (l1 bF)) 0 [] (fun a=>some (Ql afY (fun _ _=>True) (((a.1.2.2.2.1) - (a.1.2.1)).toNat+1) (a.1.2.1) (a.1.2.2.1) (a.1.2.2.2.1) (a.2))) (fun a=>akm (a.1.2.1) (a.1.2.2.1) (a.1.2.2.2.1) (a.2)),jM (fun n=>((aqk n))) _ _ (fun a h=>⟨((a.1.2.2.2.1) - (a.1.2.1)).toNat+1,h,rfl⟩)⟩
def aB5 (n:Int)(l:List Raw):Pg (List Raw):=aCJ afY (fun _ _=>True) pz akm n l
def aGR (n:Int)(l:List Raw):=(aB5 n l).val
theorem awP (n:Int)(l:List Raw)(h:stQ (fun _ _=>True) n l):Is (aB5 n l):=
 (Tm (DI:=akm) NF (fun a m b l h=>Kr _ a m b l h) h).1
def aEg:aS Z:=Ee [atm,aE4,ao7,aCi,Ui] [jS 2 (bU (fun sl=>[s0 7, s0 8, .row (pid (sl 0)) 268]) (az cI (az cI (l1 bF)))),jS 7 (bU (fun sl=>[s0 6, .row (pid (sl 0)) 268]) (az cI (l1 bF))),jS 9 (bU (fun sl=>[s0 7, s0 8, .row (pid (sl 0)) 268]) (az cI (az cI (l1 bF)))),jS 100006 (bU (fun sl=>[s0 7, .row (pid (sl 0)) 268]) (az cI (l1 bF))),jS 100013 (bU (fun sl=>[s0 7, .row (pid (sl 0)) 268]) (az cI (l1 bF)))] (aj (ni 0) (aj (bu cI) (a1 (kE 378 [])))) (b1 (iq 268 D.Raw kZ)) (shr [.row 0 268] (l1 bF)) [] func273 0 (fun a=>aB5 a.1.2.1 a.2) (fun a=>stQ (fun _ _=>True) a.1.2.1 a.2) fun a h=>awP a.1.2.1 a.2 h
def aE5 (l:List Raw):Pg (List Raw):=.ob (stQ (fun(x x_1:Raw)=>True) (↑l.length:Int) l) (.lt (aGR (↑l.length:Int) l) fun(v1:List Raw)=> aL v1 (.ret v1))
def aAA (l:List Raw):=(aE5 l).val
theorem axB (l:List Raw)(h:sZ (fun _ _=>True) l):Is (aE5 l):=
 aX ((⟨h,rfl⟩)) (dF fun v1 hv1=>iL fun _=>aU)
def aCe:aS Z:=Ee [aux,aEg,Ui] [] (aj (ni 0) (a1 (kE 378 []))) (b1 (iq 268 D.Raw kZ)) (shr [.row 0 268] (l1 bF)) [] func197 0 (fun a=>aE5 a.2) (fun a=>sZ (fun _ _=>True) a.2) fun a h=>axB a.2 h
theorem adu (l:List Raw)(h:sZ (fun _ _=>True) l):Sorted afY l (aAA l):=
 (Tm (q:=(fun _ _=>True)) (d:=pz) (DI:=akm) NF (fun a m b l h=>Kr _ a m b l h) ⟨h,rfl⟩).2
def ssC (x:Slot)(y:Slot):Pg Int:=.ret (H5 x.Num y.Num)
def aez (x:Slot)(y:Slot):=(ssC x y).val
def U9:aS Z:=E1 [NH] [] (aj (aF mV) (a1 (aF mV))) (R1 cI) [] func280 1 (u2 ssC) fun a=>True
theorem N_:FO (ltOf aez):=QB (fun a=>a.Num) fun a b=>CJ a.Num b.Num
def aF6 (a:Int)(b:Int)(n:Int)(l:List Slot):Pg (List Slot):=Zq wK bK a b n l
theorem ayX (a:Int)(b:Int)(n:Int)(l:List Slot)(h:swQ a b n l.length):Is (aF6 a b n l):=
 aiD kN h
def aEs:aS Z:=Ee [U9] [jS 1 (bU (fun sl=>[s0 10, .row (pid (sl 0)) 261]) (az cI (l1 bD)))] (aj (ni 0) (aj (bu cI) (aj (bu cI) (aj (bu cI) (a1 (kE 280 [])))))) (b1 (iq 261 D.Slot jD)) (shr [.row 0 261] (l1 bD)) [] func440 0 (fun a=>aF6 a.1.2.1 a.1.2.2.1 a.1.2.2.2.1 a.2) (fun a=>swQ a.1.2.1 a.1.2.2.1 a.1.2.2.2.1 a.2.length) fun a h=>ayX a.1.2.1 a.1.2.2.1 a.1.2.2.2.1 a.2 h
def aHF (a:Int)(m:Int)(b:Int)(l:List Slot):Pg (List Slot):=X4 wK bK a m b l
theorem ayf (a:Int)(m:Int)(b:Int)(l:List Slot)(h:roQ a m b l.length):Is (aHF a m b l):=
 agS kN h
def aDd:aS Z:=Ee [U9,au4,aEs] [jS 2 (bU (fun sl=>[s0 10, s0 11, .row (pid (sl 0)) 261]) (az cI (az cI (l1 bD))))] (aj (ni 0) (aj (bu cI) (aj (bu cI) (aj (bu cI) (a1 (kE 280 [])))))) (b1 (iq 261 D.Slot jD)) (shr [.row 0 261] (l1 bD)) [] func431 0 (fun a=>aHF a.1.2.1 a.1.2.2.1 a.1.2.2.2.1 a.2) (fun a=>roQ a.1.2.1 a.1.2.2.1 a.1.2.2.2.1 a.2.length) fun a h=>ayf a.1.2.1 a.1.2.2.1 a.1.2.2.2.1 a.2 h
def aDu (a:Int)(b:Int)(l:List Slot):Pg (List Slot):=Zz wK aez (fun _ _=>True) bK a b l
def aF2 (a:Int)(b:Int)(l:List Slot):=(aDu a b l).val
theorem ayw (a:Int)(b:Int)(l:List Slot)(h:JC (fun _ _=>True) a b l):Is (aDu a b l):=
 agM kN N_ h
def aEl:aS Z:=w_ Z [U9] [jS 1 (bU (fun sl=>[s0 8, .row (pid (sl 0)) 261]) (az cI (l1 bD))),jS 4 (bU (fun sl=>[s0 9, .row (pid (sl 0)) 261]) (az cI (l1 bD)))] (jW (aj (ni 0) (aj (bu cI) (aj (bu cI) (a1 (kE 280 []))))) (b1 (iq 261 D.Slot jD))) (oG (n:=53) rfl) (shr [.row 0 261] (l1 bD)) [] func404 ntmps404 dU 0 rfl (fun a=>aDu (a.1.2.1) (a.1.2.2.1) (a.2)) (fun a=>some (JC (fun _ _=>True) (a.1.2.1) (a.1.2.2.1) (a.2))) (fun a e _=>by kernel_rfl) (fun a=>aF2 (a.1.2.1) (a.1.2.2.1) (a.2)) (fun a h=>⟨ayw (a.1.2.1) (a.1.2.2.1) (a.2) h,rfl⟩)
def aJF (aI7:Int->Int->Int->List Slot->List Slot)(Vp:Int->Int->Int->List Slot->Prop)(a:Int)(m:Int)(b:Int)(l:List Slot):Pg (List Slot):=aeD wK aez (fun _ _=>True) bK aI7 Vp a m b l
def Vp (fu:Nat)(a:Int)(m:Int)(b:Int)(l:List Slot):Prop:=Ql aez (fun _ _=>True) fu a m b l
def atb:Nat->(Int->Int->Int->(List Slot)->(List Slot))
 | 0=>(fun _ _ _ _=>default)
 | fu+1=>(fun a m b l=>(aJF ((atb fu)) (Vp fu) a m b l).val)
abbrev aqS (fu:Nat):=aJF ((atb fu)) (Vp fu)
def ajL (a:Int)(m:Int)(b:Int)(l:List Slot):List Slot:=(atb ((b - a).toNat+1)) a m b l
theorem Mc:∀(fu:Nat) (a m b:Int) (l:List Slot),Vp fu a m b l->mrg aez a b l (atb fu a m b l)
 | 0,_,_,_,_,h=>Ht h
 | fu+1,_,_,_,_,h=>(GV kN (DI:=atb fu) (Hr:=Vp fu) (d:=bK) N_ (fun _ _ _ _ h=>h) (Mc fu) h).2
theorem ay_ (fu:Nat)(a:Int)(m:Int)(b:Int)(l:List Slot)(h:Vp (fu+1) a m b l):Is (aqS fu a m b l):=
 (GV kN N_ (fun _ _ _ _ h=>h) (Mc fu) h).1
theorem avl:∀fu,fV Z.P Z.S 405 (oP (jW (aj (ni 0) (aj (bu cI) (aj (bu cI) (aj (bu cI) (a1 (kE 280 [])))))) (b1 (iq 261 D.Slot jD))) (shr [.row 0 261] (l1 bD)) 0 [] (fun a=>some (Vp fu (a.1.2.1) (a.1.2.2.1) (a.1.2.2.2.1) (a.2))) (fun a=>(atb fu) (a.1.2.1) (a.1.2.2.1) (a.1.2.2.2.1) (a.2)))
 | 0=>iH func405 dU (fun a h=>Ht h)
 | fu+1=>by
  have h0:=avl fu;exact G9 [U9,ary,aDd,⟨405,_,h0⟩] [jS 3 (bU (fun sl=>[s0 10, s0 11]) (az cI (l1 cI))),jS 9 (bU (fun sl=>[s0 13, .row (pid (sl 0)) 261]) (az cI (l1 bD))),jS 15 (bU (fun sl=>[s0 14, s0 15]) (az cI (l1 cI))),jS 21 (bU (fun sl=>[s0 17, .row (pid (sl 0)) 261]) (az cI (l1 bD))),jS 33 (bU (fun sl=>[s0 20, s0 21]) (az cI (l1 cI))),jS 100008 (bU (fun sl=>[s0 10]) (l1 cI)),jS 100012 (bU (fun sl=>[.row (pid (sl 0)) 261]) (l1 bD)),jS 100020 (bU (fun sl=>[s0 14]) (l1 cI)),jS 100024 (bU (fun sl=>[.row (pid (sl 0)) 261]) (l1 bD)),jS 100032 (bU (fun sl=>[s0 20, s0 21]) (az cI (l1 cI))),jS 100038 (bU (fun sl=>[s0 20]) (l1 cI)),jS 100041 (bU (fun sl=>[.row (pid (sl 0)) 261]) (l1 bD)),jS 100043 (bU (fun sl=>[.row (pid (sl 0)) 261]) (l1 bD))] func405 ntmps405 (fun a=>aqS fu a.1.2.1 a.1.2.2.1 a.1.2.2.2.1 a.2) (fun a h=>⟨ay_ fu a.1.2.1 a.1.2.2.1 a.1.2.2.2.1 a.2 h,rfl⟩) (oG (n:=220) rfl)
def aC2:aS Z:=⟨405,oP (jW (aj (ni 0) (aj (bu cI) (aj (bu cI) (aj (bu cI) (a1 (kE 280 [])))))) (b1 (iq 261 D.Slot jD))) (shr [.row 0 261] (l1 bD)) 0 [] (fun a=>some (Ql aez (fun _ _=>True) (((a.1.2.2.2.1) - (a.1.2.1)).toNat+1) (a.1.2.1) (a.1.2.2.1) (a.1.2.2.2.1) (a.2))) (fun a=>ajL (a.1.2.1) (a.1.2.2.1) (a.1.2.2.2.1) (a.2)),jM (fun n=>((avl n))) _ _ (fun a h=>⟨((a.1.2.2.2.1) - (a.1.2.1)).toNat+1,h,rfl⟩)⟩
def aEM (n:Int)(l:List Slot):Pg (List Slot):=afu wK aez (fun _ _=>True) bK ajL n l
def aGN (n:Int)(l:List Slot):=(aEM n l).val
theorem aya (n:Int)(l:List Slot)(h:stQ (fun _ _=>True) n l):Is (aEM n l):=
 (G_ kN (DI:=ajL) N_ (fun a m b l h=>Mc _ a m b l h) h).1
def aBZ:aS Z:=Ee [U9,asG,aEl,ast,aC2] [jS 2 (bU (fun sl=>[s0 7, s0 8, .row (pid (sl 0)) 261]) (az cI (az cI (l1 bD)))),jS 7 (bU (fun sl=>[s0 6, .row (pid (sl 0)) 261]) (az cI (l1 bD))),jS 9 (bU (fun sl=>[s0 7, s0 8, .row (pid (sl 0)) 261]) (az cI (az cI (l1 bD)))),jS 100006 (bU (fun sl=>[s0 7, .row (pid (sl 0)) 261]) (az cI (l1 bD))),jS 100013 (bU (fun sl=>[s0 7, .row (pid (sl 0)) 261]) (az cI (l1 bD)))] (aj (ni 0) (aj (bu cI) (a1 (kE 280 [])))) (b1 (iq 261 D.Slot jD)) (shr [.row 0 261] (l1 bD)) [] func363 0 (fun a=>aEM a.1.2.1 a.2) (fun a=>stQ (fun _ _=>True) a.1.2.1 a.2) fun a h=>aya a.1.2.1 a.2 h
def aED (l:List Slot):Pg (List Slot):=.ob (stQ (fun(x x_1:Slot)=>True) (↑l.length:Int) l) (.lt (aGN (↑l.length:Int) l) fun(v1:List Slot)=> aL v1 (.ret v1))
def aBq (l:List Slot):=(aED l).val
theorem ayx (l:List Slot)(h:sZ (fun _ _=>True) l):Is (aED l):=
 aX ((⟨h,rfl⟩)) (dF fun v1 hv1=>iL fun _=>aU)
def aDn:aS Z:=Ee [U9,aq9,aBZ] [] (aj (ni 0) (a1 (kE 280 []))) (b1 (iq 261 D.Slot jD)) (shr [.row 0 261] (l1 bD)) [] func266 0 (fun a=>aED a.2) (fun a=>sZ (fun _ _=>True) a.2) fun a h=>ayx a.2 h
theorem ac2 (l:List Slot)(h:sZ (fun _ _=>True) l):Sorted aez l (aBq l):=
 (G_ kN (q:=(fun _ _=>True)) (d:=bK) (DI:=ajL) N_ (fun a m b l h=>Mc _ a m b l h) ⟨h,rfl⟩).2
def aqV (a:List Raw)(b:List Raw):Pg (List Raw):=.ob ([a,b].flatten.length<=2097152/\2<=2097152) (.lt (akN [a,b]) fun(v1:List Raw)=> .ob (sZ (fun(x x_1:Raw)=>True) v1) (.ret (aAA v1)))
def atW (a:List Raw)(b:List Raw):=(aqV a b).val
theorem YZ (a:List Raw)(b:List Raw)(h:a.length+b.length<=1048576):jF (aqV a b) (fun r=>r.Perm (a++b)):=
 by
 have q:[a,b].flatten.length<=2097152/\(2:Nat)<=2097152:=⟨by simp only[List.flatten_cons,List.flatten_nil,Qbi,kT];omega,by decide⟩;have hc:akN [a,b]=a++b:=((aeg [a,b] q).2).trans qa2;have hs:sZ (fun(_ _:Raw)=>True) (akN [a,b]):=by rw[hc];exact⟨by rw[kT];omega,fun _ _ _ _=>trivial⟩
 refine ak q (aC fun v1 hv1=> ?_);rw[hv1];refine ak hs (ah ?_);have k:=(adu (akN [a,b]) hs).2.1;rw[hc]at k;rw[hc];exact(FC NF k).symm
def ax8:aS Z:=E1 [auC,aCe,aD0,Ui] [] (aj (bu bF) (a1 (bu bF))) (R1 bF) [] func281 1 (u2 aqV) (fun a=>a.1.length+a.2.length<=1048576) fun a h=>(YZ a.1 a.2 h).1
def auf (s:Str)(m:Str):Pg (List UInt8):=.ob (List.length s+1<=9223372036854775807) (.lt (s++[47]) fun(v1:List UInt8)=> .ob (v1.length+List.length m<=9223372036854775807) (.ret (v1++m)))
def ab6 (s:Str)(m:Str):=(auf s m).val
theorem an9 (s:Str)(m:Str)(h:s.length+m.length<=4194304):jF (auf s m) (fun r=>r.length=s.length+1+m.length):=
 ak au (aC fun v1 hv1=>ak (by rw[hv1];simp only[kT,yF,BM];omega) (ah (by rw[hv1,kT,kT];rfl)))
def abY:aS Z:=E1 [] [] (aj (bu cStr) (a1 (bu cStr))) (R1 cStr) [] func45 1 (u2 auf) (fun a=>a.1.length+a.2.length<=4194304) fun a h=>(an9 a.1 a.2 h).1
def Ja (n:Nat)(t:List Trace):Prop:=t.length<=n/\∀x∈t,x.Times.length<=n
theorem akj {n:Nat}{t:List Trace}(h:Ja n t):Ja (n+1) t:=⟨by have:=h.1;omega,fun x hx=>by have:=h.2 x hx;omega⟩
theorem atc {n:Nat}(path:Str)(now:Int):∀t:List Trace,(∀x∈t,x.Times.length<=n)->(aeZ path now t).length=t.length/\∀x∈aeZ path now t,x.Times.length<=n+1
 | [],_=>⟨rfl,fun x hx=>by cases hx⟩
 | a::t,h=>by
  obtain⟨i1,i2⟩:=atc path now t fun x hx=>h x qct
  have ha:=h a qa2;unfold aeZ;cases Ru path a with
  | true=>
   refine⟨rfl,fun x hx=> ?_⟩;rcases xI.1 hx with e | hx
   ·rw[e];simp only[kT,Qcg];omega
   ·have:=h x qct;omega
  | false=>
   refine⟨by simp only[pO,yF,i1],fun x hx=> ?_⟩;rcases xI.1 hx with e | hx
   ·rw[e];omega
   ·exact i2 x hx
theorem axX {n:Nat}{t:List Trace}{path:Str}{now:Int}(h:Ja n t):Ja (n+1) (Uz t path now):=by
 obtain⟨h1,h2⟩:=h;unfold Uz;cases t.any (Ru path)with
 | true=>
  obtain⟨i1,i2⟩:=atc path now t h2;exact⟨by rw[Bo,i1];omega,i2⟩
 | false=>
  obtain⟨u,v,e1,e2⟩:=Tu path [now] t;rw[pO,e2];rw[e1]at h1 h2;refine⟨by simp only[kT,yF]at h1⊢;omega,fun x hx=> ?_⟩;rcases rW.1 hx with hx | hx
  ·have:=h2 x qct;omega
  ·rcases xI.1 hx with e | hx
   ·rw[e];simp
   ·have:=h2 x qct;omega
theorem axR {n:Nat}{t:List Trace}{than:Int}(h:Ja n t):Ja n (aeT than t):=by
 obtain⟨h1,h2⟩:=h;unfold aeT;refine⟨zO (Qb0 _ _) (by rw[Qbj];exact h1),fun x hx=> ?_⟩;obtain⟨y,hy,rfl⟩:=zI.1 (R_.1 hx).1;exact zO (Qb0 _ _) (h2 y hy)
def YN (hd r:Head):Prop:=r.cO=hd.cO/\r.Method=hd.Method/\r.eQ.length<=40
theorem aka (x:iZ):(Pv.gS (mY.get (rH x) 174 0)).length<=x.Key.length:=by
 unfold rH action;simp only[bV,aV];cases x.Kind==1<;>cases x.Kind==2<;>cases x.Kind==3<;>cases x.Kind==4<;>cases x.Kind==5<;>cases x.Kind==6<;>first | exact l9 _ | exact vg _
def stamp (hd:Head)(key:Str)(val:Str):Pg (Head×Int):=.ob (List.length key<=9223372036854775700) (.lt (asv key val) fun(v2:Int)=> .br (v2 !=0) (.ret (hd,v2)) (.ob (hd.eQ.length<=1000000) (.cut (fun(y1:List l_)=> .br (decide (16 < (↑y1.length:Int))) (.ret (hd,3)) (.ret (Head.mk hd.cO hd.Method hd.fA y1,0))) (.lt (h_ (fun(m:l_)=>m.Key==key) hd.eQ) fun(v3:Int)=> .br (decide (0<=v3)) (.ix v3 hd.eQ.length (.ob (v3.toNat < hd.eQ.length) (rl (hd.eQ.set v3.toNat (l_.mk (hd.eQ.getD v3.toNat Oi).Key val))))) (.lt (h_ (fun(m:l_)=>gtS m.Key key) hd.eQ) fun(v4:Int)=> .br (decide (v4 < 0)) (aL hd.eQ (.ob (0<=(↑hd.eQ.length:Int)/\ (↑hd.eQ.length:Int)<=(↑hd.eQ.length:Int)/\0 < 1/\bQ (hd.eQ.length+1) 32) (rl (List.take hd.eQ.length hd.eQ++([l_.mk key val]++List.drop hd.eQ.length (List.take hd.eQ.length hd.eQ)))))) (.ob (0<=v4/\v4<=(↑hd.eQ.length:Int)/\0 < 1/\bQ (hd.eQ.length+1) 32) (rl (List.take v4.toNat hd.eQ++([l_.mk key val]++List.drop v4.toNat (List.take hd.eQ.length hd.eQ))))))))))
def aCy (hd:Head)(key:Str)(val:Str):=(stamp hd key val).val
theorem Zb (hd:Head)(key:Str)(val:Str)(h:key.length<=1048576/\hd.eQ.length<=40):jF (stamp hd key val) (fun r=>YN hd r.1):=
 by
 have e1:=nK (fun(m:l_)=>m.Key==key) hd.eQ;have e2:=nK (fun(m:l_)=>gtS m.Key key) hd.eQ;exact ak au (aC fun v2 hv2=>dC (fun _=>ah ⟨rfl,rfl,h.2⟩) (fun _=>ak au (df (fun _=>True) (aC fun v3 hv3=>bT (fun _=>aZ au au (ak au (ah trivial)))
  (fun _=>aC fun v4 hv4=>bT (fun _=>dm (ak ⟨by omega,by omega,by omega,b_ au au⟩ (ah trivial))) (fun _=>ak ⟨by omega,by omega,by omega,b_ au au⟩ (ah trivial)))) (fun y1 _=>bT (fun _=>ah ⟨rfl,rfl,h.2⟩) (fun _=>ah ⟨rfl,rfl,by show y1.length<=40;omega⟩)))))
def azs:aS Z:=E1 [ajt,aqW,aEi,aCg,ass,ap3,aDX] [jS 100012 (bU (fun sl=>[.slot 9 false [some 354]]) (l1 tX))] (aj (aF qC) (aj (bu cStr) (a1 (bu cStr)))) (shr [.slot 0 true (nn 4), s0 1] (az qC (l1 cI))) [] func137 2 (u3 stamp) (fun a=>a.2.1.length<=1048576/\a.1.eQ.length<=40) fun a h=>(Zb a.1 a.2.1 a.2.2 h).1
def ark (x:iZ)(t:List Trace)(now:Int)(hd:Head):Pg (Head×Int):=.lt (rH x) fun(v1:Option mY)=> .ob (mY.ok v1 173 true [Value.string (ByteArray.mk (Array.mk [])),Value.string (ByteArray.mk (Array.mk []))]=true) (.br (mY.is v1 173) (.lt (aEy hd (Pv.gS (mY.get v1 173 0))) fun(v2:Str×Bool)=> .br (!v2.2) (.ret (hd,21)) (.br (v2.1 !=Pv.gS (mY.get v1 173 1)) (.ret (hd,21)) (.ret (hd,0)))) (.ob (mY.ok v1 180 true [Value.int .i64 0,Value.int .i64 0]=true) (.br (mY.is v1 180) (.ob (List.length hd.cO+List.length hd.Method<=4194304) (.lt (awF t (ab6 hd.cO hd.Method) (dB .i64 (now - Pv.gI (mY.get v1 180 1)))) fun(v3:Int)=> .lt (Pv.gI (mY.get v1 180 0)) fun(v4:Int)=> .br (decide (v4<=v3)) (.ret (hd,22)) (.ret (hd,0)))) (.ob (mY.ok v1 174 true [Value.string (ByteArray.mk (Array.mk [])),Value.string (ByteArray.mk (Array.mk []))]=true) (.br (mY.is v1 174) (.lt (Pv.gS (mY.get v1 174 0)) fun(v5:List UInt8)=> .ob (v5.length<=1048576/\hd.eQ.length<=40) (.ret (aCy hd v5 (Pv.gS (mY.get v1 174 1))))) (.ob (mY.ok v1 182 true [Value.int .i64 0]=true) (.br (mY.is v1 182) (.ret (Head.mk hd.cO hd.Method (apO hd.fA (TP now (Pv.gI (mY.get v1 182 0)))) hd.eQ,0)) (.ret (hd,0)))))))))
def ar4 (x:iZ)(t:List Trace)(now:Int)(hd:Head):=(ark x t now hd).val
theorem Zp (x:iZ)(t:List Trace)(now:Int)(hd:Head)(h:x.Key.length<=1048576/\hd.eQ.length<=40/\hd.cO.length+hd.Method.length<=4194304):jF (ark x t now hd) (fun r=>YN hd r.1):=
 by
 have same:YN hd hd:=⟨rfl,rfl,h.2.1⟩;refine aC fun v1 hv1=>ak (hv1▸(yu x).1) (dH (fun _=>aC fun v2 hv2=>dH (fun _=>ah same) (fun _=>dH (fun _=>ah same) (fun _=>ah same))) (fun _=>ak (hv1▸(yu x).2.2.2.1) (dH (fun _=>ak h.2.2 (aC fun v3 _=>aC fun v4 _=>bT (fun _=>ah same) (fun _=>ah same)))
  (fun _=>ak (hv1▸(yu x).2.1) (dH (fun _=>aC fun v5 hv5=>ak ?_ (ah ?_)) (fun _=>ak (hv1▸(yu x).2.2.2.2.1) (dH (fun _=>ah ⟨rfl,rfl,h.2.1⟩) (fun _=>ah same))))))))
 ·exact⟨by rw[hv5,hv1];have:=aka x;omega,h.2.1⟩
 ·exact(Zb hd _ _ ⟨by rw[hv5,hv1];have:=aka x;omega,h.2.1⟩).2
def awx:aS Z:=E1 [ajr,abY,Uf,awg,apT,azs,aol] [] (aj (aF xO) (aj (bu jB) (aj (bu cI) (a1 (aF qC))))) (shr [.slot 0 true (nn 4), s0 1] (az qC (l1 cI))) [] func87 2 (u4 ark) (fun a=>a.1.Key.length<=1048576/\a.2.2.2.eQ.length<=40/\a.2.2.2.cO.length+a.2.2.2.Method.length<=4194304) fun a h=>(Zp a.1 a.2.1 a.2.2.1 a.2.2.2 h).1
def before (l:List iZ)(t:List Trace)(now:Int)(hd:Head):Pg (Head×List Trace×Status):=.cut (fun(y4:Int×Head)=> .cut (fun(y5:Unit)=> .br (decide (0 < y4.1)) (.ob (List.length hd.cO+List.length hd.Method<=4194304) (.ob (okT t) (.ret (y4.2,aeT (dB .i64 (now - y4.1)) (Uz t (ab6 hd.cO hd.Method) now),Status.mk 0 [])))) (.ret (y4.2,t,Status.mk 0 []))) (.br (decide (1<=y4.2.fA)) (.br (decide (y4.2.fA<=now)) (.ret (.inr (hd,t,Y8 23))) (rl ())) (rl ()))) (aL l (.each false qi l uk (fun i1 a3 (y2:Int×Head)=> .ix i1 l.length (.ob (List.length a3.Key<=1048576/\y2.2.eQ.length<=40/\List.length y2.2.cO+List.length y2.2.Method<=4194304) (.lt (ar4 a3 t now y2.2) fun(v6:Head×Int)=> .br (v6.2 !=0) (.ret (.inr (.inr (hd,t,Y8 v6.2)))) (.br (a3.Kind==3) (rl (max y2.1 a3.nH,v6.1)) (rl (y2.1,v6.1)))))) (fun i1 (y2:Int×Head)=> rl y2) (0,hd)))
def awh (l:List iZ)(t:List Trace)(now:Int)(hd:Head):=(before l t now hd).val
theorem TZ (l:List iZ)(t:List Trace)(now:Int)(hd:Head)(h:okT t/\IX l/\l.length<=100/\hd.eQ.length<=40/\hd.cO.length+hd.Method.length<=4194304):jF (before l t now hd) (fun r=>r.1.eQ.length<=40/\∀n,Ja n t->Ja (n+1) r.2.1):=
 by
 obtain⟨h1,h2,h3,h4,h5⟩:=h;have stay:∀x:Status,hd.eQ.length<=40/\∀n,Ja n t->Ja (n+1) t:=fun _=>⟨h4,fun n hn=>akj hn⟩
 refine df (fun(y:Int×Head)=>YN hd y.2) (dm (cZ (fun _ (y:Int×Head)=>YN hd y.2) ⟨rfl,rfl,h4⟩ au (fun k y hk hI=> ?_) (fun y hI=>ah hI))) (fun y4 hy4=>df (fun _=>True) (bT (fun _=>bT (fun _=>ah (stay (Y8 23))) (fun _=>ah trivial)) (fun _=>ah trivial)) (fun y5 _=>bT (fun _=>ak h5 (ak h1 (ah ⟨hy4.2.2,fun n hn=>axR (axX hn)⟩))) (fun _=>ah ⟨hy4.2.2,fun n hn=>akj hn⟩)));have k2:=h2 _ (getD_mem (d:=uk) hk);obtain⟨q1,q2,q3⟩:=hI;have pq:(l.getD k uk).Key.length<=1048576/\y.2.eQ.length<=40/\y.2.cO.length+y.2.Method.length<=4194304:=⟨k2,q3,by rw[q1,q2];exact h5⟩;have pr:=(Zp (l.getD k uk) t now y.2 pq).2;have pr:YN hd (ar4 (l.getD k uk) t now y.2).1:=⟨pr.1.trans q1,pr.2.1.trans q2,pr.2.2⟩;exact aZ au au (ak pq (aC fun v6 hv6=>dC (fun _=>ah (stay (Y8 v6.2))) (fun _=>dH (fun _=>ah (by rw[hv6];exact pr)) (fun _=>ah (by rw[hv6];exact pr)))))
def ase:aS Z:=E1 [abY,agB,awx,anO] [jS 3 (bU (fun sl=>[s0 20, s0 12, .cells (pid (sl 11)) (nn 4)]) (az cI (az cI (l1 qC)))),jS 100012 (bU (fun sl=>[s0 12, .cells (pid (sl 11)) (nn 4)]) (az cI (l1 qC))),jS 100014 (bU (fun sl=>[]) l0)] (aj (bu qJ) (aj (bu jB) (aj (bu cI) (a1 (aF qC))))) (shr [.slot 0 true (nn 4), s0 1, .slot 2 true [none,none]] (az qC (az jB (l1 jC)))) [] func47 3 (u4 before) (fun a=>okT a.2.1/\IX a.1/\a.1.length<=100/\a.2.2.2.eQ.length<=40/\a.2.2.2.cO.length+a.2.2.2.Method.length<=4194304) fun a h=>(TZ a.1 a.2.1 a.2.2.1 a.2.2.2 h).1
theorem Oe {s:Server}{p:Str}(h:∀x∈s.Handlers,x.Method.length<=1048576):(rX s p).1.Method.length<=1048576/\((rX s p).2=true->p.length<=1048576):=by
 have k:VP (Gz s p) (fun r=>r.1.Method.length<=1048576/\(r.2=true->p.length<=1048576)):=by
  unfold Gz;refine uz (oh (fun _ _=>True) trivial (fun k y hk _=>qV (gK (fun e=>bi ?_) fun _=>bi trivial)) fun y _=>bi ⟨vg _,fun e=>by cases e⟩);have hm:=h _ (getD_mem (d:=nT) hk);exact⟨hm,fun _=>by rw[<-eq_of_beq e];exact hm⟩
 exact k
def aFV (s:Server)(c i:Int)(r:Server×Status):Prop:=
 (r.2.Code≠0/\r.1=s)\/(r.2.Code=0/\fF s c i < 0/\s.mX=false/\(s.Tasks.length:Int) < s.Most/\∃tr t,(∀n,Ja n s.Traces->Ja (n+1) tr)/\(t.kL=c/\t.Id=i/\t.In=[]/\t.Ready= -1/\t.mf=false/\t.pK=[]/\t.Method.length<=1048576)/\r.1=Server.mk s.Name s.ay s.Handlers s.iV tr (s.Tasks++[t]) s.Most s.mX)
noncomputable def QL (s:Server)(now:Int)(conn:Int)(id:Int)(hd:Head)(shape:Int):Pg (Server×Status):=.ob (List.length hd.cO+List.length hd.Method<=4194304) (.lt (rX s (ab6 hd.cO hd.Method)) fun(v2:di×Bool)=> .ob (List.length v2.1.Method<=1048576) (.cut (fun(y1:Unit)=> .ob (okT s.Traces/\IX s.iV/\s.iV.length<=100/\hd.eQ.length<=40/\List.length hd.cO+List.length hd.Method<=4194304) (.lt (awh s.iV s.Traces now hd) fun(v3:Head×List Trace×Status)=> .br (v3.2.2.Code !=0) (.ret (s,v3.2.2)) (aL s.Tasks (.ob (0<=(↑s.Tasks.length:Int)/\(↑s.Tasks.length:Int)=(↑s.Tasks.length:Int)/\(↑s.Tasks.length:Int)<=(↑s.Tasks.length:Int)) (.ob (bQ (0+v3.1.eQ.length) 32) (.ob (0 < 1/\bQ ((List.take s.Tasks.length s.Tasks).length+1) 152) (.ret (Server.mk s.Name s.ay s.Handlers s.iV v3.2.1 (List.take s.Tasks.length s.Tasks++ [fU.mk conn id (ab6 hd.cO hd.Method) v3.1.eQ v3.1.fA [] (-1) [] (Status.mk 0 []) false]) s.Most s.mX, Status.mk 0 [])))))))) (.lt (fF s conn id) fun(v4:Int)=> .br (decide (0<=v4)) (.ret (.inr (s,Status.mk 11 []))) (.br s.mX (.ret (.inr (s,Status.mk 12 []))) (.br (!v2.2) (.ret (.inr (s,Status.mk 10 []))) (.br ((mD s.ay v2.1.Method).1.Shape !=shape) (.ret (.inr (s,Status.mk 10 []))) (aL s.Tasks (.br (decide (s.Most<=(↑s.Tasks.length:Int))) (.ret (.inr (s,Status.mk 7 []))) (rl ())))))))))
noncomputable def ar6 (s:Server)(now:Int)(conn:Int)(id:Int)(hd:Head)(shape:Int):Server×Status:=(QL s now conn id hd shape).val
theorem PI (s:Server)(now:Int)(conn:Int)(id:Int)(hd:Head)(shape:Int)(h:wP s/\(∀x∈s.Handlers,x.Method.length<=1048576)/\IX s.iV/\s.iV.length<=100/\okT s.Traces/\hd.eQ.length<=40/\hd.cO.length+hd.Method.length<=4194304):jF (QL s now conn id hd shape) (fun r=>aFV s conn id r):=
 by
 obtain⟨⟨a1,a2,a3,a4⟩,b1,b2,b3,b4,c1,c2⟩:=h;refine ak c2 (aC fun v2 hv2=>ak (by rw[hv2];exact(Oe b1).1) (df (fun _=>v2.2=true/\fF s conn id < 0/\s.mX=false/\(s.Tasks.length:Int) < s.Most) (aC fun v4 hv4=>bT (fun _=>ah (.inl ⟨by simp,rfl⟩)) (fun i0=>dH (fun _=>ah (.inl ⟨by simp,rfl⟩)) (fun hd0=>dH (fun _=>ah (.inl ⟨by simp,rfl⟩)) (fun hf=>dC (fun _=>ah (.inl ⟨by simp,rfl⟩)) (fun _=>dm (bT (fun _=>ah (.inl ⟨by simp,rfl⟩)) (fun hlt=>ah ⟨by simpa using hf,by rw[<-hv4];omega,hd0,by omega⟩))))))) (fun y1 hy1=> ?_)));obtain⟨k1,k2,k3,k4⟩:=hy1;have q:okT s.Traces/\IX s.iV/\s.iV.length<=100/\hd.eQ.length<=40/\hd.cO.length+hd.Method.length<=4194304:=⟨b4,b2,b3,c1,c2⟩;have pb:=(TZ s.iV s.Traces now hd q).2;refine ak q (aC fun v3 hv3=>dC (fun hne=>ah (.inl ⟨hne,rfl⟩)) fun he=> ?_);have pb1:v3.1.eQ.length<=40:=by rw[hv3];exact pb.1
 refine dm (ak ⟨by omega,rfl,Qb2 _⟩ (ak (b_ au au) (ak ⟨by decide,b_ (by rw[Eo];omega) (by rw[Eo];omega)⟩ (ah (.inr ⟨rfl,k2,k3,k4,v3.2.1,_,by rw[hv3];exact pb.2,⟨rfl,rfl,rfl,rfl,rfl,rfl,?_⟩,by rw[Eo]⟩)))));rw[hv2]at k1;exact(Oe b1).2 k1
theorem aia (s:Server)(now:Int)(conn:Int)(id:Int)(hd:Head)(shape:Int)(h:wP s/\(∀x∈s.Handlers,x.Method.length<=1048576)/\IX s.iV/\s.iV.length<=100/\okT s.Traces/\hd.eQ.length<=40/\hd.cO.length+hd.Method.length<=4194304):Is (QL s now conn id hd shape):=(PI s now conn id hd shape h).1
noncomputable def anK:aS Z:=E1 [u_,EN,abY,Nq,ase] [jS 100012 (bU (fun sl=>[]) l0)] (aj (aF fK) (aj (bu cI) (aj (bu cI) (aj (bu cI) (aj (aF qC) (a1 (bu cI))))))) (shr [.slot 0 true (nn 10), .slot 1 true [none,none]] (az fK (l1 jC))) [] func20 2 (fun a=>QL a.1 a.2.1 a.2.2.1 a.2.2.2.1 a.2.2.2.2.1 a.2.2.2.2.2) (fun a=>wP a.1/\(∀x∈a.1.Handlers,x.Method.length<=1048576)/\IX a.1.iV/\a.1.iV.length<=100/\okT a.1.Traces/\a.2.2.2.2.1.eQ.length<=40/\a.2.2.2.2.1.cO.length+a.2.2.2.2.1.Method.length<=4194304) fun a h=>aia a.1 a.2.1 a.2.2.1 a.2.2.2.1 a.2.2.2.2.1 a.2.2.2.2.2 h
theorem aE7 {s:ay}{name:Str}(h:okS s):(GN s name).1.Fields.length<=1048576:=by
 have k:VP (fsM s.Messages name) (fun r=>r.1.Fields.length<=1048576):=by
  unfold fsM;exact uz (oh (fun _ _=>True) trivial (fun k y hk _=>qV (gK (fun _=>bi (h.2.2.2.1 _ (getD_mem (d:=jb) hk)).1) fun _=>bi trivial)) fun y _=>bi (vg _))
 exact k
theorem amF (l:List Slot)(n:Int):Vt l n < l.length:=by
 unfold Vt aah;rw[aV];exact(nK _ _).1
theorem aem {A:Type}{f:A->Nat}{d r:A}:∀{l:List A} {i:Nat},i < l.length->jH f (l.set i r)+f (l.getD i d)=jH f l+f r
 | a::l,0,_=>by
  show f r+jH f l+f a=f a+jH f l+f r
  omega
 | a::l,i+1,hi=>by
  have:=aem (f:=f) (d:=d) (r:=r) (l:=l) (i:=i) qcl;show f a+jH f (l.set i r)+f (l.getD i d)=f a+jH f l+f r
  omega
theorem aGq {a b:List af}(h:a.length+b.length<=2097152):([a,b].flatten.length<=2097152/\(2:Nat)<=2097152)/\aA6 [a,b]=a++b:=by
 have q:[a,b].flatten.length<=2097152/\(2:Nat)<=2097152:=⟨by simp only[List.flatten_cons,List.flatten_nil,Qbi,kT];omega,by decide⟩;exact⟨q,((afJ [a,b] q).2).trans qa2⟩
theorem aGu {a b:List Pair}(h:a.length+b.length<=2097152):([a,b].flatten.length<=2097152/\(2:Nat)<=2097152)/\aAK [a,b]=a++b:=by
 have q:[a,b].flatten.length<=2097152/\(2:Nat)<=2097152:=⟨by simp only[List.flatten_cons,List.flatten_nil,Qbi,kT];omega,by decide⟩;exact⟨q,((adR [a,b] q).2).trans qa2⟩
theorem atC (k b:Int)(t:Str)(l:List af)(p:List Pair)(sl:List Slot)(r:List Raw):tV (af.mk k b t l p sl r)=1+t.length+XX l+Xu p+tSs sl+QQ r:=iD _
theorem aqL {A:Type}{P:A->Prop}{r:A}{l:List A}{i:Nat}(h:∀x∈l,P x)(hr:P r):∀x∈l.set i r,P x:=fun x hx=>by
 rcases Qcb hx with h' | rfl
 ·exact h x h'
 ·exact hr
theorem alq:lS 0:=⟨by decide,by decide⟩
theorem aEj {y:List Slot}{i:Nat}{n:Int}{r:af}{B:Nat}(hi:i < y.length)(hr:tV r<=tV (y.getD i bK).Val+B):jH tS (y.set i (Slot.mk n r))<=jH tS y+B:=by
 have e:=aem (f:=tS) (d:=bK) (r:=Slot.mk n r) hi;rw[xG,xG]at e;have e:jH tS (y.set i (Slot.mk n r))+(1+tV (y.getD i bK).Val)=jH tS y+(1+tV r):=e;omega
def aAo (avT:ay->aJ->af->af->af)(BN:ay->aJ->af->af->Prop)(amm:ay->Str->af->af->af)(wU:ay->Str->af->af->Prop)(s:ay)(f:aJ)(a:af)(b:af):Pg af:=.br (f.Card==4) (.ob ([a.List,b.List].flatten.length<=2097152/\2<=2097152) (.ret (af.mk 11 0 [] (aA6 [a.List,b.List]) [] [] []))) (.br (f.Card==5) (.ob ([a.Pairs,b.Pairs].flatten.length<=2097152/\2<=2097152) (.lt (aAK [a.Pairs,b.Pairs]) fun(v1:List Pair)=> .ob (oD v1) (.ret (af.mk 12 0 [] [] (oH v1) [] [])))) (.br (f.dZ.Kind==10) (.ob (wU s f.dZ.Name a.re b.re) (.ret (amm s f.dZ.Name a.re b.re).re)) (.ret b.re)))
def avi (avT:ay->aJ->af->af->af)(BN:ay->aJ->af->af->Prop)(amm:ay->Str->af->af->af)(wU:ay->Str->af->af->Prop)(s:ay)(name:Str)(a:af)(b:af):Pg af:=.ob ((↑a.Slots.length:Int)=(↑a.Slots.length:Int)/\ 0<=(↑a.Slots.length:Int)/\(↑a.Slots.length:Int)*(136:Int)<=281474976710656/\(↑a.Slots.length:Int)<=1099511627776) (aL a.Slots (.lt (List.take (min a.Slots.length (List.replicate a.Slots.length (Slot.mk 0 (af.mk 0 0 [] [] [] [] []))).length) a.Slots++ List.drop (min a.Slots.length (List.replicate a.Slots.length (Slot.mk 0 (af.mk 0 0 [] [] [] [] []))).length) (List.take (List.replicate a.Slots.length (Slot.mk 0 (af.mk 0 0 [] [] [] [] []))).length (List.replicate a.Slots.length (Slot.mk 0 (af.mk 0 0 [] [] [] [] []))))) fun(v4:List Slot)=> .lt (GN s name) fun(v5:bg×Bool)=> .ob (v5.1.Fields.length<=1048576/\v4.length<=1048576) (aL b.Slots (.each false qi b.Slots bK (fun i1 a3 (y2:List Slot)=> .ix i1 b.Slots.length (.lt (Vt y2 a3.Num) fun(v6:Int)=> .br (decide (0<=v6)) (.ix v6 y2.length (.ob (v6.toNat < y2.length) (.lt (Q7 v5.1 a3.Num) fun(v7:aJ×Bool)=> .ob (BN s (aJ.mk v7.1.Num v7.1.Name v7.1.Card v7.1.Key v7.1.dZ v7.1.Union v7.1.dw v7.1.Default.re v7.1.Notes) (y2.getD v6.toNat bK).Val.re a3.Val.re) (.ix v6 y2.length (.ob (v6.toNat < y2.length) (rl (y2.set v6.toNat (Slot.mk (y2.getD v6.toNat bK).Num (avT s (aJ.mk v7.1.Num v7.1.Name v7.1.Card v7.1.Key v7.1.dZ v7.1.Union v7.1.dw v7.1.Default.re v7.1.Notes) (y2.getD v6.toNat bK).Val.re a3.Val.re).re)))))))) (.ob (bQ (y2.length+1) 136) (rl (y2++[Slot.mk a3.Num a3.Val.re]))))) (fun i1 (y2:List Slot)=> .ob (sZ (fun(x x_1:Slot)=>True) y2) (.ob (a.bJ.length+b.bJ.length<=1048576) (.ret (af.mk 10 0 [] [] [] (aBq y2) (atW a.bJ b.bJ))))) (List.filter (fun(x:Slot)=> !NL x v5.1 b.re) v4)))))
def BN (fu:Nat)(s:ay)(f:aJ)(a:af)(b:af):Prop:=okS s/\(kV a/\kV b/\tV a+tV b<=1048576)/\2*tV b+1<=fu
def wU (fu:Nat)(s:ay)(name:Str)(a:af)(b:af):Prop:=okS s/\(kV a/\kV b/\tV a+tV b<=1048576)/\2*tV b<=fu
def mmV:Nat->(ay->aJ->af->af->af)×(ay->Str->af->af->af)
 | 0=>(fun _ _ _ _=>default,fun _ _ _ _=>default)
 | fu+1=>(fun s f a b=>(aAo ((mmV fu).1) (BN fu) ((mmV fu).2) (wU fu) s f a b).val,fun s name a b=>(avi ((mmV fu).1) (BN fu) ((mmV fu).2) (wU fu) s name a b).val)
abbrev TY (fu:Nat):=aAo ((mmV fu).1) (BN fu) ((mmV fu).2) (wU fu)
abbrev ML (fu:Nat):=avi ((mmV fu).1) (BN fu) ((mmV fu).2) (wU fu)
def aav (s:ay)(name:Str)(a:af)(b:af):af:=(mmV (2*tV b)).2 s name a b
def aiE (fu:Nat):Prop:=(∀(s:ay) (f:aJ) (a:af) (b:af),BN fu s f a b->(fun r=>kV r/\tV r<=tV a+tV b) ((mmV fu).1 s f a b))/\(∀(s:ay) (name:Str) (a:af) (b:af),wU fu s name a b->(fun r=>kV r/\tV r<=tV a+tV b) ((mmV fu).2 s name a b))
theorem ZJ (fu:Nat)(ih:aiE fu)(s:ay)(f:aJ)(a:af)(b:af)(h:BN (fu+1) s f a b):jF (TY fu s f a b) (fun r=>kV r/\tV r<=tV a+tV b):=
 by
 obtain⟨h1,⟨ka,kb,ht⟩,h2⟩:=h;have ea:=iD a;have eb:=iD b;have l1:=KT a.List;have l2:=KT b.List;have l3:=GX a.Pairs;have l4:=GX b.Pairs;obtain⟨a1,a2,a3,a4⟩:=(iw a).1 ka;obtain⟨b1,b2,b3,b4⟩:=(iw b).1 kb;unfold TY aAo;simp only[af.dK];refine dI (fun _=> ?_) (fun _=>dI (fun _=> ?_) (fun _=>dI (fun _=>ak ⟨h1,⟨ka,kb,ht⟩,by omega⟩ (ah (ih.2 _ _ _ _ ⟨h1,⟨ka,kb,ht⟩,by omega⟩))) (fun _=>ah ⟨kb,by omega⟩)))
 ·obtain⟨q,e⟩:=aGq (a:=a.List) (b:=b.List) au;refine ak q (ah ?_);rw[e];refine⟨(iw _).2 ⟨⟨alq,fun r hr=>by cases hr⟩,pG a2 b2,fun x hx=>qcw,fun x hx=>qcw⟩,?_⟩;rw[atC,uJ,n_,<-uJ,<-uJ];show 1+0+(XX a.List+XX b.List)+0+0+0<=_
  omega
 ·obtain⟨q,e⟩:=aGu (a:=a.Pairs) (b:=b.Pairs) au;have hall:=pG a3 b3;have hp:oD (a.Pairs++b.Pairs):=⟨by rw[kT];omega,fun x hx=>(hall x hx).1.1⟩;refine ak q (aC fun v1 hv1=> ?_);rw[hv1,e];refine ak hp (ah ⟨(iw _).2 ⟨⟨alq,fun r hr=>by cases hr⟩,fun x hx=>qcw,fun x hx=>hall x (IB hp hx),fun x hx=>qcw⟩,?_⟩);have k:=TC hp;rw[n_,<-wH,<-wH,<-wH]at k;rw[atC];show 1+0+0+Xu (oH (a.Pairs++b.Pairs))+0+0<=_
  omega
theorem Vr (fu:Nat)(ih:aiE fu)(s:ay)(name:Str)(a:af)(b:af)(h:wU (fu+1) s name a b):jF (ML fu s name a b) (fun r=>kV r/\tV r<=tV a+tV b):=
 by
 obtain⟨h1,⟨ka,kb,ht⟩,h2⟩:=h;have ea:=iD a;have eb:=iD b;have l1:=Rx a.Slots;have l2:=Rx b.Slots;have l3:=J5 a.bJ;have l4:=J5 b.bJ;have s1:=wI a.Slots;have s2:=wI b.Slots;obtain⟨a1,a2,a3,a4⟩:=(iw a).1 ka;obtain⟨b1,b2,b3,b4⟩:=(iw b).1 kb;unfold ML avi;simp only[af.dK];refine ak ⟨trivial,by omega,by omega,by omega⟩ (dm (aC fun v4 hv4=>aC fun v5 hv5=> ?_));have hv:v4=a.Slots:=by
  rw[hv4];simp
 rw[hv];have hf:v5.1.Fields.length<=1048576:=by rw[hv5];exact aE7 h1
 have hsub:(List.filter (fun(x:Slot)=> !NL x v5.1 b) a.Slots).Sublist a.Slots:=List.filter_sublist;refine ak ⟨hf,by omega⟩ (dm (cZ (fun k (y:List Slot)=>y.length<=a.Slots.length+k/\(∀x∈y,kV x.Val)/\jH tS y<=jH tS a.Slots+jH tS (b.Slots.take k)) ⟨hsub.length_le,fun x hx=>a4 x (hsub.subset hx),vF hsub⟩ au (fun k y hk hI=> ?_) (fun y hI=> ?_)))
 ·obtain⟨i1,i2,i3⟩:=hI;have e:jH tS (b.Slots.take (k+1))=jH tS (b.Slots.take k)+tS (b.Slots.getD k bK):=ql hk;have hle:jH tS (b.Slots.take (k+1))<=jH tS b.Slots:=vF (Qc3 _ _);have e2:=xG (b.Slots.getD k bK);have kb4:=b4 _ (getD_mem (d:=bK) hk);refine aZ au au (aC fun v6 hv6=>bT (fun h0=> ?_) (fun h0=>ak (b_ au au) (ah ⟨by simp only[kT,yF,BM];omega,pG i2 (kC kb4),?_⟩)))
  ·have hlt:=amF y (b.Slots.getD k bK).Num;rw[<-hv6]at hlt;have hm:=getD_mem (d:=bK) (l:=y) (i:=v6.toNat) au;have ky:=i2 _ hm;have ty:tS (y.getD v6.toNat bK)<=jH tS y:=Gt hm;have e3:=xG (y.getD v6.toNat bK);have hq:okS s/\(kV (y.getD v6.toNat bK).Val/\kV (b.Slots.getD k bK).Val/\tV (y.getD v6.toNat bK).Val+tV (b.Slots.getD k bK).Val<=1048576)/\2*tV (b.Slots.getD k bK).Val+1<=fu:=⟨h1,⟨ky,kb4,by omega⟩,by omega⟩;refine aZ au au (ak au (aC fun v7 hv7=>ak hq (aZ au au (ak au (ah ?_)))));obtain⟨r1,r2⟩:=ih.1 s (aJ.mk v7.1.Num v7.1.Name v7.1.Card v7.1.Key v7.1.dZ v7.1.Union v7.1.dw v7.1.Default v7.1.Notes) _ _ hq;exact⟨by rw[Qbm];omega,aqL i2 r1,zO (aEj au r2) au⟩
  ·rw[n_];show jH tS y+(tS (Slot.mk (b.Slots.getD k bK).Num (b.Slots.getD k bK).Val)+0)<=_
   rw[xG];show jH tS y+(1+tV (b.Slots.getD k bK).Val+0)<=_
   omega
 ·obtain⟨i1,i2,i3⟩:=hI;rw[Eo]at i3;have hq:sZ (fun(_ _:Slot)=>True) y:=⟨by omega,fun _ _ _ _=>trivial⟩;have hr:a.bJ.length+b.bJ.length<=1048576:=by omega
  refine ak hq (ak hr (ah ?_));have p1:=FC N_ (ac2 y hq).2.1;have p2:(atW a.bJ b.bJ).Perm (a.bJ++b.bJ):=(YZ a.bJ b.bJ hr).2;refine⟨(iw _).2 ⟨⟨alq,fun r hr=> ?_⟩,fun x hx=>qcw,fun x hx=>qcw,fun x hx=>i2 x (p1.mem_iff.2 hx)⟩,?_⟩
  ·rcases rW.1 (p2.mem_iff.1 hr)with e | e
   ·exact a1.2 r e
   ·exact b1.2 r e
  ·rw[atC,wI,<-DX p1,Fe,DX p2,n_,<-Fe,<-Fe];show 1+0+0+0+jH tS y+(QQ a.bJ+QQ b.bJ)<=_
   omega
theorem Md:∀fu,aiE fu
 | 0=>⟨fun s f a b h=>False.elim (by have k:=h.2.2;omega),
  fun s name a b h=>False.elim (by have k:=h.2.2;have:=mg b;omega)⟩
 | fu+1=>⟨fun s f a b h=>(ZJ fu (Md fu) s f a b h).2,
  fun s name a b h=>(Vr fu (Md fu) s name a b h).2⟩
theorem asx (fu:Nat)(s:ay)(f:aJ)(a:af)(b:af)(h:BN (fu+1) s f a b):Is (TY fu s f a b):=(ZJ fu (Md fu) s f a b h).1
theorem anW (fu:Nat)(s:ay)(name:Str)(a:af)(b:af)(h:wU (fu+1) s name a b):Is (ML fu s name a b):=(Vr fu (Md fu) s name a b h).1
theorem abE (s:ay)(name:Str)(a:af)(b:af)(h:okS s/\(kV a/\kV b/\tV a+tV b<=1048576)):(fun r=>kV r/\tV r<=tV a+tV b) (aav s name a b):=(Md (2*tV b)).2 s name a b (⟨h.1,h.2,l9 _⟩)
theorem aAr:∀fu,fV Z.P Z.S 279 (oP (args (aj (aF bI) (aj (aF d_) (aj (aF aI) (a1 (aF aI)))))) (shr [.slot 0 true (nn 7)] (l1 aI)) 1 [] (fun a=>some (BN fu (a.1) (a.2.1) (a.2.2.1) (a.2.2.2))) (fun a=>(mmV fu).1 (a.1) (a.2.1) (a.2.2.1) (a.2.2.2)))/\fV Z.P Z.S 200 (oP (args (aj (aF bI) (aj (bu cStr) (aj (aF aI) (a1 (aF aI)))))) (shr [.slot 0 true (nn 7)] (l1 aI)) 1 [] (fun a=>some (wU fu (a.1) (a.2.1) (a.2.2.1) (a.2.2.2))) (fun a=>(mmV fu).2 (a.1) (a.2.1) (a.2.2.1) (a.2.2.2)))
 | 0=>⟨iH func279 dU (fun a h=>by have k:=h.2.2;omega),
  iH func200 dU (fun a h=>by have k:=h.2.2;have:=mg (a.2.2.2);omega)⟩
 | fu+1=>by
  obtain⟨h0,h1⟩:=aAr fu;exact⟨G9 [UW,aDM,aC6,⟨279,_,h0⟩,⟨200,_,h1⟩] [] func279 ntmps279 (fun a=>TY fu a.1 a.2.1 a.2.2.1 a.2.2.2) (fun a h=>⟨asx fu a.1 a.2.1 a.2.2.1 a.2.2.2 h,rfl⟩) (kH (n:=45) rfl),
   G9 [Jw,Lc,atB,aDn,aHO,apP,anB,U9,ax8,⟨279,_,h0⟩,⟨200,_,h1⟩] [jS 6 (bU (fun sl=>[s0 37, .slot 11 false [some 261]]) (az cI (l1 bD)))] func200 ntmps200 (fun a=>ML fu a.1 a.2.1 a.2.2.1 a.2.2.2) (fun a h=>⟨anW fu a.1 a.2.1 a.2.2.1 a.2.2.2 h,rfl⟩) (kH (n:=82) rfl)⟩
def asK:aS Z:=⟨200,oP (args (aj (aF bI) (aj (bu cStr) (aj (aF aI) (a1 (aF aI)))))) (shr [.slot 0 true (nn 7)] (l1 aI)) 1 [] (fun a=>some (okS (a.1)/\(kV (a.2.2.1)/\kV (a.2.2.2)/\tV (a.2.2.1)+tV (a.2.2.2)<=1048576))) (fun a=>aav (a.1) (a.2.1) (a.2.2.1) (a.2.2.2)),jM (fun n=>((aAr n).2)) _ _ (fun a h=>⟨2*tV (a.2.2.2),⟨h.1,h.2,l9 _⟩,rfl⟩)⟩
def axC (s:ay)(name:Str)(l:List af):Pg af:=aL l (.each false qi l fQ (fun i1 (a3 y2:af)=> .ix i1 l.length (.br (i1==0) (rl a3.re) (.ob (okS s/\kV y2.re/\kV a3.re/\tV y2.re+tV a3.re<=1048576) (rl (aav s name y2.re a3.re).re)))) (fun i1 (y2:af)=> .ret y2.re) (af.mk 10 0 [] [] [] [] []))
def aIc (s:ay)(name:Str)(l:List af):=(axC s name l).val
theorem VV (s:ay)(name:Str)(l:List af)(h:okS s/\(∀v∈l,kV v)/\jH (fun v=>1+tV v) l<=1048576):jF (axC s name l) (fun r=>kV r/\tV r<=1048576):=
 by
 obtain⟨h1,h2,h3⟩:=h;have hl:l.length<=1048576:=zO (zf fun x=>by omega) h3;unfold axC;simp only[af.dK];refine dm (cZ (fun k (y:af)=>kV y/\tV y<=1+jH (fun v=>1+tV v) (l.take k)/\(0 < k->tV y+1<=1+jH (fun v=>1+tV v) (l.take k))) ⟨(kD 10 0 [] ⟨by decide,by decide⟩).1,by rw[(kD 10 0 [] ⟨by decide,by decide⟩).2];exact Qeo (vg _) 1,fun e=>absurd e nG⟩ au (fun k y hk hI=> ?_) (fun y hI=>ah ⟨hI.1,?_⟩))
 ·have e:=ql (f:=fun v=>1+tV v) (d:=fQ) hk;have e:jH (fun v=>1+tV v) (l.take (k+1))=jH (fun v=>1+tV v) (l.take k)+(1+tV (l.getD k fQ)):=e;have hle:jH (fun v=>1+tV v) (l.take (k+1))<=jH (fun v=>1+tV v) l:=vF (Qc3 _ l);have hk2:=h2 _ (getD_mem (d:=fQ) hk);refine aZ au au (dI (fun h0=>ah ⟨hk2,by omega,fun _=>by omega⟩) (fun h0=> ?_));have hq:okS s/\(kV y/\kV (l.getD k fQ)/\tV y+tV (l.getD k fQ)<=1048576):=⟨h1,hI.1,hk2,by have:=hI.2.2 au;omega⟩;obtain⟨r1,r2⟩:=abE s name y (l.getD k fQ) hq;exact ak hq (ah ⟨r1,by have:=hI.2.1;omega,fun _=>by have:=hI.2.2 au;omega⟩)
 ·rw[Eo]at hI;by_cases h0:l.length=0
  ·have:l=[]:=List.length_eq_zero_iff.1 h0;subst this;have:=hI.2.1;simp only[jH]at this;omega
  ·have:=hI.2.2 au;omega
def aEE:aS Z:=E1 [asK] [jS 3 (bU (fun sl=>[s0 13, .cells (pid (sl 7)) (nn 7)]) (az cI (l1 aI)))] (aj (aF bI) (aj (bu cStr) (a1 (bu jd)))) (shr [.slot 0 true (nn 7)] (l1 aI)) [] func129 1 (u3 axC) (fun a=>okS a.1/\(∀v∈a.2.2,kV v)/\jH (fun v=>1+tV v) a.2.2<=1048576) fun a h=>(VV a.1 a.2.1 a.2.2 h).1
theorem akb {v:af}(h:gV v):v.Pairs.length<=1048576:=by
 have h1:=iD v;have h2:=GX v.Pairs;have:=h.2;omega
theorem abL {A:Type}{f:A->Nat}{d r:A}:∀{l:List A} {i:Nat},i < l.length->f r<=f (l.getD i d)->jH f (l.set i r)<=jH f l
 | a::l,0,_,h=>by
  have h:f r<=f a:=h;show f r+jH f l<=f a+jH f l
  omega
 | a::l,i+1,hi,h=>by
  have:=abL (l:=l) (i:=i) qcl h;show f a+jH f (l.set i r)<=f a+jH f l
  omega
theorem al8 {A:Type}{P:A->Prop}{r:A}{l:List A}{i:Nat}(h:∀x∈l,P x)(hr:P r):∀x∈l.set i r,P x:=fun x hx=>by
 rcases Qcb hx with h' | rfl
 ·exact h x h'
 ·exact hr
theorem amL {v:af}{y:List af}(h:kV v)(hy:∀x∈y,kV x)(ht:jH (fun x=>1+tV x) y<=XX v.List):kV (af.mk v.Kind v.Bits v.Text y v.Pairs v.Slots v.bJ)/\tV (af.mk v.Kind v.Bits v.Text y v.Pairs v.Slots v.bJ)<=tV v:=by
 obtain⟨h1,h2,h3,h4⟩:=(iw v).1 h;refine⟨(iw _).2 ⟨h1,hy,h3,h4⟩,?_⟩;rw[iD v,iD,uJ];show 1+v.Text.length+jH _ y+Xu v.Pairs+tSs v.Slots+QQ v.bJ<=_
 rw[uJ]at ht⊢;omega
theorem ahF {v:af}{y:List Pair}(h:kV v)(hy:∀x∈y,(jG x.Key.Kind=true/\kV x.Key)/\kV x.Val)(ht:jH tP y<=Xu v.Pairs):kV (af.mk v.Kind v.Bits v.Text v.List y v.Slots v.bJ)/\tV (af.mk v.Kind v.Bits v.Text v.List y v.Slots v.bJ)<=tV v:=by
 obtain⟨h1,h2,h3,h4⟩:=(iw v).1 h;refine⟨(iw _).2 ⟨h1,h2,hy,h4⟩,?_⟩;rw[iD v,iD];show 1+v.Text.length+XX v.List+Xu y+tSs v.Slots+QQ v.bJ<=_
 rw[wH y];omega
theorem agP {v:af}{y:List Slot}(h:kV v)(hy:∀x∈y,kV x.Val)(ht:jH tS y<=tSs v.Slots):kV (af.mk v.Kind v.Bits v.Text v.List v.Pairs y v.bJ)/\tV (af.mk v.Kind v.Bits v.Text v.List v.Pairs y v.bJ)<=tV v:=by
 obtain⟨h1,h2,h3,h4⟩:=(iw v).1 h;refine⟨(iw _).2 ⟨h1,h2,h3,hy⟩,?_⟩;rw[iD v,iD];show 1+v.Text.length+XX v.List+Xu v.Pairs+tSs y+QQ v.bJ<=_
 rw[wI y];omega
def aBd (l:List Note)(name:Str):Pg Bool:=.lt (acJ l name) fun(v1:af×Bool)=> .br v1.2 (.br (v1.1.Kind==1) (.ret (v1.1.Bits==1)) (.ret false)) (.ret false)
def aEK (l:List Note)(name:Str):=(aBd l name).val
def awc:aS Z:=E0 [aaV] [] (aj (bu lK) (a1 (bu cStr))) (R1 aH) [] func149 1 (u2 aBd)
def akx (MZ:ay->aJ->af->af)(qx:ay->aJ->af->Prop)(avS:ay->Str->af->af)(Cf:ay->Str->af->Prop)(s:ay)(f:aJ)(v:af):Pg af:=.br (f.dZ.Kind !=10) (.ret v.re) (.br (v.Kind==10) (.ob (Cf s f.dZ.Name v.re) (.ret (avS s f.dZ.Name v.re).re)) (.br (v.Kind==11) (.ob (v.List.length<=1048576) (aL v.List (.cnt qi 0 (↑v.List.length:Int) (fun i1 (y2:List af)=> .ix i1 y2.length (.ob (i1.toNat < y2.length) (.ob (qx s (aJ.mk f.Num f.Name f.Card f.Key f.dZ f.Union f.dw f.Default.re f.Notes) (y2.getD i1.toNat fQ).re) (.ix i1 y2.length (.ob (i1.toNat < y2.length) (rl (y2.set i1.toNat (MZ s (aJ.mk f.Num f.Name f.Card f.Key f.dZ f.Union f.dw f.Default.re f.Notes) (y2.getD i1.toNat fQ).re).re))))))) (fun i1 (y2:List af)=> .ret (af.mk v.Kind v.Bits v.Text y2 v.Pairs v.Slots v.bJ)) v.List))) (.br (v.Kind==12) (.ob (v.Pairs.length<=1048576) (aL v.Pairs (.cnt qi 0 (↑v.Pairs.length:Int) (fun i3 (y4:List Pair)=> .ix i3 y4.length (.ob (i3.toNat < y4.length) (.ob (qx s (aJ.mk f.Num f.Name f.Card f.Key f.dZ f.Union f.dw f.Default.re f.Notes) (y4.getD i3.toNat gJ).Val.re) (.ix i3 y4.length (.ob (i3.toNat < y4.length) (rl (y4.set i3.toNat (Pair.mk (y4.getD i3.toNat gJ).Key.re (MZ s (aJ.mk f.Num f.Name f.Card f.Key f.dZ f.Union f.dw f.Default.re f.Notes) (y4.getD i3.toNat gJ).Val.re).re)))))))) (fun i3 (y4:List Pair)=> .ret (af.mk v.Kind v.Bits v.Text v.List y4 v.Slots v.bJ)) v.Pairs))) (.ret v.re))))
def aAB (MZ:ay->aJ->af->af)(qx:ay->aJ->af->Prop)(avS:ay->Str->af->af)(Cf:ay->Str->af->Prop)(s:ay)(name:Str)(v:af):Pg af:=.lt (GN s name) fun(v5:bg×Bool)=> .br (!v5.2) (.ret v.re) (aL v.Slots (.each false qi v.Slots bK (fun i1 a4 (y2:List Slot)=> .ix i1 v.Slots.length (.lt (Q7 v5.1 a4.Num) fun(v6:aJ×Bool)=> .cut (fun(y3:Unit)=> .br v6.2 (.ob (qx s (aJ.mk v6.1.Num v6.1.Name v6.1.Card v6.1.Key v6.1.dZ v6.1.Union v6.1.dw v6.1.Default.re v6.1.Notes) a4.Val.re) (.ob (bQ (y2.length+1) 136) (rl (y2++ [Slot.mk a4.Num (MZ s (aJ.mk v6.1.Num v6.1.Name v6.1.Card v6.1.Key v6.1.dZ v6.1.Union v6.1.dw v6.1.Default.re v6.1.Notes) a4.Val.re).re])))) (.ob (bQ (y2.length+1) 136) (rl (y2++[Slot.mk a4.Num a4.Val.re])))) (.br v6.2 (.br (aEK v6.1.Notes [115,101,99,114,101,116]) (.br (v6.1.Card !=1) (.ret (.inr (.inl y2))) (rl ())) (rl ())) (rl ())))) (fun i1 (y2:List Slot)=> .ret (af.mk v.Kind v.Bits v.Text v.List v.Pairs y2 v.bJ)) []))
def qx (fu:Nat)(s:ay)(f:aJ)(v:af):Prop:=gV v/\2*tV v+1<=fu
def Cf (fu:Nat)(s:ay)(name:Str)(v:af):Prop:=gV v/\2*tV v<=fu
def hdV:Nat->(ay->aJ->af->af)×(ay->Str->af->af)
 | 0=>(fun _ _ _=>default,fun _ _ _=>default)
 | fu+1=>(fun s f v=>(akx ((hdV fu).1) (qx fu) ((hdV fu).2) (Cf fu) s f v).val,fun s name v=>(aAB ((hdV fu).1) (qx fu) ((hdV fu).2) (Cf fu) s name v).val)
abbrev EH (fu:Nat):=akx ((hdV fu).1) (qx fu) ((hdV fu).2) (Cf fu)
abbrev UD (fu:Nat):=aAB ((hdV fu).1) (qx fu) ((hdV fu).2) (Cf fu)
def agG (s:ay)(name:Str)(v:af):af:=(hdV (2*tV v)).2 s name v
def aip (fu:Nat):Prop:=(∀(s:ay) (f:aJ) (v:af),qx fu s f v->(fun r=>kV r/\tV r<=tV v) ((hdV fu).1 s f v))/\(∀(s:ay) (name:Str) (v:af),Cf fu s name v->(fun r=>kV r/\tV r<=tV v) ((hdV fu).2 s name v))
theorem PV (fu:Nat)(ih:aip fu)(s:ay)(f:aJ)(v:af)(h:qx (fu+1) s f v):jF (EH fu s f v) (fun r=>kV r/\tV r<=tV v):=
 by
 obtain⟨h1,h2⟩:=h;have hl:=o6 h1;have ht:=h1.2;unfold EH akx;simp only[af.dK];refine dC (fun _=>ah ⟨h1.1,l9 _⟩) (fun _=>dI (fun _=>ak ⟨h1,by omega⟩ (ah (ih.2 _ _ _ ⟨h1,by omega⟩))) (fun _=>dI (fun _=>ak hl.2.2.1 (dm (vk (fun _ (y:List af)=>y.length=v.List.length/\(∀x∈y,kV x/\tV x < tV v)/\jH (fun x=>1+tV x) y<=XX v.List) ⟨rfl,fun x hx=>⟨(BG h1 hx).1.1,(BG h1 hx).2⟩,by rw[uJ];exact l9 _⟩ au au (fun i y hi1 hi2 hI=> ?_) (fun i y _ _ hI=>ah (amL h1.1 (fun x hx=>(hI.2.1 x hx).1) hI.2.2)))))
  (fun _=>dI (fun _=>ak (akb h1) (dm (vk (fun _ (y:List Pair)=>y.length=v.Pairs.length/\(∀x∈y,((jG x.Key.Kind=true/\kV x.Key)/\kV x.Val)/\tV x.Val < tV v)/\jH tP y<=Xu v.Pairs) ⟨rfl,fun x hx=>⟨⟨⟨(y_ h1 hx).2.2.1,ahc h1 hx⟩,(y_ h1 hx).1.1⟩,(y_ h1 hx).2.1⟩,by rw[wH];exact l9 _⟩ au (by have:=akb h1;omega) (fun i y hi1 hi2 hI=> ?_) (fun i y _ _ hI=>ah (ahF h1.1 (fun x hx=>(hI.2.1 x hx).1) hI.2.2))))) (fun _=>ah ⟨h1.1,l9 _⟩))))
 ·obtain⟨i1,i2,i3⟩:=hI;have hk:=i2 _ (getD_mem (d:=fQ) (l:=y) (i:=i.toNat) au);have hq:gV (y.getD i.toNat fQ)/\2*tV (y.getD i.toNat fQ)+1<=fu:=⟨⟨hk.1,by omega⟩,by omega⟩;obtain⟨r1,r2⟩:=ih.1 s f (y.getD i.toNat fQ) hq;exact aZ au au (ak au (ak hq (aZ au au (ak au (ah ⟨by rw[Qbm];exact i1,al8 i2 ⟨r1,Qes r2 hk.2⟩,zO (abL (f:=fun x=>1+tV x) (d:=fQ) au (Qeo r2 1)) i3⟩)))))
 ·obtain⟨i1,i2,i3⟩:=hI;have hk:=i2 _ (getD_mem (d:=gJ) (l:=y) (i:=i.toNat) au);have hq:gV (y.getD i.toNat gJ).Val/\2*tV (y.getD i.toNat gJ).Val+1<=fu:=⟨⟨hk.1.2,by omega⟩,by omega⟩;obtain⟨r1,r2⟩:=ih.1 s f (y.getD i.toNat gJ).Val hq;exact aZ au au (ak au (ak hq (aZ au au (ak au (ah ⟨by rw[Qbm];exact i1,al8 i2 ⟨⟨hk.1.1,r1⟩,Qes r2 hk.2⟩,zO (abL (f:=tP) (d:=gJ) au (by rw[O3,O3];show 1+_+_<=1+_+_;exact Qeo r2 _)) i3⟩)))))
theorem Zh (fu:Nat)(ih:aip fu)(s:ay)(name:Str)(v:af)(h:Cf (fu+1) s name v):jF (UD fu s name v) (fun r=>kV r/\tV r<=tV v):=
 by
 obtain⟨h1,h2⟩:=h;have hl:=o6 h1;have ht:=h1.2;unfold UD aAB;simp only[af.dK];refine aC fun v5 hv5=>dH (fun _=>ah ⟨h1.1,l9 _⟩) (fun _=>dm (cZ (fun k (y:List Slot)=>y.length<=k/\(∀x∈y,kV x.Val)/\jH tS y<=jH tS (v.Slots.take k)) ⟨l9 _,fun x hx=>absurd hx (Qb),vg _⟩ au (fun k y hk hI=> ?_) (fun y hI=>ah (agP h1.1 hI.2.1 (by have:=hI.2.2;rw[Eo]at this;rw[wI];exact this)))));obtain⟨g1,g2⟩:=KY h1 (getD_mem (d:=bK) hk);have e:=ql (f:=tS) (d:=bK) hk;have e2:=xG (v.Slots.getD k bK);have add:∀r,kV r->tV r<=tV (v.Slots.getD k bK).Val->(y++[Slot.mk (v.Slots.getD k bK).Num r]).length<=k+1/\(∀x∈y++[Slot.mk (v.Slots.getD k bK).Num r],kV x.Val)/\jH tS (y++[Slot.mk (v.Slots.getD k bK).Num r])<=jH tS (v.Slots.take (k+1)):=fun r r1 r2=>by
  refine⟨by have:=hI.1;simp only[kT,yF,BM];omega,pG hI.2.1 (kC r1),?_⟩;have e3:jH tS (y++[Slot.mk (v.Slots.getD k bK).Num r])=jH tS y+(1+tV r):=by
   rw[n_];show jH tS y+(tS _+0)=_
   rw[xG];rfl
  have:=hI.2.2;omega
 have skip:y.length<=k+1/\(∀x∈y,kV x.Val)/\jH tS y<=jH tS (v.Slots.take (k+1)):=⟨by have:=hI.1;omega,hI.2.1,by have:=hI.2.2;omega⟩;refine aZ au au (aC fun v6 hv6=>df (fun _=>True) (dH (fun _=>dH (fun _=>dH (fun _=>ah skip) (fun _=>ah trivial)) (fun _=>ah trivial)) (fun _=>ah trivial)) (fun y3 _=>dH (fun _=>ak ⟨g1,by omega⟩ (ak (b_ qbb qbb) (ah ?_))) (fun _=>ak (b_ qbb qbb) (ah (add _ g1.1 (l9 _))))));obtain⟨r1,r2⟩:=ih.1 s (aJ.mk v6.1.Num v6.1.Name v6.1.Card v6.1.Key v6.1.dZ v6.1.Union v6.1.dw v6.1.Default v6.1.Notes) (v.Slots.getD k bK).Val ⟨g1,by omega⟩;exact add _ r1 r2
theorem MH:∀fu,aip fu
 | 0=>⟨fun s f v h=>False.elim (by have k:=h.2;omega),
  fun s name v h=>False.elim (by have k:=h.2;have:=mg v;omega)⟩
 | fu+1=>⟨fun s f v h=>(PV fu (MH fu) s f v h).2,
  fun s name v h=>(Zh fu (MH fu) s name v h).2⟩
theorem ahM (fu:Nat)(s:ay)(f:aJ)(v:af)(h:qx (fu+1) s f v):Is (EH fu s f v):=(PV fu (MH fu) s f v h).1
theorem aut (fu:Nat)(s:ay)(name:Str)(v:af)(h:Cf (fu+1) s name v):Is (UD fu s name v):=(Zh fu (MH fu) s name v h).1
theorem afU (s:ay)(name:Str)(v:af)(h:gV v):(fun r=>kV r/\tV r<=tV v) (agG s name v):=(MH (2*tV v)).2 s name v (⟨h,l9 _⟩)
theorem hd_ok:∀fu,fV Z.P Z.S 150 (oP (args (aj (aF bI) (aj (aF d_) (a1 (aF aI))))) (shr [.slot 0 true (nn 7)] (l1 aI)) 1 [] (fun a=>some (qx fu (a.1) (a.2.1) (a.2.2))) (fun a=>(hdV fu).1 (a.1) (a.2.1) (a.2.2)))/\fV Z.P Z.S 90 (oP (args (aj (aF bI) (aj (bu cStr) (a1 (aF aI))))) (shr [.slot 0 true (nn 7)] (l1 aI)) 1 [] (fun a=>some (Cf fu (a.1) (a.2.1) (a.2.2))) (fun a=>(hdV fu).2 (a.1) (a.2.1) (a.2.2)))
 | 0=>⟨iH func150 dU (fun a h=>by have k:=h.2;omega),
  iH func90 dU (fun a h=>by have k:=h.2;have:=mg (a.2.2);omega)⟩
 | fu+1=>by
  obtain⟨h0,h1⟩:=hd_ok fu;exact⟨G9 [aAp,aA1,⟨150,_,h0⟩,⟨90,_,h1⟩] [jS 9 (bU (fun sl=>[s0 35, .row (pid (sl 33)) 84]) (az cI (l1 jd))),jS 16 (bU (fun sl=>[s0 58, .row (pid (sl 56)) 333]) (az cI (l1 dW)))] func150 ntmps150 (fun a=>EH fu a.1 a.2.1 a.2.2) (fun a h=>⟨ahM fu a.1 a.2.1 a.2.2 h,rfl⟩) (kH (n:=75) rfl),
   G9 [Jw,Lc,awc,⟨150,_,h0⟩,⟨90,_,h1⟩] [jS 6 (bU (fun sl=>[s0 26, .slot 9 false [some 261]]) (az cI (l1 bD))),jS 100010 (bU (fun sl=>[]) l0)] func90 ntmps90 (fun a=>UD fu a.1 a.2.1 a.2.2) (fun a h=>⟨aut fu a.1 a.2.1 a.2.2 h,rfl⟩) (kH (n:=63) rfl)⟩
def ax0:aS Z:=⟨90,oP (args (aj (aF bI) (aj (bu cStr) (a1 (aF aI))))) (shr [.slot 0 true (nn 7)] (l1 aI)) 1 [] (fun a=>some (gV (a.2.2))) (fun a=>agG (a.1) (a.2.1) (a.2.2)),jM (fun n=>((hd_ok n).2)) _ _ (fun a h=>⟨2*tV (a.2.2),⟨h,l9 _⟩,rfl⟩)⟩
def aa9 (l:List iZ)(s:ay)(name:Str)(v:af):Pg af:=aL l (.each false wB l uk (fun i1 a3 (y2:Unit)=> .ix i1 l.length (.br (a3.Kind==6) (.ob (gV v.re) (.ret (.inr (agG s name v.re).re))) (rl ()))) (fun i1 (y2:Unit)=> .ret v.re) ())
def aaO (l:List iZ)(s:ay)(name:Str)(v:af):=(aa9 l s name v).val
theorem SI (l:List iZ)(s:ay)(name:Str)(v:af)(h:gV v/\l.length<=1048576):jF (aa9 l s name v) (fun r=>kV r/\tV r<=tV v):=
 by
 unfold aa9;simp only[af.dK];exact dm (cZ (fun _ _=>True) trivial au (fun k y hk _=>aZ au au (dI (fun _=>ak h.1 (ah (afU s name v h.1))) (fun _=>ah trivial))) (fun y _=>ah ⟨h.1.1,l9 _⟩))
def au5:aS Z:=E1 [ax0] [jS 2 (bU (fun sl=>[s0 13]) (l1 cI))] (aj (bu qJ) (aj (aF bI) (aj (bu cStr) (a1 (aF aI))))) (shr [.slot 0 true (nn 7)] (l1 aI)) [] func53 1 (u4 aa9) (fun a=>gV a.2.2.2/\a.1.length<=1048576) fun a h=>(SI a.1 a.2.1 a.2.2.1 a.2.2.2 h).1
theorem afH {x:di}(h:Rh x=true):(x.Kind=5->1<=x.Num)/\(x.Kind=4->x.Num<=64)/\(x.Kind=1\/x.Kind=2\/x.Kind=3\/x.Kind=4\/x.Kind=5):=by
 have k:VP (ranged x) (fun r=>r=true->(x.Kind=5->1<=x.Num)/\(x.Kind=4->x.Num<=64)/\(x.Kind=1\/x.Kind=2\/x.Kind=3\/x.Kind=4\/x.Kind=5)):=by
  unfold ranged;have no:∀{p:Prop},(false=true->p):=fun e=>by cases e
  refine gK (fun _=>bi no) fun _=>gK (fun _=>bi no) fun _=>lq (fun y=>y=true->x.Kind=1\/x.Kind=2) (gK (fun e=>bi fun _=> .inl (eq_of_beq e)) fun _=>bi fun e=> .inr (eq_of_beq e)) fun y hy=>gK (fun e=>bi fun _=> ?_) fun _=>gK (fun e=> ?_) fun _=>gK (fun e=> ?_) fun _=>gK (fun e=> ?_) fun _=>bi no
  ·rcases hy e with k | k<;>refine⟨fun q=> ?_,fun q=> ?_,by omega⟩<;>omega
  ·have e:=eq_of_beq e;exact gK (fun _=>bi fun _=>⟨fun q=>by omega,fun q=>by omega,by omega⟩) fun _=>bi no
  ·have e:=eq_of_beq e;exact gK (fun _=>bi fun q2=>⟨fun q=>by omega,fun _=>DK q2,by omega⟩) fun _=>bi no
  ·have e:=eq_of_beq e;exact gK (fun q1=>bi fun _=>⟨fun _=>DK q1,fun q=>by omega,by omega⟩) fun _=>bi no
 exact k h
theorem Ot {s:ay}{x:di}(h:ae7 s x=true):(x.Kind=5->1<=x.Num)/\(x.Kind=4->x.Num<=64/\(nN (mD s x.Method).1.Shape).2=true)/\(x.Kind=1\/x.Kind=2\/x.Kind=3\/x.Kind=4\/x.Kind=5):=by
 have k:VP (fits s x) (fun r=>r=true->(x.Kind=5->1<=x.Num)/\(x.Kind=4->x.Num<=64/\(nN (mD s x.Method).1.Shape).2=true)/\(x.Kind=1\/x.Kind=2\/x.Kind=3\/x.Kind=4\/x.Kind=5)):=by
  unfold fits;have no:∀{p:Prop},(false=true->p):=fun e=>by cases e
  refine jh (zt fun v1 hv1=>gK (fun _=>bi no) fun _=>gK (fun _=>bi no) fun hr=>zt fun v2 hv2=> ?_);have hr:Rh (di.mk x.Method x.Kind x.Num 0)=true:=by simpa using hr
  obtain⟨r1,r2,r3⟩:=afH hr;have r1:x.Kind=5->1<=x.Num:=r1;have r2:x.Kind=4->x.Num<=64:=r2;have r3:x.Kind=1\/x.Kind=2\/x.Kind=3\/x.Kind=4\/x.Kind=5:=r3;have fin:∀{b:Bool},(x.Kind=4->(nN (mD s x.Method).1.Shape).2=true)->(b=true->(x.Kind=5->1<=x.Num)/\(x.Kind=4->x.Num<=64/\(nN (mD s x.Method).1.Shape).2=true)/\(x.Kind=1\/x.Kind=2\/x.Kind=3\/x.Kind=4\/x.Kind=5)):=fun k _=>⟨r1,fun q=>⟨r2 q,k q⟩,r3⟩
  refine gK (fun e=>bi (fin fun q=> ?_)) fun _=>gK (fun e=>gK (fun _=>bi (fin fun q=> ?_)) fun _=>bi no) fun _=>gK (fun _=>gK (fun e=>bi (fin fun _=> ?_)) fun _=>bi no) fun e=>bi (fin fun q=> ?_)
  ·have e:=eq_of_beq e;omega
  ·have e:=eq_of_beq e;omega
  ·rw[hv2,hv1]at e;exact e
  ·rw[q]at e;cases e
 exact k h
def JC (l:List Str):Prop:=jH (fun d=>2+8*d.length) l<=1048576
def wOk (w:dG):Prop:=(∀v∈w.DR,kV v)/\jH (fun v=>1+tV v) w.DR<=1048576
def X3 (w:dG)(r:List af):Prop:=(∀v∈r,gV v)/\r.length<=67108864/\(w.one=true->w.h.Kind≠4->r.length=1)
theorem at6 {w:dG}(h:wOk w):∀v∈w.DR,gV v:=fun v hv=>⟨h.1 v hv,by
 have k:1+tV v<=jH (fun v=>1+tV v) w.DR:=Gt (f:=fun v=>1+tV v) hv;have:=h.2;omega⟩
theorem alX {w:dG}(h:wOk w):w.DR.length<=1048576:=zO (zf fun x=>by omega) h.2
theorem aw6 (k b:Int)(hb:lS b):gV (af.mk k b [] [] [] [] []):=⟨(kD k b [] hb).1,by rw[(kD k b [] hb).2];decide⟩
theorem ayl {l:List Str}(h:JC l):l.length<=1048576:=zO (zf fun x=>by omega) h
theorem auL {l:List Str}(h:JC l)(k:Nat):jH (fun d:Str=>2+8*d.length) (l.take k)<=1048576:=zO (vF (Qc3 k l)) h
def abW (s:ay)(x:di)(r:List Str×Status):Prop:=(∀d∈r.1,d.length<=65536)/\(r.2.Code≠0->r.1=[])/\(r.2.Code=0->(nN (mD s x.Method).1.Shape).2=false->r.1.length=1)/\r.1.length<=67108864
theorem KG {s:ay}{x:di}{c:Int}(h:c≠0):abW s x ([],Status.mk c []):=⟨fun d hd=>(by cases hd),fun _=>rfl,fun e=>absurd e h,vg _⟩
def alE (w:dG):Pg (List af):=.br (!w.one) (.ret w.DR) (aL w.DR (.br (decide (0 < (↑w.DR.length:Int))) (.lt (dB .i64 ((↑w.DR.length:Int) - 1)) fun(v1:Int)=> .ob (0<=v1/\v1<=(↑w.DR.length:Int)/\(↑w.DR.length:Int)<=(↑w.DR.length:Int)) (.ret (List.drop v1.toNat (List.take w.DR.length w.DR)))) (.ret [af.mk 10 0 [] [] [] [] []])))
def aCP (w:dG):=(alE w).val
theorem ZE (w:dG)(h:wOk w):jF (alE w) (fun r=>X3 w r):=
 by
 have hl:=alX h;unfold alE;refine dH (fun hb=>ah ⟨at6 h,by omega,fun e=>by rw[e]at hb;cases hb⟩) (fun hb=>dm (bT (fun hp=>pJ fun v1 hv1 hw=>ak ⟨by omega,by omega,Qb2 _⟩ (ah ⟨fun v hv=>at6 h v ?_,?_,fun _ _=> ?_⟩)) (fun _=>ah ⟨kC (aw6 10 0 ⟨by decide,by decide⟩),by decide,fun _ _=>rfl⟩)))
 ·rw[Eo]at hv;exact Qeh hv
 ·rw[Nk,Eo];omega
 ·rw[Nk,Eo];omega
def axe:aS Z:=E1 [] [] (a1 (aF eu)) (R1 jd) [] func80 1 alE (fun a=>wOk a) fun a h=>(ZE a h).1
def abe (w:dG):Pg (List af):=aL w.DR (.lt (ads w.s w.m.Out w.h.Num) fun(v1:aJ×Bool)=> .ret [af.mk 10 0 [] [] [] [Slot.mk v1.1.Num (af.mk v1.1.dZ.Kind (dB .u64 (↑w.DR.length:Int)) [] [] [] [] [])] []])
def ay6 (w:dG):=(abe w).val
theorem U8 (w:dG)(h:wOk w):jF (abe w) (fun r=>X3 w r):=
 by
 unfold abe;refine dm (aC fun v1 hv1=>ah ⟨kC ⟨?_,?_⟩,by show 1<=67108864;decide,fun _ _=>rfl⟩)
 ·have k:=(kD v1.1.dZ.Kind (dB .u64 (w.DR.length:Int)) [] (PZ _)).1;exact(iw _).2 ⟨⟨alq,fun r hr=>(by cases hr)⟩,fun x hx=>qcw,fun x hx=>qcw,kC k⟩
 ·have k:=(kD v1.1.dZ.Kind (dB .u64 (w.DR.length:Int)) [] (PZ _)).2;rw[iD];show 1+0+0+0+(tS _+0)+0<=_
  rw[xG];show 1+0+0+0+(1+tV (af.mk v1.1.dZ.Kind (dB .u64 (w.DR.length:Int)) [] [] [] [] [])+0)+0<=_
  rw[k];decide
def aqU:aS Z:=E1 [ZH] [] (a1 (aF eu)) (R1 jd) [] func82 1 abe (fun a=>wOk a) fun a h=>(U8 a h).1
def RN (w:dG):Pg (List af):=aL w.DR (.each false qi w.DR fQ (fun i1 a5 (y2:List af)=> .ix i1 w.DR.length (.cnt qi 0 w.h.Num (fun i3 (y4:List af)=> .ob (bQ (y4.length+1) 128) (rl (y4++[a5.re]))) (fun i3 (y4:List af)=> rl y4) y2)) (fun i1 (y2:List af)=> .ret y2) [])
def avg (w:dG):=(RN w).val
theorem PL (w:dG)(h:wOk w/\w.h.Num<=64/\w.h.Kind=4):jF (RN w) (fun r=>X3 w r):=
 by
 obtain⟨h,hn,hk⟩:=h;have hl:=alX h;unfold RN;simp only[af.dK];refine dm (cZ (fun k (y:List af)=>(∀v∈y,gV v)/\y.length<=64*k) ⟨fun v hv=>(by cases hv),l9 _⟩ au (fun k y hk1 hI=> ?_) (fun y hI=>ah ⟨hI.1,by have:=hI.2;omega,fun _ e=>absurd hk e⟩));have hg:=at6 h _ (getD_mem (d:=fQ) hk1);exact aZ au au (vk (fun i (z:List af)=>(∀v∈z,gV v)/\(z.length:Int)<=64*k+i/\i<=64) ⟨hI.1,by have:=hI.2;omega,by decide⟩ nG au (fun i z hi1 hi2 hJ=>ak (b_ au au) (ah ⟨pG hJ.1 (kC hg),by simp only[kT,yF,BM];omega,by omega⟩)) (fun i z _ _ hJ=>ah ⟨hJ.1,by omega⟩))
def amK:aS Z:=E1 [] [jS 3 (bU (fun sl=>[s0 9, .slot 3 false [some 84]]) (az cI (l1 jd))),jS 6 (bU (fun sl=>[s0 16, .slot 3 false [some 84]]) (az cI (l1 jd)))] (a1 (aF eu)) (R1 jd) [] func83 1 RN (fun a=>wOk a/\a.h.Num<=64/\a.h.Kind=4) fun a h=>(PL a h).1
def Sj (w:dG):Pg (List af):=.ob (okS w.s/\(∀(v:af),v∈w.DR->kV v)/\jH (fun(v:af)=>1+tV v) w.DR<=1048576) (.ret [(aIc w.s w.m.Out w.DR).re])
def arB (w:dG):=(Sj w).val
theorem O4 (w:dG)(h:wOk w/\okS w.s):jF (Sj w) (fun r=>X3 w r):=
 by
 have q:okS w.s/\(∀v∈w.DR,kV v)/\jH (fun v=>1+tV v) w.DR<=1048576:=⟨h.2,h.1.1,h.1.2⟩;unfold Sj;simp only[af.dK];exact ak q (ah ⟨kC ⟨(VV w.s w.m.Out w.DR q).2.1,(VV w.s w.m.Out w.DR q).2.2⟩,by show 1<=67108864;decide,fun _ _=>rfl⟩)
def anR:aS Z:=E1 [aEE] [] (a1 (aF eu)) (R1 jd) [] func81 1 Sj (fun a=>wOk a/\okS a.s) fun a h=>(O4 a h).1
def aCs:aS Z:=JW Z [] 43 [true] func43 dU
def aEH:aS Z:=JW Z [] 43 [false,true] func43 dU
def aDp:aS Z:=JW Z [] 43 [false,false,true] func43 dU
def aDh:aS Z:=JW Z [] 43 [false,false,false] func43 dU
def amT (c:di->Prop)(q:dG->Prop)(W:dG->List af)(s:ay)(x:di)(l:List Str):Pg (List Str×Status):=.ob (okS s) (.lt (tN s) fun(v8:dD×Int)=> .br (v8.2 !=0) (.ret ([],Status.mk 11 [])) (.ob (List.length x.Method<=1048576) (.br (!ae7 s x) (.ret ([],Status.mk 11 [])) (.br (x.Kind==5) (.ret ([],Status.mk x.Num [])) (.ob (List.length x.Method<=1048576) (.lt (mD s x.Method) fun(v9:eG×Int)=> .cut (fun(y4:dG)=> .ob (c y4.h) (.ob (q y4) (.lt (W y4) fun(v10:List af)=> aL v10 (.each false qi v10 fQ (fun i5 a7 (y6:List Str)=> .ix i5 v10.length (.ob (H7 v8.1/\gm v8.1/\gV a7.re) (.lt (aeI v8.1 v9.1.Out a7.re) fun(v11:Str×Int)=> .br (v11.2 !=0) (.ret (.inr ([],Status.mk 11 []))) (.ob (bQ (y6.length+1) 16) (rl (y6++[v11.1])))))) (fun i5 (y6:List Str)=> .ret (y6,Status.mk 0 [])) [])))) (aL l (.each false qi l [] (fun i1 a3 (y2:dG)=> .ix i1 l.length (.ob (gm v8.1/\okL vC) (.lt (DW v8.1 v9.1.Out a3 vC) fun(v12:af×Int)=> .br (v12.2 !=0) (.ret (.inr (.inr ([],Status.mk 11 [])))) (.ob (bQ (y2.DR.length+1) 128) (rl (dG.mk y2.s y2.h y2.m (y2.DR++[v12.1.re]) y2.one)))))) (fun i1 (y2:dG)=> rl y2) (dG.mk s x v9.1 [] !(nN v9.1.Shape).2)))))))))
theorem MF {c:di->Prop}{q:dG->Prop}{W:dG->List af}{s:ay}{x:di}{l:List Str}(h:okS s/\okN s/\x.Method.length<=1048576/\JC l)(hc:c x)(hQ:ae7 s x=true->¬x.Kind=5->∀y:dG,y.s=s->y.h=x->wOk y->q y)(hW:∀y,q y->X3 y (W y)):jF (amT c q W s x l) (fun r=>abW s x r):=by
 obtain⟨h1,hn,hm,hq⟩:=h;have hlen:=ayl hq;unfold amT;simp only[af.dK];refine ak h1 (aC fun v8 Nl=>dC (fun _=>ah (KG nG)) (fun h0=>ak hm (dH (fun _=>ah (KG nG)) (fun hf=> ?_))));have hf:ae7 s x=true:=by simpa using hf
 obtain⟨f1,f2,f3⟩:=Ot hf;rw[Nl]at h0⊢;have hp1:=auD h1 hn h0;have hp2:=aaC h1 h0;refine dI (fun e=>ah (KG (by have:=f1 e;omega))) (fun e5=>ak hm (aC fun v9 hv9=> ?_));refine df (fun y=>y.s=s/\y.h=x/\y.one= !(nN v9.1.Shape).2/\wOk y) (dm (cZ (fun k y=>(y.s=s/\y.h=x/\y.one= !(nN v9.1.Shape).2)/\(∀v∈y.DR,kV v)/\jH (fun v=>1+tV v) y.DR<=jH (fun d:Str=>2+8*d.length) (l.take k)/\y.DR.length=k) ⟨⟨rfl,rfl,rfl⟩,fun v hv=>(by cases hv),vg _,rfl⟩ au (fun k y hk1 hI=> ?_) (fun y hI=>ah ⟨hI.1.1,hI.1.2.1,hI.1.2.2,hI.2.1,?_⟩))) (fun y4 hy4=> ?_)
 ·have hd:(DW (tN s).1 v9.1.Out (l.getD k []) vC).2=0->kV (DW (tN s).1 v9.1.Out (l.getD k []) vC).1/\tV (DW (tN s).1 v9.1.Out (l.getD k []) vC).1<=1+8*(l.getD k []).length:=(ER (tN s).1 v9.1.Out (l.getD k []) vC ⟨hp2,KR⟩).2;obtain⟨⟨i1,i2,i3⟩,j1,j2,j3⟩:=hI;have e:jH (fun d:Str=>2+8*d.length) (l.take (k+1))=jH (fun d:Str=>2+8*d.length) (l.take k)+(2+8*(l.getD k []).length):=ql (f:=fun d:Str=>2+8*d.length) (d:=[]) hk1;refine aZ au au (ak ⟨hp2,KR⟩ (aC fun v12 ai9=>dC (fun _=>ah (show abW s x ([],Status.mk 11 [])from KG nG)) (fun h2=> ?_)));rw[<-ai9]at hd;obtain⟨d1,d2⟩:=hd h2;refine ak (b_ au au) (ah ⟨⟨i1,i2,i3⟩,pG j1 (kC d1),?_,?_⟩)
  ·show jH (fun v=>1+tV v) (y.DR++[_])<=_
   rw[n_,e];show _+(1+tV _+0)<=_
   omega
  ·show(y.DR++[_]).length=_
   rw[kT,j3];rfl
 ·have:=hI.2.2.1;have h2:=auL hq l.length;exact zO this h2
 ·obtain⟨g1,g2,g3,g4⟩:=hy4;have wq:q y4:=hQ hf e5 y4 g1 g2 g4;have hw:X3 y4 (W y4):=hW y4 wq;refine ak (by rw[g2];exact hc) (ak wq (aC fun v10 JB=> ?_));rw[<-JB]at hw;obtain⟨w1,w2,w3⟩:=hw;refine dm (cZ (fun k (y:List Str)=>(∀d∈y,d.length<=65536)/\y.length=k) ⟨fun d hd=>(by cases hd),rfl⟩ au (fun k y hk1 hI=> ?_) (fun y hI=>ah ⟨hI.1,fun e=>absurd rfl e,fun _ hs=> ?_,by have:=hI.2;show y.length<=_;omega⟩))
  ·have hg:=w1 _ (getD_mem (d:=fQ) hk1);have he:=(Ef (tN s).1 v9.1.Out (v10.getD k fQ) ⟨hp1,hp2,hg⟩).2;exact aZ au au (ak ⟨hp1,hp2,hg⟩ (aC fun v11 XU=>dC (fun _=>ah (show abW s x ([],Status.mk 11 [])from KG nG)) (fun _=>ak (b_ (by have:=hI.2;omega) (by have:=hI.2;omega)) (ah ⟨pG hI.1 (kC (by rw[XU];exact he)),by have:=hI.2;simp only[kT,yF,BM];omega⟩))))
  ·show y.length=1
   have:=hI.2;rw[this];refine w3 ?_ ?_
   ·rw[g3,hv9,hs];rfl
   ·rw[g2];intro e;have:=(f2 e).2;rw[hs]at this;cases this
def auo (s:ay)(x:di)(l:List Str):Pg (List Str×Status):=amT (fun h=>(h.Kind==1)=true/\True) wOk aCP s x l
def aqN (s:ay)(x:di)(l:List Str):=(auo s x l).val
theorem Yh (s:ay)(x:di)(l:List Str)(h:okS s/\okN s/\x.Method.length<=1048576/\JC l/\x.Kind=1):jF (auo s x l) (fun r=>abW s x r):=
 by
 obtain⟨h1,hn,hm,hq,hk⟩:=h;have h:=And.intro h1 (And.intro hn (And.intro hm hq));exact MF h ⟨beq_iff_eq.2 hk,trivial⟩ (fun _ _ y _ _ k=>k) fun y k=>(ZE y k).2
def az6:aS Z:=E1 [u_,TL,uP,GU,Ak,ED,aCs,AA,axe] [jS 11 (bU (fun sl=>[s0 68, .cells (pid (sl 15)) [none,none,none,none,none,none,none,none,none,none,none,none,some 84,none]]) (az cI (l1 eu))),jS 21 (bU (fun sl=>[s0 96, .slot 21 false [some 9]]) (az cI (l1 dh))),jS 100018 (bU (fun sl=>[.cells (pid (sl 15)) [none,none,none,none,none,none,none,none,none,none,none,none,some 84,none]]) (l1 eu)),jS 800009 (bU (fun sl=>[.cells (pid (sl 15)) [none,none,none,none,none,none,none,none,none,none,none,none,some 84,none]]) (l1 eu))] (aj (aF bI) (aj (aF jr) (a1 (bu dh)))) (shr [s0 0, .slot 1 true [none,none]] (az dh (l1 jC))) [] func19 2 (u3 auo) (fun a=>okS a.1/\okN a.1/\a.2.1.Method.length<=1048576/\JC a.2.2/\a.2.1.Kind=1) fun a h=>(Yh a.1 a.2.1 a.2.2 h).1
def apD (s:ay)(x:di)(l:List Str):Pg (List Str×Status):=amT (fun h=>(h.Kind==1)=false/\(h.Kind==2)=true/\True) (fun y=>wOk y/\okS y.s) arB s x l
def asZ (s:ay)(x:di)(l:List Str):=(apD s x l).val
theorem XY (s:ay)(x:di)(l:List Str)(h:okS s/\okN s/\x.Method.length<=1048576/\JC l/\x.Kind=2):jF (apD s x l) (fun r=>abW s x r):=
 by
 obtain⟨h1,hn,hm,hq,hk⟩:=h;have h:=And.intro h1 (And.intro hn (And.intro hm hq));exact MF h ⟨by rw[hk];rfl,by rw[hk];rfl,trivial⟩ (fun _ _ y e _ k=>⟨k,by rw[e];exact h.1⟩) fun y k=>(O4 y k).2
def az7:aS Z:=E1 [u_,TL,uP,GU,Ak,ED,aEH,AA,anR] [jS 11 (bU (fun sl=>[s0 68, .cells (pid (sl 15)) [none,none,none,none,none,none,none,none,none,none,none,none,some 84,none]]) (az cI (l1 eu))),jS 21 (bU (fun sl=>[s0 96, .slot 21 false [some 9]]) (az cI (l1 dh))),jS 100018 (bU (fun sl=>[.cells (pid (sl 15)) [none,none,none,none,none,none,none,none,none,none,none,none,some 84,none]]) (l1 eu)),jS 800009 (bU (fun sl=>[.cells (pid (sl 15)) [none,none,none,none,none,none,none,none,none,none,none,none,some 84,none]]) (l1 eu))] (aj (aF bI) (aj (aF jr) (a1 (bu dh)))) (shr [s0 0, .slot 1 true [none,none]] (az dh (l1 jC))) [] func19 2 (u3 apD) (fun a=>okS a.1/\okN a.1/\a.2.1.Method.length<=1048576/\JC a.2.2/\a.2.1.Kind=2) fun a h=>(XY a.1 a.2.1 a.2.2 h).1
def apq (s:ay)(x:di)(l:List Str):Pg (List Str×Status):=amT (fun h=>(h.Kind==1)=false/\(h.Kind==2)=false/\(h.Kind==3)=true/\True) wOk ay6 s x l
def ar5 (s:ay)(x:di)(l:List Str):=(apq s x l).val
theorem YE (s:ay)(x:di)(l:List Str)(h:okS s/\okN s/\x.Method.length<=1048576/\JC l/\x.Kind=3):jF (apq s x l) (fun r=>abW s x r):=
 by
 obtain⟨h1,hn,hm,hq,hk⟩:=h;have h:=And.intro h1 (And.intro hn (And.intro hm hq));exact MF h ⟨by rw[hk];rfl,by rw[hk];rfl,by rw[hk];rfl,trivial⟩ (fun _ _ y _ _ k=>k) fun y k=>(U8 y k).2
def az5:aS Z:=E1 [u_,TL,uP,GU,Ak,ED,aDp,AA,aqU] [jS 11 (bU (fun sl=>[s0 68, .cells (pid (sl 15)) [none,none,none,none,none,none,none,none,none,none,none,none,some 84,none]]) (az cI (l1 eu))),jS 21 (bU (fun sl=>[s0 96, .slot 21 false [some 9]]) (az cI (l1 dh))),jS 100018 (bU (fun sl=>[.cells (pid (sl 15)) [none,none,none,none,none,none,none,none,none,none,none,none,some 84,none]]) (l1 eu)),jS 800009 (bU (fun sl=>[.cells (pid (sl 15)) [none,none,none,none,none,none,none,none,none,none,none,none,some 84,none]]) (l1 eu))] (aj (aF bI) (aj (aF jr) (a1 (bu dh)))) (shr [s0 0, .slot 1 true [none,none]] (az dh (l1 jC))) [] func19 2 (u3 apq) (fun a=>okS a.1/\okN a.1/\a.2.1.Method.length<=1048576/\JC a.2.2/\a.2.1.Kind=3) fun a h=>(YE a.1 a.2.1 a.2.2 h).1
def apC (s:ay)(x:di)(l:List Str):Pg (List Str×Status):=amT (fun h=>(h.Kind==1)=false/\(h.Kind==2)=false/\(h.Kind==3)=false/\True) (fun y=>wOk y/\y.h.Num<=64/\y.h.Kind=4) avg s x l
def arw (s:ay)(x:di)(l:List Str):=(apC s x l).val
theorem Yn (s:ay)(x:di)(l:List Str)(h:okS s/\okN s/\x.Method.length<=1048576/\JC l/\(x.Kind≠1/\x.Kind≠2/\x.Kind≠3)):jF (apC s x l) (fun r=>abW s x r):=
 by
 obtain⟨h1,hn,hm,hq,hk⟩:=h;have h:=And.intro h1 (And.intro hn (And.intro hm hq));exact MF h ⟨beq_eq_false_iff_ne.2 hk.1,beq_eq_false_iff_ne.2 hk.2.1,beq_eq_false_iff_ne.2 hk.2.2,trivial⟩ (fun hf e5 y _ e k=>by have k4:x.Kind=4:=(by have:=(Ot hf).2.2;omega);rw[e];exact⟨k,((Ot hf).2.1 k4).1,k4⟩) fun y k=>(PL y k).2
def az8:aS Z:=E1 [u_,TL,uP,GU,Ak,ED,aDh,AA,amK] [jS 11 (bU (fun sl=>[s0 68, .cells (pid (sl 15)) [none,none,none,none,none,none,none,none,none,none,none,none,some 84,none]]) (az cI (l1 eu))),jS 21 (bU (fun sl=>[s0 96, .slot 21 false [some 9]]) (az cI (l1 dh))),jS 100018 (bU (fun sl=>[.cells (pid (sl 15)) [none,none,none,none,none,none,none,none,none,none,none,none,some 84,none]]) (l1 eu)),jS 800009 (bU (fun sl=>[.cells (pid (sl 15)) [none,none,none,none,none,none,none,none,none,none,none,none,some 84,none]]) (l1 eu))] (aj (aF bI) (aj (aF jr) (a1 (bu dh)))) (shr [s0 0, .slot 1 true [none,none]] (az dh (l1 jC))) [] func19 2 (u3 apC) (fun a=>okS a.1/\okN a.1/\a.2.1.Method.length<=1048576/\JC a.2.2/\(a.2.1.Kind≠1/\a.2.1.Kind≠2/\a.2.1.Kind≠3)) fun a h=>(Yn a.1 a.2.1 a.2.2 h).1
def anP (s:ay)(x:di)(l:List Str):Prop:=okS s/\okN s/\x.Method.length<=1048576/\JC l
def Aw (s:ay)(x:di)(l:List Str):List Str×Status:=bif x.Kind==1 then aqN s x l else bif x.Kind==2 then asZ s x l else bif x.Kind==3 then ar5 s x l else arw s x l
def SS:aS Z:=⟨19,oP (args (aj (aF bI) (aj (aF jr) (a1 (bu dh))))) (shr [s0 0, .slot 1 true [none,none]] (az dh (l1 jC))) 2 [] (fun a=>some (anP a.1 a.2.1 a.2.2)) (fun a=>Aw a.1 a.2.1 a.2.2),by
  have hE:fV Z.P Z.S 19 (oP (args (aj (aF bI) (aj (aF jr) (a1 (bu dh))))) (shr [s0 0, .slot 1 true [none,none]] (az dh (l1 jC))) 2 [] (fun a=>some ((a.2.1.Kind==1)=true/\anP a.1 a.2.1 a.2.2)) (fun a=>aqN a.1 a.2.1 a.2.2)):=jM (fun _=>az6.ok) _ _ (fun a h=>⟨0,⟨h.2.1,h.2.2.1,h.2.2.2.1,h.2.2.2.2,eq_of_beq h.1⟩,rfl⟩);have hM:fV Z.P Z.S 19 (oP (args (aj (aF bI) (aj (aF jr) (a1 (bu dh))))) (shr [s0 0, .slot 1 true [none,none]] (az dh (l1 jC))) 2 [] (fun a=>some ((a.2.1.Kind==2)=true/\((a.2.1.Kind==1)=false/\anP a.1 a.2.1 a.2.2))) (fun a=>asZ a.1 a.2.1 a.2.2)):=jM (fun _=>az7.ok) _ _ (fun a h=>⟨0,⟨h.2.2.1,h.2.2.2.1,h.2.2.2.2.1,h.2.2.2.2.2,eq_of_beq h.1⟩,rfl⟩);have hC:fV Z.P Z.S 19 (oP (args (aj (aF bI) (aj (aF jr) (a1 (bu dh))))) (shr [s0 0, .slot 1 true [none,none]] (az dh (l1 jC))) 2 [] (fun a=>some ((a.2.1.Kind==3)=true/\((a.2.1.Kind==2)=false/\((a.2.1.Kind==1)=false/\anP a.1 a.2.1 a.2.2)))) (fun a=>ar5 a.1 a.2.1 a.2.2)):=jM (fun _=>az5.ok) _ _ (fun a h=>⟨0,⟨h.2.2.2.1,h.2.2.2.2.1,h.2.2.2.2.2.1,h.2.2.2.2.2.2,eq_of_beq h.1⟩,rfl⟩);have hR:fV Z.P Z.S 19 (oP (args (aj (aF bI) (aj (aF jr) (a1 (bu dh))))) (shr [s0 0, .slot 1 true [none,none]] (az dh (l1 jC))) 2 [] (fun a=>some ((a.2.1.Kind==3)=false/\((a.2.1.Kind==2)=false/\((a.2.1.Kind==1)=false/\anP a.1 a.2.1 a.2.2)))) (fun a=>arw a.1 a.2.1 a.2.2)):=jM (fun _=>az8.ok) _ _ (fun a h=>⟨0,⟨h.2.2.2.1,h.2.2.2.2.1,h.2.2.2.2.2.1,h.2.2.2.2.2.2,beq_eq_false_iff_ne.1 h.2.2.1,beq_eq_false_iff_ne.1 h.2.1,beq_eq_false_iff_ne.1 h.1⟩,rfl⟩);exact I_ hE (I_ hM (I_ hC hR))⟩
theorem Xz {s:ay}{x:di}{l:List Str}(h:anP s x l):abW s x (Aw s x l):=by
 obtain⟨h1,h2,h3,h4⟩:=h;unfold Aw;cases e1:x.Kind==1 with
 | true=>exact(Yh s x l ⟨h1,h2,h3,h4,eq_of_beq e1⟩).2
 | false=>
  cases e2:x.Kind==2 with
  | true=>exact(XY s x l ⟨h1,h2,h3,h4,eq_of_beq e2⟩).2
  | false=>
   cases e3:x.Kind==3 with
   | true=>exact(YE s x l ⟨h1,h2,h3,h4,eq_of_beq e3⟩).2
   | false=>exact(Yn s x l ⟨h1,h2,h3,h4,beq_eq_false_iff_ne.1 e1,beq_eq_false_iff_ne.1 e2,beq_eq_false_iff_ne.1 e3⟩).2
def Ud (s:Server):Prop:=okS s.ay/\okN s.ay/\(∀x∈s.Handlers,x.Method.length<=1048576)/\s.iV.length<=1048576
def Qr (t:fU):Prop:=t.Method.length<=1048576/\JC t.In
def amb (s:Server)(t:fU)(r:List Str×Status):Prop:=(r.2.Code≠0->r.1=[])/\(r.2.Code=0->(nN (mD s.ay (rX s t.Method).1.Method).1.Shape).2=false->r.1.length=1)
def nC (now:Int)(t:fU):Bool:=(decide (1<=t.fA) && decide (t.fA<=now)) || (t.mf || (t.Ready != -1 && decide (t.Ready<=now)))
def aHD (s:Server)(l:List fU):Server:=Server.mk s.Name s.ay s.Handlers s.iV s.Traces l s.Most s.mX
def outT (s:Server)(t t':fU):Prop:=(t'.kL=t.kL/\t'.Id=t.Id/\t'.Method=t.Method/\t'.In=t.In/\t'.mf=true)/\((t'.Status.Code≠0/\t'.pK=t.pK)\/(t'.Status=t.Status/\t'.pK=t.pK/\t.mf=true)\/(t.mf=false/\t.Ready≠ -1/\amb s t (t'.pK,t'.Status)))
inductive Qu {A B:Type} (R:A->B->Prop):List A->List B->Prop
 | nil:Qu R [] []
 | cons {a b l m}:R a b->Qu R l m->Qu R (a::l) (b::m)
theorem amX {A B:Type}{R:A->B->Prop}{l:List A}{m:List B}{a:A}{b:B}(h:Qu R l m)(h2:R a b):Qu R (l++[a]) (m++[b]):=by
 induction h with
 | nil=>exact .cons h2 .nil
 | cons h1 _ ih=>exact .cons h1 ih
theorem afS {A B:Type}{R:A->B->Prop}{l:List A}{m:List B}(h:Qu R l m):m.length=l.length:=by
 induction h with
 | nil=>rfl
 | cons _ _ ih=>simp[ih]
def auQ (s:Server)(now:Int)(r:Server×List fU):Prop:=r.1=aHD s (s.Tasks.filter fun t=> !nC now t)/\Qu (outT s) (s.Tasks.filter (nC now)) r.2
def CE (s:Server)(t:fU):Pg (List Str×Status):=.lt (rX s t.Method) fun(v4:di×Bool)=> .ob (anP s.ay v4.1 t.In) (.lt (Aw s.ay v4.1 t.In) fun(v5:List Str×Status)=> .br (v5.2.Code !=0) (.ret ([],v5.2)) (.ob (List.length t.Method<=1048576) (aL v5.1 (.each false qi v5.1 [] (fun i1 a3 (y2:List Str)=> .ix i1 v5.1.length (.ob (okS s.ay) (.lt (xW s.ay (mD s.ay t.Method).1.Out a3) fun(v6:af×Int)=> .br (v6.2 !=0) (.ret (.inr ([],Status.mk 11 []))) (.ob (gV v6.1.re/\s.iV.length<=1048576) (.lt (aaO s.iV s.ay (mD s.ay t.Method).1.Out v6.1.re) fun(v7:af)=> .ob (okS s.ay/\okN s.ay/\gV v7.re) (.lt (ahn s.ay (mD s.ay t.Method).1.Out v7.re) fun(v8:Str×Int)=> .br (v8.2 !=0) (.ret (.inr ([],Status.mk 11 []))) (.ob (bQ (y2.length+1) 16) (rl (y2++[v8.1]))))))))) (fun i1 (y2:List Str)=> .ret (y2,Status.mk 0 [])) []))))
def vN (s:Server)(t:fU):=(CE s t).val
theorem EF (s:Server)(t:fU)(h:Ud s/\Qr t):jF (CE s t) (fun r=>amb s t r):=
 by
 obtain⟨⟨h1,hn,hh,hi⟩,hm,hq⟩:=h;have ha:anP s.ay (rX s t.Method).1 t.In:=⟨h1,hn,(Oe hh).1,hq⟩;have hp:=Xz ha;have fail:amb s t ([],Status.mk 11 []):=⟨fun _=>rfl,fun e=>absurd (show(11:Int)=0 from e) nG⟩;unfold CE;simp only[af.dK];refine aC fun v4 hv4=> ?_;rw[hv4];refine ak ha (aC fun v5 hv5=> ?_);rw[<-hv5]at hp;obtain⟨p1,p2,p3,p4⟩:=hp;refine dC (fun hne=>ah ⟨fun _=>rfl,fun e=>absurd e hne⟩) (fun h0=>ak hm (dm (cZ (fun k (y:List Str)=>y.length=k) rfl au (fun k y hk hI=> ?_) (fun y hI=>ah ⟨fun e=>absurd rfl e,fun _ hs=> ?_⟩))))
 ·have hd:(xW s.ay (mD s.ay t.Method).1.Out (v5.1.getD k [])).2=0->kV (xW s.ay (mD s.ay t.Method).1.Out (v5.1.getD k [])).1/\tV (xW s.ay (mD s.ay t.Method).1.Out (v5.1.getD k [])).1<=1+8*(v5.1.getD k []).length:=(Ii s.ay (mD s.ay t.Method).1.Out (v5.1.getD k []) h1).2;have he:=p1 _ (getD_mem (d:=[]) hk);refine aZ au au (ak h1 (aC fun v6 hv6=>dC (fun _=>ah fail) (fun h6=> ?_)));rw[<-hv6]at hd;obtain⟨d1,d2⟩:=hd h6;have hg:gV v6.1:=⟨d1,by omega⟩;have hf:kV (aaO s.iV s.ay (mD s.ay t.Method).1.Out v6.1)/\tV (aaO s.iV s.ay (mD s.ay t.Method).1.Out v6.1)<=tV v6.1:=(SI s.iV s.ay (mD s.ay t.Method).1.Out v6.1 ⟨hg,hi⟩).2;refine ak ⟨hg,hi⟩ (aC fun v7 hv7=> ?_);rw[<-hv7]at hf;have hg7:gV v7:=⟨hf.1,by have h8:=hf.2;have h9:=hg.2;omega⟩;exact ak ⟨h1,hn,hg7⟩ (aC fun v8 Nl=>dC (fun _=>ah fail) (fun _=>ak (b_ au au) (ah (by show(y++[v8.1]).length=k+1;rw[kT,hI];rfl))))
 ·show y.length=1
  rw[hI];exact p3 h0 hs
def aal:aS Z:=E1 [u_,SS,EN,PK,aew,au5] [jS 8 (bU (fun sl=>[s0 48, .slot 12 false [some 9]]) (az cI (l1 dh)))] (aj (aF fK) (a1 (aF F_))) (shr [s0 0, .slot 1 true [none,none]] (az dh (l1 jC))) [] func30 2 (u2 CE) (fun a=>Ud a.1/\Qr a.2) fun a h=>(EF a.1 a.2 h).1
def aaL (s:Server)(now:Int):Pg (Server×List fU):=aL s.Tasks (.each false qi s.Tasks bz (fun i1 a3 (y2:List fU×List fU)=> .ix i1 s.Tasks.length (.lt (y2.1++[fU.mk a3.kL a3.Id a3.Method a3.eQ a3.fA a3.In a3.Ready (vN s a3).1 (vN s a3).2 true]) fun(v4:List fU)=> .lt (y2.1++[fU.mk a3.kL a3.Id a3.Method a3.eQ a3.fA a3.In a3.Ready a3.pK a3.Status true]) fun(v5:List fU)=> .lt (y2.2++[a3]) fun(v6:List fU)=> .br (decide (1<=a3.fA)) (.br (decide (a3.fA<=now)) (.ob (bQ (y2.1.length+1) 152) (rl (y2.1++[fU.mk a3.kL a3.Id a3.Method a3.eQ a3.fA a3.In a3.Ready a3.pK (Status.mk 3 []) true],y2.2))) (.br a3.mf (.ob (bQ (y2.1.length+1) 152) (rl (v5,y2.2))) (.br (a3.Ready !=(-1)) (.br (decide (a3.Ready<=now)) (.ob (Ud s/\Qr a3) (.ob (bQ (y2.1.length+1) 152) (rl (v4,y2.2)))) (.ob (bQ (y2.2.length+1) 152) (rl (y2.1,v6)))) (.ob (bQ (y2.2.length+1) 152) (rl (y2.1,v6)))))) (.br a3.mf (.ob (bQ (y2.1.length+1) 152) (rl (v5,y2.2))) (.br (a3.Ready !=(-1)) (.br (decide (a3.Ready<=now)) (.ob (Ud s/\Qr a3) (.ob (bQ (y2.1.length+1) 152) (rl (v4,y2.2)))) (.ob (bQ (y2.2.length+1) 152) (rl (y2.1,v6)))) (.ob (bQ (y2.2.length+1) 152) (rl (y2.1,v6))))))) (fun i1 (y2:List fU×List fU)=> .ret (Server.mk s.Name s.ay s.Handlers s.iV s.Traces y2.2 s.Most s.mX,y2.1)) ([],[]))
def ajO (s:Server)(now:Int):=(aaL s now).val
theorem I9 (s:Server)(now:Int)(h:Ud s/\s.Tasks.length<=1048576/\∀t∈s.Tasks,Qr t):jF (aaL s now) (fun r=>auQ s now r):=
 by
 obtain⟨h1,h2,h3⟩:=h;unfold aaL;refine dm (cZ (fun k (y:List fU×List fU)=>y.2=(s.Tasks.take k).filter (fun t=> !nC now t)/\Qu (outT s) ((s.Tasks.take k).filter (nC now)) y.1) ⟨rfl, .nil⟩ au (fun k y hk hI=> ?_) (fun y hI=>ah ?_))
 ·obtain⟨i1,i2⟩:=hI;have ha:=h3 _ (getD_mem (d:=bz) hk);have hpa:amb s (s.Tasks.getD k bz) (vN s (s.Tasks.getD k bz)):=(EF s (s.Tasks.getD k bz) ⟨h1,ha⟩).2;have e:=take_snoc (d:=bz) hk;have l1:y.1.length<=k:=by
   rw[afS i2];exact zO (Qb0 _ _) qa9
  have l2:y.2.length<=k:=by
   rw[i1];exact zO (Qb0 _ _) qa9
  have yes:nC now (s.Tasks.getD k bz)=true->∀t',outT s (s.Tasks.getD k bz) t'->y.2=(s.Tasks.take (k+1)).filter (fun t=> !nC now t)/\Qu (outT s) ((s.Tasks.take (k+1)).filter (nC now)) (y.1++[t']):=fun hd t' ht=>by
   rw[e,Qbf,Qbf];have e1:[s.Tasks.getD k bz].filter (fun t=> !nC now t)=[]:=by simp only[Qca,hd,Qcn,Qbo,if_false,Qd2]
   have e2:[s.Tasks.getD k bz].filter (nC now)=[s.Tasks.getD k bz]:=by simp only[Qca,hd,if_true,Qd2]
   rw[e1,e2,Qbi];exact⟨i1,amX i2 ht⟩
  have no:nC now (s.Tasks.getD k bz)=false->y.2++[s.Tasks.getD k bz]=(s.Tasks.take (k+1)).filter (fun t=> !nC now t)/\Qu (outT s) ((s.Tasks.take (k+1)).filter (nC now)) y.1:=fun hd=>by
   rw[e,Qbf,Qbf];have e1:[s.Tasks.getD k bz].filter (fun t=> !nC now t)=[s.Tasks.getD k bz]:=by simp only[Qca,hd,Bool.not_false,if_true,Qd2]
   have e2:[s.Tasks.getD k bz].filter (nC now)=[]:=by simp only[Qca,hd,Qbo,if_false,Qd2]
   rw[e1,e2,Qbi,i1];exact⟨rfl,i2⟩
  have r1:bQ (y.1.length+1) 152:=b_ au au;have r2:bQ (y.2.length+1) 152:=b_ au au;have dl:∀a:fU,a=s.Tasks.getD k bz->1<=a.fA->a.fA<=now->nC now a=true:=fun a _ q1 q2=>by
   unfold nC;rw[uu q1,uu q2];rfl
  have en:∀a:fU,a.mf=true->nC now a=true:=fun a q=>by
   unfold nC;rw[q];simp
  have rd:∀a:fU,¬a.Ready= -1->a.Ready<=now->nC now a=true:=fun a q1 q2=>by
   unfold nC;rw[uu q2,bne_iff_ne.2 q1];simp
  have nn:∀a:fU,¬(1<=a.fA/\a.fA<=now)->a.mf=false->¬(¬a.Ready= -1/\a.Ready<=now)->nC now a=false:=fun a q1 q2 q3=>by
   unfold nC;rw[q2];have e1:(decide (1<=a.fA) && decide (a.fA<=now))=false:=by
    rw[Qdk];by_cases q:1<=a.fA
    ·exact .inr (qy fun q'=>q1 ⟨q,q'⟩)
    ·exact .inl (qy q)
   have e2:(a.Ready != -1 && decide (a.Ready<=now))=false:=by
    rw[Qdk];by_cases q:a.Ready= -1
    ·exact .inl (by rw[q];rfl)
    ·exact .inr (qy fun q'=>q3 ⟨q,q'⟩)
   rw[e1,e2];rfl
  generalize hA:s.Tasks.getD k bz=a at*;refine aZ au au (aC fun v4 hv4=>aC fun v5 hv5=>aC fun v6 hv6=> ?_);have oE:a.mf=true->outT s a (fU.mk a.kL a.Id a.Method a.eQ a.fA a.In a.Ready a.pK a.Status true):=fun q=>⟨⟨rfl,rfl,rfl,rfl,rfl⟩, .inr (.inl ⟨rfl,rfl,q⟩)⟩
  have oA:a.mf=false->¬a.Ready= -1->outT s a (fU.mk a.kL a.Id a.Method a.eQ a.fA a.In a.Ready (vN s a).1 (vN s a).2 true):=fun q1 q2=>⟨⟨rfl,rfl,rfl,rfl,rfl⟩, .inr (.inr ⟨q1,q2,hpa⟩)⟩
  have rest:¬(1<=a.fA/\a.fA<=now)->jF (Pg.br a.mf (.ob (bQ (y.1.length+1) 152) (rl (v5,y.2))) (.br (a.Ready !=(-1)) (.br (decide (a.Ready<=now)) (.ob (Ud s/\Qr a) (.ob (bQ (y.1.length+1) 152) (rl (v4,y.2)))) (.ob (bQ (y.2.length+1) 152) (rl (y.1,v6)))) (.ob (bQ (y.2.length+1) 152) (rl (y.1,v6))))) (Sum.elim (fun(y:List fU×List fU)=>y.2=(s.Tasks.take (k+1)).filter (fun t=> !nC now t)/\Qu (outT s) ((s.Tasks.take (k+1)).filter (nC now)) y.1) (fun r=>auQ s now r)):=fun q0=>by
   refine dH (fun q=>ak r1 (ah ?_)) (fun q=>dC (fun q1=>bT (fun q2=>ak ⟨h1,ha⟩ (ak r1 (ah ?_))) (fun q2=>ak r2 (ah ?_))) (fun q1=>ak r2 (ah ?_)))
   ·rw[hv5];exact yes (en a q) _ (oE q)
   ·rw[hv4];exact yes (rd a q1 q2) _ (oA q q1)
   ·rw[hv6];exact no (nn a q0 q fun z=>q2 z.2)
   ·rw[hv6];exact no (nn a q0 q fun z=>z.1 q1)
  exact bT (fun q1=>bT (fun q2=>ak r1 (ah (yes (dl a rfl q1 q2) _ ⟨⟨rfl,rfl,rfl,rfl,rfl⟩, .inl ⟨by show(3:Int)≠0;decide,rfl⟩⟩))) (fun q2=>rest fun z=>q2 z.2)) (fun q1=>rest fun z=>q1 z.1)
 ·obtain⟨i1,i2⟩:=hI;rw[Eo]at i1 i2;exact⟨by rw[i1];rfl,i2⟩
def ac_:aS Z:=E1 [aal] [jS 3 (bU (fun sl=>[s0 13, .slot 6 false [some 58], .slot 7 false [some 58]]) (az cI (az AX (l1 AX))))] (aj (aF fK) (a1 (bu cI))) (shr [.slot 0 true (nn 10), s0 1] (az fK (l1 AX))) [] func11 2 (u2 aaL) (fun a=>Ud a.1/\a.1.Tasks.length<=1048576/\∀t∈a.1.Tasks,Qr t) fun a h=>(I9 a.1 a.2 h).1
end
end Go.Proofs.YtmadgoehmjmlmaaGreatDoor
