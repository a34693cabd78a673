/- Codecs: scalars read, fields set. -/
import Derived.Test.YtmadgoehmjmlmaaGreatDoorP2
import Derived.Test.YtmadgoehmjmlmaaGreatDoorEng17
namespace Go.Proofs.YtmadgoehmjmlmaaGreatDoor
noncomputable section
open Go.RowKit Go.Vc
open Tryz
set_option linter.unusedVariables false
set_option linter.unusedSimpArgs false
set_option maxRecDepth 100000
theorem take_snoc {A:Type}{l:List A}{i:Nat}{d:A}(hi:i < l.length):l.take (i+1)=l.take i++[l.getD i d]:=by
 rw[List.take_add_one];congr 1;simp[List.getD,hi]
theorem afG {A:Type}{y l:List A}{i:Nat}{d a:A}(h:y.Sublist (l.take i))(hi:i < l.length)(e:a=l.getD i d):(y++[a]).Sublist (l.take (i+1)):=by
 rw[take_snoc (d:=d) hi,e];exact h.append (List.Sublist.refl _)
theorem ae_ {A:Type}{y l:List A}{i:Nat}(h:y.Sublist (l.take i)):y.Sublist (l.take (i+1)):=h.trans (Qdm au)
theorem auv {p:Slot->Bool}{y l:List Slot}{i:Nat}(h:y.Sublist ((l.take i).filter p))(hi:i < l.length)(hp:p (l.getD i bK)=true):(y++[Slot.mk (l.getD i bK).Num (l.getD i bK).Val.re]).Sublist ((l.take (i+1)).filter p):=by
 rw[af.dK,Slot.eta,take_snoc (d:=bK) hi,Qbf,List.filter_cons_of_pos hp,Qd2];exact h.append (List.Sublist.refl _)
theorem arZ {p:Slot->Bool}{y l:List Slot}{i:Nat}(h:y.Sublist ((l.take i).filter p)):y.Sublist ((l.take (i+1)).filter p):=h.trans ((Qdm au).filter p)
theorem azr {p:Slot->Bool}{y l:List Slot}{i:Nat}(h:y.Sublist ((l.take i).filter p)):y.length<=l.length:=zO h.length_le (zO (Qb0 _ _) qa9)
def acI (p:dD)(o:Op)(f:Raw):Pg (af×Int):=.br (!jG o.Kind) (.ret (af.mk 0 0 [] [] [] [] [],12)) (.br (f.eU !=Ed o) (.ret (af.mk 0 0 [] [] [] [] [],13)) (.br (f.eU==3) (.br (o.Kind==7) (.ob (List.length f.Data<=9223372036854775700) (.br (!BA f.Data) (.ret (af.mk 0 0 [] [] [] [] [],7)) (.ret (af.mk o.Kind 0 f.Data [] [] [] [],0)))) (.ret (af.mk o.Kind 0 f.Data [] [] [] [],0))) (.cut (fun(y1:af)=> .br (!TE o.Kind y1.re) (.ret (af.mk 0 0 [] [] [] [] [],6)) (.lt (nM y1.re) fun(v2:af)=> .br (o.Kind==9) (.br (!amd p o.Target y1.Bits) (.ret (af.mk 0 0 [] [] [] [] [],16)) (.ret (v2.re,0))) (.ret (v2.re,0)))) (.br (f.eU==1) (rl (af.mk o.Kind (dB .u64 (aA8 f.Bits)) [] [] [] [] [])) (rl (af.mk o.Kind f.Bits [] [] [] [] []))))))
def wu (p:dD)(o:Op)(f:Raw):=(acI p o f).val
def X9:aS Z:=E1 [A8,SC,LX,KP,ah8,YD,aDt] [jS 100012 (bU (fun sl=>[.cells (pid (sl 8)) (nn 7)]) (l1 aI))] (aj (aF dX) (aj (aF ji) (a1 (aF oq)))) (shr [.slot 0 true (nn 7), s0 1] (az aI (l1 cI))) [] func360 2 (u3 acI) fun a=>a.2.2.Data.length<=1048576
def aEL (g:bC)(v:af)(o:Op)(x:af):Pg af:=aL v.Slots (.each false qi v.Slots bK (fun i1 a3 (y2:af)=> .ix i1 v.Slots.length (.br (a3.Num==o.Num) (rl y2.re) (.lt (y2.Slots++[Slot.mk a3.Num a3.Val.re]) fun(v4:List Slot)=> .lt (lQ g a3.Num) fun(v5:Op×Bool)=> .br v5.2 (.br (decide (0<=o.Union)) (.br (v5.1.Union==o.Union) (rl y2.re) (.ob (bQ (y2.Slots.length+1) 136) (rl (af.mk y2.Kind y2.Bits y2.Text y2.List y2.Pairs v4 y2.bJ)))) (.ob (bQ (y2.Slots.length+1) 136) (rl (af.mk y2.Kind y2.Bits y2.Text y2.List y2.Pairs v4 y2.bJ)))) (.ob (bQ (y2.Slots.length+1) 136) (rl (af.mk y2.Kind y2.Bits y2.Text y2.List y2.Pairs v4 y2.bJ)))))) (fun i1 (y2:af)=> .ob (bQ (y2.Slots.length+1) 136) (.ret (af.mk y2.Kind y2.Bits y2.Text y2.List y2.Pairs (y2.Slots++[Slot.mk o.Num x.re]) y2.bJ))) (af.mk (Int.ofNat (nat_lit 10)) (Int.ofNat (nat_lit 0)) [] [] [] [] (match v with | af.mk Kind_ avp avx avt avv ai2 a=>a)))
def xX (g:bC)(v:af)(o:Op)(x:af):=(aEL g v o x).val
theorem ac7 (g:bC)(v:af)(o:Op)(x:af)(h:v.Slots.length<=1048576):jF (aEL g v o x) (fun r=>∃l,l.Sublist (v.Slots.filter fun s=> !(s.Num==o.Num))/\r=af.mk 10 0 [] [] [] (l++[Slot.mk o.Num x]) v.bJ):=
 dm <| cZ (fun(i1:Nat) y2=>y2.Slots.Sublist ((v.Slots.take i1).filter fun s=> !(s.Num==o.Num))/\y2=af.mk 10 0 [] [] [] y2.Slots v.bJ) (by exact⟨List.nil_sublist _,rfl⟩) au (fun i1 y2 rC rZ=>have hI:y2.Slots.Sublist ((v.Slots.take i1).filter fun s=> !(s.Num==o.Num))/\y2=af.mk 10 0 [] [] [] y2.Slots v.bJ:=rZ;aZ au au (dI (fun _=>ah qai) (fun _=>aC fun v4 hv4=>aC fun v5 hv5=>dH (fun _=>bT (fun _=>dI (fun _=>ah qai) (fun _=>ak (qbj) (ah qai))) (fun _=>ak (qbj) (ah qai))) (fun _=>ak (qbj) (ah qai))))) (fun y2 hI=>have hI:y2.Slots.Sublist ((v.Slots.take v.Slots.length).filter fun s=> !(s.Num==o.Num))/\y2=af.mk 10 0 [] [] [] y2.Slots v.bJ:=hI;ak (qbj) (ah qai))
def aci:aS Z:=E1 [O9] [jS 3 (bU (fun sl=>[s0 20, .cells (pid (sl 9)) [none,none,none,none,none,some 261,none]]) (az cI (l1 aI))),jS 800001 (bU (fun sl=>[.cells (pid (sl 9)) [none,none,none,none,none,some 261,none]]) (l1 aI))] (aj (aF iG) (aj (aF aI) (aj (aF ji) (a1 (aF aI))))) (shr [.slot 0 true (nn 7)] (l1 aI)) [] func354 1 (u4 aEL) (fun a=>a.2.1.Slots.length<=1048576) fun a h=>(ac7 a.1 a.2.1 a.2.2.1 a.2.2.2 h).1
def abQ (v:af)(f:Raw):Pg af:=aL v.bJ (.ob (0<=(↑v.bJ.length:Int)/\(↑v.bJ.length:Int)=(↑v.bJ.length:Int)/\(↑v.bJ.length:Int)<=(↑v.bJ.length:Int)) (.ob (0 < 1/\bQ ((List.take v.bJ.length v.bJ).length+1) 40) (.ret (af.mk v.Kind v.Bits v.Text v.List v.Pairs v.Slots (List.take v.bJ.length v.bJ++[f])))))
def yV (v:af)(f:Raw):=(abQ v f).val
theorem anU (v:af)(f:Raw)(h:v.bJ.length<=1048576):Is (abQ v f):=
 iL fun _=>aX au (aX ((⟨by decide,b_ uZ uZ⟩)) (aU))
def ac3:aS Z:=E1 [] [] (aj (aF aI) (a1 (aF oq))) (shr [.slot 0 true (nn 7)] (l1 aI)) [] func191 1 (u2 abQ) (fun a=>a.1.bJ.length<=1048576) fun a h=>anU a.1 a.2 h
def RV (l:af)(x:af):Pg af:=aL l.List (.ob (0<=(↑l.List.length:Int)/\(↑l.List.length:Int)=(↑l.List.length:Int)/\(↑l.List.length:Int)<=(↑l.List.length:Int)) (.ob (0 < 1/\bQ ((List.take l.List.length l.List).length+1) 128) (.ret (af.mk 11 0 [] (List.take l.List.length l.List++[x.re]) [] [] []))))
def qQ (l:af)(x:af):=(RV l x).val
theorem agv (l:af)(x:af)(h:l.List.length<=1048576):Is (RV l x):=
 iL fun _=>aX au (aX ((⟨by decide,b_ uZ uZ⟩)) (aU))
def Zm:aS Z:=E1 [] [] (aj (aF aI) (a1 (aF aI))) (shr [.slot 0 true (nn 7)] (l1 aI)) [] func358 1 (u2 RV) (fun a=>a.1.List.length<=1048576) fun a h=>agv a.1 a.2 h
def aiC (n:Int)(r:ae):Pg (Int×ae):=.lt (rJ r.c n) fun(v1:aN×Int)=> .ret (v1.2,ae.mk r.p v1.1)
def mP (n:Int)(r:ae):=(aiC n r).val
def Fp:aS Z:=wZ [afl] [] (aj (iQ 0) (a1 (bu cI))) (b1 (aP aW)) (shr [s0 0, .cells 0 (nn 8)] (az cI (l1 aW))) [] func122 1 fun a=>aiC a.1.2 a.2
def acL (r:ae):Pg (Int×Int×ae):=.ob (ng r.c) (.lt (bG r.c) fun(v1:Int×aN×Int)=> .br (v1.2.2 !=0) (.ret (0,v1.2.2,r)) (.lt (dB .u64 (uF v1.2.1)) fun(v2:Int)=> .br (decide (v2 < v1.1)) (.ret (0,4,r)) (.ret (dB .i64 v1.1,0,ae.mk r.p v1.2.1))))
def jV (r:ae):=(acL r).val
def Gf:aS Z:=Ee [yY,Az] [] (a1 (iQ 0)) (b1 (aP aW)) (shr [s0 0, s0 1, .cells 0 (nn 8)] (az cI (az cI (l1 aW)))) [] func350 2 (fun a=>acL a.2) fun a=>ng a.2.c
theorem vU {r:ae}(h:ng r.c)(h0:(jV r).2.1=0):DV 1 r.c (jV r).2.2.c/\(jV r).2.2.c.Nodes=r.c.Nodes/\(jV r).2.2.p=r.p/\0<=(jV r).1/\(jV r).1<=(jV r).2.2.c.End - (jV r).2.2.c.At:=by
 obtain⟨ku,k⟩:=lu h;unfold jV acL at h0⊢;simp only[dP,dJ,bV,aV]at h0⊢;cases e:(bG r.c).2.2 !=0 with
 | true=>
  rw[e]at h0;have h0:(bG r.c).2.2=0:=h0;rw[h0]at e;cases e
 | false=>
  obtain⟨ka,kn⟩:=k (kG.1 e);have kok:=ka.1;have kl:=qX kok;rw[e]at h0;simp only[pO]at h0⊢;obtain⟨⟨q1,q2,q3,q4⟩,q5⟩:=kok;obtain⟨u1,u2⟩:=ku;rw[kl,gz (k:= .u64) BZ]at h0⊢;by_cases e2:(bG r.c).2.1.End - (bG r.c).2.1.At < (bG r.c).1
  ·rw[uu e2]at h0;cases h0
  rw[qy e2];rw[gz (k:= .i64) BZ];exact⟨ka,kn,rfl,u1,by show(bG r.c).1<=(bG r.c).2.1.End - (bG r.c).2.1.At;omega⟩
def A7 (wire:Int)(r:ae):Pg (Raw×Int×ae):=.br (wire==3) (.ob (ng r.c) (.lt (jV r) fun(v1:Int×Int×ae)=> .br (v1.2.1 !=0) (.ret (Raw.mk 0 wire 0 [],v1.2)) (.ob (ng v1.2.2.c) (.lt (zM v1.2.2.c v1.1) fun(v2:Str×aN×Int)=> .ret (Raw.mk 0 wire 0 v2.1,v2.2.2,ae.mk v1.2.2.p v2.2.1))))) (.br (wire==2) (.ob (ng r.c) (.lt (yX r.c) fun(v3:Int×aN×Int)=> .ret (Raw.mk 0 wire v3.1 [],v3.2.2,ae.mk r.p v3.2.1))) (.ob (ng r.c) (.lt (bG r.c) fun(v4:Int×aN×Int)=> .ret (Raw.mk 0 wire v4.1 [],v4.2.2,ae.mk r.p v4.2.1))))
def iE (wire:Int)(r:ae):=(A7 wire r).val
theorem aam (wire:Int)(r:ae)(h:ng r.c):Is (A7 wire r):=
 oI (fun _=>aX (h) (dF fun v1 hv1=>jQ iR (fun _=>aX (by have k:=(vU h (by rw[<-hv1];omega)).1.1;rw[<-hv1]at k;exact k) (dF fun v2 hv2=>aU)))) (fun _=>oI (fun _=>aX (h) (dF fun v3 hv3=>aU)) (fun _=>aX (h) (dF fun v4 hv4=>aU)))
def P6:aS Z:=Ee [Az,Gf,aex,ay1] [] (aj (iQ 0) (a1 (bu cI))) (b1 (aP aW)) (shr [.slot 0 true (nn 4), s0 1, .cells 0 (nn 8)] (az oq (az cI (l1 aW)))) [] func359 2 (fun a=>A7 a.1.2 a.2) (fun a=>ng a.2.c) fun a h=>aam a.1.2 a.2 h
def aso (n:Int)(r:ae):Pg (aN×ae):=.ret (r.c,ae.mk r.p (aN.mk r.c.Data r.c.At (dB .i64 (r.c.At+n)) r.c.Depth r.c.Nodes r.c.Text))
def Uo (n:Int)(r:ae):=(aso n r).val
def aky:aS Z:=wZ [] [] (aj (iQ 0) (a1 (bu cI))) (b1 (aP aW)) (shr [.slot 0 true (nn 6), .cells 0 (nn 8)] (az dN (l1 aW))) [] func351 1 fun a=>aso a.1.2 a.2
def alj (outer:aN)(r:ae):Pg ae:=.ret (ae.mk r.p (aN.mk outer.Data r.c.End outer.End outer.Depth r.c.Nodes outer.Text))
def aeN (outer:aN)(r:ae):=(alj outer r).val
def Yf:aS Z:=wZ [] [] (aj (iQ 0) (a1 (aF dN))) (b1 (aP aW)) (shr [.cells 0 (nn 8)] (l1 aW)) [] func353 0 fun a=>alj a.1.2 a.2
def clS (l:List Slot):Pg (List Slot):=.unk false (fun(b:Bool)=>b=true->l.length=0) (.ret []) (.ob (bQ (0+l.length) 136) (.ret l))
theorem aC0 (l:List Slot)(h:l.length<=1048576):Is (clS l):=
 qR (b_ au au)
def aIe:aS Z:=E2 [] [] (a1 (bu bD)) (shr [.slot 0 false [some 261]] (l1 bD)) [] func265 1 clS (fun a=>some (a.length<=1048576)) (fun a=>a) fun a h=>⟨aC0 a h,rfl⟩
def clP (l:List Pair):Pg (List Pair):=.unk false (fun(b:Bool)=>b=true->l.length=0) (.ret []) (.ob (bQ (0+l.length) 256) (.ret l))
theorem aB2 (l:List Pair)(h:l.length<=1048576):Is (clP l):=
 qR (b_ au au)
def aA1:aS Z:=E2 [] [] (a1 (bu dW)) (shr [.slot 0 false [some 333]] (l1 dW)) [] func232 1 clP (fun a=>some (a.length<=1048576)) (fun a=>a) fun a h=>⟨aB2 a h,rfl⟩
def clR (l:List Raw):Pg (List Raw):=.unk false (fun(b:Bool)=>b=true->l.length=0) (.ret []) (.ob (bQ (0+l.length) 40) (.ret l))
theorem aCV (l:List Raw)(h:l.length<=1048576):Is (clR l):=
 qR (b_ au au)
def aHh:aS Z:=E2 [] [] (a1 (bu bF)) (shr [.slot 0 false [some 268]] (l1 bF)) [] func192 1 clR (fun a=>some (a.length<=1048576)) (fun a=>a) fun a h=>⟨aCV a h,rfl⟩
def osC (a:Slot)(b:Slot):Pg Int:=.ret (H5 a.Num b.Num)
def aej (a:Slot)(b:Slot):=(osC a b).val
def Tv:aS Z:=E1 [NH] [] (aj (aF mV) (a1 (aF mV))) (R1 cI) [] func267 1 (u2 osC) fun a=>True
theorem IY:FO (ltOf aej):=QB (fun a=>a.Num) fun a b=>CJ a.Num b.Num
def wK (a:Slot):Slot:=Slot.mk a.Num a.Val.re
theorem kN (a:Slot):wK a=a:=by
 unfold wK;rw[af.dK,Slot.eta]
def aHL (a:Int)(b:Int)(n:Int)(l:List Slot):Pg (List Slot):=Zq wK bK a b n l
theorem azj (a:Int)(b:Int)(n:Int)(l:List Slot)(h:swQ a b n l.length):Is (aHL a b n l):=
 aiD kN h
def au4:aS Z:=Ee [Tv] [jS 1 (bU (fun sl=>[s0 10, .row (pid (sl 0)) 261]) (az cI (l1 bD)))] (aj (ni 0) (aj (bu cI) (aj (bu cI) (aj (bu cI) (a1 (kE 267 [])))))) (b1 (iq 261 D.Slot jD)) (shr [.row 0 261] (l1 bD)) [] func440 0 (fun a=>aHL a.1.2.1 a.1.2.2.1 a.1.2.2.2.1 a.2) (fun a=>swQ a.1.2.1 a.1.2.2.1 a.1.2.2.2.1 a.2.length) fun a h=>azj a.1.2.1 a.1.2.2.1 a.1.2.2.2.1 a.2 h
def aHd (a:Int)(m:Int)(b:Int)(l:List Slot):Pg (List Slot):=X4 wK bK a m b l
theorem awf (a:Int)(m:Int)(b:Int)(l:List Slot)(h:roQ a m b l.length):Is (aHd a m b l):=
 agS kN h
def ary:aS Z:=Ee [Tv,au4] [jS 2 (bU (fun sl=>[s0 10, s0 11, .row (pid (sl 0)) 261]) (az cI (az cI (l1 bD))))] (aj (ni 0) (aj (bu cI) (aj (bu cI) (aj (bu cI) (a1 (kE 267 [])))))) (b1 (iq 261 D.Slot jD)) (shr [.row 0 261] (l1 bD)) [] func431 0 (fun a=>aHd a.1.2.1 a.1.2.2.1 a.1.2.2.2.1 a.2) (fun a=>roQ a.1.2.1 a.1.2.2.1 a.1.2.2.2.1 a.2.length) fun a h=>awf a.1.2.1 a.1.2.2.1 a.1.2.2.2.1 a.2 h
def aD8 (a:Int)(b:Int)(l:List Slot):Pg (List Slot):=Zz wK aej (fun _ _=>True) bK a b l
def aGC (a:Int)(b:Int)(l:List Slot):=(aD8 a b l).val
theorem ay5 (a:Int)(b:Int)(l:List Slot)(h:JC (fun _ _=>True) a b l):Is (aD8 a b l):=
 agM kN IY h
def asG:aS Z:=w_ Z [Tv] [jS 1 (bU (fun sl=>[s0 8, .row (pid (sl 0)) 261]) (az cI (l1 bD))),jS 4 (bU (fun sl=>[s0 9, .row (pid (sl 0)) 261]) (az cI (l1 bD)))] (jW (aj (ni 0) (aj (bu cI) (aj (bu cI) (a1 (kE 267 []))))) (b1 (iq 261 D.Slot jD))) (oG (n:=53) rfl) (shr [.row 0 261] (l1 bD)) [] func404 ntmps404 dU 0 rfl (fun a=>aD8 (a.1.2.1) (a.1.2.2.1) (a.2)) (fun a=>some (JC (fun _ _=>True) (a.1.2.1) (a.1.2.2.1) (a.2))) (fun a e _=>by kernel_rfl) (fun a=>aGC (a.1.2.1) (a.1.2.2.1) (a.2)) (fun a h=>⟨ay5 (a.1.2.1) (a.1.2.2.1) (a.2) h,rfl⟩)
def aJr (aI4:Int->Int->Int->List Slot->List Slot)(WB:Int->Int->Int->List Slot->Prop)(a:Int)(m:Int)(b:Int)(l:List Slot):Pg (List Slot):=aeD wK aej (fun _ _=>True) bK aI4 WB a m b l
def WB (fu:Nat)(a:Int)(m:Int)(b:Int)(l:List Slot):Prop:=Ql aej (fun _ _=>True) fu a m b l
def ar8:Nat->(Int->Int->Int->(List Slot)->(List Slot))
 | 0=>(fun _ _ _ _=>default)
 | fu+1=>(fun a m b l=>(aJr ((ar8 fu)) (WB fu) a m b l).val)
abbrev aq7 (fu:Nat):=aJr ((ar8 fu)) (WB fu)
def alC (a:Int)(m:Int)(b:Int)(l:List Slot):List Slot:=(ar8 ((b - a).toNat+1)) a m b l
theorem MJ:∀(fu:Nat) (a m b:Int) (l:List Slot),WB fu a m b l->mrg aej a b l (ar8 fu a m b l)
 | 0,_,_,_,_,h=>Ht h
 | fu+1,_,_,_,_,h=>(GV kN (DI:=ar8 fu) (Hr:=WB fu) (d:=bK) IY (fun _ _ _ _ h=>h) (MJ fu) h).2
theorem awn (fu:Nat)(a:Int)(m:Int)(b:Int)(l:List Slot)(h:WB (fu+1) a m b l):Is (aq7 fu a m b l):=
 (GV kN IY (fun _ _ _ _ h=>h) (MJ fu) h).1
theorem arC:∀fu,fV Z.P Z.S 405 (oP (jW (aj (ni 0) (aj (bu cI) (aj (bu cI) (aj (bu cI) (a1 (kE 267 [])))))) (b1 (iq 261 D.Slot jD))) (shr [.row 0 261] (l1 bD)) 0 [] (fun a=>some (WB fu (a.1.2.1) (a.1.2.2.1) (a.1.2.2.2.1) (a.2))) (fun a=>(ar8 fu) (a.1.2.1) (a.1.2.2.1) (a.1.2.2.2.1) (a.2)))
 | 0=>iH func405 dU (fun a h=>Ht h)
 | fu+1=>by
  have h0:=arC fu;exact G9 [Tv,ary,⟨405,_,h0⟩] [jS 3 (bU (fun sl=>[s0 10, s0 11]) (az cI (l1 cI))),jS 9 (bU (fun sl=>[s0 13, .row (pid (sl 0)) 261]) (az cI (l1 bD))),jS 15 (bU (fun sl=>[s0 14, s0 15]) (az cI (l1 cI))),jS 21 (bU (fun sl=>[s0 17, .row (pid (sl 0)) 261]) (az cI (l1 bD))),jS 33 (bU (fun sl=>[s0 20, s0 21]) (az cI (l1 cI))),jS 100008 (bU (fun sl=>[s0 10]) (l1 cI)),jS 100012 (bU (fun sl=>[.row (pid (sl 0)) 261]) (l1 bD)),jS 100020 (bU (fun sl=>[s0 14]) (l1 cI)),jS 100024 (bU (fun sl=>[.row (pid (sl 0)) 261]) (l1 bD)),jS 100032 (bU (fun sl=>[s0 20, s0 21]) (az cI (l1 cI))),jS 100038 (bU (fun sl=>[s0 20]) (l1 cI)),jS 100041 (bU (fun sl=>[.row (pid (sl 0)) 261]) (l1 bD)),jS 100043 (bU (fun sl=>[.row (pid (sl 0)) 261]) (l1 bD))] func405 ntmps405 (fun a=>aq7 fu a.1.2.1 a.1.2.2.1 a.1.2.2.2.1 a.2) (fun a h=>⟨awn fu a.1.2.1 a.1.2.2.1 a.1.2.2.2.1 a.2 h,rfl⟩) (oG (n:=220) rfl)
def ast:aS Z:=⟨405,oP (jW (aj (ni 0) (aj (bu cI) (aj (bu cI) (aj (bu cI) (a1 (kE 267 [])))))) (b1 (iq 261 D.Slot jD))) (shr [.row 0 261] (l1 bD)) 0 [] (fun a=>some (Ql aej (fun _ _=>True) (((a.1.2.2.2.1) - (a.1.2.1)).toNat+1) (a.1.2.1) (a.1.2.2.1) (a.1.2.2.2.1) (a.2))) (fun a=>alC (a.1.2.1) (a.1.2.2.1) (a.1.2.2.2.1) (a.2)),jM (fun n=>((arC n))) _ _ (fun a h=>⟨((a.1.2.2.2.1) - (a.1.2.1)).toNat+1,h,rfl⟩)⟩
def aCO (n:Int)(l:List Slot):Pg (List Slot):=afu wK aej (fun _ _=>True) bK alC n l
def aIv (n:Int)(l:List Slot):=(aCO n l).val
theorem awi (n:Int)(l:List Slot)(h:stQ (fun _ _=>True) n l):Is (aCO n l):=
 (G_ kN (DI:=alC) IY (fun a m b l h=>MJ _ a m b l h) h).1
def aq9:aS Z:=Ee [Tv,asG,ast] [jS 2 (bU (fun sl=>[s0 7, s0 8, .row (pid (sl 0)) 261]) (az cI (az cI (l1 bD)))),jS 7 (bU (fun sl=>[s0 6, .row (pid (sl 0)) 261]) (az cI (l1 bD))),jS 9 (bU (fun sl=>[s0 7, s0 8, .row (pid (sl 0)) 261]) (az cI (az cI (l1 bD)))),jS 100006 (bU (fun sl=>[s0 7, .row (pid (sl 0)) 261]) (az cI (l1 bD))),jS 100013 (bU (fun sl=>[s0 7, .row (pid (sl 0)) 261]) (az cI (l1 bD)))] (aj (ni 0) (aj (bu cI) (a1 (kE 267 [])))) (b1 (iq 261 D.Slot jD)) (shr [.row 0 261] (l1 bD)) [] func363 0 (fun a=>aCO a.1.2.1 a.2) (fun a=>stQ (fun _ _=>True) a.1.2.1 a.2) fun a h=>awi a.1.2.1 a.2 h
def aCN (l:List Slot):Pg (List Slot):=.ob (stQ (fun(x x_1:Slot)=>True) (↑l.length:Int) l) (.lt (aIv (↑l.length:Int) l) fun(v1:List Slot)=> aL v1 (.ret v1))
def aeu (l:List Slot):=(aCN l).val
theorem axv (l:List Slot)(h:sZ (fun _ _=>True) l):Is (aCN l):=
 aX ((⟨h,rfl⟩)) (dF fun v1 hv1=>iL fun _=>aU)
def atB:aS Z:=Ee [Tv,aq9] [] (aj (ni 0) (a1 (kE 267 []))) (b1 (iq 261 D.Slot jD)) (shr [.row 0 261] (l1 bD)) [] func266 0 (fun a=>aCN a.2) (fun a=>sZ (fun _ _=>True) a.2) fun a h=>axv a.2 h
theorem yN (l:List Slot)(h:sZ (fun _ _=>True) l):Sorted aej l (aeu l):=
 (G_ kN (q:=(fun _ _=>True)) (d:=bK) (DI:=alC) IY (fun a m b l h=>MJ _ a m b l h) ⟨h,rfl⟩).2
theorem LW {l v:List Slot}(h:l.length<=1048576)(e:v=aeu l):v.length=l.length:=by
 rw[e];exact(yN l ⟨by omega,fun _ _ _ _=>trivial⟩).2.2
noncomputable def acD (l:List Slot):Pg (List Slot):=.ob (l.length<=1048576) (.ob (sZ (fun(x x_1:Slot)=>True) l) (.lt (aeu l) fun(v4:List Slot)=> aL v4 (.each false qi v4 bK (fun i1 a3 (y2:List Slot)=> .ix i1 v4.length (.ob (i1.toNat < v4.length) (.lt (y2++[Slot.mk a3.Num a3.Val.re]) fun(v5:List Slot)=> .lt (dB .i64 (i1+1)) fun(v6:Int)=> .br (v6==(↑v4.length:Int)) (aL v4 (.ob (bQ (y2.length+1) 136) (rl v5))) (.ix v6 v4.length (.ob (v6.toNat < v4.length) (aL v4 (.br (a3.Num !=(v4.getD v6.toNat bK).Num) (.ob (bQ (y2.length+1) 136) (rl v5)) (rl y2)))))))) (fun i1 (y2:List Slot)=> .ret y2) [])))
noncomputable def CS (l:List Slot):List Slot:=(acD l).val
theorem BI (l:List Slot)(h:l.length<=1048576):jF (acD l) (fun r=>r.Sublist (aeu l)):=
 ak (h) (ak ((⟨by omega,fun _ _ _ _=>trivial⟩)) (aC fun v4 hv4=>dm <| cZ (fun(i1:Nat) y2=>y2.Sublist (v4.take i1)/\v4.length=l.length) (by exact⟨List.nil_sublist _,LW h hv4⟩) (by(have:=LW h hv4;omega)) (fun i1 y2 rC rZ=>have hI:y2.Sublist (v4.take i1)/\v4.length=l.length:=rZ;aZ au au (ak (qa0) (aC fun v5 hv5=>pJ fun v6 hv6 _=>dI (fun _=>dm <| ak (qa0) (ah qax)) (fun _=>aZ au au (ak (qa0) (dm <| dC (fun _=>ak (qa0) (ah qax)) (fun _=>ah qax))))))) (fun y2 hI=>have hI:y2.Sublist (v4.take v4.length)/\v4.length=l.length:=hI;ah qax)))
theorem anl (l:List Slot)(h:l.length<=1048576):Is (acD l):=(BI l h).1
noncomputable def asz:aS Z:=E1 [aIe,atB,Tv] [jS 5 (bU (fun sl=>[s0 13, .slot 4 false [some 261]]) (az cI (l1 bD)))] (a1 (bu bD)) (R1 bD) [] func193 1 acD (fun a=>a.length<=1048576) fun a h=>anl a h
def aiv (x:Str):Pg Bool:=.ret (x !=x)
def aaJ (x:Str):=(aiv x).val
def atX:aS Z:=E0 [] [] (a1 (bu cStr)) (R1 aH) [] func442 1 aiv
def aE0 (x:Str)(y:Str):Pg Int:=.lt (aaJ y) fun(v1:Bool)=> .br (aaJ x) (.br v1 (.ret 0) (.ret (-1))) (.br v1 (.ret 1) (.br (Op.bytesLess x y) (.ret (-1)) (.br (!(Op.bytesLess x y || x==y)) (.ret 1) (.ret 0))))
def avf (x:Str)(y:Str):=(aE0 x y).val
def aDD:aS Z:=E0 [atX] [] (aj (bu cStr) (a1 (bu cStr))) (R1 cI) [] func434 1 (u2 aE0)
def ah6 (x:Int):Pg Bool:=.ret (x !=x)
def acf (x:Int):=(ah6 x).val
def asb:aS Z:=E0 [] [] (a1 (bu (fO .u64))) (R1 aH) [] func443 1 ah6
def aCI (x:Int)(y:Int):Pg Int:=.lt (acf y) fun(v1:Bool)=> .br (acf x) (.br v1 (.ret 0) (.ret (-1))) (.br v1 (.ret 1) (.br (decide (x < y)) (.ret (-1)) (.br (decide (y < x)) (.ret 1) (.ret 0))))
def aeP (x:Int)(y:Int):=(aCI x y).val
def aBN:aS Z:=E0 [asb] [] (aj (bu (fO .u64)) (a1 (bu (fO .u64)))) (R1 cI) [] func435 1 (u2 aCI)
def ate (b:Int):Pg Int:=.br (aj9 b==0) (.ret 18446744073709551615) (.br (wJ .u64 b (9223372036854775808:Int) !=0) (.ret (aiK .u64 (if IntKind.u64.signed=true then(-1)else IntKind.u64.max) b)) (.ret (orI .u64 b 9223372036854775808)))
def KF (b:Int):=(ate b).val
def atl:aS Z:=E0 [adN] [] (a1 (bu (fO .u64))) (R1 (fO .u64)) [] func436 1 ate
def azD (a:af)(b:af):Pg Int:=.br (a.Kind !=b.Kind) (.ret (H5 a.Kind b.Kind)) (.br (!jG a.Kind) (.ret 0) (.br (JY a.Kind) (.ret (avf a.Text b.Text)) (.lt (H5 (dB .i64 a.Bits) (dB .i64 b.Bits)) fun(v1:Int)=> .br (a.Kind==2) (.ret v1) (.br (a.Kind==3) (.ret v1) (.br (a.Kind==6) (.ret (aeP (KF a.Bits) (KF b.Bits))) (.ret (aeP a.Bits b.Bits)))))))
def Wn (a:af)(b:af):=(azD a b).val
def aCF:aS Z:=E0 [NH,YD,ael,aDD,aBN,atl] [] (aj (aF aI) (a1 (aF aI))) (R1 cI) [] func408 1 (u2 azD)
def aye:aS Z:=JW Z [YD] 407 [true] func407 dU
def azq (a:af)(b:af):Pg Int:=.br (a.Kind !=b.Kind) (.ret (H5 a.Kind b.Kind)) (.ob (jG b.Kind=true/\True) (.ob (jG a.Kind=true/\True) (.ret (Wn a.re b.re))))
def WE (a:af)(b:af):=(azq a b).val
theorem azl (a:af)(b:af)(h:jG a.Kind=true/\jG b.Kind=true):Is (azq a b):=
 jQ iR (fun _=>aX ((⟨h.2,trivial⟩)) (aX ((⟨h.1,trivial⟩)) (aU)))
def asB:aS Z:=E1 [NH,aye,aCF] [] (aj (aF aI) (a1 (aF aI))) (R1 cI) [] func367 1 (u2 azq) (fun a=>jG a.1.Kind=true/\jG a.2.Kind=true) fun a h=>azl a.1 a.2 h
theorem atE:∀a b c:Str,Op.bytesLess b a=false->Op.bytesLess c b=false->Op.bytesLess c a=false
 | [],_,[],_,_=>rfl
 | [],_,_::_,_,_=>rfl
 | _::_,[],_,h,_=>absurd h (by simp[Op.bytesLess])
 | _::_,_::_,[],_,h=>absurd h (by simp[Op.bytesLess])
 | x::a,y::b,z::c,h1,h2=>by
  have ih:=atE a b c;simp only[Op.bytesLess,Qef,Qdk,decide_eq_false_iff_not,Qcc,UInt8.lt_iff_toNat_lt]at h1 h2⊢;refine⟨by omega,?_⟩;by_cases e:z=x
  ·subst e;have e2:y=z:=UInt8.toNat_inj.1 au;subst e2;exact .inr (ih (h1.2.resolve_left fun k=>k rfl) (h2.2.resolve_left fun k=>k rfl))
  ·exact .inl e
theorem alu:∀a b:Str,Op.bytesLess a b=true->Op.bytesLess b a=false
 | _,[],h=>absurd h (by cases ‹Str›<;>simp[Op.bytesLess])
 | [],_::_,_=>rfl
 | x::a,y::b,h=>by
  have ih:=alu a b;simp only[Op.bytesLess,Qbx,jR,Qbn,Qc7,Qef,Qdk,decide_eq_false_iff_not,Qcc,UInt8.lt_iff_toNat_lt]at h⊢;rcases h with h | ⟨e,h⟩
  ·exact⟨by omega, .inl fun k=>by rw[k]at h;omega⟩
  ·subst e;exact⟨by omega, .inr (ih h)⟩
theorem ali {A:Type}{lt:A->A->Bool}(k:A->Int)(L:Int->A->A->Bool)(hL:∀n,FO (L n))(h:∀a b,lt a b=if k a=k b then L (k a) a b else decide (k a < k b)):FO lt:=by
 constructor
 ·intro a b hab;rw[h]at hab⊢;by_cases e:k a=k b
  ·rw[mi e]at hab;rw[mi e.symm,<-e];exact(hL _).asym hab
  ·rw[lL e]at hab;rw[lL (fun x=>e x.symm)];have:=DK hab;exact qy au
 ·intro a b c h1 h2;rw[h]at h1 h2⊢;by_cases e1:k b=k a
  ·rw[mi e1]at h1;by_cases e2:k c=k b
   ·rw[mi e2]at h2;rw[mi (e2.trans e1)];rw[e1]at h1;rw[e2,e1]at h2;rw[e2,e1];exact(hL _).trn h1 h2
   ·rw[lL e2]at h2;rw[lL (fun x=>e2 (x.trans e1.symm))];rw[<-e1];exact h2
  ·rw[lL e1]at h1;have l1:=Qbz h1;by_cases e2:k c=k b
   ·rw[e2,lL e1];exact h1
   ·rw[lL e2]at h2;have l2:=Qbz h2;rw[lL (show ¬k c=k a by omega)];exact qy au
theorem ag2 {A:Type}{lt:A->A->Bool}(k:A->Int)(h:∀a b,lt a b=decide (k a < k b)):FO lt:=
 ali k (fun _ _ _=>false) (fun _=>⟨fun _=>rfl,fun _ _=>rfl⟩) fun a b=>by
  rw[h];split<;>first | exact qy au | rfl
theorem aB9 {A:Type}{lt:A->A->Bool}(k:A->Str)(h:∀a b,lt a b=Op.bytesLess (k a) (k b)):FO lt:=
 ⟨fun{a b} e=>by rw[h]at e⊢;exact alu _ _ e,fun{a b c} e1 e2=>by rw[h]at e1 e2⊢;exact atE _ _ _ e1 e2⟩
theorem ayh (x y:Int):aeP x y=if x < y then -1 else if y < x then 1 else 0:=by
 unfold aeP aCI acf ah6;simp only[dJ,bV,aV,bne_self_eq_false,Qc,Qbn,Qbo,if_false]
theorem alF (x y:Int):decide (aeP x y < 0)=decide (x < y):=by
 rw[ayh];by_cases h:x < y
 ·rw[mi h];exact(uu nG).trans (uu h).symm
 ·rw[lL h,qy h];split<;>rfl
theorem aym (x y:Str):decide (avf x y < 0)=Op.bytesLess x y:=by
 unfold avf aE0 aaJ aiv;simp only[dJ,bV,aV,bne_self_eq_false,pO];cases Op.bytesLess x y with
 | true=>rfl
 | false=>simp only[pO];cases(!(false || x==y))<;>rfl
def afR (n:Int)(a b:af):Bool:=
 if jG n=false then false else if JY n=true then Op.bytesLess a.Text b.Text else if n=2\/n=3 then decide (dB .i64 a.Bits < dB .i64 b.Bits)else if n=6 then decide (KF a.Bits < KF b.Bits)else decide (a.Bits < b.Bits)
theorem atK (n:Int):FO (afR n):=by
 by_cases h1:jG n=false
 ·exact⟨fun{a b} _=>mi h1,fun{a b c} _ _=>mi h1⟩
 by_cases h2:JY n=true
 ·exact aB9 (fun a=>a.Text) fun a b=>by unfold afR;rw[lL h1,mi h2]
 by_cases h3:n=2\/n=3
 ·exact ag2 (fun a=>dB .i64 a.Bits) fun a b=>by unfold afR;rw[lL h1,lL h2,mi h3]
 by_cases h4:n=6
 ·exact ag2 (fun a=>KF a.Bits) fun a b=>by unfold afR;rw[lL h1,lL h2,lL h3,mi h4]
 ·exact ag2 (fun a=>a.Bits) fun a b=>by unfold afR;rw[lL h1,lL h2,lL h3,lL h4]
theorem aw9 (a b:af):ltOf Wn a b=if a.Kind=b.Kind then afR a.Kind a b else decide (a.Kind < b.Kind):=by
 unfold ltOf Wn azD afR;simp only[dJ,bV,aV];by_cases e:a.Kind=b.Kind
 ·rw[mi e,show(a.Kind !=b.Kind)=false by rw[e];exact bne_self_eq_false _];cases h1:jG a.Kind with
  | false=>rfl
  | true=>
   rw[lL nG];cases h2:JY a.Kind with
   | true=>exact(aym _ _).trans (mi rfl).symm
   | false=>
    rw[lL nG];by_cases h3:a.Kind=2
    ·rw[mi (.inl h3),show(a.Kind==2)=true by rw[h3];rfl];exact CJ _ _
    by_cases h4:a.Kind=3
    ·rw[mi (.inr h4),show(a.Kind==2)=false by rw[h4];rfl,show(a.Kind==3)=true by rw[h4];rfl];exact CJ _ _
    rw[lL au,show(a.Kind==2)=false from beq_false_of_ne h3,show(a.Kind==3)=false from beq_false_of_ne h4];by_cases h5:a.Kind=6
    ·rw[mi h5,show(a.Kind==6)=true by rw[h5];rfl];exact alF _ _
    ·rw[lL h5,show(a.Kind==6)=false from beq_false_of_ne h5];exact alF _ _
 ·rw[lL e,show(a.Kind !=b.Kind)=true from bne_iff_ne.2 e];exact CJ _ _
theorem atv:FO (ltOf Wn):=ali (fun a=>a.Kind) afR atK aw9
theorem azz (a b:af):WE a b=Wn a b:=by
 unfold WE azq;simp only[bV,dP,aV,af.dK];by_cases e:a.Kind=b.Kind
 ·rw[show(a.Kind !=b.Kind)=false by rw[e];exact bne_self_eq_false _];rfl
 ·rw[show(a.Kind !=b.Kind)=true from bne_iff_ne.2 e];unfold Wn azD;simp only[bV,aV];rw[show(a.Kind !=b.Kind)=true from bne_iff_ne.2 e];rfl
theorem arU:FO (ltOf WE):=by
 rw[show WE=Wn from funext fun a=>funext fun b=>azz a b];exact atv
theorem anV {A B:Type}{lt:A->A->Bool}(h:FO lt)(f:B->A):FO (fun a b=>lt (f a) (f b)):=⟨fun{a b} e=>h.asym e,fun{a b c} e1 e2=>h.trn e1 e2⟩
def opQ (a b:Pair):Prop:=jG a.Key.Kind=true/\jG b.Key.Kind=true
def opC (a:Pair)(b:Pair):Pg Int:=.ob (jG a.Key.re.Kind=true/\jG b.Key.re.Kind=true) (.ret (WE a.Key.re b.Key.re))
def Xm (a:Pair)(b:Pair):=(opC a b).val
def UG:aS Z:=E1 [asB] [] (aj (aF vz) (a1 (aF vz))) (R1 cI) [] func366 1 (u2 opC) fun a=>opQ a.1 a.2
theorem EL:FO (ltOf Xm):=by
 rw[show ltOf Xm=fun a b=>ltOf WE a.Key b.Key from funext fun a=>funext fun b=>by
  unfold ltOf Xm opC;simp only[dP,aV,af.dK]]
 exact anV arU fun p:Pair=>p.Key
def IC (a:Pair):Pair:=Pair.mk a.Key.re a.Val.re
theorem uT (a:Pair):IC a=a:=by
 unfold IC;rw[af.dK,af.dK,Pair.eta]
def aIf (a:Int)(b:Int)(n:Int)(l:List Pair):Pg (List Pair):=Zq IC gJ a b n l
theorem axA (a:Int)(b:Int)(n:Int)(l:List Pair)(h:swQ a b n l.length):Is (aIf a b n l):=
 aiD uT h
def aDm:aS Z:=Ee [UG] [jS 1 (bU (fun sl=>[s0 10, .row (pid (sl 0)) 333]) (az cI (l1 dW)))] (aj (ni 0) (aj (bu cI) (aj (bu cI) (aj (bu cI) (a1 (kE 366 [])))))) (b1 (iq 333 D.Pair oV)) (shr [.row 0 333] (l1 dW)) [] func444 0 (fun a=>aIf a.1.2.1 a.1.2.2.1 a.1.2.2.2.1 a.2) (fun a=>swQ a.1.2.1 a.1.2.2.1 a.1.2.2.2.1 a.2.length) fun a h=>axA a.1.2.1 a.1.2.2.1 a.1.2.2.2.1 a.2 h
def aHP (a:Int)(m:Int)(b:Int)(l:List Pair):Pg (List Pair):=X4 IC gJ a m b l
theorem ayI (a:Int)(m:Int)(b:Int)(l:List Pair)(h:roQ a m b l.length):Is (aHP a m b l):=
 agS uT h
def aEv:aS Z:=Ee [UG,aDm] [jS 2 (bU (fun sl=>[s0 10, s0 11, .row (pid (sl 0)) 333]) (az cI (az cI (l1 dW))))] (aj (ni 0) (aj (bu cI) (aj (bu cI) (aj (bu cI) (a1 (kE 366 [])))))) (b1 (iq 333 D.Pair oV)) (shr [.row 0 333] (l1 dW)) [] func441 0 (fun a=>aHP a.1.2.1 a.1.2.2.1 a.1.2.2.2.1 a.2) (fun a=>roQ a.1.2.1 a.1.2.2.1 a.1.2.2.2.1 a.2.length) fun a h=>ayI a.1.2.1 a.1.2.2.1 a.1.2.2.2.1 a.2 h
def aEw (a:Int)(b:Int)(l:List Pair):Pg (List Pair):=Zz IC Xm opQ gJ a b l
def aHT (a:Int)(b:Int)(l:List Pair):=(aEw a b l).val
theorem axT (a:Int)(b:Int)(l:List Pair)(h:JC opQ a b l):Is (aEw a b l):=
 agM uT EL h
def aBS:aS Z:=w_ Z [UG] [jS 1 (bU (fun sl=>[s0 8, .row (pid (sl 0)) 333]) (az cI (l1 dW))),jS 4 (bU (fun sl=>[s0 9, .row (pid (sl 0)) 333]) (az cI (l1 dW)))] (jW (aj (ni 0) (aj (bu cI) (aj (bu cI) (a1 (kE 366 []))))) (b1 (iq 333 D.Pair oV))) (oG (n:=53) rfl) (shr [.row 0 333] (l1 dW)) [] func432 ntmps432 dU 0 rfl (fun a=>aEw (a.1.2.1) (a.1.2.2.1) (a.2)) (fun a=>some (JC opQ (a.1.2.1) (a.1.2.2.1) (a.2))) (fun a e _=>by kernel_rfl) (fun a=>aHT (a.1.2.1) (a.1.2.2.1) (a.2)) (fun a h=>⟨axT (a.1.2.1) (a.1.2.2.1) (a.2) h,rfl⟩)
def aJO (aI3:Int->Int->Int->List Pair->List Pair)(U7:Int->Int->Int->List Pair->Prop)(a:Int)(m:Int)(b:Int)(l:List Pair):Pg (List Pair):=aeD IC Xm opQ gJ aI3 U7 a m b l
def U7 (fu:Nat)(a:Int)(m:Int)(b:Int)(l:List Pair):Prop:=Ql Xm opQ fu a m b l
def ap6:Nat->(Int->Int->Int->(List Pair)->(List Pair))
 | 0=>(fun _ _ _ _=>default)
 | fu+1=>(fun a m b l=>(aJO ((ap6 fu)) (U7 fu) a m b l).val)
abbrev apQ (fu:Nat):=aJO ((ap6 fu)) (U7 fu)
def ajl (a:Int)(m:Int)(b:Int)(l:List Pair):List Pair:=(ap6 ((b - a).toNat+1)) a m b l
theorem JX:∀(fu:Nat) (a m b:Int) (l:List Pair),U7 fu a m b l->mrg Xm a b l (ap6 fu a m b l)
 | 0,_,_,_,_,h=>Ht h
 | fu+1,_,_,_,_,h=>(GV uT (DI:=ap6 fu) (Hr:=U7 fu) (d:=gJ) EL (fun _ _ _ _ h=>h) (JX fu) h).2
theorem axH (fu:Nat)(a:Int)(m:Int)(b:Int)(l:List Pair)(h:U7 (fu+1) a m b l):Is (apQ fu a m b l):=
 (GV uT EL (fun _ _ _ _ h=>h) (JX fu) h).1
theorem auT:∀fu,fV Z.P Z.S 433 (oP (jW (aj (ni 0) (aj (bu cI) (aj (bu cI) (aj (bu cI) (a1 (kE 366 [])))))) (b1 (iq 333 D.Pair oV))) (shr [.row 0 333] (l1 dW)) 0 [] (fun a=>some (U7 fu (a.1.2.1) (a.1.2.2.1) (a.1.2.2.2.1) (a.2))) (fun a=>(ap6 fu) (a.1.2.1) (a.1.2.2.1) (a.1.2.2.2.1) (a.2)))
 | 0=>iH func433 dU (fun a h=>Ht h)
 | fu+1=>by
  have h0:=auT fu;exact G9 [UG,aEv,⟨433,_,h0⟩] [jS 3 (bU (fun sl=>[s0 10, s0 11]) (az cI (l1 cI))),jS 9 (bU (fun sl=>[s0 13, .row (pid (sl 0)) 333]) (az cI (l1 dW))),jS 15 (bU (fun sl=>[s0 14, s0 15]) (az cI (l1 cI))),jS 21 (bU (fun sl=>[s0 17, .row (pid (sl 0)) 333]) (az cI (l1 dW))),jS 33 (bU (fun sl=>[s0 20, s0 21]) (az cI (l1 cI))),jS 100008 (bU (fun sl=>[s0 10]) (l1 cI)),jS 100012 (bU (fun sl=>[.row (pid (sl 0)) 333]) (l1 dW)),jS 100020 (bU (fun sl=>[s0 14]) (l1 cI)),jS 100024 (bU (fun sl=>[.row (pid (sl 0)) 333]) (l1 dW)),jS 100032 (bU (fun sl=>[s0 20, s0 21]) (az cI (l1 cI))),jS 100038 (bU (fun sl=>[s0 20]) (l1 cI)),jS 100041 (bU (fun sl=>[.row (pid (sl 0)) 333]) (l1 dW)),jS 100043 (bU (fun sl=>[.row (pid (sl 0)) 333]) (l1 dW))] func433 ntmps433 (fun a=>apQ fu a.1.2.1 a.1.2.2.1 a.1.2.2.2.1 a.2) (fun a h=>⟨axH fu a.1.2.1 a.1.2.2.1 a.1.2.2.2.1 a.2 h,rfl⟩) (oG (n:=220) rfl)
def aB_:aS Z:=⟨433,oP (jW (aj (ni 0) (aj (bu cI) (aj (bu cI) (aj (bu cI) (a1 (kE 366 [])))))) (b1 (iq 333 D.Pair oV))) (shr [.row 0 333] (l1 dW)) 0 [] (fun a=>some (Ql Xm opQ (((a.1.2.2.2.1) - (a.1.2.1)).toNat+1) (a.1.2.1) (a.1.2.2.1) (a.1.2.2.2.1) (a.2))) (fun a=>ajl (a.1.2.1) (a.1.2.2.1) (a.1.2.2.2.1) (a.2)),jM (fun n=>((auT n))) _ _ (fun a h=>⟨((a.1.2.2.2.1) - (a.1.2.1)).toNat+1,h,rfl⟩)⟩
def aEp (n:Int)(l:List Pair):Pg (List Pair):=afu IC Xm opQ gJ ajl n l
def aHr (n:Int)(l:List Pair):=(aEp n l).val
theorem aw2 (n:Int)(l:List Pair)(h:stQ opQ n l):Is (aEp n l):=
 (G_ uT (DI:=ajl) EL (fun a m b l h=>JX _ a m b l h) h).1
def aBT:aS Z:=Ee [UG,aBS,aB_] [jS 2 (bU (fun sl=>[s0 7, s0 8, .row (pid (sl 0)) 333]) (az cI (az cI (l1 dW)))),jS 7 (bU (fun sl=>[s0 6, .row (pid (sl 0)) 333]) (az cI (l1 dW))),jS 9 (bU (fun sl=>[s0 7, s0 8, .row (pid (sl 0)) 333]) (az cI (az cI (l1 dW)))),jS 100006 (bU (fun sl=>[s0 7, .row (pid (sl 0)) 333]) (az cI (l1 dW))),jS 100013 (bU (fun sl=>[s0 7, .row (pid (sl 0)) 333]) (az cI (l1 dW)))] (aj (ni 0) (aj (bu cI) (a1 (kE 366 [])))) (b1 (iq 333 D.Pair oV)) (shr [.row 0 333] (l1 dW)) [] func406 0 (fun a=>aEp a.1.2.1 a.2) (fun a=>stQ opQ a.1.2.1 a.2) fun a h=>aw2 a.1.2.1 a.2 h
def aEq (l:List Pair):Pg (List Pair):=.ob (stQ opQ (↑l.length:Int) l) (.lt (aHr (↑l.length:Int) l) fun(v1:List Pair)=> aL v1 (.ret v1))
def Yr (l:List Pair):=(aEq l).val
theorem axj (l:List Pair)(h:sZ opQ l):Is (aEq l):=
 aX ((⟨h,rfl⟩)) (dF fun v1 hv1=>iL fun _=>aU)
def aEm:aS Z:=Ee [UG,aBT] [] (aj (ni 0) (a1 (kE 366 []))) (b1 (iq 333 D.Pair oV)) (shr [.row 0 333] (l1 dW)) [] func365 0 (fun a=>aEq a.2) (fun a=>sZ opQ a.2) fun a h=>axj a.2 h
theorem vW (l:List Pair)(h:sZ opQ l):Sorted Xm l (Yr l):=
 (G_ uT (q:=opQ) (d:=gJ) (DI:=ajl) EL (fun a m b l h=>JX _ a m b l h) ⟨h,rfl⟩).2
def asE (a:af)(b:af):Pg Bool:=.ob (jG a.re.Kind=true/\jG b.re.Kind=true) (.ret (WE a.re b.re==0))
def ajJ (a:af)(b:af):=(asE a b).val
def ac9:aS Z:=E1 [asB] [] (aj (aF aI) (a1 (aF aI))) (R1 aH) [] func368 1 (u2 asE) fun a=>jG a.1.Kind=true/\jG a.2.Kind=true
def oD (l:List Pair):Prop:=l.length<=1048576/\∀x∈l,jG x.Key.Kind=true
theorem oJ {l:List Pair}(h:oD l):sZ opQ l:=⟨by have:=h.1;omega,fun x hx y hy=>⟨h.2 x hx,h.2 y hy⟩⟩
theorem aqJ {l v:List Pair}(h:oD l)(e:v=Yr l):oD v:=by
 have k:=(vW l (oJ h)).2;rw[e];exact⟨by rw[k.2];exact h.1,fun x hx=>h.2 x ((k.1.mem EL).1 hx)⟩
theorem Zv {v:List Pair}(h:oD v){i:Nat}(hi:i < v.length):jG (v.getD i gJ).Key.Kind=true:=h.2 _ (getD_mem hi)
theorem JU {l v:List Pair}(h:sZ opQ l)(e:v=Yr l):v.length=l.length:=by
 rw[e];exact(vW l h).2.2
def ah9 (l:List Pair):Pg (List Pair):=.ob (l.length<=1048576) (.ob (sZ opQ l) (.lt (Yr l) fun(v4:List Pair)=> aL v4 (.each false qi v4 gJ (fun i1 a3 (y2:List Pair)=> .ix i1 v4.length (.ob (i1.toNat < v4.length) (.lt (y2++[Pair.mk a3.Key.re a3.Val.re]) fun(v5:List Pair)=> .lt (dB .i64 (i1+1)) fun(v6:Int)=> .br (v6==(↑v4.length:Int)) (aL v4 (.ob (bQ (y2.length+1) 256) (rl v5))) (.ix v6 v4.length (.ob (v6.toNat < v4.length) (.ob (jG a3.Key.re.Kind=true/\jG (v4.getD v6.toNat gJ).Key.re.Kind=true) (aL v4 (.br (!ajJ a3.Key.re (v4.getD v6.toNat gJ).Key.re) (.ob (bQ (y2.length+1) 256) (rl v5)) (rl y2))))))))) (fun i1 (y2:List Pair)=> .ret y2) [])))
def oH (l:List Pair):=(ah9 l).val
theorem Dc (l:List Pair)(h:oD l):jF (ah9 l) (fun r=>r.Sublist (Yr l)):=
 ak (h.1) (ak ((oJ h)) (aC fun v4 hv4=>dm <| cZ (fun(i1:Nat) y2=>y2.Sublist (v4.take i1)/\v4.length=l.length/\l.length<=1048576) (by exact⟨List.nil_sublist _,JU (oJ h) hv4,h.1⟩) (by(have:=JU (oJ h) hv4;have:=h.1;omega)) (fun i1 y2 rC rZ=>have hI:y2.Sublist (v4.take i1)/\v4.length=l.length/\l.length<=1048576:=rZ;aZ au au (ak (qaq) (aC fun v5 hv5=>pJ fun v6 hv6 _=>dI (fun _=>dm <| ak (qaq) (ah qau)) (fun _=>aZ au au (ak (qaq) (ak (qaq) (dm <| dH (fun _=>ak (qaq) (ah qau)) (fun _=>ah qau)))))))) (fun y2 hI=>have hI:y2.Sublist (v4.take v4.length)/\v4.length=l.length/\l.length<=1048576:=hI;ah qau)))
def UW:aS Z:=E1 [aA1,aEm,UG,ac9] [jS 5 (bU (fun sl=>[s0 13, .slot 4 false [some 333]]) (az cI (l1 dW)))] (a1 (bu dW)) (R1 dW) [] func271 1 ah9 (fun a=>oD a) fun a h=>(Dc a h).1
def alz (v:af):Pg Bool:=.br (jG v.Kind) (.br (ati v.re) (.br (v.Bits==0) (.ret (v.Text==[])) (.ret false)) (.ret false)) (.ret false)
def asC (v:af):=(alz v).val
def anf:aS Z:=E0 [YD,akZ] [] (a1 (aF aI)) (R1 aH) [] func272 1 alz
def auq (v:af):Pg Bool:=.lt (asC v.re) fun(v1:Bool)=> .br (v.Kind==11) (.br ((↑v.List.length:Int)==0) (.ret true) (.br (v.Kind==12) (.br ((↑v.Pairs.length:Int)==0) (.ret true) (.ret v1)) (.ret v1))) (.br (v.Kind==12) (.br ((↑v.Pairs.length:Int)==0) (.ret true) (.ret v1)) (.ret v1))
def ayu (v:af):=(auq v).val
def auu:aS Z:=E0 [anf] [] (a1 (aF aI)) (R1 aH) [] func196 1 auq
theorem aiS (n:Int):lS (IntKind.wrap .u64 n):=by
 have e:IntKind.wrap .u64 n=n % 18446744073709551616:=by
  unfold IntKind.wrap;rfl
 rw[e];exact⟨by omega,by omega⟩
theorem PZ (n:Int):lS (dB .u64 n):=aiS n
theorem u0:lS 0:=⟨by decide,by decide⟩
def aCu (n:Int):Pg Int:=.ob ((0:Int)<=1) (.ob ((0:Int)<=63) (.ret (aiK .u64 (XG .u64 (dB .u64 n) 1) (dB .u64 (zV .i64 n 63)))))
def atG (n:Int):=(aCu n).val
def aC1:aS Z:=E0 [] [] (a1 (bu cI)) (R1 (fO .u64)) [] func428 1 aCu
def awk (u:Int):Pg (List UInt8):=.ob ((8:Int)=8/\(0:Int)<=8/\8*(1:Int)<=281474976710656/\(8:Int)<=1099511627776) (.as ((ao4 8 0).length<=9223372036854775807) (.cnt qi 0 (↑(ao4 8 0).length:Int) (fun i1 (y2:List Int)=> .lt (dB .i64 (8*i1)) fun(v3:Int)=> .ob (0<=v3) (.ix i1 y2.length (.ob (i1.toNat < y2.length) (rl (y2.set i1.toNat (dB .u8 (zV .u64 u v3))))))) (fun i1 (y2:List Int)=> .ob (I5 (fun(i:Nat)=>true) y2.length=true) (.ret (txU y2))) (ao4 8 0)))
def aAw (u:Int):=(awk u).val
theorem VA (u:Int):jF (awk u) (fun r=>r.length=8):=
 have e8:(ao4 8 0).length=8:=rfl;ak (qbz) (dm <| vk (fun(i1:Int) y2=>y2.length=8) (by exact e8) au au (fun i1 y2 aJ0 aJ1 rZ=>have hI:y2.length=8:=rZ;pJ fun v3 hv3 _=>ak (qbz) (aZ au au (ak (qbz) (ah qbr)))) (fun i1 y2 _ hge hI=>have hI:y2.length=8:=hI;ak (qbz) (ah qbr)))
theorem ayn (u:Int):Is (awk u):=(VA u).1
def agV:aS Z:=E0 [] [jS 3 (bU (fun sl=>[s0 8, .row (pid (sl 3)) 5]) (az cI (l1 OU)))] (a1 (bu (fO .u64))) (R1 cStr) [] func218 1 awk fun a=>ayn a
def aEC (wire:Int):Pg Bool:=.br (wire==0) (.ret true) (.br (wire==1) (.ret true) (.ret (wire==2)))
def alm (wire:Int):=(aEC wire).val
def ahs:aS Z:=E0 [] [] (a1 (bu cI)) (R1 aH) [] func219 1 aEC
def ae6 (num:Int)(wire:Int):Pg (List UInt8×Int):=.br (decide (num < 1)) (.ret ([],6)) (.br (decide (65535 < num)) (.ret ([],6)) (.br (decide (wire < 0)) (.ret ([],6)) (.br (decide (6 < wire)) (.ret ([],6)) (.lt (dB .u64 (dB .i64 (dB .i64 (num*8)+wire))) fun(v1:Int)=> .ob (lS v1) (.ret (V5 v1,0))))))
def Di (num:Int)(wire:Int):=(ae6 num wire).val
theorem au1 (num:Int)(wire:Int):Is (ae6 num wire):=
 gu iR (fun _=>gu iR (fun _=>gu iR (fun _=>gu iR (fun _=>dF fun v1 hv1=>aX (by rw[hv1];exact PZ _) (aU)))))
def acM:aS Z:=E0 [acw] [] (aj (bu cI) (a1 (bu cI))) (shr [s0 0, s0 1] (az cStr (l1 cI))) [] func216 2 (u2 ae6) fun a=>au1 a.1 a.2
def Z9 (f:Raw):Pg Bool:=.br ((Di f.Num f.eU).2 !=0) (.ret false) (.br (alm f.eU) (.ret (f.Data==[])) (.ret (f.Bits==0)))
def Me (f:Raw):=(Z9 f).val
def adr:aS Z:=E0 [acM,ahs] [] (a1 (aF oq)) (R1 aH) [] func215 1 Z9
def QQ:List Raw->Nat
 | []=>0
 | x::l=>1+x.Data.length+QQ l
mutual
def tV:af->Nat
 | .mk _ _ t l p s r=>1+t.length+XX l+Xu p+tSs s+QQ r
def XX:List af->Nat
 | []=>0
 | x::l=>1+tV x+XX l
def tP:Pair->Nat
 | .mk k v=>1+tV k+tV v
def Xu:List Pair->Nat
 | []=>0
 | x::l=>tP x+Xu l
def tS:Slot->Nat
 | .mk _ v=>1+tV v
def tSs:List Slot->Nat
 | []=>0
 | x::l=>tS x+tSs l
end
def Nh (x:Raw):Prop:=lS x.Bits/\Me x=true
def kRs:List Raw->Prop
 | []=>True
 | x::l=>Nh x/\kRs l
mutual
def kV:af->Prop
 | .mk _ b _ l p s r=>(lS b/\kRs r)/\kVs l/\kPs p/\kSs s
def kVs:List af->Prop
 | []=>True
 | x::l=>kV x/\kVs l
def kP:Pair->Prop
 | .mk k v=>(jG k.Kind=true/\kV k)/\kV v
def kPs:List Pair->Prop
 | []=>True
 | x::l=>kP x/\kPs l
def kS:Slot->Prop
 | .mk _ v=>kV v
def kSs:List Slot->Prop
 | []=>True
 | x::l=>kS x/\kSs l
end
theorem iD (v:af):tV v=1+v.Text.length+XX v.List+Xu v.Pairs+tSs v.Slots+QQ v.bJ:=by cases v;simp[tV,af.Text,af.List,af.Pairs,af.Slots,af.bJ]
theorem O3 (x:Pair):tP x=1+tV x.Key+tV x.Val:=by cases x;simp[tP,Pair.Key,Pair.Val]
theorem xG (x:Slot):tS x=1+tV x.Val:=by cases x;simp[tS,Slot.Val]
theorem mg (v:af):1<=tV v:=by rw[iD];omega
def jH {A:Type}(f:A->Nat):List A->Nat
 | []=>0
 | x::l=>f x+jH f l
section
variable {A:Type}{f:A->Nat}
theorem n_ (l m:List A):jH f (l++m)=jH f l+jH f m:=by
 induction l with
 | nil=>simp[jH]
 | cons a l ih=>simp only[Qb5,jH,ih];omega
theorem Gt {l:List A}{x:A}(h:x∈l):f x<=jH f l:=by
 induction l with
 | nil=>cases h
 | cons a l ih=>
  simp only[jH];rcases xI.1 h with e | e
  ·subst e;omega
  ·have:=ih e;omega
theorem zf {l:List A}(h:∀x,1<=f x):l.length<=jH f l:=by
 induction l with
 | nil=>simp
 | cons a l ih=>have:=h a;simp only[jH,yF];omega
theorem vF {l m:List A}(h:l.Sublist m):jH f l<=jH f m:=by
 induction h with
 | slnil=>exact l9 _
 | cons a _ ih=>simp only[jH];omega
 | cons_cons a _ ih=>simp only[jH];omega
theorem DX {l m:List A}(h:l.Perm m):jH f l=jH f m:=by
 induction h with
 | nil=>rfl
 | cons a _ ih=>simp only[jH,ih]
 | swap a b l=>simp only[jH];omega
 | trans _ _ i1 i2=>exact i1.trans i2
theorem FC {lt:A->A->Bool}(hs:FO lt){l m:List A}(h:tu lt l m):l.Perm m:=by
 haveI:DecidableEq A:=fun a b=>Classical.propDecidable (a=b)
 refine List.perm_iff_count.2 fun a=> ?_;have e:∀n:List A,n.count a=(n.filter (eqv lt a)).count a:=fun n=>(List.count_filter (hs.rfl' a)).symm
 rw[e l,e m,h a]
theorem ql {l:List A}{i:Nat}{d:A}(hi:i < l.length):jH f (l.take (i+1))=jH f (l.take i)+f (l.getD i d):=by
 rw[take_snoc (d:=d) hi,n_];simp[jH]
end
theorem uJ (l:List af):XX l=jH (fun x=>1+tV x) l:=by
 induction l with
 | nil=>rfl
 | cons a l ih=>simp only[XX,jH,ih]
theorem wH (l:List Pair):Xu l=jH tP l:=by
 induction l with
 | nil=>rfl
 | cons a l ih=>simp only[Xu,jH,ih]
theorem wI (l:List Slot):tSs l=jH tS l:=by
 induction l with
 | nil=>rfl
 | cons a l ih=>simp only[tSs,jH,ih]
theorem Fe (l:List Raw):QQ l=jH (fun x=>1+x.Data.length) l:=by
 induction l with
 | nil=>rfl
 | cons a l ih=>simp only[QQ,jH,ih]
theorem alQ {l:List af}{x:af}(h:x∈l):1+tV x<=XX l:=by rw[uJ];exact Gt (f:=fun x=>1+tV x) h
theorem aki {l:List Pair}{x:Pair}(h:x∈l):1+tV x.Key+tV x.Val<=Xu l:=by rw[wH,<-O3];exact Gt h
theorem acy {l:List Slot}{x:Slot}(h:x∈l):1+tV x.Val<=tSs l:=by rw[wI,<-xG];exact Gt h
theorem KT (l:List af):l.length<=XX l:=by rw[uJ];exact zf fun x=>by omega
theorem GX (l:List Pair):l.length<=Xu l:=by rw[wH];exact zf fun x=>by rw[O3];omega
theorem Rx (l:List Slot):l.length<=tSs l:=by rw[wI];exact zf fun x=>by rw[xG];omega
theorem J5 (l:List Raw):l.length<=QQ l:=by rw[Fe];exact zf fun x=>by omega
theorem aze (l:List af):kVs l ↔ ∀x∈l,kV x:=by
 induction l with
 | nil=>simp[kVs]
 | cons a l ih=>simp[kVs,ih]
theorem alS (l:List Raw):kRs l ↔ ∀x∈l,Nh x:=by
 induction l with
 | nil=>simp[kRs]
 | cons a l ih=>simp[kRs,ih]
theorem aDa (x:Pair):kP x ↔ (jG x.Key.Kind=true/\kV x.Key)/\kV x.Val:=by cases x;simp[kP,Pair.Key,Pair.Val]
theorem azo (l:List Pair):kPs l ↔ ∀x∈l,(jG x.Key.Kind=true/\kV x.Key)/\kV x.Val:=by
 induction l with
 | nil=>simp[kPs]
 | cons a l ih=>simp[kPs,ih,aDa]
theorem aDZ (x:Slot):kS x ↔ kV x.Val:=by cases x;simp[kS,Slot.Val]
theorem awr (l:List Slot):kSs l ↔ ∀x∈l,kV x.Val:=by
 induction l with
 | nil=>simp[kSs]
 | cons a l ih=>simp[kSs,ih,aDZ]
theorem iw (v:af):kV v ↔ (lS v.Bits/\∀r∈v.bJ,Nh r)/\(∀x∈v.List,kV x)/\(∀x∈v.Pairs,(jG x.Key.Kind=true/\kV x.Key)/\kV x.Val)/\∀x∈v.Slots,kV x.Val:=by
 cases v;simp[kV,aze,azo,awr,alS,af.Bits,af.List,af.Pairs,af.Slots,af.bJ]
def gV (v:af):Prop:=kV v/\tV v<=1048576
def yG (k fu:Nat)(v:af):Prop:=gV v/\3*tV v+k<=fu
theorem Ob {k:Nat}{v:af}(h:yG k 0 v):False:=by
 have:=mg v;have:=h.2;omega
theorem o6 {v:af}(h:gV v):v.bJ.length<=1048576/\v.Slots.length<=1048576/\v.List.length<=1048576/\oD v.Pairs:=by
 have h1:=iD v;have h2:=J5 v.bJ;have h3:=Rx v.Slots;have h4:=KT v.List;have h5:=GX v.Pairs;have h6:=h.2;exact⟨by omega,by omega,by omega,by omega,fun x hx=>(((iw v).1 h.1).2.2.1 x hx).1.1⟩
theorem BG {v x:af}(h:gV v)(hx:x∈v.List):gV x/\tV x < tV v:=by
 have h1:=iD v;have h2:=alQ hx;have:=h.2;exact⟨⟨((iw v).1 h.1).2.1 x hx,by omega⟩,by omega⟩
theorem y_ {v:af}{x:Pair}(h:gV v)(hx:x∈v.Pairs):gV x.Val/\tV x.Val < tV v/\jG x.Key.Kind=true/\tV x.Key < tV v:=by
 have h1:=iD v;have h2:=aki hx;have h3:=((iw v).1 h.1).2.2.1 x hx;have:=h.2;exact⟨⟨h3.2,by omega⟩,by omega,h3.1.1,by omega⟩
theorem ahc {v:af}{x:Pair}(h:gV v)(hx:x∈v.Pairs):kV x.Key:=(((iw v).1 h.1).2.2.1 x hx).1.2
theorem KY {v:af}{x:Slot}(h:gV v)(hx:x∈v.Slots):gV x.Val/\tV x.Val < tV v:=by
 have h1:=iD v;have h2:=acy hx;have:=h.2;exact⟨⟨((iw v).1 h.1).2.2.2 x hx,by omega⟩,by omega⟩
theorem zo (v:af):(nM v).Kind=v.Kind/\(nM v).Text=v.Text/\(nM v).List=v.List/\(nM v).Pairs=v.Pairs/\(nM v).Slots=v.Slots/\(nM v).bJ=v.bJ:=by
 unfold nM ajG;simp only[dP,dJ,bV,aV,nJ,Qc];(repeat' split)<;>(cases v;exact⟨rfl,rfl,rfl,rfl,rfl,rfl⟩)
theorem aaE (v:af):tV (nM v)=tV v:=by
 obtain⟨h1,h2,h3,h4,h5,h6⟩:=zo v;rw[iD,iD v,h2,h3,h4,h5,h6]
theorem awQ (v:af):(nM v).Bits=v.Bits\/(nM v).Bits=9221120237041090560:=by
 unfold nM ajG;simp only[dP,dJ,bV,aV,nJ,Qc];(repeat' split)<;>(cases v;first | exact .inl rfl | exact .inr rfl)
theorem RP {v:af}(h:kV v):kV (nM v):=by
 obtain⟨h1,h2,h3,h4,h5,h6⟩:=zo v;rw[iw]at h⊢;rw[h3,h4,h5,h6];refine⟨⟨?_,h.1.2⟩,h.2⟩;rcases awQ v with e | e
 ·rw[e];exact h.1.1
 ·rw[e];exact⟨by decide,by decide⟩
theorem kD (k b:Int)(t:Str)(hb:lS b):kV (af.mk k b t [] [] [] [])/\tV (af.mk k b t [] [] [] [])=1+t.length:=by
 simp[kV,kVs,kPs,kSs,kRs,tV,XX,Xu,tSs,QQ,hb]
instance:Inhabited af:=⟨fQ⟩
instance:Inhabited ae:=⟨⟨⟨[],[]⟩,⟨[],0,0,0,0,0⟩⟩⟩
instance:Inhabited Raw:=⟨pz⟩
def aIh (aje:dD->Int->af->af)(xJ:dD->Int->af->Prop)(SE:dD->Op->af->af)(qI:dD->Op->af->Prop)(M_:dD->Op->af->af)(qF:dD->Op->af->Prop)(p:dD)(prog:Int)(v:af):Pg af:=.ob (v.bJ.length<=1048576) (.lt (match v with | af.mk Kind_ avp avx avt avv ai2 a=>a) fun(v4:List Raw)=> .br (decide (prog < 0)) (.ret (af.mk (Int.ofNat (nat_lit 10)) (Int.ofNat (nat_lit 0)) [] [] [] [] v4)) (aL p.a_ (.br (decide ((↑p.a_.length:Int)<=prog)) (.ret (af.mk (Int.ofNat (nat_lit 10)) (Int.ofNat (nat_lit 0)) [] [] [] [] v4)) (.ob (v.Slots.length<=1048576) (.lt (CS v.Slots) fun(v5:List Slot)=> aL v5 (.each false qi v5 bK (fun i1 a3 (y2:af)=> .ix i1 v5.length (.ix prog p.a_.length (.lt (y2.Slots++[Slot.mk a3.Num (SE p (lQ (p.a_.getD prog.toNat bW) a3.Num).1 a3.Val.re).re]) fun(v6:List Slot)=> .lt (ayu (SE p (lQ (p.a_.getD prog.toNat bW) a3.Num).1 a3.Val.re).re) fun(v7:Bool)=> .lt (lQ (p.a_.getD prog.toNat bW) a3.Num) fun(v8:Op×Bool)=> .br (v8.1.Card==3) (.ob (qI p v8.1 a3.Val.re) (.br (!v7) (.ob (bQ (y2.Slots.length+1) 136) (rl (af.mk y2.Kind y2.Bits y2.Text y2.List y2.Pairs v6 y2.bJ))) (rl y2.re))) (.br (v8.1.Card==4) (.ob (qI p v8.1 a3.Val.re) (.br (!v7) (.ob (bQ (y2.Slots.length+1) 136) (rl (af.mk y2.Kind y2.Bits y2.Text y2.List y2.Pairs v6 y2.bJ))) (rl y2.re))) (.ob (qI p v8.1 a3.Val.re) (.br (!v8.1.Card==5) (.ob (bQ (y2.Slots.length+1) 136) (rl (af.mk y2.Kind y2.Bits y2.Text y2.List y2.Pairs v6 y2.bJ))) (.br (!v7) (.ob (bQ (y2.Slots.length+1) 136) (rl (af.mk y2.Kind y2.Bits y2.Text y2.List y2.Pairs v6 y2.bJ))) (rl y2.re)))))))) (fun i1 (y2:af)=> .ob (sZ (fun(x x_1:Raw)=>True) y2.bJ) (.ret (af.mk y2.Kind y2.Bits y2.Text y2.List y2.Pairs y2.Slots (VJ y2.bJ)))) (af.mk (Int.ofNat (nat_lit 10)) (Int.ofNat (nat_lit 0)) [] [] [] [] v4)))))))
def OI (aje:dD->Int->af->af)(xJ:dD->Int->af->Prop)(SE:dD->Op->af->af)(qI:dD->Op->af->Prop)(M_:dD->Op->af->af)(qF:dD->Op->af->Prop)(p:dD)(o:Op)(v:af):Pg af:=.br (o.Card==4) (aL v.List (.each false qi v.List fQ (fun i1 (a3 y2:af)=> .ix i1 v.List.length (.ob (qF p o a3.re) (.ob (bQ (y2.List.length+1) 128) (rl (af.mk y2.Kind y2.Bits y2.Text (y2.List++[(M_ p o a3.re).re]) y2.Pairs y2.Slots y2.bJ))))) (fun i1 (y2:af)=> .ret y2.re) (af.mk (Int.ofNat (nat_lit 11)) (Int.ofNat (nat_lit 0)) [] [] [] [] []))) (.br (o.Card==5) (.ob (oD v.Pairs) (.lt (oH v.Pairs) fun(v7:List Pair)=> aL v7 (.each false qi v7 gJ (fun i4 a6 (y5:af)=> .ix i4 v7.length (.ob (qF p o a6.Val.re) (.ob (bQ (y5.Pairs.length+1) 256) (rl (af.mk y5.Kind y5.Bits y5.Text y5.List (y5.Pairs++[Pair.mk (nM a6.Key.re).re (M_ p o a6.Val.re).re]) y5.Slots y5.bJ))))) (fun i4 (y5:af)=> .ret y5.re) (af.mk (Int.ofNat (nat_lit 12)) (Int.ofNat (nat_lit 0)) [] [] [] [] [])))) (.ob (qF p o v.re) (.ret (M_ p o v.re).re)))
def aEJ (aje:dD->Int->af->af)(xJ:dD->Int->af->Prop)(SE:dD->Op->af->af)(qI:dD->Op->af->Prop)(M_:dD->Op->af->af)(qF:dD->Op->af->Prop)(p:dD)(o:Op)(v:af):Pg af:=.br (o.Kind==10) (.ob (xJ p o.Target v.re) (.ret (aje p o.Target v.re).re)) (.ret (nM v.re).re)
def xJ (fu:Nat)(p:dD)(prog:Int)(v:af):Prop:=yG 0 fu v
def qI (fu:Nat)(p:dD)(o:Op)(v:af):Prop:=yG 2 fu v
def qF (fu:Nat)(p:dD)(o:Op)(v:af):Prop:=yG 1 fu v
def pnV:Nat->(dD->Int->af->af)×(dD->Op->af->af)×(dD->Op->af->af)
 | 0=>(fun _ _ _=>default,fun _ _ _=>default,fun _ _ _=>default)
 | fu+1=>(fun p prog v=>(aIh ((pnV fu).1) (xJ fu) ((pnV fu).2.1) (qI fu) ((pnV fu).2.2) (qF fu) p prog v).val,fun p o v=>(OI ((pnV fu).1) (xJ fu) ((pnV fu).2.1) (qI fu) ((pnV fu).2.2) (qF fu) p o v).val,fun p o v=>(aEJ ((pnV fu).1) (xJ fu) ((pnV fu).2.1) (qI fu) ((pnV fu).2.2) (qF fu) p o v).val)
abbrev OIw (fu:Nat):=aIh ((pnV fu).1) (xJ fu) ((pnV fu).2.1) (qI fu) ((pnV fu).2.2) (qF fu)
abbrev Rq (fu:Nat):=OI ((pnV fu).1) (xJ fu) ((pnV fu).2.1) (qI fu) ((pnV fu).2.2) (qF fu)
abbrev SB (fu:Nat):=aEJ ((pnV fu).1) (xJ fu) ((pnV fu).2.1) (qI fu) ((pnV fu).2.2) (qF fu)
def Tt (p:dD)(prog:Int)(v:af):af:=(pnV (3*tV v)).1 p prog v
def acl (fu:Nat):Prop:=(∀(p:dD) (prog:Int) (v:af),xJ fu p prog v->(fun r=>kV r/\tV r<=tV v) ((pnV fu).1 p prog v))/\(∀(p:dD) (o:Op) (v:af),qI fu p o v->(fun r=>kV r/\tV r<=tV v) ((pnV fu).2.1 p o v))/\(∀(p:dD) (o:Op) (v:af),qF fu p o v->(fun r=>kV r/\tV r<=tV v) ((pnV fu).2.2 p o v))
def pnI (v4:List Raw)(v5:List Slot)(i:Nat)(y:af):Prop:=kV y/\tV y<=1+jH tS (v5.take i)+QQ v4/\y.Slots.length<=i/\y.bJ=v4
def pnL (l:List af)(i:Nat)(y:af):Prop:=kV y/\tV y<=1+jH (fun x=>1+tV x) (l.take i)/\y.List.length<=i
def pnP (l:List Pair)(i:Nat)(y:af):Prop:=kV y/\tV y<=1+jH tP (l.take i)/\y.Pairs.length<=i
theorem aIk (y z:af)(n:Int):tV (af.mk y.Kind y.Bits y.Text y.List y.Pairs (y.Slots++[Slot.mk n z]) y.bJ)=tV y+(1+tV z):=by
 rw[iD,iD y];cases y;simp only[af.Text,af.List,af.Pairs,af.Slots,af.bJ,wI,n_,jH,xG,Slot.Val];omega
theorem aHs {y z:af}{n:Int}(h:kV y)(hz:kV z):kV (af.mk y.Kind y.Bits y.Text y.List y.Pairs (y.Slots++[Slot.mk n z]) y.bJ):=by
 rw[iw]at h⊢;cases y;simp only[af.Bits,af.Text,af.List,af.Pairs,af.Slots,af.bJ]at h⊢;exact⟨h.1,h.2.1,h.2.2.1,fun x hx=>(rW.1 hx).elim (h.2.2.2 x) fun e=>by rw[zD.1 e];exact hz⟩
theorem aGH (y z:af):tV (af.mk y.Kind y.Bits y.Text (y.List++[z]) y.Pairs y.Slots y.bJ)=tV y+(1+tV z):=by
 rw[iD,iD y];cases y;simp only[af.Text,af.List,af.Pairs,af.Slots,af.bJ,uJ,n_,jH];omega
theorem aGW {y z:af}(h:kV y)(hz:kV z):kV (af.mk y.Kind y.Bits y.Text (y.List++[z]) y.Pairs y.Slots y.bJ):=by
 rw[iw]at h⊢;cases y;simp only[af.Bits,af.Text,af.List,af.Pairs,af.Slots,af.bJ]at h⊢;exact⟨h.1,fun x hx=>(rW.1 hx).elim (h.2.1 x) fun e=>by rw[zD.1 e];exact hz,h.2.2⟩
theorem aG1 (y k z:af):tV (af.mk y.Kind y.Bits y.Text y.List (y.Pairs++[Pair.mk k z]) y.Slots y.bJ)=tV y+(1+tV k+tV z):=by
 rw[iD,iD y];cases y;simp only[af.Text,af.List,af.Pairs,af.Slots,af.bJ,wH,n_,jH,O3,Pair.Key,Pair.Val];omega
theorem aGt {y k z:af}(h:kV y)(hk:jG k.Kind=true/\kV k)(hz:kV z):kV (af.mk y.Kind y.Bits y.Text y.List (y.Pairs++[Pair.mk k z]) y.Slots y.bJ):=by
 rw[iw]at h⊢;cases y;simp only[af.Bits,af.Text,af.List,af.Pairs,af.Slots,af.bJ]at h⊢;exact⟨h.1,h.2.1,fun x hx=>(rW.1 hx).elim (h.2.2.1 x) fun e=>by rw[zD.1 e];exact⟨hk,hz⟩,h.2.2.2⟩
theorem agJ {l:List Slot}(h:l.length<=1048576){x:Slot}(hx:x∈CS l):x∈l:=((yN l ⟨by omega,fun _ _ _ _=>trivial⟩).2.1.mem IY).1 ((BI l h).2.subset hx)
theorem aq2 {l:List Slot}(h:l.length<=1048576):jH tS (CS l)<=jH tS l:=by
 rw[DX (FC IY (yN l ⟨by omega,fun _ _ _ _=>trivial⟩).2.1)];exact vF (BI l h).2
theorem TD {l v:List Slot}(h:l.length<=1048576)(e:v=CS l):v.length<=1048576:=by
 have k:=(BI l h).2.length_le;have k2:=(yN l ⟨by omega,fun _ _ _ _=>trivial⟩).2.2;have k3:(CS l).length<=(aeu l).length:=k;rw[e];omega
theorem IB {l:List Pair}(h:oD l){x:Pair}(hx:x∈oH l):x∈l:=((vW l (oJ h)).2.1.mem EL).1 ((Dc l h).2.subset hx)
theorem TC {l:List Pair}(h:oD l):jH tP (oH l)<=jH tP l:=by
 rw[DX (FC EL (vW l (oJ h)).2.1)];exact vF (Dc l h).2
theorem Vq {l v:List Pair}(h:oD l)(e:v=oH l):v.length<=1048576:=by
 have k:(oH l).length<=(Yr l).length:=(Dc l h).2.length_le;have k2:=(vW l (oJ h)).2.2;have k3:=h.1;rw[e];omega
theorem aDO {l:List Raw}(h:l.length<=1048576):QQ (VJ l)=QQ l:=by
 rw[Fe,Fe];exact(DX (FC IG (PP l ⟨by omega,fun _ _ _ _=>trivial⟩).2.1)).symm
theorem alD {r:List Raw}(hr:∀x∈r,Nh x):kV (af.mk 10 0 [] [] [] [] r)/\tV (af.mk 10 0 [] [] [] [] r)=1+QQ r:=by
 have hr:=(alS r).2 hr;simp[kV,kVs,kPs,kSs,tV,XX,Xu,tSs,u0,hr]
theorem aJD {k:Nat}{fu:Nat}{v:af}{v4:List Raw}(h:yG k fu v)(e:v4=v.bJ):kV (af.mk 10 0 [] [] [] [] v4)/\tV (af.mk 10 0 [] [] [] [] v4)<=tV v:=by
 subst e;obtain⟨h1,h2⟩:=alD ((iw v).1 h.1.1).1.2;have:=iD v;exact⟨h1,by omega⟩
theorem aIw {k fu:Nat}{v:af}(h:yG k (fu+1) v){v5:List Slot}(e:v5=CS v.Slots){i:Nat}(hi:i < v5.length):yG (k+2) fu (v5.getD i bK).Val:=by
 subst e;have hm:=agJ (o6 h.1).2.1 (getD_mem (d:=bK) hi);obtain⟨g1,g2⟩:=KY h.1 hm;have:=h.2;exact⟨g1,by omega⟩
theorem aIx {k fu:Nat}{v:af}(h:yG (k+1) (fu+1) v){i:Nat}(hi:i < v.List.length):yG k fu (v.List.getD i fQ):=by
 obtain⟨g1,g2⟩:=BG h.1 (getD_mem (d:=fQ) hi);have:=h.2;exact⟨g1,by omega⟩
theorem awt {k fu:Nat}{v:af}(h:yG (k+1) (fu+1) v){v7:List Pair}(e:v7=oH v.Pairs){i:Nat}(hi:i < v7.length):yG k fu (v7.getD i gJ).Val/\jG (v7.getD i gJ).Key.Kind=true/\kV (v7.getD i gJ).Key:=by
 subst e;have hm:=IB (o6 h.1).2.2.2 (getD_mem (d:=gJ) hi);obtain⟨g1,g2,g3,_⟩:=y_ h.1 hm;have:=h.2;exact⟨⟨g1,by omega⟩,g3,ahc h.1 hm⟩
theorem QW {k fu:Nat}{v:af}(h:yG (k+1) (fu+1) v):yG k fu v:=⟨h.1,by have:=h.2;omega⟩
theorem aIb {k fu:Nat}{v:af}{v4:List Raw}{v5:List Slot}(h:yG k fu v)(e:v4=v.bJ):pnI v4 v5 0 (af.mk 10 0 [] [] [] [] v4):=by
 obtain⟨h1,h2⟩:=alD (r:=v4) (by rw[e];exact((iw v).1 h.1.1).1.2);exact⟨h1,by rw[h2];simp[jH],l9 _,rfl⟩
theorem ars {v4:List Raw}{v5:List Slot}{i:Nat}{y:af}(h:pnI v4 v5 i y):pnI v4 v5 (i+1) y.re:=by
 rw[af.dK];obtain⟨h1,h2,h3,h4⟩:=h;have:=vF (f:=tS) (Qdm (l:=v5) (show i<=i+1 by omega));exact⟨h1,by omega,by omega,h4⟩
theorem axL {v4:List Raw}{v5:List Slot}{i:Nat}{y z:af}{n:Int}(hi:i < v5.length)(h:pnI v4 v5 i y)(hz:kV z/\tV z<=tV (v5.getD i bK).Val){v6:List Slot}(e:v6=y.Slots++[Slot.mk n z]):pnI v4 v5 (i+1) (af.mk y.Kind y.Bits y.Text y.List y.Pairs v6 y.bJ):=by
 obtain⟨h1,h2,h3,h4⟩:=h;rw[e];have k:=ql (f:=tS) (d:=bK) hi;have k2:=xG (v5.getD i bK);refine⟨aHs h1 hz.1,?_,?_,h4⟩
 ·rw[aIk];omega
 ·show(y.Slots++[Slot.mk n z]).length<=i+1
  simp only[kT,yF,BM];omega
theorem axz {k fu:Nat}{v:af}{v4:List Raw}{v5:List Slot}{y:af}(h:yG k fu v)(e4:v4=v.bJ)(e5:v5=CS v.Slots)(hI:pnI v4 v5 v5.length y):kV (af.mk y.Kind y.Bits y.Text y.List y.Pairs y.Slots (VJ y.bJ))/\tV (af.mk y.Kind y.Bits y.Text y.List y.Pairs y.Slots (VJ y.bJ))<=tV v:=by
 obtain⟨h1,h2,h3,h4⟩:=hI;have hl:=o6 h.1;have hr:y.bJ.length<=1048576:=by rw[h4,e4];exact hl.1
 have k1:=aq2 hl.2.1;have k2:=iD v;have k3:=aDO hr;have k4:=wI v.Slots;have k5:=iD y;rw[Eo,e5]at h2;rw[e4]at h2;refine⟨?_,?_⟩
 ·have hm:∀x∈VJ y.bJ,Nh x:=fun x hx=>((iw y).1 h1).1.2 x (((PP y.bJ ⟨by omega,fun _ _ _ _=>trivial⟩).2.1.mem IG).1 hx)
  rw[iw]at h1⊢;cases y;exact⟨⟨h1.1.1,hm⟩,h1.2⟩
 ·rw[iD];show 1+y.Text.length+XX y.List+Xu y.Pairs+tSs y.Slots+QQ (VJ y.bJ)<=tV v
  rw[k3];omega
theorem aGe {l:List af}:pnL l 0 (af.mk 11 0 [] [] [] [] []):=by
 obtain⟨h1,h2⟩:=kD 11 0 [] u0;exact⟨h1,by rw[h2];simp[jH],l9 _⟩
theorem ayi {l:List af}{i:Nat}{y z:af}(hi:i < l.length)(h:pnL l i y)(hz:kV z/\tV z<=tV (l.getD i fQ)):pnL l (i+1) (af.mk y.Kind y.Bits y.Text (y.List++[z]) y.Pairs y.Slots y.bJ):=by
 obtain⟨h1,h2,h3⟩:=h;have k:=ql (f:=fun x=>1+tV x) (d:=fQ) hi;refine⟨aGW h1 hz.1,?_,?_⟩
 ·rw[aGH];omega
 ·show(y.List++[z]).length<=i+1
  simp only[kT,yF,BM];omega
theorem azH {v y:af}(hI:pnL v.List v.List.length y):kV y.re/\tV y.re<=tV v:=by
 rw[af.dK];obtain⟨h1,h2,h3⟩:=hI;have k2:=iD v;have k4:=uJ v.List;rw[Eo]at h2;exact⟨h1,by omega⟩
theorem aGx {l:List Pair}:pnP l 0 (af.mk 12 0 [] [] [] [] []):=by
 obtain⟨h1,h2⟩:=kD 12 0 [] u0;exact⟨h1,by rw[h2];simp[jH],l9 _⟩
theorem ays {l:List Pair}{i:Nat}{y k z:af}(hi:i < l.length)(h:pnP l i y)(hk:(jG k.Kind=true/\kV k)/\tV k<=tV (l.getD i gJ).Key)(hz:kV z/\tV z<=tV (l.getD i gJ).Val):pnP l (i+1) (af.mk y.Kind y.Bits y.Text y.List (y.Pairs++[Pair.mk k z]) y.Slots y.bJ):=by
 obtain⟨h1,h2,h3⟩:=h;have q:=ql (f:=tP) (d:=gJ) hi;have q2:=O3 (l.getD i gJ);refine⟨aGt h1 hk.1 hz.1,?_,?_⟩
 ·rw[aG1];omega
 ·show(y.Pairs++[Pair.mk k z]).length<=i+1
  simp only[kT,yF,BM];omega
theorem axh {k fu:Nat}{v y:af}{v7:List Pair}(h:yG k fu v)(e:v7=oH v.Pairs)(hI:pnP v7 v7.length y):kV y.re/\tV y.re<=tV v:=by
 rw[af.dK];obtain⟨h1,h2,h3⟩:=hI;have k1:=TC (o6 h.1).2.2.2;have k2:=iD v;have k4:=wH v.Pairs;rw[Eo,e]at h2;exact⟨h1,by omega⟩
theorem asj {v:af}{v4:List Raw}{v5:List Slot}{i:Nat}{y:af}(h:pnI v4 v5 i y)(e:v4=v.bJ)(hl:v.bJ.length<=1048576):sZ (fun(_ _:Raw)=>True) y.bJ:=⟨by rw[h.2.2.2,e];omega,fun _ _ _ _=>trivial⟩
theorem Zg (fu:Nat)(ih:acl fu)(p:dD)(prog:Int)(v:af)(h:xJ (fu+1) p prog v):jF (OIw fu p prog v) (fun r=>kV r/\tV r<=tV v):=
 have h:yG 0 (fu+1) v:=h;have hl:=o6 h.1;ak (qag) (aC fun v4 hv4=>bT (fun _=>ah qah) (fun _=>dm <| bT (fun _=>ah qah) (fun _=>ak (qag) (aC fun v5 hv5=>dm <| cZ (fun(i1:Nat) y2=>pnI v4 v5 i1 y2) (by exact aIb h hv4) (by(have:=TD hl.2.1 hv5;omega)) (fun i1 y2 rC rZ=>have hI:pnI v4 v5 i1 y2:=rZ;aZ au au (aZ au au (aC fun v6 hv6=>aC fun v7 hv7=>aC fun v8 Nl=>dI (fun _=>ak (qag) (dH (fun _=>ak (qag) (ah qah)) (fun _=>ah qah))) (fun _=>dI (fun _=>ak (qag) (dH (fun _=>ak (qag) (ah qah)) (fun _=>ah qah))) (fun _=>ak (qag) (dH (fun _=>ak (qag) (ah qah)) (fun _=>dH (fun _=>ak (qag) (ah qah)) (fun _=>ah qah)))))))) (fun y2 hI=>have hI:pnI v4 v5 v5.length y2:=hI;ak (qag) (ah qah))))))
theorem WJ (fu:Nat)(ih:acl fu)(p:dD)(o:Op)(v:af)(h:qI (fu+1) p o v):jF (Rq fu p o v) (fun r=>kV r/\tV r<=tV v):=
 have h:yG 2 (fu+1) v:=h;have hl:=o6 h.1;dI (fun _=>dm <| cZ (fun(i1:Nat) y2=>pnL v.List i1 y2) (by exact aGe) au (fun i1 y2 rC rZ=>have hI:pnL v.List i1 y2:=rZ;aZ au au (ak (qak) (ak (qak) (ah qaf)))) (fun y2 hI=>have hI:pnL v.List v.List.length y2:=hI;ah qaf)) (fun _=>dI (fun _=>ak (qak) (aC fun v7 hv7=>dm <| cZ (fun(i4:Nat) y5=>pnP v7 i4 y5) (by exact aGx) (by(have:=Vq hl.2.2.2 hv7;omega)) (fun i4 y5 age aFv=>have hI:pnP v7 i4 y5:=aFv;aZ au au (ak (qak) (ak (qak) (ah qaf)))) (fun y5 hI=>have hI:pnP v7 v7.length y5:=hI;ah qaf))) (fun _=>ak (qak) (ah qaf)))
theorem U3 (fu:Nat)(ih:acl fu)(p:dD)(o:Op)(v:af)(h:qF (fu+1) p o v):jF (SB fu p o v) (fun r=>kV r/\tV r<=tV v):=
 have h:yG 1 (fu+1) v:=h;dI (fun _=>ak ((by(show yG 0 fu _;rw[af.dK];exact QW h))) (ah qbe)) (fun _=>ah qbe)
theorem B_:∀fu,acl fu
 | 0=>⟨fun p prog v h=>False.elim (Ob h),
  fun p o v h=>False.elim (Ob h),
  fun p o v h=>False.elim (Ob h)⟩
 | fu+1=>⟨fun p prog v h=>(Zg fu (B_ fu) p prog v h).2,
  fun p o v h=>(WJ fu (B_ fu) p o v h).2,
  fun p o v h=>(U3 fu (B_ fu) p o v h).2⟩
theorem auJ (fu:Nat)(p:dD)(prog:Int)(v:af)(h:xJ (fu+1) p prog v):Is (OIw fu p prog v):=(Zg fu (B_ fu) p prog v h).1
theorem anh (fu:Nat)(p:dD)(o:Op)(v:af)(h:qI (fu+1) p o v):Is (Rq fu p o v):=(WJ fu (B_ fu) p o v h).1
theorem amA (fu:Nat)(p:dD)(o:Op)(v:af)(h:qF (fu+1) p o v):Is (SB fu p o v):=(U3 fu (B_ fu) p o v h).1
theorem PO (p:dD)(prog:Int)(v:af)(h:gV v):(fun r=>kV r/\tV r<=tV v) (Tt p prog v):=(B_ (3*tV v)).1 p prog v (⟨h,l9 _⟩)
theorem aAk:∀fu,fV Z.P Z.S 124 (oP (args (aj (aF dX) (aj (bu cI) (a1 (aF aI))))) (shr [.slot 0 true (nn 7)] (l1 aI)) 1 [] (fun a=>some (xJ fu (a.1) (a.2.1) (a.2.2))) (fun a=>(pnV fu).1 (a.1) (a.2.1) (a.2.2)))/\fV Z.P Z.S 195 (oP (args (aj (aF dX) (aj (aF ji) (a1 (aF aI))))) (shr [.slot 0 true (nn 7)] (l1 aI)) 1 [] (fun a=>some (qI fu (a.1) (a.2.1) (a.2.2))) (fun a=>(pnV fu).2.1 (a.1) (a.2.1) (a.2.2)))/\fV Z.P Z.S 270 (oP (args (aj (aF dX) (aj (aF ji) (a1 (aF aI))))) (shr [.slot 0 true (nn 7)] (l1 aI)) 1 [] (fun a=>some (qF fu (a.1) (a.2.1) (a.2.2))) (fun a=>(pnV fu).2.2 (a.1) (a.2.1) (a.2.2)))
 | 0=>⟨iH func124 dU (fun a h=>Ob h),
  iH func195 dU (fun a h=>Ob h),
  iH func270 dU (fun a h=>Ob h)⟩
 | fu+1=>by
  obtain⟨h0,h1,h2⟩:=aAk fu;exact⟨G9 [aHh,asz,O9,auu,auC,Vy,⟨124,_,h0⟩,⟨195,_,h1⟩,⟨270,_,h2⟩] [jS 5 (bU (fun sl=>[s0 32, .cells (pid (sl 7)) [none,none,none,none,none,some 261,some 268]]) (az cI (l1 aI))),jS 800001 (bU (fun sl=>[.cells (pid (sl 7)) [none,none,none,none,none,some 261,some 268]]) (l1 aI))] func124 ntmps124 (fun a=>OIw fu a.1 a.2.1 a.2.2) (fun a h=>⟨auJ fu a.1 a.2.1 a.2.2 h,rfl⟩) (kH (n:=86) rfl),
   G9 [LX,UW,⟨124,_,h0⟩,⟨195,_,h1⟩,⟨270,_,h2⟩] [jS 5 (bU (fun sl=>[s0 21, .cells (pid (sl 7)) [none,none,none,some 84,none,none,none]]) (az cI (l1 aI))),jS 13 (bU (fun sl=>[s0 43, .cells (pid (sl 10)) [none,none,none,none,some 333,none,none]]) (az cI (l1 aI))),jS 800003 (bU (fun sl=>[.cells (pid (sl 7)) [none,none,none,some 84,none,none,none]]) (l1 aI)),jS 800011 (bU (fun sl=>[.cells (pid (sl 10)) [none,none,none,none,some 333,none,none]]) (l1 aI))] func195 ntmps195 (fun a=>Rq fu a.1 a.2.1 a.2.2) (fun a h=>⟨anh fu a.1 a.2.1 a.2.2 h,rfl⟩) (kH (n:=67) rfl),
   G9 [LX,⟨124,_,h0⟩,⟨195,_,h1⟩,⟨270,_,h2⟩] [] func270 ntmps270 (fun a=>SB fu a.1 a.2.1 a.2.2) (fun a h=>⟨amA fu a.1 a.2.1 a.2.2 h,rfl⟩) (kH (n:=17) rfl)⟩
def ajz:aS Z:=⟨124,oP (args (aj (aF dX) (aj (bu cI) (a1 (aF aI))))) (shr [.slot 0 true (nn 7)] (l1 aI)) 1 [] (fun a=>some (gV (a.2.2))) (fun a=>Tt (a.1) (a.2.1) (a.2.2)),jM (fun n=>((aAk n).1)) _ _ (fun a h=>⟨3*tV (a.2.2),⟨h,l9 _⟩,rfl⟩)⟩
theorem ayg (s:Str):lS (EW s).1:=by
 unfold EW afy;simp only[bV,aV,BX];cases decide ((s.length:Int) < 8)with
 | true=>exact u0
 | false=>exact FY (Q:=fun(r:Int×Int)=>lS r.1) (fun _ y=>lS y) 8 _ 0 0 rfl u0 (fun i y _ _=>by simp only[jZ,dJ,dP,aV];exact aiS _) (fun i y _ h=>h)
theorem afQ {c:aN}:lS (yX c).1:=by
 have k:=ayg (rP c 8);unfold yX U6;simp only[dP,dJ,bV,aV];cases(EW (rP c 8)).2 !=0 with
 | true=>exact u0
 | false=>exact k
theorem Vj {f:Raw}(h1:1<=f.Num/\f.Num<=65535)(h2:0<=f.eU/\f.eU<=6)(h3:lS f.Bits)(h4:f.eU<=2->f.Data=[])(h5:3<=f.eU->f.Bits=0):Nh f:=by
 refine⟨h3,?_⟩;have e1:(Di f.Num f.eU).2=0:=by
  unfold Di ae6;simp only[bV,dJ,dP,aV];rw[qy (show ¬f.Num < 1 by omega),qy (show ¬65535 < f.Num by omega),qy (show ¬f.eU < 0 by omega),qy (show ¬6 < f.eU by omega)];rfl
 have e2:alm f.eU=decide (f.eU<=2):=by
  unfold alm aEC;simp only[bV,aV];by_cases w0:f.eU=0
  ·rw[w0];rfl
  by_cases w1:f.eU=1
  ·rw[w1];rfl
  rw[beq_false_of_ne w0,beq_false_of_ne w1];by_cases w2:f.eU=2
  ·rw[w2];rfl
  ·rw[qy au];exact beq_false_of_ne w2
 unfold Me Z9;simp only[bV,aV];rw[e1,e2];by_cases hw:f.eU<=2
 ·rw[uu hw,h4 hw];rfl
 ·rw[qy hw,h5 au];rfl
theorem ae3 {c:aN}(h:ng c){f:Raw}(hw:0<=f.eU/\f.eU<=6)(hb:f.Bits=0)(hd:f.Data=[]):(iU c f).2.2.Num=f.Num/\(iU c f).2.2.eU=f.eU/\lS (iU c f).2.2.Bits/\(f.eU<=2->(iU c f).2.2.Data=[])/\(3<=f.eU->(iU c f).2.2.Bits=0):=by
 have hh:∀K:Bool->aN×Int×Raw,(thenS (bif f.eU==0 then(Sum.inl (f.eU==0):Bool⊕(aN×Int×Raw))else Sum.inl (f.eU==1)) K)=K (bif f.eU==0 then true else f.eU==1):=fun K=>by cases e:f.eU==0<;>rfl
 unfold iU Au;simp only[dP,dJ,bV,aV,nJ];rw[hh];cases e1:(bif f.eU==0 then true else f.eU==1)with
 | true=>
  have hl:f.eU<=2:=by
   by_cases w0:f.eU=0
   ·omega
   ·rw[beq_false_of_ne w0]at e1;have:=eq_of_beq (show(f.eU==1)=true from e1);omega
  exact⟨rfl,rfl,(lu h).1,fun _=>hd,fun h3=>absurd hl au⟩
 | false=>
  cases e2:f.eU==2 with
  | true=>
   have hl:=eq_of_beq e2;exact⟨rfl,rfl,afQ,fun _=>hd,fun h3=>absurd hl au⟩
  | false=>
   have hn:¬f.eU<=2:=fun hl=>by
    by_cases w0:f.eU=0
    ·rw[w0]at e1;cases e1
    by_cases w1:f.eU=1
    ·rw[w1]at e1;cases e1
    have:f.eU=2:=by omega
    rw[this]at e2;cases e2
   exact⟨rfl,rfl,by show lS f.Bits;rw[hb];exact u0,fun hl=>absurd hl hn,fun _=>hb⟩
theorem ap2 {c:aN}(h0:(uB c).2.2.2=0)(h:ng c):(1<=(uB c).1/\(uB c).1<=65535)/\0<=(uB c).2.1/\(uB c).2.1<=6:=by
 obtain⟨⟨u1,u2⟩,k⟩:=lu h;unfold uB ayc at h0⊢;simp only[dP,dJ,bV,aV]at h0⊢;cases e:(bG c).2.2 !=0 with
 | true=>
  rw[e]at h0;have h0:(bG c).2.2=0:=h0;rw[h0]at e;cases e
 | false=>
  rw[e]at h0;simp only[pO]at h0⊢;have m8:(bG c).1.tmod 8=(bG c).1 % 8:=Int.tmod_eq_emod_of_nonneg u1;have d8:(bG c).1.tdiv 8=(bG c).1 / 8:=Int.tdiv_eq_ediv_of_nonneg u1;rw[m8,d8]at h0⊢;have w1:dB .u64 ((bG c).1 / 8)=(bG c).1 / 8:=gz (k:= .u64) BZ;rw[w1]at h0⊢;by_cases e2:(bG c).1 % 8=7
  ·rw[e2]at h0;cases h0
  have e2':((bG c).1 % 8==7)=false:=beq_false_of_ne e2;rw[e2']at h0⊢;simp only[pO]at h0⊢;by_cases e3:(bG c).1 / 8 < 1
  ·rw[uu e3]at h0;cases h0
  rw[qy e3]at h0⊢;by_cases e4:65535 < (bG c).1 / 8
  ·rw[uu e4]at h0;cases h0
  rw[qy e4];have w2:dB .i64 ((bG c).1 / 8)=(bG c).1 / 8:=gz (k:= .i64) BZ;have w3:dB .i64 ((bG c).1 % 8)=(bG c).1 % 8:=gz (k:= .i64) BZ;simp only[pO,w2,w3];omega
theorem ay4 {c:aN}(h:ng c)(h0:(wF c).2.2=0):Nh (wF c).1:=by
 have k:=Bc h;have kr:=fun h0=>ap2 (c:=c) h0 h
 unfold wF Yq at h0⊢;simp only[dP,dJ,bV,aV]at h0⊢;generalize uB c=v1 at*;cases e:v1.2.2.2 !=0 with
 | true=>
  rw[e]at h0;have h0:v1.2.2.2=0:=h0;rw[h0]at e;cases e
 | false=>
  obtain⟨k1,k2⟩:=k (kG.1 e);obtain⟨r1,r2⟩:=kr (kG.1 e);rw[e]at h0;simp only[pO]at h0⊢;have s:=xY k1.1 (n:=1);generalize rJ v1.2.2.1 1=v2 at*;cases e2:v2.2 !=0 with
  | true=>
   rw[e2]at h0;have h0:v2.2=0:=h0;rw[h0]at e2;cases e2
  | false=>
   obtain⟨s1,_⟩:=s (kG.1 e2);rw[e2]at h0;simp only[pO]at h0⊢;obtain⟨t1,t2,t3,t4,t5⟩:=ae3 s1.1 (f:=Raw.mk v1.1 v1.2.1 0 []) r2 rfl rfl;generalize iU v2.1 (Raw.mk v1.1 v1.2.1 0 [])=v3 at*;cases e3:v3.2.1 !=0 with
   | true=>
    rw[e3]at h0;have h0:v3.2.1=0:=h0;rw[h0]at e3;cases e3
   | false=>
    have t1:v3.2.2.Num=v1.1:=t1;have t2:v3.2.2.eU=v1.2.1:=t2;have t4:v1.2.1<=2->v3.2.2.Data=[]:=t4;have t5:3<=v1.2.1->v3.2.2.Bits=0:=t5;show Nh v3.2.2
    exact Vj (by rw[t1];exact r1) (by rw[t2];exact r2) t3 (fun hl=>t4 au) (fun hl=>t5 au)
theorem Po {wire:Int}{r:ae}(h:ng r.c):lS (iE wire r).1.Bits:=by
 unfold iE A7;simp only[dP,dJ,bV,aV];cases wire==3 with
 | true=>
  simp only[Bo];cases(jV r).2.1 !=0<;>exact u0
 | false=>
  simp only[pO];cases wire==2 with
  | true=>exact afQ
  | false=>exact(lu h).1
theorem anx {c:aN}(h:ng c){wire:Int}(h0:(BP c wire).2.2=0):((BP c wire).1.length:Int)+1<=(BP c wire).2.1.At - c.At:=by
 obtain⟨ku,k⟩:=lu h;unfold BP afc at h0⊢;simp only[dP,dJ,bV,aV,nJ]at h0⊢;cases e:(bG c).2.2 !=0 with
 | true=>
  rw[e]at h0;have h0:(bG c).2.2=0:=h0;rw[h0]at e;cases e
 | false=>
  obtain⟨ka,kn⟩:=k (kG.1 e);have kok:=ka.1;have kl:=qX kok;have hw:thenS (bif wire==3 then(Sum.inl c.Text:Int⊕(Str×aN×Int))else Sum.inl 65536)=thenS (.inl (bif wire==3 then c.Text else 65536)):=by cases wire==3<;>rfl
  rw[e]at h0;simp only[pO]at h0⊢;rw[hw]at h0⊢;simp only[qE]at h0⊢;obtain⟨⟨q1,q2,q3,q4⟩,q5⟩:=kok;obtain⟨u1,u2⟩:=ku;rw[kl,gz (k:= .u64) BZ]at h0⊢;by_cases e2:(bG c).2.1.End - (bG c).2.1.At < (bG c).1
  ·rw[uu e2]at h0;cases h0
  rw[qy e2]at h0⊢;rw[gz (k:= .i64) BZ]at h0⊢;by_cases e3:(bif wire==3 then c.Text else 65536) < (bG c).1
  ·rw[uu e3]at h0;cases h0
  rw[qy e3];simp only[pO];rw[gz (k:= .i64) BZ];obtain⟨_,p2,p3,p4,p5,p6,p7⟩:=ka;show((List.drop (bG c).2.1.At.toNat (List.take ((bG c).2.1.At+(bG c).1).toNat (bG c).2.1.Data)).length:Int)+1<=(bG c).2.1.At+(bG c).1 - c.At
  rw[Nk,uw];omega
theorem Xo {c:aN}(h:ng c){f:Raw}(hf:f.Data=[])(h0:(iU c f).2.1=0):((iU c f).2.2.Data.length:Int)+1<=(iU c f).1.At - c.At:=by
 have ha:=Ig h h0;have hw:∀K:Bool->aN×Int×Raw,(thenS (bif f.eU==0 then(Sum.inl (f.eU==0):Bool⊕(aN×Int×Raw))else Sum.inl (f.eU==1)) K)=K (bif f.eU==0 then true else f.eU==1):=fun K=>by cases e:f.eU==0<;>rfl
 have h7:=ha.1.2.2.2.2.2.2;unfold iU Au at h0 h7⊢;simp only[dP,dJ,bV,aV,nJ]at h0 h7⊢;rw[hw]at h0 h7⊢;cases e:(bif f.eU==0 then true else f.eU==1)with
 | true=>
  rw[e]at h7;simp only[Bo,hf]at h7⊢;simp only[BM];omega
 | false=>
  rw[e]at h0 h7;cases e2:f.eU==2 with
  | true=>
   rw[e2]at h7;simp only[Bo,pO,hf]at h7⊢;simp only[BM];omega
  | false=>rw[e2]at h0;exact anx h h0
theorem an2 {c:aN}(h:ng c)(h0:(wF c).2.2=0):((wF c).1.Data.length:Int)+1<=(wF c).2.1.At - c.At:=by
 have k:=Bc h;unfold wF Yq at h0⊢;simp only[dP,dJ,bV,aV]at h0⊢;generalize uB c=v1 at*;cases e:v1.2.2.2 !=0 with
 | true=>
  rw[e]at h0;have h0:v1.2.2.2=0:=h0;rw[h0]at e;cases e
 | false=>
  obtain⟨k1,k2⟩:=k (kG.1 e);rw[e]at h0;simp only[pO]at h0⊢;have s:=xY k1.1 (n:=1);generalize rJ v1.2.2.1 1=v2 at*;cases e2:v2.2 !=0 with
  | true=>
   rw[e2]at h0;have h0:v2.2=0:=h0;rw[h0]at e2;cases e2
  | false=>
   obtain⟨s1,s2,s3,_⟩:=s (kG.1 e2);rw[e2]at h0;simp only[pO]at h0⊢;have t:=Xo s1.1 (f:=Raw.mk v1.1 v1.2.1 0 []) rfl;generalize iU v2.1 (Raw.mk v1.1 v1.2.1 0 [])=v3 at*;cases e3:v3.2.1 !=0 with
   | true=>
    rw[e3]at h0;have h0:v3.2.1=0:=h0;rw[h0]at e3;cases e3
   | false=>
    have t:=t (kG.1 e3);have k7:=k1.2.2.2.2.2.2;simp only[pO];omega
theorem amY {c:aN}{n:Int}:(zM c n).1.length<=n.toNat:=by
 unfold zM aen;simp only[dP,dJ,bV,aV,Qc];(repeat' split)<;>first | exact vg _ | skip
 show(txU (aa2 c n)).length<=_
 rw[G6];unfold aa2 abN;simp only[dP,dJ,aV,uw];omega
theorem Ic {wire:Int}{r:ae}(h:ng r.c)(h0:(iE wire r).2.1=0):DV 1 r.c (iE wire r).2.2.c/\(iE wire r).2.2.p=r.p/\((iE wire r).1.Data.length:Int)+1<=(iE wire r).2.2.c.At - r.c.At/\(iE wire r).1.Data.length<=1048576/\(iE wire r).2.2.c.Nodes=r.c.Nodes:=by
 have fin:DV 1 r.c (iE wire r).2.2.c/\(iE wire r).2.2.p=r.p/\((iE wire r).1.Data.length:Int)+1<=(iE wire r).2.2.c.At - r.c.At/\(iE wire r).2.2.c.Nodes=r.c.Nodes:=by
  unfold iE A7 at h0⊢;simp only[dP,dJ,bV,aV]at h0⊢;cases e1:wire==3 with
  | true=>
   rw[e1]at h0;simp only[Bo]at h0⊢;have k:=vU h;generalize jV r=v1 at*;cases e2:v1.2.1 !=0 with
   | true=>
    rw[e2]at h0;have h0:v1.2.1=0:=h0;rw[h0]at e2;cases e2
   | false=>
    rw[e2]at h0;simp only[pO]at h0⊢;obtain⟨k1,k2,k3,k4,k5⟩:=k (kG.1 e2);obtain⟨t1,t2,t3,t4⟩:=am7 k1.1 (n:=v1.1) h0;have t5:=amY (c:=v1.2.2.c) (n:=v1.1);have k7:=k1.2.2.2.2.2.2;exact⟨kK (j_ k1 t1) nG,k3,by show(((zM v1.2.2.c v1.1).1.length:Nat):Int)+1<=(zM v1.2.2.c v1.1).2.1.At - r.c.At;omega,t2.trans k2⟩
  | false=>
   rw[e1]at h0;simp only[pO]at h0⊢;cases e2:wire==2 with
   | true=>
    rw[e2]at h0;simp only[Bo]at h0⊢;obtain⟨k1,k2⟩:=UX h h0;have k7:=k1.2.2.2.2.2.2;exact⟨k1,by trivial,by simp only[BM];omega,k2⟩
   | false=>
    rw[e2]at h0;simp only[pO]at h0⊢;obtain⟨k1,k2⟩:=(lu h).2 h0;have k7:=k1.2.2.2.2.2.2;exact⟨k1,by trivial,by simp only[BM];omega,k2⟩
 obtain⟨f1,f2,f3,f4⟩:=fin;refine⟨f1,f2,f3,?_,f4⟩;obtain⟨⟨q1,q2,q3,q4⟩,_⟩:=f1.1;obtain⟨⟨p1,_⟩,_⟩:=h;omega
theorem LM (v:af)(num:Int):((f_ v num).2=true/\∃s∈v.Slots,s.Num=num/\s.Val=(f_ v num).1)\/((f_ v num).2=false/\(f_ v num).1=af.mk 0 0 [] [] [] [] []):=by
 unfold f_ aoZ;simp only[lh,EG];refine G8 (d:=bK) (Q:=fun(r:af×Bool)=>(r.2=true/\∃s∈v.Slots,s.Num=num/\s.Val=r.1)\/(r.2=false/\r.1=af.mk 0 0 [] [] [] [] [])) (fun _ _=>True) v.Slots 0 () trivial (fun j y hj _=> ?_) (fun y _=> ?_)
 ·simp only[jZ,bV,aV,DU];cases e:(v.Slots.getD j bK).Num==num with
  | true=>exact .inl ⟨rfl,_,getD_mem hj,eq_of_beq e,by rw[af.dK]⟩
  | false=>trivial
 ·exact .inr ⟨rfl,rfl⟩
theorem amP {A:Type}{f:A->Nat}(p:A->Bool)(l:List A):jH f l=jH f (l.filter p)+jH f (l.filter fun a=> !p a):=by
 induction l with
 | nil=>rfl
 | cons a l ih=>
  simp only[Qca];cases p a<;>simp[jH,ih]<;>omega
theorem adP (g:bC)(v:af)(o:Op)(x:af)(h:v.Slots.length<=1048576):∃l,l.Sublist (v.Slots.filter fun s=> !(s.Num==o.Num))/\xX g v o x=af.mk 10 0 [] [] [] (l++[Slot.mk o.Num x]) v.bJ:=(ac7 g v o x h).2
theorem I7 {g:bC}{v:af}{o:Op}{x:af}(h:v.Slots.length<=1048576):tV (xX g v o x)+(bif (f_ v o.Num).2 then 1+tV (f_ v o.Num).1 else 0)<=tV v+1+tV x:=by
 obtain⟨l,h1,h2⟩:=adP g v o x h;have h3:=iD v;have h4:jH tS l<=jH tS (v.Slots.filter fun s=> !(s.Num==o.Num)):=vF h1;have h5:=amP (f:=tS) (fun s:Slot=> !(s.Num==o.Num)) v.Slots;have h6:=wI v.Slots;have e:tV (xX g v o x)=1+(jH tS l+(1+tV x))+QQ v.bJ:=by
  rw[h2,iD];simp only[af.Text,af.List,af.Pairs,af.Slots,af.bJ,XX,Xu,BM];rw[wI,n_];simp only[jH,xG,Slot.Val];omega
 rw[e];rcases LM v o.Num with⟨k1,s,k2,k3,k4⟩ | ⟨k1,_⟩
 ·have k1:(f_ v o.Num).2=true:=k1;have k4:s.Val=(f_ v o.Num).1:=k4;rw[k1,<-k4];have h7:tS s<=jH tS (v.Slots.filter fun a=> !!(a.Num==o.Num)):=Gt (R_.2 ⟨k2,by simp[k3]⟩);rw[xG]at h7;simp only[Bo];omega
 ·have k1:(f_ v o.Num).2=false:=k1;rw[k1];simp only[pO];omega
theorem IE {g:bC}{v:af}{o:Op}{x:af}(h:v.Slots.length<=1048576)(hv:kV v)(hx:kV x):kV (xX g v o x):=by
 obtain⟨l,h1,h2⟩:=adP g v o x h;have hr:=((iw v).1 hv).1.2;have hs:=((iw v).1 hv).2.2.2;rw[h2,iw];refine⟨⟨u0,hr⟩,fun x hx=>absurd hx (Qb),fun x hx=>absurd hx (Qb),fun y hy=> ?_⟩;have hy:y∈l++[Slot.mk o.Num x]:=hy;rcases rW.1 hy with hy | hy
 ·exact hs y (R_.1 (h1.subset hy)).1
 ·rw[zD.1 hy];exact hx
theorem F7 {v:af}{num:Int}(hv:kV v):kV (f_ v num).1:=by
 rcases LM v num with⟨k1,s,k2,k3,k4⟩ | ⟨k1,k2⟩
 ·have k4:s.Val=(f_ v num).1:=k4;rw[<-k4];exact((iw v).1 hv).2.2.2 s k2
 ·have k2:(f_ v num).1=_:=k2;rw[k2];exact(kD 0 0 [] u0).1
theorem Su {v:af}{num:Int}:tV (f_ v num).1<=tV v/\((f_ v num).2=false->tV (f_ v num).1=1):=by
 rcases LM v num with⟨k1,s,k2,k3,k4⟩ | ⟨k1,k2⟩
 ·have k4:s.Val=(f_ v num).1:=k4;have k1:(f_ v num).2=true:=k1;refine⟨?_,fun h=>by rw[k1]at h;cases h⟩;have:=acy k2;have:=iD v;rw[<-k4];omega
 ·have k2:(f_ v num).1=_:=k2;have e:tV (f_ v num).1=1:=by rw[k2];simp[tV,XX,Xu,tSs,QQ]
  exact⟨by have:=mg v;omega,fun _=>e⟩
theorem Px (l x:af):qQ l x=af.mk 11 0 [] (l.List++[x]) [] [] []:=by
 unfold qQ RV;simp only[lh,dP,aV,Eo,af.dK]
theorem OB {l x:af}:tV (qQ l x)<=tV l+1+tV x:=by
 rw[Px,iD,iD l];simp only[af.Text,af.List,af.Pairs,af.Slots,af.bJ,Xu,tSs,QQ,BM];rw[uJ,uJ,n_];simp only[jH];omega
theorem Oa {l x:af}(hl:kV l)(hx:kV x):kV (qQ l x):=by
 have hll:=((iw l).1 hl).2.1;rw[Px,iw];refine⟨⟨u0,fun x hx=>absurd hx (Qb)⟩,fun y hy=> ?_,fun x hx=>absurd hx (Qb),fun y hy=>absurd hy (Qb)⟩;have hy:y∈l.List++[x]:=hy;rcases rW.1 hy with hy | hy
 ·exact hll y hy
 ·rw[zD.1 hy];exact hx
theorem Wv (v:af)(f:Raw):yV v f=af.mk v.Kind v.Bits v.Text v.List v.Pairs v.Slots (v.bJ++[f]):=by
 unfold yV abQ;simp only[lh,dP,aV,Eo]
theorem afD {v:af}{f:Raw}:tV (yV v f)=tV v+1+f.Data.length:=by
 rw[Wv,iD,iD v];simp only[af.Text,af.List,af.Pairs,af.Slots,af.bJ];rw[Fe,Fe,n_];simp only[jH];cases v;simp only[af.Text,af.List,af.Pairs,af.Slots,af.bJ];omega
theorem ac6 {v:af}{f:Raw}(hv:kV v)(hf:Nh f):kV (yV v f):=by
 have h:=(iw v).1 hv;rw[Wv,iw];exact⟨⟨h.1.1,fun r hr=>(rW.1 hr).elim (h.1.2 r) fun e=>by rw[zD.1 e];exact hf⟩,h.2⟩
theorem Vm {p:dD}{o:Op}{f:Raw}(hb:lS f.Bits)(h0:(wu p o f).2=0):tV (wu p o f).1<=1+f.Data.length/\kV (wu p o f).1/\(wu p o f).1.Kind=o.Kind/\jG o.Kind=true:=by
 unfold wu acI at h0⊢;simp only[dP,dJ,bV,aV,nJ,af.dK]at h0⊢;cases e1:jG o.Kind with
 | false=>rw[e1]at h0;cases h0
 | true=>
  rw[e1]at h0;simp only[Qcn,pO]at h0⊢;cases e2:f.eU !=Ed o with
  | true=>rw[e2]at h0;cases h0
  | false=>
   rw[e2]at h0;simp only[pO]at h0⊢;cases e3:f.eU==3 with
   | true=>
    rw[e3]at h0;simp only[Bo]at h0⊢;have k:=kD o.Kind 0 f.Data u0;cases e4:o.Kind==7 with
    | true=>
     rw[e4]at h0;simp only[Bo]at h0⊢;cases e5:BA f.Data with
     | false=>rw[e5]at h0;cases h0
     | true=>exact⟨Qdq k.2,k.1,by trivial,by trivial⟩
    | false=>exact⟨Qdq k.2,k.1,by trivial,by trivial⟩
   | false=>
    rw[e3]at h0;simp only[pO]at h0⊢;have hw:∀(c:Bool) (K:af->af×Int) (a b:af),thenS (bif c then(Sum.inl a:af⊕(af×Int))else Sum.inl b) K=K (bif c then a else b):=fun c K a b=>by cases c<;>rfl
    rw[hw]at h0⊢;have hb:∃bits,(bif f.eU==1 then af.mk o.Kind (dB .u64 (aA8 f.Bits)) [] [] [] [] []else af.mk o.Kind f.Bits [] [] [] [] [])=af.mk o.Kind bits [] [] [] [] []/\lS bits:=by cases f.eU==1<;>first | exact⟨_,rfl,hb⟩ | exact⟨_,rfl,PZ _⟩
    obtain⟨bits,hb,hu⟩:=hb;rw[hb]at h0⊢;obtain⟨k1,k2⟩:=kD o.Kind bits [] hu;have q:tV (nM (af.mk o.Kind bits [] [] [] [] []))<=1+f.Data.length/\kV (nM (af.mk o.Kind bits [] [] [] [] []))/\(nM (af.mk o.Kind bits [] [] [] [] [])).Kind=o.Kind/\True:=
     ⟨by rw[aaE,k2];simp,RP k1,(zo _).1,trivial⟩
    cases e4:TE o.Kind (af.mk o.Kind bits [] [] [] [] [])with
    | false=>rw[e4]at h0;cases h0
    | true=>
     rw[e4]at h0;simp only[Qcn,pO]at h0⊢;cases e5:o.Kind==9 with
     | false=>exact⟨q.1,q.2.1,q.2.2.1,by trivial⟩
     | true=>
      rw[e5]at h0;simp only[Bo]at h0⊢;cases e6:amd p o.Target (af.mk o.Kind bits [] [] [] [] []).Bits with
      | false=>rw[e6]at h0;cases h0
      | true=>exact⟨q.1,q.2.1,q.2.2.1,by trivial⟩
def Ti (p:dD)(o:Op):Prop:=(o.Kind=10->0<=o.Target/\o.Target < p.a_.length)/\(o.Card=5->jG o.Key=true)/\1<=o.Num/\o.Num<=65535
def gm (p:dD):Prop:=∀g∈p.a_,g.Ops.length<=1048576/\∀o∈g.Ops,Ti p o
def JE (v:af)(r:ae):Prop:=ng r.c/\gm r.p/\kV v/\(tV v:Int)+8*(r.c.End - r.c.At)<=1048576
def Hl (k s:Int)(v:af)(r:ae)(x:af×Int×ae):Prop:=x.2.1=0->x.2.2.p=r.p/\DV k r.c x.2.2.c/\kV x.1/\(tV x.1:Int)+s<=tV v+8*(x.2.2.c.At - r.c.At)
theorem aAI {v:af}{r:ae}(h:JE v r):gV v:=⟨h.2.2.1,by obtain⟨⟨⟨h1,h2,h3,h4⟩,_⟩,_,_,h5⟩:=h;omega⟩
theorem JZ {v:af}{r:ae}(h:JE v r):v.bJ.length<=1048576/\v.Slots.length<=1048576/\v.List.length<=1048576/\oD v.Pairs:=o6 (aAI h)
theorem ax1 {k s:Int}{v w:af}{r r':ae}(h:JE v r)(hs:0<=s)(hp:r'.p=r.p)(ha:DV k r.c r'.c)(hk:kV w)(ht:(tV w:Int)+s<=tV v+8*(r'.c.At - r.c.At)):JE w r':=by
 obtain⟨h1,h2,h3,h4⟩:=h;have he:=ha.2.2.1;exact⟨ha.1,by rw[hp];exact h2,hk,by omega⟩
theorem ik {k s:Int}{v:af}{r:ae}{x:af×Int×ae}(h:¬x.2.1=0):Hl k s v r x:=fun e=>absurd e h
theorem UU {v:af}{r:ae}(h:JE v r)(num:Int):(f_ v num).1.List.length<=1048576/\oD (f_ v num).1.Pairs:=by
 have h1:=aAI h;have h2:gV (f_ v num).1:=⟨F7 h1.1,by have:=(Su (v:=v) (num:=num)).1;have:=h1.2;omega⟩;exact⟨(o6 h2).2.2.1,(o6 h2).2.2.2⟩
theorem xe {r:ae}{n:Int}(h:ng r.c)(h0:(mP n r).1=0):(mP n r).2.p=r.p/\DV 0 r.c (mP n r).2.c/\(mP n r).2.c.At=r.c.At:=by
 unfold mP aiC at h0⊢;simp only[dJ,aV]at h0⊢;obtain⟨k1,k2,k3,_⟩:=xY h h0;exact⟨by trivial,k1,k3⟩
theorem ant {c:aN}(h:ng c)(h0:(IL c).2.2=0):DV 1 c (IL c).2.1/\(IL c).2.1.Nodes=c.Nodes/\(IL c).2.1.At=c.At+1:=by
 have hl:=qX h;unfold IL ake at h0⊢;simp only[jZ,dJ,bV,aV]at h0⊢;rw[hl]at h0⊢;by_cases h1:c.End - c.At < 1
 ·rw[uu h1]at h0;cases h0
 rw[qy h1];refine⟨GY h nG au nG,?_,?_⟩
 ·show(rG c 1).Nodes=_;rw[(GI h (n:=1) au au).1]
 ·show(rG c 1).At=_;rw[(GI h (n:=1) au au).1]
def wQ (c:aN)(n:Int):aN:=aN.mk c.Data c.At (c.At+n) c.Depth c.Nodes c.Text
theorem adb {c:aN}{n:Int}(h:ng c)(h0:0<=n)(h1:n<=c.End - c.At):ng (wQ c n):=by
 obtain⟨⟨q1,q2,q3,q4⟩,q5⟩:=h;exact⟨⟨q1,by show c.At<=c.At+n;omega,by show c.At+n<=c.Data.length;omega,q4⟩,q5⟩
theorem afo {r:ae}{n:Int}(h:ng r.c)(h0:0<=n)(h1:n<=r.c.End - r.c.At):Uo n r=(r.c,ae.mk r.p (wQ r.c n)):=by
 obtain⟨⟨q1,q2,q3,q4⟩,q5⟩:=h;unfold Uo aso wQ;simp only[aV];rw[gz (k:= .i64) BZ]
theorem Tz {c d:aN}{n:Int}(h:ng c)(h0:0<=n)(h1:n<=c.End - c.At)(hd:DV 0 (wQ c n) d):DV n c (aN.mk c.Data d.End c.End c.Depth d.Nodes c.Text):=by
 obtain⟨⟨⟨e1,e2,e3,e4⟩,e5,e6,e7⟩,d2,d3,d4,d5,d6,d7⟩:=hd;obtain⟨⟨q1,q2,q3,q4⟩,q5,q6,q7⟩:=h;have d3:d.End=c.At+n:=d3;have d6:d.Nodes<=c.Nodes:=d6;exact⟨⟨⟨by show 0<=d.End;omega,by show d.End<=c.End;omega,q3,q4⟩,q5,⟨e6.1,e6.2⟩,q7⟩,rfl,rfl,rfl,rfl,d6,by show c.At+n<=d.End;omega⟩
theorem at_end {c:aN}(h:ng c)(h0:¬0 < uF c):c.At=c.End:=by
 rw[qX h]at h0;obtain⟨⟨q1,q2,q3,q4⟩,_⟩:=h;omega
theorem ao_ {c d:aN}(h:ng c)(h1:c.At<=d.End)(h2:d.End<=c.End)(h3:0<=d.Nodes)(h4:d.Nodes<=c.Nodes):Gx c d=aN.mk c.Data d.End c.End c.Depth d.Nodes c.Text:=by
 unfold Gx aht;simp only[bV,aV];rw[NR h,qy (show ¬d.End < c.At by omega),qy (show ¬c.End < d.End by omega),qy (show ¬d.Nodes < 0 by omega),qy (show ¬c.Nodes < d.Nodes by omega)];rfl
theorem aiu {c:aN}(h:ng c){n:Int}(h0:(Si c n).2=0):Si c n=(aN.mk c.Data c.At (c.At+n) (c.Depth - 1) c.Nodes c.Text,0)/\0<=n/\n<=c.End - c.At/\1<=c.Depth:=by
 have hl:=qX h;obtain⟨⟨q1,q2,q3,q4⟩,⟨q5,q6⟩,q7⟩:=h;unfold Si agF at h0⊢;simp only[dJ,bV,aV]at h0⊢;rw[hl]at h0⊢;by_cases h1:n < 0
 ·rw[uu h1]at h0;cases h0
 rw[qy h1]at h0⊢;by_cases h2:c.End - c.At < n
 ·rw[uu h2]at h0;cases h0
 rw[qy h2]at h0⊢;by_cases h3:c.Depth < 1
 ·rw[uu h3]at h0;cases h0
 rw[qy h3];rw[gz (k:= .i64) (show Cm .i64 (c.At+n) by simp only[Cm];omega),gz (k:= .i64) (show Cm .i64 (c.Depth - 1) by simp only[Cm];omega)];exact⟨rfl,by omega,by omega,by omega⟩
def azg (g:bC)(v:af)(o:Op)(r:ae):Pg (af×Int×ae):=.lt (mP 1 r) fun(v1:Int×ae)=> .br (v1.1 !=0) (.ret (v.re,v1)) (.ob (ng v1.2.c) (.lt (iE (Ed o) v1.2) fun(v2:Raw×Int×ae)=> .br (v2.2.1 !=0) (.ret (v.re,v2.2)) (.ob (List.length v2.1.Data<=1048576) (.lt (wu v2.2.2.p o v2.1) fun(v3:af×Int)=> .br (v3.2==16) (.ob (v.re.bJ.length<=1048576) (.ret ((yV v.re (Raw.mk o.Num 0 v2.1.Bits [])).re,0,v2.2.2))) (.br (v3.2 !=0) (.ret (v.re,v3.2,v2.2.2)) (.br (o.Card !=4) (.ob (v.re.Slots.length<=1048576) (.ret ((xX g v.re o v3.1.re).re,0,v2.2.2))) (.lt (xX g v.re o (qQ (f_ v.re o.Num).1.re v3.1.re).re) fun(v4:af)=> .lt (f_ v.re o.Num) fun(v5:af×Bool)=> .br (!v5.2) (.lt (mP 1 v2.2.2) fun(v6:Int×ae)=> .br (v6.1 !=0) (.ret (v.re,v6)) (.ob (v5.1.re.List.length<=1048576) (.ob (v.re.Slots.length<=1048576) (.ret (v4.re,0,v6.2))))) (.ob (v5.1.re.List.length<=1048576) (.ob (v.re.Slots.length<=1048576) (.ret (v4.re,0,v2.2.2)))))))))))
def Dt (g:bC)(v:af)(o:Op)(r:ae):=(azg g v o r).val
theorem Vf (g:bC)(v:af)(o:Op)(r:ae)(h:JE v r/\1<=o.Num/\o.Num<=65535):jF (azg g v o r) (Hl 1 0 v r):=
 by
 obtain⟨h,ho⟩:=h;have hl:=JZ h;have hf:=UU h o.Num;have hat:=h.1;unfold azg;simp only[af.dK];refine aC fun v1 hv1=>dC (fun hne=>ah (ik hne)) fun h1=> ?_;rw[hv1]at h1⊢;obtain⟨s1,s2,s3⟩:=xe hat h1;generalize mP 1 r=w1 at*;refine ak s2.1 (aC fun v2 hv2=>dC (fun hne=>ah (ik hne)) fun h2=> ?_);rw[hv2]at h2⊢;obtain⟨c1,c2,c3,c4,_⟩:=Ic s2.1 h2;have cu:=Po (wire:=Ed o) s2.1;generalize iE (Ed o) w1.2=w2 at*;have hp:w2.2.2.p=r.p:=c2.trans s1;have ha:DV 1 r.c w2.2.2.c:=kK (j_ s2 c1) nG;have he:=ha.2.2.1;have h7:=ha.2.2.2.2.2.2;refine ak c4 (aC fun v3 hv3=>dI (fun h3=>ak hl.1 (ah fun _=>⟨hp,ha,ac6 h.2.2.1 (Vj (f:=Raw.mk o.Num 0 w2.1.Bits []) ho ⟨Qb2 0,(by decide:(0:Int)<=6)⟩ cu (fun _=>rfl) (fun h3=>absurd h3 (by decide:¬(3:Int)<=0))),?_⟩)) fun h3=>dC (fun hne=>ah (ik hne)) fun h4=> ?_)
 ·show(tV (yV v (Raw.mk o.Num 0 w2.1.Bits [])):Int)+0<=tV v+8*(w2.2.2.c.At - r.c.At)
  rw[afD];simp only[BM];omega
 rw[hv3]at h4⊢;obtain⟨k1,k2,k3,k4⟩:=Vm cu h4;generalize wu w2.2.2.p o w2.1=w3 at*;have t1:=I7 (g:=g) (v:=v) (o:=o) (x:=w3.1) hl.2.1;refine dC (fun hne=>ak hl.2.1 (ah fun _=>⟨hp,ha,IE hl.2.1 h.2.2.1 k2,?_⟩)) fun h5=>aC fun v4 hv4=>aC fun v5 hv5=>dH (fun h6=>aC fun v6 hv6=>dC (fun hne=>ah (ik hne)) fun h7'=> ?_) (fun h6=> ?_)
 ·show(tV (xX g v o w3.1):Int)+0<=tV v+8*(w2.2.2.c.At - r.c.At)
  omega
 ·rw[hv6]at h7'⊢;obtain⟨x1,x2,x3⟩:=xe ha.1 h7';rw[hv5];refine ak hf.1 (ak hl.2.1 (ah fun _=>⟨x1.trans hp,kK (j_ ha x2) nG,by rw[hv4];exact IE hl.2.1 h.2.2.1 (Oa (F7 h.2.2.1) k2),?_⟩));show(tV v4:Int)+0<=tV v+8*((mP 1 w2.2.2).2.c.At - r.c.At)
  have t2:=I7 (g:=g) (v:=v) (o:=o) (x:=qQ (f_ v o.Num).1 w3.1) hl.2.1;have t3:=OB (l:=(f_ v o.Num).1) (x:=w3.1);have t4:=(Su (v:=v) (num:=o.Num)).2 (by rw[hv5]at h6;simpa using h6);rw[<-hv4]at t2;omega
 ·rw[hv5]at h6⊢;refine ak hf.1 (ak hl.2.1 (ah fun _=>⟨hp,ha,by rw[hv4];exact IE hl.2.1 h.2.2.1 (Oa (F7 h.2.2.1) k2),?_⟩));show(tV v4:Int)+0<=tV v+8*(w2.2.2.c.At - r.c.At)
  have t2:=I7 (g:=g) (v:=v) (o:=o) (x:=qQ (f_ v o.Num).1 w3.1) hl.2.1;have t3:=OB (l:=(f_ v o.Num).1) (x:=w3.1);have e6:(f_ v o.Num).2=true:=by simpa using h6
  rw[<-hv4,e6]at t2;simp only[Bo]at t2;omega
def aq8:aS Z:=Ee [Fp,KC,ac3,KP,aci,Zm,P6,X9] [] (aj (iQ 0) (aj (aF iG) (aj (aF aI) (a1 (aF ji))))) (b1 (aP aW)) (shr [.slot 0 true (nn 7), s0 1, .cells 0 (nn 8)] (az aI (az cI (l1 aW)))) [] func263 2 (fun a=>azg a.1.2.1 a.1.2.2.1 a.1.2.2.2 a.2) (fun a=>JE a.1.2.2.1 a.2/\1<=a.1.2.2.2.Num/\a.1.2.2.2.Num<=65535) fun a h=>(Vf a.1.2.1 a.1.2.2.1 a.1.2.2.2 a.2 h).1
def akA (g:bC)(v:af)(o:Op)(r:ae):Pg (af×Int×ae):=.ob (ng r.c) (.lt (jV r) fun(v3:Int×Int×ae)=> .br (v3.2.1 !=0) (.ret (v.re,v3.2)) (.lt (Uo v3.1 v3.2.2) fun(v4:aN×ae)=> .ob (ng v4.2.c) (.lt (IL v4.2.c) fun(v5:Int×aN×Int)=> .br (v5.2.2 !=0) (.ret (v.re,v5.2.2,v4.2)) (.lt (dB .i64 v5.1) fun(v6:Int)=> .br (v6 !=Ed o) (.ret (v.re,13,ae.mk v4.2.p v5.2.1)) (.cut (fun(y1:ae×af)=> .wh ((r.c.End - r.c.At).toNat+1) default (fun(x2:ae×af)=> .lt (uF x2.1.c) fun(v7:Int)=> .br (decide (0 < v7)) (.ob (JE x2.2.re x2.1/\1<=o.Num/\o.Num<=65535) (.lt (Dt g x2.2.re o x2.1) fun(v8:af×Int×ae)=> .br (v8.2.1 !=0) (.ret (.inr (v8.1.re,v8.2))) (rl (v8.2.2,v8.1.re)))) (.ret (.inr (x2.2.re,0,aeN v4.1 x2.1)))) (y1.1,y1.2.re)) (.br (!(f_ v.re o.Num).2) (.lt (mP 1 (ae.mk v4.2.p v5.2.1)) fun(v9:Int×ae)=> .br (v9.1 !=0) (.ret (.inr (v.re,v9))) (.ob (v.re.Slots.length<=1048576) (rl (v9.2,(xX g v.re o (af.mk 11 0 [] [] [] [] [])).re)))) (rl (ae.mk v4.2.p v5.2.1,v.re))))))))
def aDf (g:bC)(v:af)(o:Op)(r:ae):=(akA g v o r).val
theorem X7 (g:bC)(v:af)(o:Op)(r:ae)(h:JE v r/\1<=o.Num/\o.Num<=65535):jF (akA g v o r) (Hl 0 0 v r):=
 by
 obtain⟨h,ho⟩:=h;have hl:=JZ h;have hat:=h.1;unfold akA;simp only[af.dK];refine ak hat (aC fun v3 hv3=>dC (fun hne=>ah (ik hne)) fun h3=> ?_);rw[hv3]at h3⊢;obtain⟨l1,l2,l3,l4,l5⟩:=vU hat h3;generalize jV r=w3 at*;have l7:=l1.2.2.2.2.2.2;have le:=l1.2.2.1;have hc:=adb l1.1 l4 l5;rw[afo l1.1 l4 l5];refine aC fun v4 hv4=> ?_;subst hv4;refine ak hc (aC fun v5 hv5=>dC (fun hne=>ah (ik hne)) fun h5=>aC fun v6 hv6=>dC (fun hne=>ah (ik qcp)) fun h6=> ?_);rw[hv5]at h5⊢;obtain⟨b1,b2,b3⟩:=ant hc h5;show jF (Pg.cut _ _) _
 dsimp only at b1 b2 b3⊢;generalize IL (wQ w3.2.2.c w3.1)=w5 at*;have eAt:(wQ w3.2.2.c w3.1).At=w3.2.2.c.At:=rfl;have avK:(wQ w3.2.2.c w3.1).End=w3.2.2.c.At+w3.1:=rfl;rw[eAt]at b3;refine df (fun y=>y.1.p=r.p/\DV 0 (wQ w3.2.2.c w3.1) y.1.c/\kV y.2/\(tV y.2:Int)<=tV v+8*(y.1.c.At - w3.2.2.c.At)) ?_ (fun y hy=>x_ (fun x=>x.1.p=r.p/\DV 0 (wQ w3.2.2.c w3.1) x.1.c/\kV x.2/\(tV x.2:Int)<=tV v+8*(x.1.c.At - w3.2.2.c.At)) (fun x=>(x.1.c.End - x.1.c.At).toNat) hy ?_ fun x hx=> ?_)
 ·refine dH (fun hn=>aC fun v9 hv9=>dC (fun hne=>ah (ik hne)) fun h9=> ?_) (fun hn=>ah ⟨l3,kK b1 nG,h.2.2.1,by show(tV v:Int)<=tV v+8*(w5.2.1.At - w3.2.2.c.At);omega⟩);rw[hv9]at h9⊢;obtain⟨x1,x2,x3⟩:=xe (r:=ae.mk w3.2.2.p w5.2.1) b1.1 h9;refine ak hl.2.1 (ah ⟨x1.trans l3,kK (j_ b1 x2) nG,IE hl.2.1 h.2.2.1 (kD 11 0 [] u0).1,?_⟩);have t2:=I7 (g:=g) (v:=v) (o:=o) (x:=af.mk 11 0 [] [] [] [] []) hl.2.1;have t3:=(kD 11 0 [] u0).2;have x3:(mP 1 (ae.mk w3.2.2.p w5.2.1)).2.c.At=w5.2.1.At:=x3;simp only[BM]at t3;show(tV (xX g v o (af.mk 11 0 [] [] [] [] [])):Int)<=tV v+8*((mP 1 (ae.mk w3.2.2.p w5.2.1)).2.c.At - w3.2.2.c.At)
  omega
 ·obtain⟨y1,⟨⟨⟨q1,q2,q3,q4⟩,_⟩,y22,y23,y24,y25,y26,y27⟩,y3,y4⟩:=hy;rw[avK]at y23;rw[eAt]at y27;have:=hat.1.1;show(y.1.c.End - y.1.c.At).toNat < (r.c.End - r.c.At).toNat+1
  omega
 ·obtain⟨x1,x2,x3,x4⟩:=hx;have e2:=x2.2.2.1;have e7:=x2.2.2.2.2.2.2;rw[avK]at e2;rw[eAt]at e7;have hin:JE x.2 x.1:=⟨x2.1,by rw[x1];exact h.2.1,x3,by have:=h.2.2.2;omega⟩;refine aC fun v7 hv7=>bT (fun hlt=> ?_) (fun hge=>ah ?_)
  ·refine ak ⟨hin,ho⟩ (aC fun v8 Nl=>dC (fun hne=>ah (ik hne)) fun h8=>ah ?_);rw[Nl]at h8⊢;obtain⟨o1,o2,o3,o4⟩:=(Vf g x.2 o x.1 ⟨hin,ho⟩).2 h8;have o7:=o2.2.2.2.2.2.2;have o8:=o2.2.2.1;have o9:=o2.1.1.2.1;refine⟨⟨o1.trans x1,kK (j_ x2 o2) nG,o3,?_⟩,?_⟩
   ·show(tV (Dt g x.2 o x.1).1:Int)<=tV v+8*((Dt g x.2 o x.1).2.2.c.At - w3.2.2.c.At)
    have o4:(tV (Dt g x.2 o x.1).1:Int)+0<=tV x.2+8*((Dt g x.2 o x.1).2.2.c.At - x.1.c.At):=o4;omega
   ·show((Dt g x.2 o x.1).2.2.c.End - (Dt g x.2 o x.1).2.2.c.At).toNat < (x.1.c.End - x.1.c.At).toNat
    have o7:x.1.c.At+1<=(Dt g x.2 o x.1).2.2.c.At:=o7;have o8:(Dt g x.2 o x.1).2.2.c.End=x.1.c.End:=o8;have o9:(Dt g x.2 o x.1).2.2.c.At<=(Dt g x.2 o x.1).2.2.c.End:=o9;omega
  ·rw[hv7]at hge;have hend:=at_end x2.1 hge;have hb:=Tz l1.1 l4 l5 x2;refine fun _=>⟨x1,kK (j_ l1 hb) au,x3,?_⟩;show(tV x.2:Int)+0<=tV v+8*(x.1.c.End - r.c.At)
   omega
def ax6:aS Z:=Ee [Fp,KC,yY,KP,aq8,Gf,aky,Yf,aci,azC] [jS 17 (bU (fun sl=>[.cells (pid (sl 0)) (nn 8), .cells (pid (sl 6)) (nn 7)]) (az aW (l1 aI))),jS 100017 (bU (fun sl=>[.cells (pid (sl 0)) (nn 8), .cells (pid (sl 6)) (nn 7)]) (az aW (l1 aI)))] (aj (iQ 0) (aj (aF iG) (aj (aF aI) (a1 (aF ji))))) (b1 (aP aW)) (shr [.slot 0 true (nn 7), s0 1, .cells 0 (nn 8)] (az aI (az cI (l1 aW)))) [] func260 2 (fun a=>akA a.1.2.1 a.1.2.2.1 a.1.2.2.2 a.2) (fun a=>JE a.1.2.2.1 a.2/\1<=a.1.2.2.2.Num/\a.1.2.2.2.Num<=65535) fun a h=>(X7 a.1.2.1 a.1.2.2.1 a.1.2.2.2 a.2 h).1
end
end Go.Proofs.YtmadgoehmjmlmaaGreatDoor
