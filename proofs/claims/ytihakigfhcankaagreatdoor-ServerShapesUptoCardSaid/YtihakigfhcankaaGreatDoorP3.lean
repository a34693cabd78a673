/- Codecs: scalars read, fields set. -/
import Derived.Test.YtihakigfhcankaaGreatDoorP2
namespace Go.Proofs.YtihakigfhcankaaGreatDoor
noncomputable section
open Go.RowKit Go.Vc
open Tryz
set_option linter.unusedVariables false
set_option linter.unusedSimpArgs false
set_option maxRecDepth 100000
theorem take_snoc {A:Type}{l:List A}{i:Nat}{d:A}(hi:i < l.length):l.take (i+1)=l.take i++[l.getD i d]:=by
 rw[Qd1];congr 1;simp[List.getD,hi]
theorem acg {A:Type}{y l:List A}{i:Nat}{d a:A}(h:y.Sublist (l.take i))(hi:i < l.length)(e:a=l.getD i d):(y++[a]).Sublist (l.take (i+1)):=by
 rw[take_snoc (d:=d) hi,e];exact h.append (Qdz _)
theorem aek {A:Type}{y l:List A}{i:Nat}(h:y.Sublist (l.take i)):y.Sublist (l.take (i+1)):=h.trans (Qdj au)
theorem atU {p:Slot->Bool}{y l:List Slot}{i:Nat}(h:y.Sublist ((l.take i).filter p))(hi:i < l.length)(hp:p (l.getD i bI)=true):(y++[Slot.mk (l.getD i bI).Num (l.getD i bI).Val.re]).Sublist ((l.take (i+1)).filter p):=by
 rw[af.dM,Slot.eta,take_snoc (d:=bI) hi,Qbw,List.filter_cons_of_pos hp,Qdw];exact h.append (Qdz _)
theorem aoy {p:Slot->Bool}{y l:List Slot}{i:Nat}(h:y.Sublist ((l.take i).filter p)):y.Sublist ((l.take (i+1)).filter p):=h.trans ((Qdj au).filter p)
theorem axy {p:Slot->Bool}{y l:List Slot}{i:Nat}(h:y.Sublist ((l.take i).filter p)):y.length<=l.length:=Ak h.length_le (Ak (Qca _ _) qa8)
def aao (p:dC)(o:Op)(f:Raw):Pg (af×Int):=.br (!jQ o.Kind) (.ret (af.mk 0 0 [] [] [] [] [],12)) (.br (f.fA !=CU o) (.ret (af.mk 0 0 [] [] [] [] [],13)) (.br (f.fA==3) (.br (o.Kind==7) (.ob (List.length f.Data<=9223372036854775700) (.br (!BG f.Data) (.ret (af.mk 0 0 [] [] [] [] [],7)) (.ret (af.mk o.Kind 0 f.Data [] [] [] [],0)))) (.ret (af.mk o.Kind 0 f.Data [] [] [] [],0))) (.cut (fun(y1:af)=> .br (!TU o.Kind y1.re) (.ret (af.mk 0 0 [] [] [] [] [],6)) (.lt (nK y1.re) fun(v2:af)=> .br (o.Kind==9) (.br (!aig p o.Target y1.Bits) (.ret (af.mk 0 0 [] [] [] [] [],16)) (.ret (v2.re,0))) (.ret (v2.re,0)))) (.br (f.fA==1) (rl (af.mk o.Kind (dD .u64 (azG f.Bits)) [] [] [] [] [])) (rl (af.mk o.Kind f.Bits [] [] [] [] []))))))
def uK (p:dC)(o:Op)(f:Raw):=(aao p o f).val
def YY:aU Z:=E1 [zK,Qz,JF,KI,afM,Yc,aBN] [jS 100012 (bP (fun sl=>[.cells (pid (sl 8)) (nn 7)]) (l1 aI))] (aj (aF dX) (aj (aF je) (a1 (aF og)))) (shr [.slot 0 true (nn 7), s0 1] (az aI (l1 cI))) [] func370 2 (u3 aao) fun a=>a.2.2.Data.length<=1048576
def aBd (g:bu)(v:af)(o:Op)(x:af):Pg af:=aL v.Slots (.each false qw v.Slots bI (fun i1 a3 (y2:af)=> .ix i1 v.Slots.length (.br (a3.Num==o.Num) (rl y2.re) (.lt (y2.Slots++[Slot.mk a3.Num a3.Val.re]) fun(v4:List Slot)=> .lt (lM g a3.Num) fun(v5:Op×Bool)=> .br v5.2 (.br (decide (0<=o.Union)) (.br (v5.1.Union==o.Union) (rl y2.re) (.ob (bT (y2.Slots.length+1) 136) (rl (af.mk y2.Kind y2.Bits y2.Text y2.List y2.Pairs v4 y2.bJ)))) (.ob (bT (y2.Slots.length+1) 136) (rl (af.mk y2.Kind y2.Bits y2.Text y2.List y2.Pairs v4 y2.bJ)))) (.ob (bT (y2.Slots.length+1) 136) (rl (af.mk y2.Kind y2.Bits y2.Text y2.List y2.Pairs v4 y2.bJ)))))) (fun i1 (y2:af)=> .ob (bT (y2.Slots.length+1) 136) (.ret (af.mk y2.Kind y2.Bits y2.Text y2.List y2.Pairs (y2.Slots++[Slot.mk o.Num x.re]) y2.bJ))) (af.mk (Int.ofNat (nat_lit 10)) (Int.ofNat (nat_lit 0)) [] [] [] [] (match v with | af.mk Kind_ aug aup aul aun ahW a=>a)))
def xn (g:bu)(v:af)(o:Op)(x:af):=(aBd g v o x).val
theorem aeC (g:bu)(v:af)(o:Op)(x:af)(h:v.Slots.length<=1048576):jP (aBd g v o x) (fun r=>∃l,l.Sublist (v.Slots.filter fun s=> !(s.Num==o.Num))/\r=af.mk 10 0 [] [] [] (l++[Slot.mk o.Num x]) v.bJ):=
 bZ <| df (fun(i1:Nat) y2=>y2.Slots.Sublist ((v.Slots.take i1).filter fun s=> !(s.Num==o.Num))/\y2=af.mk 10 0 [] [] [] y2.Slots v.bJ) (by exact⟨List.nil_sublist _,rfl⟩) au (fun i1 y2 qP rD=>have hI:y2.Slots.Sublist ((v.Slots.take i1).filter fun s=> !(s.Num==o.Num))/\y2=af.mk 10 0 [] [] [] y2.Slots v.bJ:=rD;bi au au (dO (fun _=>ah qai) (fun _=>aC fun v4 hv4=>aC fun v5 hv5=>dR (fun _=>bV (fun _=>dO (fun _=>ah qai) (fun _=>ak (qbi) (ah qai))) (fun _=>ak (qbi) (ah qai))) (fun _=>ak (qbi) (ah qai))))) (fun y2 hI=>have hI:y2.Slots.Sublist ((v.Slots.take v.Slots.length).filter fun s=> !(s.Num==o.Num))/\y2=af.mk 10 0 [] [] [] y2.Slots v.bJ:=hI;ak (qbi) (ah qai))
def abS:aU Z:=E1 [Ov] [jS 3 (bP (fun sl=>[s0 20, .cells (pid (sl 9)) [none,none,none,none,none,some 257,none]]) (az cI (l1 aI))),jS 800001 (bP (fun sl=>[.cells (pid (sl 9)) [none,none,none,none,none,some 257,none]]) (l1 aI))] (aj (aF iF) (aj (aF aI) (aj (aF je) (a1 (aF aI))))) (shr [.slot 0 true (nn 7)] (l1 aI)) [] func364 1 (u4 aBd) (fun a=>a.2.1.Slots.length<=1048576) fun a h=>(aeC a.1 a.2.1 a.2.2.1 a.2.2.2 h).1
def Zi (v:af)(f:Raw):Pg af:=aL v.bJ (.ob (0<=(↑v.bJ.length:Int)/\(↑v.bJ.length:Int)=(↑v.bJ.length:Int)/\(↑v.bJ.length:Int)<=(↑v.bJ.length:Int)) (.ob (0 < 1/\bT ((List.take v.bJ.length v.bJ).length+1) 40) (.ret (af.mk v.Kind v.Bits v.Text v.List v.Pairs v.Slots (List.take v.bJ.length v.bJ++[f])))))
def yD (v:af)(f:Raw):=(Zi v f).val
theorem ala (v:af)(f:Raw)(h:v.bJ.length<=1048576):Is (Zi v f):=
 iH fun _=>aX au (aX ((⟨by decide,b_ qbo qbo⟩)) (aT))
def ac8:aU Z:=E1 [] [] (aj (aF aI) (a1 (aF og))) (shr [.slot 0 true (nn 7)] (l1 aI)) [] func199 1 (u2 Zi) (fun a=>a.1.bJ.length<=1048576) fun a h=>ala a.1 a.2 h
def PN (l:af)(x:af):Pg af:=aL l.List (.ob (0<=(↑l.List.length:Int)/\(↑l.List.length:Int)=(↑l.List.length:Int)/\(↑l.List.length:Int)<=(↑l.List.length:Int)) (.ob (0 < 1/\bT ((List.take l.List.length l.List).length+1) 128) (.ret (af.mk 11 0 [] (List.take l.List.length l.List++[x.re]) [] [] []))))
def qM (l:af)(x:af):=(PN l x).val
theorem agI (l:af)(x:af)(h:l.List.length<=1048576):Is (PN l x):=
 iH fun _=>aX au (aX ((⟨by decide,b_ qbo qbo⟩)) (aT))
def X4:aU Z:=E1 [] [] (aj (aF aI) (a1 (aF aI))) (shr [.slot 0 true (nn 7)] (l1 aI)) [] func368 1 (u2 PN) (fun a=>a.1.List.length<=1048576) fun a h=>agI a.1 a.2 h
def ahi (n:Int)(r:ae):Pg (Int×ae):=.lt (qX r.c n) fun(v1:aK×Int)=> .ret (v1.2,ae.mk r.p v1.1)
def mi (n:Int)(r:ae):=(ahi n r).val
def Dx:aU Z:=vX [adF] [] (aj (iM 0) (a1 (bn cI))) (b1 (aP aY)) (shr [s0 0, .cells 0 (nn 8)] (az cI (l1 aY))) [] func131 1 fun a=>ahi a.1.2 a.2
def aau (r:ae):Pg (Int×Int×ae):=.ob (mV r.c) (.lt (bz r.c) fun(v1:Int×aK×Int)=> .br (v1.2.2 !=0) (.ret (0,v1.2.2,r)) (.lt (dD .u64 (uj v1.2.1)) fun(v2:Int)=> .br (decide (v2 < v1.1)) (.ret (0,4,r)) (.ret (dD .i64 v1.1,0,ae.mk r.p v1.2.1))))
def kw (r:ae):=(aau r).val
def Et:aU Z:=EK [yG,zJ] [] (a1 (iM 0)) (b1 (aP aY)) (shr [s0 0, s0 1, .cells 0 (nn 8)] (az cI (az cI (l1 aY)))) [] func360 2 (fun a=>aau a.2) fun a=>mV a.2.c
theorem uV {r:ae}(h:mV r.c)(h0:(kw r).2.1=0):CJ 1 r.c (kw r).2.2.c/\(kw r).2.2.c.Nodes=r.c.Nodes/\(kw r).2.2.p=r.p/\0<=(kw r).1/\(kw r).1<=(kw r).2.2.c.End - (kw r).2.2.c.At:=by
 obtain⟨ku,k⟩:=lH h;unfold kw aau at h0⊢;simp only[dK,dE,bH,aV]at h0⊢;cases e:(bz r.c).2.2 !=0 with
 | true=>
  rw[e]at h0;have h0:(bz r.c).2.2=0:=h0;rw[h0]at e;cases e
 | false=>
  obtain⟨ka,kn⟩:=k (kM.1 e);have kok:=ka.1;have kl:=qG kok;rw[e]at h0;simp only[nR]at h0⊢;obtain⟨⟨q1,q2,q3,q4⟩,q5⟩:=kok;obtain⟨u1,u2⟩:=ku;rw[kl,fO (k:= .u64) zO]at h0⊢;by_cases e2:(bz r.c).2.1.End - (bz r.c).2.1.At < (bz r.c).1
  ·rw[qW e2]at h0;cases h0
  rw[qo e2];rw[fO (k:= .i64) zO];exact⟨ka,kn,rfl,u1,by show(bz r.c).1<=(bz r.c).2.1.End - (bz r.c).2.1.At;omega⟩
def zB (wire:Int)(r:ae):Pg (Raw×Int×ae):=.br (wire==3) (.ob (mV r.c) (.lt (kw r) fun(v1:Int×Int×ae)=> .br (v1.2.1 !=0) (.ret (Raw.mk 0 wire 0 [],v1.2)) (.ob (mV v1.2.2.c) (.lt (yS v1.2.2.c v1.1) fun(v2:Str×aK×Int)=> .ret (Raw.mk 0 wire 0 v2.1,v2.2.2,ae.mk v1.2.2.p v2.2.1))))) (.br (wire==2) (.ob (mV r.c) (.lt (xQ r.c) fun(v3:Int×aK×Int)=> .ret (Raw.mk 0 wire v3.1 [],v3.2.2,ae.mk r.p v3.2.1))) (.ob (mV r.c) (.lt (bz r.c) fun(v4:Int×aK×Int)=> .ret (Raw.mk 0 wire v4.1 [],v4.2.2,ae.mk r.p v4.2.1))))
def iE (wire:Int)(r:ae):=(zB wire r).val
theorem abk (wire:Int)(r:ae)(h:mV r.c):Is (zB wire r):=
 lh (fun _=>aX (h) (dB fun v1 hv1=>jG iR (fun _=>aX (by have k:=(uV h (by rw[<-hv1];omega)).1.1;rw[<-hv1]at k;exact k) (dB fun v2 hv2=>aT)))) (fun _=>lh (fun _=>aX (h) (dB fun v3 hv3=>aT)) (fun _=>aX (h) (dB fun v4 hv4=>aT)))
def NG:aU Z:=EK [zJ,Et,ad5,axA] [] (aj (iM 0) (a1 (bn cI))) (b1 (aP aY)) (shr [.slot 0 true (nn 4), s0 1, .cells 0 (nn 8)] (az og (az cI (l1 aY)))) [] func369 2 (fun a=>zB a.1.2 a.2) (fun a=>mV a.2.c) fun a h=>abk a.1.2 a.2 h
def as5 (n:Int)(r:ae):Pg (aK×ae):=.ret (r.c,ae.mk r.p (aK.mk r.c.Data r.c.At (dD .i64 (r.c.At+n)) r.c.Depth r.c.Nodes r.c.Text))
def SA (n:Int)(r:ae):=(as5 n r).val
def akq:aU Z:=vX [] [] (aj (iM 0) (a1 (bn cI))) (b1 (aP aY)) (shr [.slot 0 true (nn 6), .cells 0 (nn 8)] (az dN (l1 aY))) [] func361 1 fun a=>as5 a.1.2 a.2
def ajV (outer:aK)(r:ae):Pg ae:=.ret (ae.mk r.p (aK.mk outer.Data r.c.End outer.End outer.Depth r.c.Nodes outer.Text))
def acn (outer:aK)(r:ae):=(ajV outer r).val
def Yz:aU Z:=vX [] [] (aj (iM 0) (a1 (aF dN))) (b1 (aP aY)) (shr [.cells 0 (nn 8)] (l1 aY)) [] func363 0 fun a=>ajV a.1.2 a.2
def clS (l:List Slot):Pg (List Slot):=.unk false (fun(b:Bool)=>b=true->l.length=0) (.ret []) (.ob (bT (0+l.length) 136) (.ret l))
theorem aDg (l:List Slot)(h:l.length<=1048576):Is (clS l):=
 qI (b_ au au)
def aFM:aU Z:=E2 [] [] (a1 (bn bF)) (shr [.slot 0 false [some 257]] (l1 bF)) [] func273 1 clS (fun a=>some (a.length<=1048576)) (fun a=>a) fun a h=>⟨aDg a h,rfl⟩
def clP (l:List Pair):Pg (List Pair):=.unk false (fun(b:Bool)=>b=true->l.length=0) (.ret []) (.ob (bT (0+l.length) 256) (.ret l))
theorem aCA (l:List Pair)(h:l.length<=1048576):Is (clP l):=
 qI (b_ au au)
def az2:aU Z:=E2 [] [] (a1 (bn dZ)) (shr [.slot 0 false [some 328]] (l1 dZ)) [] func344 1 clP (fun a=>some (a.length<=1048576)) (fun a=>a) fun a h=>⟨aCA a h,rfl⟩
def clR (l:List Raw):Pg (List Raw):=.unk false (fun(b:Bool)=>b=true->l.length=0) (.ret []) (.ob (bT (0+l.length) 40) (.ret l))
theorem aAr (l:List Raw)(h:l.length<=1048576):Is (clR l):=
 qI (b_ au au)
def aFQ:aU Z:=E2 [] [] (a1 (bn bD)) (shr [.slot 0 false [some 264]] (l1 bD)) [] func200 1 clR (fun a=>some (a.length<=1048576)) (fun a=>a) fun a h=>⟨aAr a h,rfl⟩
def osC (a:Slot)(b:Slot):Pg Int:=.ret (SK a.Num b.Num)
def apq (a:Slot)(b:Slot):=(osC a b).val
def Sm:aU Z:=E1 [L9] [] (aj (aF mg) (a1 (aF mg))) (R1 cI) [] func275 1 (u2 osC) fun a=>True
def vz (a:Slot):Slot:=Slot.mk a.Num a.Val.re
theorem kX (a:Slot):vz a=a:=by
 unfold vz;rw[af.dM,Slot.eta]
def aGz (a:Int)(b:Int)(n:Int)(l:List Slot):Pg (List Slot):=SY vz bI a b n l
theorem ays (a:Int)(b:Int)(n:Int)(l:List Slot)(h:swQ a b n l.length):Is (aGz a b n l):=
 (Mc kX h).1
def aoA:aU Z:=EK [Sm] [jS 1 (bP (fun sl=>[s0 10, .row (pid (sl 0)) 257]) (az cI (l1 bF)))] (aj (ng 0) (aj (bn cI) (aj (bn cI) (aj (bn cI) (a1 (kJ 275 [])))))) (b1 (j_ 257 D.Slot jE)) (shr [.row 0 257] (l1 bF)) [] func450 0 (fun a=>aGz a.1.2.1 a.1.2.2.1 a.1.2.2.2.1 a.2) (fun a=>swQ a.1.2.1 a.1.2.2.1 a.1.2.2.2.1 a.2.length) fun a h=>ays a.1.2.1 a.1.2.2.1 a.1.2.2.2.1 a.2 h
def aEC (a:Int)(m:Int)(b:Int)(l:List Slot):Pg (List Slot):=Tc vz bI a m b l
theorem avr (a:Int)(m:Int)(b:Int)(l:List Slot)(h:roQ a m b l.length):Is (aEC a m b l):=
 (LM kX h).1
def ao4:aU Z:=EK [Sm,aoA] [jS 2 (bP (fun sl=>[s0 10, s0 11, .row (pid (sl 0)) 257]) (az cI (az cI (l1 bF))))] (aj (ng 0) (aj (bn cI) (aj (bn cI) (aj (bn cI) (a1 (kJ 275 [])))))) (b1 (j_ 257 D.Slot jE)) (shr [.row 0 257] (l1 bF)) [] func441 0 (fun a=>aEC a.1.2.1 a.1.2.2.1 a.1.2.2.2.1 a.2) (fun a=>roQ a.1.2.1 a.1.2.2.1 a.1.2.2.2.1 a.2.length) fun a h=>avr a.1.2.1 a.1.2.2.1 a.1.2.2.2.1 a.2 h
def aBp (a:Int)(b:Int)(l:List Slot):Pg (List Slot):=SH vz apq (fun _ _=>True) bI a b l
def aGP (a:Int)(b:Int)(l:List Slot):=(aBp a b l).val
theorem ayg (a:Int)(b:Int)(l:List Slot)(h:Gq (fun _ _=>True) a b l):Is (aBp a b l):=
 (L6 kX h).1
def atx:aU Z:=vS Z [Sm] [jS 1 (bP (fun sl=>[s0 8, .row (pid (sl 0)) 257]) (az cI (l1 bF))),jS 4 (bP (fun sl=>[s0 9, .row (pid (sl 0)) 257]) (az cI (l1 bF)))] (kz (aj (ng 0) (aj (bn cI) (aj (bn cI) (a1 (kJ 275 []))))) (b1 (j_ 257 D.Slot jE))) (oq (n:=53) rfl) (shr [.row 0 257] (l1 bF)) [] func414 ntmps414 dS 0 rfl (fun a=>aBp (a.1.2.1) (a.1.2.2.1) (a.2)) (fun a=>some (Gq (fun _ _=>True) (a.1.2.1) (a.1.2.2.1) (a.2))) (fun a e _=>by kernel_rfl) (fun a=>aGP (a.1.2.1) (a.1.2.2.1) (a.2)) (fun a h=>⟨ayg (a.1.2.1) (a.1.2.2.1) (a.2) h,rfl⟩)
def aGy (aHD:Int->Int->Int->List Slot->List Slot)(NK:Int->Int->Int->List Slot->Prop)(a:Int)(m:Int)(b:Int)(l:List Slot):Pg (List Slot):=XZ vz apq (fun _ _=>True) bI aHD NK a m b l
def NK (fu:Nat)(a:Int)(m:Int)(b:Int)(l:List Slot):Prop:=Wl (fun _ _=>True) fu a m b l
def amN:Nat->(Int->Int->Int->(List Slot)->(List Slot))
 | 0=>(fun _ _ _ _=>default)
 | fu+1=>(fun a m b l=>(aGy ((amN fu)) (NK fu) a m b l).val)
def akf (a:Int)(m:Int)(b:Int)(l:List Slot):List Slot:=(amN ((b - a).toNat+1)) a m b l
theorem I4:∀(fu:Nat) (a m b:Int) (l:List Slot),NK fu a m b l->(amN fu a m b l).Perm l
 | 0,_,_,_,_,h=>FY h
 | fu+1,_,_,_,_,h=>(yN kX (c:=apq) (O4:=amN fu) (Xe:=NK fu) (d:=bI) (fun _ _ _ _ h=>h) (I4 fu) h).2
abbrev arS (fu:Nat):=aGy ((amN fu)) (NK fu)
theorem avZ (fu:Nat)(a:Int)(m:Int)(b:Int)(l:List Slot)(h:NK (fu+1) a m b l):Is (arS fu a m b l):=
 (yN kX (fun _ _ _ _ h=>h) (I4 fu) h).1
theorem apS:∀fu,fV Z.P Z.S 415 (oL (kz (aj (ng 0) (aj (bn cI) (aj (bn cI) (aj (bn cI) (a1 (kJ 275 [])))))) (b1 (j_ 257 D.Slot jE))) (shr [.row 0 257] (l1 bF)) 0 [] (fun a=>some (NK fu (a.1.2.1) (a.1.2.2.1) (a.1.2.2.2.1) (a.2))) (fun a=>(amN fu) (a.1.2.1) (a.1.2.2.1) (a.1.2.2.2.1) (a.2)))
 | 0=>iG func415 dS (fun a h=>FY h)
 | fu+1=>by
  have h0:=apS fu;exact Eo [Sm,ao4,⟨415,_,h0⟩] [jS 3 (bP (fun sl=>[s0 10, s0 11]) (az cI (l1 cI))),jS 9 (bP (fun sl=>[s0 13, .row (pid (sl 0)) 257]) (az cI (l1 bF))),jS 15 (bP (fun sl=>[s0 14, s0 15]) (az cI (l1 cI))),jS 21 (bP (fun sl=>[s0 17, .row (pid (sl 0)) 257]) (az cI (l1 bF))),jS 33 (bP (fun sl=>[s0 20, s0 21]) (az cI (l1 cI))),jS 100008 (bP (fun sl=>[s0 10]) (l1 cI)),jS 100012 (bP (fun sl=>[.row (pid (sl 0)) 257]) (l1 bF)),jS 100020 (bP (fun sl=>[s0 14]) (l1 cI)),jS 100024 (bP (fun sl=>[.row (pid (sl 0)) 257]) (l1 bF)),jS 100032 (bP (fun sl=>[s0 20, s0 21]) (az cI (l1 cI))),jS 100038 (bP (fun sl=>[s0 20]) (l1 cI)),jS 100041 (bP (fun sl=>[.row (pid (sl 0)) 257]) (l1 bF)),jS 100043 (bP (fun sl=>[.row (pid (sl 0)) 257]) (l1 bF))] func415 ntmps415 (fun a=>arS fu a.1.2.1 a.1.2.2.1 a.1.2.2.2.1 a.2) (fun a h=>⟨avZ fu a.1.2.1 a.1.2.2.1 a.1.2.2.2.1 a.2 h,rfl⟩) (oq (n:=220) rfl)
def aoN:aU Z:=⟨415,oL (kz (aj (ng 0) (aj (bn cI) (aj (bn cI) (aj (bn cI) (a1 (kJ 275 [])))))) (b1 (j_ 257 D.Slot jE))) (shr [.row 0 257] (l1 bF)) 0 [] (fun a=>some (Wl (fun _ _=>True) (((a.1.2.2.2.1) - (a.1.2.1)).toNat+1) (a.1.2.1) (a.1.2.2.1) (a.1.2.2.2.1) (a.2))) (fun a=>akf (a.1.2.1) (a.1.2.2.1) (a.1.2.2.2.1) (a.2)),jT (fun n=>((apS n))) _ _ (fun a h=>⟨((a.1.2.2.2.1) - (a.1.2.1)).toNat+1,h,rfl⟩)⟩
def aC4 (n:Int)(l:List Slot):Pg (List Slot):=Xu vz apq (fun _ _=>True) bI akf n l
def aEw (n:Int)(l:List Slot):=(aC4 n l).val
theorem avj (n:Int)(l:List Slot)(h:stQ (fun _ _=>True) n l):Is (aC4 n l):=
 (yM kX (O4:=akf) (fun a m b l h=>I4 _ a m b l h) h).1
def aon:aU Z:=EK [Sm,atx,aoN] [jS 2 (bP (fun sl=>[s0 7, s0 8, .row (pid (sl 0)) 257]) (az cI (az cI (l1 bF)))),jS 7 (bP (fun sl=>[s0 6, .row (pid (sl 0)) 257]) (az cI (l1 bF))),jS 9 (bP (fun sl=>[s0 7, s0 8, .row (pid (sl 0)) 257]) (az cI (az cI (l1 bF)))),jS 100006 (bP (fun sl=>[s0 7, .row (pid (sl 0)) 257]) (az cI (l1 bF))),jS 100013 (bP (fun sl=>[s0 7, .row (pid (sl 0)) 257]) (az cI (l1 bF)))] (aj (ng 0) (aj (bn cI) (a1 (kJ 275 [])))) (b1 (j_ 257 D.Slot jE)) (shr [.row 0 257] (l1 bF)) [] func373 0 (fun a=>aC4 a.1.2.1 a.2) (fun a=>stQ (fun _ _=>True) a.1.2.1 a.2) fun a h=>avj a.1.2.1 a.2 h
def aBO (l:List Slot):Pg (List Slot):=.ob (stQ (fun(x x_1:Slot)=>True) (↑l.length:Int) l) (.lt (aEw (↑l.length:Int) l) fun(v1:List Slot)=> aL v1 (.ret v1))
def Yt (l:List Slot):=(aBO l).val
theorem aw_ (l:List Slot)(h:rU (fun _ _=>True) l):Is (aBO l):=
 aX ((⟨h,rfl⟩)) (dB fun v1 hv1=>iH fun _=>aT)
def asj:aU Z:=EK [Sm,aon] [] (aj (ng 0) (a1 (kJ 275 []))) (b1 (j_ 257 D.Slot jE)) (shr [.row 0 257] (l1 bF)) [] func274 0 (fun a=>aBO a.2) (fun a=>rU (fun _ _=>True) a.2) fun a h=>aw_ a.2 h
theorem amX {l:List Slot}(h:rU (fun _ _=>True) l):(Yt l).Perm l:=
 (yM kX (c:=apq) (q:=(fun _ _=>True)) (d:=bI) (O4:=akf) (fun a m b l h=>I4 _ a m b l h) ⟨h,rfl⟩).2
theorem QM {l:List Slot}(h:l.length<=1048576):(Yt l).Perm l:=amX ⟨by omega,fun _ _ _ _=>trivial⟩
theorem II {l v:List Slot}(h:l.length<=1048576)(e:v=Yt l):v.length=l.length:=by
 rw[e];exact(QM h).length_eq
noncomputable def aak (l:List Slot):Pg (List Slot):=.ob (l.length<=1048576) (.ob (rU (fun(x x_1:Slot)=>True) l) (.lt (Yt l) fun(v4:List Slot)=> aL v4 (.each false qw v4 bI (fun i1 a3 (y2:List Slot)=> .ix i1 v4.length (.ob (i1.toNat < v4.length) (.lt (y2++[Slot.mk a3.Num a3.Val.re]) fun(v5:List Slot)=> .lt (dD .i64 (i1+1)) fun(v6:Int)=> .br (v6==(↑v4.length:Int)) (aL v4 (.ob (bT (y2.length+1) 136) (rl v5))) (.ix v6 v4.length (.ob (v6.toNat < v4.length) (aL v4 (.br (a3.Num !=(v4.getD v6.toNat bI).Num) (.ob (bT (y2.length+1) 136) (rl v5)) (rl y2)))))))) (fun i1 (y2:List Slot)=> .ret y2) [])))
noncomputable def Bd (l:List Slot):List Slot:=(aak l).val
theorem BC (l:List Slot)(h:l.length<=1048576):jP (aak l) (fun r=>r.Sublist (Yt l)):=
 ak (h) (ak ((⟨by omega,fun _ _ _ _=>trivial⟩)) (aC fun v4 hv4=>bZ <| df (fun(i1:Nat) y2=>y2.Sublist (v4.take i1)/\v4.length=l.length) (by exact⟨List.nil_sublist _,II h hv4⟩) (by(have:=II h hv4;omega)) (fun i1 y2 qP rD=>have hI:y2.Sublist (v4.take i1)/\v4.length=l.length:=rD;bi au au (ak (qa0) (aC fun v5 hv5=>pG fun v6 hv6 _=>dO (fun _=>bZ <| ak (qa0) (ah qax)) (fun _=>bi au au (ak (qa0) (bZ <| dw (fun _=>ak (qa0) (ah qax)) (fun _=>ah qax))))))) (fun y2 hI=>have hI:y2.Sublist (v4.take v4.length)/\v4.length=l.length:=hI;ah qax)))
theorem al4 (l:List Slot)(h:l.length<=1048576):Is (aak l):=(BC l h).1
noncomputable def ark:aU Z:=E1 [aFM,asj,Sm] [jS 5 (bP (fun sl=>[s0 13, .slot 4 false [some 257]]) (az cI (l1 bF)))] (a1 (bn bF)) (R1 bF) [] func201 1 aak (fun a=>a.length<=1048576) fun a h=>al4 a h
def at7 (x:Str):Pg Bool:=.ret (x !=x)
def aij (x:Str):=(at7 x).val
def ao2:aU Z:=E0 [] [] (a1 (bn cStr)) (R1 aG) [] func452 1 at7
def aFp (x:Str)(y:Str):Pg Int:=.lt (aij y) fun(v1:Bool)=> .br (aij x) (.br v1 (.ret 0) (.ret (-1))) (.br v1 (.ret 1) (.br (Op.bytesLess x y) (.ret (-1)) (.br (!(Op.bytesLess x y || x==y)) (.ret 1) (.ret 0))))
def aGl (x:Str)(y:Str):=(aFp x y).val
def aDc:aU Z:=E0 [ao2] [] (aj (bn cStr) (a1 (bn cStr))) (R1 cI) [] func444 1 (u2 aFp)
def an1 (x:Int):Pg Bool:=.ret (x !=x)
def ajm (x:Int):=(an1 x).val
def atZ:aU Z:=E0 [] [] (a1 (bn (gz .u64))) (R1 aG) [] func453 1 an1
def aFq (x:Int)(y:Int):Pg Int:=.lt (ajm y) fun(v1:Bool)=> .br (ajm x) (.br v1 (.ret 0) (.ret (-1))) (.br v1 (.ret 1) (.br (decide (x < y)) (.ret (-1)) (.br (decide (y < x)) (.ret 1) (.ret 0))))
def azH (x:Int)(y:Int):=(aFq x y).val
def aBT:aU Z:=E0 [atZ] [] (aj (bn (gz .u64)) (a1 (bn (gz .u64)))) (R1 cI) [] func445 1 (u2 aFq)
def anY (b:Int):Pg Int:=.br (akW b==0) (.ret 18446744073709551615) (.br (vk .u64 b (9223372036854775808:Int) !=0) (.ret (agt .u64 (if IntKind.u64.signed=true then(-1)else IntKind.u64.max) b)) (.ret (orI .u64 b 9223372036854775808)))
def akF (b:Int):=(anY b).val
def aqt:aU Z:=E0 [acx] [] (a1 (bn (gz .u64))) (R1 (gz .u64)) [] func446 1 anY
def aEA (a:af)(b:af):Pg Int:=.br (a.Kind !=b.Kind) (.ret (SK a.Kind b.Kind)) (.br (!jQ a.Kind) (.ret 0) (.br (aj8 a.Kind) (.ret (aGl a.Text b.Text)) (.lt (SK (dD .i64 a.Bits) (dD .i64 b.Bits)) fun(v1:Int)=> .br (a.Kind==2) (.ret v1) (.br (a.Kind==3) (.ret v1) (.br (a.Kind==6) (.ret (azH (akF a.Bits) (akF b.Bits))) (.ret (azH a.Bits b.Bits)))))))
def aGL (a:af)(b:af):=(aEA a b).val
def aDs:aU Z:=E0 [L9,Yc,ac2,aDc,aBT,aqt] [] (aj (aF aI) (a1 (aF aI))) (R1 cI) [] func418 1 (u2 aEA)
def ayB:aU Z:=J9 Z [Yc] 417 [true] func417 dS
def aCW (a:af)(b:af):Pg Int:=.br (a.Kind !=b.Kind) (.ret (SK a.Kind b.Kind)) (.ob (jQ b.Kind=true/\True) (.ob (jQ a.Kind=true/\True) (.ret (aGL a.re b.re))))
def ay9 (a:af)(b:af):=(aCW a b).val
theorem au8 (a:af)(b:af)(h:jQ a.Kind=true/\jQ b.Kind=true):Is (aCW a b):=
 jG iR (fun _=>aX ((⟨h.2,trivial⟩)) (aX ((⟨h.1,trivial⟩)) (aT)))
def asz:aU Z:=E1 [L9,ayB,aDs] [] (aj (aF aI) (a1 (aF aI))) (R1 cI) [] func377 1 (u2 aCW) (fun a=>jQ a.1.Kind=true/\jQ a.2.Kind=true) fun a h=>au8 a.1 a.2 h
def opQ (a b:Pair):Prop:=jQ a.Key.Kind=true/\jQ b.Key.Kind=true
def opC (a:Pair)(b:Pair):Pg Int:=.ob (jQ a.Key.re.Kind=true/\jQ b.Key.re.Kind=true) (.ret (ay9 a.Key.re b.Key.re))
def atG (a:Pair)(b:Pair):=(opC a b).val
def Tu:aU Z:=E1 [asz] [] (aj (aF uI) (a1 (aF uI))) (R1 cI) [] func376 1 (u2 opC) fun a=>opQ a.1 a.2
def Hu (a:Pair):Pair:=Pair.mk a.Key.re a.Val.re
theorem ui (a:Pair):Hu a=a:=by
 unfold Hu;rw[af.dM,af.dM,Pair.eta]
def aE3 (a:Int)(b:Int)(n:Int)(l:List Pair):Pg (List Pair):=SY Hu gG a b n l
theorem ax7 (a:Int)(b:Int)(n:Int)(l:List Pair)(h:swQ a b n l.length):Is (aE3 a b n l):=
 (Mc ui h).1
def aDi:aU Z:=EK [Tu] [jS 1 (bP (fun sl=>[s0 10, .row (pid (sl 0)) 328]) (az cI (l1 dZ)))] (aj (ng 0) (aj (bn cI) (aj (bn cI) (aj (bn cI) (a1 (kJ 376 [])))))) (b1 (j_ 328 D.Pair oI)) (shr [.row 0 328] (l1 dZ)) [] func454 0 (fun a=>aE3 a.1.2.1 a.1.2.2.1 a.1.2.2.2.1 a.2) (fun a=>swQ a.1.2.1 a.1.2.2.1 a.1.2.2.2.1 a.2.length) fun a h=>ax7 a.1.2.1 a.1.2.2.1 a.1.2.2.2.1 a.2 h
def aFm (a:Int)(m:Int)(b:Int)(l:List Pair):Pg (List Pair):=Tc Hu gG a m b l
theorem au4 (a:Int)(m:Int)(b:Int)(l:List Pair)(h:roQ a m b l.length):Is (aFm a m b l):=
 (LM ui h).1
def aBq:aU Z:=EK [Tu,aDi] [jS 2 (bP (fun sl=>[s0 10, s0 11, .row (pid (sl 0)) 328]) (az cI (az cI (l1 dZ))))] (aj (ng 0) (aj (bn cI) (aj (bn cI) (aj (bn cI) (a1 (kJ 376 [])))))) (b1 (j_ 328 D.Pair oI)) (shr [.row 0 328] (l1 dZ)) [] func451 0 (fun a=>aFm a.1.2.1 a.1.2.2.1 a.1.2.2.2.1 a.2) (fun a=>roQ a.1.2.1 a.1.2.2.1 a.1.2.2.2.1 a.2.length) fun a h=>au4 a.1.2.1 a.1.2.2.1 a.1.2.2.2.1 a.2 h
def aCE (a:Int)(b:Int)(l:List Pair):Pg (List Pair):=SH Hu atG opQ gG a b l
def aFj (a:Int)(b:Int)(l:List Pair):=(aCE a b l).val
theorem awQ (a:Int)(b:Int)(l:List Pair)(h:Gq opQ a b l):Is (aCE a b l):=
 (L6 ui h).1
def aC6:aU Z:=vS Z [Tu] [jS 1 (bP (fun sl=>[s0 8, .row (pid (sl 0)) 328]) (az cI (l1 dZ))),jS 4 (bP (fun sl=>[s0 9, .row (pid (sl 0)) 328]) (az cI (l1 dZ)))] (kz (aj (ng 0) (aj (bn cI) (aj (bn cI) (a1 (kJ 376 []))))) (b1 (j_ 328 D.Pair oI))) (oq (n:=53) rfl) (shr [.row 0 328] (l1 dZ)) [] func442 ntmps442 dS 0 rfl (fun a=>aCE (a.1.2.1) (a.1.2.2.1) (a.2)) (fun a=>some (Gq opQ (a.1.2.1) (a.1.2.2.1) (a.2))) (fun a e _=>by kernel_rfl) (fun a=>aFj (a.1.2.1) (a.1.2.2.1) (a.2)) (fun a h=>⟨awQ (a.1.2.1) (a.1.2.2.1) (a.2) h,rfl⟩)
def aGQ (aHC:Int->Int->Int->List Pair->List Pair)(OH:Int->Int->Int->List Pair->Prop)(a:Int)(m:Int)(b:Int)(l:List Pair):Pg (List Pair):=XZ Hu atG opQ gG aHC OH a m b l
def OH (fu:Nat)(a:Int)(m:Int)(b:Int)(l:List Pair):Prop:=Wl opQ fu a m b l
def alI:Nat->(Int->Int->Int->(List Pair)->(List Pair))
 | 0=>(fun _ _ _ _=>default)
 | fu+1=>(fun a m b l=>(aGQ ((alI fu)) (OH fu) a m b l).val)
def ajH (a:Int)(m:Int)(b:Int)(l:List Pair):List Pair:=(alI ((b - a).toNat+1)) a m b l
theorem IQ:∀(fu:Nat) (a m b:Int) (l:List Pair),OH fu a m b l->(alI fu a m b l).Perm l
 | 0,_,_,_,_,h=>FY h
 | fu+1,_,_,_,_,h=>(yN ui (c:=atG) (O4:=alI fu) (Xe:=OH fu) (d:=gG) (fun _ _ _ _ h=>h) (IQ fu) h).2
abbrev asn (fu:Nat):=aGQ ((alI fu)) (OH fu)
theorem axw (fu:Nat)(a:Int)(m:Int)(b:Int)(l:List Pair)(h:OH (fu+1) a m b l):Is (asn fu a m b l):=
 (yN ui (fun _ _ _ _ h=>h) (IQ fu) h).1
theorem ara:∀fu,fV Z.P Z.S 443 (oL (kz (aj (ng 0) (aj (bn cI) (aj (bn cI) (aj (bn cI) (a1 (kJ 376 [])))))) (b1 (j_ 328 D.Pair oI))) (shr [.row 0 328] (l1 dZ)) 0 [] (fun a=>some (OH fu (a.1.2.1) (a.1.2.2.1) (a.1.2.2.2.1) (a.2))) (fun a=>(alI fu) (a.1.2.1) (a.1.2.2.1) (a.1.2.2.2.1) (a.2)))
 | 0=>iG func443 dS (fun a h=>FY h)
 | fu+1=>by
  have h0:=ara fu;exact Eo [Tu,aBq,⟨443,_,h0⟩] [jS 3 (bP (fun sl=>[s0 10, s0 11]) (az cI (l1 cI))),jS 9 (bP (fun sl=>[s0 13, .row (pid (sl 0)) 328]) (az cI (l1 dZ))),jS 15 (bP (fun sl=>[s0 14, s0 15]) (az cI (l1 cI))),jS 21 (bP (fun sl=>[s0 17, .row (pid (sl 0)) 328]) (az cI (l1 dZ))),jS 33 (bP (fun sl=>[s0 20, s0 21]) (az cI (l1 cI))),jS 100008 (bP (fun sl=>[s0 10]) (l1 cI)),jS 100012 (bP (fun sl=>[.row (pid (sl 0)) 328]) (l1 dZ)),jS 100020 (bP (fun sl=>[s0 14]) (l1 cI)),jS 100024 (bP (fun sl=>[.row (pid (sl 0)) 328]) (l1 dZ)),jS 100032 (bP (fun sl=>[s0 20, s0 21]) (az cI (l1 cI))),jS 100038 (bP (fun sl=>[s0 20]) (l1 cI)),jS 100041 (bP (fun sl=>[.row (pid (sl 0)) 328]) (l1 dZ)),jS 100043 (bP (fun sl=>[.row (pid (sl 0)) 328]) (l1 dZ))] func443 ntmps443 (fun a=>asn fu a.1.2.1 a.1.2.2.1 a.1.2.2.2.1 a.2) (fun a h=>⟨axw fu a.1.2.1 a.1.2.2.1 a.1.2.2.2.1 a.2 h,rfl⟩) (oq (n:=220) rfl)
def aDu:aU Z:=⟨443,oL (kz (aj (ng 0) (aj (bn cI) (aj (bn cI) (aj (bn cI) (a1 (kJ 376 [])))))) (b1 (j_ 328 D.Pair oI))) (shr [.row 0 328] (l1 dZ)) 0 [] (fun a=>some (Wl opQ (((a.1.2.2.2.1) - (a.1.2.1)).toNat+1) (a.1.2.1) (a.1.2.2.1) (a.1.2.2.2.1) (a.2))) (fun a=>ajH (a.1.2.1) (a.1.2.2.1) (a.1.2.2.2.1) (a.2)),jT (fun n=>((ara n))) _ _ (fun a h=>⟨((a.1.2.2.2.1) - (a.1.2.1)).toNat+1,h,rfl⟩)⟩
def aBx (n:Int)(l:List Pair):Pg (List Pair):=Xu Hu atG opQ gG ajH n l
def aFJ (n:Int)(l:List Pair):=(aBx n l).val
theorem ayt (n:Int)(l:List Pair)(h:stQ opQ n l):Is (aBx n l):=
 (yM ui (O4:=ajH) (fun a m b l h=>IQ _ a m b l h) h).1
def aA4:aU Z:=EK [Tu,aC6,aDu] [jS 2 (bP (fun sl=>[s0 7, s0 8, .row (pid (sl 0)) 328]) (az cI (az cI (l1 dZ)))),jS 7 (bP (fun sl=>[s0 6, .row (pid (sl 0)) 328]) (az cI (l1 dZ))),jS 9 (bP (fun sl=>[s0 7, s0 8, .row (pid (sl 0)) 328]) (az cI (az cI (l1 dZ)))),jS 100006 (bP (fun sl=>[s0 7, .row (pid (sl 0)) 328]) (az cI (l1 dZ))),jS 100013 (bP (fun sl=>[s0 7, .row (pid (sl 0)) 328]) (az cI (l1 dZ)))] (aj (ng 0) (aj (bn cI) (a1 (kJ 376 [])))) (b1 (j_ 328 D.Pair oI)) (shr [.row 0 328] (l1 dZ)) [] func416 0 (fun a=>aBx a.1.2.1 a.2) (fun a=>stQ opQ a.1.2.1 a.2) fun a h=>ayt a.1.2.1 a.2 h
def aBj (l:List Pair):Pg (List Pair):=.ob (stQ opQ (↑l.length:Int) l) (.lt (aFJ (↑l.length:Int) l) fun(v1:List Pair)=> aL v1 (.ret v1))
def YG (l:List Pair):=(aBj l).val
theorem aw2 (l:List Pair)(h:rU opQ l):Is (aBj l):=
 aX ((⟨h,rfl⟩)) (dB fun v1 hv1=>iH fun _=>aT)
def aBK:aU Z:=EK [Tu,aA4] [] (aj (ng 0) (a1 (kJ 376 []))) (b1 (j_ 328 D.Pair oI)) (shr [.row 0 328] (l1 dZ)) [] func375 0 (fun a=>aBj a.2) (fun a=>rU opQ a.2) fun a h=>aw2 a.2 h
theorem zo {l:List Pair}(h:rU opQ l):(YG l).Perm l:=
 (yM ui (c:=atG) (q:=opQ) (d:=gG) (O4:=ajH) (fun a m b l h=>IQ _ a m b l h) ⟨h,rfl⟩).2
def asX (a:af)(b:af):Pg Bool:=.ob (jQ a.re.Kind=true/\jQ b.re.Kind=true) (.ret (ay9 a.re b.re==0))
def akB (a:af)(b:af):=(asX a b).val
def adc:aU Z:=E1 [asz] [] (aj (aF aI) (a1 (aF aI))) (R1 aG) [] func378 1 (u2 asX) fun a=>jQ a.1.Kind=true/\jQ a.2.Kind=true
def oh (l:List Pair):Prop:=l.length<=1048576/\∀x∈l,jQ x.Key.Kind=true
theorem nX {l:List Pair}(h:oh l):rU opQ l:=⟨by have:=h.1;omega,fun x hx y hy=>⟨h.2 x hx,h.2 y hy⟩⟩
theorem ar8 {l v:List Pair}(h:oh l)(e:v=YG l):oh v:=by
 have k:=zo (nX h);rw[e];exact⟨by rw[k.length_eq];exact h.1,fun x hx=>h.2 x (k.mem_iff.1 hx)⟩
theorem YZ {v:List Pair}(h:oh v){i:Nat}(hi:i < v.length):jQ (v.getD i gG).Key.Kind=true:=h.2 _ (getD_mem hi)
theorem IK {l v:List Pair}(h:rU opQ l)(e:v=YG l):v.length=l.length:=by
 rw[e];exact(zo h).length_eq
def agU (l:List Pair):Pg (List Pair):=.ob (l.length<=1048576) (.ob (rU opQ l) (.lt (YG l) fun(v4:List Pair)=> aL v4 (.each false qw v4 gG (fun i1 a3 (y2:List Pair)=> .ix i1 v4.length (.ob (i1.toNat < v4.length) (.lt (y2++[Pair.mk a3.Key.re a3.Val.re]) fun(v5:List Pair)=> .lt (dD .i64 (i1+1)) fun(v6:Int)=> .br (v6==(↑v4.length:Int)) (aL v4 (.ob (bT (y2.length+1) 256) (rl v5))) (.ix v6 v4.length (.ob (v6.toNat < v4.length) (.ob (jQ a3.Key.re.Kind=true/\jQ (v4.getD v6.toNat gG).Key.re.Kind=true) (aL v4 (.br (!akB a3.Key.re (v4.getD v6.toNat gG).Key.re) (.ob (bT (y2.length+1) 256) (rl v5)) (rl y2))))))))) (fun i1 (y2:List Pair)=> .ret y2) [])))
def nY (l:List Pair):=(agU l).val
theorem Aw (l:List Pair)(h:oh l):jP (agU l) (fun r=>r.Sublist (YG l)):=
 ak (h.1) (ak ((nX h)) (aC fun v4 hv4=>bZ <| df (fun(i1:Nat) y2=>y2.Sublist (v4.take i1)/\v4.length=l.length/\l.length<=1048576) (by exact⟨List.nil_sublist _,IK (nX h) hv4,h.1⟩) (by(have:=IK (nX h) hv4;have:=h.1;omega)) (fun i1 y2 qP rD=>have hI:y2.Sublist (v4.take i1)/\v4.length=l.length/\l.length<=1048576:=rD;bi au au (ak (qaq) (aC fun v5 hv5=>pG fun v6 hv6 _=>dO (fun _=>bZ <| ak (qaq) (ah qau)) (fun _=>bi au au (ak (qaq) (ak (qaq) (bZ <| dR (fun _=>ak (qaq) (ah qau)) (fun _=>ah qau)))))))) (fun y2 hI=>have hI:y2.Sublist (v4.take v4.length)/\v4.length=l.length/\l.length<=1048576:=hI;ah qau)))
def Uh:aU Z:=E1 [az2,aBK,Tu,adc] [jS 5 (bP (fun sl=>[s0 13, .slot 4 false [some 328]]) (az cI (l1 dZ)))] (a1 (bn dZ)) (R1 dZ) [] func279 1 agU (fun a=>oh a) fun a h=>(Aw a h).1
def akx (v:af):Pg Bool:=.br (jQ v.Kind) (.br (ap4 v.re) (.br (v.Bits==0) (.ret (v.Text==[])) (.ret false)) (.ret false)) (.ret false)
def apK (v:af):=(akx v).val
def ank:aU Z:=E0 [Yc,akM] [] (a1 (aF aI)) (R1 aG) [] func280 1 akx
def aqh (v:af):Pg Bool:=.lt (apK v.re) fun(v1:Bool)=> .br (v.Kind==11) (.br ((↑v.List.length:Int)==0) (.ret true) (.br (v.Kind==12) (.br ((↑v.Pairs.length:Int)==0) (.ret true) (.ret v1)) (.ret v1))) (.br (v.Kind==12) (.br ((↑v.Pairs.length:Int)==0) (.ret true) (.ret v1)) (.ret v1))
def axH (v:af):=(aqh v).val
def apM:aU Z:=E0 [ank] [] (a1 (aF aI)) (R1 aG) [] func204 1 aqh
theorem agh (n:Int):lK (IntKind.wrap .u64 n):=by
 have e:IntKind.wrap .u64 n=n % 18446744073709551616:=by
  unfold IntKind.wrap;rfl
 rw[e];exact⟨by omega,by omega⟩
theorem Og (n:Int):lK (dD .u64 n):=agh n
theorem u0:lK 0:=⟨by decide,by decide⟩
def aAK (n:Int):Pg Int:=.ob ((0:Int)<=1) (.ob ((0:Int)<=63) (.ret (agt .u64 (WQ .u64 (dD .u64 n) 1) (dD .u64 (Aq .i64 n 63)))))
def apE (n:Int):=(aAK n).val
def aB7:aU Z:=E0 [] [] (a1 (bn cI)) (R1 (gz .u64)) [] func438 1 aAK
def ayb (u:Int):Pg (List UInt8):=.ob ((8:Int)=8/\(0:Int)<=8/\8*(1:Int)<=281474976710656/\(8:Int)<=1099511627776) (.as ((aqy 8 0).length<=9223372036854775807) (.cnt qw 0 (↑(aqy 8 0).length:Int) (fun i1 (y2:List Int)=> .lt (dD .i64 (8*i1)) fun(v3:Int)=> .ob (0<=v3) (.ix i1 y2.length (.ob (i1.toNat < y2.length) (rl (y2.set i1.toNat (dD .u8 (Aq .u64 u v3))))))) (fun i1 (y2:List Int)=> .ob (HY (fun(i:Nat)=>true) y2.length=true) (.ret (txU y2))) (aqy 8 0)))
def azg (u:Int):=(ayb u).val
theorem U1 (u:Int):jP (ayb u) (fun r=>r.length=8):=
 have e8:(aqy 8 0).length=8:=rfl;ak (qbz) (bZ <| vO (fun(i1:Int) y2=>y2.length=8) (by exact e8) au au (fun i1 y2 aIe aIf rD=>have hI:y2.length=8:=rD;pG fun v3 hv3 _=>ak (qbz) (bi au au (ak (qbz) (ah qbr)))) (fun i1 y2 _ hge hI=>have hI:y2.length=8:=hI;ak (qbz) (ah qbr)))
theorem avN (u:Int):Is (ayb u):=(U1 u).1
def ahH:aU Z:=E0 [] [jS 3 (bP (fun sl=>[s0 8, .row (pid (sl 3)) 5]) (az cI (l1 MP)))] (a1 (bn (gz .u64))) (R1 cStr) [] func226 1 ayb fun a=>avN a
def aB0 (wire:Int):Pg Bool:=.br (wire==0) (.ret true) (.br (wire==1) (.ret true) (.ret (wire==2)))
def ajw (wire:Int):=(aB0 wire).val
def ahV:aU Z:=E0 [] [] (a1 (bn cI)) (R1 aG) [] func227 1 aB0
def acz (num:Int)(wire:Int):Pg (List UInt8×Int):=.br (decide (num < 1)) (.ret ([],6)) (.br (decide (65535 < num)) (.ret ([],6)) (.br (decide (wire < 0)) (.ret ([],6)) (.br (decide (6 < wire)) (.ret ([],6)) (.lt (dD .u64 (dD .i64 (dD .i64 (num*8)+wire))) fun(v1:Int)=> .ob (lK v1) (.ret (RP v1,0))))))
def Be (num:Int)(wire:Int):=(acz num wire).val
theorem arU (num:Int)(wire:Int):Is (acz num wire):=
 dV iR (fun _=>dV iR (fun _=>dV iR (fun _=>dV iR (fun _=>dB fun v1 hv1=>aX (by rw[hv1];exact Og _) (aT)))))
def abx:aU Z:=E0 [aa7] [] (aj (bn cI) (a1 (bn cI))) (shr [s0 0, s0 1] (az cStr (l1 cI))) [] func224 2 (u2 acz) fun a=>arU a.1 a.2
def aar (f:Raw):Pg Bool:=.br ((Be f.Num f.fA).2 !=0) (.ret false) (.br (ajw f.fA) (.ret (f.Data==[])) (.ret (f.Bits==0)))
def KD (f:Raw):=(aar f).val
def aeM:aU Z:=E0 [abx,ahV] [] (a1 (aF og)) (R1 aG) [] func223 1 aar
def PZ:List Raw->Nat
 | []=>0
 | x::l=>1+x.Data.length+PZ l
mutual
def tV:af->Nat
 | .mk _ _ t l p s r=>1+t.length+YP l+WP p+tSs s+PZ r
def YP:List af->Nat
 | []=>0
 | x::l=>1+tV x+YP l
def tP:Pair->Nat
 | .mk k v=>1+tV k+tV v
def WP:List Pair->Nat
 | []=>0
 | x::l=>tP x+WP l
def tS:Slot->Nat
 | .mk _ v=>1+tV v
def tSs:List Slot->Nat
 | []=>0
 | x::l=>tS x+tSs l
end
def KY (x:Raw):Prop:=lK x.Bits/\KD x=true
def kRs:List Raw->Prop
 | []=>True
 | x::l=>KY x/\kRs l
mutual
def kV:af->Prop
 | .mk _ b _ l p s r=>(lK b/\kRs r)/\kVs l/\kPs p/\kSs s
def kVs:List af->Prop
 | []=>True
 | x::l=>kV x/\kVs l
def kP:Pair->Prop
 | .mk k v=>(jQ k.Kind=true/\kV k)/\kV v
def kPs:List Pair->Prop
 | []=>True
 | x::l=>kP x/\kPs l
def kS:Slot->Prop
 | .mk _ v=>kV v
def kSs:List Slot->Prop
 | []=>True
 | x::l=>kS x/\kSs l
end
theorem iy (v:af):tV v=1+v.Text.length+YP v.List+WP v.Pairs+tSs v.Slots+PZ v.bJ:=by cases v;simp[tV,af.Text,af.List,af.Pairs,af.Slots,af.bJ]
theorem OL (x:Pair):tP x=1+tV x.Key+tV x.Val:=by cases x;simp[tP,Pair.Key,Pair.Val]
theorem wS (x:Slot):tS x=1+tV x.Val:=by cases x;simp[tS,Slot.Val]
theorem lV (v:af):1<=tV v:=by rw[iy];omega
def jF {A:Type}(f:A->Nat):List A->Nat
 | []=>0
 | x::l=>f x+jF f l
section
variable {A:Type}{f:A->Nat}
theorem ou (l m:List A):jF f (l++m)=jF f l+jF f m:=by
 induction l with
 | nil=>simp[jF]
 | cons a l ih=>simp only[Qbu,jF,ih];omega
theorem EY {l:List A}{x:A}(h:x∈l):f x<=jF f l:=by
 induction l with
 | nil=>cases h
 | cons a l ih=>
  simp only[jF];rcases yR.1 h with e | e
  ·subst e;omega
  ·have:=ih e;omega
theorem yu {l:List A}(h:∀x,1<=f x):l.length<=jF f l:=by
 induction l with
 | nil=>simp
 | cons a l ih=>have:=h a;simp only[jF,xH];omega
theorem uH {l m:List A}(h:l.Sublist m):jF f l<=jF f m:=by
 induction h with
 | slnil=>exact lU _
 | cons a _ ih=>simp only[jF];omega
 | cons_cons a _ ih=>simp only[jF];omega
theorem Ed {l m:List A}(h:l.Perm m):jF f l=jF f m:=by
 induction h with
 | nil=>rfl
 | cons a _ ih=>simp only[jF,ih]
 | swap a b l=>simp only[jF];omega
 | trans _ _ i1 i2=>exact i1.trans i2
theorem pR {l:List A}{i:Nat}{d:A}(hi:i < l.length):jF f (l.take (i+1))=jF f (l.take i)+f (l.getD i d):=by
 rw[take_snoc (d:=d) hi,ou];simp[jF]
end
theorem ul (l:List af):YP l=jF (fun x=>1+tV x) l:=by
 induction l with
 | nil=>rfl
 | cons a l ih=>simp only[YP,jF,ih]
theorem ve (l:List Pair):WP l=jF tP l:=by
 induction l with
 | nil=>rfl
 | cons a l ih=>simp only[WP,jF,ih]
theorem vG (l:List Slot):tSs l=jF tS l:=by
 induction l with
 | nil=>rfl
 | cons a l ih=>simp only[tSs,jF,ih]
theorem D9 (l:List Raw):PZ l=jF (fun x=>1+x.Data.length) l:=by
 induction l with
 | nil=>rfl
 | cons a l ih=>simp only[PZ,jF,ih]
theorem ajP {l:List af}{x:af}(h:x∈l):1+tV x<=YP l:=by rw[ul];exact EY (f:=fun x=>1+tV x) h
theorem aiX {l:List Pair}{x:Pair}(h:x∈l):1+tV x.Key+tV x.Val<=WP l:=by rw[ve,<-OL];exact EY h
theorem ZZ {l:List Slot}{x:Slot}(h:x∈l):1+tV x.Val<=tSs l:=by rw[vG,<-wS];exact EY h
theorem J6 (l:List af):l.length<=YP l:=by rw[ul];exact yu fun x=>by omega
theorem EO (l:List Pair):l.length<=WP l:=by rw[ve];exact yu fun x=>by rw[OL];omega
theorem PX (l:List Slot):l.length<=tSs l:=by rw[vG];exact yu fun x=>by rw[wS];omega
theorem IG (l:List Raw):l.length<=PZ l:=by rw[D9];exact yu fun x=>by omega
theorem axP (l:List af):kVs l ↔ ∀x∈l,kV x:=by
 induction l with
 | nil=>simp[kVs]
 | cons a l ih=>simp[kVs,ih]
theorem aiN (l:List Raw):kRs l ↔ ∀x∈l,KY x:=by
 induction l with
 | nil=>simp[kRs]
 | cons a l ih=>simp[kRs,ih]
theorem aC5 (x:Pair):kP x ↔ (jQ x.Key.Kind=true/\kV x.Key)/\kV x.Val:=by cases x;simp[kP,Pair.Key,Pair.Val]
theorem axW (l:List Pair):kPs l ↔ ∀x∈l,(jQ x.Key.Kind=true/\kV x.Key)/\kV x.Val:=by
 induction l with
 | nil=>simp[kPs]
 | cons a l ih=>simp[kPs,ih,aC5]
theorem aCo (x:Slot):kS x ↔ kV x.Val:=by cases x;simp[kS,Slot.Val]
theorem awI (l:List Slot):kSs l ↔ ∀x∈l,kV x.Val:=by
 induction l with
 | nil=>simp[kSs]
 | cons a l ih=>simp[kSs,ih,aCo]
theorem ik (v:af):kV v ↔ (lK v.Bits/\∀r∈v.bJ,KY r)/\(∀x∈v.List,kV x)/\(∀x∈v.Pairs,(jQ x.Key.Kind=true/\kV x.Key)/\kV x.Val)/\∀x∈v.Slots,kV x.Val:=by
 cases v;simp[kV,axP,axW,awI,aiN,af.Bits,af.List,af.Pairs,af.Slots,af.bJ]
def gV (v:af):Prop:=kV v/\tV v<=1048576
def xC (k fu:Nat)(v:af):Prop:=gV v/\3*tV v+k<=fu
theorem Np {k:Nat}{v:af}(h:xC k 0 v):False:=by
 have:=lV v;have:=h.2;omega
theorem oV {v:af}(h:gV v):v.bJ.length<=1048576/\v.Slots.length<=1048576/\v.List.length<=1048576/\oh v.Pairs:=by
 have h1:=iy v;have h2:=IG v.bJ;have h3:=PX v.Slots;have h4:=J6 v.List;have h5:=EO v.Pairs;have h6:=h.2;exact⟨by omega,by omega,by omega,by omega,fun x hx=>(((ik v).1 h.1).2.2.1 x hx).1.1⟩
theorem Bz {v x:af}(h:gV v)(hx:x∈v.List):gV x/\tV x < tV v:=by
 have h1:=iy v;have h2:=ajP hx;have:=h.2;exact⟨⟨((ik v).1 h.1).2.1 x hx,by omega⟩,by omega⟩
theorem yc {v:af}{x:Pair}(h:gV v)(hx:x∈v.Pairs):gV x.Val/\tV x.Val < tV v/\jQ x.Key.Kind=true/\tV x.Key < tV v:=by
 have h1:=iy v;have h2:=aiX hx;have h3:=((ik v).1 h.1).2.2.1 x hx;have:=h.2;exact⟨⟨h3.2,by omega⟩,by omega,h3.1.1,by omega⟩
theorem ahe {v:af}{x:Pair}(h:gV v)(hx:x∈v.Pairs):kV x.Key:=(((ik v).1 h.1).2.2.1 x hx).1.2
theorem J4 {v:af}{x:Slot}(h:gV v)(hx:x∈v.Slots):gV x.Val/\tV x.Val < tV v:=by
 have h1:=iy v;have h2:=ZZ hx;have:=h.2;exact⟨⟨((ik v).1 h.1).2.2.2 x hx,by omega⟩,by omega⟩
theorem x8 (v:af):(nK v).Kind=v.Kind/\(nK v).Text=v.Text/\(nK v).List=v.List/\(nK v).Pairs=v.Pairs/\(nK v).Slots=v.Slots/\(nK v).bJ=v.bJ:=by
 unfold nK akj;simp only[dK,dE,bH,aV,mr,Qb6];(repeat' split)<;>(cases v;exact⟨rfl,rfl,rfl,rfl,rfl,rfl⟩)
theorem Zl (v:af):tV (nK v)=tV v:=by
 obtain⟨h1,h2,h3,h4,h5,h6⟩:=x8 v;rw[iy,iy v,h2,h3,h4,h5,h6]
theorem axZ (v:af):(nK v).Bits=v.Bits\/(nK v).Bits=9221120237041090560:=by
 unfold nK akj;simp only[dK,dE,bH,aV,mr,Qb6];(repeat' split)<;>(cases v;first | exact .inl rfl | exact .inr rfl)
theorem P8 {v:af}(h:kV v):kV (nK v):=by
 obtain⟨h1,h2,h3,h4,h5,h6⟩:=x8 v;rw[ik]at h⊢;rw[h3,h4,h5,h6];refine⟨⟨?_,h.1.2⟩,h.2⟩;rcases axZ v with e | e
 ·rw[e];exact h.1.1
 ·rw[e];exact⟨by decide,by decide⟩
theorem kF (k b:Int)(t:Str)(hb:lK b):kV (af.mk k b t [] [] [] [])/\tV (af.mk k b t [] [] [] [])=1+t.length:=by
 simp[kV,kVs,kPs,kSs,kRs,tV,YP,WP,tSs,PZ,hb]
def azE (ah8:dC->Int->af->af)(sF:dC->Int->af->Prop)(Q7:dC->Op->af->af)(nC:dC->Op->af->Prop)(KW:dC->Op->af->af)(nz:dC->Op->af->Prop)(p:dC)(prog:Int)(v:af):Pg af:=.ob (v.bJ.length<=1048576) (.lt (match v with | af.mk Kind_ aug aup aul aun ahW a=>a) fun(v4:List Raw)=> .br (decide (prog < 0)) (.ret (af.mk (Int.ofNat (nat_lit 10)) (Int.ofNat (nat_lit 0)) [] [] [] [] v4)) (aL p.a_ (.br (decide ((↑p.a_.length:Int)<=prog)) (.ret (af.mk (Int.ofNat (nat_lit 10)) (Int.ofNat (nat_lit 0)) [] [] [] [] v4)) (.ob (v.Slots.length<=1048576) (.lt (Bd v.Slots) fun(v5:List Slot)=> aL v5 (.each false qw v5 bI (fun i1 a3 (y2:af)=> .ix i1 v5.length (.ix prog p.a_.length (.lt (y2.Slots++[Slot.mk a3.Num (Q7 p (lM (p.a_.getD prog.toNat bU) a3.Num).1 a3.Val.re).re]) fun(v6:List Slot)=> .lt (axH (Q7 p (lM (p.a_.getD prog.toNat bU) a3.Num).1 a3.Val.re).re) fun(v7:Bool)=> .lt (lM (p.a_.getD prog.toNat bU) a3.Num) fun(v8:Op×Bool)=> .br (v8.1.Card==3) (.ob (nC p v8.1 a3.Val.re) (.br (!v7) (.ob (bT (y2.Slots.length+1) 136) (rl (af.mk y2.Kind y2.Bits y2.Text y2.List y2.Pairs v6 y2.bJ))) (rl y2.re))) (.br (v8.1.Card==4) (.ob (nC p v8.1 a3.Val.re) (.br (!v7) (.ob (bT (y2.Slots.length+1) 136) (rl (af.mk y2.Kind y2.Bits y2.Text y2.List y2.Pairs v6 y2.bJ))) (rl y2.re))) (.ob (nC p v8.1 a3.Val.re) (.br (!v8.1.Card==5) (.ob (bT (y2.Slots.length+1) 136) (rl (af.mk y2.Kind y2.Bits y2.Text y2.List y2.Pairs v6 y2.bJ))) (.br (!v7) (.ob (bT (y2.Slots.length+1) 136) (rl (af.mk y2.Kind y2.Bits y2.Text y2.List y2.Pairs v6 y2.bJ))) (rl y2.re)))))))) (fun i1 (y2:af)=> .ob (rU (fun(x x_1:Raw)=>True) y2.bJ) (.ret (af.mk y2.Kind y2.Bits y2.Text y2.List y2.Pairs y2.Slots (Oh y2.bJ)))) (af.mk (Int.ofNat (nat_lit 10)) (Int.ofNat (nat_lit 0)) [] [] [] [] v4)))))))
def ao7 (ah8:dC->Int->af->af)(sF:dC->Int->af->Prop)(Q7:dC->Op->af->af)(nC:dC->Op->af->Prop)(KW:dC->Op->af->af)(nz:dC->Op->af->Prop)(p:dC)(o:Op)(v:af):Pg af:=.br (o.Card==4) (aL v.List (.each false qw v.List fM (fun i1 (a3 y2:af)=> .ix i1 v.List.length (.ob (nz p o a3.re) (.ob (bT (y2.List.length+1) 128) (rl (af.mk y2.Kind y2.Bits y2.Text (y2.List++[(KW p o a3.re).re]) y2.Pairs y2.Slots y2.bJ))))) (fun i1 (y2:af)=> .ret y2.re) (af.mk (Int.ofNat (nat_lit 11)) (Int.ofNat (nat_lit 0)) [] [] [] [] []))) (.br (o.Card==5) (.ob (oh v.Pairs) (.lt (nY v.Pairs) fun(v7:List Pair)=> aL v7 (.each false qw v7 gG (fun i4 a6 (y5:af)=> .ix i4 v7.length (.ob (nz p o a6.Val.re) (.ob (bT (y5.Pairs.length+1) 256) (rl (af.mk y5.Kind y5.Bits y5.Text y5.List (y5.Pairs++[Pair.mk (nK a6.Key.re).re (KW p o a6.Val.re).re]) y5.Slots y5.bJ))))) (fun i4 (y5:af)=> .ret y5.re) (af.mk (Int.ofNat (nat_lit 12)) (Int.ofNat (nat_lit 0)) [] [] [] [] [])))) (.ob (nz p o v.re) (.ret (KW p o v.re).re)))
def arE (ah8:dC->Int->af->af)(sF:dC->Int->af->Prop)(Q7:dC->Op->af->af)(nC:dC->Op->af->Prop)(KW:dC->Op->af->af)(nz:dC->Op->af->Prop)(p:dC)(o:Op)(v:af):Pg af:=.br (o.Kind==10) (.ob (sF p o.Target v.re) (.ret (ah8 p o.Target v.re).re)) (.ret (nK v.re).re)
def sF (fu:Nat)(p:dC)(prog:Int)(v:af):Prop:=xC 0 fu v
def nC (fu:Nat)(p:dC)(o:Op)(v:af):Prop:=xC 2 fu v
def nz (fu:Nat)(p:dC)(o:Op)(v:af):Prop:=xC 1 fu v
def Pe:Nat->(dC->Int->af->af)×(dC->Op->af->af)×(dC->Op->af->af)
 | 0=>(fun _ _ _=>default,fun _ _ _=>default,fun _ _ _=>default)
 | fu+1=>(fun p prog v=>(azE ((Pe fu).1) (sF fu) ((Pe fu).2.1) (nC fu) ((Pe fu).2.2) (nz fu) p prog v).val,fun p o v=>(ao7 ((Pe fu).1) (sF fu) ((Pe fu).2.1) (nC fu) ((Pe fu).2.2) (nz fu) p o v).val,fun p o v=>(arE ((Pe fu).1) (sF fu) ((Pe fu).2.1) (nC fu) ((Pe fu).2.2) (nz fu) p o v).val)
def Vy (p:dC)(prog:Int)(v:af):af:=(Pe (3*tV v)).1 p prog v
def ZA (fu:Nat):Prop:=(∀(p:dC) (prog:Int) (v:af),sF fu p prog v->(fun r=>kV r/\tV r<=tV v) ((Pe fu).1 p prog v))/\(∀(p:dC) (o:Op) (v:af),nC fu p o v->(fun r=>kV r/\tV r<=tV v) ((Pe fu).2.1 p o v))/\(∀(p:dC) (o:Op) (v:af),nz fu p o v->(fun r=>kV r/\tV r<=tV v) ((Pe fu).2.2 p o v))
def pnI (v4:List Raw)(v5:List Slot)(i:Nat)(y:af):Prop:=kV y/\tV y<=1+jF tS (v5.take i)+PZ v4/\y.Slots.length<=i/\y.bJ=v4
def pnL (l:List af)(i:Nat)(y:af):Prop:=kV y/\tV y<=1+jF (fun x=>1+tV x) (l.take i)/\y.List.length<=i
def pnP (l:List Pair)(i:Nat)(y:af):Prop:=kV y/\tV y<=1+jF tP (l.take i)/\y.Pairs.length<=i
theorem aEY (y z:af)(n:Int):tV (af.mk y.Kind y.Bits y.Text y.List y.Pairs (y.Slots++[Slot.mk n z]) y.bJ)=tV y+(1+tV z):=by
 rw[iy,iy y];cases y;simp only[af.Text,af.List,af.Pairs,af.Slots,af.bJ,vG,ou,jF,wS,Slot.Val];omega
theorem aE6 {y z:af}{n:Int}(h:kV y)(hz:kV z):kV (af.mk y.Kind y.Bits y.Text y.List y.Pairs (y.Slots++[Slot.mk n z]) y.bJ):=by
 rw[ik]at h⊢;cases y;simp only[af.Bits,af.Text,af.List,af.Pairs,af.Slots,af.bJ]at h⊢;exact⟨h.1,h.2.1,h.2.2.1,fun x hx=>(tY.1 hx).elim (h.2.2.2 x) fun e=>by rw[Aj.1 e];exact hz⟩
theorem aGr (y z:af):tV (af.mk y.Kind y.Bits y.Text (y.List++[z]) y.Pairs y.Slots y.bJ)=tV y+(1+tV z):=by
 rw[iy,iy y];cases y;simp only[af.Text,af.List,af.Pairs,af.Slots,af.bJ,ul,ou,jF];omega
theorem aFO {y z:af}(h:kV y)(hz:kV z):kV (af.mk y.Kind y.Bits y.Text (y.List++[z]) y.Pairs y.Slots y.bJ):=by
 rw[ik]at h⊢;cases y;simp only[af.Bits,af.Text,af.List,af.Pairs,af.Slots,af.bJ]at h⊢;exact⟨h.1,fun x hx=>(tY.1 hx).elim (h.2.1 x) fun e=>by rw[Aj.1 e];exact hz,h.2.2⟩
theorem aGH (y k z:af):tV (af.mk y.Kind y.Bits y.Text y.List (y.Pairs++[Pair.mk k z]) y.Slots y.bJ)=tV y+(1+tV k+tV z):=by
 rw[iy,iy y];cases y;simp only[af.Text,af.List,af.Pairs,af.Slots,af.bJ,ve,ou,jF,OL,Pair.Key,Pair.Val];omega
theorem aFt {y k z:af}(h:kV y)(hk:jQ k.Kind=true/\kV k)(hz:kV z):kV (af.mk y.Kind y.Bits y.Text y.List (y.Pairs++[Pair.mk k z]) y.Slots y.bJ):=by
 rw[ik]at h⊢;cases y;simp only[af.Bits,af.Text,af.List,af.Pairs,af.Slots,af.bJ]at h⊢;exact⟨h.1,h.2.1,fun x hx=>(tY.1 hx).elim (h.2.2.1 x) fun e=>by rw[Aj.1 e];exact⟨hk,hz⟩,h.2.2.2⟩
theorem agV {l:List Slot}(h:l.length<=1048576){x:Slot}(hx:x∈Bd l):x∈l:=(QM h).mem_iff.1 ((BC l h).2.subset hx)
theorem ar_ {l:List Slot}(h:l.length<=1048576):jF tS (Bd l)<=jF tS l:=by
 rw[<-Ed (QM h)];exact uH (BC l h).2
theorem SE {l v:List Slot}(h:l.length<=1048576)(e:v=Bd l):v.length<=1048576:=by
 have k:=(BC l h).2.length_le;have k2:=(QM h).length_eq;have k3:(Bd l).length<=(Yt l).length:=k;rw[e];omega
theorem G6 {l:List Pair}(h:oh l){x:Pair}(hx:x∈nY l):x∈l:=(zo (nX h)).mem_iff.1 ((Aw l h).2.subset hx)
theorem VI {l:List Pair}(h:oh l):jF tP (nY l)<=jF tP l:=by
 rw[<-Ed (zo (nX h))];exact uH (Aw l h).2
theorem RU {l v:List Pair}(h:oh l)(e:v=nY l):v.length<=1048576:=by
 have k:(nY l).length<=(YG l).length:=(Aw l h).2.length_le;have k2:=(zo (nX h)).length_eq;have k3:=h.1;rw[e];omega
theorem aCm {l:List Raw}(h:l.length<=1048576):PZ (Oh l)=PZ l:=by
 rw[D9,D9];exact Ed (aj0 h)
theorem aiv {r:List Raw}(hr:∀x∈r,KY x):kV (af.mk 10 0 [] [] [] [] r)/\tV (af.mk 10 0 [] [] [] [] r)=1+PZ r:=by
 have hr:=(aiN r).2 hr;simp[kV,kVs,kPs,kSs,tV,YP,WP,tSs,u0,hr]
theorem aH2 {k:Nat}{fu:Nat}{v:af}{v4:List Raw}(h:xC k fu v)(e:v4=v.bJ):kV (af.mk 10 0 [] [] [] [] v4)/\tV (af.mk 10 0 [] [] [] [] v4)<=tV v:=by
 subst e;obtain⟨h1,h2⟩:=aiv ((ik v).1 h.1.1).1.2;have:=iy v;exact⟨h1,by omega⟩
theorem aFx {k fu:Nat}{v:af}(h:xC k (fu+1) v){v5:List Slot}(e:v5=Bd v.Slots){i:Nat}(hi:i < v5.length):xC (k+2) fu (v5.getD i bI).Val:=by
 subst e;have hm:=agV (oV h.1).2.1 (getD_mem (d:=bI) hi);obtain⟨g1,g2⟩:=J4 h.1 hm;have:=h.2;exact⟨g1,by omega⟩
theorem aFE {k fu:Nat}{v:af}(h:xC (k+1) (fu+1) v){i:Nat}(hi:i < v.List.length):xC k fu (v.List.getD i fM):=by
 obtain⟨g1,g2⟩:=Bz h.1 (getD_mem (d:=fM) hi);have:=h.2;exact⟨g1,by omega⟩
theorem avl {k fu:Nat}{v:af}(h:xC (k+1) (fu+1) v){v7:List Pair}(e:v7=nY v.Pairs){i:Nat}(hi:i < v7.length):xC k fu (v7.getD i gG).Val/\jQ (v7.getD i gG).Key.Kind=true/\kV (v7.getD i gG).Key:=by
 subst e;have hm:=G6 (oV h.1).2.2.2 (getD_mem (d:=gG) hi);obtain⟨g1,g2,g3,_⟩:=yc h.1 hm;have:=h.2;exact⟨⟨g1,by omega⟩,g3,ahe h.1 hm⟩
theorem P7 {k fu:Nat}{v:af}(h:xC (k+1) (fu+1) v):xC k fu v:=⟨h.1,by have:=h.2;omega⟩
theorem aFZ {k fu:Nat}{v:af}{v4:List Raw}{v5:List Slot}(h:xC k fu v)(e:v4=v.bJ):pnI v4 v5 0 (af.mk 10 0 [] [] [] [] v4):=by
 obtain⟨h1,h2⟩:=aiv (r:=v4) (by rw[e];exact((ik v).1 h.1.1).1.2);exact⟨h1,by rw[h2];simp[jF],lU _,rfl⟩
theorem ar4 {v4:List Raw}{v5:List Slot}{i:Nat}{y:af}(h:pnI v4 v5 i y):pnI v4 v5 (i+1) y.re:=by
 rw[af.dM];obtain⟨h1,h2,h3,h4⟩:=h;have:=uH (f:=tS) (Qdj (l:=v5) (show i<=i+1 by omega));exact⟨h1,by omega,by omega,h4⟩
theorem auO {v4:List Raw}{v5:List Slot}{i:Nat}{y z:af}{n:Int}(hi:i < v5.length)(h:pnI v4 v5 i y)(hz:kV z/\tV z<=tV (v5.getD i bI).Val){v6:List Slot}(e:v6=y.Slots++[Slot.mk n z]):pnI v4 v5 (i+1) (af.mk y.Kind y.Bits y.Text y.List y.Pairs v6 y.bJ):=by
 obtain⟨h1,h2,h3,h4⟩:=h;rw[e];have k:=pR (f:=tS) (d:=bI) hi;have k2:=wS (v5.getD i bI);refine⟨aE6 h1 hz.1,?_,?_,h4⟩
 ·rw[aEY];omega
 ·show(y.Slots++[Slot.mk n z]).length<=i+1
  simp only[pz,xH,A7];omega
theorem auT {k fu:Nat}{v:af}{v4:List Raw}{v5:List Slot}{y:af}(h:xC k fu v)(e4:v4=v.bJ)(e5:v5=Bd v.Slots)(hI:pnI v4 v5 v5.length y):kV (af.mk y.Kind y.Bits y.Text y.List y.Pairs y.Slots (Oh y.bJ))/\tV (af.mk y.Kind y.Bits y.Text y.List y.Pairs y.Slots (Oh y.bJ))<=tV v:=by
 obtain⟨h1,h2,h3,h4⟩:=hI;have hl:=oV h.1;have hr:y.bJ.length<=1048576:=by rw[h4,e4];exact hl.1
 have k1:=ar_ hl.2.1;have k2:=iy v;have k3:=aCm hr;have k4:=vG v.Slots;have k5:=iy y;rw[DT,e5]at h2;rw[e4]at h2;refine⟨?_,?_⟩
 ·have hm:∀x∈Oh y.bJ,KY x:=fun x hx=>((ik y).1 h1).1.2 x ((aj0 hr).mem_iff.1 hx)
  rw[ik]at h1⊢;cases y;exact⟨⟨h1.1.1,hm⟩,h1.2⟩
 ·rw[iy];show 1+y.Text.length+YP y.List+WP y.Pairs+tSs y.Slots+PZ (Oh y.bJ)<=tV v
  rw[k3];omega
theorem aEQ {l:List af}:pnL l 0 (af.mk 11 0 [] [] [] [] []):=by
 obtain⟨h1,h2⟩:=kF 11 0 [] u0;exact⟨h1,by rw[h2];simp[jF],lU _⟩
theorem avM {l:List af}{i:Nat}{y z:af}(hi:i < l.length)(h:pnL l i y)(hz:kV z/\tV z<=tV (l.getD i fM)):pnL l (i+1) (af.mk y.Kind y.Bits y.Text (y.List++[z]) y.Pairs y.Slots y.bJ):=by
 obtain⟨h1,h2,h3⟩:=h;have k:=pR (f:=fun x=>1+tV x) (d:=fM) hi;refine⟨aFO h1 hz.1,?_,?_⟩
 ·rw[aGr];omega
 ·show(y.List++[z]).length<=i+1
  simp only[pz,xH,A7];omega
theorem axO {v y:af}(hI:pnL v.List v.List.length y):kV y.re/\tV y.re<=tV v:=by
 rw[af.dM];obtain⟨h1,h2,h3⟩:=hI;have k2:=iy v;have k4:=ul v.List;rw[DT]at h2;exact⟨h1,by omega⟩
theorem aEO {l:List Pair}:pnP l 0 (af.mk 12 0 [] [] [] [] []):=by
 obtain⟨h1,h2⟩:=kF 12 0 [] u0;exact⟨h1,by rw[h2];simp[jF],lU _⟩
theorem avX {l:List Pair}{i:Nat}{y k z:af}(hi:i < l.length)(h:pnP l i y)(hk:(jQ k.Kind=true/\kV k)/\tV k<=tV (l.getD i gG).Key)(hz:kV z/\tV z<=tV (l.getD i gG).Val):pnP l (i+1) (af.mk y.Kind y.Bits y.Text y.List (y.Pairs++[Pair.mk k z]) y.Slots y.bJ):=by
 obtain⟨h1,h2,h3⟩:=h;have q:=pR (f:=tP) (d:=gG) hi;have q2:=OL (l.getD i gG);refine⟨aFt h1 hk.1 hz.1,?_,?_⟩
 ·rw[aGH];omega
 ·show(y.Pairs++[Pair.mk k z]).length<=i+1
  simp only[pz,xH,A7];omega
theorem awC {k fu:Nat}{v y:af}{v7:List Pair}(h:xC k fu v)(e:v7=nY v.Pairs)(hI:pnP v7 v7.length y):kV y.re/\tV y.re<=tV v:=by
 rw[af.dM];obtain⟨h1,h2,h3⟩:=hI;have k1:=VI (oV h.1).2.2.2;have k2:=iy v;have k4:=ve v.Pairs;rw[DT,e]at h2;exact⟨h1,by omega⟩
theorem aqR {v:af}{v4:List Raw}{v5:List Slot}{i:Nat}{y:af}(h:pnI v4 v5 i y)(e:v4=v.bJ)(hl:v.bJ.length<=1048576):rU (fun(_ _:Raw)=>True) y.bJ:=⟨by rw[h.2.2.2,e];omega,fun _ _ _ _=>trivial⟩
abbrev ab1 (fu:Nat):=azE ((Pe fu).1) (sF fu) ((Pe fu).2.1) (nC fu) ((Pe fu).2.2) (nz fu)
theorem X_ (fu:Nat)(ih:ZA fu)(p:dC)(prog:Int)(v:af)(h:sF (fu+1) p prog v):jP (ab1 fu p prog v) (fun r=>kV r/\tV r<=tV v):=
 have h:xC 0 (fu+1) v:=h;have hl:=oV h.1;ak (qag) (aC fun v4 hv4=>bV (fun _=>ah qah) (fun _=>bZ <| bV (fun _=>ah qah) (fun _=>ak (qag) (aC fun v5 hv5=>bZ <| df (fun(i1:Nat) y2=>pnI v4 v5 i1 y2) (by exact aFZ h hv4) (by(have:=SE hl.2.1 hv5;omega)) (fun i1 y2 qP rD=>have hI:pnI v4 v5 i1 y2:=rD;bi au au (bi au au (aC fun v6 hv6=>aC fun v7 hv7=>aC fun v8 Py=>dO (fun _=>ak (qag) (dR (fun _=>ak (qag) (ah qah)) (fun _=>ah qah))) (fun _=>dO (fun _=>ak (qag) (dR (fun _=>ak (qag) (ah qah)) (fun _=>ah qah))) (fun _=>ak (qag) (dR (fun _=>ak (qag) (ah qah)) (fun _=>dR (fun _=>ak (qag) (ah qah)) (fun _=>ah qah)))))))) (fun y2 hI=>have hI:pnI v4 v5 v5.length y2:=hI;ak (qag) (ah qah))))))
abbrev VG (fu:Nat):=ao7 ((Pe fu).1) (sF fu) ((Pe fu).2.1) (nC fu) ((Pe fu).2.2) (nz fu)
theorem Ug (fu:Nat)(ih:ZA fu)(p:dC)(o:Op)(v:af)(h:nC (fu+1) p o v):jP (VG fu p o v) (fun r=>kV r/\tV r<=tV v):=
 have h:xC 2 (fu+1) v:=h;have hl:=oV h.1;dO (fun _=>bZ <| df (fun(i1:Nat) y2=>pnL v.List i1 y2) (by exact aEQ) au (fun i1 y2 qP rD=>have hI:pnL v.List i1 y2:=rD;bi au au (ak (qak) (ak (qak) (ah qaf)))) (fun y2 hI=>have hI:pnL v.List v.List.length y2:=hI;ah qaf)) (fun _=>dO (fun _=>ak (qak) (aC fun v7 hv7=>bZ <| df (fun(i4:Nat) y5=>pnP v7 i4 y5) (by exact aEO) (by(have:=RU hl.2.2.2 hv7;omega)) (fun i4 y5 afa aD2=>have hI:pnP v7 i4 y5:=aD2;bi au au (ak (qak) (ak (qak) (ah qaf)))) (fun y5 hI=>have hI:pnP v7 v7.length y5:=hI;ah qaf))) (fun _=>ak (qak) (ah qaf)))
abbrev VC (fu:Nat):=arE ((Pe fu).1) (sF fu) ((Pe fu).2.1) (nC fu) ((Pe fu).2.2) (nz fu)
theorem Vm (fu:Nat)(ih:ZA fu)(p:dC)(o:Op)(v:af)(h:nz (fu+1) p o v):jP (VC fu p o v) (fun r=>kV r/\tV r<=tV v):=
 have h:xC 1 (fu+1) v:=h;dO (fun _=>ak ((by(show xC 0 fu _;rw[af.dM];exact P7 h))) (ah qbd)) (fun _=>ah qbd)
theorem Bj:∀fu,ZA fu
 | 0=>⟨fun p prog v h=>False.elim (Np h),
  fun p o v h=>False.elim (Np h),
  fun p o v h=>False.elim (Np h)⟩
 | fu+1=>⟨fun p prog v h=>(X_ fu (Bj fu) p prog v h).2,
  fun p o v h=>(Ug fu (Bj fu) p o v h).2,
  fun p o v h=>(Vm fu (Bj fu) p o v h).2⟩
theorem anT (fu:Nat)(p:dC)(prog:Int)(v:af)(h:sF (fu+1) p prog v):Is (ab1 fu p prog v):=(X_ fu (Bj fu) p prog v h).1
theorem amw (fu:Nat)(p:dC)(o:Op)(v:af)(h:nC (fu+1) p o v):Is (VG fu p o v):=(Ug fu (Bj fu) p o v h).1
theorem amK (fu:Nat)(p:dC)(o:Op)(v:af)(h:nz (fu+1) p o v):Is (VC fu p o v):=(Vm fu (Bj fu) p o v h).1
theorem OG (p:dC)(prog:Int)(v:af)(h:gV v):(fun r=>kV r/\tV r<=tV v) (Vy p prog v):=(Bj (3*tV v)).1 p prog v (⟨h,lU _⟩)
theorem azI:∀fu,fV Z.P Z.S 133 (oL (args (aj (aF dX) (aj (bn cI) (a1 (aF aI))))) (shr [.slot 0 true (nn 7)] (l1 aI)) 1 [] (fun a=>some (sF fu (a.1) (a.2.1) (a.2.2))) (fun a=>(Pe fu).1 (a.1) (a.2.1) (a.2.2)))/\fV Z.P Z.S 203 (oL (args (aj (aF dX) (aj (aF je) (a1 (aF aI))))) (shr [.slot 0 true (nn 7)] (l1 aI)) 1 [] (fun a=>some (nC fu (a.1) (a.2.1) (a.2.2))) (fun a=>(Pe fu).2.1 (a.1) (a.2.1) (a.2.2)))/\fV Z.P Z.S 278 (oL (args (aj (aF dX) (aj (aF je) (a1 (aF aI))))) (shr [.slot 0 true (nn 7)] (l1 aI)) 1 [] (fun a=>some (nz fu (a.1) (a.2.1) (a.2.2))) (fun a=>(Pe fu).2.2 (a.1) (a.2.1) (a.2.2)))
 | 0=>⟨iG func133 dS (fun a h=>Np h),
  iG func203 dS (fun a h=>Np h),
  iG func278 dS (fun a h=>Np h)⟩
 | fu+1=>by
  obtain⟨h0,h1,h2⟩:=azI fu;exact⟨Eo [aFQ,ark,Ov,apM,anJ,RY,⟨133,_,h0⟩,⟨203,_,h1⟩,⟨278,_,h2⟩] [jS 5 (bP (fun sl=>[s0 32, .cells (pid (sl 7)) [none,none,none,none,none,some 257,some 264]]) (az cI (l1 aI))),jS 800001 (bP (fun sl=>[.cells (pid (sl 7)) [none,none,none,none,none,some 257,some 264]]) (l1 aI))] func133 ntmps133 (fun a=>ab1 fu a.1 a.2.1 a.2.2) (fun a h=>⟨anT fu a.1 a.2.1 a.2.2 h,rfl⟩) (kL (n:=86) rfl),
   Eo [JF,Uh,⟨133,_,h0⟩,⟨203,_,h1⟩,⟨278,_,h2⟩] [jS 5 (bP (fun sl=>[s0 21, .cells (pid (sl 7)) [none,none,none,some 77,none,none,none]]) (az cI (l1 aI))),jS 13 (bP (fun sl=>[s0 43, .cells (pid (sl 10)) [none,none,none,none,some 328,none,none]]) (az cI (l1 aI))),jS 800003 (bP (fun sl=>[.cells (pid (sl 7)) [none,none,none,some 77,none,none,none]]) (l1 aI)),jS 800011 (bP (fun sl=>[.cells (pid (sl 10)) [none,none,none,none,some 328,none,none]]) (l1 aI))] func203 ntmps203 (fun a=>VG fu a.1 a.2.1 a.2.2) (fun a h=>⟨amw fu a.1 a.2.1 a.2.2 h,rfl⟩) (kL (n:=67) rfl),
   Eo [JF,⟨133,_,h0⟩,⟨203,_,h1⟩,⟨278,_,h2⟩] [] func278 ntmps278 (fun a=>VC fu a.1 a.2.1 a.2.2) (fun a h=>⟨amK fu a.1 a.2.1 a.2.2 h,rfl⟩) (kL (n:=17) rfl)⟩
def akH:aU Z:=⟨133,oL (args (aj (aF dX) (aj (bn cI) (a1 (aF aI))))) (shr [.slot 0 true (nn 7)] (l1 aI)) 1 [] (fun a=>some (gV (a.2.2))) (fun a=>Vy (a.1) (a.2.1) (a.2.2)),jT (fun n=>((azI n).1)) _ _ (fun a h=>⟨3*tV (a.2.2),⟨h,lU _⟩,rfl⟩)⟩
theorem awq (s:Str):lK (Dn s).1:=by
 unfold Dn acB;simp only[bH,aV,BM];cases decide ((s.length:Int) < 8)with
 | true=>exact u0
 | false=>exact EE (Q:=fun(r:Int×Int)=>lK r.1) (fun _ y=>lK y) 8 _ 0 0 rfl u0 (fun i y _ _=>by simp only[iV,dE,dK,aV];exact agh _) (fun i y _ h=>h)
theorem acJ {c:aK}:lK (xQ c).1:=by
 have k:=awq (rf c 8);unfold xQ SQ;simp only[dK,dE,bH,aV];cases(Dn (rf c 8)).2 !=0 with
 | true=>exact u0
 | false=>exact k
theorem Td {f:Raw}(h1:1<=f.Num/\f.Num<=65535)(h2:0<=f.fA/\f.fA<=6)(h3:lK f.Bits)(h4:f.fA<=2->f.Data=[])(h5:3<=f.fA->f.Bits=0):KY f:=by
 refine⟨h3,?_⟩;have e1:(Be f.Num f.fA).2=0:=by
  unfold Be acz;simp only[bH,dE,dK,aV];rw[qo (show ¬f.Num < 1 by omega),qo (show ¬65535 < f.Num by omega),qo (show ¬f.fA < 0 by omega),qo (show ¬6 < f.fA by omega)];rfl
 have e2:ajw f.fA=decide (f.fA<=2):=by
  unfold ajw aB0;simp only[bH,aV];by_cases w0:f.fA=0
  ·rw[w0];rfl
  by_cases w1:f.fA=1
  ·rw[w1];rfl
  rw[beq_false_of_ne w0,beq_false_of_ne w1];by_cases w2:f.fA=2
  ·rw[w2];rfl
  ·rw[qo au];exact beq_false_of_ne w2
 unfold KD aar;simp only[bH,aV];rw[e1,e2];by_cases hw:f.fA<=2
 ·rw[qW hw,h4 hw];rfl
 ·rw[qo hw,h5 au];rfl
theorem aeI {c:aK}(h:mV c){f:Raw}(hw:0<=f.fA/\f.fA<=6)(hb:f.Bits=0)(hd:f.Data=[]):(iQ c f).2.2.Num=f.Num/\(iQ c f).2.2.fA=f.fA/\lK (iQ c f).2.2.Bits/\(f.fA<=2->(iQ c f).2.2.Data=[])/\(3<=f.fA->(iQ c f).2.2.Bits=0):=by
 have hh:∀K:Bool->aK×Int×Raw,(thenS (bif f.fA==0 then(Sum.inl (f.fA==0):Bool⊕(aK×Int×Raw))else Sum.inl (f.fA==1)) K)=K (bif f.fA==0 then true else f.fA==1):=fun K=>by cases e:f.fA==0<;>rfl
 unfold iQ zY;simp only[dK,dE,bH,aV,mr];rw[hh];cases e1:(bif f.fA==0 then true else f.fA==1)with
 | true=>
  have hl:f.fA<=2:=by
   by_cases w0:f.fA=0
   ·omega
   ·rw[beq_false_of_ne w0]at e1;have:=eq_of_beq (show(f.fA==1)=true from e1);omega
  exact⟨rfl,rfl,(lH h).1,fun _=>hd,fun h3=>absurd hl au⟩
 | false=>
  cases e2:f.fA==2 with
  | true=>
   have hl:=eq_of_beq e2;exact⟨rfl,rfl,acJ,fun _=>hd,fun h3=>absurd hl au⟩
  | false=>
   have hn:¬f.fA<=2:=fun hl=>by
    by_cases w0:f.fA=0
    ·rw[w0]at e1;cases e1
    by_cases w1:f.fA=1
    ·rw[w1]at e1;cases e1
    have:f.fA=2:=by omega
    rw[this]at e2;cases e2
   exact⟨rfl,rfl,by show lK f.Bits;rw[hb];exact u0,fun hl=>absurd hl hn,fun _=>hb⟩
theorem asa {c:aK}(h0:(tK c).2.2.2=0)(h:mV c):(1<=(tK c).1/\(tK c).1<=65535)/\0<=(tK c).2.1/\(tK c).2.1<=6:=by
 obtain⟨⟨u1,u2⟩,k⟩:=lH h;unfold tK ax3 at h0⊢;simp only[dK,dE,bH,aV]at h0⊢;cases e:(bz c).2.2 !=0 with
 | true=>
  rw[e]at h0;have h0:(bz c).2.2=0:=h0;rw[h0]at e;cases e
 | false=>
  rw[e]at h0;simp only[nR]at h0⊢;have m8:(bz c).1.tmod 8=(bz c).1 % 8:=Int.tmod_eq_emod_of_nonneg u1;have d8:(bz c).1.tdiv 8=(bz c).1 / 8:=Int.tdiv_eq_ediv_of_nonneg u1;rw[m8,d8]at h0⊢;have w1:dD .u64 ((bz c).1 / 8)=(bz c).1 / 8:=fO (k:= .u64) zO;rw[w1]at h0⊢;by_cases e2:(bz c).1 % 8=7
  ·rw[e2]at h0;cases h0
  have e2':((bz c).1 % 8==7)=false:=beq_false_of_ne e2;rw[e2']at h0⊢;simp only[nR]at h0⊢;by_cases e3:(bz c).1 / 8 < 1
  ·rw[qW e3]at h0;cases h0
  rw[qo e3]at h0⊢;by_cases e4:65535 < (bz c).1 / 8
  ·rw[qW e4]at h0;cases h0
  rw[qo e4];have w2:dD .i64 ((bz c).1 / 8)=(bz c).1 / 8:=fO (k:= .i64) zO;have w3:dD .i64 ((bz c).1 % 8)=(bz c).1 % 8:=fO (k:= .i64) zO;simp only[nR,w2,w3];omega
theorem ax_ {c:aK}(h:mV c)(h0:(vF c).2.2=0):KY (vF c).1:=by
 have k:=zl h;have kr:=fun h0=>asa (c:=c) h0 h
 unfold vF Y0 at h0⊢;simp only[dK,dE,bH,aV]at h0⊢;generalize tK c=v1 at*;cases e:v1.2.2.2 !=0 with
 | true=>
  rw[e]at h0;have h0:v1.2.2.2=0:=h0;rw[h0]at e;cases e
 | false=>
  obtain⟨k1,k2⟩:=k (kM.1 e);obtain⟨r1,r2⟩:=kr (kM.1 e);rw[e]at h0;simp only[nR]at h0⊢;have s:=wV k1.1 (n:=1);generalize qX v1.2.2.1 1=v2 at*;cases e2:v2.2 !=0 with
  | true=>
   rw[e2]at h0;have h0:v2.2=0:=h0;rw[h0]at e2;cases e2
  | false=>
   obtain⟨s1,_⟩:=s (kM.1 e2);rw[e2]at h0;simp only[nR]at h0⊢;obtain⟨t1,t2,t3,t4,t5⟩:=aeI s1.1 (f:=Raw.mk v1.1 v1.2.1 0 []) r2 rfl rfl;generalize iQ v2.1 (Raw.mk v1.1 v1.2.1 0 [])=v3 at*;cases e3:v3.2.1 !=0 with
   | true=>
    rw[e3]at h0;have h0:v3.2.1=0:=h0;rw[h0]at e3;cases e3
   | false=>
    have t1:v3.2.2.Num=v1.1:=t1;have t2:v3.2.2.fA=v1.2.1:=t2;have t4:v1.2.1<=2->v3.2.2.Data=[]:=t4;have t5:3<=v1.2.1->v3.2.2.Bits=0:=t5;show KY v3.2.2
    exact Td (by rw[t1];exact r1) (by rw[t2];exact r2) t3 (fun hl=>t4 au) (fun hl=>t5 au)
theorem OB {wire:Int}{r:ae}(h:mV r.c):lK (iE wire r).1.Bits:=by
 unfold iE zB;simp only[dK,dE,bH,aV];cases wire==3 with
 | true=>
  simp only[wB];cases(kw r).2.1 !=0<;>exact u0
 | false=>
  simp only[nR];cases wire==2 with
  | true=>exact acJ
  | false=>exact(lH h).1
theorem aml {c:aK}(h:mV c){wire:Int}(h0:(Bh c wire).2.2=0):((Bh c wire).1.length:Int)+1<=(Bh c wire).2.1.At - c.At:=by
 obtain⟨ku,k⟩:=lH h;unfold Bh acF at h0⊢;simp only[dK,dE,bH,aV,mr]at h0⊢;cases e:(bz c).2.2 !=0 with
 | true=>
  rw[e]at h0;have h0:(bz c).2.2=0:=h0;rw[h0]at e;cases e
 | false=>
  obtain⟨ka,kn⟩:=k (kM.1 e);have kok:=ka.1;have kl:=qG kok;have hw:thenS (bif wire==3 then(Sum.inl c.Text:Int⊕(Str×aK×Int))else Sum.inl 65536)=thenS (.inl (bif wire==3 then c.Text else 65536)):=by cases wire==3<;>rfl
  rw[e]at h0;simp only[nR]at h0⊢;rw[hw]at h0⊢;simp only[oO]at h0⊢;obtain⟨⟨q1,q2,q3,q4⟩,q5⟩:=kok;obtain⟨u1,u2⟩:=ku;rw[kl,fO (k:= .u64) zO]at h0⊢;by_cases e2:(bz c).2.1.End - (bz c).2.1.At < (bz c).1
  ·rw[qW e2]at h0;cases h0
  rw[qo e2]at h0⊢;rw[fO (k:= .i64) zO]at h0⊢;by_cases e3:(bif wire==3 then c.Text else 65536) < (bz c).1
  ·rw[qW e3]at h0;cases h0
  rw[qo e3];simp only[nR];rw[fO (k:= .i64) zO];obtain⟨_,p2,p3,p4,p5,p6,p7⟩:=ka;show((List.drop (bz c).2.1.At.toNat (List.take ((bz c).2.1.At+(bz c).1).toNat (bz c).2.1.Data)).length:Int)+1<=(bz c).2.1.At+(bz c).1 - c.At
  rw[PW,uP];omega
theorem WJ {c:aK}(h:mV c){f:Raw}(hf:f.Data=[])(h0:(iQ c f).2.1=0):((iQ c f).2.2.Data.length:Int)+1<=(iQ c f).1.At - c.At:=by
 have ha:=F9 h h0;have hw:∀K:Bool->aK×Int×Raw,(thenS (bif f.fA==0 then(Sum.inl (f.fA==0):Bool⊕(aK×Int×Raw))else Sum.inl (f.fA==1)) K)=K (bif f.fA==0 then true else f.fA==1):=fun K=>by cases e:f.fA==0<;>rfl
 have h7:=ha.1.2.2.2.2.2.2;unfold iQ zY at h0 h7⊢;simp only[dK,dE,bH,aV,mr]at h0 h7⊢;rw[hw]at h0 h7⊢;cases e:(bif f.fA==0 then true else f.fA==1)with
 | true=>
  rw[e]at h7;simp only[wB,hf]at h7⊢;simp only[A7];omega
 | false=>
  rw[e]at h0 h7;cases e2:f.fA==2 with
  | true=>
   rw[e2]at h7;simp only[wB,nR,hf]at h7⊢;simp only[A7];omega
  | false=>rw[e2]at h0;exact aml h h0
theorem amB {c:aK}(h:mV c)(h0:(vF c).2.2=0):((vF c).1.Data.length:Int)+1<=(vF c).2.1.At - c.At:=by
 have k:=zl h;unfold vF Y0 at h0⊢;simp only[dK,dE,bH,aV]at h0⊢;generalize tK c=v1 at*;cases e:v1.2.2.2 !=0 with
 | true=>
  rw[e]at h0;have h0:v1.2.2.2=0:=h0;rw[h0]at e;cases e
 | false=>
  obtain⟨k1,k2⟩:=k (kM.1 e);rw[e]at h0;simp only[nR]at h0⊢;have s:=wV k1.1 (n:=1);generalize qX v1.2.2.1 1=v2 at*;cases e2:v2.2 !=0 with
  | true=>
   rw[e2]at h0;have h0:v2.2=0:=h0;rw[h0]at e2;cases e2
  | false=>
   obtain⟨s1,s2,s3,_⟩:=s (kM.1 e2);rw[e2]at h0;simp only[nR]at h0⊢;have t:=WJ s1.1 (f:=Raw.mk v1.1 v1.2.1 0 []) rfl;generalize iQ v2.1 (Raw.mk v1.1 v1.2.1 0 [])=v3 at*;cases e3:v3.2.1 !=0 with
   | true=>
    rw[e3]at h0;have h0:v3.2.1=0:=h0;rw[h0]at e3;cases e3
   | false=>
    have t:=t (kM.1 e3);have k7:=k1.2.2.2.2.2.2;simp only[nR];omega
theorem alJ {c:aK}{n:Int}:(yS c n).1.length<=n.toNat:=by
 unfold yS adJ;simp only[dK,dE,bH,aV,Qb6];(repeat' split)<;>first | exact uN _ | skip
 show(txU (aaV c n)).length<=_
 rw[EU];unfold aaV aam;simp only[dK,dE,aV,uP];omega
theorem FZ {wire:Int}{r:ae}(h:mV r.c)(h0:(iE wire r).2.1=0):CJ 1 r.c (iE wire r).2.2.c/\(iE wire r).2.2.p=r.p/\((iE wire r).1.Data.length:Int)+1<=(iE wire r).2.2.c.At - r.c.At/\(iE wire r).1.Data.length<=1048576/\(iE wire r).2.2.c.Nodes=r.c.Nodes:=by
 have fin:CJ 1 r.c (iE wire r).2.2.c/\(iE wire r).2.2.p=r.p/\((iE wire r).1.Data.length:Int)+1<=(iE wire r).2.2.c.At - r.c.At/\(iE wire r).2.2.c.Nodes=r.c.Nodes:=by
  unfold iE zB at h0⊢;simp only[dK,dE,bH,aV]at h0⊢;cases e1:wire==3 with
  | true=>
   rw[e1]at h0;simp only[wB]at h0⊢;have k:=uV h;generalize kw r=v1 at*;cases e2:v1.2.1 !=0 with
   | true=>
    rw[e2]at h0;have h0:v1.2.1=0:=h0;rw[h0]at e2;cases e2
   | false=>
    rw[e2]at h0;simp only[nR]at h0⊢;obtain⟨k1,k2,k3,k4,k5⟩:=k (kM.1 e2);obtain⟨t1,t2,t3,t4⟩:=ant k1.1 (n:=v1.1) h0;have t5:=alJ (c:=v1.2.2.c) (n:=v1.1);have k7:=k1.2.2.2.2.2.2;exact⟨kR (kD k1 t1) lY,k3,by show(((yS v1.2.2.c v1.1).1.length:Nat):Int)+1<=(yS v1.2.2.c v1.1).2.1.At - r.c.At;omega,t2.trans k2⟩
  | false=>
   rw[e1]at h0;simp only[nR]at h0⊢;cases e2:wire==2 with
   | true=>
    rw[e2]at h0;simp only[wB]at h0⊢;obtain⟨k1,k2⟩:=VH h h0;have k7:=k1.2.2.2.2.2.2;exact⟨k1,by trivial,by simp only[A7];omega,k2⟩
   | false=>
    rw[e2]at h0;simp only[nR]at h0⊢;obtain⟨k1,k2⟩:=(lH h).2 h0;have k7:=k1.2.2.2.2.2.2;exact⟨k1,by trivial,by simp only[A7];omega,k2⟩
 obtain⟨f1,f2,f3,f4⟩:=fin;refine⟨f1,f2,f3,?_,f4⟩;obtain⟨⟨q1,q2,q3,q4⟩,_⟩:=f1.1;obtain⟨⟨p1,_⟩,_⟩:=h;omega
theorem JV (v:af)(num:Int):((f_ v num).2=true/\∃s∈v.Slots,s.Num=num/\s.Val=(f_ v num).1)\/((f_ v num).2=false/\(f_ v num).1=af.mk 0 0 [] [] [] [] []):=by
 unfold f_ arH;simp only[kN,qJ];refine EL (d:=bI) (Q:=fun(r:af×Bool)=>(r.2=true/\∃s∈v.Slots,s.Num=num/\s.Val=r.1)\/(r.2=false/\r.1=af.mk 0 0 [] [] [] [] [])) (fun _ _=>True) v.Slots 0 () trivial (fun j y hj _=> ?_) (fun y _=> ?_)
 ·simp only[iV,bH,aV,BZ];cases e:(v.Slots.getD j bI).Num==num with
  | true=>exact .inl ⟨rfl,_,getD_mem hj,eq_of_beq e,by rw[af.dM]⟩
  | false=>trivial
 ·exact .inr ⟨rfl,rfl⟩
theorem amJ {A:Type}{f:A->Nat}(p:A->Bool)(l:List A):jF f l=jF f (l.filter p)+jF f (l.filter fun a=> !p a):=by
 induction l with
 | nil=>rfl
 | cons a l ih=>
  simp only[Qcg];cases p a<;>simp[jF,ih]<;>omega
theorem ac1 (g:bu)(v:af)(o:Op)(x:af)(h:v.Slots.length<=1048576):∃l,l.Sublist (v.Slots.filter fun s=> !(s.Num==o.Num))/\xn g v o x=af.mk 10 0 [] [] [] (l++[Slot.mk o.Num x]) v.bJ:=(aeC g v o x h).2
theorem GM {g:bu}{v:af}{o:Op}{x:af}(h:v.Slots.length<=1048576):tV (xn g v o x)+(bif (f_ v o.Num).2 then 1+tV (f_ v o.Num).1 else 0)<=tV v+1+tV x:=by
 obtain⟨l,h1,h2⟩:=ac1 g v o x h;have h3:=iy v;have h4:jF tS l<=jF tS (v.Slots.filter fun s=> !(s.Num==o.Num)):=uH h1;have h5:=amJ (f:=tS) (fun s:Slot=> !(s.Num==o.Num)) v.Slots;have h6:=vG v.Slots;have e:tV (xn g v o x)=1+(jF tS l+(1+tV x))+PZ v.bJ:=by
  rw[h2,iy];simp only[af.Text,af.List,af.Pairs,af.Slots,af.bJ,YP,WP,A7];rw[vG,ou];simp only[jF,wS,Slot.Val];omega
 rw[e];rcases JV v o.Num with⟨k1,s,k2,k3,k4⟩ | ⟨k1,_⟩
 ·have k1:(f_ v o.Num).2=true:=k1;have k4:s.Val=(f_ v o.Num).1:=k4;rw[k1,<-k4];have h7:tS s<=jF tS (v.Slots.filter fun a=> !!(a.Num==o.Num)):=EY (Qbx.2 ⟨k2,by simp[k3]⟩);rw[wS]at h7;simp only[wB];omega
 ·have k1:(f_ v o.Num).2=false:=k1;rw[k1];simp only[nR];omega
theorem Hy {g:bu}{v:af}{o:Op}{x:af}(h:v.Slots.length<=1048576)(hv:kV v)(hx:kV x):kV (xn g v o x):=by
 obtain⟨l,h1,h2⟩:=ac1 g v o x h;have hr:=((ik v).1 hv).1.2;have hs:=((ik v).1 hv).2.2.2;rw[h2,ik];refine⟨⟨u0,hr⟩,fun x hx=>absurd hx (V7),fun x hx=>absurd hx (V7),fun y hy=> ?_⟩;have hy:y∈l++[Slot.mk o.Num x]:=hy;rcases tY.1 hy with hy | hy
 ·exact hs y (Qbx.1 (h1.subset hy)).1
 ·rw[Aj.1 hy];exact hx
theorem Ep {v:af}{num:Int}(hv:kV v):kV (f_ v num).1:=by
 rcases JV v num with⟨k1,s,k2,k3,k4⟩ | ⟨k1,k2⟩
 ·have k4:s.Val=(f_ v num).1:=k4;rw[<-k4];exact((ik v).1 hv).2.2.2 s k2
 ·have k2:(f_ v num).1=_:=k2;rw[k2];exact(kF 0 0 [] u0).1
theorem PP {v:af}{num:Int}:tV (f_ v num).1<=tV v/\((f_ v num).2=false->tV (f_ v num).1=1):=by
 rcases JV v num with⟨k1,s,k2,k3,k4⟩ | ⟨k1,k2⟩
 ·have k4:s.Val=(f_ v num).1:=k4;have k1:(f_ v num).2=true:=k1;refine⟨?_,fun h=>by rw[k1]at h;cases h⟩;have:=ZZ k2;have:=iy v;rw[<-k4];omega
 ·have k2:(f_ v num).1=_:=k2;have e:tV (f_ v num).1=1:=by rw[k2];simp[tV,YP,WP,tSs,PZ]
  exact⟨by have:=lV v;omega,fun _=>e⟩
theorem OA (l x:af):qM l x=af.mk 11 0 [] (l.List++[x]) [] [] []:=by
 unfold qM PN;simp only[kN,dK,aV,DT,af.dM]
theorem Nl {l x:af}:tV (qM l x)<=tV l+1+tV x:=by
 rw[OA,iy,iy l];simp only[af.Text,af.List,af.Pairs,af.Slots,af.bJ,WP,tSs,PZ,A7];rw[ul,ul,ou];simp only[jF];omega
theorem Lh {l x:af}(hl:kV l)(hx:kV x):kV (qM l x):=by
 have hll:=((ik l).1 hl).2.1;rw[OA,ik];refine⟨⟨u0,fun x hx=>absurd hx (V7)⟩,fun y hy=> ?_,fun x hx=>absurd hx (V7),fun y hy=>absurd hy (V7)⟩;have hy:y∈l.List++[x]:=hy;rcases tY.1 hy with hy | hy
 ·exact hll y hy
 ·rw[Aj.1 hy];exact hx
theorem RQ (v:af)(f:Raw):yD v f=af.mk v.Kind v.Bits v.Text v.List v.Pairs v.Slots (v.bJ++[f]):=by
 unfold yD Zi;simp only[kN,dK,aV,DT]
theorem aee {v:af}{f:Raw}:tV (yD v f)=tV v+1+f.Data.length:=by
 rw[RQ,iy,iy v];simp only[af.Text,af.List,af.Pairs,af.Slots,af.bJ];rw[D9,D9,ou];simp only[jF];cases v;simp only[af.Text,af.List,af.Pairs,af.Slots,af.bJ];omega
theorem ach {v:af}{f:Raw}(hv:kV v)(hf:KY f):kV (yD v f):=by
 have h:=(ik v).1 hv;rw[RQ,ik];exact⟨⟨h.1.1,fun r hr=>(tY.1 hr).elim (h.1.2 r) fun e=>by rw[Aj.1 e];exact hf⟩,h.2⟩
theorem Ut {p:dC}{o:Op}{f:Raw}(hb:lK f.Bits)(h0:(uK p o f).2=0):tV (uK p o f).1<=1+f.Data.length/\kV (uK p o f).1/\(uK p o f).1.Kind=o.Kind/\jQ o.Kind=true:=by
 unfold uK aao at h0⊢;simp only[dK,dE,bH,aV,mr,af.dM]at h0⊢;cases e1:jQ o.Kind with
 | false=>rw[e1]at h0;cases h0
 | true=>
  rw[e1]at h0;simp only[Qby,nR]at h0⊢;cases e2:f.fA !=CU o with
  | true=>rw[e2]at h0;cases h0
  | false=>
   rw[e2]at h0;simp only[nR]at h0⊢;cases e3:f.fA==3 with
   | true=>
    rw[e3]at h0;simp only[wB]at h0⊢;have k:=kF o.Kind 0 f.Data u0;cases e4:o.Kind==7 with
    | true=>
     rw[e4]at h0;simp only[wB]at h0⊢;cases e5:BG f.Data with
     | false=>rw[e5]at h0;cases h0
     | true=>exact⟨Qdn k.2,k.1,by trivial,by trivial⟩
    | false=>exact⟨Qdn k.2,k.1,by trivial,by trivial⟩
   | false=>
    rw[e3]at h0;simp only[nR]at h0⊢;have hw:∀(c:Bool) (K:af->af×Int) (a b:af),thenS (bif c then(Sum.inl a:af⊕(af×Int))else Sum.inl b) K=K (bif c then a else b):=fun c K a b=>by cases c<;>rfl
    rw[hw]at h0⊢;have hb:∃bits,(bif f.fA==1 then af.mk o.Kind (dD .u64 (azG f.Bits)) [] [] [] [] []else af.mk o.Kind f.Bits [] [] [] [] [])=af.mk o.Kind bits [] [] [] [] []/\lK bits:=by cases f.fA==1<;>first | exact⟨_,rfl,hb⟩ | exact⟨_,rfl,Og _⟩
    obtain⟨bits,hb,hu⟩:=hb;rw[hb]at h0⊢;obtain⟨k1,k2⟩:=kF o.Kind bits [] hu;have q:tV (nK (af.mk o.Kind bits [] [] [] [] []))<=1+f.Data.length/\kV (nK (af.mk o.Kind bits [] [] [] [] []))/\(nK (af.mk o.Kind bits [] [] [] [] [])).Kind=o.Kind/\True:=
     ⟨by rw[Zl,k2];simp,P8 k1,(x8 _).1,trivial⟩
    cases e4:TU o.Kind (af.mk o.Kind bits [] [] [] [] [])with
    | false=>rw[e4]at h0;cases h0
    | true=>
     rw[e4]at h0;simp only[Qby,nR]at h0⊢;cases e5:o.Kind==9 with
     | false=>exact⟨q.1,q.2.1,q.2.2.1,by trivial⟩
     | true=>
      rw[e5]at h0;simp only[wB]at h0⊢;cases e6:aig p o.Target (af.mk o.Kind bits [] [] [] [] []).Bits with
      | false=>rw[e6]at h0;cases h0
      | true=>exact⟨q.1,q.2.1,q.2.2.1,by trivial⟩
def Uo (p:dC)(o:Op):Prop:=(o.Kind=10->0<=o.Target/\o.Target < p.a_.length)/\(o.Card=5->jQ o.Key=true)/\1<=o.Num/\o.Num<=65535
def gu (p:dC):Prop:=∀g∈p.a_,g.Ops.length<=1048576/\∀o∈g.Ops,Uo p o
def Il (v:af)(r:ae):Prop:=mV r.c/\gu r.p/\kV v/\(tV v:Int)+8*(r.c.End - r.c.At)<=1048576
def FQ (k s:Int)(v:af)(r:ae)(x:af×Int×ae):Prop:=x.2.1=0->x.2.2.p=r.p/\CJ k r.c x.2.2.c/\kV x.1/\(tV x.1:Int)+s<=tV v+8*(x.2.2.c.At - r.c.At)
theorem azo {v:af}{r:ae}(h:Il v r):gV v:=⟨h.2.2.1,by obtain⟨⟨⟨h1,h2,h3,h4⟩,_⟩,_,_,h5⟩:=h;omega⟩
theorem I8 {v:af}{r:ae}(h:Il v r):v.bJ.length<=1048576/\v.Slots.length<=1048576/\v.List.length<=1048576/\oh v.Pairs:=oV (azo h)
theorem axI {k s:Int}{v w:af}{r r':ae}(h:Il v r)(hs:0<=s)(hp:r'.p=r.p)(ha:CJ k r.c r'.c)(hk:kV w)(ht:(tV w:Int)+s<=tV v+8*(r'.c.At - r.c.At)):Il w r':=by
 obtain⟨h1,h2,h3,h4⟩:=h;have he:=ha.2.2.1;exact⟨ha.1,by rw[hp];exact h2,hk,by omega⟩
theorem h_ {k s:Int}{v:af}{r:ae}{x:af×Int×ae}(h:¬x.2.1=0):FQ k s v r x:=fun e=>absurd e h
theorem Vs {v:af}{r:ae}(h:Il v r)(num:Int):(f_ v num).1.List.length<=1048576/\oh (f_ v num).1.Pairs:=by
 have h1:=azo h;have h2:gV (f_ v num).1:=⟨Ep h1.1,by have:=(PP (v:=v) (num:=num)).1;have:=h1.2;omega⟩;exact⟨(oV h2).2.2.1,(oV h2).2.2.2⟩
theorem wu {r:ae}{n:Int}(h:mV r.c)(h0:(mi n r).1=0):(mi n r).2.p=r.p/\CJ 0 r.c (mi n r).2.c/\(mi n r).2.c.At=r.c.At:=by
 unfold mi ahi at h0⊢;simp only[dE,aV]at h0⊢;obtain⟨k1,k2,k3,_⟩:=wV h h0;exact⟨by trivial,k1,k3⟩
theorem amk {c:aK}(h:mV c)(h0:(Hw c).2.2=0):CJ 1 c (Hw c).2.1/\(Hw c).2.1.Nodes=c.Nodes/\(Hw c).2.1.At=c.At+1:=by
 have hl:=qG h;unfold Hw ajj at h0⊢;simp only[iV,dE,bH,aV]at h0⊢;rw[hl]at h0⊢;by_cases h1:c.End - c.At < 1
 ·rw[qW h1]at h0;cases h0
 rw[qo h1];refine⟨EM h lY au lY,?_,?_⟩
 ·show(qY c 1).Nodes=_;rw[(Fb h (n:=1) au au).1]
 ·show(qY c 1).At=_;rw[(Fb h (n:=1) au au).1]
def vN (c:aK)(n:Int):aK:=aK.mk c.Data c.At (c.At+n) c.Depth c.Nodes c.Text
theorem ad_ {c:aK}{n:Int}(h:mV c)(h0:0<=n)(h1:n<=c.End - c.At):mV (vN c n):=by
 obtain⟨⟨q1,q2,q3,q4⟩,q5⟩:=h;exact⟨⟨q1,by show c.At<=c.At+n;omega,by show c.At+n<=c.Data.length;omega,q4⟩,q5⟩
theorem aed {r:ae}{n:Int}(h:mV r.c)(h0:0<=n)(h1:n<=r.c.End - r.c.At):SA n r=(r.c,ae.mk r.p (vN r.c n)):=by
 obtain⟨⟨q1,q2,q3,q4⟩,q5⟩:=h;unfold SA as5 vN;simp only[aV];rw[fO (k:= .i64) zO]
theorem Tf {c d:aK}{n:Int}(h:mV c)(h0:0<=n)(h1:n<=c.End - c.At)(hd:CJ 0 (vN c n) d):CJ n c (aK.mk c.Data d.End c.End c.Depth d.Nodes c.Text):=by
 obtain⟨⟨⟨e1,e2,e3,e4⟩,e5,e6,e7⟩,d2,d3,d4,d5,d6,d7⟩:=hd;obtain⟨⟨q1,q2,q3,q4⟩,q5,q6,q7⟩:=h;have d3:d.End=c.At+n:=d3;have d6:d.Nodes<=c.Nodes:=d6;exact⟨⟨⟨by show 0<=d.End;omega,by show d.End<=c.End;omega,q3,q4⟩,q5,⟨e6.1,e6.2⟩,q7⟩,rfl,rfl,rfl,rfl,d6,by show c.At+n<=d.End;omega⟩
theorem at_end {c:aK}(h:mV c)(h0:¬0 < uj c):c.At=c.End:=by
 rw[qG h]at h0;obtain⟨⟨q1,q2,q3,q4⟩,_⟩:=h;omega
theorem ar7 {c d:aK}(h:mV c)(h1:c.At<=d.End)(h2:d.End<=c.End)(h3:0<=d.Nodes)(h4:d.Nodes<=c.Nodes):EN c d=aK.mk c.Data d.End c.End c.Depth d.Nodes c.Text:=by
 unfold EN agL;simp only[bH,aV];rw[Ld h,qo (show ¬d.End < c.At by omega),qo (show ¬c.End < d.End by omega),qo (show ¬d.Nodes < 0 by omega),qo (show ¬c.Nodes < d.Nodes by omega)];rfl
theorem ahJ {c:aK}(h:mV c){n:Int}(h0:(QP c n).2=0):QP c n=(aK.mk c.Data c.At (c.At+n) (c.Depth - 1) c.Nodes c.Text,0)/\0<=n/\n<=c.End - c.At/\1<=c.Depth:=by
 have hl:=qG h;obtain⟨⟨q1,q2,q3,q4⟩,⟨q5,q6⟩,q7⟩:=h;unfold QP ag_ at h0⊢;simp only[dE,bH,aV]at h0⊢;rw[hl]at h0⊢;by_cases h1:n < 0
 ·rw[qW h1]at h0;cases h0
 rw[qo h1]at h0⊢;by_cases h2:c.End - c.At < n
 ·rw[qW h2]at h0;cases h0
 rw[qo h2]at h0⊢;by_cases h3:c.Depth < 1
 ·rw[qW h3]at h0;cases h0
 rw[qo h3];rw[fO (k:= .i64) (show yZ .i64 (c.At+n) by simp only[yZ];omega),fO (k:= .i64) (show yZ .i64 (c.Depth - 1) by simp only[yZ];omega)];exact⟨rfl,by omega,by omega,by omega⟩
def awl (g:bu)(v:af)(o:Op)(r:ae):Pg (af×Int×ae):=.lt (mi 1 r) fun(v1:Int×ae)=> .br (v1.1 !=0) (.ret (v.re,v1)) (.ob (mV v1.2.c) (.lt (iE (CU o) v1.2) fun(v2:Raw×Int×ae)=> .br (v2.2.1 !=0) (.ret (v.re,v2.2)) (.ob (List.length v2.1.Data<=1048576) (.lt (uK v2.2.2.p o v2.1) fun(v3:af×Int)=> .br (v3.2==16) (.ob (v.re.bJ.length<=1048576) (.ret ((yD v.re (Raw.mk o.Num 0 v2.1.Bits [])).re,0,v2.2.2))) (.br (v3.2 !=0) (.ret (v.re,v3.2,v2.2.2)) (.br (o.Card !=4) (.ob (v.re.Slots.length<=1048576) (.ret ((xn g v.re o v3.1.re).re,0,v2.2.2))) (.lt (xn g v.re o (qM (f_ v.re o.Num).1.re v3.1.re).re) fun(v4:af)=> .lt (f_ v.re o.Num) fun(v5:af×Bool)=> .br (!v5.2) (.lt (mi 1 v2.2.2) fun(v6:Int×ae)=> .br (v6.1 !=0) (.ret (v.re,v6)) (.ob (v5.1.re.List.length<=1048576) (.ob (v.re.Slots.length<=1048576) (.ret (v4.re,0,v6.2))))) (.ob (v5.1.re.List.length<=1048576) (.ob (v.re.Slots.length<=1048576) (.ret (v4.re,0,v2.2.2)))))))))))
def Cc (g:bu)(v:af)(o:Op)(r:ae):=(awl g v o r).val
theorem Rj (g:bu)(v:af)(o:Op)(r:ae)(h:Il v r/\1<=o.Num/\o.Num<=65535):jP (awl g v o r) (FQ 1 0 v r):=
 by
 obtain⟨h,ho⟩:=h;have hl:=I8 h;have hf:=Vs h o.Num;have hat:=h.1;unfold awl;simp only[af.dM];refine aC fun v1 hv1=>dw (fun hne=>ah (h_ hne)) fun h1=> ?_;rw[hv1]at h1⊢;obtain⟨s1,s2,s3⟩:=wu hat h1;generalize mi 1 r=w1 at*;refine ak s2.1 (aC fun v2 hv2=>dw (fun hne=>ah (h_ hne)) fun h2=> ?_);rw[hv2]at h2⊢;obtain⟨c1,c2,c3,c4,_⟩:=FZ s2.1 h2;have cu:=OB (wire:=CU o) s2.1;generalize iE (CU o) w1.2=w2 at*;have hp:w2.2.2.p=r.p:=c2.trans s1;have ha:CJ 1 r.c w2.2.2.c:=kR (kD s2 c1) lY;have he:=ha.2.2.1;have h7:=ha.2.2.2.2.2.2;refine ak c4 (aC fun v3 hv3=>dO (fun h3=>ak hl.1 (ah fun _=>⟨hp,ha,ach h.2.2.1 (Td (f:=Raw.mk o.Num 0 w2.1.Bits []) ho ⟨PE 0,(by decide:(0:Int)<=6)⟩ cu (fun _=>rfl) (fun h3=>absurd h3 (by decide:¬(3:Int)<=0))),?_⟩)) fun h3=>dw (fun hne=>ah (h_ hne)) fun h4=> ?_)
 ·show(tV (yD v (Raw.mk o.Num 0 w2.1.Bits [])):Int)+0<=tV v+8*(w2.2.2.c.At - r.c.At)
  rw[aee];simp only[A7];omega
 rw[hv3]at h4⊢;obtain⟨k1,k2,k3,k4⟩:=Ut cu h4;generalize uK w2.2.2.p o w2.1=w3 at*;have t1:=GM (g:=g) (v:=v) (o:=o) (x:=w3.1) hl.2.1;refine dw (fun hne=>ak hl.2.1 (ah fun _=>⟨hp,ha,Hy hl.2.1 h.2.2.1 k2,?_⟩)) fun h5=>aC fun v4 hv4=>aC fun v5 hv5=>dR (fun h6=>aC fun v6 hv6=>dw (fun hne=>ah (h_ hne)) fun h7'=> ?_) (fun h6=> ?_)
 ·show(tV (xn g v o w3.1):Int)+0<=tV v+8*(w2.2.2.c.At - r.c.At)
  omega
 ·rw[hv6]at h7'⊢;obtain⟨x1,x2,x3⟩:=wu ha.1 h7';rw[hv5];refine ak hf.1 (ak hl.2.1 (ah fun _=>⟨x1.trans hp,kR (kD ha x2) lY,by rw[hv4];exact Hy hl.2.1 h.2.2.1 (Lh (Ep h.2.2.1) k2),?_⟩));show(tV v4:Int)+0<=tV v+8*((mi 1 w2.2.2).2.c.At - r.c.At)
  have t2:=GM (g:=g) (v:=v) (o:=o) (x:=qM (f_ v o.Num).1 w3.1) hl.2.1;have t3:=Nl (l:=(f_ v o.Num).1) (x:=w3.1);have t4:=(PP (v:=v) (num:=o.Num)).2 (by rw[hv5]at h6;simpa using h6);rw[<-hv4]at t2;omega
 ·rw[hv5]at h6⊢;refine ak hf.1 (ak hl.2.1 (ah fun _=>⟨hp,ha,by rw[hv4];exact Hy hl.2.1 h.2.2.1 (Lh (Ep h.2.2.1) k2),?_⟩));show(tV v4:Int)+0<=tV v+8*(w2.2.2.c.At - r.c.At)
  have t2:=GM (g:=g) (v:=v) (o:=o) (x:=qM (f_ v o.Num).1 w3.1) hl.2.1;have t3:=Nl (l:=(f_ v o.Num).1) (x:=w3.1);have e6:(f_ v o.Num).2=true:=by simpa using h6
  rw[<-hv4,e6]at t2;simp only[wB]at t2;omega
def atj:aU Z:=EK [Dx,Jy,ac8,KI,abS,X4,NG,YY] [] (aj (iM 0) (aj (aF iF) (aj (aF aI) (a1 (aF je))))) (b1 (aP aY)) (shr [.slot 0 true (nn 7), s0 1, .cells 0 (nn 8)] (az aI (az cI (l1 aY)))) [] func271 2 (fun a=>awl a.1.2.1 a.1.2.2.1 a.1.2.2.2 a.2) (fun a=>Il a.1.2.2.1 a.2/\1<=a.1.2.2.2.Num/\a.1.2.2.2.Num<=65535) fun a h=>(Rj a.1.2.1 a.1.2.2.1 a.1.2.2.2 a.2 h).1
def akJ (g:bu)(v:af)(o:Op)(r:ae):Pg (af×Int×ae):=.ob (mV r.c) (.lt (kw r) fun(v3:Int×Int×ae)=> .br (v3.2.1 !=0) (.ret (v.re,v3.2)) (.lt (SA v3.1 v3.2.2) fun(v4:aK×ae)=> .ob (mV v4.2.c) (.lt (Hw v4.2.c) fun(v5:Int×aK×Int)=> .br (v5.2.2 !=0) (.ret (v.re,v5.2.2,v4.2)) (.lt (dD .i64 v5.1) fun(v6:Int)=> .br (v6 !=CU o) (.ret (v.re,13,ae.mk v4.2.p v5.2.1)) (.cut (fun(y1:ae×af)=> .wh ((r.c.End - r.c.At).toNat+1) default (fun(x2:ae×af)=> .lt (uj x2.1.c) fun(v7:Int)=> .br (decide (0 < v7)) (.ob (Il x2.2.re x2.1/\1<=o.Num/\o.Num<=65535) (.lt (Cc g x2.2.re o x2.1) fun(v8:af×Int×ae)=> .br (v8.2.1 !=0) (.ret (.inr (v8.1.re,v8.2))) (rl (v8.2.2,v8.1.re)))) (.ret (.inr (x2.2.re,0,acn v4.1 x2.1)))) (y1.1,y1.2.re)) (.br (!(f_ v.re o.Num).2) (.lt (mi 1 (ae.mk v4.2.p v5.2.1)) fun(v9:Int×ae)=> .br (v9.1 !=0) (.ret (.inr (v.re,v9))) (.ob (v.re.Slots.length<=1048576) (rl (v9.2,(xn g v.re o (af.mk 11 0 [] [] [] [] [])).re)))) (rl (ae.mk v4.2.p v5.2.1,v.re))))))))
def aAA (g:bu)(v:af)(o:Op)(r:ae):=(akJ g v o r).val
theorem Yh (g:bu)(v:af)(o:Op)(r:ae)(h:Il v r/\1<=o.Num/\o.Num<=65535):jP (akJ g v o r) (FQ 0 0 v r):=
 by
 obtain⟨h,ho⟩:=h;have hl:=I8 h;have hat:=h.1;unfold akJ;simp only[af.dM];refine ak hat (aC fun v3 hv3=>dw (fun hne=>ah (h_ hne)) fun h3=> ?_);rw[hv3]at h3⊢;obtain⟨l1,l2,l3,l4,l5⟩:=uV hat h3;generalize kw r=w3 at*;have l7:=l1.2.2.2.2.2.2;have le:=l1.2.2.1;have hc:=ad_ l1.1 l4 l5;rw[aed l1.1 l4 l5];refine aC fun v4 hv4=> ?_;subst hv4;refine ak hc (aC fun v5 hv5=>dw (fun hne=>ah (h_ hne)) fun h5=>aC fun v6 hv6=>dw (fun hne=>ah (h_ qcq)) fun h6=> ?_);rw[hv5]at h5⊢;obtain⟨b1,b2,b3⟩:=amk hc h5;show jP (Pg.cut _ _) _
 dsimp only at b1 b2 b3⊢;generalize Hw (vN w3.2.2.c w3.1)=w5 at*;have eAt:(vN w3.2.2.c w3.1).At=w3.2.2.c.At:=rfl;have auA:(vN w3.2.2.c w3.1).End=w3.2.2.c.At+w3.1:=rfl;rw[eAt]at b3;refine dh (fun y=>y.1.p=r.p/\CJ 0 (vN w3.2.2.c w3.1) y.1.c/\kV y.2/\(tV y.2:Int)<=tV v+8*(y.1.c.At - w3.2.2.c.At)) ?_ (fun y hy=>wX (fun x=>x.1.p=r.p/\CJ 0 (vN w3.2.2.c w3.1) x.1.c/\kV x.2/\(tV x.2:Int)<=tV v+8*(x.1.c.At - w3.2.2.c.At)) (fun x=>(x.1.c.End - x.1.c.At).toNat) hy ?_ fun x hx=> ?_)
 ·refine dR (fun hn=>aC fun v9 hv9=>dw (fun hne=>ah (h_ hne)) fun h9=> ?_) (fun hn=>ah ⟨l3,kR b1 lY,h.2.2.1,by show(tV v:Int)<=tV v+8*(w5.2.1.At - w3.2.2.c.At);omega⟩);rw[hv9]at h9⊢;obtain⟨x1,x2,x3⟩:=wu (r:=ae.mk w3.2.2.p w5.2.1) b1.1 h9;refine ak hl.2.1 (ah ⟨x1.trans l3,kR (kD b1 x2) lY,Hy hl.2.1 h.2.2.1 (kF 11 0 [] u0).1,?_⟩);have t2:=GM (g:=g) (v:=v) (o:=o) (x:=af.mk 11 0 [] [] [] [] []) hl.2.1;have t3:=(kF 11 0 [] u0).2;have x3:(mi 1 (ae.mk w3.2.2.p w5.2.1)).2.c.At=w5.2.1.At:=x3;simp only[A7]at t3;show(tV (xn g v o (af.mk 11 0 [] [] [] [] [])):Int)<=tV v+8*((mi 1 (ae.mk w3.2.2.p w5.2.1)).2.c.At - w3.2.2.c.At)
  omega
 ·obtain⟨y1,⟨⟨⟨q1,q2,q3,q4⟩,_⟩,y22,y23,y24,y25,y26,y27⟩,y3,y4⟩:=hy;rw[auA]at y23;rw[eAt]at y27;have:=hat.1.1;show(y.1.c.End - y.1.c.At).toNat < (r.c.End - r.c.At).toNat+1
  omega
 ·obtain⟨x1,x2,x3,x4⟩:=hx;have e2:=x2.2.2.1;have e7:=x2.2.2.2.2.2.2;rw[auA]at e2;rw[eAt]at e7;have hin:Il x.2 x.1:=⟨x2.1,by rw[x1];exact h.2.1,x3,by have:=h.2.2.2;omega⟩;refine aC fun v7 hv7=>bV (fun hlt=> ?_) (fun hge=>ah ?_)
  ·refine ak ⟨hin,ho⟩ (aC fun v8 Py=>dw (fun hne=>ah (h_ hne)) fun h8=>ah ?_);rw[Py]at h8⊢;obtain⟨o1,o2,o3,o4⟩:=(Rj g x.2 o x.1 ⟨hin,ho⟩).2 h8;have o7:=o2.2.2.2.2.2.2;have o8:=o2.2.2.1;have o9:=o2.1.1.2.1;refine⟨⟨o1.trans x1,kR (kD x2 o2) lY,o3,?_⟩,?_⟩
   ·show(tV (Cc g x.2 o x.1).1:Int)<=tV v+8*((Cc g x.2 o x.1).2.2.c.At - w3.2.2.c.At)
    have o4:(tV (Cc g x.2 o x.1).1:Int)+0<=tV x.2+8*((Cc g x.2 o x.1).2.2.c.At - x.1.c.At):=o4;omega
   ·show((Cc g x.2 o x.1).2.2.c.End - (Cc g x.2 o x.1).2.2.c.At).toNat < (x.1.c.End - x.1.c.At).toNat
    have o7:x.1.c.At+1<=(Cc g x.2 o x.1).2.2.c.At:=o7;have o8:(Cc g x.2 o x.1).2.2.c.End=x.1.c.End:=o8;have o9:(Cc g x.2 o x.1).2.2.c.At<=(Cc g x.2 o x.1).2.2.c.End:=o9;omega
  ·rw[hv7]at hge;have hend:=at_end x2.1 hge;have hb:=Tf l1.1 l4 l5 x2;refine fun _=>⟨x1,kR (kD l1 hb) au,x3,?_⟩;show(tV x.2:Int)+0<=tV v+8*(x.1.c.End - r.c.At)
   omega
def avY:aU Z:=EK [Dx,Jy,yG,KI,atj,Et,akq,Yz,abS,axj] [jS 17 (bP (fun sl=>[.cells (pid (sl 0)) (nn 8), .cells (pid (sl 6)) (nn 7)]) (az aY (l1 aI))),jS 100017 (bP (fun sl=>[.cells (pid (sl 0)) (nn 8), .cells (pid (sl 6)) (nn 7)]) (az aY (l1 aI)))] (aj (iM 0) (aj (aF iF) (aj (aF aI) (a1 (aF je))))) (b1 (aP aY)) (shr [.slot 0 true (nn 7), s0 1, .cells 0 (nn 8)] (az aI (az cI (l1 aY)))) [] func268 2 (fun a=>akJ a.1.2.1 a.1.2.2.1 a.1.2.2.2 a.2) (fun a=>Il a.1.2.2.1 a.2/\1<=a.1.2.2.2.Num/\a.1.2.2.2.Num<=65535) fun a h=>(Yh a.1.2.1 a.1.2.2.1 a.1.2.2.2 a.2 h).1
end
end Go.Proofs.YtihakigfhcankaaGreatDoor
