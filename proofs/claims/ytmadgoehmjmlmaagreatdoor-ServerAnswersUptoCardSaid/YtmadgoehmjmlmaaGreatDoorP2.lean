/- Server: what check asks of fields. -/
import Derived.Test.YtmadgoehmjmlmaaGreatDoorP1
import Derived.Test.YtmadgoehmjmlmaaGreatDoorEng16
namespace Go.Proofs.YtmadgoehmjmlmaaGreatDoor
noncomputable section
open Go.RowKit Go.Vc
open Tryz
set_option linter.unusedVariables false
set_option linter.unusedSimpArgs false
set_option maxRecDepth 100000
def aHB (x:aJ)(fl:List aJ)(fi:Int):Pg Bool:=.ix fi fl.length (.ret (avc (aJ.mk x.Num x.Name x.Card x.Key x.dZ x.Union x.dw x.Default.re x.Notes)== avc (aJ.mk (fl.getD fi.toNat aK).Num (fl.getD fi.toNat aK).Name (fl.getD fi.toNat aK).Card (fl.getD fi.toNat aK).Key (fl.getD fi.toNat aK).dZ (fl.getD fi.toNat aK).Union (fl.getD fi.toNat aK).dw (fl.getD fi.toNat aK).Default.re (fl.getD fi.toNat aK).Notes)))
def Yt (x:aJ)(fl:List aJ)(fi:Int):=(aHB x fl fi).val
def ahL:aS Z:=Ee [abj] [] (aj (aF d_) (aj (iQ 0) (aj (iQ 1) (a1 (iQ 2))))) (iC (bFn 156 []) (iC (aP gp) (b1 (aP cI)))) (R1 aH) [0,1,2] func234 1 (fun a=>aHB a.1.1 a.2.2.1 a.2.2.2) fun a=>0<=a.2.2.2/\a.2.2.2 < a.2.2.1.length
def aIg (l:List aJ)(fl:List aJ)(fi:Int):Pg Int:=aL l (.each false wB l aK (fun i1 a3 (y2:Unit)=> .ix i1 l.length (.ix fi fl.length (.br (Yt (aJ.mk a3.Num a3.Name a3.Card a3.Key a3.dZ a3.Union a3.dw a3.Default.re a3.Notes) fl fi) (.ret (.inr i1)) (rl ())))) (fun i1 (y2:Unit)=> .ret (-1)) ())
theorem aw3 (l:List aJ)(fl:List aJ)(fi:Int)(h:0<=fi/\fi < fl.length):Is (aIg l fl fi):=
 iL fun _=>iF (.inr au) (fun i1 y2 _ _=>dR au au (dR au au (dM iR iR))) (fun y2 _=>aU)
def UO:aS Z:=Qq [ahL] [jS 2 (bU (fun sl=>[s0 8]) (l1 cI))] (aj (bu gp) (a1 (kE 234 [0,1,2]))) (iC (bFn 156 []) (iC (aP gp) (b1 (aP cI)))) (R1 cI) [0,1,2] func335 1 (fun a=>aIg a.1.1 a.2.2.1 a.2.2.2) (fun a=>some (0<=a.2.2.2/\a.2.2.2 < a.2.2.1.length)) (fun a=>h_ (fun(x:aJ)=>(Yt x a.2.2.1 a.2.2.2)) a.1.1) fun a h=>⟨aw3 a.1.1 a.2.2.1 a.2.2.2 h,(fun(l:List aJ) fl fi _=>pF (fun(x:aJ)=>(Yt x fl fi)) l 0) a.1.1 a.2.2.1 a.2.2.2 h⟩
def aHn (l:List aJ)(fl:List aJ)(fi:Int):Pg Bool:=.ix fi fl.length (.lt (h_ (fun(x:aJ)=>Yt x fl fi) l) fun(v1:Int)=> .ret (decide (0<=v1)))
theorem axK (l:List aJ)(fl:List aJ)(fi:Int)(h:0<=fi/\fi < fl.length):Is (aHn l fl fi):=
 dR au au (dF fun v1 hv1=>aU)
def agz:aS Z:=Qq [ahL,UO] [] (aj (bu gp) (a1 (kE 234 [0,1,2]))) (iC (bFn 156 []) (iC (aP gp) (b1 (aP cI)))) (R1 aH) [0,1,2] func233 1 (fun a=>aHn a.1.1 a.2.2.1 a.2.2.2) (fun a=>some (0<=a.2.2.2/\a.2.2.2 < a.2.2.1.length)) (fun a=>a.1.1.any fun(x:aJ)=>(Yt x a.2.2.1 a.2.2.2)) fun a h=>⟨axK a.1.1 a.2.2.1 a.2.2.2 h,(fun(l:List aJ) fl fi _=>pR _ l) a.1.1 a.2.2.1 a.2.2.2 h⟩
def aBu (l:List aJ)(i:Int):Pg Bool:=.ob ((0:Int)<=0/\0<=i/\i<=(↑l.length:Int)) (.ix i l.length (.ret ((List.take i.toNat l).any fun(x:aJ)=>Yt x l i)))
def aEO (l:List aJ)(i:Int):=(aBu l i).val
def ayM:aS Z:=E1 [abj,agz,ahL] [] (aj (bu gp) (aj (bu cI) (a1 (kE 156 [])))) (R1 aH) [] func155 1 (fun a=>aBu a.1 a.2.1) fun a=>0<=a.2.1/\a.2.1 < a.1.length
def aG5 (x:Item)(fl:List Item)(fi:Int):Pg Bool:=.ix fi fl.length (.ret (arj x==arj (fl.getD fi.toNat o5)))
def Yj (x:Item)(fl:List Item)(fi:Int):=(aG5 x fl fi).val
def ait:aS Z:=Ee [acA] [] (aj (aF lZ) (aj (iQ 0) (aj (iQ 1) (a1 (iQ 2))))) (iC (bFn 104 []) (iC (aP ig) (b1 (aP cI)))) (R1 aH) [0,1,2] func164 1 (fun a=>aG5 a.1.1 a.2.2.1 a.2.2.2) fun a=>0<=a.2.2.2/\a.2.2.2 < a.2.2.1.length
def aIl (l:List Item)(fl:List Item)(fi:Int):Pg Int:=aL l (.each false wB l o5 (fun i1 a3 (y2:Unit)=> .ix i1 l.length (.ix fi fl.length (.br (Yj a3 fl fi) (.ret (.inr i1)) (rl ())))) (fun i1 (y2:Unit)=> .ret (-1)) ())
theorem ayC (l:List Item)(fl:List Item)(fi:Int)(h:0<=fi/\fi < fl.length):Is (aIl l fl fi):=
 iL fun _=>iF (.inr au) (fun i1 y2 _ _=>dR au au (dR au au (dM iR iR))) (fun y2 _=>aU)
def OM:aS Z:=Qq [ait] [jS 2 (bU (fun sl=>[s0 8]) (l1 cI))] (aj (bu ig) (a1 (kE 164 [0,1,2]))) (iC (bFn 104 []) (iC (aP ig) (b1 (aP cI)))) (R1 cI) [0,1,2] func243 1 (fun a=>aIl a.1.1 a.2.2.1 a.2.2.2) (fun a=>some (0<=a.2.2.2/\a.2.2.2 < a.2.2.1.length)) (fun a=>h_ (fun(x:Item)=>(Yj x a.2.2.1 a.2.2.2)) a.1.1) fun a h=>⟨ayC a.1.1 a.2.2.1 a.2.2.2 h,(fun(l:List Item) fl fi _=>pF (fun(x:Item)=>(Yj x fl fi)) l 0) a.1.1 a.2.2.1 a.2.2.2 h⟩
def aG7 (l:List Item)(fl:List Item)(fi:Int):Pg Bool:=.ix fi fl.length (.lt (h_ (fun(x:Item)=>Yj x fl fi) l) fun(v1:Int)=> .ret (decide (0<=v1)))
theorem awY (l:List Item)(fl:List Item)(fi:Int)(h:0<=fi/\fi < fl.length):Is (aG7 l fl fi):=
 dR au au (dF fun v1 hv1=>aU)
def NI:aS Z:=Qq [ait,OM] [] (aj (bu ig) (a1 (kE 164 [0,1,2]))) (iC (bFn 104 []) (iC (aP ig) (b1 (aP cI)))) (R1 aH) [0,1,2] func163 1 (fun a=>aG7 a.1.1 a.2.2.1 a.2.2.2) (fun a=>some (0<=a.2.2.2/\a.2.2.2 < a.2.2.1.length)) (fun a=>a.1.1.any fun(x:Item)=>(Yj x a.2.2.1 a.2.2.2)) fun a h=>⟨awY a.1.1 a.2.2.1 a.2.2.2 h,(fun(l:List Item) fl fi _=>pR _ l) a.1.1 a.2.2.1 a.2.2.2 h⟩
def aAh (l:List Item)(i:Int):Pg Bool:=.ob ((0:Int)<=0/\0<=i/\i<=(↑l.length:Int)) (.ix i l.length (.ret ((List.take i.toNat l).any fun(x:Item)=>Yj x l i)))
def aB3 (l:List Item)(i:Int):=(aAh l i).val
def axb:aS Z:=E1 [acA,NI,ait] [] (aj (bu ig) (aj (bu cI) (a1 (kE 104 [])))) (R1 aH) [] func103 1 (fun a=>aAh a.1 a.2.1) fun a=>0<=a.2.1/\a.2.1 < a.1.length
def aiw (card:Int)(key:Int):Pg Bool:=.br (card !=5) (.ret (key==0)) (.br (decide (1<=key)) (.br (decide (key<=7)) (.ret (key !=6)) (.ret false)) (.ret false))
def Lj (card:Int)(key:Int):=(aiw card key).val
def aub:aS Z:=E0 [] [] (aj (bu cI) (a1 (bu cI))) (R1 aH) [] func157 1 (u2 aiw)
def air (s:ay)(f:aJ):Pg Bool:=.lt (ara s f.dZ.Name) fun(v1:dV×Bool)=> .lt (mM s f.dZ.Name) fun(v2:bg×Bool)=> .br (decide (1<=f.dZ.Kind)) (.br (decide (f.dZ.Kind<=8)) (.ret (f.dZ.Name==[])) (.br (f.dZ.Kind==9) (.ret v1.2) (.br (f.dZ.Kind==10) (.br v2.2 (.ret (f.Card !=3)) (.ret false)) (.ret false)))) (.br (f.dZ.Kind==9) (.ret v1.2) (.br (f.dZ.Kind==10) (.br v2.2 (.ret (f.Card !=3)) (.ret false)) (.ret false)))
def RU (s:ay)(f:aJ):=(air s f).val
def auM:aS Z:=E0 [xM,als] [] (aj (aF bI) (a1 (aF d_))) (R1 aH) [] func158 1 (u2 air)
def aBh (v:af):Pg Bool:=.br (v.Kind==0) (.br (v.Bits==0) (.br (v.Text==[]) (aL v.List (aL v.Pairs (aL v.Slots (aL v.bJ (.ret (dB .i64 (dB .i64 (dB .i64 ((↑v.List.length:Int)+(↑v.Pairs.length:Int))+(↑v.Slots.length:Int))+(↑v.bJ.length:Int))== 0)))))) (.ret false)) (.ret false)) (.ret false)
def aDY (v:af):=(aBh v).val
def aw7:aS Z:=E0 [] [] (a1 (aF aI)) (R1 aH) [] func238 1 aBh
def aGk (x:aJ)(f:aJ):Pg Bool:=.ret (x.Name==f.Union)
def aqx (x:aJ)(f:aJ):=(aGk x f).val
def ag4:aS Z:=wZ [] [] (aj (aF d_) (a1 (iQ 0))) (b1 (aP d_)) (R1 aH) [0] func236 1 (u11 aGk)
def aaj:aS Z:=Ir [ag4] gp 236 [0] (b1 (aP d_)) func335 aK fun x b=>aqx x b
def arS:aS Z:=EAB [ag4,UO,aaj] gp 236 [0] (b1 (aP d_)) func233 fun x b=>aqx x b
def aIn (x:aJ)(f:aJ):Pg Bool:=.ret (x.Union==f.Union)
def auP (x:aJ)(f:aJ):=(aIn x f).val
def agq:aS Z:=wZ [] [] (aj (aF d_) (a1 (iQ 0))) (b1 (aP d_)) (R1 aH) [0] func237 1 (u11 aIn)
def aii:aS Z:=Ir [agq] gp 237 [0] (b1 (aP d_)) func335 aK fun x b=>auP x b
def aoW:aS Z:=EAB [agq,UO,aaj,aii] gp 237 [0] (b1 (aP d_)) func233 fun x b=>auP x b
def acG (m:bg)(i:Int):Pg Bool:=.ix i m.Fields.length (.br ((m.Fields.getD i.toNat aK).Union==[]) (.ret true) (.br ((m.Fields.getD i.toNat aK).Card !=2) (.ret false) (.br (!aaZ (m.Fields.getD i.toNat aK).Union) (.ret false) (.br (m.Fields.any fun(x:aJ)=> aqx x (aJ.mk (m.Fields.getD i.toNat aK).Num (m.Fields.getD i.toNat aK).Name (m.Fields.getD i.toNat aK).Card (m.Fields.getD i.toNat aK).Key (m.Fields.getD i.toNat aK).dZ (m.Fields.getD i.toNat aK).Union (m.Fields.getD i.toNat aK).dw (m.Fields.getD i.toNat aK).Default.re (m.Fields.getD i.toNat aK).Notes)) (.ret false) (.ob ((0:Int)<=0/\0<=i/\i<=(↑m.Fields.length:Int)) (.br (!(List.take i.toNat m.Fields).any fun(x:aJ)=> auP x (aJ.mk (m.Fields.getD i.toNat aK).Num (m.Fields.getD i.toNat aK).Name (m.Fields.getD i.toNat aK).Card (m.Fields.getD i.toNat aK).Key (m.Fields.getD i.toNat aK).dZ (m.Fields.getD i.toNat aK).Union (m.Fields.getD i.toNat aK).dw (m.Fields.getD i.toNat aK).Default.re (m.Fields.getD i.toNat aK).Notes)) (.ret true) (.lt (dB .i64 (i - 1)) fun(v1:Int)=> .ix v1 m.Fields.length (.ret ((m.Fields.getD v1.toNat aK).Union==(m.Fields.getD i.toNat aK).Union)))))))))
def auX (m:bg)(i:Int):=(acG m i).val
theorem aiA (m:bg)(i:Int)(h:0<=i/\i < m.Fields.length/\m.Fields.length<=1048576):Is (acG m i):=
 by
 refine dR au au (dM iR (fun _=>jQ iR (fun _=>dM iR (fun _=>dM iR (fun _=>aX ⟨by omega,by omega,by omega⟩ (dM iR (fun hb=> ?_)))))));have h0:0 < i:=by
  rcases Int.lt_or_le 0 i with h0 | h0
  ·exact h0
  ·rw[show i.toNat=0 by omega,Qer]at hb;cases hb
 exact uj fun v1 hv1 h1=>dR au au aU
def amM:aS Z:=E1 [RI,agz,arS,aoW,ag4,agq] [] (aj (aF gQ) (a1 (bu cI))) (R1 aH) [] func159 1 (u2 acG) (fun a=>0<=a.2/\a.2 < a.1.Fields.length/\a.1.Fields.length<=1048576) fun a h=>aiA a.1 a.2 h
def aHt (x:Item)(f:aJ):Pg Bool:=.ret (dB .u64 x.Num==f.Default.Bits)
def asW (x:Item)(f:aJ):=(aHt x f).val
def agy:aS Z:=wZ [] [] (aj (aF lZ) (a1 (iQ 0))) (b1 (aP d_)) (R1 aH) [0] func241 1 (u11 aHt)
def TQ:aS Z:=Ir [agy] ig 241 [0] (b1 (aP d_)) func243 o5 fun x b=>asW x b
def Wy:aS Z:=EAB [agy,OM,TQ] ig 241 [0] (b1 (aP d_)) func163 fun x b=>asW x b
def TR (s:ay)(f:aJ):Pg Bool:=.br (!f.dw) (.ret (aDY f.Default.re)) (.br (f.Card !=2) (.ret false) (.br (f.Union !=[]) (.ret false) (.br (!TE f.dZ.Kind f.Default.re) (.ret false) (.br ((nM f.Default.re).Bits !=f.Default.Bits) (.ret false) (.br (f.dZ.Kind !=9) (.ret true) (.lt (ara s f.dZ.Name) fun(v1:dV×Bool)=> .br v1.2 (.ret (v1.1.Items.any fun(x:Item)=>asW x (aJ.mk f.Num f.Name f.Card f.Key f.dZ f.Union f.dw f.Default.re f.Notes))) (.ret false)))))))
def afg (s:ay)(f:aJ):=(TR s f).val
def abq:aS Z:=E0 [NI,Wy,als,aw7,SC,LX,agy] [] (aj (aF bI) (a1 (aF d_))) (R1 aH) [] func160 1 (u2 TR)
def aiF (m:bg):Pg (List Str):=aL m.Fields (.each false qi m.Fields aK (fun i1 a3 (y2:List Str)=> .ix i1 m.Fields.length (.br (a3.Card==1) (.br (a3.dZ.Kind==10) (.ob (bQ (y2.length+1) 16) (rl (y2++[a3.dZ.Name]))) (rl y2)) (rl y2))) (fun i1 (y2:List Str)=> .ret y2) [])
def al6 (m:bg):=(aiF m).val
theorem aiJ (m:bg)(h:m.Fields.length<=1048576):jF (aiF m) (fun r=>r.length<=m.Fields.length):=
 dm <| cZ (fun(i1:Nat) y2=>y2.length<=i1) qa2 au (fun i1 y2 rC rZ=>have hI:y2.length<=i1:=rZ;aZ au au (dI (fun _=>dI (fun _=>ak ((b_ au au)) (ah qa3)) (fun _=>ah qa3)) (fun _=>ah qa3))) (fun y2 hI=>have hI:y2.length<=m.Fields.length:=hI;ah qa3)
def aeK:aS Z:=E1 [] [jS 3 (bU (fun sl=>[s0 9, .slot 3 false [some 9]]) (az cI (l1 dh)))] (a1 (aF gQ)) (R1 dh) [] func95 1 aiF (fun a=>a.Fields.length<=1048576) fun a h=>(aiJ a h).1
def aGP (n:Str)(s:ay)(out:List (Str×Bool)):Pg Bool:=.br (mM s n).2 (.ret !Ap Dn.z out n) (.ret false)
def X_ (n:Str)(s:ay)(out:List (Str×Bool)):=(aGP n s out).val
def ahW:aS Z:=wZ [xM] [] (aj (bu cStr) (aj (iQ 0) (a1 (iQ 1)))) (iC (aP bI) (iC (abG 2) (b1 (ahj D.nU mZ)))) (R1 aH) [0,1,2] func96 1 fun a=>aGP a.1.1 a.2.1 a.2.2.2
def aBs (l:List Str)(s:ay)(out:List (Str×Bool)):Pg Int:=aL l (.each false wB l [] (fun i1 a3 (y2:Unit)=> .ix i1 l.length (.br (X_ a3 s out) (.ret (.inr i1)) (rl ()))) (fun i1 (y2:Unit)=> .ret (-1)) ())
theorem aqf (l:List Str)(s:ay)(out:List (Str×Bool)):Is (aBs l s out):=
 iL fun _=>iF (.inr au) (fun i1 y2 _ _=>dR au au (dM iR iR)) (fun y2 _=>aU)
def QD:aS Z:=Qq [ahW] [jS 2 (bU (fun sl=>[s0 8]) (l1 cI))] (aj (bu dh) (a1 (kE 96 [0,1]))) (iC (aP bI) (iC (abG 2) (b1 (ahj D.nU mZ)))) (R1 cI) [0,1,2] func151 1 (fun a=>aBs a.1.1 a.2.1 a.2.2.2) (fun a=>none) (fun a=>h_ (fun(x:Str)=>X_ x a.2.1 a.2.2.2) a.1.1) fun a h=>⟨aqf a.1.1 a.2.1 a.2.2.2,(fun(l:List Str) s out=>pF (fun(x:Str)=>X_ x s out) l 0) a.1.1 a.2.1 a.2.2.2⟩
def aHu (l:List Str)(s:ay)(out:List (Str×Bool)):Pg Bool:=.lt (h_ (fun(x:Str)=>X_ x s out) l) fun(v1:Int)=> .ret (decide (0<=v1))
theorem axm (l:List Str)(s:ay)(out:List (Str×Bool)):Is (aHu l s out):=
 dF fun v1 hv1=>aU
def acC:aS Z:=Qq [ahW,afZ,QD] [] (aj (bu dh) (a1 (kE 96 [0,1]))) (iC (aP bI) (iC (abG 2) (b1 (ahj D.nU mZ)))) (R1 aH) [0,1,2] func91 1 (fun a=>aHu a.1.1 a.2.1 a.2.2.2) (fun a=>none) (fun a=>a.1.1.any fun(x:Str)=>X_ x a.2.1 a.2.2.2) fun a h=>⟨axm a.1.1 a.2.1 a.2.2.2,(fun(l:List Str) s out=>pR _ l) a.1.1 a.2.1 a.2.2.2⟩
theorem P5 (s:ay)(name:Str):mM s name=bif decide (h_ (fun(x:bg)=>x.Name==name) s.Messages < 0)then(bg.mk [] [] [] [] [],false)else(s.Messages.getD (h_ (fun(x:bg)=>x.Name==name) s.Messages).toNat jb,true):=by
 unfold mM K_;simp only[dJ,bV,jZ,aV];rfl
theorem Qk (s:ay)(name:Str)(h:∀m∈s.Messages,m.Fields.length<=1048576):(mM s name).1.Fields.length<=1048576:=by
 rw[P5];have hl:=nK (fun(x:bg)=>x.Name==name) s.Messages;by_cases h0:h_ (fun(x:bg)=>x.Name==name) s.Messages < 0
 ·rw[uu h0];exact vg _
 ·rw[qy h0];exact h _ (getD_mem au)
def aay (s:ay):Pg (List (Str×Bool)):=.lt (dB .i64 ((↑s.Messages.length:Int)+1)) fun(v6:Int)=> .cnt qi 0 v6 (fun i1 (y2:List (Str×Bool))=> aL s.Messages (.each false qi s.Messages jb (fun i3 a5 (y4:List (Str×Bool))=> .ix i3 s.Messages.length (.lt (mM s a5.Name) fun(v7:bg×Bool)=> .ob (v7.1.Fields.length<=1048576) (.br (!(al6 v7.1).any fun(x:Str)=>X_ x s y4) (rl (ug y4 a5.Name true)) (rl y4)))) (fun i3 (y4:List (Str×Bool))=> rl y4) y2)) (fun i1 (y2:List (Str×Bool))=> .ret y2) []
def vJ (s:ay):=(aay s).val
theorem ahv (s:ay)(h:s.Messages.length<=1048576/\∀m∈s.Messages,m.Fields.length<=1048576):Is (aay s):=
 uj fun v6 hv6 _=>TG au au (fun i1 y2 _ _=>iL fun _=>iF (.inr au) (fun i3 y4 _ _=>dR au au (dF fun v7 hv7=>aX (by rw[hv7];exact Qk s _ h.2) (dM iR iR))) (fun y4 _=>aU)) (fun i1 y2 _ _=>aU)
def aoc:aS Z:=E1 [aee,acC,xM,aeK,ahW] [jS 3 (bU (fun sl=>[s0 14, .acW (pid (sl 9))]) (az cI (l1 kY))),jS 5 (bU (fun sl=>[s0 19, .acW (pid (sl 9))]) (az cI (l1 kY)))] (a1 (aF bI)) (R1 kY) [] func58 1 aay (fun a=>a.Messages.length<=1048576/\∀m∈a.Messages,m.Fields.length<=1048576) fun a h=>ahv a h
def aGD (x:Str)(s:ay)(fin:List (Str×Bool)):Pg Bool:=.br (mM s x).2 (.ret !Ap Dn.z fin x) (.ret false)
def apr (x:Str)(s:ay)(fin:List (Str×Bool)):=(aGD x s fin).val
def agU:aS Z:=wZ [xM] [] (aj (bu cStr) (aj (iQ 0) (a1 (iQ 1)))) (iC (aP bI) (b1 (aP kY))) (R1 aH) [0,1] func162 1 fun a=>aGD a.1.1 a.2.1 a.2.2
def ahY:aS Z:=Ir [agU] dh 162 [0,1] (iC (aP bI) (b1 (aP kY))) func151 [] fun x b=>apr x b.1 b.2
def ai1:aS Z:=EAB [afZ,QD,ahY,agU] dh 162 [0,1] (iC (aP bI) (b1 (aP kY))) func91 fun x b=>apr x b.1 b.2
def akk (s:ay)(m:bg)(fin:List (Str×Bool)):Pg Bool:=.ob (m.Fields.length<=1048576) (.ret ((al6 m).any fun(x:Str)=>apr x s fin))
def asP (s:ay)(m:bg)(fin:List (Str×Bool)):=(akk s m fin).val
def am3:aS Z:=E1 [aee,acC,ai1,aeK,agU] [] (aj (aF bI) (aj (aF gQ) (a1 (bu kY)))) (R1 aH) [] func101 1 (u3 akk) fun a=>a.2.1.Fields.length<=1048576
def unl (ok:Bool)(e:Int)(x:ax):Pg ax:=.br (!ok) (.ob (bQ (x.out.length+1) 32) (.ret (ax.mk x.MX x.num (x.out++[ja.mk x.MX x.num e])))) (.ret x)
def je (ok:Bool)(e:Int)(x:ax):=(unl ok e x).val
theorem aDx (ok:Bool)(e:Int)(x:ax)(h:x.out.length<=68719476736):Is (unl ok e x):=
 dM (fun _=>aX ((b_ au au)) (aU)) iR
def UF:aS Z:=w_ Z [] [] (jW (aj (iQ 0) (aj (bu aH) (a1 (bu cI)))) (ahG 1 [none,none,some 211] aQ)) (Fb (qf (Lp 0) (qf (BL Wu) (afm (BL (zq _))))) (QP (k:=1) oM (fun _=>rfl)) rfl) (shr [.cells 0 [none,none,some 211]] (l1 aQ)) [] func55 ntmps55 dU 0 rfl (fun a=>unl (a.1.2.1) (a.1.2.2) (a.2)) (fun a=>some ((a.2).out.length<=68719476736)) (fun a e _=>by kernel_rfl) (fun a=>je (a.1.2.1) (a.1.2.2) (a.2)) (fun a h=>⟨aDx (a.1.2.1) (a.1.2.2) (a.2) h,rfl⟩)
theorem uH {ok:Bool}{e:Int}{x v:ax}(h:v=je ok e x):v.out.length<=x.out.length+1:=by
 subst h;unfold je unl;cases ok
 ·simp[Pg.val]
 ·exact Qev _
theorem aAY {ok ok2:Bool}{e e2:Int}{x v:ax}(h:v=je ok e (je ok2 e2 x)):v.out.length<=x.out.length+2:=by
 have h1:=uH h;have h2:=uH (rfl:je ok2 e2 x=_);omega
theorem ajH (ok:Bool)(e:Int)(x:ax):(je ok e x).out.length<=x.out.length+1:=uH rfl
def aqM (l:List Note)(target:Int)(x:ax):Pg ax:=.ob (x.out.length<=68719476736) (.lt (akB l target) fun(v1:Int)=> .ret (je (v1==0) v1 x))
def qw (l:List Note)(target:Int)(x:ax):=(aqM l target x).val
theorem aqY (l:List Note)(target:Int)(x:ax)(h:x.out.length<=68719476736):Is (aqM l target x):=
 aX qap (dF fun v1 hv1=>aU)
def QZ:aS Z:=w_ Z [UF,afv] [] (jW (aj (iQ 0) (aj (bu lK) (a1 (bu cI)))) (ahG 1 [none,none,some 211] aQ)) (Fb (qf (Lp 0) (qf (BL af5) (afm (BL (zq _))))) (QP (k:=1) oM (fun _=>rfl)) rfl) (shr [.cells 0 [none,none,some 211]] (l1 aQ)) [] func100 ntmps100 dU 0 rfl (fun a=>aqM (a.1.2.1) (a.1.2.2) (a.2)) (fun a=>some ((a.2).out.length<=68719476736)) (fun a e _=>by kernel_rfl) (fun a=>qw (a.1.2.1) (a.1.2.2) (a.2)) (fun a h=>⟨aqY (a.1.2.1) (a.1.2.2) (a.2) h,rfl⟩)
theorem aiN {l:List Note}{target:Int}{x v:ax}(h:v=qw l target x):v.out.length<=x.out.length+1:=by
 subst h;exact ajH _ _ _
theorem aj1 (l:List Note)(target:Int)(x:ax):(qw l target x).out.length<=x.out.length+1:=aiN rfl
def spans (l:List nH)(least:Int)(most:Int)(x:ax):Pg ax:=aL l (.each false qi l Fq (fun i1 a3 (y2:ax)=> .ix i1 l.length (.lt (je (decide ((l.getD (dB .i64 (i1 - 1)).toNat Fq).To < a3.From)) 11 (je false 6 y2)) fun(v4:ax)=> .lt (dB .i64 (i1 - 1)) fun(v5:Int)=> .lt (je true 11 (je false 6 y2)) fun(v6:ax)=> .lt (je false 6 y2) fun(v7:ax)=> .br (decide (least<=a3.From)) (.br (decide (a3.To<=most)) (.ob (y2.out.length<=68719476736) (.lt (je (decide (a3.From<=a3.To)) 6 y2) fun(v8:ax)=> .br (i1==0) (.ob (v8.out.length<=68719476736) (rl (je true 11 v8))) (.ix v5 l.length (.ob (v8.out.length<=68719476736) (rl (je (decide ((l.getD v5.toNat Fq).To < a3.From)) 11 v8)))))) (.ob (y2.out.length<=68719476736) (.br (i1==0) (.ob (v7.out.length<=68719476736) (rl v6)) (.ix v5 l.length (.ob (v7.out.length<=68719476736) (rl v4)))))) (.ob (y2.out.length<=68719476736) (.br (i1==0) (.ob (v7.out.length<=68719476736) (rl v6)) (.ix v5 l.length (.ob (v7.out.length<=68719476736) (rl v4))))))) (fun i1 (y2:ax)=> .ret y2) x)
def UY (l:List nH)(least:Int)(most:Int)(x:ax):=(spans l least most x).val
theorem Zt (l:List nH)(least:Int)(most:Int)(x:ax)(h:x.out.length+2*l.length<=68719476736):jF (spans l least most x) (fun r=>r.out.length<=x.out.length+2*l.length):=
 dm <| cZ (fun(i1:Nat) y2=>y2.out.length<=x.out.length+2*i1) au au (fun i1 y2 rC rZ=>have hI:y2.out.length<=x.out.length+2*i1:=rZ;aZ au au (aC fun v4 hv4=>have kv4:=aAY hv4;pJ fun v5 hv5 _=>aC fun v6 hv6=>have kv6:=aAY hv6;aC fun v7 hv7=>have kv7:=uH hv7;bT (fun _=>bT (fun _=>ak (au) (aC fun v8 Nl=>have kv8:=uH Nl;dI (fun _=>ak (au) (ah qa)) (fun _=>aZ au au (ak (au) (ah qa))))) (fun _=>ak (au) (dI (fun _=>ak (au) (ah qa)) (fun _=>aZ au au (ak (au) (ah qa)))))) (fun _=>ak (au) (dI (fun _=>ak (au) (ah qa)) (fun _=>aZ au au (ak (au) (ah qa))))))) (fun y2 hI=>have hI:y2.out.length<=x.out.length+2*l.length:=hI;ah qa)
def akL:aS Z:=w_ Z [UF] [jS 1 (bU (fun sl=>[s0 12, .cells (pid (sl 0)) [none,none,some 211]]) (az cI (l1 aQ)))] (jW (aj (iQ 0) (aj (bu rq) (aj (bu cI) (a1 (bu cI))))) (ahG 1 [none,none,some 211] aQ)) (Fb (qf (Lp 0) (qf (BL af7) (qf (BL (zq _)) (afm (BL (zq _)))))) (QP (k:=1) oM (fun _=>rfl)) rfl) (shr [.cells 0 [none,none,some 211]] (l1 aQ)) [] func99 ntmps99 dU 0 rfl (fun a=>spans (a.1.2.1) (a.1.2.2.1) (a.1.2.2.2) (a.2)) (fun a=>some ((a.2).out.length+2*(a.1.2.1).length<=68719476736)) (fun a e _=>by kernel_rfl) (fun a=>UY (a.1.2.1) (a.1.2.2.1) (a.1.2.2.2) (a.2)) (fun a h=>⟨(Zt (a.1.2.1) (a.1.2.2.1) (a.1.2.2.2) (a.2) h).1,rfl⟩)
theorem ajK {l:List nH}{a b:Int}{p v:ax}(hp:p.out.length+2*l.length<=68719476736)(h:v=UY l a b p):v.out.length<=p.out.length+2*l.length:=by
 subst h;exact(Zt l a b p hp).2
def field (s:ay)(m:bg)(i:Int)(x:ax):Pg ax:=.ix i m.Fields.length (.cut (fun(y1:ax)=> .cut (fun(y2:ax)=> .cut (fun(y3:ax)=> .cut (fun(y4:ax)=> .cut (fun(y5:ax)=> .cut (fun(y6:ax)=> .cut (fun(y7:ax)=> .cut (fun(y8:ax)=> .cut (fun(y9:ax)=> .ob (y9.out.length<=68719476736) (.lt (je (afg s (aJ.mk (m.Fields.getD i.toNat aK).Num (m.Fields.getD i.toNat aK).Name (m.Fields.getD i.toNat aK).Card (m.Fields.getD i.toNat aK).Key (m.Fields.getD i.toNat aK).dZ (m.Fields.getD i.toNat aK).Union (m.Fields.getD i.toNat aK).dw (m.Fields.getD i.toNat aK).Default.re (m.Fields.getD i.toNat aK).Notes)) 1 y9) fun(v10:ax)=> .ob (v10.out.length<=68719476736) (.lt (qw (m.Fields.getD i.toNat aK).Notes 2 v10) fun(v11:ax)=> .ret (ax.mk v11.MX (-1) v11.out)))) (.ob (0<=i/\i < (↑m.Fields.length:Int)/\m.Fields.length<=1048576) (.ob (y8.out.length<=68719476736) (rl (je (auX m i) 15 y8))))) (.ob (y7.out.length<=68719476736) (rl (je (RU s (aJ.mk (m.Fields.getD i.toNat aK).Num (m.Fields.getD i.toNat aK).Name (m.Fields.getD i.toNat aK).Card (m.Fields.getD i.toNat aK).Key (m.Fields.getD i.toNat aK).dZ (m.Fields.getD i.toNat aK).Union (m.Fields.getD i.toNat aK).dw (m.Fields.getD i.toNat aK).Default.re (m.Fields.getD i.toNat aK).Notes)) 12 y7)))) (.lt (je false 1 y6) fun(v12:ax)=> .br (decide (1<=(m.Fields.getD i.toNat aK).Card)) (.br (decide ((m.Fields.getD i.toNat aK).Card<=5)) (.ob (y6.out.length<=68719476736) (rl (je (Lj (m.Fields.getD i.toNat aK).Card (m.Fields.getD i.toNat aK).Key) 1 y6))) (.ob (y6.out.length<=68719476736) (rl v12))) (.ob (y6.out.length<=68719476736) (rl v12)))) (.br (!IM m.Reserved (m.Fields.getD i.toNat aK).Num) (.ob (y5.out.length<=68719476736) (rl (je (!m.Gone.any fun(x:Str)=>(m.Fields.getD i.toNat aK).Name==x) 21 y5))) (.ob (y5.out.length<=68719476736) (rl (je false 21 y5))))) (.ix i m.Fields.length (.ob (y4.out.length<=68719476736) (rl (je (!aEO m.Fields i) 9 y4))))) (.ob (y3.out.length<=68719476736) (rl (je (aaZ (m.Fields.getD i.toNat aK).Name) 8 y3)))) (.br (i==0) (.ob (y2.out.length<=68719476736) (rl (je true 11 y2))) (.lt (dB .i64 (i - 1)) fun(v13:Int)=> .ix v13 m.Fields.length (.ob (y2.out.length<=68719476736) (rl (je (decide ((m.Fields.getD v13.toNat aK).Num < (m.Fields.getD i.toNat aK).Num)) 11 y2)))))) (.br (decide (1<=(m.Fields.getD i.toNat aK).Num)) (.ob (y1.out.length<=68719476736) (rl (je (decide ((m.Fields.getD i.toNat aK).Num<=65535)) 6 y1))) (.ob (y1.out.length<=68719476736) (rl (je false 6 y1))))) (rl (ax.mk x.MX (m.Fields.getD i.toNat aK).Num x.out)))
def acn (s:ay)(m:bg)(i:Int)(x:ax):=(field s m i x).val
theorem Yi (s:ay)(m:bg)(i:Int)(x:ax)(h:x.out.length+10<=68719476736/\0<=i/\i < m.Fields.length/\m.Fields.length<=1048576):jF (field s m i x) (fun r=>r.out.length<=x.out.length+10):=
 aZ au au (df (fun y1=>y1.out.length<=x.out.length+0) (ah qa) (fun y1 hy1=>have hy1:y1.out.length<=x.out.length+0:=hy1;df (fun y2=>y2.out.length<=x.out.length+1) (bT (fun _=>ak (au) (ah qa)) (fun _=>ak (au) (ah qa))) (fun y2 hy2=>have hy2:y2.out.length<=x.out.length+1:=hy2;df (fun y3=>y3.out.length<=x.out.length+2) (dI (fun _=>ak (au) (ah qa)) (fun _=>pJ fun v13 aAc _=>aZ au au (ak (au) (ah qa)))) (fun y3 hy3=>have hy3:y3.out.length<=x.out.length+2:=hy3;df (fun y4=>y4.out.length<=x.out.length+3) (ak (au) (ah qa)) (fun y4 hy4=>have hy4:y4.out.length<=x.out.length+3:=hy4;df (fun y5=>y5.out.length<=x.out.length+4) (aZ au au (ak (au) (ah qa))) (fun y5 hy5=>have hy5:y5.out.length<=x.out.length+4:=hy5;df (fun y6=>y6.out.length<=x.out.length+5) (dH (fun _=>ak (au) (ah qa)) (fun _=>ak (au) (ah qa))) (fun y6 hy6=>have hy6:y6.out.length<=x.out.length+5:=hy6;df (fun y7=>y7.out.length<=x.out.length+6) (aC fun v12 ai9=>have aJ_:=uH ai9;bT (fun _=>bT (fun _=>ak (au) (ah qa)) (fun _=>ak (au) (ah qa))) (fun _=>ak (au) (ah qa))) (fun y7 hy7=>have hy7:y7.out.length<=x.out.length+6:=hy7;df (fun y8=>y8.out.length<=x.out.length+7) (ak (au) (ah qa)) (fun y8 hy8=>have hy8:y8.out.length<=x.out.length+7:=hy8;df (fun y9=>y9.out.length<=x.out.length+8) (ak (au) (ak (au) (ah qa))) (fun y9 hy9=>have hy9:y9.out.length<=x.out.length+8:=hy9;ak (au) (aC fun v10 JB=>have aI0:=uH JB;ak (au) (aC fun v11 XU=>have aI1:=aiN XU;ah qa))))))))))))
def ayT:aS Z:=w_ Z [UF,akS,QZ,RI,D7,ayM,abj,aub,auM,amM,abq] [jS 100003 (bU (fun sl=>[.cells (pid (sl 0)) [none,none,some 211]]) (l1 aQ)),jS 100004 (bU (fun sl=>[.cells (pid (sl 0)) [none,none,some 211]]) (l1 aQ)),jS 100005 (bU (fun sl=>[.cells (pid (sl 0)) [none,none,some 211]]) (l1 aQ)),jS 100006 (bU (fun sl=>[.cells (pid (sl 0)) [none,none,some 211]]) (l1 aQ)),jS 100007 (bU (fun sl=>[.cells (pid (sl 0)) [none,none,some 211]]) (l1 aQ)),jS 100008 (bU (fun sl=>[.cells (pid (sl 0)) [none,none,some 211]]) (l1 aQ)),jS 100009 (bU (fun sl=>[.cells (pid (sl 0)) [none,none,some 211]]) (l1 aQ)),jS 100010 (bU (fun sl=>[.cells (pid (sl 0)) [none,none,some 211]]) (l1 aQ)),jS 100011 (bU (fun sl=>[.cells (pid (sl 0)) [none,none,some 211]]) (l1 aQ))] (jW (aj (iQ 0) (aj (aF bI) (aj (aF gQ) (a1 (bu cI))))) (ahG 1 [none,none,some 211] aQ)) (Fb (qf (Lp 0) (qf (aaG acR) (qf (aaG z_) (afm (BL (zq _)))))) (QP (k:=1) oM (fun _=>rfl)) rfl) (shr [.cells 0 [none,none,some 211]] (l1 aQ)) [] func98 ntmps98 dU 0 rfl (fun a=>field (a.1.2.1) (a.1.2.2.1) (a.1.2.2.2) (a.2)) (fun a=>some ((a.2).out.length+10<=68719476736/\0<=(a.1.2.2.2)/\(a.1.2.2.2) < (a.1.2.2.1).Fields.length/\(a.1.2.2.1).Fields.length<=1048576)) (fun a e _=>by kernel_rfl) (fun a=>acn (a.1.2.1) (a.1.2.2.1) (a.1.2.2.2) (a.2)) (fun a h=>⟨(Yi (a.1.2.1) (a.1.2.2.1) (a.1.2.2.2) (a.2) h).1,rfl⟩)
theorem ab5 {s:ay}{m:bg}{i:Int}{p v:ax}(hp:p.out.length+10<=68719476736/\0<=i/\i < m.Fields.length/\m.Fields.length<=1048576)(h:v=acn s m i p):v.out.length<=p.out.length+10:=by
 subst h;exact(Yi s m i p hp).2
def okM (m:bg):Prop:=m.Fields.length<=1048576/\m.Reserved.length<=1048576/\m.Gone.length<=1048576/\m.Name.length<=1048576/\∀g∈m.Gone,g.length<=1048576
def okE (e:dV):Prop:=e.Items.length<=1048576/\e.Reserved.length<=1048576/\e.Name.length<=1048576
def ada (v:cO):Prop:=v.Methods.length<=1048576/\v.Name.length<=1048576
def okS (s:ay):Prop:=s.Messages.length<=150/\s.Enums.length<=150/\s.jE.length<=150/\(∀m∈s.Messages,okM m)/\(∀e∈s.Enums,okE e)/\∀v∈s.jE,ada v
def adC (s:ay)(m:bg)(fin:List (Str×Bool)):Pg (List ja):=.cut (fun(y1:ax)=> .cut (fun(y2:ax)=> .cut (fun(y5:ax)=> .ob (y5.out.length+2*m.Reserved.length<=68719476736) (aL m.Gone (.each false qi m.Gone [] (fun i6 a8 (y7:ax)=> .ix i6 m.Gone.length (.ob (List.length a8<=9223372036854775700) (.ob (y7.out.length<=68719476736) (rl (je (BA a8) 7 y7))))) (fun i6 (y7:ax)=> .ob (y7.out.length<=68719476736) (.ob (m.Fields.length<=1048576) (.lt (qw m.Notes 1 y7) fun(v9:ax)=> .ob (v9.out.length<=68719476736) (.ret (je (!asP s m fin) 19 v9).out)))) (UY m.Reserved 1 65535 y5)))) (aL m.Fields (.cnt qi 0 (↑m.Fields.length:Int) (fun i3 (y4:ax)=> .ob (y4.out.length+10<=68719476736/\0<=i3/\i3 < (↑m.Fields.length:Int)/\m.Fields.length<=1048576) (rl (acn s m i3 y4))) (fun i3 (y4:ax)=> rl y4) y2))) (.br (decide ((↑m.Fields.length:Int)<=64)) (.ob (y1.out.length<=68719476736) (aL m.Reserved (aL m.Gone (rl (je (decide (max (↑m.Reserved.length:Int) (↑m.Gone.length:Int)<=16)) 3 y1))))) (.ob (y1.out.length<=68719476736) (rl (je false 3 y1))))) (.ob (List.length m.Name<=4294967296) (.ob (0<=68719476736) (rl (je (ahl m.Name) 8 (ax.mk m.Name (-1) [])))))
def zZ (s:ay)(m:bg)(fin:List (Str×Bool)):=(adC s m fin).val
theorem YH (s:ay)(m:bg)(fin:List (Str×Bool))(h:okM m):jF (adC s m fin) (fun r=>r.length<=16777216):=
 have h1:m.Fields.length<=1048576:=h.1;have h2:m.Reserved.length<=1048576:=h.2.1;have h3:m.Gone.length<=1048576:=h.2.2.1;have h4:m.Name.length<=1048576:=h.2.2.2.1;df (fun y1=>y1.out.length<=1) (ak (qam) (ak (qam) (ah qa))) (fun y1 hy1=>have hy1:y1.out.length<=1:=hy1;df (fun y2=>y2.out.length<=2) (bT (fun _=>ak (qam) (dm <| dm <| ah qa)) (fun _=>ak (qam) (ah qa))) (fun y2 hy2=>have hy2:y2.out.length<=2:=hy2;df (fun y5=>y5.out.length<=10485762) (dm <| vk (fun(i3:Int) y4=>y4.out.length<=2+10*i3/\i3<=(m.Fields.length:Int)) qat au au (fun i3 y4 aKy aKz aFu=>have hI:y4.out.length<=2+10*i3/\i3<=(m.Fields.length:Int):=aFu;ak (qam) (ah qa)) (fun i3 y4 _ hge hI=>have hI:y4.out.length<=2+10*i3/\i3<=(m.Fields.length:Int):=hI;ah qa)) (fun y5 hy5=>have hy5:y5.out.length<=10485762:=hy5;ak (qam) (dm <| cZ (fun(i6:Nat) y7=>y7.out.length<=12582914+1*i6) qat au (fun i6 y7 aKs aJV=>have hI:y7.out.length<=12582914+1*i6:=aJV;aZ au au (ak (qam) (ak (qam) (ah qa)))) (fun y7 hI=>have hI:y7.out.length<=12582914+1*m.Gone.length:=hI;ak (qam) (ak (qam) (aC fun v9 hv9=>have kv9:=aiN hv9;ak (qam) (ah qa))))))))
def azu:aS Z:=E1 [UF,A8,abS,ayT,akL,QZ,am3] [jS 5 (bU (fun sl=>[s0 39, .cells (pid (sl 14)) [none,none,some 211]]) (az cI (l1 aQ))),jS 11 (bU (fun sl=>[s0 55, .cells (pid (sl 14)) [none,none,some 211]]) (az cI (l1 aQ))),jS 100003 (bU (fun sl=>[.cells (pid (sl 14)) [none,none,some 211]]) (l1 aQ)),jS 100004 (bU (fun sl=>[.cells (pid (sl 14)) [none,none,some 211]]) (l1 aQ)),jS 100009 (bU (fun sl=>[.cells (pid (sl 14)) [none,none,some 211]]) (l1 aQ)),jS 800001 (bU (fun sl=>[.cells (pid (sl 7)) [none,none,some 211]]) (l1 aQ))] (aj (aF bI) (aj (aF gQ) (a1 (bu kY)))) (R1 sF) [] func59 1 (u3 adC) (fun a=>okM a.2.1) fun a h=>(YH a.1 a.2.1 a.2.2 h).1
def ahh (e:dV):Pg (List ja):=.cut (fun(y1:ax)=> .cut (fun(y2:ax)=> .cut (fun(y3:ax)=> aL e.Items (.each false qi e.Items o5 (fun i4 a8 (y5:ax)=> .ix i4 e.Items.length (.cut (fun(y6:ax)=> .cut (fun(y7:ax)=> .ob (y7.out.length<=68719476736) (.ix i4 e.Items.length (.lt (je (aaZ a8.Name) 8 y7) fun(v9:ax)=> .ob (v9.out.length<=68719476736) (.lt (je (!aB3 e.Items i4) 9 v9) fun(v10:ax)=> .ob (v10.out.length<=68719476736) (.lt (je (!IM e.Reserved a8.Num) 21 v10) fun(v11:ax)=> .ob (v11.out.length<=68719476736) (rl (qw a8.Notes 4 v11))))))) (.br (i4==0) (.ob (y6.out.length<=68719476736) (rl (je true 11 y6))) (.lt (dB .i64 (i4 - 1)) fun(v12:Int)=> .ix v12 e.Items.length (.ob (y6.out.length<=68719476736) (rl (je (decide ((e.Items.getD v12.toNat o5).Num < a8.Num)) 11 y6)))))) (.br (decide (0<=a8.Num)) (.ob (y5.out.length<=68719476736) (rl (je (decide (a8.Num<=2147483647)) 6 (ax.mk y5.MX a8.Num y5.out)))) (.ob (y5.out.length<=68719476736) (rl (je false 6 (ax.mk y5.MX a8.Num y5.out))))))) (fun i4 (y5:ax)=> .ob (y5.out.length+2*e.Reserved.length<=68719476736) (.lt (UY e.Reserved 0 2147483647 (ax.mk y5.MX (-1) y5.out)) fun(v13:ax)=> .ob (v13.out.length<=68719476736) (.ret (qw e.Notes 3 v13).out))) y3)) (.br ((↑e.Items.length:Int)==0) (.ob (y2.out.length<=68719476736) (rl (je true 14 y2))) (.ix 0 e.Items.length (.ob (y2.out.length<=68719476736) (rl (je ((e.Items.getD 0 o5).Num==0) 14 y2)))))) (.lt (je false 3 y1) fun(v14:ax)=> .br (decide (1<=(↑e.Items.length:Int))) (.br (decide ((↑e.Items.length:Int)<=64)) (.ob (y1.out.length<=68719476736) (rl (je (decide ((↑e.Reserved.length:Int)<=16)) 3 y1))) (.ob (y1.out.length<=68719476736) (rl v14))) (.ob (y1.out.length<=68719476736) (rl v14)))) (.ob (List.length e.Name<=4294967296) (.ob (0<=68719476736) (rl (je (ahl e.Name) 8 (ax.mk e.Name (-1) [])))))
def akD (e:dV):=(ahh e).val
theorem UK (e:dV)(h:okE e):jF (ahh e) (fun r=>r.length<=16777216):=
 have h1:e.Items.length<=1048576:=h.1;have h2:e.Reserved.length<=1048576:=h.2.1;have h3:e.Name.length<=1048576:=h.2.2;df (fun y1=>y1.out.length<=1) (ak (zn) (ak (zn) (ah qa))) (fun y1 hy1=>have hy1:y1.out.length<=1:=hy1;df (fun y2=>y2.out.length<=2) (aC fun v14 aFI=>have aKb:=uH aFI;bT (fun _=>bT (fun _=>ak (zn) (ah qa)) (fun _=>ak (zn) (ah qa))) (fun _=>ak (zn) (ah qa))) (fun y2 hy2=>have hy2:y2.out.length<=2:=hy2;df (fun y3=>y3.out.length<=3) (dI (fun _=>ak (zn) (ah qa)) (fun _=>aZ au au (ak (zn) (ah qa)))) (fun y3 hy3=>have hy3:y3.out.length<=3:=hy3;dm <| cZ (fun(i4:Nat) y5=>y5.out.length<=3+6*i4) qat au (fun i4 y5 age aFv=>have hI:y5.out.length<=3+6*i4:=aFv;aZ au au (df (fun y6=>y6.out.length<=3+6*i4+1) (bT (fun _=>ak (zn) (ah qa)) (fun _=>ak (zn) (ah qa))) (fun y6 hy6=>have hy6:y6.out.length<=3+6*i4+1:=hy6;df (fun y7=>y7.out.length<=3+6*i4+2) (dI (fun _=>ak (zn) (ah qa)) (fun _=>pJ fun v12 ai9 _=>aZ au au (ak (zn) (ah qa)))) (fun y7 hy7=>have hy7:y7.out.length<=3+6*i4+2:=hy7;ak (zn) (aZ au au (aC fun v9 hv9=>have kv9:=uH hv9;ak (zn) (aC fun v10 JB=>have aI0:=uH JB;ak (zn) (aC fun v11 XU=>have aI1:=uH XU;ak (zn) (ah qa))))))))) (fun y5 hI=>have hI:y5.out.length<=3+6*e.Items.length:=hI;ak (zn) (aC fun v13 aAc=>have aKa:=ajK (by first | omega | (dsimp only;omega)) aAc;ak (zn) (ah qa))))))
def ap_:aS Z:=E1 [UF,abS,akL,QZ,RI,axb,acA,D7] [jS 6 (bU (fun sl=>[s0 50, .cells (pid (sl 9)) [none,none,some 211]]) (az cI (l1 aQ))),jS 100003 (bU (fun sl=>[.cells (pid (sl 9)) [none,none,some 211]]) (l1 aQ)),jS 100004 (bU (fun sl=>[.cells (pid (sl 9)) [none,none,some 211]]) (l1 aQ)),jS 100005 (bU (fun sl=>[.cells (pid (sl 9)) [none,none,some 211]]) (l1 aQ)),jS 100010 (bU (fun sl=>[.cells (pid (sl 9)) [none,none,some 211]]) (l1 aQ)),jS 100011 (bU (fun sl=>[.cells (pid (sl 9)) [none,none,some 211]]) (l1 aQ)),jS 800001 (bU (fun sl=>[.cells (pid (sl 3)) [none,none,some 211]]) (l1 aQ))] (a1 (aF jJ)) (R1 sF) [] func60 1 ahh (fun a=>okE a) fun a h=>(UK a h).1
def aDj (s:ay)(v:cO):Pg (List ja):=.ob (List.length v.Name<=4294967296) (.ob (0<=68719476736) (.lt (je (ahl v.Name) 8 (ax.mk v.Name (-1) [])) fun(v4:ax)=> .ob (v4.out.length<=68719476736) (aL v.Methods (.each false qi v.Methods xn (fun i1 a3 (y2:ax)=> .ix i1 v.Methods.length (.ob (y2.out.length<=68719476736) (.lt (je (aaZ a3.Name) 8 (ax.mk y2.MX i1 y2.out)) fun(v5:ax)=> .lt (mM s a3.In) fun(v6:bg×Bool)=> .lt (mM s a3.Out) fun(v7:bg×Bool)=> .br (i1==0) (.ob (v5.out.length<=68719476736) (.lt (je true 11 v5) fun(v8:ax)=> .br v6.2 (.ob (v8.out.length<=68719476736) (.lt (je v7.2 12 v8) fun(v9:ax)=> .br (decide (1<=a3.Shape)) (.ob (v9.out.length<=68719476736) (.lt (je (decide (a3.Shape<=4)) 1 v9) fun(v10:ax)=> .ob (v10.out.length<=68719476736) (rl (qw a3.Notes 6 v10)))) (.ob (v9.out.length<=68719476736) (.lt (je false 1 v9) fun(v11:ax)=> .ob (v11.out.length<=68719476736) (rl (qw a3.Notes 6 v11)))))) (.ob (v8.out.length<=68719476736) (.lt (je false 12 v8) fun(v12:ax)=> .br (decide (1<=a3.Shape)) (.ob (v12.out.length<=68719476736) (.lt (je (decide (a3.Shape<=4)) 1 v12) fun(v13:ax)=> .ob (v13.out.length<=68719476736) (rl (qw a3.Notes 6 v13)))) (.ob (v12.out.length<=68719476736) (.lt (je false 1 v12) fun(v14:ax)=> .ob (v14.out.length<=68719476736) (rl (qw a3.Notes 6 v14)))))))) (.lt (dB .i64 (i1 - 1)) fun(v15:Int)=> .ix v15 v.Methods.length (.ob (v5.out.length<=68719476736) (.lt (je (!(Op.bytesLess a3.Name (v.Methods.getD v15.toNat xn).Name || a3.Name==(v.Methods.getD v15.toNat xn).Name)) 11 v5) fun(v16:ax)=> .br v6.2 (.ob (v16.out.length<=68719476736) (.lt (je v7.2 12 v16) fun(v17:ax)=> .br (decide (1<=a3.Shape)) (.ob (v17.out.length<=68719476736) (.lt (je (decide (a3.Shape<=4)) 1 v17) fun(v18:ax)=> .ob (v18.out.length<=68719476736) (rl (qw a3.Notes 6 v18)))) (.ob (v17.out.length<=68719476736) (.lt (je false 1 v17) fun(v19:ax)=> .ob (v19.out.length<=68719476736) (rl (qw a3.Notes 6 v19)))))) (.ob (v16.out.length<=68719476736) (.lt (je false 12 v16) fun(v20:ax)=> .br (decide (1<=a3.Shape)) (.ob (v20.out.length<=68719476736) (.lt (je (decide (a3.Shape<=4)) 1 v20) fun(v21:ax)=> .ob (v21.out.length<=68719476736) (rl (qw a3.Notes 6 v21)))) (.ob (v20.out.length<=68719476736) (.lt (je false 1 v20) fun(v22:ax)=> .ob (v22.out.length<=68719476736) (rl (qw a3.Notes 6 v22)))))))))))) (fun i1 (y2:ax)=> .ob (y2.out.length<=68719476736) (.ret (qw v.Notes 5 (ax.mk y2.MX (-1) y2.out)).out)) (je (decide ((↑v.Methods.length:Int)<=64)) 3 v4)))))
def aBj (s:ay)(v:cO):=(aDj s v).val
theorem adi (s:ay)(v:cO)(h:ada v):jF (aDj s v) (fun r=>r.length<=16777216):=
 have h1:v.Methods.length<=1048576:=h.1;have h2:v.Name.length<=1048576:=h.2;ak (zn) (ak (zn) (aC fun v4 hv4=>have kv4:=uH hv4;ak (zn) (dm <| cZ (fun(i1:Nat) y2=>y2.out.length<=2+5*i1) qat au (fun i1 y2 rC rZ=>have hI:y2.out.length<=2+5*i1:=rZ;aZ au au (ak (zn) (aC fun v5 hv5=>have kv5:=uH hv5;aC fun v6 hv6=>aC fun v7 hv7=>dI (fun _=>ak (zn) (aC fun v8 Nl=>have kv8:=uH Nl;dH (fun _=>ak (zn) (aC fun v9 hv9=>have kv9:=uH hv9;bT (fun _=>ak (zn) (aC fun v10 JB=>have aI0:=uH JB;ak (zn) (ah qa))) (fun _=>ak (zn) (aC fun v11 XU=>have aI1:=uH XU;ak (zn) (ah qa))))) (fun _=>ak (zn) (aC fun v12 ai9=>have aJ_:=uH ai9;bT (fun _=>ak (zn) (aC fun v13 aAc=>have aKa:=uH aAc;ak (zn) (ah qa))) (fun _=>ak (zn) (aC fun v14 aFI=>have aKb:=uH aFI;ak (zn) (ah qa))))))) (fun _=>pJ fun v15 aKB _=>aZ au au (ak (zn) (aC fun v16 aAd=>have aKE:=uH aAd;dH (fun _=>ak (zn) (aC fun v17 aAe=>have aKF:=uH aAe;bT (fun _=>ak (zn) (aC fun v18 avP=>have aKG:=uH avP;ak (zn) (ah qa))) (fun _=>ak (zn) (aC fun v19 aoB=>have aKH:=uH aoB;ak (zn) (ah qa))))) (fun _=>ak (zn) (aC fun v20 avQ=>have aKI:=uH avQ;bT (fun _=>ak (zn) (aC fun v21 acU=>have aKc:=uH acU;ak (zn) (ah qa))) (fun _=>ak (zn) (aC fun v22 aoC=>have aKd:=uH aoC;ak (zn) (ah qa))))))))))) (fun y2 hI=>have hI:y2.out.length<=2+5*v.Methods.length:=hI;ak (zn) (ah qa)))))
def aE1:aS Z:=E1 [UF,xM,abS,QZ,RI] [jS 5 (bU (fun sl=>[s0 30, .cells (pid (sl 15)) [none,none,some 211]]) (az cI (l1 aQ))),jS 800001 (bU (fun sl=>[.cells (pid (sl 5)) [none,none,some 211]]) (l1 aQ))] (aj (aF bI) (a1 (aF rQ))) (R1 sF) [] func61 1 (u2 aDj) (fun a=>ada a.2) fun a h=>(adi a.1 a.2 h).1
def rising (l:List Str):Pg Bool:=.XR [] (some (l.length<=9223372036854775807)) wB 1 (↑l.length:Int) (fun i1 (y2:Unit)=> .ix i1 l.length (.lt (dB .i64 (i1 - 1)) fun(v3:Int)=> .ix v3 l.length (.br (Op.bytesLess (l.getD i1.toNat []) (l.getD v3.toNat []) || l.getD i1.toNat []==l.getD v3.toNat []) (.ret (.inr false)) (rl ())))) (fun i1 (y2:Unit)=> .ret true) ()
def aby (l:List Str):=(rising l).val
theorem am4 (l:List Str):Is (rising l):=
 LJ trivial au (fun h=>by simp only[rf]at h;omega) (fun i1 y2 _ _ _=>dR au au (uj fun v3 hv3 _=>dR au au (dM iR iR))) (fun i1 y2 _ _=>aU)
def arc:aS Z:=E0 [] [jS 2 (bU (fun sl=>[s0 3]) (l1 cI))] (a1 (bu dh)) (R1 aH) [] func56 1 rising fun a=>am4 a
def lists (s:ay):Pg (List (List Str)):=.cut (fun(y4:List (List Str))=> .cut (fun(y8:List (List Str))=> aL s.jE (.each false qi s.jE AY (fun i9 a11 (yE:List (List Str))=> .ix i9 s.jE.length (.ob ((0:Int)<=2/\(2:Int) < 3) (.ob (bQ ((yE.getD 2 []).length+1) 16) (.ob ((0:Int)<=2/\(2:Int) < 3) (.ret (.inl [yE.getD 0 [],yE.getD 1 [],yE.getD 2 []++[a11.Name]])))))) (fun i9 (yE:List (List Str))=> .ret [yE.getD 0 [],yE.getD 1 [],yE.getD 2 []]) [y8.getD 0 [],y8.getD 1 [],y8.getD 2 []])) (aL s.Enums (.each false qi s.Enums nO (fun i5 a7 (y6:List (List Str))=> .ix i5 s.Enums.length (.ob ((0:Int)<=1/\(1:Int) < 3) (.ob (bQ ((y6.getD 1 []).length+1) 16) (.ob ((0:Int)<=1/\(1:Int) < 3) (.ret (.inl [y6.getD 0 [],y6.getD 1 []++[a7.Name],y6.getD 2 []])))))) (fun i5 (y6:List (List Str))=> .ret (.inl [y6.getD 0 [],y6.getD 1 [],y6.getD 2 []])) [y4.getD 0 [],y4.getD 1 [],y4.getD 2 []]))) (aL s.Messages (.each false qi s.Messages jb (fun i1 a3 (y2:List (List Str))=> .ix i1 s.Messages.length (.ob ((0:Int)<=0/\(0:Int) < 3) (.ob (bQ ((y2.getD 0 []).length+1) 16) (.ob ((0:Int)<=0/\(0:Int) < 3) (.ret (.inl [y2.getD 0 []++[a3.Name],y2.getD 1 [],y2.getD 2 []])))))) (fun i1 (y2:List (List Str))=> .ret (.inl [y2.getD 0 [],y2.getD 1 [],y2.getD 2 []])) [[],[],[]]))
def aCU (s:ay):=(lists s).val
theorem amu (s:ay)(h:okS s):jF (lists s) (fun _=>True):=
 have h1:s.Messages.length<=150:=h.1;have h2:s.Enums.length<=150:=h.2.1;have h3:s.jE.length<=150:=h.2.2.1;df (fun y4=>(y4.getD 0 []).length<=150/\(y4.getD 1 []).length<=0/\(y4.getD 2 []).length<=0) (dm <| cZ (fun(i1:Nat) y2=>(y2.getD 0 []).length<=i1/\(y2.getD 1 []).length<=0/\(y2.getD 2 []).length<=0) qbo au (fun i1 y2 rC rZ=>have hI:(y2.getD 0 []).length<=i1/\(y2.getD 1 []).length<=0/\(y2.getD 2 []).length<=0:=rZ;aZ au au (ak (qa7) (ak (qa7) (ak (qa7) (ah qaw))))) (fun y2 hI=>have hI:(y2.getD 0 []).length<=s.Messages.length/\(y2.getD 1 []).length<=0/\(y2.getD 2 []).length<=0:=hI;ah qaw)) (fun y4 hy4=>have hy4:(y4.getD 0 []).length<=150/\(y4.getD 1 []).length<=0/\(y4.getD 2 []).length<=0:=hy4;df (fun y8=>(y8.getD 0 []).length<=150/\(y8.getD 1 []).length<=150/\(y8.getD 2 []).length<=0) (dm <| cZ (fun(i5:Nat) y6=>(y6.getD 0 []).length<=150/\(y6.getD 1 []).length<=i5/\(y6.getD 2 []).length<=0) qbo au (fun i5 y6 avO avM=>have hI:(y6.getD 0 []).length<=150/\(y6.getD 1 []).length<=i5/\(y6.getD 2 []).length<=0:=avM;aZ au au (ak (qa7) (ak (qa7) (ak (qa7) (ah qaw))))) (fun y6 hI=>have hI:(y6.getD 0 []).length<=150/\(y6.getD 1 []).length<=s.Enums.length/\(y6.getD 2 []).length<=0:=hI;ah qaw)) (fun y8 hy8=>have hy8:(y8.getD 0 []).length<=150/\(y8.getD 1 []).length<=150/\(y8.getD 2 []).length<=0:=hy8;dm <| cZ (fun(i9:Nat) yE=>(yE.getD 0 []).length<=150/\(yE.getD 1 []).length<=150/\(yE.getD 2 []).length<=i9) qbo au (fun i9 yE aIR aFw=>have hI:(yE.getD 0 []).length<=150/\(yE.getD 1 []).length<=150/\(yE.getD 2 []).length<=i9:=aFw;aZ au au (ak (qa7) (ak (qa7) (ak (qa7) (ah qaw))))) (fun yE hI=>have hI:(yE.getD 0 []).length<=150/\(yE.getD 1 []).length<=150/\(yE.getD 2 []).length<=s.jE.length:=hI;ah qaw)))
def awm:aS Z:=E1 [] [jS 3 (bU (fun sl=>[s0 13, .cells (pid (sl 3)) [some 9,some 9,some 9]]) (az cI (l1 (Hm 3 [] dh)))),jS 8 (bU (fun sl=>[s0 28, .cells (pid (sl 3)) [some 9,some 9,some 9]]) (az cI (l1 (Hm 3 [] dh)))),jS 13 (bU (fun sl=>[s0 43, .cells (pid (sl 3)) [some 9,some 9,some 9]]) (az cI (l1 (Hm 3 [] dh)))),jS 100007 (bU (fun sl=>[.cells (pid (sl 3)) [some 9,some 9,some 9]]) (l1 (Hm 3 [] dh))),jS 100012 (bU (fun sl=>[.cells (pid (sl 3)) [some 9,some 9,some 9]]) (l1 (Hm 3 [] dh)))] (a1 (aF bI)) (shr [.slot 0 true (nn 3)] (l1 (Hm 3 [] dh))) [] func54 1 lists (fun a=>okS a) fun a h=>(amu a h).1
def ap0 (x:Str)(l:List (List Str)):Pg Bool:=.ob ((0:Int)<=0/\(0:Int) < 3) (.ret ((l.getD 0 []).any fun(x_1:Str)=>x==x_1))
def ayR (x:Str)(l:List (List Str)):=(ap0 x l).val
def ad9:aS Z:=wZ [akS] [] (aj (bu cStr) (aj (iQ 0) (a1 (iQ 1)))) (iC (aP (Hm 3 [] dh)) (b1 (afA .i64 0))) (R1 aH) [0,1] func92 1 fun a=>ap0 a.1.1 a.2.1
def apW:aS Z:=Ir [ad9] dh 92 [0,1] (iC (aP (Hm 3 [] dh)) (b1 (afA .i64 0))) func151 [] fun x b=>ayR x b.1
def auW:aS Z:=EAB [ad9,afZ,QD,ahY,apW] dh 92 [0,1] (iC (aP (Hm 3 [] dh)) (b1 (afA .i64 0))) func91 fun x b=>ayR x b.1
def ap1 (x:Str)(l:List (List Str)):Pg Bool:=.ob ((0:Int)<=1/\(1:Int) < 3) (.ret ((l.getD 1 []).any fun(x_1:Str)=>x==x_1))
def aB4 (x:Str)(l:List (List Str)):=(ap1 x l).val
def asR:aS Z:=wZ [akS] [] (aj (bu cStr) (aj (iQ 0) (a1 (iQ 1)))) (iC (aP (Hm 3 [] dh)) (b1 (afA .i64 1))) (R1 aH) [0,1] func92 1 fun a=>ap1 a.1.1 a.2.1
def aDK:aS Z:=Ir [ad9,asR] dh 92 [0,1] (iC (aP (Hm 3 [] dh)) (b1 (afA .i64 1))) func151 [] fun x b=>aB4 x b.1
def asH:aS Z:=EAB [ad9,asR,afZ,QD,ahY,apW,aDK] dh 92 [0,1] (iC (aP (Hm 3 [] dh)) (b1 (afA .i64 1))) func91 fun x b=>aB4 x b.1
def apart (l:List (List Str)):Pg Bool:=.lt (dB .i64 (0+1)) fun(v1:Int)=> .ob (0<=v1/\v1 < 3) (.br ((l.getD 1 []).any fun(x:Str)=>ayR x [l.getD 0 [],l.getD 1 [],l.getD 2 []]) (.ret false) (.lt (dB .i64 (v1+1)) fun(v2:Int)=> .ob (0<=v2/\v2 < 3) (.br ((l.getD 2 []).any fun(x:Str)=>ayR x [l.getD 0 [],l.getD 1 [],l.getD 2 []]) (.ret false) (.ob (0<=v2/\v2 < 3) (.br ((l.getD 2 []).any fun(x:Str)=>aB4 x [l.getD 0 [],l.getD 1 [],l.getD 2 []]) (.ret false) (.ret true))))))
def aD2 (l:List (List Str)):=(apart l).val
def azn:aS Z:=E0 [aee,acC,ai1,auW,asH,ad9,asR] [jS 600002 (bU (fun _=>List.replicate 4 (.iter 0)) l0),jS 600005 (bU (fun _=>List.replicate 4 (.iter 0)) l0)] (a1 (aF (Hm 3 [] dh))) (R1 aH) [] func57 1 apart
theorem aE9 {s:ay}{m:bg}{fin:List (Str×Bool)}{v:List ja}(hm:okM m)(h:v=zZ s m fin):v.length<=16777216:=by
 subst h;exact(YH s m fin hm).2
theorem axk {e:dV}{v:List ja}(hm:okE e)(h:v=akD e):v.length<=16777216:=by
 subst h;exact(UK e hm).2
theorem aF0 {s:ay}{x:cO}{v:List ja}(hm:ada x)(h:v=aBj s x):v.length<=16777216:=by
 subst h;exact(adi s x hm).2
def asn (s:ay):Pg (List ja):=.ob (okS s) (.lt (aCU s) fun(v20:List (List Str))=> .cut (fun(y7:ax)=> .cut (fun(y8:ax)=> .ob (s.Messages.length<=1048576/\∀(m:bg),m∈s.Messages->m.Fields.length<=1048576) (.cut (fun(ZY:ax)=> .cut (fun(y16:ax)=> aL s.jE (.each false qi s.jE AY (fun i17 a19 (Qy:ax)=> .ix i17 s.jE.length (.ob (ada a19) (.lt (aBj s a19) fun(v21:List ja)=> .ob (bQ (Qy.out.length+v21.length) 32) (rl (ax.mk Qy.MX Qy.num (Qy.out++v21)))))) (fun i17 (Qy:ax)=> .ret Qy.out) y16)) (aL s.Enums (.each false qi s.Enums nO (fun i13 a15 (y14:ax)=> .ix i13 s.Enums.length (.ob (okE a15) (.lt (akD a15) fun(v22:List ja)=> .ob (bQ (y14.out.length+v22.length) 32) (rl (ax.mk y14.MX y14.num (y14.out++v22)))))) (fun i13 (y14:ax)=> rl y14) ZY))) (aL s.Messages (.each false qi s.Messages jb (fun i9 a11 (yE:ax)=> .ix i9 s.Messages.length (.ob (okM a11) (.lt (zZ s a11 (vJ s)) fun(v23:List ja)=> .ob (bQ (yE.out.length+v23.length) 32) (rl (ax.mk yE.MX yE.num (yE.out++v23)))))) (fun i9 (yE:ax)=> rl yE) y8)))) (.ob (y7.out.length<=68719476736) (rl (je (aD2 [v20.getD 0 [],v20.getD 1 [],v20.getD 2 []]) 9 y7)))) (.cut (fun(y2:ax)=> .lt (dB .i64 (0+1)) fun(v24:Int)=> .cut (fun(y4:ax)=> .cut (fun(y6:ax)=> rl y6) (.lt (dB .i64 (v24+1)) fun(v25:Int)=> .ob (0<=v25/\v25 < 3) (.cut (fun(y5:ax)=> .ob (y5.out.length<=68719476736) (rl (je (aby (v20.getD 2 [])) 11 y5))) (.ob (y4.out.length<=68719476736) (rl (je (decide ((↑(v20.getD 2 []).length:Int)<=64)) 3 y4)))))) (.ob (0<=v24/\v24 < 3) (.cut (fun(y3:ax)=> .ob (y3.out.length<=68719476736) (rl (je (aby (v20.getD 1 [])) 11 y3))) (.ob (y2.out.length<=68719476736) (rl (je (decide ((↑(v20.getD 1 []).length:Int)<=64)) 3 y2)))))) (.ob ((0:Int)<=0/\(0:Int) < 3) (.cut (fun(y1:ax)=> .ob (y1.out.length<=68719476736) (rl (je (aby (v20.getD 0 [])) 11 y1))) (.ob (0<=68719476736) (rl (je (decide ((↑(v20.getD 0 []).length:Int)<=64)) 3 (ax.mk [] (-1) []))))))))
def ako (s:ay):=(asn s).val
theorem aui (s:ay)(h:okS s):jF (asn s) (fun _=>True):=
 have h1:s.Messages.length<=150:=h.1;have h2:s.Enums.length<=150:=h.2.1;have h3:s.jE.length<=150:=h.2.2.1;ak (qac) (aC fun v20 avQ=>df (fun y7=>y7.out.length<=6) (df (fun y2=>y2.out.length<=2) (ak (qac) (df (fun y1=>y1.out.length<=1) (ak (qac) (ah qab)) (fun y1 hy1=>have hy1:y1.out.length<=1:=hy1;ak (qac) (ah qab)))) (fun y2 hy2=>have hy2:y2.out.length<=2:=hy2;pJ fun v24 hv24 _=>df (fun y4=>y4.out.length<=4) (ak (qac) (df (fun y3=>y3.out.length<=3) (ak (qac) (ah qab)) (fun y3 hy3=>have hy3:y3.out.length<=3:=hy3;ak (qac) (ah qab)))) (fun y4 hy4=>have hy4:y4.out.length<=4:=hy4;df (fun y6=>y6.out.length<=6) (pJ fun v25 hv25 _=>ak (qac) (df (fun y5=>y5.out.length<=5) (ak (qac) (ah qab)) (fun y5 hy5=>have hy5:y5.out.length<=5:=hy5;ak (qac) (ah qab)))) (fun y6 hy6=>have hy6:y6.out.length<=6:=hy6;ah qab)))) (fun y7 hy7=>have hy7:y7.out.length<=6:=hy7;df (fun y8=>y8.out.length<=7) (ak (qac) (ah qab)) (fun y8 hy8=>have hy8:y8.out.length<=7:=hy8;ak (qac) (df (fun ZY=>ZY.out.length<=2516582407) (dm <| cZ (fun(i9:Nat) yE=>yE.out.length<=7+16777216*i9) qat au (fun i9 yE aIR aFw=>have hI:yE.out.length<=7+16777216*i9:=aFw;aZ au au (ak (qac) (aC fun v23 aoD=>have aKJ:=aE9 (h.2.2.2.1 _ (getD_mem au)) aoD;ak (qac) (ah qab)))) (fun yE hI=>have hI:yE.out.length<=7+16777216*s.Messages.length:=hI;ah qab)) (fun ZY aoE=>have aoE:ZY.out.length<=2516582407:=aoE;df (fun y16=>y16.out.length<=5033164807) (dm <| cZ (fun(i13:Nat) y14=>y14.out.length<=2516582407+16777216*i13) qat au (fun i13 y14 aJ3 aIJ=>have hI:y14.out.length<=2516582407+16777216*i13:=aIJ;aZ au au (ak (qac) (aC fun v22 aoC=>have aKd:=axk (h.2.2.2.2.1 _ (getD_mem au)) aoC;ak (qac) (ah qab)))) (fun y14 hI=>have hI:y14.out.length<=2516582407+16777216*s.Enums.length:=hI;ah qab)) (fun y16 avR=>have avR:y16.out.length<=5033164807:=avR;dm <| cZ (fun(i17:Nat) Qy=>Qy.out.length<=5033164807+16777216*i17) qat au (fun i17 Qy aJ4 aIK=>have hI:Qy.out.length<=5033164807+16777216*i17:=aIK;aZ au au (ak (qac) (aC fun v21 acU=>have aKc:=aF0 (h.2.2.2.2.2 _ (getD_mem au)) acU;ak (qac) (ah qab)))) (fun Qy hI=>have hI:Qy.out.length<=5033164807+16777216*s.jE.length:=hI;ah qab)))))))
def aFb:aS Z:=E1 [awm,UF,arc,azn,aoc,azu,ap_,aE1] [jS 600004 (bU (fun _=>List.replicate 4 (.iter 0)) l0),jS 12 (bU (fun sl=>[s0 41, .cells (pid (sl 15)) [none,none,some 211]]) (az cI (l1 aQ))),jS 17 (bU (fun sl=>[s0 61, .cells (pid (sl 15)) [none,none,some 211]]) (az cI (l1 aQ))),jS 22 (bU (fun sl=>[s0 79, .cells (pid (sl 15)) [none,none,some 211]]) (az cI (l1 aQ))),jS 100007 (bU (fun sl=>[.cells (pid (sl 15)) [none,none,some 211]]) (l1 aQ)),jS 100008 (bU (fun sl=>[.cells (pid (sl 15)) [none,none,some 211]]) (l1 aQ)),jS 100009 (bU (fun sl=>[.cells (pid (sl 15)) [none,none,some 211]]) (l1 aQ)),jS 100010 (bU (fun sl=>[.cells (pid (sl 15)) [none,none,some 211]]) (l1 aQ)),jS 100016 (bU (fun sl=>[.cells (pid (sl 15)) [none,none,some 211]]) (l1 aQ)),jS 100021 (bU (fun sl=>[.cells (pid (sl 15)) [none,none,some 211]]) (l1 aQ)),jS 800001 (bU (fun sl=>[.cells (pid (sl 3)) [none,none,some 211]]) (l1 aQ))] (a1 (aF bI)) (R1 sF) [] func31 1 asn (fun a=>okS a) fun a h=>(aui a h).1
def ahT (s:ay):Pg Bool:=.ob (okS s) (.ret ((↑(ako s).length:Int)==0))
def Dj (s:ay):=(ahT s).val
def adt:aS Z:=E1 [aFb] [] (a1 (aF bI)) (R1 aH) [] func14 1 ahT fun a=>okS a
def aH8 (x:bg)(name:Str):Pg Bool:=.ret (x.Name==name)
def aIt (x:bg)(name:Str):=(aH8 x name).val
def apz:aS Z:=wZ [] [] (aj (aF gQ) (a1 (iQ 0))) (b1 (aP cStr)) (R1 aH) [0] func113 1 (u11 aH8)
def fsM (l:List bg)(name:Str):Pg (bg×Bool):=aL l (.each false wB l jb (fun i1 a3 (y2:Unit)=> .ix i1 l.length (.br (aIt a3 name) (.ret (.inr (a3,true))) (rl ()))) (fun i1 (y2:Unit)=> .ret (bg.mk [] [] [] [] [],false)) ())
def aJA (l:List bg)(name:Str):=(fsM l name).val
def aGf:aS Z:=wZ [apz] [jS 2 (bU (fun sl=>[s0 11]) (l1 cI))] (aj (bu sG) (a1 (kE 113 [0]))) (b1 (aP cStr)) (shr [.slot 0 true (nn 5), s0 1] (az gQ (l1 aH))) [0] func112 2 (u11 fsM)
def aHy (x:cO)(name:Str):Pg Bool:=.ret (x.Name==name)
def aIi (x:cO)(name:Str):=(aHy x name).val
def aq5:aS Z:=wZ [] [] (aj (aF rQ) (a1 (iQ 0))) (b1 (aP cStr)) (R1 aH) [0] func109 1 (u11 aHy)
def fsS (l:List cO)(name:Str):Pg (cO×Bool):=aL l (.each false wB l AY (fun i1 a3 (y2:Unit)=> .ix i1 l.length (.br (aIi a3 name) (.ret (.inr (a3,true))) (rl ()))) (fun i1 (y2:Unit)=> .ret (cO.mk [] [] [],false)) ())
def aJq (l:List cO)(name:Str):=(fsS l name).val
def aH_:aS Z:=wZ [aq5] [jS 2 (bU (fun sl=>[s0 11]) (l1 cI))] (aj (bu zx) (a1 (kE 109 [0]))) (b1 (aP cStr)) (shr [.slot 0 true (nn 3), s0 1] (az rQ (l1 aH))) [0] func108 2 (u11 fsS)
def aG_ (x:eG)(name:Str):Pg Bool:=.ret (x.Name==name)
def aGZ (x:eG)(name:Str):=(aG_ x name).val
def arI:aS Z:=wZ [] [] (aj (aF p_) (a1 (iQ 0))) (b1 (aP cStr)) (R1 aH) [0] func67 1 (u11 aG_)
def fsW (l:List eG)(name:Str):Pg (eG×Bool):=aL l (.each false wB l xn (fun i1 a3 (y2:Unit)=> .ix i1 l.length (.br (aGZ a3 name) (.ret (.inr (a3,true))) (rl ()))) (fun i1 (y2:Unit)=> .ret (eG.mk [] [] [] 0 [],false)) ())
def aJs (l:List eG)(name:Str):=(fsW l name).val
def aHk:aS Z:=wZ [arI] [jS 2 (bU (fun sl=>[s0 11]) (l1 cI))] (aj (bu yO) (a1 (kE 67 [0]))) (b1 (aP cStr)) (shr [.slot 0 true (nn 5), s0 1] (az p_ (l1 aH))) [0] func66 2 (u11 fsW)
def aHX (x:aJ)(num:Int):Pg Bool:=.ret (x.Num==num)
def aH2 (x:aJ)(num:Int):=(aHX x num).val
def asi:aS Z:=wZ [] [] (aj (aF d_) (a1 (iQ 0))) (b1 (aP cI)) (R1 aH) [0] func115 1 (u11 aHX)
def fsF (l:List aJ)(num:Int):Pg (aJ×Bool):=aL l (.each false wB l aK (fun i1 a3 (y2:Unit)=> .ix i1 l.length (.br (aH2 (aJ.mk a3.Num a3.Name a3.Card a3.Key a3.dZ a3.Union a3.dw a3.Default.re a3.Notes) num) (.ret (.inr (aJ.mk a3.Num a3.Name a3.Card a3.Key a3.dZ a3.Union a3.dw a3.Default.re a3.Notes,true))) (rl ()))) (fun i1 (y2:Unit)=> .ret (aJ.mk 0 [] 0 0 (ul.mk 0 []) [] false (af.mk 0 0 [] [] [] [] []) [],false)) ())
def aJH (l:List aJ)(num:Int):=(fsF l num).val
def aIa:aS Z:=wZ [asi] [jS 2 (bU (fun sl=>[s0 11]) (l1 cI))] (aj (bu gp) (a1 (kE 115 [0]))) (b1 (aP cI)) (shr [.slot 0 true (nn 16), s0 1] (az d_ (l1 aH))) [0] func114 2 (u11 fsF)
def afi (s:ay)(name:Str):Pg (bg×Bool):=.ret (aJA s.Messages name)
def GN (s:ay)(name:Str):=(afi s name).val
def Jw:aS Z:=E0 [aGf,apz] [] (aj (aF bI) (a1 (bu cStr))) (shr [.slot 0 true (nn 5), s0 1] (az gQ (l1 aH))) [] func73 2 (u2 afi)
def aei (s:ay)(name:Str):Pg (cO×Bool):=.ret (aJq s.jE name)
def amJ (s:ay)(name:Str):=(aei s name).val
def ag8:aS Z:=E0 [aH_,aq5] [] (aj (aF bI) (a1 (bu cStr))) (shr [.slot 0 true (nn 3), s0 1] (az rQ (l1 aH))) [] func65 2 (u2 aei)
def atD (m:bg)(num:Int):Pg (aJ×Bool):=.lt (aJH m.Fields num) fun(v1:aJ×Bool)=> .ret (aJ.mk v1.1.Num v1.1.Name v1.1.Card v1.1.Key v1.1.dZ v1.1.Union v1.1.dw v1.1.Default.re v1.1.Notes,v1.2)
def Q7 (m:bg)(num:Int):=(atD m num).val
def Lc:aS Z:=E0 [aIa,asi] [] (aj (aF gQ) (a1 (bu cI))) (shr [.slot 0 true (nn 16), s0 1] (az d_ (l1 aH))) [] func74 2 (u2 atD)
def m_:Str:=[47]
def alx (s:Str):Pg Int:=.as (List.length m_<=9223372036854775807) (.br (m_==s) (.ret 0) (.ix 0 (List.length m_) (.ret (Lib.indexByte s (List.getD m_ 0 0).toNat.toUInt8))))
def abI (s:Str):=(alx s).val
theorem arO (s:Str):Is (alx s):=
 iL fun _=>dM iR (fun _=>dR nG nG aU)
def axZ:aS Z:=w_ Z [Pe] [jS 15 (bU (fun sl=>[s0 8, s0 10]) (az cI (l1 cI)))] (args (aj (bu cStr) (a1 (bu cStr)))) (kH (n:=143) rfl) (R1 cI) [] func106 ntmps106 dU 1 rfl (fun a=>alx (a.1)) (fun a=>some (a.2=m_)) (fun⟨s,p⟩ e h=>by have hf0:p=m_:=h;subst hf0;show _=_;kernel_rfl) (fun a=>abI (a.1)) (fun a h=>⟨arO (a.1),rfl⟩)
theorem JV (c:UInt8):∀(s:List UInt8) (k:Nat),wz (fun x=>x==c) s k=bif decide (Lib.indexByte s c= -1)then -1 else Lib.indexByte s c+k
 | [],k=>rfl
 | x::s,k=>by
  have ih:=JV c s (k+1);have hge:=Lib.indexByte_ge s c;unfold wz Lib.indexByte;cases hx:x==c with
  | true=>simp
  | false=>
   simp only[pO,Qbo,if_false];rw[ih];by_cases h:Lib.indexByte s c= -1
   ·simp[h]
   ·have hb:(Lib.indexByte s c== -1)=false:=beq_eq_false_iff_ne.2 h;rw[hb];simp only[Qbo,if_false];rw[qy h,qy au];simp only[pO];omega
theorem akh (s:Str):abI s=h_ (fun x=>x==47) s:=by
 have e:Lib.indexByte s 47=h_ (fun x=>x==47) s:=by
  unfold h_;rw[JV];by_cases h:Lib.indexByte s 47= -1
  ·simp[h]
  ·rw[qy h];simp
 unfold abI alx;simp only[lh,bV,jZ,aV];cases h:m_==s with
 | true=>
  have:s=[47]:=(eq_of_beq h).symm;rw[this];rfl
 | false=>exact e
def akl (s:Str):Pg (List UInt8×List UInt8×Bool):=.ob (m_=m_) (.lt (abI s) fun(v1:Int)=> .br (decide (0<=v1)) (.ob ((0:Int)<=0/\0<=v1/\v1<=(↑(List.length s):Int)) (.lt (dB .i64 (v1+(↑(List.length m_):Int))) fun(v2:Int)=> .ob (0<=v2/\v2<=(↑(List.length s):Int)/\(↑(List.length s):Int)<=(↑(List.length s):Int)) (.as (List.length m_<=9223372036854775807) (.ret (List.take v1.toNat s,List.drop v2.toNat (List.take (List.length s) s),true))))) (.ret (s,[],false)))
def agL (s:Str):=(akl s).val
theorem asD (s:Str)(h:s.length<=1048576):Is (akl s):=
 by
 refine aX rfl (dF fun v1 hv1=>gu (fun _=> ?_) iR);have h1:v1 < s.length:=by rw[hv1,akh];exact(nK (fun(x:UInt8)=>x==47) s).1
 have e:(List.length m_:Int)=1:=rfl;refine aX ⟨by omega,by omega,by omega⟩ (dF fun v2 hv2=> ?_);rw[e,gz (k:= .i64) BZ]at hv2;exact aX ⟨by omega,by omega,by omega⟩ (iL fun _=>aU)
def awv:aS Z:=w_ Z [axZ,aj7] [] (args (aj (bu cStr) (a1 (bu cStr)))) (kH (n:=23) rfl) (shr [s0 0, s0 1, s0 2] (az cStr (az cStr (l1 aH)))) [] func62 ntmps62 dU 3 rfl (fun a=>akl (a.1)) (fun a=>some ((a.2=m_)/\((a.1).length<=1048576))) (fun⟨s,p⟩ e h=>by have hf0:p=m_:=h.1;subst hf0;show _=_;kernel_rfl) (fun a=>agL (a.1)) (fun a h=>⟨asD (a.1) h.2,rfl⟩)
def axd (s:Str):Pg (List UInt8×List UInt8×Bool):=.ob (m_=m_/\List.length s<=1048576) (.ret (agL s))
def ZI (s:Str):=(axd s).val
theorem azh (s:Str)(h:s.length<=1048576):Is (axd s):=
 aX ((⟨rfl,h⟩)) (aU)
def apG:aS Z:=w_ Z [awv] [] (args (aj (bu cStr) (a1 (bu cStr)))) (kH (n:=13) rfl) (shr [s0 0, s0 1, s0 2] (az cStr (az cStr (l1 aH)))) [] func32 ntmps32 dU 3 rfl (fun a=>axd (a.1)) (fun a=>some ((a.2=m_)/\((a.1).length<=1048576))) (fun⟨s,p⟩ e h=>by have hf0:p=m_:=h.1;subst hf0;show _=_;kernel_rfl) (fun a=>ZI (a.1)) (fun a h=>⟨azh (a.1) h.2,rfl⟩)
theorem awU (s:Str)(h:s.length<=1048576):ZI s=bif decide (0<=h_ (fun x=>x==47) s)then(s.take (h_ (fun x=>x==47) s).toNat,s.drop ((h_ (fun x=>x==47) s).toNat+1),true)else(s,[],false):=by
 have hl:=(nK (fun(x:UInt8)=>x==47) s).1;unfold ZI axd agL akl;simp only[dP,dJ,bV,lh,aV,akh];by_cases h0:0<=h_ (fun x=>x==47) s
 ·have e:(List.length m_:Int)=1:=rfl;rw[uu h0,e,gz (k:= .i64) BZ,Eo];rw[show(h_ (fun x=>x==47) s+1).toNat=(h_ (fun x=>x==47) s).toNat+1 by omega]
 ·rw[qy h0];rfl
theorem aoV (s:Str)(h:s.length<=1048576):(ZI s).1.length<=s.length:=by
 rw[awU s h];cases decide (0<=h_ (fun x=>x==47) s)
 ·exact l9 _
 ·simp only[Bo,uw];omega
def ajV (s:ay)(path:Str):Pg (eG×Bool):=.ob ([47]=m_/\List.length path<=1048576) (.lt (ZI path) fun(v1:Str×Str×Bool)=> .br (!v1.2.2) (.ret (eG.mk [] [] [] 0 [],false)) (.lt (amJ s v1.1) fun(v2:cO×Bool)=> .br (!v2.2) (.ret (eG.mk [] [] [] 0 [],false)) (.ret (aJs v2.1.Methods v1.2.1))))
def atq (s:ay)(path:Str):=(ajV s path).val
def an3:aS Z:=E1 [apG,ag8,aHk,arI] [] (aj (aF bI) (a1 (bu cStr))) (shr [.slot 0 true (nn 5), s0 1] (az p_ (l1 aH))) [] func35 2 (u2 ajV) fun a=>a.2.length<=1048576
def aty (s:ay)(path:Str):Pg (eG×Int):=.ob ([47]=m_/\List.length path<=1048576) (.lt (ZI path) fun(v1:Str×Str×Bool)=> .br (!v1.2.2) (.ret (eG.mk [] [] [] 0 [],2)) (.ob (v1.1.length<=4294967296) (.br (!aiL v1.1) (.ret (eG.mk [] [] [] 0 [],2)) (.br (!ab4 v1.2.1) (.ret (eG.mk [] [] [] 0 [],2)) (.ob (List.length path<=1048576) (.lt (atq s path) fun(v2:eG×Bool)=> .br (!v2.2) (.ret (eG.mk [] [] [] 0 [],10)) (.ret (v2.1,0))))))))
def mD (s:ay)(path:Str):=(aty s path).val
theorem aul (s:ay)(path:Str)(h:path.length<=1048576):Is (aty s path):=
 aX ((⟨rfl,h⟩)) (dF fun v1 hv1=>dM iR (fun _=>aX (by have:=aoV path h;rw[hv1];omega) (dM iR (fun _=>dM iR (fun _=>aX qap (dF fun v2 hv2=>dM iR iR))))))
def u_:aS Z:=E1 [apG,acK,Q5,an3] [] (aj (aF bI) (a1 (bu cStr))) (shr [.slot 0 true (nn 5), s0 1] (az p_ (l1 cI))) [] func16 2 (u2 aty) (fun a=>a.2.length<=1048576) fun a h=>aul a.1 a.2 h
def aeC (shape:Int):Pg (Bool×Bool):=.br (shape==3) (.br (shape==2) (.ret (true,true)) (.ret (true,shape==4))) (.br (shape==2) (.ret (shape==4,true)) (.ret (shape==4,shape==4)))
def nN (shape:Int):=(aeC shape).val
def uP:aS Z:=E0 [] [] (a1 (bu cI)) (shr [s0 0, s0 1] (az aH (l1 aH))) [] func38 2 aeC
def ranged (x:di):Pg Bool:=.br (decide (x.avq < 0)) (.ret false) (.br (decide (1099511627776 < x.avq)) (.ret false) (.cut (fun(y1:Bool)=> .br y1 (.ret (x.Num==0)) (.br (x.Kind==3) (.br (decide (1<=x.Num)) (.ret (decide (x.Num<=65535))) (.ret false)) (.br (x.Kind==4) (.br (decide (0<=x.Num)) (.ret (decide (x.Num<=64))) (.ret false)) (.br (x.Kind==5) (.br (decide (1<=x.Num)) (.ret (decide (x.Num<=13))) (.ret false)) (.ret false))))) (.br (x.Kind==1) (rl (x.Kind==1)) (rl (x.Kind==2)))))
def Rh (x:di):=(ranged x).val
def adF:aS Z:=E0 [] [jS 100006 (bU (fun sl=>[s0 13]) (l1 aH))] (a1 (aF jr)) (R1 aH) [] func15 1 ranged
def counted (s:ay)(name:Str)(num:Int):Pg (aJ×Bool):=.lt (Q7 (GN s name).1 num) fun(v1:aJ×Bool)=> .br (v1.1.dZ.Kind==4) (.br v1.2 (.br (v1.1.Card !=4) (.ret (aJ.mk v1.1.Num v1.1.Name v1.1.Card v1.1.Key v1.1.dZ v1.1.Union v1.1.dw v1.1.Default.re v1.1.Notes,v1.1.Card !=5)) (.ret (aJ.mk v1.1.Num v1.1.Name v1.1.Card v1.1.Key v1.1.dZ v1.1.Union v1.1.dw v1.1.Default.re v1.1.Notes,false))) (.ret (aJ.mk v1.1.Num v1.1.Name v1.1.Card v1.1.Key v1.1.dZ v1.1.Union v1.1.dw v1.1.Default.re v1.1.Notes,false))) (.br v1.2 (.br (v1.1.dZ.Kind==5) (.br (v1.1.Card !=4) (.ret (aJ.mk v1.1.Num v1.1.Name v1.1.Card v1.1.Key v1.1.dZ v1.1.Union v1.1.dw v1.1.Default.re v1.1.Notes,v1.1.Card !=5)) (.ret (aJ.mk v1.1.Num v1.1.Name v1.1.Card v1.1.Key v1.1.dZ v1.1.Union v1.1.dw v1.1.Default.re v1.1.Notes,false))) (.ret (aJ.mk v1.1.Num v1.1.Name v1.1.Card v1.1.Key v1.1.dZ v1.1.Union v1.1.dw v1.1.Default.re v1.1.Notes,false))) (.ret (aJ.mk v1.1.Num v1.1.Name v1.1.Card v1.1.Key v1.1.dZ v1.1.Union v1.1.dw v1.1.Default.re v1.1.Notes,false)))
def ads (s:ay)(name:Str)(num:Int):=(counted s name num).val
def ZH:aS Z:=E0 [Jw,Lc] [] (aj (aF bI) (aj (bu cStr) (a1 (bu cI)))) (shr [.slot 0 true (nn 16), s0 1] (az d_ (l1 aH))) [] func39 2 (u3 counted)
def fits (s:ay)(x:di):Pg Bool:=.ob (List.length x.Method<=1048576) (.lt (mD s x.Method) fun(v1:eG×Int)=> .br (v1.2 !=0) (.ret false) (.br (!Rh (di.mk x.Method x.Kind x.Num 0)) (.ret false) (.lt (nN v1.1.Shape) fun(v2:Bool×Bool)=> .br (x.Kind==2) (.ret !v2.2) (.br (x.Kind==3) (.br (ads s v1.1.Out x.Num).2 (.ret !v2.2) (.ret false)) (.br (x.Kind==4) (.br v2.2 (.ret (v1.1.In==v1.1.Out)) (.ret false)) (.ret true))))))
def ae7 (s:ay)(x:di):=(fits s x).val
def TL:aS Z:=E1 [adF,u_,uP,ZH] [] (aj (aF bI) (a1 (aF jr))) (R1 aH) [] func18 1 (u2 fits) fun a=>a.2.Method.length<=1048576
def aqB (s:Str):Pg Bool:=.br (decide ((↑(List.length s):Int) < 1)) (.ret false) (.br (decide (40 < (↑(List.length s):Int))) (.ret false) (.as (List.length s<=9223372036854775807) (.each false wB s 0 (fun i1 a3 (y2:Unit)=> .ix i1 (List.length s) (.br (decide ((↑a3.toNat:Int) < 97)) (.ix i1 (List.length s) (.br (decide ((↑a3.toNat:Int) < 48)) (.ret (.inr false)) (.ix i1 (List.length s) (.br (decide (57 < (↑a3.toNat:Int))) (.ret (.inr false)) (rl ()))))) (.ix i1 (List.length s) (.br (decide (122 < (↑a3.toNat:Int))) (.ix i1 (List.length s) (.br (decide ((↑a3.toNat:Int) < 48)) (.ret (.inr false)) (.ix i1 (List.length s) (.br (decide (57 < (↑a3.toNat:Int))) (.ret (.inr false)) (rl ()))))) (rl ()))))) (fun i1 (y2:Unit)=> .ret true) ())))
def axG (s:Str):=(aqB s).val
def asw:aS Z:=E0 [] [jS 4 (bU (fun sl=>[s0 14]) (l1 cI))] (a1 (bu cStr)) (R1 aH) [] func13 1 aqB
def ah2 (x:Int):Pg Bool:=.ret (x !=x)
def aas (x:Int):=(ah2 x).val
def apZ:aS Z:=E0 [] [] (a1 (bu cI)) (R1 aH) [] func274 1 ah2
def aEQ (x:Int)(y:Int):Pg Int:=.lt (aas y) fun(v1:Bool)=> .br (aas x) (.br v1 (.ret 0) (.ret (-1))) (.br v1 (.ret 1) (.br (decide (x < y)) (.ret (-1)) (.br (decide (y < x)) (.ret 1) (.ret 0))))
def H5 (x:Int)(y:Int):=(aEQ x y).val
def NH:aS Z:=E0 [apZ] [] (aj (bu cI) (a1 (bu cI))) (R1 cI) [] func199 1 (u2 aEQ)
theorem azw (x y:Int):H5 x y=if x < y then -1 else if y < x then 1 else 0:=by
 unfold H5 aEQ aas ah2;simp only[dJ,bV,aV,bne_self_eq_false,Qc,Qbn,Qbo,if_false]
theorem CJ (x y:Int):decide (H5 x y < 0)=decide (x < y):=by
 rw[azw];by_cases h:x < y
 ·rw[mi h];exact(uu nG).trans (uu h).symm
 ·rw[lL h,qy h];split<;>rfl
def rwC (a:Raw)(b:Raw):Pg Int:=.ret (H5 a.Num b.Num)
def adY (a:Raw)(b:Raw):=(rwC a b).val
def Vy:aS Z:=E1 [NH] [] (aj (aF oq) (a1 (aF oq))) (R1 cI) [] func198 1 (u2 rwC) fun a=>True
theorem IG:FO (ltOf adY):=QB (fun a=>a.Num) fun a b=>CJ a.Num b.Num
def aG0 (a:Int)(b:Int)(n:Int)(l:List Raw):Pg (List Raw):=ah_ pz a b n l
theorem ayZ (a:Int)(b:Int)(n:Int)(l:List Raw)(h:swQ a b n l.length):Is (aG0 a b n l):=
 avj h
def auN:aS Z:=Ee [Vy] [jS 1 (bU (fun sl=>[s0 10, .row (pid (sl 0)) 268]) (az cI (l1 bF)))] (aj (ni 0) (aj (bu cI) (aj (bu cI) (aj (bu cI) (a1 (kE 198 [])))))) (b1 (iq 268 D.Raw kZ)) (shr [.row 0 268] (l1 bF)) [] func437 0 (fun a=>aG0 a.1.2.1 a.1.2.2.1 a.1.2.2.2.1 a.2) (fun a=>swQ a.1.2.1 a.1.2.2.1 a.1.2.2.2.1 a.2.length) fun a h=>ayZ a.1.2.1 a.1.2.2.1 a.1.2.2.2.1 a.2 h
def aG9 (a:Int)(m:Int)(b:Int)(l:List Raw):Pg (List Raw):=axo pz a m b l
theorem ayS (a:Int)(m:Int)(b:Int)(l:List Raw)(h:roQ a m b l.length):Is (aG9 a m b l):=
 aqA h
def avo:aS Z:=Ee [Vy,auN] [jS 2 (bU (fun sl=>[s0 10, s0 11, .row (pid (sl 0)) 268]) (az cI (az cI (l1 bF))))] (aj (ni 0) (aj (bu cI) (aj (bu cI) (aj (bu cI) (a1 (kE 198 [])))))) (b1 (iq 268 D.Raw kZ)) (shr [.row 0 268] (l1 bF)) [] func417 0 (fun a=>aG9 a.1.2.1 a.1.2.2.1 a.1.2.2.2.1 a.2) (fun a=>roQ a.1.2.1 a.1.2.2.1 a.1.2.2.2.1 a.2.length) fun a h=>ayS a.1.2.1 a.1.2.2.1 a.1.2.2.2.1 a.2 h
def aCD (a:Int)(b:Int)(l:List Raw):Pg (List Raw):=awe adY (fun _ _=>True) pz a b l
def aF1 (a:Int)(b:Int)(l:List Raw):=(aCD a b l).val
theorem azk (a:Int)(b:Int)(l:List Raw)(h:JC (fun _ _=>True) a b l):Is (aCD a b l):=
 auj IG h
def atm:aS Z:=w_ Z [Vy] [jS 1 (bU (fun sl=>[s0 8, .row (pid (sl 0)) 268]) (az cI (l1 bF))),jS 4 (bU (fun sl=>[s0 9, .row (pid (sl 0)) 268]) (az cI (l1 bF)))] (jW (aj (ni 0) (aj (bu cI) (aj (bu cI) (a1 (kE 198 []))))) (b1 (iq 268 D.Raw kZ))) (oG (n:=53) rfl) (shr [.row 0 268] (l1 bF)) [] func369 ntmps369 dU 0 rfl (fun a=>aCD (a.1.2.1) (a.1.2.2.1) (a.2)) (fun a=>some (JC (fun _ _=>True) (a.1.2.1) (a.1.2.2.1) (a.2))) (fun a e _=>by kernel_rfl) (fun a=>aF1 (a.1.2.1) (a.1.2.2.1) (a.2)) (fun a h=>⟨azk (a.1.2.1) (a.1.2.2.1) (a.2) h,rfl⟩)
def aJu (aI6:Int->Int->Int->List Raw->List Raw)(VM:Int->Int->Int->List Raw->Prop)(a:Int)(m:Int)(b:Int)(l:List Raw):Pg (List Raw):=asq adY (fun _ _=>True) pz aI6 VM a m b l
def VM (fu:Nat)(a:Int)(m:Int)(b:Int)(l:List Raw):Prop:=Ql adY (fun _ _=>True) fu a m b l
def apF:Nat->(Int->Int->Int->(List Raw)->(List Raw))
 | 0=>(fun _ _ _ _=>default)
 | fu+1=>(fun a m b l=>(aJu ((apF fu)) (VM fu) a m b l).val)
abbrev aqH (fu:Nat):=aJu ((apF fu)) (VM fu)
def aj8 (a:Int)(m:Int)(b:Int)(l:List Raw):List Raw:=(apF ((b - a).toNat+1)) a m b l
theorem Ll:∀(fu:Nat) (a m b:Int) (l:List Raw),VM fu a m b l->mrg adY a b l (apF fu a m b l)
 | 0,_,_,_,_,h=>Ht h
 | fu+1,_,_,_,_,h=>(TJ (DI:=apF fu) (Hr:=VM fu) (d:=pz) IG (fun _ _ _ _ h=>h) (Ll fu) h).2
theorem awG (fu:Nat)(a:Int)(m:Int)(b:Int)(l:List Raw)(h:VM (fu+1) a m b l):Is (aqH fu a m b l):=
 (TJ IG (fun _ _ _ _ h=>h) (Ll fu) h).1
theorem apb:∀fu,fV Z.P Z.S 370 (oP (jW (aj (ni 0) (aj (bu cI) (aj (bu cI) (aj (bu cI) (a1 (kE 198 [])))))) (b1 (iq 268 D.Raw kZ))) (shr [.row 0 268] (l1 bF)) 0 [] (fun a=>some (VM fu (a.1.2.1) (a.1.2.2.1) (a.1.2.2.2.1) (a.2))) (fun a=>(apF fu) (a.1.2.1) (a.1.2.2.1) (a.1.2.2.2.1) (a.2)))
 | 0=>iH func370 dU (fun a h=>Ht h)
 | fu+1=>by
  have h0:=apb fu;exact G9 [Vy,avo,⟨370,_,h0⟩] [jS 3 (bU (fun sl=>[s0 10, s0 11]) (az cI (l1 cI))),jS 9 (bU (fun sl=>[s0 13, .row (pid (sl 0)) 268]) (az cI (l1 bF))),jS 15 (bU (fun sl=>[s0 14, s0 15]) (az cI (l1 cI))),jS 21 (bU (fun sl=>[s0 17, .row (pid (sl 0)) 268]) (az cI (l1 bF))),jS 33 (bU (fun sl=>[s0 20, s0 21]) (az cI (l1 cI))),jS 100008 (bU (fun sl=>[s0 10]) (l1 cI)),jS 100012 (bU (fun sl=>[.row (pid (sl 0)) 268]) (l1 bF)),jS 100020 (bU (fun sl=>[s0 14]) (l1 cI)),jS 100024 (bU (fun sl=>[.row (pid (sl 0)) 268]) (l1 bF)),jS 100032 (bU (fun sl=>[s0 20, s0 21]) (az cI (l1 cI))),jS 100038 (bU (fun sl=>[s0 20]) (l1 cI)),jS 100041 (bU (fun sl=>[.row (pid (sl 0)) 268]) (l1 bF)),jS 100043 (bU (fun sl=>[.row (pid (sl 0)) 268]) (l1 bF))] func370 ntmps370 (fun a=>aqH fu a.1.2.1 a.1.2.2.1 a.1.2.2.2.1 a.2) (fun a h=>⟨awG fu a.1.2.1 a.1.2.2.1 a.1.2.2.2.1 a.2 h,rfl⟩) (oG (n:=220) rfl)
def ao7:aS Z:=⟨370,oP (jW (aj (ni 0) (aj (bu cI) (aj (bu cI) (aj (bu cI) (a1 (kE 198 [])))))) (b1 (iq 268 D.Raw kZ))) (shr [.row 0 268] (l1 bF)) 0 [] (fun a=>some (Ql adY (fun _ _=>True) (((a.1.2.2.2.1) - (a.1.2.1)).toNat+1) (a.1.2.1) (a.1.2.2.1) (a.1.2.2.2.1) (a.2))) (fun a=>aj8 (a.1.2.1) (a.1.2.2.1) (a.1.2.2.2.1) (a.2)),jM (fun n=>((apb n))) _ _ (fun a h=>⟨((a.1.2.2.2.1) - (a.1.2.1)).toNat+1,h,rfl⟩)⟩
def aDP (n:Int)(l:List Raw):Pg (List Raw):=aCJ adY (fun _ _=>True) pz aj8 n l
def aGO (n:Int)(l:List Raw):=(aDP n l).val
theorem axi (n:Int)(l:List Raw)(h:stQ (fun _ _=>True) n l):Is (aDP n l):=
 (Tm (DI:=aj8) IG (fun a m b l h=>Ll _ a m b l h) h).1
def aux:aS Z:=Ee [Vy,atm,ao7] [jS 2 (bU (fun sl=>[s0 7, s0 8, .row (pid (sl 0)) 268]) (az cI (az cI (l1 bF)))),jS 7 (bU (fun sl=>[s0 6, .row (pid (sl 0)) 268]) (az cI (l1 bF))),jS 9 (bU (fun sl=>[s0 7, s0 8, .row (pid (sl 0)) 268]) (az cI (az cI (l1 bF)))),jS 100006 (bU (fun sl=>[s0 7, .row (pid (sl 0)) 268]) (az cI (l1 bF))),jS 100013 (bU (fun sl=>[s0 7, .row (pid (sl 0)) 268]) (az cI (l1 bF)))] (aj (ni 0) (aj (bu cI) (a1 (kE 198 [])))) (b1 (iq 268 D.Raw kZ)) (shr [.row 0 268] (l1 bF)) [] func273 0 (fun a=>aDP a.1.2.1 a.2) (fun a=>stQ (fun _ _=>True) a.1.2.1 a.2) fun a h=>axi a.1.2.1 a.2 h
def aEh (l:List Raw):Pg (List Raw):=.ob (stQ (fun(x x_1:Raw)=>True) (↑l.length:Int) l) (.lt (aGO (↑l.length:Int) l) fun(v1:List Raw)=> aL v1 (.ret v1))
def VJ (l:List Raw):=(aEh l).val
theorem axN (l:List Raw)(h:sZ (fun _ _=>True) l):Is (aEh l):=
 aX ((⟨h,rfl⟩)) (dF fun v1 hv1=>iL fun _=>aU)
def auC:aS Z:=Ee [Vy,aux] [] (aj (ni 0) (a1 (kE 198 []))) (b1 (iq 268 D.Raw kZ)) (shr [.row 0 268] (l1 bF)) [] func197 0 (fun a=>aEh a.2) (fun a=>sZ (fun _ _=>True) a.2) fun a h=>axN a.2 h
theorem PP (l:List Raw)(h:sZ (fun _ _=>True) l):Sorted adY l (VJ l):=
 (Tm (q:=(fun _ _=>True)) (d:=pz) (DI:=aj8) IG (fun a m b l h=>Ll _ a m b l h) ⟨h,rfl⟩).2
def lS (u:Int):Prop:=0<=u/\u < 18446744073709551616
theorem u8_or:∀y,y < 256->y ||| 128=y % 128+128:=by decide+kernel
theorem aeq (x:Nat)(hx:x < 18446744073709551616):orI .u8 (dB .u8 (x:Int)) 128=((x % 128+128:Nat):Int):=by
 rw[ak5 (k:= .u8) rfl];refine(ajR (k:= .u8) rfl (y:=128) (Qc6 _ nG) nG).trans ?_;rw[show(2:Nat) ^ IntKind.u8.bits=256 from rfl,u8_or _ (Qc6 _ nG)];congr 2;omega
theorem xH (x:Nat):zV .u64 (x:Int) 7=((x / 128:Nat):Int):=ae9 (k:= .u64) x 7 nG
theorem awS (x:Nat)(h:x < 128):dB .u8 (x:Int)=(x:Int):=NT (k:= .u8) rfl (show x < 2 ^ 8 by omega)
def aBo (X:Int×List Int):Prop:=∃x:Nat,X.1=(x:Int)/\X.2.length<=9/\x < 2 ^ (64 - 7*X.2.length)
theorem ag0 {x:Nat}{b:List Int}{v:Int}(h1:b.length<=9)(h2:x < 2 ^ (64 - 7*b.length))(h3:128<=x):aBo (((x / 128:Nat):Int),b++[v]):=by
 refine⟨x / 128,rfl,?_,?_⟩
 ·show(b++[v]).length<=9
  rw[kT,Qcg];rcases(by omega:b.length=9\/b.length<=8)with h | h
  ·rw[h]at h2;have:x < 2:=h2;omega
  ·omega
 ·show x / 128 < 2 ^ (64 - 7*(b++[v]).length)
  rw[kT,Qcg];rcases(by omega:b.length=9\/b.length<=8)with h | h
  ·rw[h]at h2;have:x < 2:=h2;omega
  ·have e:64 - 7*b.length=(64 - 7*(b.length+1))+7:=by omega
   rw[e,Nat.pow_add]at h2;omega
theorem aJt {x k:Nat}(h:x < 2 ^ (64 - 7*k)):x < 18446744073709551616:=Qck h (show 2 ^ (64 - 7*k)<=2 ^ 64 from Qei nG au)
def aEz (u:Int):Pg (List UInt8):=.wh (u.toNat+1) default (fun(x3:Int×List Int)=> .br (decide (128<=x3.1)) (.ob (bQ (x3.2.length+1) 1) (.ob ((0:Int)<=7) (rl (zV .u64 x3.1 7,x3.2++[orI .u8 (dB .u8 x3.1) 128])))) (.ob (bQ (x3.2.length+1) 1) (.lt (x3.2++[dB .u8 x3.1]) fun(v4:List Int)=> .ob (I5 (fun(i:Nat)=>true) v4.length=true) (.ret (.inr (txU v4)))))) (u,[])
def V5 (u:Int):=(aEz u).val
theorem ax9 (u:Int)(h:lS u):Is (aEz u):=
 by
 have h:0<=u/\u < 18446744073709551616:=h;obtain⟨x,rfl⟩:∃x:Nat,u=(x:Int):=⟨u.toNat,by omega⟩;have hx:x < 18446744073709551616:=by omega
 refine JI aBo (fun X=>X.1.toNat) ⟨x,rfl,vg _,hx⟩ (by show x < x+1;omega) (fun X hX=> ?_);obtain⟨i,b⟩:=X;obtain⟨x,rfl,h1,h2⟩:=hX;dsimp only at h1 h2⊢;rw[xH,aeq x (aJt h2)];refine⟨gu (fun _=>aX (b_ au au) (aX au aU)) (fun _=>aX (b_ au au) (dF fun v4 hv4=>aX (xq (fun _=>rfl) _) aU)),fun x' hx'=> ?_⟩;revert hx';simp only[bV,dP,dJ,aV,Qc,Qbn];split
 ·rename_i h3;intro e;injection e with e
  subst e;refine⟨ag0 h1 h2 au,?_⟩;show((x / 128:Nat):Int).toNat < (x:Int).toNat
  omega
 ·intro e;cases e
def acw:aS Z:=E1 [] [jS 2 (bU (fun sl=>[s0 0, .slot 3 false [some 5]]) (az (fO .u64) (l1 OU)))] (a1 (bu (fO .u64))) (R1 cStr) [] func220 1 aEz (fun a=>lS a) fun a h=>ax9 a h
theorem aec (x:Nat)(hx:x < 18446744073709551616):V5 (x:Int)=txU ((ais 10 x).map Int.ofNat):=by
 have k1:∀(k n x:Nat) (b:List Int),x < n->x < 128 ^ k->1<=k->x < 18446744073709551616->whN (fun(x3:Int×List Int)=>(bif decide (128<=x3.1)then(Sum.inl (zV .u64 x3.1 7,x3.2++[orI .u8 (dB .u8 x3.1) 128]):(Int×List Int)⊕List UInt8)else .inr (txU (x3.2++[dB .u8 x3.1])))) default n ((x:Int),b)=txU (b++(ais k x).map Int.ofNat):=by
  intro k;induction k with
  | zero=>intro n x b _ _ h;omega
  | succ k ih=>
   intro n x b hn hk _ hx;obtain⟨n,rfl⟩:∃m,n=m+1:=⟨n - 1,by omega⟩;unfold whN ais;by_cases h:x < 128
   ·rw[mi h,qy (show ¬(128:Int)<=(x:Int) by omega)];simp only[pO,awS x h];rfl
   ·rw[lL h,uu (show(128:Int)<=(x:Int) by omega)];simp only[Bo,xH,aeq x hx];rw[Nat.pow_succ]at hk;rw[ih n (x / 128) _ au au (by
      rcases k with _ | k;· simp at hk;omega
      ·omega) au,Oy]
    rfl
 exact k1 10 ((x:Int).toNat+1) x [] au (Qck hx nG) nG hx
theorem alO:∀(k x:Nat),(ais k x).length<=k
 | 0,x=>l9 _
 | k+1,x=>by
  unfold ais;split
  ·simp
  ·simp only[yF];have:=alO k (x / 128);omega
theorem QT (u:Int)(h:0<=u/\u < 18446744073709551616):(V5 u).length<=10:=by
 obtain⟨x,rfl⟩:∃x:Nat,u=(x:Int):=⟨u.toNat,by omega⟩;rw[aec x au,G6,Qbj];exact alO 10 x
def Xk (u i:Nat)(t:Nat×Nat×Int):Int×Int×Int:=if t.2.2=0 then(((u+2 ^ (7*i)*t.1:Nat):Int),((i+t.2.1:Nat):Int),0)else(0,0,t.2.2)
theorem aD3 {u i c:Nat}(hu:u < 2 ^ (7*i))(hi:i<=8\/i=9/\c<=1)(hc:c < 128):c*2 ^ (7*i) < 2 ^ 64/\u ||| (c*2 ^ (7*i))=u+2 ^ (7*i)*c/\u+2 ^ (7*i)*c < 2 ^ 64:=by
 have h1:u ||| (c*2 ^ (7*i))=u+2 ^ (7*i)*c:=by
  rw[Nat.or_comm,Qcy,<-Nat.two_pow_add_eq_or_of_lt hu,Qep]
 rw[h1];rcases hi with hi | ⟨rfl,hc1⟩
 ·have h2:2 ^ (7*i)<=2 ^ 56:=Qei nG au;generalize 2 ^ (7*i)=p at*;have h3:c*p<=127*p:=Om p au;rw[Qcy p c];refine⟨by omega,rfl,by omega⟩
 ·have:c=0\/c=1:=by omega
  rcases this with rfl | rfl<;>refine⟨by decide,rfl,by omega⟩
theorem aCa (c:UInt8):dB .u64 (wJ .u8 (c.toNat:Int) 127)=((c.toNat % 128:Nat):Int):=by
 have hc:=c.toNat_lt;have e:wJ .u8 (c.toNat:Int) 127=((c.toNat &&& 127:Nat):Int):=apa (k:= .u8) rfl (y:=127) hc nG;rw[e,show c.toNat &&& 127=c.toNat % 128 from Nat.and_two_pow_sub_one_eq_mod _ 7];exact NT (k:= .u64) rfl (Nat.lt_trans (Qc6 _ nG) (by decide:128 < 2 ^ 64))
theorem ayP (u i:Nat)(c:UInt8)(hu:u < 2 ^ (7*i))(hi:i<=8\/i=9/\c.toNat<=1):orI .u64 (u:Int) (XG .u64 (dB .u64 (wJ .u8 (c.toNat:Int) 127)) (dB .i64 (7*(i:Int))))=((u+2 ^ (7*i)*(c.toNat % 128):Nat):Int):=by
 have hm:c.toNat % 128 < 128:=Qc6 _ nG;obtain⟨h1,h2,h3⟩:=aD3 hu (hi.imp id fun h=>⟨h.1,by omega⟩) hm;have w:dB .i64 (7*(i:Int))=((7*i:Nat):Int):=by rw[gz (k:= .i64) BZ];omega
 rw[aCa,w,apH (k:= .u64) rfl (show 7*i<=64 by omega) h1];have hu64:u < 2 ^ 64:=by omega
 rw[ajR (k:= .u64) rfl hu64 h1,h2]
theorem drop_at {s:Str}{i:Nat}(h:i < s.length):s.drop i=s.getD i 0::s.drop (i+1):=by
 rw[Qbw h];simp[List.getD,h]
theorem auG (u i:Nat)(c:UInt8)(r:Str)(h9:¬(i=9/\1 < c.toNat))(h1:¬c.toNat < 128):Xk u i (nD i (c::r))=Xk (u+2 ^ (7*i)*(c.toNat % 128)) (i+1) (nD (i+1) r):=by
 conv=>lhs;unfold nD
 rw[lL h9,lL h1];generalize nD (i+1) r=t;obtain⟨v,n,e⟩:=t;dsimp only;by_cases he:e=0
 ·subst he;unfold Xk;dsimp only;rw[mi rfl,mi rfl,mi rfl];have e2:u+2 ^ (7*i)*(c.toNat % 128+128*v)=u+2 ^ (7*i)*(c.toNat % 128)+2 ^ (7*(i+1))*v:=by
   rw[show 7*(i+1)=7*i+7 by omega,Nat.pow_add,Nat.mul_add,Qd0,<-Nat.mul_assoc]
  rw[e2,show i+(n+1)=i+1+n by omega]
 ·unfold Xk;rw[lL he,lL he,lL he]
def aq3 (s:Str):Pg (Int×Int×Int):=.wh (11) default (fun(x3:Int×Int)=> .as (List.length s<=9223372036854775807) (.br (x3.2==(↑(List.length s):Int)) (.ret (.inr (0,0,4))) (.ix x3.2 (List.length s) (.cut (fun(y4:Unit)=> .lt (dB .i64 (7*x3.2)) fun(v5:Int)=> .ob (0<=v5) (.lt (orI .u64 x3.1 (XG .u64 (dB .u64 (wJ .u8 (↑(List.getD s x3.2.toNat 0).toNat:Int) 127)) v5)) fun(v6:Int)=> .lt (dB .i64 (x3.2+1)) fun(v7:Int)=> .br (decide ((↑(List.getD s x3.2.toNat 0).toNat:Int) < 128)) (.ret (.inr (v6,v7,0))) (rl (v6,v7)))) (.br (x3.2==9) (.br (decide (1 < (↑(List.getD s x3.2.toNat 0).toNat:Int))) (.ret (.inr (.inr (0,0,6)))) (rl ())) (rl ())))))) (0,0)
def wC (s:Str):=(aq3 s).val
theorem ar7 (s:Str):Is (aq3 s):=
 by
 refine JI (fun X=>0<=X.2/\X.2<=9/\X.2<=s.length) (fun X=>(10 - X.2).toNat) ⟨by decide,by decide,by simp⟩ nG (fun X hX=> ?_);obtain⟨u,n⟩:=X;obtain⟨h1,h2,h3⟩:=hX;dsimp only at h1 h2 h3⊢;have w:dB .i64 (7*n)=7*n:=gz (k:= .i64) BZ;have w1:dB .i64 (n+1)=n+1:=gz (k:= .i64) BZ;rw[w,w1];refine⟨iL fun _=>oI iR (fun hne=>dR au au (qM (oI (fun _=>gu iR iR) iR) (fun y hy=>dF fun v5 hv5=>aX au (dF fun v6 hv6=>dF fun v7 hv7=>gu iR iR)))),fun x' hx'=> ?_⟩;revert hx';simp only[lh,bV,jZ,nJ,dJ,dP,aV,Qc,Qbn,Qc7];by_cases e1:n=(s.length:Int)
 ·rw[mi e1];intro e;cases e
 rw[lL e1];by_cases e2:n=9
 ·rw[mi e2];by_cases e3:(1:Int) < ((s.getD n.toNat 0).toNat:Int)
  ·rw[mi e3];intro e;cases e
  ·rw[lL e3,qE,mi au];intro e;cases e
 ·rw[lL e2,qE];split
  ·intro e;cases e
  ·intro e;injection e with e
   subst e;exact⟨⟨by show 0<=n+1;omega,by show n+1<=9;omega,by show n+1<=(s.length:Int);omega⟩,by show(10 - (n+1)).toNat < (10 - n).toNat;omega⟩
def ay7:aS Z:=E0 [] [jS 3 (bU (fun sl=>[s0 5, s0 6]) (az (fO .u64) (l1 cI))),jS 100008 (bU (fun sl=>[]) l0)] (a1 (bu cStr)) (shr [s0 0, s0 1, s0 2] (az (fO .u64) (az cI (l1 cI)))) [] func347 3 aq3 fun a=>ar7 a
theorem aJp {u i c:Nat}(hu:u < 2 ^ (7*i)):u+2 ^ (7*i)*(c % 128) < 2 ^ (7*(i+1)):=by
 rw[show 7*(i+1)=7*i+7 by omega,Nat.pow_add];have hm:c % 128 < 128:=Qc6 _ nG;generalize 2 ^ (7*i)=p at*;have h3:p*(c % 128)<=p*127:=Qdy p au;omega
theorem ayV (u i:Nat):Xk u i (nD i [])=(0,0,4):=rfl
theorem axV (u i:Nat)(c:UInt8)(r:Str)(h9:i=9/\1 < c.toNat):Xk u i (nD i (c::r))=(0,0,6):=by
 unfold nD;rw[mi h9];rfl
theorem awR (u i:Nat)(c:UInt8)(r:Str)(h9:¬(i=9/\1 < c.toNat))(h1:c.toNat < 128):Xk u i (nD i (c::r))=(((u+2 ^ (7*i)*(c.toNat % 128):Nat):Int),((i+1:Nat):Int),0):=by
 unfold nD;rw[lL h9,mi h1,Qb6 h1];rfl
theorem apM (s:Str):wC s=Xk 0 0 (nD 0 s):=by
 have key:∀(m i u:Nat),i<=9->i<=s.length->u < 2 ^ (7*i)->10 - i < m->whN (fun(x3:Int×Int)=>bif x3.2==(s.length:Int)then(Sum.inr (0,0,4):(Int×Int)⊕(Int×Int×Int))else thenS (bif x3.2==9 then(bif decide ((1:Int) < ((s.getD x3.2.toNat 0).toNat:Int))then(Sum.inr (.inr (0,0,6)):Unit⊕((Int×Int)⊕(Int×Int×Int)))else .inl ())else .inl ()) fun _=>bif decide (((s.getD x3.2.toNat 0).toNat:Int) < 128)then Sum.inr (orI .u64 x3.1 (XG .u64 (dB .u64 (wJ .u8 ((s.getD x3.2.toNat 0).toNat:Int) 127)) (dB .i64 (7*x3.2))),dB .i64 (x3.2+1),0)else .inl (orI .u64 x3.1 (XG .u64 (dB .u64 (wJ .u8 ((s.getD x3.2.toNat 0).toNat:Int) 127)) (dB .i64 (7*x3.2))),dB .i64 (x3.2+1))) default m ((u:Int),(i:Int))=Xk u i (nD i (s.drop i)):=by
  intro m;induction m with
  | zero=>intro i u _ _ _ h;omega
  | succ m ih=>
   intro i u h9 hl hu hm;unfold whN;dsimp only;by_cases e1:i=s.length
   ·have:((i:Int)==(s.length:Int))=true:=by rw[e1];simp
    rw[this,List.drop_eq_nil_of_le au,ayV];rfl
   ·have:((i:Int)==(s.length:Int))=false:=by rw[Qcc];omega
    rw[this,pO,ww,drop_at au];generalize s.getD i 0=c;by_cases e2:i=9/\1 < c.toNat
    ·rw[axV _ _ _ _ e2];have q1:((i:Int)==9)=true:=by rw[e2.1];rfl
     have q2:decide ((1:Int) < (c.toNat:Int))=true:=uu au;rw[q1,q2];rfl
    ·have q:(bif (i:Int)==9 then(bif decide ((1:Int) < (c.toNat:Int))then(Sum.inr (.inr (0,0,6)):Unit⊕((Int×Int)⊕(Int×Int×Int)))else .inl ())else .inl ())= .inl ():=by
      by_cases e3:i=9
      ·have q2:decide ((1:Int) < (c.toNat:Int))=false:=qy au;rw[q2];cases(i:Int)==9<;>rfl
      ·have q1:((i:Int)==9)=false:=by rw[Qcc];omega
       rw[q1];rfl
     have hi:i<=8\/i=9/\c.toNat<=1:=by omega
     have w1:dB .i64 ((i:Int)+1)=((i+1:Nat):Int):=v_ au;rw[q,qE,ayP u i c hu hi,w1];by_cases e3:c.toNat < 128
     ·rw[awR _ _ _ _ e2 e3,uu (show(c.toNat:Int) < 128 by omega)];rfl
     ·rw[auG _ _ _ _ e2 e3,qy (show ¬(c.toNat:Int) < 128 by omega)];exact ih (i+1) _ au au (aJp hu) au
 exact key 11 0 0 nG (vg _) nG nG
theorem aoU (s:Str):lS (wC s).1/\0<=(wC s).2.1/\(wC s).2.1<=s.length/\((wC s).2.2=0\/(wC s).2.2=4\/(wC s).2.2=6)/\((wC s).2.2=0->1<=(wC s).2.1):=by
 rw[apM];have he:∀(r:Str) (i:Nat),(nD i r).2.2=0\/(nD i r).2.2=4\/(nD i r).2.2=6:=by
  intro r;induction r with
  | nil=>intro i;exact .inr (.inl rfl)
  | cons c r ih=>
   intro i;unfold nD;split
   ·exact .inr (.inr rfl)
   ·split
    ·exact .inl rfl
    ·have:=ih (i+1);generalize nD (i+1) r=t at*;obtain⟨u,n,e⟩:=t;dsimp only at this⊢;split
     ·exact .inl rfl
     ·exact this
 unfold Xk;by_cases h:(nD 0 s).2.2=0
 ·obtain⟨l,w1,w2,w3,w4,w5,w6,w7⟩:=UJ s 0 nG h;have:=awo w1;rw[mi h];have w7:(nD 0 s).1 < 18446744073709551616:=w7;rw[DU,DU,Nat.mul_zero,Nat.pow_zero,Nat.one_mul];dsimp only;exact⟨⟨by omega,by omega⟩,by omega,by omega, .inl rfl,fun _=>by omega⟩
 ·rw[lL h];dsimp only;exact⟨⟨Qb2 _,by decide⟩,Qb2 _,by omega,(he s 0),fun e=>absurd e h⟩
def aFZ (u:Int):Pg Int:=.ob ((0:Int)<=1) (.ret (aiK .i64 (dB .i64 (zV .u64 u 1)) (dB .i64 (-dB .i64 (wJ .u64 u 1)))))
def aA8 (u:Int):=(aFZ u).val
def aDt:aS Z:=E0 [] [] (a1 (bu (fO .u64))) (R1 cI) [] func402 1 aFZ
def aid (c:aN):Pg Bool:=.br (decide (0<=c.At)) (.br (decide (c.At<=c.End)) (.as (List.length c.Data<=9223372036854775807) (.ret (decide (c.End<=(↑(List.length c.Data):Int))))) (.ret false)) (.ret false)
def MG (c:aN):=(aid c).val
def V8:aS Z:=E0 [] [] (a1 (aF dN)) (R1 aH) [] func256 1 aid
def art (c:aN):Pg Int:=.br (!MG c) (.ret 0) (.ret (dB .i64 (c.End - c.At)))
def uF (c:aN):=(art c).val
def yY:aS Z:=E0 [V8] [] (a1 (aF dN)) (R1 cI) [] func187 1 art
def agY (c:aN)(n:Int):Pg aN:=.ret (aN.mk c.Data (dB .i64 (c.At+n)) c.End c.Depth c.Nodes c.Text)
def rG (c:aN)(n:Int):=(agY c n).val
def JF:aS Z:=E0 [] [] (aj (aF dN) (a1 (bu cI))) (shr [.slot 0 true (nn 6)] (l1 dN)) [] func349 1 (u2 agY)
def ng (c:aN):Prop:=(0<=c.At/\c.At<=c.End/\c.End<=c.Data.length/\c.Data.length<=1048576)/\(0<=c.Depth/\c.Depth<=1048576)/\(0<=c.Nodes/\c.Nodes<=1099511627776)/\0<=c.Text/\c.Text<=1099511627776
def PH (c:aN):Str:=(c.Data.take c.End.toNat).drop c.At.toNat
theorem ZM {c:aN}(h:ng c):((PH c).length:Int)=c.End - c.At:=by
 obtain⟨⟨h1,h2,h3,h4⟩,_⟩:=h;unfold PH;rw[Nk,uw];omega
theorem NR {c:aN}(h:ng c):MG c=true:=by
 obtain⟨⟨h1,h2,h3,h4⟩,_⟩:=h;unfold MG aid;simp only[bV,lh,aV];rw[uu h1,uu h2,uu h3];rfl
theorem qX {c:aN}(h:ng c):uF c=c.End - c.At:=by
 have hs:=NR h;obtain⟨⟨h1,h2,h3,h4⟩,_⟩:=h;unfold uF art;simp only[bV,aV,hs,Qcn,pO];exact gz (k:= .i64) BZ
theorem GI {c:aN}(h:ng c){n:Int}(h0:0<=n)(h1:n<=c.End - c.At):rG c n=aN.mk c.Data (c.At+n) c.End c.Depth c.Nodes c.Text/\ng (rG c n):=by
 obtain⟨⟨k1,k2,k3,k4⟩,k5⟩:=h;have e:rG c n=aN.mk c.Data (c.At+n) c.End c.Depth c.Nodes c.Text:=by
  unfold rG agY;simp only[aV];rw[gz (k:= .i64) BZ]
 rw[e];exact⟨rfl,⟨by show 0<=c.At+n;omega,by show c.At+n<=c.End;omega,k3,k4⟩,k5⟩
def akH (c:aN)(n:Int):Pg (List UInt8):=.br (!MG c) (.ret []) (.lt (dB .i64 (c.At+n)) fun(v1:Int)=> .ob (0<=c.At/\c.At<=min c.End v1/\min c.End v1<=(↑(List.length c.Data):Int)) (.ret (List.drop c.At.toNat (List.take (min c.End v1).toNat c.Data))))
def rP (c:aN)(n:Int):=(akH c n).val
theorem aqQ (c:aN)(n:Int)(h:ng c/\0<=n/\n<=1000):Is (akH c n):=
 dM iR (fun _=>uj fun v1 hv1 _=>aX (by obtain⟨⟨⟨h1,h2,h3,h4⟩,_⟩,h5,h6⟩:=h;omega) (aU))
def ajN:aS Z:=E1 [V8] [] (aj (aF dN) (a1 (bu cI))) (R1 cStr) [] func348 1 (u2 akH) (fun a=>ng a.1/\0<=a.2/\a.2<=1000) fun a h=>aqQ a.1 a.2 h
theorem adI {c:aN}(h:ng c){n:Nat}(h6:n<=1000):rP c n=(PH c).take n:=by
 have hs:=NR h;obtain⟨⟨h1,h2,h3,h4⟩,_⟩:=h;unfold rP akH PH;simp only[bV,dJ,dP,aV,hs,Qcn,pO];rw[gz (k:= .i64) BZ,List.take_drop];congr 1;rw[Qda];congr 1;omega
def ake (c:aN):Pg (Int×aN×Int):=.lt (uF c) fun(v1:Int)=> .br (decide (v1 < 1)) (.ret (0,c,4)) (.ix c.At (List.length c.Data) (.ret ((↑(List.getD c.Data c.At.toNat 0).toNat:Int),rG c 1,0)))
def IL (c:aN):=(ake c).val
theorem ato (c:aN)(h:ng c):Is (ake c):=
 dF fun v1 hv1=>gu iR (fun h2=>by rw[hv1,qX h]at h2;obtain⟨⟨k1,k2,k3,k4⟩,_⟩:=h;exact dR au au aU)
def azC:aS Z:=E1 [yY,JF] [] (a1 (aF dN)) (shr [s0 0, .slot 1 true (nn 6), s0 2] (az (fO .u8) (az dN (l1 cI)))) [] func355 3 ake (fun a=>ng a) fun a h=>ato a h
def Rz (c:aN):Pg (Int×aN×Int):=.ob (ng c/\(0:Int)<=10/\(10:Int)<=1000) (.lt (wC (rP c 10)) fun(v1:Int×Int×Int)=> .br (v1.2.2 !=0) (.ret (0,c,v1.2.2)) (.ret (v1.1,rG c v1.2.1,0)))
def bG (c:aN):=(Rz c).val
theorem agT (c:aN)(h:ng c):Is (Rz c):=
 aX ((⟨h,by decide,by decide⟩)) (dF fun v1 hv1=>jQ iR iR)
def Az:aS Z:=E1 [ay7,ajN,JF] [] (a1 (aF dN)) (shr [s0 0, .slot 1 true (nn 6), s0 2] (az (fO .u64) (az dN (l1 cI)))) [] func257 3 Rz (fun a=>ng a) fun a h=>agT a h
def ahE (c:aN)(n:Int):Pg (aN×Int):=.br (decide (n < 0)) (.ret (c,1)) (.br (decide (c.Nodes < n)) (.ret (c,3)) (.ret (aN.mk c.Data c.At c.End c.Depth (dB .i64 (c.Nodes - n)) c.Text,0)))
def rJ (c:aN)(n:Int):=(ahE c n).val
def afl:aS Z:=E0 [] [] (aj (aF dN) (a1 (bu cI))) (shr [.slot 0 true (nn 6), s0 1] (az dN (l1 cI))) [] func186 2 (u2 ahE)
def agF (c:aN)(n:Int):Pg (aN×Int):=.br (decide (n < 0)) (.ret (c,1)) (.lt (uF c) fun(v1:Int)=> .br (decide (v1 < n)) (.ret (c,4)) (.br (decide (c.Depth < 1)) (.ret (c,17)) (.ret (aN.mk c.Data c.At (dB .i64 (c.At+n)) (dB .i64 (c.Depth - 1)) c.Nodes c.Text,0))))
def Si (c:aN)(n:Int):=(agF c n).val
def atI:aS Z:=E0 [yY] [] (aj (aF dN) (a1 (bu cI))) (shr [.slot 0 true (nn 6), s0 1] (az dN (l1 cI))) [] func399 2 (u2 agF)
def aht (c:aN)(inner:aN):Pg aN:=.br (!MG c) (.ret c) (.br (decide (inner.End < c.At)) (.ret c) (.br (decide (c.End < inner.End)) (.ret c) (.br (decide (inner.Nodes < 0)) (.ret c) (.br (decide (c.Nodes < inner.Nodes)) (.ret c) (.ret (aN.mk c.Data inner.End c.End c.Depth inner.Nodes c.Text))))))
def Gx (c:aN)(inner:aN):=(aht c inner).val
def aqp:aS Z:=E0 [V8] [] (aj (aF dN) (a1 (aF dN))) (shr [.slot 0 true (nn 6)] (l1 dN)) [] func400 1 (u2 aht)
def DV (k:Int)(c d:aN):Prop:=ng d/\d.Data=c.Data/\d.End=c.End/\d.Depth=c.Depth/\d.Text=c.Text/\d.Nodes<=c.Nodes/\c.At+k<=d.At
theorem GY {c:aN}(h:ng c){n k:Int}(h0:0<=n)(h1:n<=c.End - c.At)(hk:k<=n):DV k c (rG c n):=by
 obtain⟨e,q⟩:=GI h h0 h1;rw[e]at q⊢;exact⟨q,rfl,rfl,rfl,rfl,Qb2 _,by show c.At+k<=c.At+n;omega⟩
theorem j_ {a b:Int}{c d e:aN}(h1:DV a c d)(h2:DV b d e):DV (a+b) c e:=by
 obtain⟨_,p2,p3,p4,p5,p6,p7⟩:=h1;obtain⟨q1,q2,q3,q4,q5,q6,q7⟩:=h2;exact⟨q1,q2.trans p2,q3.trans p3,q4.trans p4,q5.trans p5,by omega,by omega⟩
theorem kK {a b:Int}{c d:aN}(h:DV a c d)(hb:b<=a):DV b c d:=by
 obtain⟨p1,p2,p3,p4,p5,p6,p7⟩:=h;exact⟨p1,p2,p3,p4,p5,p6,by omega⟩
theorem kG {a:Int}:(a !=0)=false ↔ a=0:=by simp
theorem lu {c:aN}(h:ng c):lS (bG c).1/\((bG c).2.2=0->DV 1 c (bG c).2.1/\(bG c).2.1.Nodes=c.Nodes):=by
 have k:=aoU (rP c 10);have hl:=ZM h;have eh:=adI h (n:=10) nG;unfold bG Rz;simp only[dP,dJ,bV,aV];cases e:(wC (rP c 10)).2.2 !=0 with
 | true=>
  refine⟨by show(0:Int)<=0/\(0:Int) < 18446744073709551616;decide,fun h0=> ?_⟩;have h0:(wC (rP c 10)).2.2=0:=h0;rw[h0]at e;cases e
 | false=>
  have e0:=kG.1 e;refine⟨k.1,fun _=> ?_⟩;have hlen:(rP c 10).length<=(PH c).length:=by
   rw[show rP c 10=(PH c).take 10 from eh,uw];omega
  refine⟨GY h k.2.1 (by have:=k.2.2.1;omega) (k.2.2.2.2 e0),rfl⟩
def afy (s:Str):Pg (Int×Int):=.br (decide ((↑(List.length s):Int) < 8)) (.ret (0,4)) (.cnt qi 0 8 (fun(i1 y2:Int)=> .ix i1 (List.length s) (.lt (dB .i64 (8*i1)) fun(v3:Int)=> .ob (0<=v3) (rl (orI .u64 y2 (XG .u64 (dB .u64 (↑(List.getD s i1.toNat 0).toNat:Int)) v3))))) (fun(i1 y2:Int)=> .ret (y2,0)) 0)
def EW (s:Str):=(afy s).val
theorem aoO (s:Str):Is (afy s):=
 gu iR (fun _=>TG au au (fun i1 y2 _ _=>dR au au (uj fun v3 hv3 _=>aX au (aU))) (fun i1 y2 _ _=>aU))
def azF:aS Z:=E0 [] [jS 5 (bU (fun sl=>[s0 9, s0 4]) (az cI (l1 (fO .u64))))] (a1 (bu cStr)) (shr [s0 0, s0 1] (az (fO .u64) (l1 cI))) [] func403 2 afy fun a=>aoO a
def U6 (c:aN):Pg (Int×aN×Int):=.ob (ng c/\(0:Int)<=8/\(8:Int)<=1000) (.lt (EW (rP c 8)) fun(v1:Int×Int)=> .br (v1.2 !=0) (.ret (0,c,v1.2)) (.ret (v1.1,rG c 8,0)))
def yX (c:aN):=(U6 c).val
theorem am9 (c:aN)(h:ng c):Is (U6 c):=
 aX ((⟨h,by decide,by decide⟩)) (dF fun v1 hv1=>jQ iR iR)
def aex:aS Z:=E1 [ajN,JF,azF] [] (a1 (aF dN)) (shr [s0 0, .slot 1 true (nn 6), s0 2] (az (fO .u64) (az dN (l1 cI)))) [] func361 3 U6 (fun a=>ng a) fun a h=>am9 a h
def abN (c:aN)(n:Int):Pg (List Int):=.lt (dB .i64 (c.At+n)) fun(v1:Int)=> .ob (0<=c.At/\c.At<=v1/\v1<=(↑(List.length c.Data):Int)) (.ob (0<=n/\n=n/\n<=(↑(Vx (List.drop c.At.toNat (List.take v1.toNat c.Data))).length:Int)) (.ret (List.take n.toNat (Vx (List.drop c.At.toNat (List.take v1.toNat c.Data))))))
def aa2 (c:aN)(n:Int):=(abN c n).val
theorem an1 (c:aN)(n:Int)(h:ng c/\0<=n/\n<=c.End - c.At):Is (abN c n):=
 uj fun v1 hv1 _=>aX (by obtain⟨⟨⟨h1,h2,h3,h4⟩,_⟩,h5,h6⟩:=h;omega) (aX (by obtain⟨⟨⟨h1,h2,h3,h4⟩,_⟩,h5,h6⟩:=h;rw[zF,Nk,uw];omega) (aU))
def apU:aS Z:=E1 [] [] (aj (aF dN) (a1 (bu cI))) (R1 OU) [] func430 1 (u2 abN) (fun a=>ng a.1/\0<=a.2/\a.2<=a.1.End - a.1.At) fun a h=>an1 a.1 a.2 h
def aen (c:aN)(n:Int):Pg (List UInt8×aN×Int):=.br (decide (n < 0)) (.ret ([],c,1)) (.lt (uF c) fun(v1:Int)=> .br (decide (v1 < n)) (.ret ([],c,4)) (.br (decide (c.Text < n)) (.ret ([],c,3)) (.br (n==0) (.ret ([],c,0)) (.ob (ng c/\0<=n/\n<=c.End - c.At) (.lt (aa2 c n) fun(v2:List Int)=> .ob (I5 (fun(i:Nat)=>true) v2.length=true) (.ret (txU v2,rG c n,0)))))))
def zM (c:aN)(n:Int):=(aen c n).val
theorem apt (c:aN)(n:Int)(h:ng c):Is (aen c n):=
 gu iR (fun _=>dF fun v1 hv1=>gu iR (fun _=>gu iR (fun _=>oI iR (fun _=>aX ((⟨h,by omega,by rw[<-qX h];omega⟩)) (dF fun v2 hv2=>aX (xq (fun _=>rfl) _) (aU))))))
def ay1:aS Z:=E1 [yY,JF,apU] [] (aj (aF dN) (a1 (bu cI))) (shr [s0 0, .slot 1 true (nn 6), s0 2] (az cStr (az dN (l1 cI)))) [] func401 3 (u2 aen) (fun a=>ng a.1) fun a h=>apt a.1 a.2 h
theorem atP {c:aN}(h:ng c){v2:Int×aN×Int}(hv2:v2=bG c)(h0:v2.2.2=0){v3 v4 v5:Int}(hv3:v3=dB .u64 (uF v2.2.1))(hv4:v4=dB .i64 v2.1)(hv5:v5=dB .i64 (v2.2.1.At+v4))(hle:¬v3 < v2.1):0<=v2.2.1.At/\v2.2.1.At<=v5/\v5<=(v2.2.1.Data.length:Int):=by
 obtain⟨ku,k⟩:=lu h;rw[<-hv2]at ku k;obtain⟨⟨k1,_⟩,_⟩:=k h0;have kl:=qX k1;obtain⟨⟨q1,q2,q3,q4⟩,_⟩:=k1;obtain⟨u1,u2⟩:=ku;rw[kl,gz (k:= .u64) BZ]at hv3;rw[gz (k:= .i64) BZ]at hv4;rw[gz (k:= .i64) BZ]at hv5;omega
def ayc (c:aN):Pg (Int×Int×aN×Int):=.ob (ng c) (.lt (bG c) fun(v1:Int×aN×Int)=> .br (v1.2.2 !=0) (.ret (0,0,c,v1.2.2)) (.ob ((8:Int)≠0) (.br (v1.1.tmod (8:Int)==7) (.ret (0,0,c,5)) (.ob ((8:Int)≠0) (.lt (dB .u64 (v1.1.tdiv 8)) fun(v2:Int)=> .br (decide (v2 < 1)) (.ret (0,0,c,6)) (.ob ((8:Int)≠0) (.br (decide (65535 < v2)) (.ret (0,0,c,6)) (.ob ((8:Int)≠0) (.ob ((8:Int)≠0) (.ret (dB .i64 v2,dB .i64 (v1.1.tmod 8),v1.2.1,0)))))))))))
def uB (c:aN):=(ayc c).val
def ag1:aS Z:=E1 [Az] [] (a1 (aF dN)) (shr [s0 0, s0 1, .slot 2 true (nn 6), s0 3] (az cI (az cI (az dN (l1 cI))))) [] func188 4 ayc fun a=>ng a
def afc (c:aN)(wire:Int):Pg (List UInt8×aN×Int):=.ob (ng c) (.lt (bG c) fun(v2:Int×aN×Int)=> .br (v2.2.2 !=0) (.ret ([],c,v2.2.2)) (.cut (fun(y1:Int)=> .lt (dB .u64 (uF v2.2.1)) fun(v3:Int)=> .br (decide (v3 < v2.1)) (.ret ([],c,4)) (.lt (dB .i64 v2.1) fun(v4:Int)=> .br (decide (y1 < v4)) (.ret ([],c,3)) (.lt (dB .i64 (v2.2.1.At+v4)) fun(v5:Int)=> .ob (0<=v2.2.1.At/\v2.2.1.At<=v5/\v5<=(↑(List.length v2.2.1.Data):Int)) (.ret (List.drop v2.2.1.At.toNat (List.take v5.toNat v2.2.1.Data), aN.mk v2.2.1.Data v5 v2.2.1.End v2.2.1.Depth v2.2.1.Nodes v2.2.1.Text,0))))) (.br (wire==3) (rl c.Text) (rl 65536))))
def BP (c:aN)(wire:Int):=(afc c wire).val
theorem asf (c:aN)(wire:Int)(h:ng c):Is (afc c wire):=
 aX (h) (dF fun v2 hv2=>jQ iR (fun _=>qM (oI iR iR) (fun y1 hy1=>dF fun v3 hv3=>gu iR (fun _=>uj fun v4 hv4 _=>gu iR (fun _=>uj fun v5 hv5 _=>aX ((atP h hv2 au hv3 hv4 hv5 au)) (aU))))))
def azO:aS Z:=E1 [yY,Az] [jS 100007 (bU (fun sl=>[s0 10]) (l1 cI))] (aj (aF dN) (a1 (bu cI))) (shr [s0 0, .slot 1 true (nn 6), s0 2] (az cStr (az dN (l1 cI)))) [] func362 3 (u2 afc) (fun a=>ng a.1) fun a h=>asf a.1 a.2 h
theorem ad2 {s:Str}(h:(EW s).2=0):8<=s.length:=by
 rcases Qdf s.length 8 with h8 | h8
 ·unfold EW afy at h;simp only[bV,aV]at h;rw[uu (show(s.length:Int) < 8 by omega)]at h;cases h
 ·exact h8
theorem UX {c:aN}(h:ng c)(h0:(yX c).2.2=0):DV 1 c (yX c).2.1/\(yX c).2.1.Nodes=c.Nodes:=by
 have hl:=ZM h;have eh:=adI h (n:=8) nG;unfold yX U6 at h0⊢;simp only[dP,dJ,bV,aV]at h0⊢;cases e:(EW (rP c 8)).2 !=0 with
 | true=>
  rw[e]at h0;have h0:(EW (rP c 8)).2=0:=h0;rw[h0]at e;cases e
 | false=>
  have h8:=ad2 (kG.1 e);have hlen:(rP c 8).length<=(PH c).length:=by
   rw[show rP c 8=(PH c).take 8 from eh,uw];omega
  exact⟨GY h nG au nG,rfl⟩
theorem am7 {c:aN}(h:ng c){n:Int}(h0:(zM c n).2.2=0):DV 0 c (zM c n).2.1/\(zM c n).2.1.Nodes=c.Nodes/\(0<=n/\n<=c.End - c.At)/\(zM c n).2.1.At=c.At+n:=by
 have hl:=qX h;unfold zM aen at h0⊢;simp only[dP,dJ,bV,aV]at h0⊢;by_cases h1:n < 0
 ·rw[uu h1]at h0;cases h0
 rw[qy h1]at h0⊢;by_cases h2:uF c < n
 ·rw[uu h2]at h0;cases h0
 rw[qy h2]at h0⊢;by_cases h3:c.Text < n
 ·rw[uu h3]at h0;cases h0
 rw[qy h3];rw[hl]at h2;cases h4:n==0 with
 | true=>
  have h4:n=0:=by simpa using h4
  subst h4;exact⟨⟨h,rfl,rfl,rfl,rfl,Qb2 _,by show c.At+0<=c.At;omega⟩,rfl,⟨Qb2 _,by omega⟩,by show c.At=c.At+0;omega⟩
 | false=>
  refine⟨GY h au au au,rfl,⟨by omega,by omega⟩,?_⟩;show(rG c n).At=_
  rw[(GI h (n:=n) au au).1]
theorem Bc {c:aN}(h:ng c)(h0:(uB c).2.2.2=0):DV 1 c (uB c).2.2.1/\(uB c).2.2.1.Nodes=c.Nodes:=by
 obtain⟨_,k⟩:=lu h;unfold uB ayc at h0⊢;simp only[dP,dJ,bV,aV]at h0⊢;cases e:(bG c).2.2 !=0 with
 | true=>
  rw[e]at h0;have h0:(bG c).2.2=0:=h0;rw[h0]at e;cases e
 | false=>
  rw[e]at h0;simp only[pO]at h0⊢;cases e2:(bG c).1.tmod 8==7 with
  | true=>rw[e2]at h0;cases h0
  | false=>
   rw[e2]at h0;simp only[pO]at h0⊢;by_cases e3:dB .u64 ((bG c).1.tdiv 8) < 1
   ·rw[uu e3]at h0;cases h0
   ·rw[qy e3]at h0⊢;by_cases e4:65535 < dB .u64 ((bG c).1.tdiv 8)
    ·rw[uu e4]at h0;cases h0
    ·rw[qy e4];exact k (kG.1 e)
theorem aos {c:aN}(h:ng c){wire:Int}(h0:(BP c wire).2.2=0):DV 1 c (BP c wire).2.1/\(BP c wire).2.1.Nodes=c.Nodes:=by
 obtain⟨ku,k⟩:=lu h;unfold BP afc at h0⊢;simp only[dP,dJ,bV,aV,nJ]at h0⊢;cases e:(bG c).2.2 !=0 with
 | true=>
  rw[e]at h0;have h0:(bG c).2.2=0:=h0;rw[h0]at e;cases e
 | false=>
  obtain⟨ka,kn⟩:=k (kG.1 e);have kok:=ka.1;have kl:=qX kok;have hw:thenS (bif wire==3 then(Sum.inl c.Text:Int⊕(Str×aN×Int))else Sum.inl 65536)=thenS (.inl (bif wire==3 then c.Text else 65536)):=by cases wire==3<;>rfl
  rw[e]at h0;simp only[pO]at h0⊢;rw[hw]at h0⊢;simp only[qE]at h0⊢;obtain⟨⟨q1,q2,q3,q4⟩,q5⟩:=kok;obtain⟨u1,u2⟩:=ku;rw[kl,gz (k:= .u64) BZ]at h0⊢;by_cases e2:(bG c).2.1.End - (bG c).2.1.At < (bG c).1
  ·rw[uu e2]at h0;cases h0
  rw[qy e2]at h0⊢;rw[gz (k:= .i64) BZ]at h0⊢;by_cases e3:(bif wire==3 then c.Text else 65536) < (bG c).1
  ·rw[uu e3]at h0;cases h0
  rw[qy e3];simp only[pO];rw[gz (k:= .i64) BZ];obtain⟨_,p2,p3,p4,p5,p6,p7⟩:=ka;exact⟨⟨⟨⟨by show 0<=(bG c).2.1.At+(bG c).1;omega,by show(bG c).2.1.At+(bG c).1<=(bG c).2.1.End;omega,q3,q4⟩,q5⟩,p2,p3,p4,p5,p6,by show c.At+1<=(bG c).2.1.At+(bG c).1;omega⟩,kn⟩
def Au (c:aN)(f:Raw):Pg (aN×Int×Raw):=.cut (fun(y1:Bool)=> .br y1 (.ob (ng c) (.lt (bG c) fun(v2:Int×aN×Int)=> .ret (v2.2.1,v2.2.2,Raw.mk f.Num f.eU v2.1 f.Data))) (.br (f.eU==2) (.ob (ng c) (.lt (yX c) fun(v3:Int×aN×Int)=> .ret (v3.2.1,v3.2.2,Raw.mk f.Num f.eU v3.1 f.Data))) (.ob (ng c) (.lt (BP c f.eU) fun(v4:Str×aN×Int)=> .ret (v4.2.1,v4.2.2,Raw.mk f.Num f.eU f.Bits v4.1))))) (.br (f.eU==0) (rl (f.eU==0)) (rl (f.eU==1)))
def iU (c:aN)(f:Raw):=(Au c f).val
def adn:aS Z:=Ee [Az,aex,azO] [jS 100006 (bU (fun sl=>[s0 24]) (l1 aH))] (aj (aF dN) (a1 (iQ 0))) (b1 (aP oq)) (shr [.slot 0 true (nn 6), s0 1, .cells 0 (nn 4)] (az dN (az cI (l1 oq)))) [] func264 2 (u11 Au) fun a=>ng a.1.1
theorem aho {c:aN}(h:ng c){n:Int}(h0:(rJ c n).2=0):rJ c n=(aN.mk c.Data c.At c.End c.Depth (c.Nodes - n) c.Text,0)/\0<=n/\n<=c.Nodes:=by
 obtain⟨q1,q2,⟨q3,q4⟩,q5⟩:=h;unfold rJ ahE at h0⊢;simp only[bV,aV]at h0⊢;by_cases h1:n < 0
 ·rw[uu h1]at h0;cases h0
 rw[qy h1]at h0⊢;by_cases h2:c.Nodes < n
 ·rw[uu h2]at h0;cases h0
 rw[qy h2];have w:dB .i64 (c.Nodes - n)=c.Nodes - n:=gz (k:= .i64) BZ;rw[w];exact⟨rfl,by omega,by omega⟩
theorem xY {c:aN}(h:ng c){n:Int}(h0:(rJ c n).2=0):DV 0 c (rJ c n).1/\(rJ c n).1.Nodes=c.Nodes - n/\(rJ c n).1.At=c.At/\0<=n/\n<=c.Nodes:=by
 obtain⟨e,k1,k2⟩:=aho h h0;obtain⟨q1,q2,⟨q3,q4⟩,q5⟩:=h;rw[e];exact⟨⟨⟨q1,q2,⟨by show 0<=c.Nodes - n;omega,by show c.Nodes - n<=1099511627776;omega⟩,q5⟩,rfl,rfl,rfl,rfl,by show c.Nodes - n<=c.Nodes;omega,by show c.At+0<=c.At;omega⟩,rfl,rfl,k1,k2⟩
theorem Ig {c:aN}(h:ng c){f:Raw}(h0:(iU c f).2.1=0):DV 1 c (iU c f).1/\(iU c f).1.Nodes=c.Nodes:=by
 have hw:∀K:Bool->aN×Int×Raw,(thenS (bif f.eU==0 then(Sum.inl (f.eU==0):Bool⊕(aN×Int×Raw))else Sum.inl (f.eU==1)) K)=K (bif f.eU==0 then true else f.eU==1):=fun K=>by cases e:f.eU==0<;>rfl
 unfold iU Au at h0⊢;simp only[dP,dJ,bV,aV,nJ]at h0⊢;rw[hw]at h0⊢;cases e:(bif f.eU==0 then true else f.eU==1)with
 | true=>rw[e]at h0;exact(lu h).2 h0
 | false=>
  rw[e]at h0;cases e2:f.eU==2 with
  | true=>rw[e2]at h0;exact UX h h0
  | false=>rw[e2]at h0;exact aos h h0
def Yq (c:aN):Pg (Raw×aN×Int):=.ob (ng c) (.lt (uB c) fun(v1:Int×Int×aN×Int)=> .br (v1.2.2.2 !=0) (.ret (Raw.mk 0 0 0 [],c,v1.2.2.2)) (.lt (rJ v1.2.2.1 1) fun(v2:aN×Int)=> .br (v2.2 !=0) (.ret (Raw.mk 0 0 0 [],c,v2.2)) (.ob (ng v2.1) (.lt (iU v2.1 (Raw.mk v1.1 v1.2.1 0 [])) fun(v3:aN×Int×Raw)=> .br (v3.2.1 !=0) (.ret (Raw.mk 0 0 0 [],c,v3.2.1)) (.ret (v3.2.2,v3.1,0))))))
def wF (c:aN):=(Yq c).val
theorem aqu (c:aN)(h:ng c):Is (Yq c):=
 aX (h) (dF fun v1 hv1=>jQ iR (fun _=>dF fun v2 hv2=>jQ iR (fun _=>aX (by have k:=(Bc h (by rw[<-hv1];omega)).1.1;rw[<-hv1]at k;have k2:=(xY k (n:=1) (by rw[<-hv2];omega)).1.1;rw[<-hv2]at k2;exact k2) (dF fun v3 hv3=>jQ iR iR))))
def ayW:aS Z:=E1 [afl,ag1,adn] [] (a1 (aF dN)) (shr [.slot 0 true (nn 4), .slot 1 true (nn 6), s0 2] (az oq (az dN (l1 cI)))) [] func190 3 Yq (fun a=>ng a) fun a h=>aqu a h
theorem aog {c:aN}(h:ng c)(h0:(wF c).2.2=0):DV 2 c (wF c).2.1:=by
 have k:=Bc h;unfold wF Yq at h0⊢;simp only[dP,dJ,bV,aV]at h0⊢;generalize uB c=v1 at*;cases e:v1.2.2.2 !=0 with
 | true=>
  rw[e]at h0;have h0:v1.2.2.2=0:=h0;rw[h0]at e;cases e
 | false=>
  obtain⟨k1,k2⟩:=k (kG.1 e);rw[e]at h0;simp only[pO]at h0⊢;have s:=xY k1.1 (n:=1);generalize rJ v1.2.2.1 1=v2 at*;cases e2:v2.2 !=0 with
  | true=>
   rw[e2]at h0;have h0:v2.2=0:=h0;rw[h0]at e2;cases e2
  | false=>
   obtain⟨s1,_⟩:=s (kG.1 e2);rw[e2]at h0;simp only[pO]at h0⊢;have t:=Ig s1.1 (f:=Raw.mk v1.1 v1.2.1 0 []);generalize iU v2.1 (Raw.mk v1.1 v1.2.1 0 [])=v3 at*;cases e3:v3.2.1 !=0 with
   | true=>
    rw[e3]at h0;have h0:v3.2.1=0:=h0;rw[h0]at e3;cases e3
   | false=>exact kK (j_ k1 (j_ s1 (t (kG.1 e3)).1)) nG
def auw (g:bC)(name:Str):Pg Bool:=.ret (g.Name==name)
def aar (g:bC)(name:Str):=(auw g name).val
def afh:aS Z:=wZ [] [] (aj (aF iG) (a1 (iQ 0))) (b1 (aP cStr)) (R1 aH) [0] func126 1 (u11 auw)
def yl:aS Z:=Ir [afh] jo 126 [0] (b1 (aP cStr)) func125 bW fun x b=>aar x b
def asN (p:dD)(name:Str):Pg (Int×Bool):=.lt (h_ (fun(x:bC)=>aar x name) p.a_) fun(v1:Int)=> .ret (max v1 0,decide (0<=v1))
def zT (p:dD)(name:Str):=(asN p name).val
def aaT:aS Z:=E0 [yl,afh] [] (aj (aF dX) (a1 (bu cStr))) (shr [s0 0, s0 1] (az cI (l1 aH))) [] func78 2 (u2 asN)
def aGl (o:Op)(num:Int):Pg Bool:=.ret (o.Num==num)
def adL (o:Op)(num:Int):=(aGl o num).val
def agA:aS Z:=wZ [] [] (aj (aF ji) (a1 (iQ 0))) (b1 (aP cI)) (R1 aH) [0] func268 1 (u11 aGl)
def Nz:aS Z:=Ir [agA] nR 268 [0] (b1 (aP cI)) func364 AQ fun x b=>adL x b
def ajC (g:bC)(num:Int):Pg (Op×Bool):=.lt (h_ (fun(x:Op)=>adL x num) g.Ops) fun(v1:Int)=> .br (decide (v1 < 0)) (.ret (Op.mk 0 [] [] 0 0 0 0 0,false)) (.ix v1 g.Ops.length (.ret (g.Ops.getD v1.toNat AQ,true)))
def apN (g:bC)(num:Int):=(ajC g num).val
theorem arP (g:bC)(num:Int):Is (ajC g num):=
 dF fun v1 hv1=>gu iR (fun _=>dR au (by rw[hv1];exact(nK (fun(x:Op)=>adL x num) g.Ops).1) aU)
def ayL:aS Z:=wZ [agA,Nz] [] (aj (aBW 268 [0]) (a1 (aF iG))) (b1 (aP cI)) (shr [.slot 0 true (nn 8), s0 1] (az ji (l1 aH))) [0] func269 2 (fun a=>ajC a.1.2 a.2) fun a=>arP a.1.2 a.2
def pOp (g:bC)(num:Int):Pg (Op×Bool):=.ret (apN g num)
def lQ (g:bC)(num:Int):=(pOp g num).val
def O9:aS Z:=E0 [agA,ayL] [] (aj (aF iG) (a1 (bu cI))) (shr [.slot 0 true (nn 8), s0 1] (az ji (l1 aH))) [] func194 2 (u2 pOp)
def aAS (it:Item)(num:Int):Pg Bool:=.ret (dB .u64 it.Num==num)
def agm (it:Item)(num:Int):=(aAS it num).val
def acd:aS Z:=wZ [] [] (aj (aF lZ) (a1 (iQ 0))) (b1 (aP (fO .u64))) (R1 aH) [0] func388 1 (u11 aAS)
def Ku:aS Z:=Ir [acd] ig 388 [0] (b1 (aP (fO .u64))) func243 o5 fun x b=>agm x b
def LU:aS Z:=EAB [Ku,acd] ig 388 [0] (b1 (aP (fO .u64))) func163 fun x b=>agm x b
def aIs (p:dD)(enum:Int)(num:Int):Pg Bool:=.br (decide (enum < 0)) (.ret false) (.br (decide ((↑p.Enums.length:Int)<=enum)) (aL p.Enums (.ret false)) (aL p.Enums (.br (decide (2147483647 < num)) (.ret false) (.ix enum p.Enums.length (.br (p.Enums.getD enum.toNat nO).Open (.ret true) (.ret ((p.Enums.getD enum.toNat nO).Items.any fun(x:Item)=>agm x num)))))))
def amd (p:dD)(enum:Int)(num:Int):=(aIs p enum num).val
def ah8:aS Z:=E0 [LU,acd] [] (aj (aF dX) (aj (bu cI) (a1 (bu (fO .u64))))) (R1 aH) [] func326 1 (u3 aIs)
def al5 (o:Op):Pg Bool:=.br (o.Card==4) (.br (decide (1<=o.Kind)) (.br (decide (o.Kind<=6)) (.ret true) (.ret (o.Kind==9))) (.ret (o.Kind==9))) (.ret false)
def kW (o:Op):=(al5 o).val
def xk:aS Z:=E0 [] [] (a1 (aF ji)) (R1 aH) [] func259 1 al5
def aAl (o:Op):Pg Int:=.br (o.Card==5) (.ret 6) (.br (kW o) (.ret 5) (.cut (fun(y1:Bool)=> .br y1 (.ret 0) (.cut (fun(y2:Bool)=> .br y2 (.ret 1) (.br (o.Kind==6) (.ret 2) (.br (o.Kind==7) (.br (o.Kind==7) (.ret 3) (.br (o.Kind==10) (.ret 4) (.ret (-1)))) (.br (o.Kind==8) (.ret 3) (.br (o.Kind==10) (.ret 4) (.ret (-1))))))) (.br (o.Kind==2) (rl (o.Kind==2)) (rl (o.Kind==3))))) (.br (o.Kind==1) (rl (o.Kind==1)) (.br (o.Kind==4) (rl (o.Kind==4)) (.br (o.Kind==5) (rl (o.Kind==5)) (rl (o.Kind==9)))))))
def aiz (o:Op):=(aAl o).val
def ajo:aS Z:=E0 [xk] [jS 100010 (bU (fun sl=>[s0 12]) (l1 aH)),jS 100013 (bU (fun sl=>[s0 17]) (l1 aH))] (a1 (aF ji)) (R1 cI) [] func356 1 aAl
def aAF (o:Op):Pg Int:=.ret (aiz (Op.mk o.Num o.Name o.Alias 2 o.Key o.Kind o.Target o.Union))
def Ed (o:Op):=(aAF o).val
def KP:aS Z:=E0 [ajo] [] (a1 (aF ji)) (R1 cI) [] func261 1 aAF
def aoZ (v:af)(num:Int):Pg (af×Bool):=aL v.Slots (.each false wB v.Slots bK (fun i1 a3 (y2:Unit)=> .ix i1 v.Slots.length (.br (a3.Num==num) (.ret (.inr (a3.Val.re,true))) (rl ()))) (fun i1 (y2:Unit)=> .ret (af.mk 0 0 [] [] [] [] [],false)) ())
def f_ (v:af)(num:Int):=(aoZ v num).val
def KC:aS Z:=E0 [] [jS 2 (bU (fun sl=>[s0 11]) (l1 cI))] (aj (aF aI) (a1 (bu cI))) (shr [.slot 0 true (nn 7), s0 1] (az aI (l1 aH))) [] func127 2 (u2 aoZ)
def aiQ (x:af):Pg (List af):=.br (x.Kind==11) (.ret x.List) (.br (x.Kind==12) (aL x.Pairs (.each false qi x.Pairs gJ (fun i1 a3 (y2:List af)=> .ix i1 x.Pairs.length (.ob (bQ (y2.length+1) 128) (rl (y2++[a3.Val.re])))) (fun i1 (y2:List af)=> .ret y2) [])) (.ret [x.re]))
def ayz (x:af):=(aiQ x).val
theorem SN (x:af)(h:x.Pairs.length<=1048576):jF (aiQ x) (fun r=>∀y∈r,y∈x.List\/(∃p∈x.Pairs,y=p.Val)\/y=x):=
 dI (fun _=>ah qal) (fun _=>dI (fun _=>dm <| cZ (fun(i1:Nat) y2=>y2.length<=i1/\∀z∈y2,∃p∈x.Pairs,z=p.Val) (by exact⟨l9 0,fun _ hz=>absurd hz qa2⟩) au (fun i1 y2 rC rZ=>have hI:y2.length<=i1/\∀z∈y2,∃p∈x.Pairs,z=p.Val:=rZ;aZ au au (ak (qbk) (ah qal))) (fun y2 hI=>have hI:y2.length<=x.Pairs.length/\∀z∈y2,∃p∈x.Pairs,z=p.Val:=hI;ah qal)) (fun _=>ah qal))
def aql:aS Z:=E1 [] [jS 7 (bU (fun sl=>[s0 17, .slot 3 false [some 84]]) (az cI (l1 jd)))] (a1 (aF aI)) (R1 jd) [] func128 1 aiQ (fun a=>a.Pairs.length<=1048576) fun a h=>(SN a h).1
end
end Go.Proofs.YtmadgoehmjmlmaaGreatDoor
