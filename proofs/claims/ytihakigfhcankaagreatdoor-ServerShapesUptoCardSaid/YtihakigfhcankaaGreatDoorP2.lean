/- Server: what check asks of fields. -/
import Derived.Test.YtihakigfhcankaaGreatDoorP1
import Derived.Test.YtihakigfhcankaaGreatDoorEng16
namespace Go.Proofs.YtihakigfhcankaaGreatDoor
noncomputable section
open Go.RowKit Go.Vc
open Tryz
set_option linter.unusedVariables false
set_option linter.unusedSimpArgs false
set_option maxRecDepth 100000
def aFk (x:aJ)(fl:List aJ)(fi:Int):Pg Bool:=.ix fi fl.length (.ret (asQ (aJ.mk x.Num x.Name x.Card x.Key x.eF x.Union x.dn x.Default.re x.Notes)== asQ (aJ.mk (fl.getD fi.toNat aN).Num (fl.getD fi.toNat aN).Name (fl.getD fi.toNat aN).Card (fl.getD fi.toNat aN).Key (fl.getD fi.toNat aN).eF (fl.getD fi.toNat aN).Union (fl.getD fi.toNat aN).dn (fl.getD fi.toNat aN).Default.re (fl.getD fi.toNat aN).Notes)))
def XC (x:aJ)(fl:List aJ)(fi:Int):=(aFk x fl fi).val
def ahd:aU Z:=EK [ZV] [] (aj (aF eG) (aj (iM 0) (aj (iM 1) (a1 (iM 2))))) (iC (bFn 164 []) (iC (aP gp) (b1 (aP cI)))) (R1 aG) [0,1,2] func242 1 (fun a=>aFk a.1.1 a.2.2.1 a.2.2.2) fun a=>0<=a.2.2.2/\a.2.2.2 < a.2.2.1.length
def aEJ (l:List aJ)(fl:List aJ)(fi:Int):Pg Int:=aL l (.each false tX l aN (fun i1 a3 (y2:Unit)=> .ix i1 l.length (.ix fi fl.length (.br (XC (aJ.mk a3.Num a3.Name a3.Card a3.Key a3.eF a3.Union a3.dn a3.Default.re a3.Notes) fl fi) (.ret (.inr i1)) (rl ())))) (fun i1 (y2:Unit)=> .ret (-1)) ())
theorem av1 (l:List aJ)(fl:List aJ)(fi:Int)(h:0<=fi/\fi < fl.length):Is (aEJ l fl fi):=
 iH fun _=>gU (.inr au) (fun i1 y2 _ _=>dm au au (dm au au (di iR iR))) (fun y2 _=>aT)
def UB:aU Z:=O6 [ahd] [jS 2 (bP (fun sl=>[s0 8]) (l1 cI))] (aj (bn gp) (a1 (kJ 242 [0,1,2]))) (iC (bFn 164 []) (iC (aP gp) (b1 (aP cI)))) (R1 cI) [0,1,2] func345 1 (fun a=>aEJ a.1.1 a.2.2.1 a.2.2.2) (fun a=>some (0<=a.2.2.2/\a.2.2.2 < a.2.2.1.length)) (fun a=>fG (fun(x:aJ)=>(XC x a.2.2.1 a.2.2.2)) a.1.1) fun a h=>⟨av1 a.1.1 a.2.2.1 a.2.2.2 h,(fun(l:List aJ) fl fi _=>o5 (fun(x:aJ)=>(XC x fl fi)) l 0) a.1.1 a.2.2.1 a.2.2.2 h⟩
def aFS (l:List aJ)(fl:List aJ)(fi:Int):Pg Bool:=.ix fi fl.length (.lt (fG (fun(x:aJ)=>XC x fl fi) l) fun(v1:Int)=> .ret (decide (0<=v1)))
theorem axu (l:List aJ)(fl:List aJ)(fi:Int)(h:0<=fi/\fi < fl.length):Is (aFS l fl fi):=
 dm au au (dB fun v1 hv1=>aT)
def ahn:aU Z:=O6 [ahd,UB] [] (aj (bn gp) (a1 (kJ 242 [0,1,2]))) (iC (bFn 164 []) (iC (aP gp) (b1 (aP cI)))) (R1 aG) [0,1,2] func241 1 (fun a=>aFS a.1.1 a.2.2.1 a.2.2.2) (fun a=>some (0<=a.2.2.2/\a.2.2.2 < a.2.2.1.length)) (fun a=>a.1.1.any fun(x:aJ)=>(XC x a.2.2.1 a.2.2.2)) fun a h=>⟨axu a.1.1 a.2.2.1 a.2.2.2 h,(fun(l:List aJ) fl fi _=>pY _ l) a.1.1 a.2.2.1 a.2.2.2 h⟩
def azi (l:List aJ)(i:Int):Pg Bool:=.ob ((0:Int)<=0/\0<=i/\i<=(↑l.length:Int)) (.ix i l.length (.ret ((List.take i.toNat l).any fun(x:aJ)=>XC x l i)))
def aBV (l:List aJ)(i:Int):=(azi l i).val
def axn:aU Z:=E1 [ZV,ahn,ahd] [] (aj (bn gp) (aj (bn cI) (a1 (kJ 164 [])))) (R1 aG) [] func163 1 (fun a=>azi a.1 a.2.1) fun a=>0<=a.2.1/\a.2.1 < a.1.length
def aEz (x:Item)(fl:List Item)(fi:Int):Pg Bool:=.ix fi fl.length (.ret (asi x==asi (fl.getD fi.toNat oU)))
def YR (x:Item)(fl:List Item)(fi:Int):=(aEz x fl fi).val
def ahk:aU Z:=EK [ZE] [] (aj (aF lS) (aj (iM 0) (aj (iM 1) (a1 (iM 2))))) (iC (bFn 113 []) (iC (aP g_) (b1 (aP cI)))) (R1 aG) [0,1,2] func172 1 (fun a=>aEz a.1.1 a.2.2.1 a.2.2.2) fun a=>0<=a.2.2.2/\a.2.2.2 < a.2.2.1.length
def aFw (l:List Item)(fl:List Item)(fi:Int):Pg Int:=aL l (.each false tX l oU (fun i1 a3 (y2:Unit)=> .ix i1 l.length (.ix fi fl.length (.br (YR a3 fl fi) (.ret (.inr i1)) (rl ())))) (fun i1 (y2:Unit)=> .ret (-1)) ())
theorem axb (l:List Item)(fl:List Item)(fi:Int)(h:0<=fi/\fi < fl.length):Is (aFw l fl fi):=
 iH fun _=>gU (.inr au) (fun i1 y2 _ _=>dm au au (dm au au (di iR iR))) (fun y2 _=>aT)
def MG:aU Z:=O6 [ahk] [jS 2 (bP (fun sl=>[s0 8]) (l1 cI))] (aj (bn g_) (a1 (kJ 172 [0,1,2]))) (iC (bFn 113 []) (iC (aP g_) (b1 (aP cI)))) (R1 cI) [0,1,2] func251 1 (fun a=>aFw a.1.1 a.2.2.1 a.2.2.2) (fun a=>some (0<=a.2.2.2/\a.2.2.2 < a.2.2.1.length)) (fun a=>fG (fun(x:Item)=>(YR x a.2.2.1 a.2.2.2)) a.1.1) fun a h=>⟨axb a.1.1 a.2.2.1 a.2.2.2 h,(fun(l:List Item) fl fi _=>o5 (fun(x:Item)=>(YR x fl fi)) l 0) a.1.1 a.2.2.1 a.2.2.2 h⟩
def aGp (l:List Item)(fl:List Item)(fi:Int):Pg Bool:=.ix fi fl.length (.lt (fG (fun(x:Item)=>YR x fl fi) l) fun(v1:Int)=> .ret (decide (0<=v1)))
theorem ayn (l:List Item)(fl:List Item)(fi:Int)(h:0<=fi/\fi < fl.length):Is (aGp l fl fi):=
 dm au au (dB fun v1 hv1=>aT)
def Nj:aU Z:=O6 [ahk,MG] [] (aj (bn g_) (a1 (kJ 172 [0,1,2]))) (iC (bFn 113 []) (iC (aP g_) (b1 (aP cI)))) (R1 aG) [0,1,2] func171 1 (fun a=>aGp a.1.1 a.2.2.1 a.2.2.2) (fun a=>some (0<=a.2.2.2/\a.2.2.2 < a.2.2.1.length)) (fun a=>a.1.1.any fun(x:Item)=>(YR x a.2.2.1 a.2.2.2)) fun a h=>⟨ayn a.1.1 a.2.2.1 a.2.2.2 h,(fun(l:List Item) fl fi _=>pY _ l) a.1.1 a.2.2.1 a.2.2.2 h⟩
def azO (l:List Item)(i:Int):Pg Bool:=.ob ((0:Int)<=0/\0<=i/\i<=(↑l.length:Int)) (.ix i l.length (.ret ((List.take i.toNat l).any fun(x:Item)=>YR x l i)))
def aB_ (l:List Item)(i:Int):=(azO l i).val
def awR:aU Z:=E1 [ZE,Nj,ahk] [] (aj (bn g_) (aj (bn cI) (a1 (kJ 113 [])))) (R1 aG) [] func112 1 (fun a=>azO a.1 a.2.1) fun a=>0<=a.2.1/\a.2.1 < a.1.length
def agN (card:Int)(key:Int):Pg Bool:=.br (card !=5) (.ret (key==0)) (.br (decide (1<=key)) (.br (decide (key<=7)) (.ret (key !=6)) (.ret false)) (.ret false))
def Jn (card:Int)(key:Int):=(agN card key).val
def atM:aU Z:=E0 [] [] (aj (bn cI) (a1 (bn cI))) (R1 aG) [] func165 1 (u2 agN)
def agZ (s:ay)(f:aJ):Pg Bool:=.lt (anL s f.eF.Name) fun(v1:dU×Bool)=> .lt (l_ s f.eF.Name) fun(v2:bg×Bool)=> .br (decide (1<=f.eF.Kind)) (.br (decide (f.eF.Kind<=8)) (.ret (f.eF.Name==[])) (.br (f.eF.Kind==9) (.ret v1.2) (.br (f.eF.Kind==10) (.br v2.2 (.ret (f.Card !=3)) (.ret false)) (.ret false)))) (.br (f.eF.Kind==9) (.ret v1.2) (.br (f.eF.Kind==10) (.br v2.2 (.ret (f.Card !=3)) (.ret false)) (.ret false)))
def QU (s:ay)(f:aJ):=(agZ s f).val
def aqa:aU Z:=E0 [wQ,aka] [] (aj (aF bC) (a1 (aF eG))) (R1 aG) [] func166 1 (u2 agZ)
def aza (v:af):Pg Bool:=.br (v.Kind==0) (.br (v.Bits==0) (.br (v.Text==[]) (aL v.List (aL v.Pairs (aL v.Slots (aL v.bJ (.ret (dD .i64 (dD .i64 (dD .i64 ((↑v.List.length:Int)+(↑v.Pairs.length:Int))+(↑v.Slots.length:Int))+(↑v.bJ.length:Int))== 0)))))) (.ret false)) (.ret false)) (.ret false)
def aDh (v:af):=(aza v).val
def awk:aU Z:=E0 [] [] (a1 (aF aI)) (R1 aG) [] func246 1 aza
def aFa (x:aJ)(f:aJ):Pg Bool:=.ret (x.Name==f.Union)
def atL (x:aJ)(f:aJ):=(aFa x f).val
def aft:aU Z:=vX [] [] (aj (aF eG) (a1 (iM 0))) (b1 (aP eG)) (R1 aG) [0] func244 1 (u11 aFa)
def abE:aU Z:=GG [aft] gp 244 [0] (b1 (aP eG)) func345 aN fun x b=>atL x b
def atI:aU Z:=EAB [aft,UB,abE] gp 244 [0] (b1 (aP eG)) func241 fun x b=>atL x b
def aGt (x:aJ)(f:aJ):Pg Bool:=.ret (x.Union==f.Union)
def atX (x:aJ)(f:aJ):=(aGt x f).val
def ahP:aU Z:=vX [] [] (aj (aF eG) (a1 (iM 0))) (b1 (aP eG)) (R1 aG) [0] func245 1 (u11 aGt)
def afv:aU Z:=GG [ahP] gp 245 [0] (b1 (aP eG)) func345 aN fun x b=>atX x b
def apc:aU Z:=EAB [ahP,UB,abE,afv] gp 245 [0] (b1 (aP eG)) func241 fun x b=>atX x b
def aaw (m:bg)(i:Int):Pg Bool:=.ix i m.Fields.length (.br ((m.Fields.getD i.toNat aN).Union==[]) (.ret true) (.br ((m.Fields.getD i.toNat aN).Card !=2) (.ret false) (.br (!abW (m.Fields.getD i.toNat aN).Union) (.ret false) (.br (m.Fields.any fun(x:aJ)=> atL x (aJ.mk (m.Fields.getD i.toNat aN).Num (m.Fields.getD i.toNat aN).Name (m.Fields.getD i.toNat aN).Card (m.Fields.getD i.toNat aN).Key (m.Fields.getD i.toNat aN).eF (m.Fields.getD i.toNat aN).Union (m.Fields.getD i.toNat aN).dn (m.Fields.getD i.toNat aN).Default.re (m.Fields.getD i.toNat aN).Notes)) (.ret false) (.ob ((0:Int)<=0/\0<=i/\i<=(↑m.Fields.length:Int)) (.br (!(List.take i.toNat m.Fields).any fun(x:aJ)=> atX x (aJ.mk (m.Fields.getD i.toNat aN).Num (m.Fields.getD i.toNat aN).Name (m.Fields.getD i.toNat aN).Card (m.Fields.getD i.toNat aN).Key (m.Fields.getD i.toNat aN).eF (m.Fields.getD i.toNat aN).Union (m.Fields.getD i.toNat aN).dn (m.Fields.getD i.toNat aN).Default.re (m.Fields.getD i.toNat aN).Notes)) (.ret true) (.lt (dD .i64 (i - 1)) fun(v1:Int)=> .ix v1 m.Fields.length (.ret ((m.Fields.getD v1.toNat aN).Union==(m.Fields.getD i.toNat aN).Union)))))))))
def apN (m:bg)(i:Int):=(aaw m i).val
theorem agr (m:bg)(i:Int)(h:0<=i/\i < m.Fields.length/\m.Fields.length<=1048576):Is (aaw m i):=
 by
 refine dm au au (di iR (fun _=>jG iR (fun _=>di iR (fun _=>di iR (fun _=>aX ⟨by omega,by omega,by omega⟩ (di iR (fun hb=> ?_)))))));have h0:0 < i:=by
  rcases Int.lt_or_le 0 i with h0 | h0
  ·exact h0
  ·rw[show i.toNat=0 by omega,List.take_zero]at hb;cases hb
 exact pK fun v1 hv1 h1=>dm au au aT
def alX:aU Z:=E1 [Qu,ahn,atI,apc,aft,ahP] [] (aj (aF gQ) (a1 (bn cI))) (R1 aG) [] func167 1 (u2 aaw) (fun a=>0<=a.2/\a.2 < a.1.Fields.length/\a.1.Fields.length<=1048576) fun a h=>agr a.1 a.2 h
def aFN (x:Item)(f:aJ):Pg Bool:=.ret (dD .u64 x.Num==f.Default.Bits)
def asy (x:Item)(f:aJ):=(aFN x f).val
def ahT:aU Z:=vX [] [] (aj (aF lS) (a1 (iM 0))) (b1 (aP eG)) (R1 aG) [0] func249 1 (u11 aFN)
def TC:aU Z:=GG [ahT] g_ 249 [0] (b1 (aP eG)) func251 oU fun x b=>asy x b
def Ru:aU Z:=EAB [ahT,MG,TC] g_ 249 [0] (b1 (aP eG)) func171 fun x b=>asy x b
def UG (s:ay)(f:aJ):Pg Bool:=.br (!f.dn) (.ret (aDh f.Default.re)) (.br (f.Card !=2) (.ret false) (.br (f.Union !=[]) (.ret false) (.br (!TU f.eF.Kind f.Default.re) (.ret false) (.br ((nK f.Default.re).Bits !=f.Default.Bits) (.ret false) (.br (f.eF.Kind !=9) (.ret true) (.lt (anL s f.eF.Name) fun(v1:dU×Bool)=> .br v1.2 (.ret (v1.1.Items.any fun(x:Item)=>asy x (aJ.mk f.Num f.Name f.Card f.Key f.eF f.Union f.dn f.Default.re f.Notes))) (.ret false)))))))
def aei (s:ay)(f:aJ):=(UG s f).val
def aaY:aU Z:=E0 [Nj,Ru,aka,awk,Qz,JF,ahT] [] (aj (aF bC) (a1 (aF eG))) (R1 aG) [] func168 1 (u2 UG)
def agM (m:bg):Pg (List Str):=aL m.Fields (.each false qw m.Fields aN (fun i1 a3 (y2:List Str)=> .ix i1 m.Fields.length (.br (a3.Card==1) (.br (a3.eF.Kind==10) (.ob (bT (y2.length+1) 16) (rl (y2++[a3.eF.Name]))) (rl y2)) (rl y2))) (fun i1 (y2:List Str)=> .ret y2) [])
def aim (m:bg):=(agM m).val
theorem af8 (m:bg)(h:m.Fields.length<=1048576):jP (agM m) (fun r=>r.length<=m.Fields.length):=
 bZ <| df (fun(i1:Nat) y2=>y2.length<=i1) oJ au (fun i1 y2 qP rD=>have hI:y2.length<=i1:=rD;bi au au (dO (fun _=>dO (fun _=>ak ((b_ au au)) (ah qa1)) (fun _=>ah qa1)) (fun _=>ah qa1))) (fun y2 hI=>have hI:y2.length<=m.Fields.length:=hI;ah qa1)
def adO:aU Z:=E1 [] [jS 3 (bP (fun sl=>[s0 9, .slot 3 false [some 9]]) (az cI (l1 bY)))] (a1 (aF gQ)) (R1 bY) [] func104 1 agM (fun a=>a.Fields.length<=1048576) fun a h=>(af8 a h).1
def aGM (n:Str)(s:ay)(out:List (Str×Bool)):Pg Bool:=.br (l_ s n).2 (.ret !zD BR.z out n) (.ret false)
def Ym (n:Str)(s:ay)(out:List (Str×Bool)):=(aGM n s out).val
def ahp:aU Z:=vX [wQ] [] (aj (bn cStr) (aj (iM 0) (a1 (iM 1)))) (iC (aP bC) (iC (ZU 2) (b1 (alr D.nO mW)))) (R1 aG) [0,1,2] func105 1 fun a=>aGM a.1.1 a.2.1 a.2.2.2
def ay1 (l:List Str)(s:ay)(out:List (Str×Bool)):Pg Int:=aL l (.each false tX l [] (fun i1 a3 (y2:Unit)=> .ix i1 l.length (.br (Ym a3 s out) (.ret (.inr i1)) (rl ()))) (fun i1 (y2:Unit)=> .ret (-1)) ())
theorem an6 (l:List Str)(s:ay)(out:List (Str×Bool)):Is (ay1 l s out):=
 iH fun _=>gU (.inr au) (fun i1 y2 _ _=>dm au au (di iR iR)) (fun y2 _=>aT)
def PG:aU Z:=O6 [ahp] [jS 2 (bP (fun sl=>[s0 8]) (l1 cI))] (aj (bn bY) (a1 (kJ 105 [0,1]))) (iC (aP bC) (iC (ZU 2) (b1 (alr D.nO mW)))) (R1 cI) [0,1,2] func159 1 (fun a=>ay1 a.1.1 a.2.1 a.2.2.2) (fun a=>none) (fun a=>fG (fun(x:Str)=>Ym x a.2.1 a.2.2.2) a.1.1) fun a h=>⟨an6 a.1.1 a.2.1 a.2.2.2,(fun(l:List Str) s out=>o5 (fun(x:Str)=>Ym x s out) l 0) a.1.1 a.2.1 a.2.2.2⟩
def aG7 (l:List Str)(s:ay)(out:List (Str×Bool)):Pg Bool:=.lt (fG (fun(x:Str)=>Ym x s out) l) fun(v1:Int)=> .ret (decide (0<=v1))
theorem axc (l:List Str)(s:ay)(out:List (Str×Bool)):Is (aG7 l s out):=
 dB fun v1 hv1=>aT
def ZW:aU Z:=O6 [ahp,aet,PG] [] (aj (bn bY) (a1 (kJ 105 [0,1]))) (iC (aP bC) (iC (ZU 2) (b1 (alr D.nO mW)))) (R1 aG) [0,1,2] func100 1 (fun a=>aG7 a.1.1 a.2.1 a.2.2.2) (fun a=>none) (fun a=>a.1.1.any fun(x:Str)=>Ym x a.2.1 a.2.2.2) fun a h=>⟨axc a.1.1 a.2.1 a.2.2.2,(fun(l:List Str) s out=>pY _ l) a.1.1 a.2.1 a.2.2.2⟩
theorem OJ (s:ay)(name:Str):l_ s name=bif decide (fG (fun(x:bg)=>x.Name==name) s.Messages < 0)then(bg.mk [] [] [] [] [],false)else(s.Messages.getD (fG (fun(x:bg)=>x.Name==name) s.Messages).toNat iW,true):=by
 unfold l_ Ja;simp only[dE,bH,iV,aV];rfl
theorem Ph (s:ay)(name:Str)(h:∀m∈s.Messages,m.Fields.length<=1048576):(l_ s name).1.Fields.length<=1048576:=by
 rw[OJ];have hl:=lF (fun(x:bg)=>x.Name==name) s.Messages;by_cases h0:fG (fun(x:bg)=>x.Name==name) s.Messages < 0
 ·rw[qW h0];exact uN _
 ·rw[qo h0];exact h _ (getD_mem au)
def abw (s:ay):Pg (List (Str×Bool)):=.lt (dD .i64 ((↑s.Messages.length:Int)+1)) fun(v6:Int)=> .cnt qw 0 v6 (fun i1 (y2:List (Str×Bool))=> aL s.Messages (.each false qw s.Messages iW (fun i3 a5 (y4:List (Str×Bool))=> .ix i3 s.Messages.length (.lt (l_ s a5.Name) fun(v7:bg×Bool)=> .ob (v7.1.Fields.length<=1048576) (.br (!(aim v7.1).any fun(x:Str)=>Ym x s y4) (rl (sU y4 a5.Name true)) (rl y4)))) (fun i3 (y4:List (Str×Bool))=> rl y4) y2)) (fun i1 (y2:List (Str×Bool))=> .ret y2) []
def uQ (s:ay):=(abw s).val
theorem ahv (s:ay)(h:s.Messages.length<=1048576/\∀m∈s.Messages,m.Fields.length<=1048576):Is (abw s):=
 pK fun v6 hv6 _=>RX au au (fun i1 y2 _ _=>iH fun _=>gU (.inr au) (fun i3 y4 _ _=>dm au au (dB fun v7 hv7=>aX (by rw[hv7];exact Ph s _ h.2) (di iR iR))) (fun y4 _=>aT)) (fun i1 y2 _ _=>aT)
def amA:aU Z:=E1 [aea,ZW,wQ,adO,ahp] [jS 3 (bP (fun sl=>[s0 14, .ab9 (pid (sl 9))]) (az cI (l1 lC))),jS 5 (bP (fun sl=>[s0 19, .ab9 (pid (sl 9))]) (az cI (l1 lC)))] (a1 (aF bC)) (R1 lC) [] func65 1 abw (fun a=>a.Messages.length<=1048576/\∀m∈a.Messages,m.Fields.length<=1048576) fun a h=>ahv a h
def aGN (x:Str)(s:ay)(fin:List (Str×Bool)):Pg Bool:=.br (l_ s x).2 (.ret !zD BR.z fin x) (.ret false)
def apv (x:Str)(s:ay)(fin:List (Str×Bool)):=(aGN x s fin).val
def ahL:aU Z:=vX [wQ] [] (aj (bn cStr) (aj (iM 0) (a1 (iM 1)))) (iC (aP bC) (b1 (aP lC))) (R1 aG) [0,1] func170 1 fun a=>aGN a.1.1 a.2.1 a.2.2
def afx:aU Z:=GG [ahL] bY 170 [0,1] (iC (aP bC) (b1 (aP lC))) func159 [] fun x b=>apv x b.1 b.2
def agR:aU Z:=EAB [aet,PG,afx,ahL] bY 170 [0,1] (iC (aP bC) (b1 (aP lC))) func100 fun x b=>apv x b.1 b.2
def akX (s:ay)(m:bg)(fin:List (Str×Bool)):Pg Bool:=.ob (m.Fields.length<=1048576) (.ret ((aim m).any fun(x:Str)=>apv x s fin))
def asT (s:ay)(m:bg)(fin:List (Str×Bool)):=(akX s m fin).val
def amT:aU Z:=E1 [aea,ZW,agR,adO,ahL] [] (aj (aF bC) (aj (aF gQ) (a1 (bn lC)))) (R1 aG) [] func110 1 (u3 akX) fun a=>a.2.1.Fields.length<=1048576
def unl (ok:Bool)(e:Int)(x:ax):Pg ax:=.br (!ok) (.ob (bT (x.out.length+1) 32) (.ret (ax.mk x.Ih x.num (x.out++[ja.mk x.Ih x.num e])))) (.ret x)
def jc (ok:Bool)(e:Int)(x:ax):=(unl ok e x).val
theorem aA1 (ok:Bool)(e:Int)(x:ax)(h:x.out.length<=68719476736):Is (unl ok e x):=
 di (fun _=>aX ((b_ au au)) (aT)) iR
def Ux:aU Z:=vS Z [] [] (kz (aj (iM 0) (aj (bn aG) (a1 (bn cI)))) (afr 1 [none,none,some 207] aQ)) (DK (pM (I_ 0) (pM (BB Vx) (ad3 (BB (yg _))))) (PM (k:=1) oz (fun _=>rfl)) rfl) (shr [.cells 0 [none,none,some 207]] (l1 aQ)) [] func62 ntmps62 dS 0 rfl (fun a=>unl (a.1.2.1) (a.1.2.2) (a.2)) (fun a=>some ((a.2).out.length<=68719476736)) (fun a e _=>by kernel_rfl) (fun a=>jc (a.1.2.1) (a.1.2.2) (a.2)) (fun a h=>⟨aA1 (a.1.2.1) (a.1.2.2) (a.2) h,rfl⟩)
theorem uk {ok:Bool}{e:Int}{x v:ax}(h:v=jc ok e x):v.out.length<=x.out.length+1:=by
 subst h;unfold jc unl;cases ok
 ·simp[Pg.val]
 ·exact Nat.le_succ _
theorem ay_ {ok ok2:Bool}{e e2:Int}{x v:ax}(h:v=jc ok e (jc ok2 e2 x)):v.out.length<=x.out.length+2:=by
 have h1:=uk h;have h2:=uk (rfl:jc ok2 e2 x=_);omega
theorem ajn (ok:Bool)(e:Int)(x:ax):(jc ok e x).out.length<=x.out.length+1:=uk rfl
def aq6 (l:List Note)(target:Int)(x:ax):Pg ax:=.ob (x.out.length<=68719476736) (.lt (ajo l target) fun(v1:Int)=> .ret (jc (v1==0) v1 x))
def pO (l:List Note)(target:Int)(x:ax):=(aq6 l target x).val
theorem aqL (l:List Note)(target:Int)(x:ax)(h:x.out.length<=68719476736):Is (aq6 l target x):=
 aX qap (dB fun v1 hv1=>aT)
def PK:aU Z:=vS Z [Ux,adI] [] (kz (aj (iM 0) (aj (bn lJ) (a1 (bn cI)))) (afr 1 [none,none,some 207] aQ)) (DK (pM (I_ 0) (pM (BB ae3) (ad3 (BB (yg _))))) (PM (k:=1) oz (fun _=>rfl)) rfl) (shr [.cells 0 [none,none,some 207]] (l1 aQ)) [] func109 ntmps109 dS 0 rfl (fun a=>aq6 (a.1.2.1) (a.1.2.2) (a.2)) (fun a=>some ((a.2).out.length<=68719476736)) (fun a e _=>by kernel_rfl) (fun a=>pO (a.1.2.1) (a.1.2.2) (a.2)) (fun a h=>⟨aqL (a.1.2.1) (a.1.2.2) (a.2) h,rfl⟩)
theorem ahD {l:List Note}{target:Int}{x v:ax}(h:v=pO l target x):v.out.length<=x.out.length+1:=by
 subst h;exact ajn _ _ _
theorem akd (l:List Note)(target:Int)(x:ax):(pO l target x).out.length<=x.out.length+1:=ahD rfl
def spans (l:List nN)(least:Int)(most:Int)(x:ax):Pg ax:=aL l (.each false qw l DZ (fun i1 a3 (y2:ax)=> .ix i1 l.length (.lt (jc (decide ((l.getD (dD .i64 (i1 - 1)).toNat DZ).To < a3.From)) 11 (jc false 6 y2)) fun(v4:ax)=> .lt (dD .i64 (i1 - 1)) fun(v5:Int)=> .lt (jc true 11 (jc false 6 y2)) fun(v6:ax)=> .lt (jc false 6 y2) fun(v7:ax)=> .br (decide (least<=a3.From)) (.br (decide (a3.To<=most)) (.ob (y2.out.length<=68719476736) (.lt (jc (decide (a3.From<=a3.To)) 6 y2) fun(v8:ax)=> .br (i1==0) (.ob (v8.out.length<=68719476736) (rl (jc true 11 v8))) (.ix v5 l.length (.ob (v8.out.length<=68719476736) (rl (jc (decide ((l.getD v5.toNat DZ).To < a3.From)) 11 v8)))))) (.ob (y2.out.length<=68719476736) (.br (i1==0) (.ob (v7.out.length<=68719476736) (rl v6)) (.ix v5 l.length (.ob (v7.out.length<=68719476736) (rl v4)))))) (.ob (y2.out.length<=68719476736) (.br (i1==0) (.ob (v7.out.length<=68719476736) (rl v6)) (.ix v5 l.length (.ob (v7.out.length<=68719476736) (rl v4))))))) (fun i1 (y2:ax)=> .ret y2) x)
def Uy (l:List nN)(least:Int)(most:Int)(x:ax):=(spans l least most x).val
theorem X8 (l:List nN)(least:Int)(most:Int)(x:ax)(h:x.out.length+2*l.length<=68719476736):jP (spans l least most x) (fun r=>r.out.length<=x.out.length+2*l.length):=
 bZ <| df (fun(i1:Nat) y2=>y2.out.length<=x.out.length+2*i1) au au (fun i1 y2 qP rD=>have hI:y2.out.length<=x.out.length+2*i1:=rD;bi au au (aC fun v4 hv4=>have kv4:=ay_ hv4;pG fun v5 hv5 _=>aC fun v6 hv6=>have kv6:=ay_ hv6;aC fun v7 hv7=>have kv7:=uk hv7;bV (fun _=>bV (fun _=>ak (au) (aC fun v8 Py=>have kv8:=uk Py;dO (fun _=>ak (au) (ah qa)) (fun _=>bi au au (ak (au) (ah qa))))) (fun _=>ak (au) (dO (fun _=>ak (au) (ah qa)) (fun _=>bi au au (ak (au) (ah qa)))))) (fun _=>ak (au) (dO (fun _=>ak (au) (ah qa)) (fun _=>bi au au (ak (au) (ah qa))))))) (fun y2 hI=>have hI:y2.out.length<=x.out.length+2*l.length:=hI;ah qa)
def akP:aU Z:=vS Z [Ux] [jS 1 (bP (fun sl=>[s0 12, .cells (pid (sl 0)) [none,none,some 207]]) (az cI (l1 aQ)))] (kz (aj (iM 0) (aj (bn qH) (aj (bn cI) (a1 (bn cI))))) (afr 1 [none,none,some 207] aQ)) (DK (pM (I_ 0) (pM (BB ae5) (pM (BB (yg _)) (ad3 (BB (yg _)))))) (PM (k:=1) oz (fun _=>rfl)) rfl) (shr [.cells 0 [none,none,some 207]] (l1 aQ)) [] func108 ntmps108 dS 0 rfl (fun a=>spans (a.1.2.1) (a.1.2.2.1) (a.1.2.2.2) (a.2)) (fun a=>some ((a.2).out.length+2*(a.1.2.1).length<=68719476736)) (fun a e _=>by kernel_rfl) (fun a=>Uy (a.1.2.1) (a.1.2.2.1) (a.1.2.2.2) (a.2)) (fun a h=>⟨(X8 (a.1.2.1) (a.1.2.2.1) (a.1.2.2.2) (a.2) h).1,rfl⟩)
theorem aiS {l:List nN}{a b:Int}{p v:ax}(hp:p.out.length+2*l.length<=68719476736)(h:v=Uy l a b p):v.out.length<=p.out.length+2*l.length:=by
 subst h;exact(X8 l a b p hp).2
def field (s:ay)(m:bg)(i:Int)(x:ax):Pg ax:=.ix i m.Fields.length (.cut (fun(y1:ax)=> .cut (fun(y2:ax)=> .cut (fun(y3:ax)=> .cut (fun(y4:ax)=> .cut (fun(y5:ax)=> .cut (fun(y6:ax)=> .cut (fun(y7:ax)=> .cut (fun(y8:ax)=> .cut (fun(y9:ax)=> .ob (y9.out.length<=68719476736) (.lt (jc (aei s (aJ.mk (m.Fields.getD i.toNat aN).Num (m.Fields.getD i.toNat aN).Name (m.Fields.getD i.toNat aN).Card (m.Fields.getD i.toNat aN).Key (m.Fields.getD i.toNat aN).eF (m.Fields.getD i.toNat aN).Union (m.Fields.getD i.toNat aN).dn (m.Fields.getD i.toNat aN).Default.re (m.Fields.getD i.toNat aN).Notes)) 1 y9) fun(v10:ax)=> .ob (v10.out.length<=68719476736) (.lt (pO (m.Fields.getD i.toNat aN).Notes 2 v10) fun(v11:ax)=> .ret (ax.mk v11.Ih (-1) v11.out)))) (.ob (0<=i/\i < (↑m.Fields.length:Int)/\m.Fields.length<=1048576) (.ob (y8.out.length<=68719476736) (rl (jc (apN m i) 15 y8))))) (.ob (y7.out.length<=68719476736) (rl (jc (QU s (aJ.mk (m.Fields.getD i.toNat aN).Num (m.Fields.getD i.toNat aN).Name (m.Fields.getD i.toNat aN).Card (m.Fields.getD i.toNat aN).Key (m.Fields.getD i.toNat aN).eF (m.Fields.getD i.toNat aN).Union (m.Fields.getD i.toNat aN).dn (m.Fields.getD i.toNat aN).Default.re (m.Fields.getD i.toNat aN).Notes)) 12 y7)))) (.lt (jc false 1 y6) fun(v12:ax)=> .br (decide (1<=(m.Fields.getD i.toNat aN).Card)) (.br (decide ((m.Fields.getD i.toNat aN).Card<=5)) (.ob (y6.out.length<=68719476736) (rl (jc (Jn (m.Fields.getD i.toNat aN).Card (m.Fields.getD i.toNat aN).Key) 1 y6))) (.ob (y6.out.length<=68719476736) (rl v12))) (.ob (y6.out.length<=68719476736) (rl v12)))) (.br (!Ie m.Reserved (m.Fields.getD i.toNat aN).Num) (.ob (y5.out.length<=68719476736) (rl (jc (!m.Gone.any fun(x:Str)=>(m.Fields.getD i.toNat aN).Name==x) 21 y5))) (.ob (y5.out.length<=68719476736) (rl (jc false 21 y5))))) (.ix i m.Fields.length (.ob (y4.out.length<=68719476736) (rl (jc (!aBV m.Fields i) 9 y4))))) (.ob (y3.out.length<=68719476736) (rl (jc (abW (m.Fields.getD i.toNat aN).Name) 8 y3)))) (.br (i==0) (.ob (y2.out.length<=68719476736) (rl (jc true 11 y2))) (.lt (dD .i64 (i - 1)) fun(v13:Int)=> .ix v13 m.Fields.length (.ob (y2.out.length<=68719476736) (rl (jc (decide ((m.Fields.getD v13.toNat aN).Num < (m.Fields.getD i.toNat aN).Num)) 11 y2)))))) (.br (decide (1<=(m.Fields.getD i.toNat aN).Num)) (.ob (y1.out.length<=68719476736) (rl (jc (decide ((m.Fields.getD i.toNat aN).Num<=65535)) 6 y1))) (.ob (y1.out.length<=68719476736) (rl (jc false 6 y1))))) (rl (ax.mk x.Ih (m.Fields.getD i.toNat aN).Num x.out)))
def ab2 (s:ay)(m:bg)(i:Int)(x:ax):=(field s m i x).val
theorem XE (s:ay)(m:bg)(i:Int)(x:ax)(h:x.out.length+10<=68719476736/\0<=i/\i < m.Fields.length/\m.Fields.length<=1048576):jP (field s m i x) (fun r=>r.out.length<=x.out.length+10):=
 bi au au (dh (fun y1=>y1.out.length<=x.out.length+0) (ah qa) (fun y1 hy1=>have hy1:y1.out.length<=x.out.length+0:=hy1;dh (fun y2=>y2.out.length<=x.out.length+1) (bV (fun _=>ak (au) (ah qa)) (fun _=>ak (au) (ah qa))) (fun y2 hy2=>have hy2:y2.out.length<=x.out.length+1:=hy2;dh (fun y3=>y3.out.length<=x.out.length+2) (dO (fun _=>ak (au) (ah qa)) (fun _=>pG fun v13 ayW _=>bi au au (ak (au) (ah qa)))) (fun y3 hy3=>have hy3:y3.out.length<=x.out.length+2:=hy3;dh (fun y4=>y4.out.length<=x.out.length+3) (ak (au) (ah qa)) (fun y4 hy4=>have hy4:y4.out.length<=x.out.length+3:=hy4;dh (fun y5=>y5.out.length<=x.out.length+4) (bi au au (ak (au) (ah qa))) (fun y5 hy5=>have hy5:y5.out.length<=x.out.length+4:=hy5;dh (fun y6=>y6.out.length<=x.out.length+5) (dR (fun _=>ak (au) (ah qa)) (fun _=>ak (au) (ah qa))) (fun y6 hy6=>have hy6:y6.out.length<=x.out.length+5:=hy6;dh (fun y7=>y7.out.length<=x.out.length+6) (aC fun v12 ah3=>have aIs:=uk ah3;bV (fun _=>bV (fun _=>ak (au) (ah qa)) (fun _=>ak (au) (ah qa))) (fun _=>ak (au) (ah qa))) (fun y7 hy7=>have hy7:y7.out.length<=x.out.length+6:=hy7;dh (fun y8=>y8.out.length<=x.out.length+7) (ak (au) (ah qa)) (fun y8 hy8=>have hy8:y8.out.length<=x.out.length+7:=hy8;dh (fun y9=>y9.out.length<=x.out.length+8) (ak (au) (ak (au) (ah qa))) (fun y9 hy9=>have hy9:y9.out.length<=x.out.length+8:=hy9;ak (au) (aC fun v10 Ij=>have aHz:=uk Ij;ak (au) (aC fun v11 Xa=>have aHA:=ahD Xa;ah qa))))))))))))
def avm:aU Z:=vS Z [Ux,aif,PK,Qu,Dz,axn,ZV,atM,aqa,alX,aaY] [jS 100003 (bP (fun sl=>[.cells (pid (sl 0)) [none,none,some 207]]) (l1 aQ)),jS 100004 (bP (fun sl=>[.cells (pid (sl 0)) [none,none,some 207]]) (l1 aQ)),jS 100005 (bP (fun sl=>[.cells (pid (sl 0)) [none,none,some 207]]) (l1 aQ)),jS 100006 (bP (fun sl=>[.cells (pid (sl 0)) [none,none,some 207]]) (l1 aQ)),jS 100007 (bP (fun sl=>[.cells (pid (sl 0)) [none,none,some 207]]) (l1 aQ)),jS 100008 (bP (fun sl=>[.cells (pid (sl 0)) [none,none,some 207]]) (l1 aQ)),jS 100009 (bP (fun sl=>[.cells (pid (sl 0)) [none,none,some 207]]) (l1 aQ)),jS 100010 (bP (fun sl=>[.cells (pid (sl 0)) [none,none,some 207]]) (l1 aQ)),jS 100011 (bP (fun sl=>[.cells (pid (sl 0)) [none,none,some 207]]) (l1 aQ))] (kz (aj (iM 0) (aj (aF bC) (aj (aF gQ) (a1 (bn cI))))) (afr 1 [none,none,some 207] aQ)) (DK (pM (I_ 0) (pM (abQ ab5) (pM (abQ zg) (ad3 (BB (yg _)))))) (PM (k:=1) oz (fun _=>rfl)) rfl) (shr [.cells 0 [none,none,some 207]] (l1 aQ)) [] func107 ntmps107 dS 0 rfl (fun a=>field (a.1.2.1) (a.1.2.2.1) (a.1.2.2.2) (a.2)) (fun a=>some ((a.2).out.length+10<=68719476736/\0<=(a.1.2.2.2)/\(a.1.2.2.2) < (a.1.2.2.1).Fields.length/\(a.1.2.2.1).Fields.length<=1048576)) (fun a e _=>by kernel_rfl) (fun a=>ab2 (a.1.2.1) (a.1.2.2.1) (a.1.2.2.2) (a.2)) (fun a h=>⟨(XE (a.1.2.1) (a.1.2.2.1) (a.1.2.2.2) (a.2) h).1,rfl⟩)
theorem aa5 {s:ay}{m:bg}{i:Int}{p v:ax}(hp:p.out.length+10<=68719476736/\0<=i/\i < m.Fields.length/\m.Fields.length<=1048576)(h:v=ab2 s m i p):v.out.length<=p.out.length+10:=by
 subst h;exact(XE s m i p hp).2
def okM (m:bg):Prop:=m.Fields.length<=1048576/\m.Reserved.length<=1048576/\m.Gone.length<=1048576/\m.Name.length<=1048576/\∀g∈m.Gone,g.length<=1048576
def okE (e:dU):Prop:=e.Items.length<=1048576/\e.Reserved.length<=1048576/\e.Name.length<=1048576
def adR (v:bG):Prop:=v.Methods.length<=1048576/\v.Name.length<=1048576
def okS (s:ay):Prop:=s.Messages.length<=150/\s.Enums.length<=150/\s.dW.length<=150/\(∀m∈s.Messages,okM m)/\(∀e∈s.Enums,okE e)/\∀v∈s.dW,adR v
def ac4 (s:ay)(m:bg)(fin:List (Str×Bool)):Pg (List ja):=.cut (fun(y1:ax)=> .cut (fun(y2:ax)=> .cut (fun(y5:ax)=> .ob (y5.out.length+2*m.Reserved.length<=68719476736) (aL m.Gone (.each false qw m.Gone [] (fun i6 a8 (y7:ax)=> .ix i6 m.Gone.length (.ob (List.length a8<=9223372036854775700) (.ob (y7.out.length<=68719476736) (rl (jc (BG a8) 7 y7))))) (fun i6 (y7:ax)=> .ob (y7.out.length<=68719476736) (.ob (m.Fields.length<=1048576) (.lt (pO m.Notes 1 y7) fun(v9:ax)=> .ob (v9.out.length<=68719476736) (.ret (jc (!asT s m fin) 19 v9).out)))) (Uy m.Reserved 1 65535 y5)))) (aL m.Fields (.cnt qw 0 (↑m.Fields.length:Int) (fun i3 (y4:ax)=> .ob (y4.out.length+10<=68719476736/\0<=i3/\i3 < (↑m.Fields.length:Int)/\m.Fields.length<=1048576) (rl (ab2 s m i3 y4))) (fun i3 (y4:ax)=> rl y4) y2))) (.br (decide ((↑m.Fields.length:Int)<=64)) (.ob (y1.out.length<=68719476736) (aL m.Reserved (aL m.Gone (rl (jc (decide (max (↑m.Reserved.length:Int) (↑m.Gone.length:Int)<=16)) 3 y1))))) (.ob (y1.out.length<=68719476736) (rl (jc false 3 y1))))) (.ob (List.length m.Name<=4294967296) (.ob (0<=68719476736) (rl (jc (ahb m.Name) 8 (ax.mk m.Name (-1) [])))))
def yO (s:ay)(m:bg)(fin:List (Str×Bool)):=(ac4 s m fin).val
theorem XL (s:ay)(m:bg)(fin:List (Str×Bool))(h:okM m):jP (ac4 s m fin) (fun r=>r.length<=16777216):=
 have h1:m.Fields.length<=1048576:=h.1;have h2:m.Reserved.length<=1048576:=h.2.1;have h3:m.Gone.length<=1048576:=h.2.2.1;have h4:m.Name.length<=1048576:=h.2.2.2.1;dh (fun y1=>y1.out.length<=1) (ak (qam) (ak (qam) (ah qa))) (fun y1 hy1=>have hy1:y1.out.length<=1:=hy1;dh (fun y2=>y2.out.length<=2) (bV (fun _=>ak (qam) (bZ <| bZ <| ah qa)) (fun _=>ak (qam) (ah qa))) (fun y2 hy2=>have hy2:y2.out.length<=2:=hy2;dh (fun y5=>y5.out.length<=10485762) (bZ <| vO (fun(i3:Int) y4=>y4.out.length<=2+10*i3/\i3<=(m.Fields.length:Int)) qat au au (fun i3 y4 aIL aIM aD1=>have hI:y4.out.length<=2+10*i3/\i3<=(m.Fields.length:Int):=aD1;ak (qam) (ah qa)) (fun i3 y4 _ hge hI=>have hI:y4.out.length<=2+10*i3/\i3<=(m.Fields.length:Int):=hI;ah qa)) (fun y5 hy5=>have hy5:y5.out.length<=10485762:=hy5;ak (qam) (bZ <| df (fun(i6:Nat) y7=>y7.out.length<=12582914+1*i6) qat au (fun i6 y7 aIF aH_=>have hI:y7.out.length<=12582914+1*i6:=aH_;bi au au (ak (qam) (ak (qam) (ah qa)))) (fun y7 hI=>have hI:y7.out.length<=12582914+1*m.Gone.length:=hI;ak (qam) (ak (qam) (aC fun v9 hv9=>have kv9:=ahD hv9;ak (qam) (ah qa))))))))
def auX:aU Z:=E1 [Ux,zK,Y7,avm,akP,PK,amT] [jS 5 (bP (fun sl=>[s0 39, .cells (pid (sl 14)) [none,none,some 207]]) (az cI (l1 aQ))),jS 11 (bP (fun sl=>[s0 55, .cells (pid (sl 14)) [none,none,some 207]]) (az cI (l1 aQ))),jS 100003 (bP (fun sl=>[.cells (pid (sl 14)) [none,none,some 207]]) (l1 aQ)),jS 100004 (bP (fun sl=>[.cells (pid (sl 14)) [none,none,some 207]]) (l1 aQ)),jS 100009 (bP (fun sl=>[.cells (pid (sl 14)) [none,none,some 207]]) (l1 aQ)),jS 800001 (bP (fun sl=>[.cells (pid (sl 7)) [none,none,some 207]]) (l1 aQ))] (aj (aF bC) (aj (aF gQ) (a1 (bn lC)))) (R1 rP) [] func66 1 (u3 ac4) (fun a=>okM a.2.1) fun a h=>(XL a.1 a.2.1 a.2.2 h).1
def ag2 (e:dU):Pg (List ja):=.cut (fun(y1:ax)=> .cut (fun(y2:ax)=> .cut (fun(y3:ax)=> aL e.Items (.each false qw e.Items oU (fun i4 a8 (y5:ax)=> .ix i4 e.Items.length (.cut (fun(y6:ax)=> .cut (fun(y7:ax)=> .ob (y7.out.length<=68719476736) (.ix i4 e.Items.length (.lt (jc (abW a8.Name) 8 y7) fun(v9:ax)=> .ob (v9.out.length<=68719476736) (.lt (jc (!aB_ e.Items i4) 9 v9) fun(v10:ax)=> .ob (v10.out.length<=68719476736) (.lt (jc (!Ie e.Reserved a8.Num) 21 v10) fun(v11:ax)=> .ob (v11.out.length<=68719476736) (rl (pO a8.Notes 4 v11))))))) (.br (i4==0) (.ob (y6.out.length<=68719476736) (rl (jc true 11 y6))) (.lt (dD .i64 (i4 - 1)) fun(v12:Int)=> .ix v12 e.Items.length (.ob (y6.out.length<=68719476736) (rl (jc (decide ((e.Items.getD v12.toNat oU).Num < a8.Num)) 11 y6)))))) (.br (decide (0<=a8.Num)) (.ob (y5.out.length<=68719476736) (rl (jc (decide (a8.Num<=2147483647)) 6 (ax.mk y5.Ih a8.Num y5.out)))) (.ob (y5.out.length<=68719476736) (rl (jc false 6 (ax.mk y5.Ih a8.Num y5.out))))))) (fun i4 (y5:ax)=> .ob (y5.out.length+2*e.Reserved.length<=68719476736) (.lt (Uy e.Reserved 0 2147483647 (ax.mk y5.Ih (-1) y5.out)) fun(v13:ax)=> .ob (v13.out.length<=68719476736) (.ret (pO e.Notes 3 v13).out))) y3)) (.br ((↑e.Items.length:Int)==0) (.ob (y2.out.length<=68719476736) (rl (jc true 14 y2))) (.ix 0 e.Items.length (.ob (y2.out.length<=68719476736) (rl (jc ((e.Items.getD 0 oU).Num==0) 14 y2)))))) (.lt (jc false 3 y1) fun(v14:ax)=> .br (decide (1<=(↑e.Items.length:Int))) (.br (decide ((↑e.Items.length:Int)<=64)) (.ob (y1.out.length<=68719476736) (rl (jc (decide ((↑e.Reserved.length:Int)<=16)) 3 y1))) (.ob (y1.out.length<=68719476736) (rl v14))) (.ob (y1.out.length<=68719476736) (rl v14)))) (.ob (List.length e.Name<=4294967296) (.ob (0<=68719476736) (rl (jc (ahb e.Name) 8 (ax.mk e.Name (-1) [])))))
def ajT (e:dU):=(ag2 e).val
theorem U8 (e:dU)(h:okE e):jP (ag2 e) (fun r=>r.length<=16777216):=
 have h1:e.Items.length<=1048576:=h.1;have h2:e.Reserved.length<=1048576:=h.2.1;have h3:e.Name.length<=1048576:=h.2.2;dh (fun y1=>y1.out.length<=1) (ak (xO) (ak (xO) (ah qa))) (fun y1 hy1=>have hy1:y1.out.length<=1:=hy1;dh (fun y2=>y2.out.length<=2) (aC fun v14 aEe=>have aIu:=uk aEe;bV (fun _=>bV (fun _=>ak (xO) (ah qa)) (fun _=>ak (xO) (ah qa))) (fun _=>ak (xO) (ah qa))) (fun y2 hy2=>have hy2:y2.out.length<=2:=hy2;dh (fun y3=>y3.out.length<=3) (dO (fun _=>ak (xO) (ah qa)) (fun _=>bi au au (ak (xO) (ah qa)))) (fun y3 hy3=>have hy3:y3.out.length<=3:=hy3;bZ <| df (fun(i4:Nat) y5=>y5.out.length<=3+6*i4) qat au (fun i4 y5 afa aD2=>have hI:y5.out.length<=3+6*i4:=aD2;bi au au (dh (fun y6=>y6.out.length<=3+6*i4+1) (bV (fun _=>ak (xO) (ah qa)) (fun _=>ak (xO) (ah qa))) (fun y6 hy6=>have hy6:y6.out.length<=3+6*i4+1:=hy6;dh (fun y7=>y7.out.length<=3+6*i4+2) (dO (fun _=>ak (xO) (ah qa)) (fun _=>pG fun v12 ah3 _=>bi au au (ak (xO) (ah qa)))) (fun y7 hy7=>have hy7:y7.out.length<=3+6*i4+2:=hy7;ak (xO) (bi au au (aC fun v9 hv9=>have kv9:=uk hv9;ak (xO) (aC fun v10 Ij=>have aHz:=uk Ij;ak (xO) (aC fun v11 Xa=>have aHA:=uk Xa;ak (xO) (ah qa))))))))) (fun y5 hI=>have hI:y5.out.length<=3+6*e.Items.length:=hI;ak (xO) (aC fun v13 ayW=>have aIt:=aiS (by first | omega | (dsimp only;omega)) ayW;ak (xO) (ah qa))))))
def ath:aU Z:=E1 [Ux,Y7,akP,PK,Qu,awR,ZE,Dz] [jS 6 (bP (fun sl=>[s0 50, .cells (pid (sl 9)) [none,none,some 207]]) (az cI (l1 aQ))),jS 100003 (bP (fun sl=>[.cells (pid (sl 9)) [none,none,some 207]]) (l1 aQ)),jS 100004 (bP (fun sl=>[.cells (pid (sl 9)) [none,none,some 207]]) (l1 aQ)),jS 100005 (bP (fun sl=>[.cells (pid (sl 9)) [none,none,some 207]]) (l1 aQ)),jS 100010 (bP (fun sl=>[.cells (pid (sl 9)) [none,none,some 207]]) (l1 aQ)),jS 100011 (bP (fun sl=>[.cells (pid (sl 9)) [none,none,some 207]]) (l1 aQ)),jS 800001 (bP (fun sl=>[.cells (pid (sl 3)) [none,none,some 207]]) (l1 aQ))] (a1 (aF jM)) (R1 rP) [] func67 1 ag2 (fun a=>okE a) fun a h=>(U8 a h).1
def aqr (s:ay)(v:bG):Pg (List ja):=.ob (List.length v.Name<=4294967296) (.ob (0<=68719476736) (.lt (jc (ahb v.Name) 8 (ax.mk v.Name (-1) [])) fun(v4:ax)=> .ob (v4.out.length<=68719476736) (aL v.Methods (.each false qw v.Methods jv (fun i1 a3 (y2:ax)=> .ix i1 v.Methods.length (.ob (y2.out.length<=68719476736) (.lt (jc (abW a3.Name) 8 (ax.mk y2.Ih i1 y2.out)) fun(v5:ax)=> .lt (l_ s a3.In) fun(v6:bg×Bool)=> .lt (l_ s a3.Out) fun(v7:bg×Bool)=> .br (i1==0) (.ob (v5.out.length<=68719476736) (.lt (jc true 11 v5) fun(v8:ax)=> .br v6.2 (.ob (v8.out.length<=68719476736) (.lt (jc v7.2 12 v8) fun(v9:ax)=> .br (decide (1<=a3.Shape)) (.ob (v9.out.length<=68719476736) (.lt (jc (decide (a3.Shape<=4)) 1 v9) fun(v10:ax)=> .ob (v10.out.length<=68719476736) (rl (pO a3.Notes 6 v10)))) (.ob (v9.out.length<=68719476736) (.lt (jc false 1 v9) fun(v11:ax)=> .ob (v11.out.length<=68719476736) (rl (pO a3.Notes 6 v11)))))) (.ob (v8.out.length<=68719476736) (.lt (jc false 12 v8) fun(v12:ax)=> .br (decide (1<=a3.Shape)) (.ob (v12.out.length<=68719476736) (.lt (jc (decide (a3.Shape<=4)) 1 v12) fun(v13:ax)=> .ob (v13.out.length<=68719476736) (rl (pO a3.Notes 6 v13)))) (.ob (v12.out.length<=68719476736) (.lt (jc false 1 v12) fun(v14:ax)=> .ob (v14.out.length<=68719476736) (rl (pO a3.Notes 6 v14)))))))) (.lt (dD .i64 (i1 - 1)) fun(v15:Int)=> .ix v15 v.Methods.length (.ob (v5.out.length<=68719476736) (.lt (jc (!(Op.bytesLess a3.Name (v.Methods.getD v15.toNat jv).Name || a3.Name==(v.Methods.getD v15.toNat jv).Name)) 11 v5) fun(v16:ax)=> .br v6.2 (.ob (v16.out.length<=68719476736) (.lt (jc v7.2 12 v16) fun(v17:ax)=> .br (decide (1<=a3.Shape)) (.ob (v17.out.length<=68719476736) (.lt (jc (decide (a3.Shape<=4)) 1 v17) fun(v18:ax)=> .ob (v18.out.length<=68719476736) (rl (pO a3.Notes 6 v18)))) (.ob (v17.out.length<=68719476736) (.lt (jc false 1 v17) fun(v19:ax)=> .ob (v19.out.length<=68719476736) (rl (pO a3.Notes 6 v19)))))) (.ob (v16.out.length<=68719476736) (.lt (jc false 12 v16) fun(v20:ax)=> .br (decide (1<=a3.Shape)) (.ob (v20.out.length<=68719476736) (.lt (jc (decide (a3.Shape<=4)) 1 v20) fun(v21:ax)=> .ob (v21.out.length<=68719476736) (rl (pO a3.Notes 6 v21)))) (.ob (v20.out.length<=68719476736) (.lt (jc false 1 v20) fun(v22:ax)=> .ob (v22.out.length<=68719476736) (rl (pO a3.Notes 6 v22)))))))))))) (fun i1 (y2:ax)=> .ob (y2.out.length<=68719476736) (.ret (pO v.Notes 5 (ax.mk y2.Ih (-1) y2.out)).out)) (jc (decide ((↑v.Methods.length:Int)<=64)) 3 v4)))))
def Yu (s:ay)(v:bG):=(aqr s v).val
theorem adE (s:ay)(v:bG)(h:adR v):jP (aqr s v) (fun r=>r.length<=16777216):=
 have h1:v.Methods.length<=1048576:=h.1;have h2:v.Name.length<=1048576:=h.2;ak (xO) (ak (xO) (aC fun v4 hv4=>have kv4:=uk hv4;ak (xO) (bZ <| df (fun(i1:Nat) y2=>y2.out.length<=2+5*i1) qat au (fun i1 y2 qP rD=>have hI:y2.out.length<=2+5*i1:=rD;bi au au (ak (xO) (aC fun v5 hv5=>have kv5:=uk hv5;aC fun v6 hv6=>aC fun v7 hv7=>dO (fun _=>ak (xO) (aC fun v8 Py=>have kv8:=uk Py;dR (fun _=>ak (xO) (aC fun v9 hv9=>have kv9:=uk hv9;bV (fun _=>ak (xO) (aC fun v10 Ij=>have aHz:=uk Ij;ak (xO) (ah qa))) (fun _=>ak (xO) (aC fun v11 Xa=>have aHA:=uk Xa;ak (xO) (ah qa))))) (fun _=>ak (xO) (aC fun v12 ah3=>have aIs:=uk ah3;bV (fun _=>ak (xO) (aC fun v13 ayW=>have aIt:=uk ayW;ak (xO) (ah qa))) (fun _=>ak (xO) (aC fun v14 aEe=>have aIu:=uk aEe;ak (xO) (ah qa))))))) (fun _=>pG fun v15 aIO _=>bi au au (ak (xO) (aC fun v16 aIm=>have aIR:=uk aIm;dR (fun _=>ak (xO) (aC fun v17 aIn=>have aIS:=uk aIn;bV (fun _=>ak (xO) (aC fun v18 aIo=>have aIT:=uk aIo;ak (xO) (ah qa))) (fun _=>ak (xO) (aC fun v19 aHu=>have aIU:=uk aHu;ak (xO) (ah qa))))) (fun _=>ak (xO) (aC fun v20 aHv=>have aIV:=uk aHv;bV (fun _=>ak (xO) (aC fun v21 aEf=>have aIv:=uk aEf;ak (xO) (ah qa))) (fun _=>ak (xO) (aC fun v22 aEg=>have aIw:=uk aEg;ak (xO) (ah qa))))))))))) (fun y2 hI=>have hI:y2.out.length<=2+5*v.Methods.length:=hI;ak (xO) (ah qa)))))
def aBP:aU Z:=E1 [Ux,wQ,Y7,PK,Qu] [jS 5 (bP (fun sl=>[s0 30, .cells (pid (sl 15)) [none,none,some 207]]) (az cI (l1 aQ))),jS 800001 (bP (fun sl=>[.cells (pid (sl 5)) [none,none,some 207]]) (l1 aQ))] (aj (aF bC) (a1 (aF pV))) (R1 rP) [] func68 1 (u2 aqr) (fun a=>adR a.2) fun a h=>(adE a.1 a.2 h).1
def rising (l:List Str):Pg Bool:=.Pn [] (some (l.length<=9223372036854775807)) tX 1 (↑l.length:Int) (fun i1 (y2:Unit)=> .ix i1 l.length (.lt (dD .i64 (i1 - 1)) fun(v3:Int)=> .ix v3 l.length (.br (Op.bytesLess (l.getD i1.toNat []) (l.getD v3.toNat []) || l.getD i1.toNat []==l.getD v3.toNat []) (.ret (.inr false)) (rl ())))) (fun i1 (y2:Unit)=> .ret true) ()
def aaF (l:List Str):=(rising l).val
theorem ano (l:List Str):Is (rising l):=
 Bc trivial au (fun h=>by simp only[ql]at h;omega) (fun i1 y2 _ _ _=>dm au au (pK fun v3 hv3 _=>dm au au (di iR iR))) (fun i1 y2 _ _=>aT)
def an0:aU Z:=E0 [] [jS 2 (bP (fun sl=>[s0 3]) (l1 cI))] (a1 (bn bY)) (R1 aG) [] func63 1 rising fun a=>ano a
def lists (s:ay):Pg (List (List Str)):=.cut (fun(y4:List (List Str))=> .cut (fun(y8:List (List Str))=> aL s.dW (.each false qw s.dW mf (fun i9 a11 (Ai:List (List Str))=> .ix i9 s.dW.length (.ob ((0:Int)<=2/\(2:Int) < 3) (.ob (bT ((Ai.getD 2 []).length+1) 16) (.ob ((0:Int)<=2/\(2:Int) < 3) (.ret (.inl [Ai.getD 0 [],Ai.getD 1 [],Ai.getD 2 []++[a11.Name]])))))) (fun i9 (Ai:List (List Str))=> .ret [Ai.getD 0 [],Ai.getD 1 [],Ai.getD 2 []]) [y8.getD 0 [],y8.getD 1 [],y8.getD 2 []])) (aL s.Enums (.each false qw s.Enums nD (fun i5 a7 (y6:List (List Str))=> .ix i5 s.Enums.length (.ob ((0:Int)<=1/\(1:Int) < 3) (.ob (bT ((y6.getD 1 []).length+1) 16) (.ob ((0:Int)<=1/\(1:Int) < 3) (.ret (.inl [y6.getD 0 [],y6.getD 1 []++[a7.Name],y6.getD 2 []])))))) (fun i5 (y6:List (List Str))=> .ret (.inl [y6.getD 0 [],y6.getD 1 [],y6.getD 2 []])) [y4.getD 0 [],y4.getD 1 [],y4.getD 2 []]))) (aL s.Messages (.each false qw s.Messages iW (fun i1 a3 (y2:List (List Str))=> .ix i1 s.Messages.length (.ob ((0:Int)<=0/\(0:Int) < 3) (.ob (bT ((y2.getD 0 []).length+1) 16) (.ob ((0:Int)<=0/\(0:Int) < 3) (.ret (.inl [y2.getD 0 []++[a3.Name],y2.getD 1 [],y2.getD 2 []])))))) (fun i1 (y2:List (List Str))=> .ret (.inl [y2.getD 0 [],y2.getD 1 [],y2.getD 2 []])) [[],[],[]]))
def aCi (s:ay):=(lists s).val
theorem al7 (s:ay)(h:okS s):jP (lists s) (fun _=>True):=
 have h1:s.Messages.length<=150:=h.1;have h2:s.Enums.length<=150:=h.2.1;have h3:s.dW.length<=150:=h.2.2.1;dh (fun y4=>(y4.getD 0 []).length<=150/\(y4.getD 1 []).length<=0/\(y4.getD 2 []).length<=0) (bZ <| df (fun(i1:Nat) y2=>(y2.getD 0 []).length<=i1/\(y2.getD 1 []).length<=0/\(y2.getD 2 []).length<=0) qbn au (fun i1 y2 qP rD=>have hI:(y2.getD 0 []).length<=i1/\(y2.getD 1 []).length<=0/\(y2.getD 2 []).length<=0:=rD;bi au au (ak (qa6) (ak (qa6) (ak (qa6) (ah qaw))))) (fun y2 hI=>have hI:(y2.getD 0 []).length<=s.Messages.length/\(y2.getD 1 []).length<=0/\(y2.getD 2 []).length<=0:=hI;ah qaw)) (fun y4 hy4=>have hy4:(y4.getD 0 []).length<=150/\(y4.getD 1 []).length<=0/\(y4.getD 2 []).length<=0:=hy4;dh (fun y8=>(y8.getD 0 []).length<=150/\(y8.getD 1 []).length<=150/\(y8.getD 2 []).length<=0) (bZ <| df (fun(i5:Nat) y6=>(y6.getD 0 []).length<=150/\(y6.getD 1 []).length<=i5/\(y6.getD 2 []).length<=0) qbn au (fun i5 y6 auE auC=>have hI:(y6.getD 0 []).length<=150/\(y6.getD 1 []).length<=i5/\(y6.getD 2 []).length<=0:=auC;bi au au (ak (qa6) (ak (qa6) (ak (qa6) (ah qaw))))) (fun y6 hI=>have hI:(y6.getD 0 []).length<=150/\(y6.getD 1 []).length<=s.Enums.length/\(y6.getD 2 []).length<=0:=hI;ah qaw)) (fun y8 hy8=>have hy8:(y8.getD 0 []).length<=150/\(y8.getD 1 []).length<=150/\(y8.getD 2 []).length<=0:=hy8;bZ <| df (fun(i9:Nat) Ai=>(Ai.getD 0 []).length<=150/\(Ai.getD 1 []).length<=150/\(Ai.getD 2 []).length<=i9) qbn au (fun i9 Ai aHp aD3=>have hI:(Ai.getD 0 []).length<=150/\(Ai.getD 1 []).length<=150/\(Ai.getD 2 []).length<=i9:=aD3;bi au au (ak (qa6) (ak (qa6) (ak (qa6) (ah qaw))))) (fun Ai hI=>have hI:(Ai.getD 0 []).length<=150/\(Ai.getD 1 []).length<=150/\(Ai.getD 2 []).length<=s.dW.length:=hI;ah qaw)))
def axK:aU Z:=E1 [] [jS 3 (bP (fun sl=>[s0 13, .cells (pid (sl 3)) [some 9,some 9,some 9]]) (az cI (l1 (FT 3 [] bY)))),jS 8 (bP (fun sl=>[s0 28, .cells (pid (sl 3)) [some 9,some 9,some 9]]) (az cI (l1 (FT 3 [] bY)))),jS 13 (bP (fun sl=>[s0 43, .cells (pid (sl 3)) [some 9,some 9,some 9]]) (az cI (l1 (FT 3 [] bY)))),jS 100007 (bP (fun sl=>[.cells (pid (sl 3)) [some 9,some 9,some 9]]) (l1 (FT 3 [] bY))),jS 100012 (bP (fun sl=>[.cells (pid (sl 3)) [some 9,some 9,some 9]]) (l1 (FT 3 [] bY)))] (a1 (aF bC)) (shr [.slot 0 true (nn 3)] (l1 (FT 3 [] bY))) [] func61 1 lists (fun a=>okS a) fun a h=>(al7 a h).1
def ap0 (x:Str)(l:List (List Str)):Pg Bool:=.ob ((0:Int)<=0/\(0:Int) < 3) (.ret ((l.getD 0 []).any fun(x_1:Str)=>x==x_1))
def awG (x:Str)(l:List (List Str)):=(ap0 x l).val
def adl:aU Z:=vX [aif] [] (aj (bn cStr) (aj (iM 0) (a1 (iM 1)))) (iC (aP (FT 3 [] bY)) (b1 (ad7 .i64 0))) (R1 aG) [0,1] func101 1 fun a=>ap0 a.1.1 a.2.1
def anK:aU Z:=GG [adl] bY 101 [0,1] (iC (aP (FT 3 [] bY)) (b1 (ad7 .i64 0))) func159 [] fun x b=>awG x b.1
def aqW:aU Z:=EAB [adl,aet,PG,afx,anK] bY 101 [0,1] (iC (aP (FT 3 [] bY)) (b1 (ad7 .i64 0))) func100 fun x b=>awG x b.1
def ap1 (x:Str)(l:List (List Str)):Pg Bool:=.ob ((0:Int)<=1/\(1:Int) < 3) (.ret ((l.getD 1 []).any fun(x_1:Str)=>x==x_1))
def aCJ (x:Str)(l:List (List Str)):=(ap1 x l).val
def aq3:aU Z:=vX [aif] [] (aj (bn cStr) (aj (iM 0) (a1 (iM 1)))) (iC (aP (FT 3 [] bY)) (b1 (ad7 .i64 1))) (R1 aG) [0,1] func101 1 fun a=>ap1 a.1.1 a.2.1
def aBi:aU Z:=GG [adl,aq3] bY 101 [0,1] (iC (aP (FT 3 [] bY)) (b1 (ad7 .i64 1))) func159 [] fun x b=>aCJ x b.1
def arl:aU Z:=EAB [adl,aq3,aet,PG,afx,anK,aBi] bY 101 [0,1] (iC (aP (FT 3 [] bY)) (b1 (ad7 .i64 1))) func100 fun x b=>aCJ x b.1
def apart (l:List (List Str)):Pg Bool:=.lt (dD .i64 (0+1)) fun(v1:Int)=> .ob (0<=v1/\v1 < 3) (.br ((l.getD 1 []).any fun(x:Str)=>awG x [l.getD 0 [],l.getD 1 [],l.getD 2 []]) (.ret false) (.lt (dD .i64 (v1+1)) fun(v2:Int)=> .ob (0<=v2/\v2 < 3) (.br ((l.getD 2 []).any fun(x:Str)=>awG x [l.getD 0 [],l.getD 1 [],l.getD 2 []]) (.ret false) (.ob (0<=v2/\v2 < 3) (.br ((l.getD 2 []).any fun(x:Str)=>aCJ x [l.getD 0 [],l.getD 1 [],l.getD 2 []]) (.ret false) (.ret true))))))
def aDx (l:List (List Str)):=(apart l).val
def axC:aU Z:=E0 [aea,ZW,agR,aqW,arl,adl,aq3] [jS 600002 (bP (fun _=>List.replicate 4 (.iter 0)) l0),jS 600005 (bP (fun _=>List.replicate 4 (.iter 0)) l0)] (a1 (aF (FT 3 [] bY))) (R1 aG) [] func64 1 apart
theorem aAW {s:ay}{m:bg}{fin:List (Str×Bool)}{v:List ja}(hm:okM m)(h:v=yO s m fin):v.length<=16777216:=by
 subst h;exact(XL s m fin hm).2
theorem ayl {e:dU}{v:List ja}(hm:okE e)(h:v=ajT e):v.length<=16777216:=by
 subst h;exact(U8 e hm).2
theorem aGi {s:ay}{x:bG}{v:List ja}(hm:adR x)(h:v=Yu s x):v.length<=16777216:=by
 subst h;exact(adE s x hm).2
def af6 (s:ay):Pg (List ja):=.ob (okS s) (.lt (aCi s) fun(v20:List (List Str))=> .cut (fun(y7:ax)=> .cut (fun(y8:ax)=> .ob (s.Messages.length<=1048576/\∀(m:bg),m∈s.Messages->m.Fields.length<=1048576) (.cut (fun(y12:ax)=> .cut (fun(y16:ax)=> aL s.dW (.each false qw s.dW mf (fun i17 a19 (We:ax)=> .ix i17 s.dW.length (.ob (adR a19) (.lt (Yu s a19) fun(v21:List ja)=> .ob (bT (We.out.length+v21.length) 32) (rl (ax.mk We.Ih We.num (We.out++v21)))))) (fun i17 (We:ax)=> .ret We.out) y16)) (aL s.Enums (.each false qw s.Enums nD (fun i13 a15 (y14:ax)=> .ix i13 s.Enums.length (.ob (okE a15) (.lt (ajT a15) fun(v22:List ja)=> .ob (bT (y14.out.length+v22.length) 32) (rl (ax.mk y14.Ih y14.num (y14.out++v22)))))) (fun i13 (y14:ax)=> rl y14) y12))) (aL s.Messages (.each false qw s.Messages iW (fun i9 a11 (Ai:ax)=> .ix i9 s.Messages.length (.ob (okM a11) (.lt (yO s a11 (uQ s)) fun(v23:List ja)=> .ob (bT (Ai.out.length+v23.length) 32) (rl (ax.mk Ai.Ih Ai.num (Ai.out++v23)))))) (fun i9 (Ai:ax)=> rl Ai) y8)))) (.ob (y7.out.length<=68719476736) (rl (jc (aDx [v20.getD 0 [],v20.getD 1 [],v20.getD 2 []]) 9 y7)))) (.cut (fun(y2:ax)=> .lt (dD .i64 (0+1)) fun(v24:Int)=> .cut (fun(y4:ax)=> .cut (fun(y6:ax)=> rl y6) (.lt (dD .i64 (v24+1)) fun(v25:Int)=> .ob (0<=v25/\v25 < 3) (.cut (fun(y5:ax)=> .ob (y5.out.length<=68719476736) (rl (jc (aaF (v20.getD 2 [])) 11 y5))) (.ob (y4.out.length<=68719476736) (rl (jc (decide ((↑(v20.getD 2 []).length:Int)<=64)) 3 y4)))))) (.ob (0<=v24/\v24 < 3) (.cut (fun(y3:ax)=> .ob (y3.out.length<=68719476736) (rl (jc (aaF (v20.getD 1 [])) 11 y3))) (.ob (y2.out.length<=68719476736) (rl (jc (decide ((↑(v20.getD 1 []).length:Int)<=64)) 3 y2)))))) (.ob ((0:Int)<=0/\(0:Int) < 3) (.cut (fun(y1:ax)=> .ob (y1.out.length<=68719476736) (rl (jc (aaF (v20.getD 0 [])) 11 y1))) (.ob (0<=68719476736) (rl (jc (decide ((↑(v20.getD 0 []).length:Int)<=64)) 3 (ax.mk [] (-1) []))))))))
def Ul (s:ay):=(af6 s).val
theorem aoJ (s:ay)(h:okS s):jP (af6 s) (fun _=>True):=
 have h1:s.Messages.length<=150:=h.1;have h2:s.Enums.length<=150:=h.2.1;have h3:s.dW.length<=150:=h.2.2.1;ak (qac) (aC fun v20 aHv=>dh (fun y7=>y7.out.length<=6) (dh (fun y2=>y2.out.length<=2) (ak (qac) (dh (fun y1=>y1.out.length<=1) (ak (qac) (ah qab)) (fun y1 hy1=>have hy1:y1.out.length<=1:=hy1;ak (qac) (ah qab)))) (fun y2 hy2=>have hy2:y2.out.length<=2:=hy2;pG fun v24 hv24 _=>dh (fun y4=>y4.out.length<=4) (ak (qac) (dh (fun y3=>y3.out.length<=3) (ak (qac) (ah qab)) (fun y3 hy3=>have hy3:y3.out.length<=3:=hy3;ak (qac) (ah qab)))) (fun y4 hy4=>have hy4:y4.out.length<=4:=hy4;dh (fun y6=>y6.out.length<=6) (pG fun v25 hv25 _=>ak (qac) (dh (fun y5=>y5.out.length<=5) (ak (qac) (ah qab)) (fun y5 hy5=>have hy5:y5.out.length<=5:=hy5;ak (qac) (ah qab)))) (fun y6 hy6=>have hy6:y6.out.length<=6:=hy6;ah qab)))) (fun y7 hy7=>have hy7:y7.out.length<=6:=hy7;dh (fun y8=>y8.out.length<=7) (ak (qac) (ah qab)) (fun y8 hy8=>have hy8:y8.out.length<=7:=hy8;ak (qac) (dh (fun y12=>y12.out.length<=2516582407) (bZ <| df (fun(i9:Nat) Ai=>Ai.out.length<=7+16777216*i9) qat au (fun i9 Ai aHp aD3=>have hI:Ai.out.length<=7+16777216*i9:=aD3;bi au au (ak (qac) (aC fun v23 aIp=>have aIW:=aAW (h.2.2.2.1 _ (getD_mem au)) aIp;ak (qac) (ah qab)))) (fun Ai hI=>have hI:Ai.out.length<=7+16777216*s.Messages.length:=hI;ah qab)) (fun y12 aHw=>have aHw:y12.out.length<=2516582407:=aHw;dh (fun y16=>y16.out.length<=5033164807) (bZ <| df (fun(i13:Nat) y14=>y14.out.length<=2516582407+16777216*i13) qat au (fun i13 y14 aIh aHh=>have hI:y14.out.length<=2516582407+16777216*i13:=aHh;bi au au (ak (qac) (aC fun v22 aEg=>have aIw:=ayl (h.2.2.2.2.1 _ (getD_mem au)) aEg;ak (qac) (ah qab)))) (fun y14 hI=>have hI:y14.out.length<=2516582407+16777216*s.Enums.length:=hI;ah qab)) (fun y16 aHx=>have aHx:y16.out.length<=5033164807:=aHx;bZ <| df (fun(i17:Nat) We=>We.out.length<=5033164807+16777216*i17) qat au (fun i17 We aIi aHi=>have hI:We.out.length<=5033164807+16777216*i17:=aHi;bi au au (ak (qac) (aC fun v21 aEf=>have aIv:=aGi (h.2.2.2.2.2 _ (getD_mem au)) aEf;ak (qac) (ah qab)))) (fun We hI=>have hI:We.out.length<=5033164807+16777216*s.dW.length:=hI;ah qab)))))))
def aCY:aU Z:=E1 [axK,Ux,an0,axC,amA,auX,ath,aBP] [jS 600004 (bP (fun _=>List.replicate 4 (.iter 0)) l0),jS 12 (bP (fun sl=>[s0 41, .cells (pid (sl 15)) [none,none,some 207]]) (az cI (l1 aQ))),jS 17 (bP (fun sl=>[s0 61, .cells (pid (sl 15)) [none,none,some 207]]) (az cI (l1 aQ))),jS 22 (bP (fun sl=>[s0 79, .cells (pid (sl 15)) [none,none,some 207]]) (az cI (l1 aQ))),jS 100007 (bP (fun sl=>[.cells (pid (sl 15)) [none,none,some 207]]) (l1 aQ)),jS 100008 (bP (fun sl=>[.cells (pid (sl 15)) [none,none,some 207]]) (l1 aQ)),jS 100009 (bP (fun sl=>[.cells (pid (sl 15)) [none,none,some 207]]) (l1 aQ)),jS 100010 (bP (fun sl=>[.cells (pid (sl 15)) [none,none,some 207]]) (l1 aQ)),jS 100016 (bP (fun sl=>[.cells (pid (sl 15)) [none,none,some 207]]) (l1 aQ)),jS 100021 (bP (fun sl=>[.cells (pid (sl 15)) [none,none,some 207]]) (l1 aQ)),jS 800001 (bP (fun sl=>[.cells (pid (sl 3)) [none,none,some 207]]) (l1 aQ))] (a1 (aF bC)) (R1 rP) [] func30 1 af6 (fun a=>okS a) fun a h=>(aoJ a h).1
def aaB (s:ay):Pg Bool:=.ob (okS s) (.ret ((↑(Ul s).length:Int)==0))
def o_ (s:ay):=(aaB s).val
def acf:aU Z:=E1 [aCY] [] (a1 (aF bC)) (R1 aG) [] func12 1 aaB fun a=>okS a
def aFr (x:bg)(name:Str):Pg Bool:=.ret (x.Name==name)
def aFW (x:bg)(name:Str):=(aFr x name).val
def asK:aU Z:=vX [] [] (aj (aF gQ) (a1 (iM 0))) (b1 (aP cStr)) (R1 aG) [0] func122 1 (u11 aFr)
def fsM (l:List bg)(name:Str):Pg (bg×Bool):=aL l (.each false tX l iW (fun i1 a3 (y2:Unit)=> .ix i1 l.length (.br (aFW a3 name) (.ret (.inr (a3,true))) (rl ()))) (fun i1 (y2:Unit)=> .ret (bg.mk [] [] [] [] [],false)) ())
def aH3 (l:List bg)(name:Str):=(fsM l name).val
def aGv:aU Z:=vX [asK] [jS 2 (bP (fun sl=>[s0 11]) (l1 cI))] (aj (bn rQ) (a1 (kJ 122 [0]))) (b1 (aP cStr)) (shr [.slot 0 true (nn 5), s0 1] (az gQ (l1 aG))) [0] func121 2 (u11 fsM)
def aFG (x:bG)(name:Str):Pg Bool:=.ret (x.Name==name)
def aGX (x:bG)(name:Str):=(aFG x name).val
def aoL:aU Z:=vX [] [] (aj (aF pV) (a1 (iM 0))) (b1 (aP cStr)) (R1 aG) [0] func118 1 (u11 aFG)
def fsS (l:List bG)(name:Str):Pg (bG×Bool):=aL l (.each false tX l mf (fun i1 a3 (y2:Unit)=> .ix i1 l.length (.br (aGX a3 name) (.ret (.inr (a3,true))) (rl ()))) (fun i1 (y2:Unit)=> .ret (bG.mk [] [] [],false)) ())
def ayr (l:List bG)(name:Str):=(fsS l name).val
def aG9:aU Z:=vX [aoL] [jS 2 (bP (fun sl=>[s0 11]) (l1 cI))] (aj (bn yl) (a1 (kJ 118 [0]))) (b1 (aP cStr)) (shr [.slot 0 true (nn 3), s0 1] (az pV (l1 aG))) [0] func117 2 (u11 fsS)
def aGw (x:dG)(name:Str):Pg Bool:=.ret (x.Name==name)
def aGG (x:dG)(name:Str):=(aGw x name).val
def anD:aU Z:=vX [] [] (aj (aF mX) (a1 (iM 0))) (b1 (aP cStr)) (R1 aG) [0] func74 1 (u11 aGw)
def fsW (l:List dG)(name:Str):Pg (dG×Bool):=aL l (.each false tX l jv (fun i1 a3 (y2:Unit)=> .ix i1 l.length (.br (aGG a3 name) (.ret (.inr (a3,true))) (rl ()))) (fun i1 (y2:Unit)=> .ret (dG.mk [] [] [] 0 [],false)) ())
def aBY (l:List dG)(name:Str):=(fsW l name).val
def aGA:aU Z:=vX [anD] [jS 2 (bP (fun sl=>[s0 11]) (l1 cI))] (aj (bn yA) (a1 (kJ 74 [0]))) (b1 (aP cStr)) (shr [.slot 0 true (nn 5), s0 1] (az mX (l1 aG))) [0] func73 2 (u11 fsW)
def aGO (x:aJ)(num:Int):Pg Bool:=.ret (x.Num==num)
def aF2 (x:aJ)(num:Int):=(aGO x num).val
def atC:aU Z:=vX [] [] (aj (aF eG) (a1 (iM 0))) (b1 (aP cI)) (R1 aG) [0] func124 1 (u11 aGO)
def fsF (l:List aJ)(num:Int):Pg (aJ×Bool):=aL l (.each false tX l aN (fun i1 a3 (y2:Unit)=> .ix i1 l.length (.br (aF2 (aJ.mk a3.Num a3.Name a3.Card a3.Key a3.eF a3.Union a3.dn a3.Default.re a3.Notes) num) (.ret (.inr (aJ.mk a3.Num a3.Name a3.Card a3.Key a3.eF a3.Union a3.dn a3.Default.re a3.Notes,true))) (rl ()))) (fun i1 (y2:Unit)=> .ret (aJ.mk 0 [] 0 0 (sW.mk 0 []) [] false (af.mk 0 0 [] [] [] [] []) [],false)) ())
def aHV (l:List aJ)(num:Int):=(fsF l num).val
def aGZ:aU Z:=vX [atC] [jS 2 (bP (fun sl=>[s0 11]) (l1 cI))] (aj (bn gp) (a1 (kJ 124 [0]))) (b1 (aP cI)) (shr [.slot 0 true (nn 16), s0 1] (az eG (l1 aG))) [0] func123 2 (u11 fsF)
def acC (s:ay)(name:Str):Pg (bg×Bool):=.ret (aH3 s.Messages name)
def ED (s:ay)(name:Str):=(acC s name).val
def Hq:aU Z:=E0 [aGv,asK] [] (aj (aF bC) (a1 (bn cStr))) (shr [.slot 0 true (nn 5), s0 1] (az gQ (l1 aG))) [] func80 2 (u2 acC)
def aeb (s:ay)(name:Str):Pg (bG×Bool):=.ret (ayr s.dW name)
def Lj (s:ay)(name:Str):=(aeb s name).val
def agw:aU Z:=E0 [aG9,aoL] [] (aj (aF bC) (a1 (bn cStr))) (shr [.slot 0 true (nn 3), s0 1] (az pV (l1 aG))) [] func72 2 (u2 aeb)
def asC (m:bg)(num:Int):Pg (aJ×Bool):=.lt (aHV m.Fields num) fun(v1:aJ×Bool)=> .ret (aJ.mk v1.1.Num v1.1.Name v1.1.Card v1.1.Key v1.1.eF v1.1.Union v1.1.dn v1.1.Default.re v1.1.Notes,v1.2)
def Qp (m:bg)(num:Int):=(asC m num).val
def KJ:aU Z:=E0 [aGZ,atC] [] (aj (aF gQ) (a1 (bn cI))) (shr [.slot 0 true (nn 16), s0 1] (az eG (l1 aG))) [] func81 2 (u2 asC)
def mP:Str:=[47]
def ajy (s:Str):Pg Int:=.as (List.length mP<=9223372036854775807) (.br (mP==s) (.ret 0) (.ix 0 (List.length mP) (.ret (Lib.indexByte s (List.getD mP 0 0).toNat.toUInt8))))
def aai (s:Str):=(ajy s).val
theorem asN (s:Str):Is (ajy s):=
 iH fun _=>di iR (fun _=>dm lY lY aT)
def aw3:aU Z:=vS Z [N7] [jS 15 (bP (fun sl=>[s0 8, s0 10]) (az cI (l1 cI)))] (args (aj (bn cStr) (a1 (bn cStr)))) (kL (n:=143) rfl) (R1 cI) [] func115 ntmps115 dS 1 rfl (fun a=>ajy (a.1)) (fun a=>some (a.2=mP)) (fun⟨s,p⟩ e h=>by have hf0:p=mP:=h;subst hf0;show _=_;kernel_rfl) (fun a=>aai (a.1)) (fun a h=>⟨asN (a.1),rfl⟩)
theorem IL (c:UInt8):∀(s:List UInt8) (k:Nat),mQ (fun x=>x==c) s k=bif decide (Lib.indexByte s c= -1)then -1 else Lib.indexByte s c+k
 | [],k=>rfl
 | x::s,k=>by
  have ih:=IL c s (k+1);have hge:=Lib.indexByte_ge s c;unfold mQ Lib.indexByte;cases hx:x==c with
  | true=>simp
  | false=>
   simp only[nR,Qbr,if_false];rw[ih];by_cases h:Lib.indexByte s c= -1
   ·simp[h]
   ·have hb:(Lib.indexByte s c== -1)=false:=beq_eq_false_iff_ne.2 h;rw[hb];simp only[Qbr,if_false];rw[qo h,qo au];simp only[nR];omega
theorem aiM (s:Str):aai s=fG (fun x=>x==47) s:=by
 have e:Lib.indexByte s 47=fG (fun x=>x==47) s:=by
  unfold fG;rw[IL];by_cases h:Lib.indexByte s 47= -1
  ·simp[h]
  ·rw[qo h];simp
 unfold aai ajy;simp only[kN,bH,iV,aV];cases h:mP==s with
 | true=>
  have:s=[47]:=(eq_of_beq h).symm;rw[this];rfl
 | false=>exact e
def ajD (s:Str):Pg (List UInt8×List UInt8×Bool):=.ob (mP=mP) (.lt (aai s) fun(v1:Int)=> .br (decide (0<=v1)) (.ob ((0:Int)<=0/\0<=v1/\v1<=(↑(List.length s):Int)) (.lt (dD .i64 (v1+(↑(List.length mP):Int))) fun(v2:Int)=> .ob (0<=v2/\v2<=(↑(List.length s):Int)/\(↑(List.length s):Int)<=(↑(List.length s):Int)) (.as (List.length mP<=9223372036854775807) (.ret (List.take v1.toNat s,List.drop v2.toNat (List.take (List.length s) s),true))))) (.ret (s,[],false)))
def afU (s:Str):=(ajD s).val
theorem ast (s:Str)(h:s.length<=1048576):Is (ajD s):=
 by
 refine aX rfl (dB fun v1 hv1=>dV (fun _=> ?_) iR);have h1:v1 < s.length:=by rw[hv1,aiM];exact(lF (fun(x:UInt8)=>x==47) s).1
 have e:(List.length mP:Int)=1:=rfl;refine aX ⟨by omega,by omega,by omega⟩ (dB fun v2 hv2=> ?_);rw[e,fO (k:= .i64) zO]at hv2;exact aX ⟨by omega,by omega,by omega⟩ (iH fun _=>aT)
def avL:aU Z:=vS Z [aw3,aio] [] (args (aj (bn cStr) (a1 (bn cStr)))) (kL (n:=23) rfl) (shr [s0 0, s0 1, s0 2] (az cStr (az cStr (l1 aG)))) [] func69 ntmps69 dS 3 rfl (fun a=>ajD (a.1)) (fun a=>some ((a.2=mP)/\((a.1).length<=1048576))) (fun⟨s,p⟩ e h=>by have hf0:p=mP:=h.1;subst hf0;show _=_;kernel_rfl) (fun a=>afU (a.1)) (fun a h=>⟨ast (a.1) h.2,rfl⟩)
def avA (s:Str):Pg (List UInt8×List UInt8×Bool):=.ob (mP=mP/\List.length s<=1048576) (.ret (afU s))
def DV (s:Str):=(avA s).val
theorem awU (s:Str)(h:s.length<=1048576):Is (avA s):=
 aX ((⟨rfl,h⟩)) (aT)
def apO:aU Z:=vS Z [avL] [] (args (aj (bn cStr) (a1 (bn cStr)))) (kL (n:=13) rfl) (shr [s0 0, s0 1, s0 2] (az cStr (az cStr (l1 aG)))) [] func31 ntmps31 dS 3 rfl (fun a=>avA (a.1)) (fun a=>some ((a.2=mP)/\((a.1).length<=1048576))) (fun⟨s,p⟩ e h=>by have hf0:p=mP:=h.1;subst hf0;show _=_;kernel_rfl) (fun a=>DV (a.1)) (fun a h=>⟨awU (a.1) h.2,rfl⟩)
theorem Zp (s:Str)(h:s.length<=1048576):DV s=bif decide (0<=fG (fun x=>x==47) s)then(s.take (fG (fun x=>x==47) s).toNat,s.drop ((fG (fun x=>x==47) s).toNat+1),true)else(s,[],false):=by
 have hl:=(lF (fun(x:UInt8)=>x==47) s).1;unfold DV avA afU ajD;simp only[dK,dE,bH,kN,aV,aiM];by_cases h0:0<=fG (fun x=>x==47) s
 ·have e:(List.length mP:Int)=1:=rfl;rw[qW h0,e,fO (k:= .i64) zO,DT];rw[show(fG (fun x=>x==47) s+1).toNat=(fG (fun x=>x==47) s).toNat+1 by omega]
 ·rw[qo h0];rfl
theorem atm (s:Str)(h:s.length<=1048576):(DV s).1.length<=s.length:=by
 rw[Zp s h];cases decide (0<=fG (fun x=>x==47) s)
 ·exact lU _
 ·simp only[wB,uP];omega
def JQ (s:ay)(path:Str):Pg (dG×Bool):=.ob ([47]=mP/\List.length path<=1048576) (.lt (DV path) fun(v1:Str×Str×Bool)=> .br (!v1.2.2) (.ret (dG.mk [] [] [] 0 [],false)) (.lt (Lj s v1.1) fun(v2:bG×Bool)=> .br (!v2.2) (.ret (dG.mk [] [] [] 0 [],false)) (.ret (aBY v2.1.Methods v1.2.1))))
def Ju (s:ay)(path:Str):=(JQ s path).val
def anj:aU Z:=E1 [apO,agw,aGA,anD] [] (aj (aF bC) (a1 (bn cStr))) (shr [.slot 0 true (nn 5), s0 1] (az mX (l1 aG))) [] func34 2 (u2 JQ) fun a=>a.2.length<=1048576
def XQ (s:ay)(path:Str):Pg (dG×Int):=.ob ([47]=mP/\List.length path<=1048576) (.lt (DV path) fun(v1:Str×Str×Bool)=> .br (!v1.2.2) (.ret (dG.mk [] [] [] 0 [],2)) (.ob (v1.1.length<=4294967296) (.br (!RN v1.1) (.ret (dG.mk [] [] [] 0 [],2)) (.br (!Hf v1.2.1) (.ret (dG.mk [] [] [] 0 [],2)) (.ob (List.length path<=1048576) (.lt (Ju s path) fun(v2:dG×Bool)=> .br (!v2.2) (.ret (dG.mk [] [] [] 0 [],10)) (.ret (v2.1,0))))))))
def fD (s:ay)(path:Str):=(XQ s path).val
theorem atl (s:ay)(path:Str)(h:path.length<=1048576):Is (XQ s path):=
 aX ((⟨rfl,h⟩)) (dB fun v1 hv1=>di iR (fun _=>aX (by have:=atm path h;rw[hv1];omega) (di iR (fun _=>di iR (fun _=>aX qap (dB fun v2 hv2=>di iR iR))))))
def uG:aU Z:=E1 [apO,Zz,Qk,anj] [] (aj (aF bC) (a1 (bn cStr))) (shr [.slot 0 true (nn 5), s0 1] (az mX (l1 cI))) [] func14 2 (u2 XQ) (fun a=>a.2.length<=1048576) fun a h=>atl a.1 a.2 h
def adg (shape:Int):Pg (Bool×Bool):=.br (shape==3) (.br (shape==2) (.ret (true,true)) (.ret (true,shape==4))) (.br (shape==2) (.ret (shape==4,true)) (.ret (shape==4,shape==4)))
def kZ (shape:Int):=(adg shape).val
def tZ:aU Z:=E0 [] [] (a1 (bn cI)) (shr [s0 0, s0 1] (az aG (l1 aG))) [] func37 2 adg
def ranged (x:cO):Pg Bool:=.br (decide (x.auh < 0)) (.ret false) (.br (decide (1099511627776 < x.auh)) (.ret false) (.cut (fun(y1:Bool)=> .br y1 (.ret (x.Num==0)) (.br (x.Kind==3) (.br (decide (1<=x.Num)) (.ret (decide (x.Num<=65535))) (.ret false)) (.br (x.Kind==4) (.br (decide (0<=x.Num)) (.ret (decide (x.Num<=64))) (.ret false)) (.br (x.Kind==5) (.br (decide (1<=x.Num)) (.ret (decide (x.Num<=13))) (.ret false)) (.ret false))))) (.br (x.Kind==1) (rl (x.Kind==1)) (rl (x.Kind==2)))))
def QW (x:cO):=(ranged x).val
def adQ:aU Z:=E0 [] [jS 100006 (bP (fun sl=>[s0 13]) (l1 aG))] (a1 (aF jm)) (R1 aG) [] func13 1 ranged
def counted (s:ay)(name:Str)(num:Int):Pg (aJ×Bool):=.lt (Qp (ED s name).1 num) fun(v1:aJ×Bool)=> .br (v1.1.eF.Kind==4) (.br v1.2 (.br (v1.1.Card !=4) (.ret (aJ.mk v1.1.Num v1.1.Name v1.1.Card v1.1.Key v1.1.eF v1.1.Union v1.1.dn v1.1.Default.re v1.1.Notes,v1.1.Card !=5)) (.ret (aJ.mk v1.1.Num v1.1.Name v1.1.Card v1.1.Key v1.1.eF v1.1.Union v1.1.dn v1.1.Default.re v1.1.Notes,false))) (.ret (aJ.mk v1.1.Num v1.1.Name v1.1.Card v1.1.Key v1.1.eF v1.1.Union v1.1.dn v1.1.Default.re v1.1.Notes,false))) (.br v1.2 (.br (v1.1.eF.Kind==5) (.br (v1.1.Card !=4) (.ret (aJ.mk v1.1.Num v1.1.Name v1.1.Card v1.1.Key v1.1.eF v1.1.Union v1.1.dn v1.1.Default.re v1.1.Notes,v1.1.Card !=5)) (.ret (aJ.mk v1.1.Num v1.1.Name v1.1.Card v1.1.Key v1.1.eF v1.1.Union v1.1.dn v1.1.Default.re v1.1.Notes,false))) (.ret (aJ.mk v1.1.Num v1.1.Name v1.1.Card v1.1.Key v1.1.eF v1.1.Union v1.1.dn v1.1.Default.re v1.1.Notes,false))) (.ret (aJ.mk v1.1.Num v1.1.Name v1.1.Card v1.1.Key v1.1.eF v1.1.Union v1.1.dn v1.1.Default.re v1.1.Notes,false)))
def ac6 (s:ay)(name:Str)(num:Int):=(counted s name num).val
def XW:aU Z:=E0 [Hq,KJ] [] (aj (aF bC) (aj (bn cStr) (a1 (bn cI)))) (shr [.slot 0 true (nn 16), s0 1] (az eG (l1 aG))) [] func38 2 (u3 counted)
def fits (s:ay)(x:cO):Pg Bool:=.ob (List.length x.Method<=1048576) (.lt (fD s x.Method) fun(v1:dG×Int)=> .br (v1.2 !=0) (.ret false) (.br (!QW (cO.mk x.Method x.Kind x.Num 0)) (.ret false) (.lt (kZ v1.1.Shape) fun(v2:Bool×Bool)=> .br (x.Kind==2) (.ret !v2.2) (.br (x.Kind==3) (.br (ac6 s v1.1.Out x.Num).2 (.ret !v2.2) (.ret false)) (.br (x.Kind==4) (.br v2.2 (.ret (v1.1.In==v1.1.Out)) (.ret false)) (.ret true))))))
def adM (s:ay)(x:cO):=(fits s x).val
def Vd:aU Z:=E1 [adQ,uG,tZ,XW] [] (aj (aF bC) (a1 (aF jm))) (R1 aG) [] func16 1 (u2 fits) fun a=>a.2.Method.length<=1048576
def arW (s:Str):Pg Bool:=.br (decide ((↑(List.length s):Int) < 1)) (.ret false) (.br (decide (40 < (↑(List.length s):Int))) (.ret false) (.as (List.length s<=9223372036854775807) (.each false tX s 0 (fun i1 a3 (y2:Unit)=> .ix i1 (List.length s) (.br (decide ((↑a3.toNat:Int) < 97)) (.ix i1 (List.length s) (.br (decide ((↑a3.toNat:Int) < 48)) (.ret (.inr false)) (.ix i1 (List.length s) (.br (decide (57 < (↑a3.toNat:Int))) (.ret (.inr false)) (rl ()))))) (.ix i1 (List.length s) (.br (decide (122 < (↑a3.toNat:Int))) (.ix i1 (List.length s) (.br (decide ((↑a3.toNat:Int) < 48)) (.ret (.inr false)) (.ix i1 (List.length s) (.br (decide (57 < (↑a3.toNat:Int))) (.ret (.inr false)) (rl ()))))) (rl ()))))) (fun i1 (y2:Unit)=> .ret true) ())))
def ava (s:Str):=(arW s).val
def aor:aU Z:=E0 [] [jS 4 (bP (fun sl=>[s0 14]) (l1 cI))] (a1 (bn cStr)) (R1 aG) [] func11 1 arW
def aos (x:Int):Pg Bool:=.ret (x !=x)
def aiC (x:Int):=(aos x).val
def aqT:aU Z:=E0 [] [] (a1 (bn cI)) (R1 aG) [] func282 1 aos
def aEs (x:Int)(y:Int):Pg Int:=.lt (aiC y) fun(v1:Bool)=> .br (aiC x) (.br v1 (.ret 0) (.ret (-1))) (.br v1 (.ret 1) (.br (decide (x < y)) (.ret (-1)) (.br (decide (y < x)) (.ret 1) (.ret 0))))
def SK (x:Int)(y:Int):=(aEs x y).val
def L9:aU Z:=E0 [aqT] [] (aj (bn cI) (a1 (bn cI))) (R1 cI) [] func207 1 (u2 aEs)
def rwC (a:Raw)(b:Raw):Pg Int:=.ret (SK a.Num b.Num)
def aq0 (a:Raw)(b:Raw):=(rwC a b).val
def RY:aU Z:=E1 [L9] [] (aj (aF og) (a1 (aF og))) (R1 cI) [] func206 1 (u2 rwC) fun a=>True
def aGm (a:Int)(b:Int)(n:Int)(l:List Raw):Pg (List Raw):=SY (fun a=>a) oN a b n l
theorem avU (a:Int)(b:Int)(n:Int)(l:List Raw)(h:swQ a b n l.length):Is (aGm a b n l):=
 (Mc (fun _=>rfl) h).1
def arC:aU Z:=EK [RY] [jS 1 (bP (fun sl=>[s0 10, .row (pid (sl 0)) 264]) (az cI (l1 bD)))] (aj (ng 0) (aj (bn cI) (aj (bn cI) (aj (bn cI) (a1 (kJ 206 [])))))) (b1 (j_ 264 D.Raw lD)) (shr [.row 0 264] (l1 bD)) [] func447 0 (fun a=>aGm a.1.2.1 a.1.2.2.1 a.1.2.2.2.1 a.2) (fun a=>swQ a.1.2.1 a.1.2.2.1 a.1.2.2.2.1 a.2.length) fun a h=>avU a.1.2.1 a.1.2.2.1 a.1.2.2.2.1 a.2 h
def aFy (a:Int)(m:Int)(b:Int)(l:List Raw):Pg (List Raw):=Tc (fun a=>a) oN a m b l
theorem av2 (a:Int)(m:Int)(b:Int)(l:List Raw)(h:roQ a m b l.length):Is (aFy a m b l):=
 (LM (fun _=>rfl) h).1
def apw:aU Z:=EK [RY,arC] [jS 2 (bP (fun sl=>[s0 10, s0 11, .row (pid (sl 0)) 264]) (az cI (az cI (l1 bD))))] (aj (ng 0) (aj (bn cI) (aj (bn cI) (aj (bn cI) (a1 (kJ 206 [])))))) (b1 (j_ 264 D.Raw lD)) (shr [.row 0 264] (l1 bD)) [] func427 0 (fun a=>aFy a.1.2.1 a.1.2.2.1 a.1.2.2.2.1 a.2) (fun a=>roQ a.1.2.1 a.1.2.2.1 a.1.2.2.2.1 a.2.length) fun a h=>av2 a.1.2.1 a.1.2.2.1 a.1.2.2.2.1 a.2 h
def aDC (a:Int)(b:Int)(l:List Raw):Pg (List Raw):=SH (fun a=>a) aq0 (fun _ _=>True) oN a b l
def aEt (a:Int)(b:Int)(l:List Raw):=(aDC a b l).val
theorem au1 (a:Int)(b:Int)(l:List Raw)(h:Gq (fun _ _=>True) a b l):Is (aDC a b l):=
 (L6 (fun _=>rfl) h).1
def asZ:aU Z:=vS Z [RY] [jS 1 (bP (fun sl=>[s0 8, .row (pid (sl 0)) 264]) (az cI (l1 bD))),jS 4 (bP (fun sl=>[s0 9, .row (pid (sl 0)) 264]) (az cI (l1 bD)))] (kz (aj (ng 0) (aj (bn cI) (aj (bn cI) (a1 (kJ 206 []))))) (b1 (j_ 264 D.Raw lD))) (oq (n:=53) rfl) (shr [.row 0 264] (l1 bD)) [] func379 ntmps379 dS 0 rfl (fun a=>aDC (a.1.2.1) (a.1.2.2.1) (a.2)) (fun a=>some (Gq (fun _ _=>True) (a.1.2.1) (a.1.2.2.1) (a.2))) (fun a e _=>by kernel_rfl) (fun a=>aEt (a.1.2.1) (a.1.2.2.1) (a.2)) (fun a h=>⟨au1 (a.1.2.1) (a.1.2.2.1) (a.2) h,rfl⟩)
def aES (aHF:Int->Int->Int->List Raw->List Raw)(NY:Int->Int->Int->List Raw->Prop)(a:Int)(m:Int)(b:Int)(l:List Raw):Pg (List Raw):=XZ (fun a=>a) aq0 (fun _ _=>True) oN aHF NY a m b l
def NY (fu:Nat)(a:Int)(m:Int)(b:Int)(l:List Raw):Prop:=Wl (fun _ _=>True) fu a m b l
def amf:Nat->(Int->Int->Int->(List Raw)->(List Raw))
 | 0=>(fun _ _ _ _=>default)
 | fu+1=>(fun a m b l=>(aES ((amf fu)) (NY fu) a m b l).val)
def ai4 (a:Int)(m:Int)(b:Int)(l:List Raw):List Raw:=(amf ((b - a).toNat+1)) a m b l
theorem Iy:∀(fu:Nat) (a m b:Int) (l:List Raw),NY fu a m b l->(amf fu a m b l).Perm l
 | 0,_,_,_,_,h=>FY h
 | fu+1,_,_,_,_,h=>(yN (fun _=>rfl) (c:=aq0) (O4:=amf fu) (Xe:=NY fu) (d:=oN) (fun _ _ _ _ h=>h) (Iy fu) h).2
abbrev apf (fu:Nat):=aES ((amf fu)) (NY fu)
theorem avG (fu:Nat)(a:Int)(m:Int)(b:Int)(l:List Raw)(h:NY (fu+1) a m b l):Is (apf fu a m b l):=
 (yN (fun _=>rfl) (fun _ _ _ _ h=>h) (Iy fu) h).1
theorem aqN:∀fu,fV Z.P Z.S 380 (oL (kz (aj (ng 0) (aj (bn cI) (aj (bn cI) (aj (bn cI) (a1 (kJ 206 [])))))) (b1 (j_ 264 D.Raw lD))) (shr [.row 0 264] (l1 bD)) 0 [] (fun a=>some (NY fu (a.1.2.1) (a.1.2.2.1) (a.1.2.2.2.1) (a.2))) (fun a=>(amf fu) (a.1.2.1) (a.1.2.2.1) (a.1.2.2.2.1) (a.2)))
 | 0=>iG func380 dS (fun a h=>FY h)
 | fu+1=>by
  have h0:=aqN fu;exact Eo [RY,apw,⟨380,_,h0⟩] [jS 3 (bP (fun sl=>[s0 10, s0 11]) (az cI (l1 cI))),jS 9 (bP (fun sl=>[s0 13, .row (pid (sl 0)) 264]) (az cI (l1 bD))),jS 15 (bP (fun sl=>[s0 14, s0 15]) (az cI (l1 cI))),jS 21 (bP (fun sl=>[s0 17, .row (pid (sl 0)) 264]) (az cI (l1 bD))),jS 33 (bP (fun sl=>[s0 20, s0 21]) (az cI (l1 cI))),jS 100008 (bP (fun sl=>[s0 10]) (l1 cI)),jS 100012 (bP (fun sl=>[.row (pid (sl 0)) 264]) (l1 bD)),jS 100020 (bP (fun sl=>[s0 14]) (l1 cI)),jS 100024 (bP (fun sl=>[.row (pid (sl 0)) 264]) (l1 bD)),jS 100032 (bP (fun sl=>[s0 20, s0 21]) (az cI (l1 cI))),jS 100038 (bP (fun sl=>[s0 20]) (l1 cI)),jS 100041 (bP (fun sl=>[.row (pid (sl 0)) 264]) (l1 bD)),jS 100043 (bP (fun sl=>[.row (pid (sl 0)) 264]) (l1 bD))] func380 ntmps380 (fun a=>apf fu a.1.2.1 a.1.2.2.1 a.1.2.2.2.1 a.2) (fun a h=>⟨avG fu a.1.2.1 a.1.2.2.1 a.1.2.2.2.1 a.2 h,rfl⟩) (oq (n:=220) rfl)
def anN:aU Z:=⟨380,oL (kz (aj (ng 0) (aj (bn cI) (aj (bn cI) (aj (bn cI) (a1 (kJ 206 [])))))) (b1 (j_ 264 D.Raw lD))) (shr [.row 0 264] (l1 bD)) 0 [] (fun a=>some (Wl (fun _ _=>True) (((a.1.2.2.2.1) - (a.1.2.1)).toNat+1) (a.1.2.1) (a.1.2.2.1) (a.1.2.2.2.1) (a.2))) (fun a=>ai4 (a.1.2.1) (a.1.2.2.1) (a.1.2.2.2.1) (a.2)),jT (fun n=>((aqN n))) _ _ (fun a h=>⟨((a.1.2.2.2.1) - (a.1.2.1)).toNat+1,h,rfl⟩)⟩
def aDJ (n:Int)(l:List Raw):Pg (List Raw):=Xu (fun a=>a) aq0 (fun _ _=>True) oN ai4 n l
def aG_ (n:Int)(l:List Raw):=(aDJ n l).val
theorem awH (n:Int)(l:List Raw)(h:stQ (fun _ _=>True) n l):Is (aDJ n l):=
 (yM (fun _=>rfl) (O4:=ai4) (fun a m b l h=>Iy _ a m b l h) h).1
def anS:aU Z:=EK [RY,asZ,anN] [jS 2 (bP (fun sl=>[s0 7, s0 8, .row (pid (sl 0)) 264]) (az cI (az cI (l1 bD)))),jS 7 (bP (fun sl=>[s0 6, .row (pid (sl 0)) 264]) (az cI (l1 bD))),jS 9 (bP (fun sl=>[s0 7, s0 8, .row (pid (sl 0)) 264]) (az cI (az cI (l1 bD)))),jS 100006 (bP (fun sl=>[s0 7, .row (pid (sl 0)) 264]) (az cI (l1 bD))),jS 100013 (bP (fun sl=>[s0 7, .row (pid (sl 0)) 264]) (az cI (l1 bD)))] (aj (ng 0) (aj (bn cI) (a1 (kJ 206 [])))) (b1 (j_ 264 D.Raw lD)) (shr [.row 0 264] (l1 bD)) [] func281 0 (fun a=>aDJ a.1.2.1 a.2) (fun a=>stQ (fun _ _=>True) a.1.2.1 a.2) fun a h=>awH a.1.2.1 a.2 h
def aCD (l:List Raw):Pg (List Raw):=.ob (stQ (fun(x x_1:Raw)=>True) (↑l.length:Int) l) (.lt (aG_ (↑l.length:Int) l) fun(v1:List Raw)=> aL v1 (.ret v1))
def Oh (l:List Raw):=(aCD l).val
theorem avV (l:List Raw)(h:rU (fun _ _=>True) l):Is (aCD l):=
 aX ((⟨h,rfl⟩)) (dB fun v1 hv1=>iH fun _=>aT)
def anJ:aU Z:=EK [RY,anS] [] (aj (ng 0) (a1 (kJ 206 []))) (b1 (j_ 264 D.Raw lD)) (shr [.row 0 264] (l1 bD)) [] func205 0 (fun a=>aCD a.2) (fun a=>rU (fun _ _=>True) a.2) fun a h=>avV a.2 h
theorem anp {l:List Raw}(h:rU (fun _ _=>True) l):(Oh l).Perm l:=
 (yM (fun _=>rfl) (c:=aq0) (q:=(fun _ _=>True)) (d:=oN) (O4:=ai4) (fun a m b l h=>Iy _ a m b l h) ⟨h,rfl⟩).2
theorem aj0 {l:List Raw}(h:l.length<=1048576):(Oh l).Perm l:=anp ⟨by omega,fun _ _ _ _=>trivial⟩
def lK (u:Int):Prop:=0<=u/\u < 18446744073709551616
theorem u8_or:∀y,y < 256->y ||| 128=y % 128+128:=by decide+kernel
theorem aeF (x:Nat)(hx:x < 18446744073709551616):orI .u8 (dD .u8 (x:Int)) 128=((x % 128+128:Nat):Int):=by
 rw[aiJ (k:= .u8) rfl];refine(ajz (k:= .u8) rfl (y:=128) (Qc5 _ lY) lY).trans ?_;rw[show(2:Nat) ^ IntKind.u8.bits=256 from rfl,u8_or _ (Qc5 _ lY)];congr 2;omega
theorem wW (x:Nat):Aq .u64 (x:Int) 7=((x / 128:Nat):Int):=acE (k:= .u64) x 7 lY
theorem avW (x:Nat)(h:x < 128):dD .u8 (x:Int)=(x:Int):=MJ (k:= .u8) rfl (show x < 2 ^ 8 by omega)
def azx (X:Int×List Int):Prop:=∃x:Nat,X.1=(x:Int)/\X.2.length<=9/\x < 2 ^ (64 - 7*X.2.length)
theorem aht {x:Nat}{b:List Int}{v:Int}(h1:b.length<=9)(h2:x < 2 ^ (64 - 7*b.length))(h3:128<=x):azx (((x / 128:Nat):Int),b++[v]):=by
 refine⟨x / 128,rfl,?_,?_⟩
 ·show(b++[v]).length<=9
  rw[pz,Qcp];rcases(by omega:b.length=9\/b.length<=8)with h | h
  ·rw[h]at h2;have:x < 2:=h2;omega
  ·omega
 ·show x / 128 < 2 ^ (64 - 7*(b++[v]).length)
  rw[pz,Qcp];rcases(by omega:b.length=9\/b.length<=8)with h | h
  ·rw[h]at h2;have:x < 2:=h2;omega
  ·have e:64 - 7*b.length=(64 - 7*(b.length+1))+7:=by omega
   rw[e,Nat.pow_add]at h2;omega
theorem aHW {x k:Nat}(h:x < 2 ^ (64 - 7*k)):x < 18446744073709551616:=Qce h (show 2 ^ (64 - 7*k)<=2 ^ 64 from Qd9 lY au)
def aBE (u:Int):Pg (List UInt8):=.wh (u.toNat+1) default (fun(x3:Int×List Int)=> .br (decide (128<=x3.1)) (.ob (bT (x3.2.length+1) 1) (.ob ((0:Int)<=7) (rl (Aq .u64 x3.1 7,x3.2++[orI .u8 (dD .u8 x3.1) 128])))) (.ob (bT (x3.2.length+1) 1) (.lt (x3.2++[dD .u8 x3.1]) fun(v4:List Int)=> .ob (HY (fun(i:Nat)=>true) v4.length=true) (.ret (.inr (txU v4)))))) (u,[])
def RP (u:Int):=(aBE u).val
theorem aws (u:Int)(h:lK u):Is (aBE u):=
 by
 have h:0<=u/\u < 18446744073709551616:=h;obtain⟨x,rfl⟩:∃x:Nat,u=(x:Int):=⟨u.toNat,by omega⟩;have hx:x < 18446744073709551616:=by omega
 refine Gg azx (fun X=>X.1.toNat) ⟨x,rfl,uN _,hx⟩ (by show x < x+1;omega) (fun X hX=> ?_);obtain⟨i,b⟩:=X;obtain⟨x,rfl,h1,h2⟩:=hX;dsimp only at h1 h2⊢;rw[wW,aeF x (aHW h2)];refine⟨dV (fun _=>aX (b_ au au) (aX au aT)) (fun _=>aX (b_ au au) (dB fun v4 hv4=>aX (ww (fun _=>rfl) _) aT)),fun x' hx'=> ?_⟩;revert hx';simp only[bH,dK,dE,aV,Qb6,Qbj];split
 ·rename_i h3;intro e;injection e with e
  subst e;refine⟨aht h1 h2 au,?_⟩;show((x / 128:Nat):Int).toNat < (x:Int).toNat
  omega
 ·intro e;cases e
def aa7:aU Z:=E1 [] [jS 2 (bP (fun sl=>[s0 0, .slot 3 false [some 5]]) (az (gz .u64) (l1 MP)))] (a1 (bn (gz .u64))) (R1 cStr) [] func228 1 aBE (fun a=>lK a) fun a h=>aws a h
theorem acA (x:Nat)(hx:x < 18446744073709551616):RP (x:Int)=txU ((ahq 10 x).map Int.ofNat):=by
 have k1:∀(k n x:Nat) (b:List Int),x < n->x < 128 ^ k->1<=k->x < 18446744073709551616->V8 (fun(x3:Int×List Int)=>(bif decide (128<=x3.1)then(Sum.inl (Aq .u64 x3.1 7,x3.2++[orI .u8 (dD .u8 x3.1) 128]):(Int×List Int)⊕List UInt8)else .inr (txU (x3.2++[dD .u8 x3.1])))) default n ((x:Int),b)=txU (b++(ahq k x).map Int.ofNat):=by
  intro k;induction k with
  | zero=>intro n x b _ _ h;omega
  | succ k ih=>
   intro n x b hn hk _ hx;obtain⟨n,rfl⟩:∃m,n=m+1:=⟨n - 1,by omega⟩;unfold V8 ahq;by_cases h:x < 128
   ·rw[Qb h,qo (show ¬(128:Int)<=(x:Int) by omega)];simp only[nR,avW x h];rfl
   ·rw[qC h,qW (show(128:Int)<=(x:Int) by omega)];simp only[wB,wW,aeF x hx];rw[Nat.pow_succ]at hk;rw[ih n (x / 128) _ au au (by
      rcases k with _ | k;· simp at hk;omega
      ·omega) au,Qba]
    rfl
 exact k1 10 ((x:Int).toNat+1) x [] au (Qce hx lY) lY hx
theorem ajX:∀(k x:Nat),(ahq k x).length<=k
 | 0,x=>lU _
 | k+1,x=>by
  unfold ahq;split
  ·simp
  ·simp only[xH];have:=ajX k (x / 128);omega
theorem PS (u:Int)(h:0<=u/\u < 18446744073709551616):(RP u).length<=10:=by
 obtain⟨x,rfl⟩:∃x:Nat,u=(x:Int):=⟨u.toNat,by omega⟩;rw[acA x au,EU,Qbl];exact ajX 10 x
def WE (u i:Nat)(t:Nat×Nat×Int):Int×Int×Int:=if t.2.2=0 then(((u+2 ^ (7*i)*t.1:Nat):Int),((i+t.2.1:Nat):Int),0)else(0,0,t.2.2)
theorem aB4 {u i c:Nat}(hu:u < 2 ^ (7*i))(hi:i<=8\/i=9/\c<=1)(hc:c < 128):c*2 ^ (7*i) < 2 ^ 64/\u ||| (c*2 ^ (7*i))=u+2 ^ (7*i)*c/\u+2 ^ (7*i)*c < 2 ^ 64:=by
 have h1:u ||| (c*2 ^ (7*i))=u+2 ^ (7*i)*c:=by
  rw[Nat.or_comm,Qcv,<-Nat.two_pow_add_eq_or_of_lt hu,Qdm]
 rw[h1];rcases hi with hi | ⟨rfl,hc1⟩
 ·have h2:2 ^ (7*i)<=2 ^ 56:=Qd9 lY au;generalize 2 ^ (7*i)=p at*;have h3:c*p<=127*p:=L8 p au;rw[Qcv p c];refine⟨by omega,rfl,by omega⟩
 ·have:c=0\/c=1:=by omega
  rcases this with rfl | rfl<;>refine⟨by decide,rfl,by omega⟩
theorem aDq (c:UInt8):dD .u64 (vk .u8 (c.toNat:Int) 127)=((c.toNat % 128:Nat):Int):=by
 have hc:=c.toNat_lt;have e:vk .u8 (c.toNat:Int) 127=((c.toNat &&& 127:Nat):Int):=apd (k:= .u8) rfl (y:=127) hc lY;rw[e,show c.toNat &&& 127=c.toNat % 128 from Nat.and_two_pow_sub_one_eq_mod _ 7];exact MJ (k:= .u64) rfl (Nat.lt_trans (Qc5 _ lY) (by decide:128 < 2 ^ 64))
theorem auY (u i:Nat)(c:UInt8)(hu:u < 2 ^ (7*i))(hi:i<=8\/i=9/\c.toNat<=1):orI .u64 (u:Int) (WQ .u64 (dD .u64 (vk .u8 (c.toNat:Int) 127)) (dD .i64 (7*(i:Int))))=((u+2 ^ (7*i)*(c.toNat % 128):Nat):Int):=by
 have hm:c.toNat % 128 < 128:=Qc5 _ lY;obtain⟨h1,h2,h3⟩:=aB4 hu (hi.imp id fun h=>⟨h.1,by omega⟩) hm;have w:dD .i64 (7*(i:Int))=((7*i:Nat):Int):=by rw[fO (k:= .i64) zO];omega
 rw[aDq,w,an5 (k:= .u64) rfl (show 7*i<=64 by omega) h1];have hu64:u < 2 ^ 64:=by omega
 rw[ajz (k:= .u64) rfl hu64 h1,h2]
theorem drop_at {s:Str}{i:Nat}(h:i < s.length):s.drop i=s.getD i 0::s.drop (i+1):=by
 rw[Qbm h];simp[List.getD,h]
theorem ap5 (u i:Nat)(c:UInt8)(r:Str)(h9:¬(i=9/\1 < c.toNat))(h1:¬c.toNat < 128):WE u i (m_ i (c::r))=WE (u+2 ^ (7*i)*(c.toNat % 128)) (i+1) (m_ (i+1) r):=by
 conv=>lhs;unfold m_
 rw[qC h9,qC h1];generalize m_ (i+1) r=t;obtain⟨v,n,e⟩:=t;dsimp only;by_cases he:e=0
 ·subst he;unfold WE;dsimp only;rw[Qb rfl,Qb rfl,Qb rfl];have e2:u+2 ^ (7*i)*(c.toNat % 128+128*v)=u+2 ^ (7*i)*(c.toNat % 128)+2 ^ (7*(i+1))*v:=by
   rw[show 7*(i+1)=7*i+7 by omega,Nat.pow_add,Nat.mul_add,Qc4,<-Nat.mul_assoc]
  rw[e2,show i+(n+1)=i+1+n by omega]
 ·unfold WE;rw[qC he,qC he,qC he]
def atz (s:Str):Pg (Int×Int×Int):=.wh (11) default (fun(x3:Int×Int)=> .as (List.length s<=9223372036854775807) (.br (x3.2==(↑(List.length s):Int)) (.ret (.inr (0,0,4))) (.ix x3.2 (List.length s) (.cut (fun(y4:Unit)=> .lt (dD .i64 (7*x3.2)) fun(v5:Int)=> .ob (0<=v5) (.lt (orI .u64 x3.1 (WQ .u64 (dD .u64 (vk .u8 (↑(List.getD s x3.2.toNat 0).toNat:Int) 127)) v5)) fun(v6:Int)=> .lt (dD .i64 (x3.2+1)) fun(v7:Int)=> .br (decide ((↑(List.getD s x3.2.toNat 0).toNat:Int) < 128)) (.ret (.inr (v6,v7,0))) (rl (v6,v7)))) (.br (x3.2==9) (.br (decide (1 < (↑(List.getD s x3.2.toNat 0).toNat:Int))) (.ret (.inr (.inr (0,0,6)))) (rl ())) (rl ())))))) (0,0)
def vg (s:Str):=(atz s).val
theorem aqd (s:Str):Is (atz s):=
 by
 refine Gg (fun X=>0<=X.2/\X.2<=9/\X.2<=s.length) (fun X=>(10 - X.2).toNat) ⟨by decide,by decide,by simp⟩ lY (fun X hX=> ?_);obtain⟨u,n⟩:=X;obtain⟨h1,h2,h3⟩:=hX;dsimp only at h1 h2 h3⊢;have w:dD .i64 (7*n)=7*n:=fO (k:= .i64) zO;have w1:dD .i64 (n+1)=n+1:=fO (k:= .i64) zO;rw[w,w1];refine⟨iH fun _=>lh iR (fun hne=>dm au au (oQ (lh (fun _=>dV iR iR) iR) (fun y hy=>dB fun v5 hv5=>aX au (dB fun v6 hv6=>dB fun v7 hv7=>dV iR iR)))),fun x' hx'=> ?_⟩;revert hx';simp only[kN,bH,iV,mr,dE,dK,aV,Qb6,Qbj,Qc6];by_cases e1:n=(s.length:Int)
 ·rw[Qb e1];intro e;cases e
 rw[qC e1];by_cases e2:n=9
 ·rw[Qb e2];by_cases e3:(1:Int) < ((s.getD n.toNat 0).toNat:Int)
  ·rw[Qb e3];intro e;cases e
  ·rw[qC e3,oO,Qb au];intro e;cases e
 ·rw[qC e2,oO];split
  ·intro e;cases e
  ·intro e;injection e with e
   subst e;exact⟨⟨by show 0<=n+1;omega,by show n+1<=9;omega,by show n+1<=(s.length:Int);omega⟩,by show(10 - (n+1)).toNat < (10 - n).toNat;omega⟩
def avR:aU Z:=E0 [] [jS 3 (bP (fun sl=>[s0 5, s0 6]) (az (gz .u64) (l1 cI))),jS 100008 (bP (fun sl=>[]) l0)] (a1 (bn cStr)) (shr [s0 0, s0 1, s0 2] (az (gz .u64) (az cI (l1 cI)))) [] func357 3 atz fun a=>aqd a
theorem aHY {u i c:Nat}(hu:u < 2 ^ (7*i)):u+2 ^ (7*i)*(c % 128) < 2 ^ (7*(i+1)):=by
 rw[show 7*(i+1)=7*i+7 by omega,Nat.pow_add];have hm:c % 128 < 128:=Qc5 _ lY;generalize 2 ^ (7*i)=p at*;have h3:p*(c % 128)<=p*127:=Qdv p au;omega
theorem aw0 (u i:Nat):WE u i (m_ i [])=(0,0,4):=rfl
theorem axm (u i:Nat)(c:UInt8)(r:Str)(h9:i=9/\1 < c.toNat):WE u i (m_ i (c::r))=(0,0,6):=by
 unfold m_;rw[Qb h9];rfl
theorem ax9 (u i:Nat)(c:UInt8)(r:Str)(h9:¬(i=9/\1 < c.toNat))(h1:c.toNat < 128):WE u i (m_ i (c::r))=(((u+2 ^ (7*i)*(c.toNat % 128):Nat):Int),((i+1:Nat):Int),0):=by
 unfold m_;rw[qC h9,Qb h1,Qb1 h1];rfl
theorem aov (s:Str):vg s=WE 0 0 (m_ 0 s):=by
 have key:∀(m i u:Nat),i<=9->i<=s.length->u < 2 ^ (7*i)->10 - i < m->V8 (fun(x3:Int×Int)=>bif x3.2==(s.length:Int)then(Sum.inr (0,0,4):(Int×Int)⊕(Int×Int×Int))else thenS (bif x3.2==9 then(bif decide ((1:Int) < ((s.getD x3.2.toNat 0).toNat:Int))then(Sum.inr (.inr (0,0,6)):Unit⊕((Int×Int)⊕(Int×Int×Int)))else .inl ())else .inl ()) fun _=>bif decide (((s.getD x3.2.toNat 0).toNat:Int) < 128)then Sum.inr (orI .u64 x3.1 (WQ .u64 (dD .u64 (vk .u8 ((s.getD x3.2.toNat 0).toNat:Int) 127)) (dD .i64 (7*x3.2))),dD .i64 (x3.2+1),0)else .inl (orI .u64 x3.1 (WQ .u64 (dD .u64 (vk .u8 ((s.getD x3.2.toNat 0).toNat:Int) 127)) (dD .i64 (7*x3.2))),dD .i64 (x3.2+1))) default m ((u:Int),(i:Int))=WE u i (m_ i (s.drop i)):=by
  intro m;induction m with
  | zero=>intro i u _ _ _ h;omega
  | succ m ih=>
   intro i u h9 hl hu hm;unfold V8;dsimp only;by_cases e1:i=s.length
   ·have:((i:Int)==(s.length:Int))=true:=by rw[e1];simp
    rw[this,List.drop_eq_nil_of_le au,aw0];rfl
   ·have:((i:Int)==(s.length:Int))=false:=by rw[Qb7];omega
    rw[this,nR,zk,drop_at au];generalize s.getD i 0=c;by_cases e2:i=9/\1 < c.toNat
    ·rw[axm _ _ _ _ e2];have q1:((i:Int)==9)=true:=by rw[e2.1];rfl
     have q2:decide ((1:Int) < (c.toNat:Int))=true:=qW au;rw[q1,q2];rfl
    ·have q:(bif (i:Int)==9 then(bif decide ((1:Int) < (c.toNat:Int))then(Sum.inr (.inr (0,0,6)):Unit⊕((Int×Int)⊕(Int×Int×Int)))else .inl ())else .inl ())= .inl ():=by
      by_cases e3:i=9
      ·have q2:decide ((1:Int) < (c.toNat:Int))=false:=qo au;rw[q2];cases(i:Int)==9<;>rfl
      ·have q1:((i:Int)==9)=false:=by rw[Qb7];omega
       rw[q1];rfl
     have hi:i<=8\/i=9/\c.toNat<=1:=by omega
     have w1:dD .i64 ((i:Int)+1)=((i+1:Nat):Int):=pU au;rw[q,oO,auY u i c hu hi,w1];by_cases e3:c.toNat < 128
     ·rw[ax9 _ _ _ _ e2 e3,qW (show(c.toNat:Int) < 128 by omega)];rfl
     ·rw[ap5 _ _ _ _ e2 e3,qo (show ¬(c.toNat:Int) < 128 by omega)];exact ih (i+1) _ au au (aHY hu) au
 exact key 11 0 0 lY (uN _) lY lY
theorem asv (s:Str):lK (vg s).1/\0<=(vg s).2.1/\(vg s).2.1<=s.length/\((vg s).2.2=0\/(vg s).2.2=4\/(vg s).2.2=6)/\((vg s).2.2=0->1<=(vg s).2.1):=by
 rw[aov];have he:∀(r:Str) (i:Nat),(m_ i r).2.2=0\/(m_ i r).2.2=4\/(m_ i r).2.2=6:=by
  intro r;induction r with
  | nil=>intro i;exact .inr (.inl rfl)
  | cons c r ih=>
   intro i;unfold m_;split
   ·exact .inr (.inr rfl)
   ·split
    ·exact .inl rfl
    ·have:=ih (i+1);generalize m_ (i+1) r=t at*;obtain⟨u,n,e⟩:=t;dsimp only at this⊢;split
     ·exact .inl rfl
     ·exact this
 unfold WE;by_cases h:(m_ 0 s).2.2=0
 ·obtain⟨l,w1,w2,w3,w4,w5,w6,w7⟩:=RZ s 0 lY h;have:=axM w1;rw[Qb h];have w7:(m_ 0 s).1 < 18446744073709551616:=w7;rw[BZ,BZ,Nat.mul_zero,Nat.pow_zero,Nat.one_mul];dsimp only;exact⟨⟨by omega,by omega⟩,by omega,by omega, .inl rfl,fun _=>by omega⟩
 ·rw[qC h];dsimp only;exact⟨⟨PE _,by decide⟩,PE _,by omega,(he s 0),fun e=>absurd e h⟩
def aFh (u:Int):Pg Int:=.ob ((0:Int)<=1) (.ret (agt .i64 (dD .i64 (Aq .u64 u 1)) (dD .i64 (-dD .i64 (vk .u64 u 1)))))
def azG (u:Int):=(aFh u).val
def aBN:aU Z:=E0 [] [] (a1 (bn (gz .u64))) (R1 cI) [] func412 1 aFh
def ahu (c:aK):Pg Bool:=.br (decide (0<=c.At)) (.br (decide (c.At<=c.End)) (.as (List.length c.Data<=9223372036854775807) (.ret (decide (c.End<=(↑(List.length c.Data):Int))))) (.ret false)) (.ret false)
def Kw (c:aK):=(ahu c).val
def UD:aU Z:=E0 [] [] (a1 (aF dN)) (R1 aG) [] func264 1 ahu
def anR (c:aK):Pg Int:=.br (!Kw c) (.ret 0) (.ret (dD .i64 (c.End - c.At)))
def uj (c:aK):=(anR c).val
def yG:aU Z:=E0 [UD] [] (a1 (aF dN)) (R1 cI) [] func195 1 anR
def ahQ (c:aK)(n:Int):Pg aK:=.ret (aK.mk c.Data (dD .i64 (c.At+n)) c.End c.Depth c.Nodes c.Text)
def qY (c:aK)(n:Int):=(ahQ c n).val
def IE:aU Z:=E0 [] [] (aj (aF dN) (a1 (bn cI))) (shr [.slot 0 true (nn 6)] (l1 dN)) [] func359 1 (u2 ahQ)
def mV (c:aK):Prop:=(0<=c.At/\c.At<=c.End/\c.End<=c.Data.length/\c.Data.length<=1048576)/\(0<=c.Depth/\c.Depth<=1048576)/\(0<=c.Nodes/\c.Nodes<=1099511627776)/\0<=c.Text/\c.Text<=1099511627776
def Oo (c:aK):Str:=(c.Data.take c.End.toNat).drop c.At.toNat
theorem Xi {c:aK}(h:mV c):((Oo c).length:Int)=c.End - c.At:=by
 obtain⟨⟨h1,h2,h3,h4⟩,_⟩:=h;unfold Oo;rw[PW,uP];omega
theorem Ld {c:aK}(h:mV c):Kw c=true:=by
 obtain⟨⟨h1,h2,h3,h4⟩,_⟩:=h;unfold Kw ahu;simp only[bH,kN,aV];rw[qW h1,qW h2,qW h3];rfl
theorem qG {c:aK}(h:mV c):uj c=c.End - c.At:=by
 have hs:=Ld h;obtain⟨⟨h1,h2,h3,h4⟩,_⟩:=h;unfold uj anR;simp only[bH,aV,hs,Qby,nR];exact fO (k:= .i64) zO
theorem Fb {c:aK}(h:mV c){n:Int}(h0:0<=n)(h1:n<=c.End - c.At):qY c n=aK.mk c.Data (c.At+n) c.End c.Depth c.Nodes c.Text/\mV (qY c n):=by
 obtain⟨⟨k1,k2,k3,k4⟩,k5⟩:=h;have e:qY c n=aK.mk c.Data (c.At+n) c.End c.Depth c.Nodes c.Text:=by
  unfold qY ahQ;simp only[aV];rw[fO (k:= .i64) zO]
 rw[e];exact⟨rfl,⟨by show 0<=c.At+n;omega,by show c.At+n<=c.End;omega,k3,k4⟩,k5⟩
def ajv (c:aK)(n:Int):Pg (List UInt8):=.br (!Kw c) (.ret []) (.lt (dD .i64 (c.At+n)) fun(v1:Int)=> .ob (0<=c.At/\c.At<=min c.End v1/\min c.End v1<=(↑(List.length c.Data):Int)) (.ret (List.drop c.At.toNat (List.take (min c.End v1).toNat c.Data))))
def rf (c:aK)(n:Int):=(ajv c n).val
theorem aq8 (c:aK)(n:Int)(h:mV c/\0<=n/\n<=1000):Is (ajv c n):=
 di iR (fun _=>pK fun v1 hv1 _=>aX (by obtain⟨⟨⟨h1,h2,h3,h4⟩,_⟩,h5,h6⟩:=h;omega) (aT))
def ais:aU Z:=E1 [UD] [] (aj (aF dN) (a1 (bn cI))) (R1 cStr) [] func358 1 (u2 ajv) (fun a=>mV a.1/\0<=a.2/\a.2<=1000) fun a h=>aq8 a.1 a.2 h
theorem ada {c:aK}(h:mV c){n:Nat}(h6:n<=1000):rf c n=(Oo c).take n:=by
 have hs:=Ld h;obtain⟨⟨h1,h2,h3,h4⟩,_⟩:=h;unfold rf ajv Oo;simp only[bH,dE,dK,aV,hs,Qby,nR];rw[fO (k:= .i64) zO,List.take_drop];congr 1;rw[Qc8];congr 1;omega
def ajj (c:aK):Pg (Int×aK×Int):=.lt (uj c) fun(v1:Int)=> .br (decide (v1 < 1)) (.ret (0,c,4)) (.ix c.At (List.length c.Data) (.ret ((↑(List.getD c.Data c.At.toNat 0).toNat:Int),qY c 1,0)))
def Hw (c:aK):=(ajj c).val
theorem aou (c:aK)(h:mV c):Is (ajj c):=
 dB fun v1 hv1=>dV iR (fun h2=>by rw[hv1,qG h]at h2;obtain⟨⟨k1,k2,k3,k4⟩,_⟩:=h;exact dm au au aT)
def axj:aU Z:=E1 [yG,IE] [] (a1 (aF dN)) (shr [s0 0, .slot 1 true (nn 6), s0 2] (az (gz .u8) (az dN (l1 cI)))) [] func365 3 ajj (fun a=>mV a) fun a h=>aou a h
def Qv (c:aK):Pg (Int×aK×Int):=.ob (mV c/\(0:Int)<=10/\(10:Int)<=1000) (.lt (vg (rf c 10)) fun(v1:Int×Int×Int)=> .br (v1.2.2 !=0) (.ret (0,c,v1.2.2)) (.ret (v1.1,qY c v1.2.1,0)))
def bz (c:aK):=(Qv c).val
theorem agG (c:aK)(h:mV c):Is (Qv c):=
 aX ((⟨h,by decide,by decide⟩)) (dB fun v1 hv1=>jG iR iR)
def zJ:aU Z:=E1 [avR,ais,IE] [] (a1 (aF dN)) (shr [s0 0, .slot 1 true (nn 6), s0 2] (az (gz .u64) (az dN (l1 cI)))) [] func265 3 Qv (fun a=>mV a) fun a h=>agG a h
def afp (c:aK)(n:Int):Pg (aK×Int):=.br (decide (n < 0)) (.ret (c,1)) (.br (decide (c.Nodes < n)) (.ret (c,3)) (.ret (aK.mk c.Data c.At c.End c.Depth (dD .i64 (c.Nodes - n)) c.Text,0)))
def qX (c:aK)(n:Int):=(afp c n).val
def adF:aU Z:=E0 [] [] (aj (aF dN) (a1 (bn cI))) (shr [.slot 0 true (nn 6), s0 1] (az dN (l1 cI))) [] func194 2 (u2 afp)
def ag_ (c:aK)(n:Int):Pg (aK×Int):=.br (decide (n < 0)) (.ret (c,1)) (.lt (uj c) fun(v1:Int)=> .br (decide (v1 < n)) (.ret (c,4)) (.br (decide (c.Depth < 1)) (.ret (c,17)) (.ret (aK.mk c.Data c.At (dD .i64 (c.At+n)) (dD .i64 (c.Depth - 1)) c.Nodes c.Text,0))))
def QP (c:aK)(n:Int):=(ag_ c n).val
def aoU:aU Z:=E0 [yG] [] (aj (aF dN) (a1 (bn cI))) (shr [.slot 0 true (nn 6), s0 1] (az dN (l1 cI))) [] func409 2 (u2 ag_)
def agL (c:aK)(inner:aK):Pg aK:=.br (!Kw c) (.ret c) (.br (decide (inner.End < c.At)) (.ret c) (.br (decide (c.End < inner.End)) (.ret c) (.br (decide (inner.Nodes < 0)) (.ret c) (.br (decide (c.Nodes < inner.Nodes)) (.ret c) (.ret (aK.mk c.Data inner.End c.End c.Depth inner.Nodes c.Text))))))
def EN (c:aK)(inner:aK):=(agL c inner).val
def aox:aU Z:=E0 [UD] [] (aj (aF dN) (a1 (aF dN))) (shr [.slot 0 true (nn 6)] (l1 dN)) [] func410 1 (u2 agL)
def CJ (k:Int)(c d:aK):Prop:=mV d/\d.Data=c.Data/\d.End=c.End/\d.Depth=c.Depth/\d.Text=c.Text/\d.Nodes<=c.Nodes/\c.At+k<=d.At
theorem EM {c:aK}(h:mV c){n k:Int}(h0:0<=n)(h1:n<=c.End - c.At)(hk:k<=n):CJ k c (qY c n):=by
 obtain⟨e,q⟩:=Fb h h0 h1;rw[e]at q⊢;exact⟨q,rfl,rfl,rfl,rfl,PE _,by show c.At+k<=c.At+n;omega⟩
theorem kD {a b:Int}{c d e:aK}(h1:CJ a c d)(h2:CJ b d e):CJ (a+b) c e:=by
 obtain⟨_,p2,p3,p4,p5,p6,p7⟩:=h1;obtain⟨q1,q2,q3,q4,q5,q6,q7⟩:=h2;exact⟨q1,q2.trans p2,q3.trans p3,q4.trans p4,q5.trans p5,by omega,by omega⟩
theorem kR {a b:Int}{c d:aK}(h:CJ a c d)(hb:b<=a):CJ b c d:=by
 obtain⟨p1,p2,p3,p4,p5,p6,p7⟩:=h;exact⟨p1,p2,p3,p4,p5,p6,by omega⟩
theorem kM {a:Int}:(a !=0)=false ↔ a=0:=by simp
theorem lH {c:aK}(h:mV c):lK (bz c).1/\((bz c).2.2=0->CJ 1 c (bz c).2.1/\(bz c).2.1.Nodes=c.Nodes):=by
 have k:=asv (rf c 10);have hl:=Xi h;have eh:=ada h (n:=10) lY;unfold bz Qv;simp only[dK,dE,bH,aV];cases e:(vg (rf c 10)).2.2 !=0 with
 | true=>
  refine⟨by show(0:Int)<=0/\(0:Int) < 18446744073709551616;decide,fun h0=> ?_⟩;have h0:(vg (rf c 10)).2.2=0:=h0;rw[h0]at e;cases e
 | false=>
  have e0:=kM.1 e;refine⟨k.1,fun _=> ?_⟩;have hlen:(rf c 10).length<=(Oo c).length:=by
   rw[show rf c 10=(Oo c).take 10 from eh,uP];omega
  refine⟨EM h k.2.1 (by have:=k.2.2.1;omega) (k.2.2.2.2 e0),rfl⟩
def acB (s:Str):Pg (Int×Int):=.br (decide ((↑(List.length s):Int) < 8)) (.ret (0,4)) (.cnt qw 0 8 (fun(i1 y2:Int)=> .ix i1 (List.length s) (.lt (dD .i64 (8*i1)) fun(v3:Int)=> .ob (0<=v3) (rl (orI .u64 y2 (WQ .u64 (dD .u64 (↑(List.getD s i1.toNat 0).toNat:Int)) v3))))) (fun(i1 y2:Int)=> .ret (y2,0)) 0)
def Dn (s:Str):=(acB s).val
theorem ass (s:Str):Is (acB s):=
 dV iR (fun _=>RX au au (fun i1 y2 _ _=>dm au au (pK fun v3 hv3 _=>aX au (aT))) (fun i1 y2 _ _=>aT))
def axd:aU Z:=E0 [] [jS 5 (bP (fun sl=>[s0 9, s0 4]) (az cI (l1 (gz .u64))))] (a1 (bn cStr)) (shr [s0 0, s0 1] (az (gz .u64) (l1 cI))) [] func413 2 acB fun a=>ass a
def SQ (c:aK):Pg (Int×aK×Int):=.ob (mV c/\(0:Int)<=8/\(8:Int)<=1000) (.lt (Dn (rf c 8)) fun(v1:Int×Int)=> .br (v1.2 !=0) (.ret (0,c,v1.2)) (.ret (v1.1,qY c 8,0)))
def xQ (c:aK):=(SQ c).val
theorem aln (c:aK)(h:mV c):Is (SQ c):=
 aX ((⟨h,by decide,by decide⟩)) (dB fun v1 hv1=>jG iR iR)
def ad5:aU Z:=E1 [ais,IE,axd] [] (a1 (aF dN)) (shr [s0 0, .slot 1 true (nn 6), s0 2] (az (gz .u64) (az dN (l1 cI)))) [] func371 3 SQ (fun a=>mV a) fun a h=>aln a h
def aam (c:aK)(n:Int):Pg (List Int):=.lt (dD .i64 (c.At+n)) fun(v1:Int)=> .ob (0<=c.At/\c.At<=v1/\v1<=(↑(List.length c.Data):Int)) (.ob (0<=n/\n=n/\n<=(↑(Vp (List.drop c.At.toNat (List.take v1.toNat c.Data))).length:Int)) (.ret (List.take n.toNat (Vp (List.drop c.At.toNat (List.take v1.toNat c.Data))))))
def aaV (c:aK)(n:Int):=(aam c n).val
theorem alL (c:aK)(n:Int)(h:mV c/\0<=n/\n<=c.End - c.At):Is (aam c n):=
 pK fun v1 hv1 _=>aX (by obtain⟨⟨⟨h1,h2,h3,h4⟩,_⟩,h5,h6⟩:=h;omega) (aX (by obtain⟨⟨⟨h1,h2,h3,h4⟩,_⟩,h5,h6⟩:=h;rw[yE,PW,uP];omega) (aT))
def an3:aU Z:=E1 [] [] (aj (aF dN) (a1 (bn cI))) (R1 MP) [] func440 1 (u2 aam) (fun a=>mV a.1/\0<=a.2/\a.2<=a.1.End - a.1.At) fun a h=>alL a.1 a.2 h
def adJ (c:aK)(n:Int):Pg (List UInt8×aK×Int):=.br (decide (n < 0)) (.ret ([],c,1)) (.lt (uj c) fun(v1:Int)=> .br (decide (v1 < n)) (.ret ([],c,4)) (.br (decide (c.Text < n)) (.ret ([],c,3)) (.br (n==0) (.ret ([],c,0)) (.ob (mV c/\0<=n/\n<=c.End - c.At) (.lt (aaV c n) fun(v2:List Int)=> .ob (HY (fun(i:Nat)=>true) v2.length=true) (.ret (txU v2,qY c n,0)))))))
def yS (c:aK)(n:Int):=(adJ c n).val
theorem asW (c:aK)(n:Int)(h:mV c):Is (adJ c n):=
 dV iR (fun _=>dB fun v1 hv1=>dV iR (fun _=>dV iR (fun _=>lh iR (fun _=>aX ((⟨h,by omega,by rw[<-qG h];omega⟩)) (dB fun v2 hv2=>aX (ww (fun _=>rfl) _) (aT))))))
def axA:aU Z:=E1 [yG,IE,an3] [] (aj (aF dN) (a1 (bn cI))) (shr [s0 0, .slot 1 true (nn 6), s0 2] (az cStr (az dN (l1 cI)))) [] func411 3 (u2 adJ) (fun a=>mV a.1) fun a h=>asW a.1 a.2 h
theorem an9 {c:aK}(h:mV c){v2:Int×aK×Int}(hv2:v2=bz c)(h0:v2.2.2=0){v3 v4 v5:Int}(hv3:v3=dD .u64 (uj v2.2.1))(hv4:v4=dD .i64 v2.1)(hv5:v5=dD .i64 (v2.2.1.At+v4))(hle:¬v3 < v2.1):0<=v2.2.1.At/\v2.2.1.At<=v5/\v5<=(v2.2.1.Data.length:Int):=by
 obtain⟨ku,k⟩:=lH h;rw[<-hv2]at ku k;obtain⟨⟨k1,_⟩,_⟩:=k h0;have kl:=qG k1;obtain⟨⟨q1,q2,q3,q4⟩,_⟩:=k1;obtain⟨u1,u2⟩:=ku;rw[kl,fO (k:= .u64) zO]at hv3;rw[fO (k:= .i64) zO]at hv4;rw[fO (k:= .i64) zO]at hv5;omega
def ax3 (c:aK):Pg (Int×Int×aK×Int):=.ob (mV c) (.lt (bz c) fun(v1:Int×aK×Int)=> .br (v1.2.2 !=0) (.ret (0,0,c,v1.2.2)) (.ob ((8:Int)≠0) (.br (v1.1.tmod (8:Int)==7) (.ret (0,0,c,5)) (.ob ((8:Int)≠0) (.lt (dD .u64 (v1.1.tdiv 8)) fun(v2:Int)=> .br (decide (v2 < 1)) (.ret (0,0,c,6)) (.ob ((8:Int)≠0) (.br (decide (65535 < v2)) (.ret (0,0,c,6)) (.ob ((8:Int)≠0) (.ob ((8:Int)≠0) (.ret (dD .i64 v2,dD .i64 (v1.1.tmod 8),v1.2.1,0)))))))))))
def tK (c:aK):=(ax3 c).val
def ahK:aU Z:=E1 [zJ] [] (a1 (aF dN)) (shr [s0 0, s0 1, .slot 2 true (nn 6), s0 3] (az cI (az cI (az dN (l1 cI))))) [] func196 4 ax3 fun a=>mV a
def acF (c:aK)(wire:Int):Pg (List UInt8×aK×Int):=.ob (mV c) (.lt (bz c) fun(v2:Int×aK×Int)=> .br (v2.2.2 !=0) (.ret ([],c,v2.2.2)) (.cut (fun(y1:Int)=> .lt (dD .u64 (uj v2.2.1)) fun(v3:Int)=> .br (decide (v3 < v2.1)) (.ret ([],c,4)) (.lt (dD .i64 v2.1) fun(v4:Int)=> .br (decide (y1 < v4)) (.ret ([],c,3)) (.lt (dD .i64 (v2.2.1.At+v4)) fun(v5:Int)=> .ob (0<=v2.2.1.At/\v2.2.1.At<=v5/\v5<=(↑(List.length v2.2.1.Data):Int)) (.ret (List.drop v2.2.1.At.toNat (List.take v5.toNat v2.2.1.Data), aK.mk v2.2.1.Data v5 v2.2.1.End v2.2.1.Depth v2.2.1.Nodes v2.2.1.Text,0))))) (.br (wire==3) (rl c.Text) (rl 65536))))
def Bh (c:aK)(wire:Int):=(acF c wire).val
theorem aru (c:aK)(wire:Int)(h:mV c):Is (acF c wire):=
 aX (h) (dB fun v2 hv2=>jG iR (fun _=>oQ (lh iR iR) (fun y1 hy1=>dB fun v3 hv3=>dV iR (fun _=>pK fun v4 hv4 _=>dV iR (fun _=>pK fun v5 hv5 _=>aX ((an9 h hv2 au hv3 hv4 hv5 au)) (aT))))))
def axq:aU Z:=E1 [yG,zJ] [jS 100007 (bP (fun sl=>[s0 10]) (l1 cI))] (aj (aF dN) (a1 (bn cI))) (shr [s0 0, .slot 1 true (nn 6), s0 2] (az cStr (az dN (l1 cI)))) [] func372 3 (u2 acF) (fun a=>mV a.1) fun a h=>aru a.1 a.2 h
theorem adr {s:Str}(h:(Dn s).2=0):8<=s.length:=by
 rcases Qde s.length 8 with h8 | h8
 ·unfold Dn acB at h;simp only[bH,aV]at h;rw[qW (show(s.length:Int) < 8 by omega)]at h;cases h
 ·exact h8
theorem VH {c:aK}(h:mV c)(h0:(xQ c).2.2=0):CJ 1 c (xQ c).2.1/\(xQ c).2.1.Nodes=c.Nodes:=by
 have hl:=Xi h;have eh:=ada h (n:=8) lY;unfold xQ SQ at h0⊢;simp only[dK,dE,bH,aV]at h0⊢;cases e:(Dn (rf c 8)).2 !=0 with
 | true=>
  rw[e]at h0;have h0:(Dn (rf c 8)).2=0:=h0;rw[h0]at e;cases e
 | false=>
  have h8:=adr (kM.1 e);have hlen:(rf c 8).length<=(Oo c).length:=by
   rw[show rf c 8=(Oo c).take 8 from eh,uP];omega
  exact⟨EM h lY au lY,rfl⟩
theorem ant {c:aK}(h:mV c){n:Int}(h0:(yS c n).2.2=0):CJ 0 c (yS c n).2.1/\(yS c n).2.1.Nodes=c.Nodes/\(0<=n/\n<=c.End - c.At)/\(yS c n).2.1.At=c.At+n:=by
 have hl:=qG h;unfold yS adJ at h0⊢;simp only[dK,dE,bH,aV]at h0⊢;by_cases h1:n < 0
 ·rw[qW h1]at h0;cases h0
 rw[qo h1]at h0⊢;by_cases h2:uj c < n
 ·rw[qW h2]at h0;cases h0
 rw[qo h2]at h0⊢;by_cases h3:c.Text < n
 ·rw[qW h3]at h0;cases h0
 rw[qo h3];rw[hl]at h2;cases h4:n==0 with
 | true=>
  have h4:n=0:=by simpa using h4
  subst h4;exact⟨⟨h,rfl,rfl,rfl,rfl,PE _,by show c.At+0<=c.At;omega⟩,rfl,⟨PE _,by omega⟩,by show c.At=c.At+0;omega⟩
 | false=>
  refine⟨EM h au au au,rfl,⟨by omega,by omega⟩,?_⟩;show(qY c n).At=_
  rw[(Fb h (n:=n) au au).1]
theorem zl {c:aK}(h:mV c)(h0:(tK c).2.2.2=0):CJ 1 c (tK c).2.2.1/\(tK c).2.2.1.Nodes=c.Nodes:=by
 obtain⟨_,k⟩:=lH h;unfold tK ax3 at h0⊢;simp only[dK,dE,bH,aV]at h0⊢;cases e:(bz c).2.2 !=0 with
 | true=>
  rw[e]at h0;have h0:(bz c).2.2=0:=h0;rw[h0]at e;cases e
 | false=>
  rw[e]at h0;simp only[nR]at h0⊢;cases e2:(bz c).1.tmod 8==7 with
  | true=>rw[e2]at h0;cases h0
  | false=>
   rw[e2]at h0;simp only[nR]at h0⊢;by_cases e3:dD .u64 ((bz c).1.tdiv 8) < 1
   ·rw[qW e3]at h0;cases h0
   ·rw[qo e3]at h0⊢;by_cases e4:65535 < dD .u64 ((bz c).1.tdiv 8)
    ·rw[qW e4]at h0;cases h0
    ·rw[qo e4];exact k (kM.1 e)
theorem alx {c:aK}(h:mV c){wire:Int}(h0:(Bh c wire).2.2=0):CJ 1 c (Bh c wire).2.1/\(Bh c wire).2.1.Nodes=c.Nodes:=by
 obtain⟨ku,k⟩:=lH h;unfold Bh acF at h0⊢;simp only[dK,dE,bH,aV,mr]at h0⊢;cases e:(bz c).2.2 !=0 with
 | true=>
  rw[e]at h0;have h0:(bz c).2.2=0:=h0;rw[h0]at e;cases e
 | false=>
  obtain⟨ka,kn⟩:=k (kM.1 e);have kok:=ka.1;have kl:=qG kok;have hw:thenS (bif wire==3 then(Sum.inl c.Text:Int⊕(Str×aK×Int))else Sum.inl 65536)=thenS (.inl (bif wire==3 then c.Text else 65536)):=by cases wire==3<;>rfl
  rw[e]at h0;simp only[nR]at h0⊢;rw[hw]at h0⊢;simp only[oO]at h0⊢;obtain⟨⟨q1,q2,q3,q4⟩,q5⟩:=kok;obtain⟨u1,u2⟩:=ku;rw[kl,fO (k:= .u64) zO]at h0⊢;by_cases e2:(bz c).2.1.End - (bz c).2.1.At < (bz c).1
  ·rw[qW e2]at h0;cases h0
  rw[qo e2]at h0⊢;rw[fO (k:= .i64) zO]at h0⊢;by_cases e3:(bif wire==3 then c.Text else 65536) < (bz c).1
  ·rw[qW e3]at h0;cases h0
  rw[qo e3];simp only[nR];rw[fO (k:= .i64) zO];obtain⟨_,p2,p3,p4,p5,p6,p7⟩:=ka;exact⟨⟨⟨⟨by show 0<=(bz c).2.1.At+(bz c).1;omega,by show(bz c).2.1.At+(bz c).1<=(bz c).2.1.End;omega,q3,q4⟩,q5⟩,p2,p3,p4,p5,p6,by show c.At+1<=(bz c).2.1.At+(bz c).1;omega⟩,kn⟩
def zY (c:aK)(f:Raw):Pg (aK×Int×Raw):=.cut (fun(y1:Bool)=> .br y1 (.ob (mV c) (.lt (bz c) fun(v2:Int×aK×Int)=> .ret (v2.2.1,v2.2.2,Raw.mk f.Num f.fA v2.1 f.Data))) (.br (f.fA==2) (.ob (mV c) (.lt (xQ c) fun(v3:Int×aK×Int)=> .ret (v3.2.1,v3.2.2,Raw.mk f.Num f.fA v3.1 f.Data))) (.ob (mV c) (.lt (Bh c f.fA) fun(v4:Str×aK×Int)=> .ret (v4.2.1,v4.2.2,Raw.mk f.Num f.fA f.Bits v4.1))))) (.br (f.fA==0) (rl (f.fA==0)) (rl (f.fA==1)))
def iQ (c:aK)(f:Raw):=(zY c f).val
def adz:aU Z:=EK [zJ,ad5,axq] [jS 100006 (bP (fun sl=>[s0 24]) (l1 aG))] (aj (aF dN) (a1 (iM 0))) (b1 (aP og)) (shr [.slot 0 true (nn 6), s0 1, .cells 0 (nn 4)] (az dN (az cI (l1 og)))) [] func272 2 (u11 zY) fun a=>mV a.1.1
theorem ahM {c:aK}(h:mV c){n:Int}(h0:(qX c n).2=0):qX c n=(aK.mk c.Data c.At c.End c.Depth (c.Nodes - n) c.Text,0)/\0<=n/\n<=c.Nodes:=by
 obtain⟨q1,q2,⟨q3,q4⟩,q5⟩:=h;unfold qX afp at h0⊢;simp only[bH,aV]at h0⊢;by_cases h1:n < 0
 ·rw[qW h1]at h0;cases h0
 rw[qo h1]at h0⊢;by_cases h2:c.Nodes < n
 ·rw[qW h2]at h0;cases h0
 rw[qo h2];have w:dD .i64 (c.Nodes - n)=c.Nodes - n:=fO (k:= .i64) zO;rw[w];exact⟨rfl,by omega,by omega⟩
theorem wV {c:aK}(h:mV c){n:Int}(h0:(qX c n).2=0):CJ 0 c (qX c n).1/\(qX c n).1.Nodes=c.Nodes - n/\(qX c n).1.At=c.At/\0<=n/\n<=c.Nodes:=by
 obtain⟨e,k1,k2⟩:=ahM h h0;obtain⟨q1,q2,⟨q3,q4⟩,q5⟩:=h;rw[e];exact⟨⟨⟨q1,q2,⟨by show 0<=c.Nodes - n;omega,by show c.Nodes - n<=1099511627776;omega⟩,q5⟩,rfl,rfl,rfl,rfl,by show c.Nodes - n<=c.Nodes;omega,by show c.At+0<=c.At;omega⟩,rfl,rfl,k1,k2⟩
theorem F9 {c:aK}(h:mV c){f:Raw}(h0:(iQ c f).2.1=0):CJ 1 c (iQ c f).1/\(iQ c f).1.Nodes=c.Nodes:=by
 have hw:∀K:Bool->aK×Int×Raw,(thenS (bif f.fA==0 then(Sum.inl (f.fA==0):Bool⊕(aK×Int×Raw))else Sum.inl (f.fA==1)) K)=K (bif f.fA==0 then true else f.fA==1):=fun K=>by cases e:f.fA==0<;>rfl
 unfold iQ zY at h0⊢;simp only[dK,dE,bH,aV,mr]at h0⊢;rw[hw]at h0⊢;cases e:(bif f.fA==0 then true else f.fA==1)with
 | true=>rw[e]at h0;exact(lH h).2 h0
 | false=>
  rw[e]at h0;cases e2:f.fA==2 with
  | true=>rw[e2]at h0;exact VH h h0
  | false=>rw[e2]at h0;exact alx h h0
def Y0 (c:aK):Pg (Raw×aK×Int):=.ob (mV c) (.lt (tK c) fun(v1:Int×Int×aK×Int)=> .br (v1.2.2.2 !=0) (.ret (Raw.mk 0 0 0 [],c,v1.2.2.2)) (.lt (qX v1.2.2.1 1) fun(v2:aK×Int)=> .br (v2.2 !=0) (.ret (Raw.mk 0 0 0 [],c,v2.2)) (.ob (mV v2.1) (.lt (iQ v2.1 (Raw.mk v1.1 v1.2.1 0 [])) fun(v3:aK×Int×Raw)=> .br (v3.2.1 !=0) (.ret (Raw.mk 0 0 0 [],c,v3.2.1)) (.ret (v3.2.2,v3.1,0))))))
def vF (c:aK):=(Y0 c).val
theorem aqs (c:aK)(h:mV c):Is (Y0 c):=
 aX (h) (dB fun v1 hv1=>jG iR (fun _=>dB fun v2 hv2=>jG iR (fun _=>aX (by have k:=(zl h (by rw[<-hv1];omega)).1.1;rw[<-hv1]at k;have k2:=(wV k (n:=1) (by rw[<-hv2];omega)).1.1;rw[<-hv2]at k2;exact k2) (dB fun v3 hv3=>jG iR iR))))
def axo:aU Z:=E1 [adF,ahK,adz] [] (a1 (aF dN)) (shr [.slot 0 true (nn 4), .slot 1 true (nn 6), s0 2] (az og (az dN (l1 cI)))) [] func198 3 Y0 (fun a=>mV a) fun a h=>aqs a h
theorem al3 {c:aK}(h:mV c)(h0:(vF c).2.2=0):CJ 2 c (vF c).2.1:=by
 have k:=zl h;unfold vF Y0 at h0⊢;simp only[dK,dE,bH,aV]at h0⊢;generalize tK c=v1 at*;cases e:v1.2.2.2 !=0 with
 | true=>
  rw[e]at h0;have h0:v1.2.2.2=0:=h0;rw[h0]at e;cases e
 | false=>
  obtain⟨k1,k2⟩:=k (kM.1 e);rw[e]at h0;simp only[nR]at h0⊢;have s:=wV k1.1 (n:=1);generalize qX v1.2.2.1 1=v2 at*;cases e2:v2.2 !=0 with
  | true=>
   rw[e2]at h0;have h0:v2.2=0:=h0;rw[h0]at e2;cases e2
  | false=>
   obtain⟨s1,_⟩:=s (kM.1 e2);rw[e2]at h0;simp only[nR]at h0⊢;have t:=F9 s1.1 (f:=Raw.mk v1.1 v1.2.1 0 []);generalize iQ v2.1 (Raw.mk v1.1 v1.2.1 0 [])=v3 at*;cases e3:v3.2.1 !=0 with
   | true=>
    rw[e3]at h0;have h0:v3.2.1=0:=h0;rw[h0]at e3;cases e3
   | false=>exact kR (kD k1 (kD s1 (t (kM.1 e3)).1)) lY
def apL (g:bu)(name:Str):Pg Bool:=.ret (g.Name==name)
def Z8 (g:bu)(name:Str):=(apL g name).val
def acw:aU Z:=vX [] [] (aj (aF iF) (a1 (iM 0))) (b1 (aP cStr)) (R1 aG) [0] func135 1 (u11 apL)
def wU:aU Z:=GG [acw] jk 135 [0] (b1 (aP cStr)) func134 bU fun x b=>Z8 x b
def asO (p:dC)(name:Str):Pg (Int×Bool):=.lt (fG (fun(x:bu)=>Z8 x name) p.a_) fun(v1:Int)=> .ret (max v1 0,decide (0<=v1))
def zf (p:dC)(name:Str):=(asO p name).val
def aaT:aU Z:=E0 [wU,acw] [] (aj (aF dX) (a1 (bn cStr))) (shr [s0 0, s0 1] (az cI (l1 aG))) [] func85 2 (u2 asO)
def aGc (o:Op)(num:Int):Pg Bool:=.ret (o.Num==num)
def aeV (o:Op)(num:Int):=(aGc o num).val
def ahm:aU Z:=vX [] [] (aj (aF je) (a1 (iM 0))) (b1 (aP cI)) (R1 aG) [0] func276 1 (u11 aGc)
def Nr:aU Z:=GG [ahm] nG 276 [0] (b1 (aP cI)) func374 zT fun x b=>aeV x b
def ajF (g:bu)(num:Int):Pg (Op×Bool):=.lt (fG (fun(x:Op)=>aeV x num) g.Ops) fun(v1:Int)=> .br (decide (v1 < 0)) (.ret (Op.mk 0 [] [] 0 0 0 0 0,false)) (.ix v1 g.Ops.length (.ret (g.Ops.getD v1.toNat zT,true)))
def aoj (g:bu)(num:Int):=(ajF g num).val
theorem arN (g:bu)(num:Int):Is (ajF g num):=
 dB fun v1 hv1=>dV iR (fun _=>dm au (by rw[hv1];exact(lF (fun(x:Op)=>aeV x num) g.Ops).1) aT)
def avf:aU Z:=vX [ahm,Nr] [] (aj (aCH 276 [0]) (a1 (aF iF))) (b1 (aP cI)) (shr [.slot 0 true (nn 8), s0 1] (az je (l1 aG))) [0] func277 2 (fun a=>ajF a.1.2 a.2) fun a=>arN a.1.2 a.2
def pOp (g:bu)(num:Int):Pg (Op×Bool):=.ret (aoj g num)
def lM (g:bu)(num:Int):=(pOp g num).val
def Ov:aU Z:=E0 [ahm,avf] [] (aj (aF iF) (a1 (bn cI))) (shr [.slot 0 true (nn 8), s0 1] (az je (l1 aG))) [] func202 2 (u2 pOp)
def azR (it:Item)(num:Int):Pg Bool:=.ret (dD .u64 it.Num==num)
def aho (it:Item)(num:Int):=(azR it num).val
def aa4:aU Z:=vX [] [] (aj (aF lS) (a1 (iM 0))) (b1 (aP (gz .u64))) (R1 aG) [0] func398 1 (u11 azR)
def Ji:aU Z:=GG [aa4] g_ 398 [0] (b1 (aP (gz .u64))) func251 oU fun x b=>aho x b
def Jr:aU Z:=EAB [Ji,aa4] g_ 398 [0] (b1 (aP (gz .u64))) func171 fun x b=>aho x b
def aG4 (p:dC)(enum:Int)(num:Int):Pg Bool:=.br (decide (enum < 0)) (.ret false) (.br (decide ((↑p.Enums.length:Int)<=enum)) (aL p.Enums (.ret false)) (aL p.Enums (.br (decide (2147483647 < num)) (.ret false) (.ix enum p.Enums.length (.br (p.Enums.getD enum.toNat nD).Open (.ret true) (.ret ((p.Enums.getD enum.toNat nD).Items.any fun(x:Item)=>aho x num)))))))
def aig (p:dC)(enum:Int)(num:Int):=(aG4 p enum num).val
def afM:aU Z:=E0 [Jr,aa4] [] (aj (aF dX) (aj (bn cI) (a1 (bn (gz .u64))))) (R1 aG) [] func334 1 (u3 aG4)
def ajW (o:Op):Pg Bool:=.br (o.Card==4) (.br (decide (1<=o.Kind)) (.br (decide (o.Kind<=6)) (.ret true) (.ret (o.Kind==9))) (.ret (o.Kind==9))) (.ret false)
def lu (o:Op):=(ajW o).val
def wC:aU Z:=E0 [] [] (a1 (aF je)) (R1 aG) [] func267 1 ajW
def azq (o:Op):Pg Int:=.br (o.Card==5) (.ret 6) (.br (lu o) (.ret 5) (.cut (fun(y1:Bool)=> .br y1 (.ret 0) (.cut (fun(y2:Bool)=> .br y2 (.ret 1) (.br (o.Kind==6) (.ret 2) (.br (o.Kind==7) (.br (o.Kind==7) (.ret 3) (.br (o.Kind==10) (.ret 4) (.ret (-1)))) (.br (o.Kind==8) (.ret 3) (.br (o.Kind==10) (.ret 4) (.ret (-1))))))) (.br (o.Kind==2) (rl (o.Kind==2)) (rl (o.Kind==3))))) (.br (o.Kind==1) (rl (o.Kind==1)) (.br (o.Kind==4) (rl (o.Kind==4)) (.br (o.Kind==5) (rl (o.Kind==5)) (rl (o.Kind==9)))))))
def agX (o:Op):=(azq o).val
def ajG:aU Z:=E0 [wC] [jS 100010 (bP (fun sl=>[s0 12]) (l1 aG)),jS 100013 (bP (fun sl=>[s0 17]) (l1 aG))] (a1 (aF je)) (R1 cI) [] func366 1 azq
def ay8 (o:Op):Pg Int:=.ret (agX (Op.mk o.Num o.Name o.Alias 2 o.Key o.Kind o.Target o.Union))
def CU (o:Op):=(ay8 o).val
def KI:aU Z:=E0 [ajG] [] (a1 (aF je)) (R1 cI) [] func269 1 ay8
def arH (v:af)(num:Int):Pg (af×Bool):=aL v.Slots (.each false tX v.Slots bI (fun i1 a3 (y2:Unit)=> .ix i1 v.Slots.length (.br (a3.Num==num) (.ret (.inr (a3.Val.re,true))) (rl ()))) (fun i1 (y2:Unit)=> .ret (af.mk 0 0 [] [] [] [] [],false)) ())
def f_ (v:af)(num:Int):=(arH v num).val
def Jy:aU Z:=E0 [] [jS 2 (bP (fun sl=>[s0 11]) (l1 cI))] (aj (aF aI) (a1 (bn cI))) (shr [.slot 0 true (nn 7), s0 1] (az aI (l1 aG))) [] func136 2 (u2 arH)
def ag5 (x:af):Pg (List af):=.br (x.Kind==11) (.ret x.List) (.br (x.Kind==12) (aL x.Pairs (.each false qw x.Pairs gG (fun i1 a3 (y2:List af)=> .ix i1 x.Pairs.length (.ob (bT (y2.length+1) 128) (rl (y2++[a3.Val.re])))) (fun i1 (y2:List af)=> .ret y2) [])) (.ret [x.re]))
def avE (x:af):=(ag5 x).val
theorem UH (x:af)(h:x.Pairs.length<=1048576):jP (ag5 x) (fun r=>∀y∈r,y∈x.List\/(∃p∈x.Pairs,y=p.Val)\/y=x):=
 dO (fun _=>ah qal) (fun _=>dO (fun _=>bZ <| df (fun(i1:Nat) y2=>y2.length<=i1/\∀z∈y2,∃p∈x.Pairs,z=p.Val) (by exact⟨lU 0,fun _ hz=>absurd hz oJ⟩) au (fun i1 y2 qP rD=>have hI:y2.length<=i1/\∀z∈y2,∃p∈x.Pairs,z=p.Val:=rD;bi au au (ak (qbj) (ah qal))) (fun y2 hI=>have hI:y2.length<=x.Pairs.length/\∀z∈y2,∃p∈x.Pairs,z=p.Val:=hI;ah qal)) (fun _=>ah qal))
def atA:aU Z:=E1 [] [jS 7 (bP (fun sl=>[s0 17, .slot 3 false [some 77]]) (az cI (l1 jh)))] (a1 (aF aI)) (R1 jh) [] func137 1 ag5 (fun a=>a.Pairs.length<=1048576) fun a h=>(UH a h).1
end
end Go.Proofs.YtihakigfhcankaaGreatDoor
