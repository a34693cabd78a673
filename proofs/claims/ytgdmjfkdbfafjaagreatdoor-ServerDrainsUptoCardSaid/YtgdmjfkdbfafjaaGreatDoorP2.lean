/- Server: messages that have finite values. -/
import Derived.Test.YtgdmjfkdbfafjaaGreatDoorP1
namespace Go.Proofs.YtgdmjfkdbfafjaaGreatDoor
noncomputable section
open Go.RowKit Go.Vc
open Tryz
set_option linter.unusedVariables false
set_option linter.unusedSimpArgs false
set_option maxRecDepth 100000
def aIo (n:Str)(s:ay)(a:List (Str×Bool)):Pg Bool:=.br (jb s n).2 (.ret !mZ Ee.z a n) (.ret false)
def NZ (n:Str)(s:ay)(a:List (Str×Bool)):=(aIo n s a).val
def akO:aZ Z:=xx [yA] [] (ak (bC cStr) (ak (jf 0) (a1 (jf 1)))) (ja (aV bH) (ja (ac6 2) (b1 (arH D.oV og)))) (R1 aG) [0,1,2] func134 1 fun a=>aIo a.1.1 a.2.1 a.2.2.2
def aFa (l:List Str)(s:ay)(b:List (Str×Bool)):Pg Int:=aL l (.each false uj l [] (fun a c (d:Unit)=> .ix a l.length (.br (NZ c s b) (.ret (.inr a)) (rl ()))) (fun a (d:Unit)=> .ret (-1)) ())
theorem axw (l:List Str)(s:ay)(a:List (Str×Bool)):Is (aFa l s a):=
 gp fun _=>gU (.inr au) (fun c b _ _=>b_ au au (aT iR iR)) (fun b _=>aQ)
def S_:aZ Z:=SI [akO] [jS 2 (bI (fun c=>[s0 8]) (l1 cI))] (ak (bC bV) (a1 (lH 134 [0,1]))) (ja (aV bH) (ja (ac6 2) (b1 (arH D.oV og)))) (R1 cI) [0,1,2] func194 1 (fun a=>aFa a.1.1 a.2.1 a.2.2.2) (fun a=>none) (fun a=>fM (fun(x:Str)=>NZ x a.2.1 a.2.2.2) a.1.1) fun a h=>⟨axw a.1.1 a.2.1 a.2.2.2,(fun(l:List Str) s b=>oK (fun(x:Str)=>NZ x s b) l 0) a.1.1 a.2.1 a.2.2.2⟩
def aL8 (l:List Str)(s:ay)(a:List (Str×Bool)):Pg Bool:=.lt (fM (fun(x:Str)=>NZ x s a) l) fun b=> .ret (decide (0<=b))
theorem aDO (l:List Str)(s:ay)(a:List (Str×Bool)):Is (aL8 l s a):=
 dI fun c b=>aQ
def acO:aZ Z:=SI [akO,aif,S_] [] (ak (bC bV) (a1 (lH 134 [0,1]))) (ja (aV bH) (ja (ac6 2) (b1 (arH D.oV og)))) (R1 aG) [0,1,2] func129 1 (fun a=>aL8 a.1.1 a.2.1 a.2.2.2) (fun a=>none) (fun a=>a.1.1.any fun(x:Str)=>NZ x a.2.1 a.2.2.2) fun a h=>⟨aDO a.1.1 a.2.1 a.2.2.2,(fun(l:List Str) s b=>qR _ l) a.1.1 a.2.1 a.2.2.2⟩
theorem zI (s:ay)(a:Str):jb s a=bif decide (fM (fun(x:aO)=>x.Name==a) s.Messages < 0)then(aO.mk [] [] [] [] [],false)else(s.Messages.getD (fM (fun(x:aO)=>x.Name==a) s.Messages).toNat dP,true):=by
 unfold jb Nh;simp only[cZ,bf,eU,aI];rfl
theorem SG (s:ay)(a:Str)(h:∀m∈s.Messages,m.Fields.length<=1048576):(jb s a).1.Fields.length<=1048576:=by
 rw[zI];have c:=mO (fun(x:aO)=>x.Name==a) s.Messages;by_cases b:fM (fun(x:aO)=>x.Name==a) s.Messages < 0
 ·rw[rY b];exact ve _
 ·rw[qM b];exact h _ (getD_mem au)
def Td (s:ay):Pg (List (Str×Bool)):=.lt (dA .i64 ((↑s.Messages.length:Int)+1)) fun f=> .cnt oZ 0 f (fun g (b:List (Str×Bool))=> aL s.Messages (.each false oZ s.Messages dP (fun d e (a:List (Str×Bool))=> .ix d s.Messages.length (.lt (jb s e.Name) fun c=> .ob (c.1.Fields.length<=1048576) (.br (!(MH c.1).any fun(x:Str)=>NZ x s a) (rl (qO a e.Name true)) (rl a)))) (fun d (a:List (Str×Bool))=> rl a) b)) (fun g (b:List (Str×Bool))=> .ret b) []
def oM (s:ay):=(Td s).val
theorem akx (s:ay)(h:s.Messages.length<=1048576/\∀m∈s.Messages,m.Fields.length<=1048576):Is (Td s):=
 ni fun f e _=>O7 au au (fun c d _ _=>gp fun _=>gU (.inr au) (fun i b _ _=>b_ au au (dI fun g a=>aY (by rw[a];exact SG s _ h.2) (aT iR iR))) (fun b _=>aQ)) (fun c d _ _=>aQ)
def aqh:aZ Z:=E1 [agF,acO,yA,agD,akO] [jS 3 (bI (fun b=>[s0 14, .afg (pid (b 9))]) (aB cI (l1 mr))),jS 5 (bI (fun b=>[s0 19, .afg (pid (b 9))]) (aB cI (l1 mr)))] (a1 (aJ bH)) (R1 mr) [] func70 1 Td (fun a=>a.Messages.length<=1048576/\∀m∈a.Messages,m.Fields.length<=1048576) fun a h=>akx a h
def aI3 (x:Str)(s:ay)(a:List (Str×Bool)):Pg Bool:=.br (jb s x).2 (.ret !mZ Ee.z a x) (.ret false)
def ama (x:Str)(s:ay)(a:List (Str×Bool)):=(aI3 x s a).val
def akm:aZ Z:=xx [yA] [] (ak (bC cStr) (ak (jf 0) (a1 (jf 1)))) (ja (aV bH) (b1 (aV mr))) (R1 aG) [0,1] func205 1 fun a=>aI3 a.1.1 a.2.1 a.2.2
def aln:aZ Z:=Jf [akm] bV 205 [0,1] (ja (aV bH) (b1 (aV mr))) func194 [] fun x b=>ama x b.1 b.2
def ajl:aZ Z:=EAB [aif,S_,aln,akm] bV 205 [0,1] (ja (aV bH) (b1 (aV mr))) func129 fun x b=>ama x b.1 b.2
def adl (s:ay)(m:aO)(a:List (Str×Bool)):Pg Bool:=.ob (m.Fields.length<=1048576) (.ret ((MH m).any fun(x:Str)=>ama x s a))
def Bo (s:ay)(m:aO)(a:List (Str×Bool)):=(adl s m a).val
def arB:aZ Z:=E1 [agF,acO,ajl,agD,akm] [] (ak (aJ bH) (ak (aJ gu) (a1 (bC mr)))) (R1 aG) [] func139 1 (u3 adl) fun a=>a.2.1.Fields.length<=1048576
def unl (a:Bool)(e:Int)(x:ax):Pg ax:=.br (!a) (.ob (bZ (x.out.length+1) 32) (.ret (ax.mk x.rP x.num (x.out++[eY.mk x.rP x.num e])))) (.ret x)
def iI (a:Bool)(e:Int)(x:ax):=(unl a e x).val
theorem aHn (a:Bool)(e:Int)(x:ax)(h:x.out.length<=68719476736):Is (unl a e x):=
 aT (fun _=>aY ((dm au au)) (aQ)) iR
def X_:aZ Z:=vF Z [] [] (kN (ak (jf 0) (ak (bC aG) (a1 (bC cI)))) (Zw 1 [none,none,some 233] aX)) (wE (kJ (zl 0) (kJ (qx Oc) (RZ (qx (pG _))))) (Dy (k:=1) pW (fun _=>rfl)) rfl) (shr [.cells 0 [none,none,some 233]] (l1 aX)) [] func67 ntmps67 eQ 0 rfl (fun a=>unl (a.1.2.1) (a.1.2.2) (a.2)) (fun a=>some ((a.2).out.length<=68719476736)) (fun a e _=>by kernel_rfl) (fun a=>iI (a.1.2.1) (a.1.2.2) (a.2)) (fun a h=>⟨aHn (a.1.2.1) (a.1.2.2) (a.2) h,rfl⟩)
theorem vP {a:Bool}{e:Int}{x v:ax}(h:v=iI a e x):v.out.length<=x.out.length+1:=by
 subst h;unfold iI unl;cases a
 ·simp[Pg.val]
 ·exact Qd7 _
theorem aEo {c a:Bool}{e b:Int}{x v:ax}(h:v=iI c e (iI a b x)):v.out.length<=x.out.length+2:=by
 have d:=vP h;have f:=vP (rfl:iI a b x=_);omega
theorem aoE (a:Bool)(e:Int)(x:ax):(iI a e x).out.length<=x.out.length+1:=vP rfl
def anX (l:List Note)(a:Int)(x:ax):Pg ax:=.ob (x.out.length<=68719476736) (.lt (UB l a) fun b=> .ret (iI (b==0) b x))
def mD (l:List Note)(a:Int)(x:ax):=(anX l a x).val
theorem avX (l:List Note)(a:Int)(x:ax)(h:x.out.length<=68719476736):Is (anX l a x):=
 aY qaq (dI fun c b=>aQ)
def TJ:aZ Z:=vF Z [X_,aio] [] (kN (ak (jf 0) (ak (bC lS) (a1 (bC cI)))) (Zw 1 [none,none,some 233] aX)) (wE (kJ (zl 0) (kJ (qx Sm) (RZ (qx (pG _))))) (Dy (k:=1) pW (fun _=>rfl)) rfl) (shr [.cells 0 [none,none,some 233]] (l1 aX)) [] func138 ntmps138 eQ 0 rfl (fun a=>anX (a.1.2.1) (a.1.2.2) (a.2)) (fun a=>some ((a.2).out.length<=68719476736)) (fun a e _=>by kernel_rfl) (fun a=>mD (a.1.2.1) (a.1.2.2) (a.2)) (fun a h=>⟨avX (a.1.2.1) (a.1.2.2) (a.2) h,rfl⟩)
theorem ak9 {l:List Note}{a:Int}{x v:ax}(h:v=mD l a x):v.out.length<=x.out.length+1:=by
 subst h;exact aoE _ _ _
theorem am1 (l:List Note)(a:Int)(x:ax):(mD l a x).out.length<=x.out.length+1:=ak9 rfl
def spans (l:List mg)(e:Int)(h:Int)(x:ax):Pg ax:=aL l (.each false oZ l tJ (fun b c (a:ax)=> .ix b l.length (.lt (iI (decide ((l.getD (dA .i64 (b - 1)).toNat tJ).To < c.From)) 11 (iI false 6 a)) fun j=> .lt (dA .i64 (b - 1)) fun f=> .lt (iI true 11 (iI false 6 a)) fun i=> .lt (iI false 6 a) fun d=> .br (decide (e<=c.From)) (.br (decide (c.To<=h)) (.ob (a.out.length<=68719476736) (.lt (iI (decide (c.From<=c.To)) 6 a) fun g=> .br (b==0) (.ob (g.out.length<=68719476736) (rl (iI true 11 g))) (.ix f l.length (.ob (g.out.length<=68719476736) (rl (iI (decide ((l.getD f.toNat tJ).To < c.From)) 11 g)))))) (.ob (a.out.length<=68719476736) (.br (b==0) (.ob (d.out.length<=68719476736) (rl i)) (.ix f l.length (.ob (d.out.length<=68719476736) (rl j)))))) (.ob (a.out.length<=68719476736) (.br (b==0) (.ob (d.out.length<=68719476736) (rl i)) (.ix f l.length (.ob (d.out.length<=68719476736) (rl j))))))) (fun b (a:ax)=> .ret a) x)
def Ji (l:List mg)(a:Int)(b:Int)(x:ax):=(spans l a b x).val
theorem aaW (l:List mg)(b:Int)(d:Int)(x:ax)(h:x.out.length+2*l.length<=68719476736):j_ (spans l b d x) (fun r=>r.out.length<=x.out.length+2*l.length):=
 bW <| dh (fun(e:Nat) a=>a.out.length<=x.out.length+2*e) au au (fun e a v k=>have c:a.out.length<=x.out.length+2*e:=k;aW au au (az fun s i=>have o:=aEo i;nC fun u n _=>az fun t f=>have p:=aEo f;az fun y g=>have q:=vP g;bG (fun _=>bG (fun _=>ai (au) (az fun w j=>have m:=vP j;dK (fun _=>ai (au) (af xn)) (fun _=>aW au au (ai (au) (af xn))))) (fun _=>ai (au) (dK (fun _=>ai (au) (af xn)) (fun _=>aW au au (ai (au) (af xn)))))) (fun _=>ai (au) (dK (fun _=>ai (au) (af xn)) (fun _=>aW au au (ai (au) (af xn))))))) (fun a c=>have c:a.out.length<=x.out.length+2*l.length:=c;af xn)
def amr:aZ Z:=vF Z [X_] [jS 1 (bI (fun b=>[s0 12, .cells (pid (b 0)) [none,none,some 233]]) (aB cI (l1 aX)))] (kN (ak (jf 0) (ak (bC p_) (ak (bC cI) (a1 (bC cI))))) (Zw 1 [none,none,some 233] aX)) (wE (kJ (zl 0) (kJ (qx Sr) (kJ (qx (pG _)) (RZ (qx (pG _)))))) (Dy (k:=1) pW (fun _=>rfl)) rfl) (shr [.cells 0 [none,none,some 233]] (l1 aX)) [] func137 ntmps137 eQ 0 rfl (fun a=>spans (a.1.2.1) (a.1.2.2.1) (a.1.2.2.2) (a.2)) (fun a=>some ((a.2).out.length+2*(a.1.2.1).length<=68719476736)) (fun a e _=>by kernel_rfl) (fun a=>Ji (a.1.2.1) (a.1.2.2.1) (a.1.2.2.2) (a.2)) (fun a h=>⟨(aaW (a.1.2.1) (a.1.2.2.1) (a.1.2.2.2) (a.2) h).1,rfl⟩)
theorem amh {l:List mg}{a b:Int}{p v:ax}(c:p.out.length+2*l.length<=68719476736)(h:v=Ji l a b p):v.out.length<=p.out.length+2*l.length:=by
 subst h;exact(aaW l a b p c).2
def field (s:ay)(m:aO)(i:Int)(x:ax):Pg ax:=.ix i m.Fields.length (.cut (fun(b:ax)=> .cut (fun(d:ax)=> .cut (fun(n:ax)=> .cut (fun(k:ax)=> .cut (fun(c:ax)=> .cut (fun(a:ax)=> .cut (fun(o:ax)=> .cut (fun(j:ax)=> .cut (fun(l:ax)=> .ob (l.out.length<=68719476736) (.lt (iI (EN s (aK.mk (m.Fields.getD i.toNat aH).Num (m.Fields.getD i.toNat aH).Name (m.Fields.getD i.toNat aH).Card (m.Fields.getD i.toNat aH).Key (m.Fields.getD i.toNat aH).dH (m.Fields.getD i.toNat aH).Union (m.Fields.getD i.toNat aH).dD (m.Fields.getD i.toNat aH).Default.re (m.Fields.getD i.toNat aH).Notes)) 1 l) fun g=> .ob (g.out.length<=68719476736) (.lt (mD (m.Fields.getD i.toNat aH).Notes 2 g) fun h=> .ret (ax.mk h.rP (-1) h.out)))) (.ob (0<=i/\i < (↑m.Fields.length:Int)/\m.Fields.length<=1048576) (.ob (j.out.length<=68719476736) (rl (iI (Yt m i) 15 j))))) (.ob (o.out.length<=68719476736) (rl (iI (HY s (aK.mk (m.Fields.getD i.toNat aH).Num (m.Fields.getD i.toNat aH).Name (m.Fields.getD i.toNat aH).Card (m.Fields.getD i.toNat aH).Key (m.Fields.getD i.toNat aH).dH (m.Fields.getD i.toNat aH).Union (m.Fields.getD i.toNat aH).dD (m.Fields.getD i.toNat aH).Default.re (m.Fields.getD i.toNat aH).Notes)) 12 o)))) (.lt (iI false 1 a) fun f=> .br (decide (1<=(m.Fields.getD i.toNat aH).Card)) (.br (decide ((m.Fields.getD i.toNat aH).Card<=5)) (.ob (a.out.length<=68719476736) (rl (iI (CX (m.Fields.getD i.toNat aH).Card (m.Fields.getD i.toNat aH).Key) 1 a))) (.ob (a.out.length<=68719476736) (rl f))) (.ob (a.out.length<=68719476736) (rl f)))) (.br (!vU m.Reserved (m.Fields.getD i.toNat aH).Num) (.ob (c.out.length<=68719476736) (rl (iI (!m.Gone.any fun(x:Str)=>(m.Fields.getD i.toNat aH).Name==x) 21 c))) (.ob (c.out.length<=68719476736) (rl (iI false 21 c))))) (.ix i m.Fields.length (.ob (k.out.length<=68719476736) (rl (iI (!axE m.Fields i) 9 k))))) (.ob (n.out.length<=68719476736) (rl (iI (Fa (m.Fields.getD i.toNat aH).Name) 8 n)))) (.br (i==0) (.ob (d.out.length<=68719476736) (rl (iI true 11 d))) (.lt (dA .i64 (i - 1)) fun e=> .ix e m.Fields.length (.ob (d.out.length<=68719476736) (rl (iI (decide ((m.Fields.getD e.toNat aH).Num < (m.Fields.getD i.toNat aH).Num)) 11 d)))))) (.br (decide (1<=(m.Fields.getD i.toNat aH).Num)) (.ob (b.out.length<=68719476736) (rl (iI (decide ((m.Fields.getD i.toNat aH).Num<=65535)) 6 b))) (.ob (b.out.length<=68719476736) (rl (iI false 6 b))))) (rl (ax.mk x.rP (m.Fields.getD i.toNat aH).Num x.out)))
def FO (s:ay)(m:aO)(i:Int)(x:ax):=(field s m i x).val
theorem abV (s:ay)(m:aO)(i:Int)(x:ax)(h:x.out.length+10<=68719476736/\0<=i/\i < m.Fields.length/\m.Fields.length<=1048576):j_ (field s m i x) (fun r=>r.out.length<=x.out.length+10):=
 aW au au (bP (fun u=>u.out.length<=x.out.length+0) (af xn) (fun u c=>have c:u.out.length<=x.out.length+0:=c;bP (fun p=>p.out.length<=x.out.length+1) (bG (fun _=>ai (au) (af xn)) (fun _=>ai (au) (af xn))) (fun p b=>have b:p.out.length<=x.out.length+1:=b;bP (fun l=>l.out.length<=x.out.length+2) (dK (fun _=>ai (au) (af xn)) (fun _=>nC fun D F _=>aW au au (ai (au) (af xn)))) (fun l k=>have k:l.out.length<=x.out.length+2:=k;bP (fun t=>t.out.length<=x.out.length+3) (ai (au) (af xn)) (fun t d=>have d:t.out.length<=x.out.length+3:=d;bP (fun v=>v.out.length<=x.out.length+4) (aW au au (ai (au) (af xn))) (fun v g=>have g:v.out.length<=x.out.length+4:=g;bP (fun n=>n.out.length<=x.out.length+5) (dJ (fun _=>ai (au) (af xn)) (fun _=>ai (au) (af xn))) (fun n e=>have e:n.out.length<=x.out.length+5:=e;bP (fun o=>o.out.length<=x.out.length+6) (az fun B z=>have E:=vP z;bG (fun _=>bG (fun _=>ai (au) (af xn)) (fun _=>ai (au) (af xn))) (fun _=>ai (au) (af xn))) (fun o a=>have a:o.out.length<=x.out.length+6:=a;bP (fun q=>q.out.length<=x.out.length+7) (ai (au) (af xn)) (fun q f=>have f:q.out.length<=x.out.length+7:=f;bP (fun w=>w.out.length<=x.out.length+8) (ai (au) (ai (au) (af xn))) (fun w j=>have j:w.out.length<=x.out.length+8:=j;ai (au) (az fun G A=>have C:=vP A;ai (au) (az fun H y=>have I:=ak9 y;af xn))))))))))))
def aBd:aZ Z:=vF Z [X_,ank,TJ,Uw,FQ,aCE,ad9,awH,auw,apC,adz] [jS 100003 (bI (fun b=>[.cells (pid (b 0)) [none,none,some 233]]) (l1 aX)),jS 100004 (bI (fun b=>[.cells (pid (b 0)) [none,none,some 233]]) (l1 aX)),jS 100005 (bI (fun b=>[.cells (pid (b 0)) [none,none,some 233]]) (l1 aX)),jS 100006 (bI (fun b=>[.cells (pid (b 0)) [none,none,some 233]]) (l1 aX)),jS 100007 (bI (fun b=>[.cells (pid (b 0)) [none,none,some 233]]) (l1 aX)),jS 100008 (bI (fun b=>[.cells (pid (b 0)) [none,none,some 233]]) (l1 aX)),jS 100009 (bI (fun b=>[.cells (pid (b 0)) [none,none,some 233]]) (l1 aX)),jS 100010 (bI (fun b=>[.cells (pid (b 0)) [none,none,some 233]]) (l1 aX)),jS 100011 (bI (fun b=>[.cells (pid (b 0)) [none,none,some 233]]) (l1 aX))] (kN (ak (jf 0) (ak (aJ bH) (ak (aJ gu) (a1 (bC cI))))) (Zw 1 [none,none,some 233] aX)) (wE (kJ (zl 0) (kJ (aex ae_) (kJ (aex AX) (RZ (qx (pG _)))))) (Dy (k:=1) pW (fun _=>rfl)) rfl) (shr [.cells 0 [none,none,some 233]] (l1 aX)) [] func136 ntmps136 eQ 0 rfl (fun a=>field (a.1.2.1) (a.1.2.2.1) (a.1.2.2.2) (a.2)) (fun a=>some ((a.2).out.length+10<=68719476736/\0<=(a.1.2.2.2)/\(a.1.2.2.2) < (a.1.2.2.1).Fields.length/\(a.1.2.2.1).Fields.length<=1048576)) (fun a e _=>by kernel_rfl) (fun a=>FO (a.1.2.1) (a.1.2.2.1) (a.1.2.2.2) (a.2)) (fun a h=>⟨(abV (a.1.2.1) (a.1.2.2.1) (a.1.2.2.2) (a.2) h).1,rfl⟩)
theorem ad1 {s:ay}{m:aO}{i:Int}{p v:ax}(a:p.out.length+10<=68719476736/\0<=i/\i < m.Fields.length/\m.Fields.length<=1048576)(h:v=FO s m i p):v.out.length<=p.out.length+10:=by
 subst h;exact(abV s m i p a).2
def okM (m:aO):Prop:=m.Fields.length<=1048576/\m.Reserved.length<=1048576/\m.Gone.length<=1048576/\m.Name.length<=1048576/\∀g∈m.Gone,g.length<=1048576
def okE (e:dV):Prop:=e.Items.length<=1048576/\e.Reserved.length<=1048576/\e.Name.length<=1048576
def Yi (v:bQ):Prop:=v.Methods.length<=1048576/\v.Name.length<=1048576
def okS (s:ay):Prop:=s.Messages.length<=150/\s.Enums.length<=150/\s.dQ.length<=150/\(∀m∈s.Messages,okM m)/\(∀e∈s.Enums,okE e)/\∀v∈s.dQ,Yi v
def aaE (s:ay)(m:aO)(h:List (Str×Bool)):Pg (List eY):=.cut (fun(c:ax)=> .cut (fun(j:ax)=> .cut (fun(i:ax)=> .ob (i.out.length+2*m.Reserved.length<=68719476736) (aL m.Gone (.each false oZ m.Gone [] (fun f e (a:ax)=> .ix f m.Gone.length (.ob (List.length e<=9223372036854775700) (.ob (a.out.length<=68719476736) (rl (iI (Ae e) 7 a))))) (fun f (a:ax)=> .ob (a.out.length<=68719476736) (.ob (m.Fields.length<=1048576) (.lt (mD m.Notes 1 a) fun g=> .ob (g.out.length<=68719476736) (.ret (iI (!Bo s m h) 19 g).out)))) (Ji m.Reserved 1 65535 i)))) (aL m.Fields (.cnt oZ 0 (↑m.Fields.length:Int) (fun d (b:ax)=> .ob (b.out.length+10<=68719476736/\0<=d/\d < (↑m.Fields.length:Int)/\m.Fields.length<=1048576) (rl (FO s m d b))) (fun d (b:ax)=> rl b) j))) (.br (decide ((↑m.Fields.length:Int)<=64)) (.ob (c.out.length<=68719476736) (aL m.Reserved (aL m.Gone (rl (iI (decide (max (↑m.Reserved.length:Int) (↑m.Gone.length:Int)<=16)) 3 c))))) (.ob (c.out.length<=68719476736) (rl (iI false 3 c))))) (.ob (List.length m.Name<=4294967296) (.ob (0<=68719476736) (rl (iI (X9 m.Name) 8 (ax.mk m.Name (-1) [])))))
def wU (s:ay)(m:aO)(a:List (Str×Bool)):=(aaE s m a).val
theorem abn (s:ay)(m:aO)(p:List (Str×Bool))(h:okM m):j_ (aaE s m p) (fun r=>r.length<=16777216):=
 have B:m.Fields.length<=1048576:=h.1;have C:m.Reserved.length<=1048576:=h.2.1;have A:m.Gone.length<=1048576:=h.2.2.1;have z:m.Name.length<=1048576:=h.2.2.2.1;bP (fun k=>k.out.length<=1) (ai (qar) (ai (qar) (af xn))) (fun k f=>have f:k.out.length<=1:=f;bP (fun j=>j.out.length<=2) (bG (fun _=>ai (qar) (bW <| bW <| af xn)) (fun _=>ai (qar) (af xn))) (fun j e=>have e:j.out.length<=2:=e;bP (fun l=>l.out.length<=10485762) (bW <| sQ (fun(a:Int) d=>d.out.length<=2+10*a/\a<=(m.Fields.length:Int)) qay au au (fun a d w t o=>have b:d.out.length<=2+10*a/\a<=(m.Fields.length:Int):=o;ai (qar) (af xn)) (fun a d _ u b=>have b:d.out.length<=2+10*a/\a<=(m.Fields.length:Int):=b;af xn)) (fun l g=>have g:l.out.length<=10485762:=g;ai (qar) (bW <| dh (fun(i:Nat) c=>c.out.length<=12582914+1*i) qay au (fun i c v q=>have b:c.out.length<=12582914+1*i:=q;aW au au (ai (qar) (ai (qar) (af xn)))) (fun c b=>have b:c.out.length<=12582914+1*m.Gone.length:=b;ai (qar) (ai (qar) (az fun y n=>have x:=ak9 n;ai (qar) (af xn))))))))
def aDj:aZ Z:=E1 [X_,BI,acF,aBd,amr,TJ,arB] [jS 5 (bI (fun b=>[s0 39, .cells (pid (b 14)) [none,none,some 233]]) (aB cI (l1 aX))),jS 11 (bI (fun b=>[s0 55, .cells (pid (b 14)) [none,none,some 233]]) (aB cI (l1 aX))),jS 100003 (bI (fun b=>[.cells (pid (b 14)) [none,none,some 233]]) (l1 aX)),jS 100004 (bI (fun b=>[.cells (pid (b 14)) [none,none,some 233]]) (l1 aX)),jS 100009 (bI (fun b=>[.cells (pid (b 14)) [none,none,some 233]]) (l1 aX)),jS 800001 (bI (fun b=>[.cells (pid (b 7)) [none,none,some 233]]) (l1 aX))] (ak (aJ bH) (ak (aJ gu) (a1 (bC mr)))) (R1 lL) [] func71 1 (u3 aaE) (fun a=>okM a.2.1) fun a h=>(abn a.1 a.2.1 a.2.2 h).1
def aeQ (e:dV):Pg (List eY):=.cut (fun(d:ax)=> .cut (fun(g:ax)=> .cut (fun(o:ax)=> aL e.Items (.each false oZ e.Items jI (fun c b (a:ax)=> .ix c e.Items.length (.cut (fun(f:ax)=> .cut (fun(n:ax)=> .ob (n.out.length<=68719476736) (.ix c e.Items.length (.lt (iI (Fa b.Name) 8 n) fun m=> .ob (m.out.length<=68719476736) (.lt (iI (!akl e.Items c) 9 m) fun k=> .ob (k.out.length<=68719476736) (.lt (iI (!vU e.Reserved b.Num) 21 k) fun l=> .ob (l.out.length<=68719476736) (rl (mD b.Notes 4 l))))))) (.br (c==0) (.ob (f.out.length<=68719476736) (rl (iI true 11 f))) (.lt (dA .i64 (c - 1)) fun i=> .ix i e.Items.length (.ob (f.out.length<=68719476736) (rl (iI (decide ((e.Items.getD i.toNat jI).Num < b.Num)) 11 f)))))) (.br (decide (0<=b.Num)) (.ob (a.out.length<=68719476736) (rl (iI (decide (b.Num<=2147483647)) 6 (ax.mk a.rP b.Num a.out)))) (.ob (a.out.length<=68719476736) (rl (iI false 6 (ax.mk a.rP b.Num a.out))))))) (fun c (a:ax)=> .ob (a.out.length+2*e.Reserved.length<=68719476736) (.lt (Ji e.Reserved 0 2147483647 (ax.mk a.rP (-1) a.out)) fun j=> .ob (j.out.length<=68719476736) (.ret (mD e.Notes 3 j).out))) o)) (.br ((↑e.Items.length:Int)==0) (.ob (g.out.length<=68719476736) (rl (iI true 14 g))) (.ix 0 e.Items.length (.ob (g.out.length<=68719476736) (rl (iI ((e.Items.getD 0 jI).Num==0) 14 g)))))) (.lt (iI false 3 d) fun h=> .br (decide (1<=(↑e.Items.length:Int))) (.br (decide ((↑e.Items.length:Int)<=64)) (.ob (d.out.length<=68719476736) (rl (iI (decide ((↑e.Reserved.length:Int)<=16)) 3 d))) (.ob (d.out.length<=68719476736) (rl h))) (.ob (d.out.length<=68719476736) (rl h)))) (.ob (List.length e.Name<=4294967296) (.ob (0<=68719476736) (rl (iI (X9 e.Name) 8 (ax.mk e.Name (-1) [])))))
def UZ (e:dV):=(aeQ e).val
theorem V3 (e:dV)(h:okE e):j_ (aeQ e) (fun r=>r.length<=16777216):=
 have L:e.Items.length<=1048576:=h.1;have J:e.Reserved.length<=1048576:=h.2.1;have K:e.Name.length<=1048576:=h.2.2;bP (fun o=>o.out.length<=1) (ai (zZ) (ai (zZ) (af xn))) (fun o f=>have f:o.out.length<=1:=f;bP (fun n=>n.out.length<=2) (az fun E s=>have C:=vP s;bG (fun _=>bG (fun _=>ai (zZ) (af xn)) (fun _=>ai (zZ) (af xn))) (fun _=>ai (zZ) (af xn))) (fun n d=>have d:n.out.length<=2:=d;bP (fun j=>j.out.length<=3) (dK (fun _=>ai (zZ) (af xn)) (fun _=>aW au au (ai (zZ) (af xn)))) (fun j i=>have i:j.out.length<=3:=i;bW <| dh (fun(a:Nat) b=>b.out.length<=3+6*a) qay au (fun a b B p=>have k:b.out.length<=3+6*a:=p;aW au au (bP (fun l=>l.out.length<=3+6*a+1) (bG (fun _=>ai (zZ) (af xn)) (fun _=>ai (zZ) (af xn))) (fun l g=>have g:l.out.length<=3+6*a+1:=g;bP (fun m=>m.out.length<=3+6*a+2) (dK (fun _=>ai (zZ) (af xn)) (fun _=>nC fun w H _=>aW au au (ai (zZ) (af xn)))) (fun m c=>have c:m.out.length<=3+6*a+2:=c;ai (zZ) (aW au au (az fun I q=>have F:=vP q;ai (zZ) (az fun A v=>have x:=vP v;ai (zZ) (az fun D u=>have G:=vP u;ai (zZ) (af xn))))))))) (fun b k=>have k:b.out.length<=3+6*e.Items.length:=k;ai (zZ) (az fun z t=>have y:=amh (by first | omega | (dsimp only;omega)) t;ai (zZ) (af xn))))))
def awk:aZ Z:=E1 [X_,acF,amr,TJ,Uw,aAS,acV,FQ] [jS 6 (bI (fun b=>[s0 50, .cells (pid (b 9)) [none,none,some 233]]) (aB cI (l1 aX))),jS 100003 (bI (fun b=>[.cells (pid (b 9)) [none,none,some 233]]) (l1 aX)),jS 100004 (bI (fun b=>[.cells (pid (b 9)) [none,none,some 233]]) (l1 aX)),jS 100005 (bI (fun b=>[.cells (pid (b 9)) [none,none,some 233]]) (l1 aX)),jS 100010 (bI (fun b=>[.cells (pid (b 9)) [none,none,some 233]]) (l1 aX)),jS 100011 (bI (fun b=>[.cells (pid (b 9)) [none,none,some 233]]) (l1 aX)),jS 800001 (bI (fun b=>[.cells (pid (b 3)) [none,none,some 233]]) (l1 aX))] (a1 (aJ kC)) (R1 lL) [] func72 1 aeQ (fun a=>okE a) fun a h=>(V3 a h).1
def ap6 (s:ay)(v:bQ):Pg (List eY):=.ob (List.length v.Name<=4294967296) (.ob (0<=68719476736) (.lt (iI (X9 v.Name) 8 (ax.mk v.Name (-1) [])) fun u=> .ob (u.out.length<=68719476736) (aL v.Methods (.each false oZ v.Methods fG (fun h a (b:ax)=> .ix h v.Methods.length (.ob (b.out.length<=68719476736) (.lt (iI (Fa a.Name) 8 (ax.mk b.rP h b.out)) fun j=> .lt (jb s a.In) fun w=> .lt (jb s a.Out) fun x=> .br (h==0) (.ob (j.out.length<=68719476736) (.lt (iI true 11 j) fun k=> .br w.2 (.ob (k.out.length<=68719476736) (.lt (iI x.2 12 k) fun i=> .br (decide (1<=a.Shape)) (.ob (i.out.length<=68719476736) (.lt (iI (decide (a.Shape<=4)) 1 i) fun n=> .ob (n.out.length<=68719476736) (rl (mD a.Notes 6 n)))) (.ob (i.out.length<=68719476736) (.lt (iI false 1 i) fun p=> .ob (p.out.length<=68719476736) (rl (mD a.Notes 6 p)))))) (.ob (k.out.length<=68719476736) (.lt (iI false 12 k) fun c=> .br (decide (1<=a.Shape)) (.ob (c.out.length<=68719476736) (.lt (iI (decide (a.Shape<=4)) 1 c) fun m=> .ob (m.out.length<=68719476736) (rl (mD a.Notes 6 m)))) (.ob (c.out.length<=68719476736) (.lt (iI false 1 c) fun r=> .ob (r.out.length<=68719476736) (rl (mD a.Notes 6 r)))))))) (.lt (dA .i64 (h - 1)) fun g=> .ix g v.Methods.length (.ob (j.out.length<=68719476736) (.lt (iI (!(Op.bytesLess a.Name (v.Methods.getD g.toNat fG).Name || a.Name==(v.Methods.getD g.toNat fG).Name)) 11 j) fun d=> .br w.2 (.ob (d.out.length<=68719476736) (.lt (iI x.2 12 d) fun f=> .br (decide (1<=a.Shape)) (.ob (f.out.length<=68719476736) (.lt (iI (decide (a.Shape<=4)) 1 f) fun q=> .ob (q.out.length<=68719476736) (rl (mD a.Notes 6 q)))) (.ob (f.out.length<=68719476736) (.lt (iI false 1 f) fun t=> .ob (t.out.length<=68719476736) (rl (mD a.Notes 6 t)))))) (.ob (d.out.length<=68719476736) (.lt (iI false 12 d) fun e=> .br (decide (1<=a.Shape)) (.ob (e.out.length<=68719476736) (.lt (iI (decide (a.Shape<=4)) 1 e) fun o=> .ob (o.out.length<=68719476736) (rl (mD a.Notes 6 o)))) (.ob (e.out.length<=68719476736) (.lt (iI false 1 e) fun l=> .ob (l.out.length<=68719476736) (rl (mD a.Notes 6 l)))))))))))) (fun h (b:ax)=> .ob (b.out.length<=68719476736) (.ret (mD v.Notes 5 (ax.mk b.rP (-1) b.out)).out)) (iI (decide ((↑v.Methods.length:Int)<=64)) 3 u)))))
def Q8 (s:ay)(v:bQ):=(ap6 s v).val
theorem ahS (s:ay)(v:bQ)(h:Yi v):j_ (ap6 s v) (fun r=>r.length<=16777216):=
 have h1:v.Methods.length<=1048576:=h.1;have h2:v.Name.length<=1048576:=h.2;ai (zZ) (ai (zZ) (az fun v4 n=>have W:=vP n;ai (zZ) (bW <| dh (fun(c:Nat) a=>a.out.length<=2+5*c) qay au (fun c a ry x=>have b:a.out.length<=2+5*c:=x;aW au au (ai (zZ) (az fun v5 o=>have A:=vP o;az fun v6 E=>az fun v7 P=>dK (fun _=>ai (zZ) (az fun v8 u=>have R:=vP u;dJ (fun _=>ai (zZ) (az fun v9 e=>have Z:=vP e;bG (fun _=>ai (zZ) (az fun L w=>have C:=vP w;ai (zZ) (af xn))) (fun _=>ai (zZ) (az fun U q=>have ab:=vP q;ai (zZ) (af xn))))) (fun _=>ai (zZ) (az fun y t=>have G:=vP t;bG (fun _=>ai (zZ) (az fun H g=>have F:=vP g;ai (zZ) (af xn))) (fun _=>ai (zZ) (az fun X f=>have N:=vP f;ai (zZ) (af xn))))))) (fun _=>nC fun B aa _=>aW au au (ai (zZ) (az fun I k=>have D:=vP k;dJ (fun _=>ai (zZ) (az fun ac j=>have z:=vP j;bG (fun _=>ai (zZ) (az fun V p=>have Y:=vP p;ai (zZ) (af xn))) (fun _=>ai (zZ) (az fun ad m=>have M:=vP m;ai (zZ) (af xn))))) (fun _=>ai (zZ) (az fun K i=>have T:=vP i;bG (fun _=>ai (zZ) (az fun S d=>have O:=vP d;ai (zZ) (af xn))) (fun _=>ai (zZ) (az fun J l=>have Q:=vP l;ai (zZ) (af xn))))))))))) (fun a b=>have b:a.out.length<=2+5*v.Methods.length:=b;ai (zZ) (af xn)))))
def aFF:aZ Z:=E1 [X_,yA,acF,TJ,Uw] [jS 5 (bI (fun b=>[s0 30, .cells (pid (b 15)) [none,none,some 233]]) (aB cI (l1 aX))),jS 800001 (bI (fun b=>[.cells (pid (b 5)) [none,none,some 233]]) (l1 aX))] (ak (aJ bH) (a1 (aJ qU))) (R1 lL) [] func73 1 (u2 ap6) (fun a=>Yi a.2) fun a h=>(ahS a.1 a.2 h).1
def rising (l:List Str):Pg Bool:=.Qp [] (some (l.length<=9223372036854775807)) uj 1 (↑l.length:Int) (fun a (c:Unit)=> .ix a l.length (.lt (dA .i64 (a - 1)) fun b=> .ix b l.length (.br (Op.bytesLess (l.getD a.toNat []) (l.getD b.toNat []) || l.getD a.toNat []==l.getD b.toNat []) (.ret (.inr false)) (rl ())))) (fun a (c:Unit)=> .ret true) ()
def Ti (l:List Str):=(rising l).val
theorem apZ (l:List Str):Is (rising l):=
 zT trivial au (fun h=>by simp only[qW]at h;omega) (fun b a _ _ _=>b_ au au (ni fun d c _=>b_ au au (aT iR iR))) (fun b a _ _=>aQ)
def awv:aZ Z:=E0 [] [jS 2 (bI (fun b=>[s0 3]) (l1 cI))] (a1 (bC bV)) (R1 aG) [] func68 1 rising fun a=>apZ a
def lists (s:ay):Pg (List (List Str)):=.cut (fun(e:List (List Str))=> .cut (fun(d:List (List Str))=> aL s.dQ (.each false oZ s.dQ lu (fun g h (a:List (List Str))=> .ix g s.dQ.length (.ob ((0:Int)<=2/\(2:Int) < 3) (.ob (bZ ((a.getD 2 []).length+1) 16) (.ob ((0:Int)<=2/\(2:Int) < 3) (.ret (.inl [a.getD 0 [],a.getD 1 [],a.getD 2 []++[h.Name]])))))) (fun g (a:List (List Str))=> .ret [a.getD 0 [],a.getD 1 [],a.getD 2 []]) [d.getD 0 [],d.getD 1 [],d.getD 2 []])) (aL s.Enums (.each false oZ s.Enums kE (fun f k (b:List (List Str))=> .ix f s.Enums.length (.ob ((0:Int)<=1/\(1:Int) < 3) (.ob (bZ ((b.getD 1 []).length+1) 16) (.ob ((0:Int)<=1/\(1:Int) < 3) (.ret (.inl [b.getD 0 [],b.getD 1 []++[k.Name],b.getD 2 []])))))) (fun f (b:List (List Str))=> .ret (.inl [b.getD 0 [],b.getD 1 [],b.getD 2 []])) [e.getD 0 [],e.getD 1 [],e.getD 2 []]))) (aL s.Messages (.each false oZ s.Messages dP (fun i j (c:List (List Str))=> .ix i s.Messages.length (.ob ((0:Int)<=0/\(0:Int) < 3) (.ob (bZ ((c.getD 0 []).length+1) 16) (.ob ((0:Int)<=0/\(0:Int) < 3) (.ret (.inl [c.getD 0 []++[j.Name],c.getD 1 [],c.getD 2 []])))))) (fun i (c:List (List Str))=> .ret (.inl [c.getD 0 [],c.getD 1 [],c.getD 2 []])) [[],[],[]]))
def ajr (s:ay):=(lists s).val
theorem arN (s:ay)(h:okS s):j_ (lists s) (fun _=>True):=
 have v:s.Messages.length<=150:=h.1;have r:s.Enums.length<=150:=h.2.1;have u:s.dQ.length<=150:=h.2.2.1;bP (fun f=>(f.getD 0 []).length<=150/\(f.getD 1 []).length<=0/\(f.getD 2 []).length<=0) (bW <| dh (fun(k:Nat) c=>(c.getD 0 []).length<=k/\(c.getD 1 []).length<=0/\(c.getD 2 []).length<=0) qbs au (fun k c t o=>have a:(c.getD 0 []).length<=k/\(c.getD 1 []).length<=0/\(c.getD 2 []).length<=0:=o;aW au au (ai (qbd) (ai (qbd) (ai (qbd) (af qa1))))) (fun c a=>have a:(c.getD 0 []).length<=s.Messages.length/\(c.getD 1 []).length<=0/\(c.getD 2 []).length<=0:=a;af qa1)) (fun f g=>have g:(f.getD 0 []).length<=150/\(f.getD 1 []).length<=0/\(f.getD 2 []).length<=0:=g;bP (fun e=>(e.getD 0 []).length<=150/\(e.getD 1 []).length<=150/\(e.getD 2 []).length<=0) (bW <| dh (fun(l:Nat) b=>(b.getD 0 []).length<=150/\(b.getD 1 []).length<=l/\(b.getD 2 []).length<=0) qbs au (fun l b p m=>have a:(b.getD 0 []).length<=150/\(b.getD 1 []).length<=l/\(b.getD 2 []).length<=0:=m;aW au au (ai (qbd) (ai (qbd) (ai (qbd) (af qa1))))) (fun b a=>have a:(b.getD 0 []).length<=150/\(b.getD 1 []).length<=s.Enums.length/\(b.getD 2 []).length<=0:=a;af qa1)) (fun e i=>have i:(e.getD 0 []).length<=150/\(e.getD 1 []).length<=150/\(e.getD 2 []).length<=0:=i;bW <| dh (fun(j:Nat) d=>(d.getD 0 []).length<=150/\(d.getD 1 []).length<=150/\(d.getD 2 []).length<=j) qbs au (fun j d q n=>have a:(d.getD 0 []).length<=150/\(d.getD 1 []).length<=150/\(d.getD 2 []).length<=j:=n;aW au au (ai (qbd) (ai (qbd) (ai (qbd) (af qa1))))) (fun d a=>have a:(d.getD 0 []).length<=150/\(d.getD 1 []).length<=150/\(d.getD 2 []).length<=s.dQ.length:=a;af qa1)))
def aC1:aZ Z:=E1 [] [jS 3 (bI (fun b=>[s0 13, .cells (pid (b 3)) [some 9,some 9,some 9]]) (aB cI (l1 (Iy 3 [] bV)))),jS 8 (bI (fun b=>[s0 28, .cells (pid (b 3)) [some 9,some 9,some 9]]) (aB cI (l1 (Iy 3 [] bV)))),jS 13 (bI (fun b=>[s0 43, .cells (pid (b 3)) [some 9,some 9,some 9]]) (aB cI (l1 (Iy 3 [] bV)))),jS 100007 (bI (fun b=>[.cells (pid (b 3)) [some 9,some 9,some 9]]) (l1 (Iy 3 [] bV))),jS 100012 (bI (fun b=>[.cells (pid (b 3)) [some 9,some 9,some 9]]) (l1 (Iy 3 [] bV)))] (a1 (aJ bH)) (shr [.slot 0 true (nn 3)] (l1 (Iy 3 [] bV))) [] func66 1 lists (fun a=>okS a) fun a h=>(arN a h).1
def ap0 (x:Str)(l:List (List Str)):Pg Bool:=.ob ((0:Int)<=0/\(0:Int) < 3) (.ret ((l.getD 0 []).any fun(a:Str)=>x==a))
def aup (x:Str)(l:List (List Str)):=(ap0 x l).val
def ahF:aZ Z:=xx [ank] [] (ak (bC cStr) (ak (jf 0) (a1 (jf 1)))) (ja (aV (Iy 3 [] bV)) (b1 (ahN .i64 0))) (R1 aG) [0,1] func130 1 fun a=>ap0 a.1.1 a.2.1
def asB:aZ Z:=Jf [ahF] bV 130 [0,1] (ja (aV (Iy 3 [] bV)) (b1 (ahN .i64 0))) func194 [] fun x b=>aup x b.1
def atn:aZ Z:=EAB [ahF,aif,S_,aln,asB] bV 130 [0,1] (ja (aV (Iy 3 [] bV)) (b1 (ahN .i64 0))) func129 fun x b=>aup x b.1
def ap1 (x:Str)(l:List (List Str)):Pg Bool:=.ob ((0:Int)<=1/\(1:Int) < 3) (.ret ((l.getD 1 []).any fun(a:Str)=>x==a))
def aDP (x:Str)(l:List (List Str)):=(ap1 x l).val
def axH:aZ Z:=xx [ank] [] (ak (bC cStr) (ak (jf 0) (a1 (jf 1)))) (ja (aV (Iy 3 [] bV)) (b1 (ahN .i64 1))) (R1 aG) [0,1] func130 1 fun a=>ap1 a.1.1 a.2.1
def aG7:aZ Z:=Jf [ahF,axH] bV 130 [0,1] (ja (aV (Iy 3 [] bV)) (b1 (ahN .i64 1))) func194 [] fun x b=>aDP x b.1
def avb:aZ Z:=EAB [ahF,axH,aif,S_,aln,asB,aG7] bV 130 [0,1] (ja (aV (Iy 3 [] bV)) (b1 (ahN .i64 1))) func129 fun x b=>aDP x b.1
def apart (l:List (List Str)):Pg Bool:=.lt (dA .i64 (0+1)) fun b=> .ob (0<=b/\b < 3) (.br ((l.getD 1 []).any fun(x:Str)=>aup x [l.getD 0 [],l.getD 1 [],l.getD 2 []]) (.ret false) (.lt (dA .i64 (b+1)) fun a=> .ob (0<=a/\a < 3) (.br ((l.getD 2 []).any fun(x:Str)=>aup x [l.getD 0 [],l.getD 1 [],l.getD 2 []]) (.ret false) (.ob (0<=a/\a < 3) (.br ((l.getD 2 []).any fun(x:Str)=>aDP x [l.getD 0 [],l.getD 1 [],l.getD 2 []]) (.ret false) (.ret true))))))
def ajz (l:List (List Str)):=(apart l).val
def az_:aZ Z:=E0 [agF,acO,ajl,atn,avb,ahF,axH] [jS 600002 (bI (fun _=>List.replicate 4 (.iter 0)) l0),jS 600005 (bI (fun _=>List.replicate 4 (.iter 0)) l0)] (a1 (aJ (Iy 3 [] bV))) (R1 aG) [] func69 1 apart
theorem aHV {s:ay}{m:aO}{a:List (Str×Bool)}{v:List eY}(b:okM m)(h:v=wU s m a):v.length<=16777216:=by
 subst h;exact(abn s m a b).2
theorem aAo {e:dV}{v:List eY}(a:okE e)(h:v=UZ e):v.length<=16777216:=by
 subst h;exact(V3 e a).2
theorem aKX {s:ay}{x:bQ}{v:List eY}(a:Yi x)(h:v=Q8 s x):v.length<=16777216:=by
 subst h;exact(ahS s x a).2
def af9 (s:ay):Pg (List eY):=.ob (okS s) (.lt (ajr s) fun a=> .cut (fun(q:ax)=> .cut (fun(A:ax)=> .ob (s.Messages.length<=1048576/\∀(m:aO),m∈s.Messages->m.Fields.length<=1048576) (.cut (fun(u:ax)=> .cut (fun(y:ax)=> aL s.dQ (.each false oZ s.dQ lu (fun n k (d:ax)=> .ix n s.dQ.length (.ob (Yi k) (.lt (Q8 s k) fun i=> .ob (bZ (d.out.length+i.length) 32) (rl (ax.mk d.rP d.num (d.out++i)))))) (fun n (d:ax)=> .ret d.out) y)) (aL s.Enums (.each false oZ s.Enums kE (fun h o (b:ax)=> .ix h s.Enums.length (.ob (okE o) (.lt (UZ o) fun g=> .ob (bZ (b.out.length+g.length) 32) (rl (ax.mk b.rP b.num (b.out++g)))))) (fun h (b:ax)=> rl b) u))) (aL s.Messages (.each false oZ s.Messages dP (fun v f (c:ax)=> .ix v s.Messages.length (.ob (okM f) (.lt (wU s f (oM s)) fun l=> .ob (bZ (c.out.length+l.length) 32) (rl (ax.mk c.rP c.num (c.out++l)))))) (fun v (c:ax)=> rl c) A)))) (.ob (q.out.length<=68719476736) (rl (iI (ajz [a.getD 0 [],a.getD 1 [],a.getD 2 []]) 9 q)))) (.cut (fun(r:ax)=> .lt (dA .i64 (0+1)) fun e=> .cut (fun(t:ax)=> .cut (fun(z:ax)=> rl z) (.lt (dA .i64 (e+1)) fun j=> .ob (0<=j/\j < 3) (.cut (fun(x:ax)=> .ob (x.out.length<=68719476736) (rl (iI (Ti (a.getD 2 [])) 11 x))) (.ob (t.out.length<=68719476736) (rl (iI (decide ((↑(a.getD 2 []).length:Int)<=64)) 3 t)))))) (.ob (0<=e/\e < 3) (.cut (fun(p:ax)=> .ob (p.out.length<=68719476736) (rl (iI (Ti (a.getD 1 [])) 11 p))) (.ob (r.out.length<=68719476736) (rl (iI (decide ((↑(a.getD 1 []).length:Int)<=64)) 3 r)))))) (.ob ((0:Int)<=0/\(0:Int) < 3) (.cut (fun(w:ax)=> .ob (w.out.length<=68719476736) (rl (iI (Ti (a.getD 0 [])) 11 w))) (.ob (0<=68719476736) (rl (iI (decide ((↑(a.getD 0 []).length:Int)<=64)) 3 (ax.mk [] (-1) []))))))))
def YD (s:ay):=(af9 s).val
theorem axS (s:ay)(h:okS s):j_ (af9 s) (fun _=>True):=
 have h1:s.Messages.length<=150:=h.1;have h2:s.Enums.length<=150:=h.2.1;have Z:s.dQ.length<=150:=h.2.2.1;ai (qae) (az fun Q S=>bP (fun x=>x.out.length<=6) (bP (fun y=>y.out.length<=2) (ai (qae) (bP (fun C=>C.out.length<=1) (ai (qae) (af qad)) (fun C l=>have l:C.out.length<=1:=l;ai (qae) (af qad)))) (fun y k=>have k:y.out.length<=2:=k;nC fun M L _=>bP (fun A=>A.out.length<=4) (ai (qae) (bP (fun v=>v.out.length<=3) (ai (qae) (af qad)) (fun v u=>have u:v.out.length<=3:=u;ai (qae) (af qad)))) (fun A n=>have n:A.out.length<=4:=n;bP (fun w=>w.out.length<=6) (nC fun W K _=>ai (qae) (bP (fun D=>D.out.length<=5) (ai (qae) (af qad)) (fun D r=>have r:D.out.length<=5:=r;ai (qae) (af qad)))) (fun w p=>have p:w.out.length<=6:=p;af qad)))) (fun x j=>have j:x.out.length<=6:=j;bP (fun z=>z.out.length<=7) (ai (qae) (af qad)) (fun z q=>have q:z.out.length<=7:=q;ai (qae) (bP (fun d=>d.out.length<=2516582407) (bW <| dh (fun(B:Nat) e=>e.out.length<=7+16777216*B) qay au (fun B e N G=>have a:e.out.length<=7+16777216*B:=G;aW au au (ai (qae) (az fun Y E=>have U:=aHV (h.2.2.2.1 _ (getD_mem au)) E;ai (qae) (af qad)))) (fun e a=>have a:e.out.length<=7+16777216*s.Messages.length:=a;af qad)) (fun d o=>have o:d.out.length<=2516582407:=o;bP (fun f=>f.out.length<=5033164807) (bW <| dh (fun(c:Nat) b=>b.out.length<=2516582407+16777216*c) qay au (fun c b O I=>have a:b.out.length<=2516582407+16777216*c:=I;aW au au (ai (qae) (az fun P H=>have T:=aAo (h.2.2.2.2.1 _ (getD_mem au)) H;ai (qae) (af qad)))) (fun b a=>have a:b.out.length<=2516582407+16777216*s.Enums.length:=a;af qad)) (fun f t=>have t:f.out.length<=5033164807:=t;bW <| dh (fun(i:Nat) g=>g.out.length<=5033164807+16777216*i) qay au (fun i g R J=>have a:g.out.length<=5033164807+16777216*i:=J;aW au au (ai (qae) (az fun X F=>have V:=aKX (h.2.2.2.2.2 _ (getD_mem au)) F;ai (qae) (af qad)))) (fun g a=>have a:g.out.length<=5033164807+16777216*s.dQ.length:=a;af qad)))))))
def aIp:aZ Z:=E1 [aC1,X_,awv,az_,aqh,aDj,awk,aFF] [jS 600004 (bI (fun _=>List.replicate 4 (.iter 0)) l0),jS 12 (bI (fun b=>[s0 41, .cells (pid (b 15)) [none,none,some 233]]) (aB cI (l1 aX))),jS 17 (bI (fun b=>[s0 61, .cells (pid (b 15)) [none,none,some 233]]) (aB cI (l1 aX))),jS 22 (bI (fun b=>[s0 79, .cells (pid (b 15)) [none,none,some 233]]) (aB cI (l1 aX))),jS 100007 (bI (fun b=>[.cells (pid (b 15)) [none,none,some 233]]) (l1 aX)),jS 100008 (bI (fun b=>[.cells (pid (b 15)) [none,none,some 233]]) (l1 aX)),jS 100009 (bI (fun b=>[.cells (pid (b 15)) [none,none,some 233]]) (l1 aX)),jS 100010 (bI (fun b=>[.cells (pid (b 15)) [none,none,some 233]]) (l1 aX)),jS 100016 (bI (fun b=>[.cells (pid (b 15)) [none,none,some 233]]) (l1 aX)),jS 100021 (bI (fun b=>[.cells (pid (b 15)) [none,none,some 233]]) (l1 aX)),jS 800001 (bI (fun b=>[.cells (pid (b 3)) [none,none,some 233]]) (l1 aX))] (a1 (aJ bH)) (R1 lL) [] func32 1 af9 (fun a=>okS a) fun a h=>(axS a h).1
def Vl (s:ay):Pg Bool:=.ob (okS s) (.ret ((↑(YD s).length:Int)==0))
def oI (s:ay):=(Vl s).val
def ahi:aZ Z:=E1 [aIp] [] (a1 (aJ bH)) (R1 aG) [] func15 1 Vl fun a=>okS a
def am7 (s:ay)(b:Str):Pg Int:=.each true uj s.Messages dP (fun a c (d:Unit)=> .ix a s.Messages.length (.br (c.Name==b) (.ret (.inr a)) (rl ()))) (fun a (d:Unit)=> .ret (-1)) ()
theorem akK (s:ay)(a:Str):Is (am7 s a):=
 gU (.inl rfl) (fun c b _ _=>b_ au au (aT iR iR)) (fun b _=>aQ)
def Pm:aZ Z:=E2 [] [jS 2 (bI (fun c=>[s0 5]) (l1 cI))] (ak (aJ bH) (a1 (bC cStr))) (R1 cI) [] func128 1 (u2 am7) (fun a=>none) (fun a=>fM (fun(m:aO)=>m.Name==a.2) a.1.Messages) fun a h=>⟨akK a.1 a.2,(fun(s:ay) (b:Str)=>oK (fun(m:aO)=>m.Name==b) s.Messages 0) a.1 a.2⟩
def aoW (s:ay)(b:Str):Pg Int:=.each true uj s.Enums kE (fun a c (d:Unit)=> .ix a s.Enums.length (.br (c.Name==b) (.ret (.inr a)) (rl ()))) (fun a (d:Unit)=> .ret (-1)) ()
theorem aki (s:ay)(a:Str):Is (aoW s a):=
 gU (.inl rfl) (fun c b _ _=>b_ au au (aT iR iR)) (fun b _=>aQ)
def abf:aZ Z:=E2 [] [jS 2 (bI (fun c=>[s0 5]) (l1 cI))] (ak (aJ bH) (a1 (bC cStr))) (R1 cI) [] func188 1 (u2 aoW) (fun a=>none) (fun a=>fM (fun(m:dV)=>m.Name==a.2) a.1.Enums) fun a h=>⟨aki a.1 a.2,(fun(s:ay) (b:Str)=>oK (fun(m:dV)=>m.Name==b) s.Enums 0) a.1 a.2⟩
def NF (s:ay)(m:aO)(a:List Bool):Pg Bool:=.each true uj m.Fields aH (fun d b (e:Unit)=> .ix d m.Fields.length (.br (b.Card !=1) (rl ()) (.br (b.dH.Kind !=10) (rl ()) (.lt (fM (fun(m:aO)=>m.Name==b.dH.Name) s.Messages) fun c=> .br (decide (0<=c)) (.ix c a.length (.br (!a.getD c.toNat false) (.ret (.inr true)) (rl ()))) (rl ()))))) (fun d (e:Unit)=> .ret false) ()
def vV (s:ay)(m:aO)(a:List Bool):=(NF s m a).val
theorem agd (s:ay)(m:aO)(a:List Bool)(h:s.Messages.length<=a.length):Is (NF s m a):=
 gU (.inl rfl) (fun c d _ _=>b_ au au (iW iR (fun _=>iW iR (fun _=>dI fun f e=>dB (fun _=>b_ au (by have:=(mO (fun(b:aO)=>b.Name==(m.Fields.getD c aH).dH.Name) s.Messages).1;omega) (aT iR iR)) iR)))) (fun d _=>aQ)
def YN:aZ Z:=E1 [Pm] [jS 2 (bI (fun b=>[s0 7]) (l1 cI))] (ak (aJ bH) (ak (aJ gu) (a1 (bC qQ)))) (R1 aG) [] func117 1 (u3 NF) (fun a=>a.1.Messages.length<=a.2.2.length) fun a h=>agd a.1 a.2.1 a.2.2 h
def adX (s:ay):Pg (List Bool):=.ob ((↑s.Messages.length:Int)=(↑s.Messages.length:Int)/\ 0<=(↑s.Messages.length:Int)/\(↑s.Messages.length:Int)*(1:Int)<=281474976710656/\(↑s.Messages.length:Int)<=1099511627776) (aL s.Messages (.cnt oZ 0 (↑s.Messages.length:Int) (fun d (c:Bool×List Bool)=> aL s.Messages (.br c.1 (.each true oZ s.Messages dP (fun b e (a:Bool×List Bool)=> .ix b a.2.length (.ob (b.toNat < a.2.length) (.br (!a.2.getD b.toNat false) (.ix b s.Messages.length (.ob (s.Messages.length<=a.2.length) (.br (!vV s e a.2) (.ix b a.2.length (.ob (b.toNat < a.2.length) (rl (true,a.2.set b.toNat true)))) (rl a)))) (rl a)))) (fun b (a:Bool×List Bool)=> rl a) (false,c.2)) (.ret (.inr c.2)))) (fun d (c:Bool×List Bool)=> aL s.Messages (.ret c.2)) (true,List.replicate s.Messages.length false)))
def GI (s:ay):=(adX s).val
theorem YI (s:ay)(h:s.Messages.length<=1048576):j_ (adX s) (fun r=>r.length=s.Messages.length):=
 ai (au) (bW <| sQ (fun(e:Int) c=>c.2.length=s.Messages.length) qb au au (fun e c k l f=>have a:c.2.length=s.Messages.length:=f;bW <| dJ (fun _=>dh (fun(g:Nat) b=>b.2.length=s.Messages.length) au au (fun g b i d=>have a:b.2.length=s.Messages.length:=d;aW au au (ai (au) (dJ (fun _=>aW au au (ai (au) (dJ (fun _=>aW au au (ai (au) (af qa7))) (fun _=>af qa7)))) (fun _=>af qa7)))) (fun b a=>have a:b.2.length=s.Messages.length:=a;af qa7)) (fun _=>af qa7)) (fun e c _ j a=>have a:c.2.length=s.Messages.length:=a;bW <| af qa7))
def axY:aZ Z:=E1 [YN] [jS 4 (bI (fun b=>[s0 5, s0 4, .row (pid (b 3)) 4]) (aB cI (aB aG (l1 qQ)))),jS 8 (bI (fun b=>[s0 6, s0 4, .row (pid (b 3)) 4]) (aB cI (aB aG (l1 qQ))))] (a1 (aJ bH)) (R1 qQ) [] func62 1 adX (fun a=>a.Messages.length<=1048576) fun a h=>(YI a h).1
def acK (l:List mg)(n:Int):Pg Bool:=.each true uj l tJ (fun a b (c:Unit)=> .ix a l.length (.br (decide (b.From<=n)) (.ix a l.length (.br (decide (n<=b.To)) (.ret (.inr true)) (rl ()))) (rl ()))) (fun a (c:Unit)=> .ret false) ()
def Dk (l:List mg)(n:Int):=(acK l n).val
theorem aro (l:List mg)(n:Int):Is (acK l n):=
 gU (.inl rfl) (fun b a _ _=>b_ au au (dB (fun _=>b_ au au (dB iR iR)) iR)) (fun a _=>aQ)
def afu:aZ Z:=E0 [] [jS 2 (bI (fun b=>[s0 5]) (l1 cI))] (ak (bC p_) (a1 (bC cI))) (R1 aG) [] func120 1 (u2 acK) fun a=>aro a.1 a.2
def aet (bad:Bool)(a:Int)(e:Int)(p:aC):Pg aC:=.br bad (.ob (bZ (p.l.length+1) 32) (.ret (aC.mk p.rP (p.l++[eY.mk p.rP a e])))) (.ret p)
def bg (bad:Bool)(a:Int)(e:Int)(p:aC):=(aet bad a e p).val
theorem aqx (bad:Bool)(a:Int)(e:Int)(p:aC)(h:p.l.length<=68719476736):Is (aet bad a e p):=
 aT (fun _=>aY ((dm au au)) (aQ)) iR
def BO:aZ Z:=vF Z [] [] (kN (ak (jf 0) (ak (bC aG) (ak (bC cI) (a1 (bC cI))))) (Zw 1 [none,some 233] bJ)) (wE (kJ (zl 0) (kJ (qx Oc) (kJ (qx (pG _)) (RZ (qx (pG _)))))) (Dy (k:=1) vX (fun _=>rfl)) rfl) (shr [.cells 0 [none,some 233]] (l1 bJ)) [] func59 ntmps59 eQ 0 rfl (fun a=>aet (a.1.2.1) (a.1.2.2.1) (a.1.2.2.2) (a.2)) (fun a=>some ((a.2).l.length<=68719476736)) (fun a e _=>by kernel_rfl) (fun a=>bg (a.1.2.1) (a.1.2.2.1) (a.1.2.2.2) (a.2)) (fun a h=>⟨aqx (a.1.2.1) (a.1.2.2.1) (a.1.2.2.2) (a.2) h,rfl⟩)
theorem qN {bad:Bool}{a e:Int}{p v:aC}(h:v=bg bad a e p):v.l.length<=p.l.length+1:=by
 subst h;unfold bg aet;cases bad
 ·exact Qd7 _
 ·simp[Pg.val]
theorem aEm {bad a:Bool}{c e b d:Int}{p v:aC}(h:v=bg bad c e (bg a b d p)):v.l.length<=p.l.length+2:=by
 have f:=qN h;have g:=qN (rfl:bg a b d p=_);omega
theorem afl (bad:Bool)(a e:Int)(p:aC):(bg bad a e p).l.length<=p.l.length+1:=qN rfl
def N_ (l:List Note)(a:Int)(b:Int)(p:aC):Pg aC:=.ob (p.l.length<=68719476736) (.lt (YC l a) fun c=> .ret (bg (c !=0) b c p))
def jo (l:List Note)(a:Int)(b:Int)(p:aC):=(N_ l a b p).val
theorem aih (l:List Note)(a:Int)(b:Int)(p:aC)(h:p.l.length<=68719476736):Is (N_ l a b p):=
 aY qaq (dI fun d c=>aQ)
def Jm:aZ Z:=vF Z [BO,apa] [] (kN (ak (jf 0) (ak (bC lS) (ak (bC cI) (a1 (bC cI))))) (Zw 1 [none,some 233] bJ)) (wE (kJ (zl 0) (kJ (qx Sm) (kJ (qx (pG _)) (RZ (qx (pG _)))))) (Dy (k:=1) vX (fun _=>rfl)) rfl) (shr [.cells 0 [none,some 233]] (l1 bJ)) [] func125 ntmps125 eQ 0 rfl (fun a=>N_ (a.1.2.1) (a.1.2.2.1) (a.1.2.2.2) (a.2)) (fun a=>some ((a.2).l.length<=68719476736)) (fun a e _=>by kernel_rfl) (fun a=>jo (a.1.2.1) (a.1.2.2.1) (a.1.2.2.2) (a.2)) (fun a h=>⟨aih (a.1.2.1) (a.1.2.2.1) (a.1.2.2.2) (a.2) h,rfl⟩)
theorem awp {l:List Note}{a b:Int}{p v:aC}(h:v=jo l a b p):v.l.length<=p.l.length+1:=by
 subst h;exact afl _ _ _ _
theorem aC0 (l:List Note)(a b:Int)(p:aC):(jo l a b p).l.length<=p.l.length+1:=awp rfl
def MO (l:List mg)(f:Int)(h:Int)(p:aC):Pg aC:=.each true oZ l tJ (fun a c (b:aC)=> .ix a l.length (.lt (bg (decide (c.From<=(l.getD (dA .i64 (a - 1)).toNat tJ).To)) (-1) 11 (bg true (-1) 6 b)) fun j=> .lt (bg false (-1) 11 (bg true (-1) 6 b)) fun i=> .lt (bg true (-1) 6 b) fun d=> .lt (dA .i64 (a - 1)) fun e=> .br (decide (c.From < f)) (.ob (b.l.length<=68719476736) (.br (decide (0 < a)) (.ix a l.length (.ix e l.length (.ob (d.l.length<=68719476736) (rl j)))) (.ob (d.l.length<=68719476736) (rl i)))) (.ix a l.length (.br (decide (h < c.To)) (.ob (b.l.length<=68719476736) (.br (decide (0 < a)) (.ix a l.length (.ix e l.length (.ob (d.l.length<=68719476736) (rl j)))) (.ob (d.l.length<=68719476736) (rl i)))) (.ix a l.length (.ix a l.length (.ob (b.l.length<=68719476736) (.lt (bg (decide (c.To < c.From)) (-1) 6 b) fun g=> .br (decide (0 < a)) (.ix a l.length (.ix e l.length (.ob (g.l.length<=68719476736) (rl (bg (decide (c.From<=(l.getD e.toNat tJ).To)) (-1) 11 g))))) (.ob (g.l.length<=68719476736) (rl (bg false (-1) 11 g))))))))))) (fun a (b:aC)=> .ret b) p
def xR (l:List mg)(a:Int)(b:Int)(p:aC):=(MO l a b p).val
theorem KX (l:List mg)(b:Int)(d:Int)(p:aC)(h:p.l.length+2*l.length<=68719476736):j_ (MO l b d p) (fun r=>r.l.length<=p.l.length+2*l.length):=
 dh (fun(e:Nat) a=>a.l.length<=p.l.length+2*e) au au (fun e a w k=>have c:a.l.length<=p.l.length+2*e:=k;aW au au (az fun t g=>have q:=aEm g;az fun v i=>have m:=aEm i;az fun u f=>have s:=qN f;nC fun y n _=>bG (fun _=>ai (au) (bG (fun _=>aW au au (aW au au (ai (au) (af Ak)))) (fun _=>ai (au) (af Ak)))) (fun _=>aW au au (bG (fun _=>ai (au) (bG (fun _=>aW au au (aW au au (ai (au) (af Ak)))) (fun _=>ai (au) (af Ak)))) (fun _=>aW au au (aW au au (ai (au) (az fun x j=>have o:=qN j;bG (fun _=>aW au au (aW au au (ai (au) (af Ak)))) (fun _=>ai (au) (af Ak)))))))))) (fun a c=>have c:a.l.length<=p.l.length+2*l.length:=c;af Ak)
def X5:aZ Z:=vF Z [BO] [jS 1 (bI (fun b=>[s0 8, .cells (pid (b 0)) [none,some 233]]) (aB cI (l1 bJ)))] (kN (ak (jf 0) (ak (bC p_) (ak (bC cI) (a1 (bC cI))))) (Zw 1 [none,some 233] bJ)) (wE (kJ (zl 0) (kJ (qx Sr) (kJ (qx (pG _)) (RZ (qx (pG _)))))) (Dy (k:=1) vX (fun _=>rfl)) rfl) (shr [.cells 0 [none,some 233]] (l1 bJ)) [] func126 ntmps126 eQ 0 rfl (fun a=>MO (a.1.2.1) (a.1.2.2.1) (a.1.2.2.2) (a.2)) (fun a=>some ((a.2).l.length+2*(a.1.2.1).length<=68719476736)) (fun a e _=>by kernel_rfl) (fun a=>xR (a.1.2.1) (a.1.2.2.1) (a.1.2.2.2) (a.2)) (fun a h=>⟨(KX (a.1.2.1) (a.1.2.2.1) (a.1.2.2.2) (a.2) h).1,rfl⟩)
def U3 (f:aK):Pg Bool:=.br (f.Card !=5) (.br (decide (1<=f.Card)) (.br (decide (f.Card<=4)) (.ret (f.Key==0)) (.ret false)) (.ret false)) (.br (f.Key==1) (.br (f.Key==1) (.ret true) (.ret false)) (.br (f.Key==2) (.br (f.Key==2) (.ret true) (.ret false)) (.br (f.Key==3) (.br (f.Key==3) (.ret true) (.ret false)) (.br (f.Key==4) (.br (f.Key==4) (.ret true) (.ret false)) (.br (f.Key==5) (.br (f.Key==5) (.ret true) (.ret false)) (.br (f.Key==7) (.ret true) (.ret false)))))))
def FV (f:aK):=(U3 f).val
theorem aje (f:aK):Is (U3 f):=
 iW (fun _=>dB (fun _=>dB iR iR) iR) (fun _=>dY (fun _=>dY iR iR) (fun _=>dY (fun _=>dY iR iR) (fun _=>dY (fun _=>dY iR iR) (fun _=>dY (fun _=>dY iR iR) (fun _=>dY (fun _=>dY iR iR) (fun _=>dY iR iR))))))
def apD:aZ Z:=E0 [] [] (a1 (aJ eG)) (R1 aG) [] func121 1 U3 fun a=>aje a
def adY (s:ay)(f:aK):Pg Bool:=.br (f.dH.Kind==9) (.lt (fM (fun(m:dV)=>m.Name==f.dH.Name) s.Enums) fun a=> .ret (decide (0<=a))) (.br (f.dH.Kind==10) (.lt (fM (fun(m:aO)=>m.Name==f.dH.Name) s.Messages) fun b=> .br (decide (0<=b)) (.ret (f.Card !=3)) (.ret false)) (.br (decide (1<=f.dH.Kind)) (.br (decide (f.dH.Kind<=8)) (.ret (f.dH.Name==[])) (.ret false)) (.ret false)))
def Nb (s:ay)(f:aK):=(adY s f).val
theorem ars (s:ay)(f:aK):Is (adY s f):=
 dY (fun _=>dI fun c a=>aQ) (fun _=>dY (fun _=>dI fun d b=>dB iR iR) (fun _=>dB (fun _=>dB iR iR) iR))
def auL:aZ Z:=E0 [Pm,abf] [] (ak (aJ bH) (a1 (aJ eG))) (R1 aG) [] func122 1 (u2 adY) fun a=>ars a.1 a.2
def La (m:aO)(a:Int):Pg Bool:=.ix a m.Fields.length (.br ((m.Fields.getD a.toNat aH).Union==[]) (.ret true) (.br ((m.Fields.getD a.toNat aH).Card !=2) (.ret false) (.br (!uF (m.Fields.getD a.toNat aH).Union) (.ret false) (.each true oZ m.Fields aH (fun b d (c:Bool)=> .ix b m.Fields.length (.br (d.Name==(m.Fields.getD a.toNat aH).Union) (.ret (.inr false)) (.br (decide (b < a)) (.ix b m.Fields.length (.br (d.Union==(m.Fields.getD a.toNat aH).Union) (rl true) (rl c))) (rl c)))) (fun b (c:Bool)=> .br (!c) (.ret true) (.lt (dA .i64 (a - 1)) fun e=> .ix e m.Fields.length (.ret ((m.Fields.getD e.toNat aH).Union==(m.Fields.getD a.toNat aH).Union)))) false))))
def Cc (m:aO)(a:Int):=(La m a).val
theorem ag5 (m:aO)(a:Int)(h:0<=a/\a < m.Fields.length):Is (La m a):=
 by
 refine b_ au au (aT iR (fun _=>iW iR (fun _=>aT iR (fun _=>BC (fun _ y=>y=true->0 < a) (fun h=>by cases h) (.inl rfl) (fun k f _ _ b=>⟨b_ au au (aT iR (fun _=>dB (fun _=>b_ au au (aT iR iR)) iR)),fun j c=> ?_⟩) (fun f _ b=>aT iR (fun d=> ?_))))))
 ·revert c;simp only[eU,bf,aI,Qa6,X6];(repeat' split)<;>intro e<;>cases e<;>first | exact b | (intro _;omega)
 ·have:=b (by simpa using d);exact ni fun l g i=>b_ au au aQ
def ajN:aZ Z:=E1 [Og] [jS 8 (bI (fun b=>[s0 7, s0 6]) (aB cI (l1 aG)))] (ak (aJ gu) (a1 (bC cI))) (R1 aG) [] func123 1 (u2 La) (fun a=>0<=a.2/\a.2 < a.1.Fields.length) fun a h=>ag5 a.1 a.2 h
def Nz (s:ay)(f:aK):Pg Bool:=.br (!f.dD) (.ret (Dj f.Default.re (ah.mk 0 0 [] [] [] [] []))) (.br (f.Card !=2) (.ret false) (.br (f.Union !=[]) (.ret false) (.br (!zN f.dH.Kind f.Default.re) (.ret false) (.br (!Dj f.Default.re (qE f.Default.re).re) (.ret false) (.br (f.dH.Kind !=9) (.ret true) (.lt (fM (fun(m:dV)=>m.Name==f.dH.Name) s.Enums) fun a=> .br (decide (a < 0)) (.ret false) (.ab5 [0<=a/\a < (↑s.Enums.length:Int)] true uj (s.Enums.getD a.toNat kE).Items jI (fun b c (e:Unit)=> .ix a s.Enums.length (.ix b (s.Enums.getD a.toNat kE).Items.length (.lt (dA .u64 c.Num) fun d=> .br (d==f.Default.Bits) (.ret (.inr true)) (rl ())))) (fun b (e:Unit)=> .ret false) ())))))))
def BU (s:ay)(f:aK):=(Nz s f).val
theorem agX (s:ay)(f:aK):Is (Nz s f):=
 aT iR (fun _=>iW iR (fun _=>aT iR (fun _=>aT iR (fun _=>aT iR (fun _=>iW iR (fun _=>dI fun h b=>dB iR (fun _=>by
 have d:=(mO (fun(m:dV)=>m.Name==f.dH.Name) s.Enums).1;exact au5 ⟨by omega,trivial⟩ (.inl rfl) (fun e a _ _=>b_ au au (b_ au au (dI fun g c=>dY iR iR))) (fun a _=>aQ))))))))
def ajs:aZ Z:=E0 [abf,asR,ain,ayL] [jS 12 (bI (fun b=>[s0 7]) (l1 cI))] (ak (aJ bH) (a1 (aJ eG))) (R1 aG) [] func124 1 (u2 Nz) fun a=>agX a.1 a.2
def aiS (l:List Str):Pg Bool:=.Qp [] (some (l.length<=9223372036854775807)) uj 1 (↑l.length:Int) (fun a (c:Unit)=> .ix a l.length (.lt (dA .i64 (a - 1)) fun b=> .ix b l.length (.br (Op.bytesLess (l.getD a.toNat []) (l.getD b.toNat []) || l.getD a.toNat []==l.getD b.toNat []) (.ret (.inr false)) (rl ())))) (fun a (c:Unit)=> .ret true) ()
def Tn (l:List Str):=(aiS l).val
theorem ap7 (l:List Str):Is (aiS l):=
 zT trivial au (fun h=>by simp only[qW]at h;omega) (fun b a _ _ _=>b_ au au (ni fun d c _=>b_ au au (aT iR iR))) (fun b a _ _=>aQ)
def as7:aZ Z:=E0 [] [jS 2 (bI (fun b=>[s0 3]) (l1 cI))] (a1 (bC bV)) (R1 aG) [] func60 1 aiS fun a=>ap7 a
def U1 (a:List Str)(b:List Str):Pg Bool:=.each true uj a [] (fun c d (e:Unit)=> .ix c a.length (.br (Ju b d) (.ret (.inr true)) (rl ()))) (fun c (e:Unit)=> .ret false) ()
def uI (a:List Str)(b:List Str):=(U1 a b).val
theorem akT (a:List Str)(b:List Str):Is (U1 a b):=
 gU (.inl rfl) (fun d c _ _=>b_ au au (aT iR iR)) (fun c _=>aQ)
def ap2:aZ Z:=E0 [amH] [jS 2 (bI (fun b=>[s0 5]) (l1 cI))] (ak (bC bV) (a1 (bC bV))) (R1 aG) [] func61 1 (u2 U1) fun a=>akT a.1 a.2
def Bf (s:ay)(b:Int):Pg (List Str):=.cut (fun(f:List Str)=> .cut (fun(e:List Str)=> .wh (s.dQ.length+1) default (fun(a:Int×List Str)=> .br (b==3) (aL s.dQ (.br (decide (a.1 < (↑s.dQ.length:Int))) (.ix a.1 s.dQ.length (.ob (bZ (a.2.length+1) 16) (rl (dA .i64 (a.1+1),a.2++[(s.dQ.getD a.1.toNat lu).Name])))) (.ret (.inr a.2)))) (.ret (.inr a.2))) (0,e)) (.wh (s.Enums.length+1) default (fun(d:Int×List Str)=> .br (b==2) (aL s.Enums (.br (decide (d.1 < (↑s.Enums.length:Int))) (.ix d.1 s.Enums.length (.ob (bZ (d.2.length+1) 16) (rl (dA .i64 (d.1+1),d.2++[(s.Enums.getD d.1.toNat kE).Name])))) (.ret (.inr (.inl d.2))))) (.ret (.inr (.inl d.2)))) (0,f))) (.wh (s.Messages.length+1) default (fun(c:Int×List Str)=> .br (b==1) (aL s.Messages (.br (decide (c.1 < (↑s.Messages.length:Int))) (.ix c.1 s.Messages.length (.ob (bZ (c.2.length+1) 16) (rl (dA .i64 (c.1+1),c.2++[(s.Messages.getD c.1.toNat dP).Name])))) (.ret (.inr (.inl c.2))))) (.ret (.inr (.inl c.2)))) (0,[]))
def lX (s:ay)(a:Int):=(Bf s a).val
theorem afy (s:ay)(a:Int)(h:okS s):Is (Bf s a):=
 by
 obtain⟨i,j,g,_⟩:=h;have w:∀x:Int,0<=x->x < 1000->dA .i64 (x+1)=x+1:=fun x _ _=>dU (k:= .i64) tZ
 refine j_.is (Q:=fun _=>True) (bP (fun e=>e.length<=150) ?_ (fun e b=>bP (fun d=>d.length<=300) ?_ (fun d c=> ?_)))
 ·refine qo (fun x=>0<=x.1/\x.1<=s.Messages.length/\x.2.length<=x.1.toNat) (fun x=>s.Messages.length - x.1.toNat) ⟨MS _,by dsimp only;omega,nO _⟩ (by dsimp only;omega) (fun x f=>dK (fun _=>bW <| bG (fun _=>aW au au (ai (dm au au) (af ?_))) (fun _=>af ?_)) (fun _=>af ?_))
  ·simp only[Sum.elim_inl,um,Qbw];rw[w _ au au];omega
  ·show x.2.length<=150;omega
  ·show x.2.length<=150;omega
 ·have b:e.length<=150:=b;refine qo (fun x=>0<=x.1/\x.1<=s.Enums.length/\x.2.length<=150+x.1.toNat) (fun x=>s.Enums.length - x.1.toNat) ⟨MS _,by dsimp only;omega,by dsimp only;omega⟩ (by dsimp only;omega) (fun x f=>dK (fun _=>bW <| bG (fun _=>aW au au (ai (dm au au) (af ?_))) (fun _=>af ?_)) (fun _=>af ?_))
  ·simp only[Sum.elim_inl,um,Qbw];rw[w _ au au];omega
  ·show x.2.length<=300;omega
  ·show x.2.length<=300;omega
 ·have c:d.length<=300:=c;refine qo (fun x=>0<=x.1/\x.1<=s.dQ.length/\x.2.length<=300+x.1.toNat) (fun x=>s.dQ.length - x.1.toNat) ⟨MS _,by dsimp only;omega,by dsimp only;omega⟩ (by dsimp only;omega) (fun x f=>dK (fun _=>bW <| bG (fun _=>aW au au (ai (dm au au) (af ?_))) (fun _=>af trivial)) (fun _=>af trivial))
  ·simp only[Sum.elim_inl,um,Qbw];rw[w _ au au];omega
def ajA:aZ Z:=E1 [] [jS 3 (bI (fun b=>[s0 6, .slot 5 false [some 9]]) (aB cI (l1 bV))),jS 7 (bI (fun b=>[s0 7, .slot 5 false [some 9]]) (aB cI (l1 bV))),jS 11 (bI (fun b=>[s0 8, .slot 5 false [some 9]]) (aB cI (l1 bV))),jS 100006 (bI (fun b=>[.slot 5 false [some 9]]) (l1 bV)),jS 100010 (bI (fun b=>[.slot 5 false [some 9]]) (l1 bV))] (ak (aJ bH) (a1 (bC cI))) (R1 bV) [] func58 1 (u2 Bf) (fun a=>okS a.1) fun a h=>afy a.1 a.2 h
theorem aug {l:List mg}{a b:Int}{p v:aC}(c:p.l.length+2*l.length<=68719476736)(h:v=xR l a b p):v.l.length<=p.l.length+2*l.length:=by
 subst h;exact(KX l a b p c).2
def acd (s:ay)(v:bQ):Pg (List eY):=.ob (List.length v.Name<=9223372036854775807) (.ob (0<=68719476736) (.lt (bg (!A_ v.Name) (-1) 8 (aC.mk v.Name [])) fun h=> .ob (h.l.length<=68719476736) (.each true oZ v.Methods fG (fun a b (d:aC)=> .ix a v.Methods.length (.ob (d.l.length<=68719476736) (.cut (fun(g:aC)=> .cut (fun(f:aC)=> .cut (fun(i:aC)=> .ob (i.l.length<=68719476736) (rl (jo b.Notes 6 a i))) (.br (decide (b.Shape < 1)) (.ob (f.l.length<=68719476736) (rl (bg true a 1 f))) (.ob (f.l.length<=68719476736) (rl (bg (decide (4 < b.Shape)) a 1 f))))) (.lt (fM (fun(m:aO)=>m.Name==b.In) s.Messages) fun k=> .br (decide (k < 0)) (.ob (g.l.length<=68719476736) (rl (bg true a 12 g))) (.ob (g.l.length<=68719476736) (.lt (fM (fun(m:aO)=>m.Name==b.Out) s.Messages) fun j=> rl (bg (decide (j < 0)) a 12 g))))) (.lt (bg (!uF b.Name) a 8 d) fun c=> .br (decide (0 < a)) (.lt (dA .i64 (a - 1)) fun e=> .ix e v.Methods.length (.ob (c.l.length<=68719476736) (rl (bg (Op.bytesLess b.Name (v.Methods.getD e.toNat fG).Name || b.Name==(v.Methods.getD e.toNat fG).Name) a 11 c)))) (.ob (c.l.length<=68719476736) (rl (bg false a 11 c))))))) (fun a (d:aC)=> .ob (d.l.length<=68719476736) (.ret (jo v.Notes 5 (-1) d).l)) (bg (decide (64 < (↑v.Methods.length:Int))) (-1) 3 h))))
def aer (s:ay)(v:bQ):=(acd s v).val
theorem Wp (s:ay)(v:bQ)(h:Yi v):j_ (acd s v) (fun r=>r.length<=16777216):=
 have C:v.Methods.length<=1048576:=h.1;have y:v.Name.length<=1048576:=h.2;ai (AV) (ai (AV) (az fun B k=>have t:=qN k;ai (AV) (dh (fun(a:Nat) b=>b.l.length<=2+5*a) qa5 au (fun a b z m=>have g:b.l.length<=2+5*a:=m;aW au au (ai (AV) (bP (fun f=>f.l.length<=2+5*a+2) (az fun p l=>have n:=qN l;bG (fun _=>nC fun q u _=>aW au au (ai (AV) (af Ak))) (fun _=>ai (AV) (af Ak))) (fun f e=>have e:f.l.length<=2+5*a+2:=e;bP (fun i=>i.l.length<=2+5*a+3) (az fun A w=>bG (fun _=>ai (AV) (af Ak)) (fun _=>ai (AV) (az fun x o=>af Ak))) (fun i c=>have c:i.l.length<=2+5*a+3:=c;bP (fun j=>j.l.length<=2+5*a+4) (bG (fun _=>ai (AV) (af Ak)) (fun _=>ai (AV) (af Ak))) (fun j d=>have d:j.l.length<=2+5*a+4:=d;ai (AV) (af Ak))))))) (fun b g=>have g:b.l.length<=2+5*v.Methods.length:=g;ai (AV) (af Ak)))))
def awn:aZ Z:=E1 [BO,JP,Og,Jm,Pm] [jS 5 (bI (fun b=>[s0 6, .cells (pid (b 5)) [none,some 233]]) (aB cI (l1 bJ))),jS 100010 (bI (fun b=>[.cells (pid (b 5)) [none,some 233]]) (l1 bJ)),jS 100011 (bI (fun b=>[.cells (pid (b 5)) [none,some 233]]) (l1 bJ)),jS 100012 (bI (fun b=>[.cells (pid (b 5)) [none,some 233]]) (l1 bJ)),jS 800001 (bI (fun b=>[.cells (pid (b 5)) [none,some 233]]) (l1 bJ))] (ak (aJ bH) (a1 (aJ qU))) (R1 lL) [] func65 1 (u2 acd) (fun a=>Yi a.2) fun a h=>(Wp a.1 a.2 h).1
def Uu (e:dV):Pg (List eY):=.cut (fun(j:aC)=> .cut (fun(k:aC)=> .cut (fun(F:aC)=> .each true oZ e.Items jI (fun i a (b:aC)=> .ix i e.Items.length (.cnt oZ 0 i (fun E (h:Bool)=> .ix E e.Items.length (.br ((e.Items.getD E.toNat jI).Name==a.Name) (rl true) (rl h))) (fun E (h:Bool)=> .lt (dA .i64 (i - 1)) fun l=> .lt (Dk e.Reserved a.Num) fun d=> .lt (uF a.Name) fun g=> .br (decide (a.Num < 0)) (.ob (b.l.length<=68719476736) (.lt (bg true a.Num 6 b) fun c=> .br (decide (0 < i)) (.ix l e.Items.length (.ob (c.l.length<=68719476736) (.lt (bg (decide (a.Num<=(e.Items.getD l.toNat jI).Num)) a.Num 11 c) fun s=> .ob (s.l.length<=68719476736) (.lt (bg (!g) a.Num 8 s) fun z=> .ob (z.l.length<=68719476736) (.lt (bg h a.Num 9 z) fun p=> .ob (p.l.length<=68719476736) (.lt (bg d a.Num 21 p) fun t=> .ob (t.l.length<=68719476736) (rl (jo a.Notes 4 a.Num t)))))))) (.ob (c.l.length<=68719476736) (.lt (bg false a.Num 11 c) fun B=> .ob (B.l.length<=68719476736) (.lt (bg (!g) a.Num 8 B) fun y=> .ob (y.l.length<=68719476736) (.lt (bg h a.Num 9 y) fun C=> .ob (C.l.length<=68719476736) (.lt (bg d a.Num 21 C) fun v=> .ob (v.l.length<=68719476736) (rl (jo a.Notes 4 a.Num v))))))))) (.ob (b.l.length<=68719476736) (.lt (bg (decide (2147483647 < a.Num)) a.Num 6 b) fun f=> .br (decide (0 < i)) (.ix l e.Items.length (.ob (f.l.length<=68719476736) (.lt (bg (decide (a.Num<=(e.Items.getD l.toNat jI).Num)) a.Num 11 f) fun r=> .ob (r.l.length<=68719476736) (.lt (bg (!g) a.Num 8 r) fun x=> .ob (x.l.length<=68719476736) (.lt (bg h a.Num 9 x) fun o=> .ob (o.l.length<=68719476736) (.lt (bg d a.Num 21 o) fun w=> .ob (w.l.length<=68719476736) (rl (jo a.Notes 4 a.Num w)))))))) (.ob (f.l.length<=68719476736) (.lt (bg false a.Num 11 f) fun D=> .ob (D.l.length<=68719476736) (.lt (bg (!g) a.Num 8 D) fun n=> .ob (n.l.length<=68719476736) (.lt (bg h a.Num 9 n) fun u=> .ob (u.l.length<=68719476736) (.lt (bg d a.Num 21 u) fun A=> .ob (A.l.length<=68719476736) (rl (jo a.Notes 4 a.Num A)))))))))) false)) (fun i (b:aC)=> .ob (b.l.length+2*e.Reserved.length<=68719476736) (.lt (xR e.Reserved 0 2147483647 b) fun q=> .ob (q.l.length<=68719476736) (.ret (jo e.Notes 3 (-1) q).l))) F) (.br (decide (0 < (↑e.Items.length:Int))) (.ix 0 e.Items.length (.ob (k.l.length<=68719476736) (rl (bg ((e.Items.getD 0 jI).Num !=0) (-1) 14 k)))) (.ob (k.l.length<=68719476736) (rl (bg false (-1) 14 k))))) (.lt (bg true (-1) 3 j) fun m=> .br (decide ((↑e.Items.length:Int) < 1)) (.ob (j.l.length<=68719476736) (rl m)) (.br (decide (64 < (↑e.Items.length:Int))) (.ob (j.l.length<=68719476736) (rl m)) (.ob (j.l.length<=68719476736) (rl (bg (decide (16 < (↑e.Reserved.length:Int))) (-1) 3 j)))))) (.ob (List.length e.Name<=9223372036854775807) (.ob (0<=68719476736) (rl (bg (!A_ e.Name) (-1) 8 (aC.mk e.Name [])))))
def Vr (e:dV):=(Uu e).val
theorem QT (e:dV)(h:okE e):j_ (Uu e) (fun r=>r.length<=16777216):=
 have h1:e.Items.length<=1048576:=h.1;have h2:e.Reserved.length<=1048576:=h.2.1;have h3:e.Name.length<=1048576:=h.2.2;bP (fun i=>i.l.length<=1) (ai (AV) (ai (AV) (af Ak))) (fun i c=>have c:i.l.length<=1:=c;bP (fun g=>g.l.length<=2) (az fun P q=>have aw:=qN q;bG (fun _=>ai (AV) (af Ak)) (fun _=>bG (fun _=>ai (AV) (af Ak)) (fun _=>ai (AV) (af Ak)))) (fun g d=>have d:g.l.length<=2:=d;bP (fun o=>o.l.length<=3) (bG (fun _=>aW au au (ai (AV) (af Ak))) (fun _=>ai (AV) (af Ak))) (fun o f=>have f:o.l.length<=3:=f;dh (fun(n:Nat) b=>b.l.length<=3+6*n) qa5 au (fun n b am y=>have a:b.l.length<=3+6*n:=y;aW au au (sQ (fun(s:Int) D=>True) (by trivial) au au (fun s D a8 bc G=>have a:True:=G;aW au au (dJ (fun _=>af Ak) (fun _=>af Ak))) (fun s D _ aR a=>have a:True:=a;nC fun v9 a4 _=>az fun L AZ=>az fun ap J_=>bG (fun _=>ai (AV) (az fun aa J=>have T:=qN J;bG (fun _=>aW au au (ai (AV) (az fun a3 u=>have S:=qN u;ai (AV) (az fun N E=>have an:=qN E;ai (AV) (az fun R I=>have U:=qN I;ai (AV) (az fun V F=>have a2:=qN F;ai (AV) (af Ak))))))) (fun _=>ai (AV) (az fun O z=>have aM:=qN z;ai (AV) (az fun M C=>have av:=qN C;ai (AV) (az fun aD B=>have W:=qN B;ai (AV) (az fun al H=>have aq:=qN H;ai (AV) (af Ak)))))))) (fun _=>ai (AV) (az fun ba t=>have a6:=qN t;bG (fun _=>aW au au (ai (AV) (az fun ac w=>have a7:=qN w;ai (AV) (az fun bb x=>have ao:=qN x;ai (AV) (az fun Q j=>have ag:=qN j;ai (AV) (az fun a9 p=>have K:=qN p;ai (AV) (af Ak))))))) (fun _=>ai (AV) (az fun Z v=>have aA:=qN v;ai (AV) (az fun aE k=>have bd:=qN k;ai (AV) (az fun ad l=>have X:=qN l;ai (AV) (az fun Y m=>have ar:=qN m;ai (AV) (af Ak))))))))))) (fun b a=>have a:b.l.length<=3+6*e.Items.length:=a;ai (AV) (az fun ab A=>have a5:=aug au A;ai (AV) (af Ak))))))
def arJ:aZ Z:=E1 [BO,JP,Og,afu,Jm,X5] [jS 6 (bI (fun b=>[s0 4, .cells (pid (b 3)) [none,some 233]]) (aB cI (l1 bJ))),jS 11 (bI (fun b=>[s0 7, s0 6]) (aB cI (l1 aG))),jS 100003 (bI (fun b=>[.cells (pid (b 3)) [none,some 233]]) (l1 bJ)),jS 100004 (bI (fun b=>[.cells (pid (b 3)) [none,some 233]]) (l1 bJ)),jS 100005 (bI (fun b=>[.cells (pid (b 3)) [none,some 233]]) (l1 bJ)),jS 800001 (bI (fun b=>[.cells (pid (b 3)) [none,some 233]]) (l1 bJ))] (a1 (aJ kC)) (R1 lL) [] func64 1 Uu (fun a=>okE a) fun a h=>(QT a h).1
def adm (s:ay)(m:aO)(l:List Bool):Pg (List eY):=.cut (fun(f:aC)=> .cut (fun(z:aC)=> .cut (fun(k:aC)=> .ob (k.l.length+2*m.Reserved.length<=68719476736) (.each true oZ m.Gone [] (fun h o (b:aC)=> .ix h m.Gone.length (.ob (List.length o<=9223372036854775700) (.ob (b.l.length<=68719476736) (rl (bg (!aeG o) (-1) 7 b))))) (fun h (b:aC)=> .ob (b.l.length<=68719476736) (.ob (s.Messages.length<=l.length) (.lt (jo m.Notes 1 (-1) b) fun i=> .ob (i.l.length<=68719476736) (.ret (bg (vV s m l) (-1) 19 i).l)))) (xR m.Reserved 1 65535 k))) (.each true oZ m.Fields aH (fun c a (e:aC)=> .ix c m.Fields.length (.cnt oZ 0 c (fun w (v:Bool)=> .ix w m.Fields.length (.br ((m.Fields.getD w.toNat aH).Name==a.Name) (rl true) (rl v))) (fun w (v:Bool)=> .cut (fun(g:aC)=> .cut (fun(x:aC)=> .ob (x.l.length<=68719476736) (.lt (bg (!uF a.Name) a.Num 8 x) fun n=> .ob (n.l.length<=68719476736) (.cut (fun(y:aC)=> .ob (y.l.length<=68719476736) (.lt (bg (!FV (aK.mk a.Num a.Name a.Card a.Key a.dH a.Union a.dD a.Default.re a.Notes)) a.Num 1 y) fun t=> .ob (t.l.length<=68719476736) (.ix c m.Fields.length (.lt (bg (!Nb s (aK.mk a.Num a.Name a.Card a.Key a.dH a.Union a.dD a.Default.re a.Notes)) a.Num 12 t) fun r=> .ob (r.l.length<=68719476736) (.lt (bg (!Cc m c) a.Num 15 r) fun u=> .ob (u.l.length<=68719476736) (.lt (bg (!BU s (aK.mk a.Num a.Name a.Card a.Key a.dH a.Union a.dD a.Default.re a.Notes)) a.Num 1 u) fun p=> .ob (p.l.length<=68719476736) (rl (jo a.Notes 2 a.Num p)))))))) (.lt (bg v a.Num 9 n) fun d=> .br (Dk m.Reserved a.Num) (.ob (d.l.length<=68719476736) (rl (bg true a.Num 21 d))) (.ob (d.l.length<=68719476736) (rl (bg (Ju m.Gone a.Name) a.Num 21 d))))))) (.br (decide (0 < c)) (.lt (dA .i64 (c - 1)) fun j=> .ix j m.Fields.length (.ob (g.l.length<=68719476736) (rl (bg (decide (a.Num<=(m.Fields.getD j.toNat aH).Num)) a.Num 11 g)))) (.ob (g.l.length<=68719476736) (rl (bg false a.Num 11 g))))) (.br (decide (a.Num < 1)) (.ob (e.l.length<=68719476736) (rl (bg true a.Num 6 e))) (.ob (e.l.length<=68719476736) (rl (bg (decide (65535 < a.Num)) a.Num 6 e))))) false)) (fun c (e:aC)=> rl e) z)) (.lt (bg true (-1) 3 f) fun q=> .br (decide (64 < (↑m.Fields.length:Int))) (.ob (f.l.length<=68719476736) (rl q)) (.br (decide (16 < (↑m.Reserved.length:Int))) (.ob (f.l.length<=68719476736) (rl q)) (.ob (f.l.length<=68719476736) (rl (bg (decide (16 < (↑m.Gone.length:Int))) (-1) 3 f)))))) (.ob (List.length m.Name<=9223372036854775807) (.ob (0<=68719476736) (rl (bg (!A_ m.Name) (-1) 8 (aC.mk m.Name [])))))
def aeV (s:ay)(m:aO)(a:List Bool):=(adm s m a).val
theorem VY (s:ay)(m:aO)(n:List Bool)(h:okM m/\s.Messages.length<=n.length):j_ (adm s m n) (fun r=>r.length<=16777216):=
 have h1:m.Fields.length<=1048576:=h.1.1;have h2:m.Reserved.length<=1048576:=h.1.2.1;have h3:m.Gone.length<=1048576:=h.1.2.2.1;have h4:m.Name.length<=1048576:=h.1.2.2.2.1;bP (fun v=>v.l.length<=1) (ai (TC) (ai (TC) (af Ak))) (fun v l=>have l:v.l.length<=1:=l;bP (fun t=>t.l.length<=2) (az fun aa x=>have X:=qN x;bG (fun _=>ai (TC) (af Ak)) (fun _=>bG (fun _=>ai (TC) (af Ak)) (fun _=>ai (TC) (af Ak)))) (fun t j=>have j:t.l.length<=2:=j;bP (fun g=>g.l.length<=10485762) (dh (fun(b:Nat) f=>f.l.length<=2+10*b) qa5 au (fun b f V B=>have a:f.l.length<=2+10*b:=B;aW au au (sQ (fun(J:Int) y=>True) (by trivial) au au (fun J y M Q z=>have a:True:=z;aW au au (dJ (fun _=>af Ak) (fun _=>af Ak))) (fun J y _ L a=>have a:True:=a;bP (fun q=>q.l.length<=2+10*b+1) (bG (fun _=>ai (TC) (af Ak)) (fun _=>ai (TC) (af Ak))) (fun q i=>have i:q.l.length<=2+10*b+1:=i;bP (fun u=>u.l.length<=2+10*b+2) (bG (fun _=>nC fun P Y _=>aW au au (ai (TC) (af Ak))) (fun _=>ai (TC) (af Ak))) (fun u o=>have o:u.l.length<=2+10*b+2:=o;ai (TC) (az fun R F=>have O:=qN F;ai (TC) (bP (fun w=>w.l.length<=2+10*b+5) (az fun Z A=>have W:=qN A;dJ (fun _=>ai (TC) (af Ak)) (fun _=>ai (TC) (af Ak))) (fun w p=>have p:w.l.length<=2+10*b+5:=p;ai (TC) (az fun ag E=>have K:=qN E;ai (TC) (aW au au (az fun ac H=>have ad:=qN H;ai (TC) (az fun al G=>have U:=qN G;ai (TC) (az fun T D=>have ab:=qN D;ai (TC) (af Ak)))))))))))))) (fun f a=>have a:f.l.length<=2+10*m.Fields.length:=a;af Ak)) (fun g k=>have k:g.l.length<=10485762:=k;ai (TC) (dh (fun(e:Nat) c=>c.l.length<=12582914+1*e) qa5 au (fun e c aJk C=>have a:c.l.length<=12582914+1*e:=C;aW au au (ai (TC) (ai (TC) (af Ak)))) (fun c a=>have a:c.l.length<=12582914+1*m.Gone.length:=a;ai (TC) (ai (TC) (az fun N I=>have S:=awp I;ai (TC) (af Ak))))))))
def awd:aZ Z:=E1 [BO,amH,YN,JP,Og,afu,apD,auL,ajN,ajs,Jm,X5,afZ] [jS 5 (bI (fun b=>[s0 8, .cells (pid (b 7)) [none,some 233]]) (aB cI (l1 bJ))),jS 10 (bI (fun b=>[s0 11, s0 10]) (aB cI (l1 aG))),jS 26 (bI (fun b=>[s0 12, .cells (pid (b 7)) [none,some 233]]) (aB cI (l1 bJ))),jS 100003 (bI (fun b=>[.cells (pid (b 7)) [none,some 233]]) (l1 bJ)),jS 100004 (bI (fun b=>[.cells (pid (b 7)) [none,some 233]]) (l1 bJ)),jS 100015 (bI (fun b=>[.cells (pid (b 7)) [none,some 233]]) (l1 bJ)),jS 100016 (bI (fun b=>[.cells (pid (b 7)) [none,some 233]]) (l1 bJ)),jS 100019 (bI (fun b=>[.cells (pid (b 7)) [none,some 233]]) (l1 bJ)),jS 100024 (bI (fun b=>[.cells (pid (b 7)) [none,some 233]]) (l1 bJ)),jS 800001 (bI (fun b=>[.cells (pid (b 7)) [none,some 233]]) (l1 bJ))] (ak (aJ bH) (ak (aJ gu) (a1 (bC qQ)))) (R1 lL) [] func63 1 (u3 adm) (fun a=>okM a.2.1/\a.1.Messages.length<=a.2.2.length) fun a h=>(VY a.1 a.2.1 a.2.2 h).1
def ade (s:ay):Pg (List eY):=.cut (fun(d:aC)=> .ob (okS s) (.ob (okS s) (.ob (okS s) (.cut (fun(w:aC)=> .ob (s.Messages.length<=1048576) (.cut (fun(x:aC)=> .cut (fun(v:aC)=> .each true oZ s.dQ lu (fun j p (e:aC)=> .ix j s.dQ.length (.ob (Yi p) (.lt (aer s p) fun q=> .ob (bZ (e.l.length+q.length) 32) (rl (aC.mk e.rP (e.l++q)))))) (fun j (e:aC)=> .ret e.l) v) (.each true oZ s.Enums kE (fun f k (a:aC)=> .ix f s.Enums.length (.ob (okE k) (.lt (Vr k) fun o=> .ob (bZ (a.l.length+o.length) 32) (rl (aC.mk a.rP (a.l++o)))))) (fun f (a:aC)=> rl a) x)) (.each true oZ s.Messages dP (fun t u (c:aC)=> .ix t s.Messages.length (.lt (GI s) fun r=> .ob (okM u/\s.Messages.length<=r.length) (.lt (aeV s u r) fun i=> .ob (bZ (c.l.length+i.length) 32) (rl (aC.mk c.rP (c.l++i)))))) (fun t (c:aC)=> rl c) w))) (.lt (bg true (-1) 9 d) fun m=> .lt (lX s 1) fun h=> .lt (lX s 2) fun n=> .br (uI h n) (.ob (d.l.length<=68719476736) (rl m)) (.lt (lX s 3) fun g=> .br (uI h g) (.ob (d.l.length<=68719476736) (rl m)) (.ob (d.l.length<=68719476736) (rl (bg (uI n g) (-1) 9 d))))))))) (.wh (5) default (fun(b:Int×aC)=> .br (decide (b.1<=3)) (.ob (okS s) (.ob (b.2.l.length<=68719476736) (.lt (bg (decide (64 < (↑(lX s b.1).length:Int))) (-1) 3 b.2) fun l=> .ob (l.l.length<=68719476736) (rl (dA .i64 (b.1+1),bg (!Tn (lX s b.1)) (-1) 11 l))))) (.ret (.inr (.inl b.2)))) (1,aC.mk [] []))
def ack (s:ay):=(ade s).val
theorem apg (s:ay)(h:okS s):Is (ade s):=
 by
 have i:=h;obtain⟨h1,X,Y,O,R,N⟩:=h;refine j_.is (Q:=fun _=>True) (bP (fun z=>z.l.length<=10) ?_ (fun z n=>ai i (ai i (ai i (bP (fun B=>B.l.length<=11) ?_ (fun B r=>ai au (bP (fun E=>E.l.length<=2600000000) ?_ (fun E p=>bP (fun g=>g.l.length<=5200000000) ?_ (fun g l=> ?_)))))))))
 ·refine qo (fun x=>1<=x.1/\x.1<=4/\x.2.l.length+2<=2*x.1.toNat) (fun x=>4 - x.1.toNat) ⟨MS _,by decide,nO _⟩ mi (fun x Z=>bG (fun C=>ai i (ai au (az fun J A=>have k:=qN A;ai au (af ?_)))) (fun _=>af ?_))
  ·have k2:=afl (!Tn (lX s x.1)) (-1) 11 J;have w:dA .i64 (x.1+1)=x.1+1:=dU (k:= .i64) tZ;simp only[Sum.elim_inl,w];omega
  ·show x.2.l.length<=10;omega
 ·have n:z.l.length<=10:=n;refine az fun q G=>have k:=qN G;az fun U V=>az fun W S=>dJ (fun _=>ai au (af ?_)) (fun _=>az fun T P=>dJ (fun _=>ai au (af ?_)) (fun _=>ai au (af ?_)))
  ·show q.l.length<=11;omega
  ·show q.l.length<=11;omega
  ·exact yI (afl _ _ _ _) au
 ·have r:B.l.length<=11:=r;have M:(GI s).length=s.Messages.length:=(YI s au).2;refine dh (fun k y=>y.l.length<=11+16777216*k) au au (fun F f e a=>aW au au (az fun u K=> ?_)) (fun f a=>af (by have a:f.l.length<=11+16777216*s.Messages.length:=a;show f.l.length<=2600000000;omega));have a:f.l.length<=11+16777216*F:=a;have b:=O _ (getD_mem (d:=dP) e);have C:s.Messages.length<=u.length:=by rw[K,M];exact nO _
  refine ai ⟨b,C⟩ (az fun m H=> ?_);have k:m.length<=16777216:=by rw[H];exact(VY s _ u ⟨b,C⟩).2
  exact ai (dm au au) (af (by show(f.l++m).length<=11+16777216*(F+1);rw[um];omega))
 ·have p:E.l.length<=2600000000:=p;refine dh (fun k y=>y.l.length<=2600000000+16777216*k) au au (fun j c e a=>aW au au ?_) (fun c a=>af (by have a:c.l.length<=2600000000+16777216*s.Enums.length:=a;show c.l.length<=5200000000;omega));have a:c.l.length<=2600000000+16777216*j:=a;have b:=R _ (getD_mem (d:=kE) e);refine ai b (az fun t L=> ?_);have k:t.length<=16777216:=by rw[L];exact(QT _ b).2
  exact ai (dm au au) (af (by show(c.l++t).length<=2600000000+16777216*(j+1);rw[um];omega))
 ·have l:g.l.length<=5200000000:=l;refine dh (fun k y=>y.l.length<=5200000000+16777216*k) au au (fun o D e a=>aW au au ?_) (fun D a=>af trivial);have a:D.l.length<=5200000000+16777216*o:=a;have b:=N _ (getD_mem (d:=lu) e);refine ai b (az fun v I=> ?_);have k:v.length<=16777216:=by rw[I];exact(Wp s _ b).2
  exact ai (dm au au) (af (by show(D.l++v).length<=5200000000+16777216*(o+1);rw[um];omega))
def atT:aZ Z:=E1 [ajA,BO,as7,ap2,axY,awd,arJ,awn] [jS 3 (bI (fun b=>[s0 4, .cells (pid (b 3)) [none,some 233]]) (aB cI (l1 bJ))),jS 14 (bI (fun b=>[s0 10, .cells (pid (b 3)) [none,some 233]]) (aB cI (l1 bJ))),jS 18 (bI (fun b=>[s0 11, .cells (pid (b 3)) [none,some 233]]) (aB cI (l1 bJ))),jS 22 (bI (fun b=>[s0 12, .cells (pid (b 3)) [none,some 233]]) (aB cI (l1 bJ))),jS 100008 (bI (fun b=>[.cells (pid (b 3)) [none,some 233]]) (l1 bJ)),jS 100012 (bI (fun b=>[.cells (pid (b 3)) [none,some 233]]) (l1 bJ)),jS 100017 (bI (fun b=>[.cells (pid (b 3)) [none,some 233]]) (l1 bJ)),jS 100021 (bI (fun b=>[.cells (pid (b 3)) [none,some 233]]) (l1 bJ)),jS 800001 (bI (fun b=>[.cells (pid (b 3)) [none,some 233]]) (l1 bJ))] (a1 (aJ bH)) (R1 lL) [] func31 1 ade (fun a=>okS a) fun a h=>apg a h
def Nk (s:ay):Pg Bool:=.ob (okS s) (.ret ((↑(ack s).length:Int)==0))
def O6 (s:ay):=(Nk s).val
theorem afN (s:ay)(h:okS s):Is (Nk s):=
 aY (h) (aQ)
def aj3:aZ Z:=E1 [atT] [] (a1 (aJ bH)) (R1 aG) [] func13 1 Nk (fun a=>okS a) fun a h=>afN a h
def aK9 (x:aO)(a:Str):Pg Bool:=.ret (x.Name==a)
def aK5 (x:aO)(a:Str):=(aK9 x a).val
def asX:aZ Z:=xx [] [] (ak (aJ gu) (a1 (jf 0))) (b1 (aV cStr)) (R1 aG) [0] func151 1 (u11 aK9)
def fsM (l:List aO)(a:Str):Pg (aO×Bool):=aL l (.each false uj l dP (fun c b (d:Unit)=> .ix c l.length (.br (aK5 b a) (.ret (.inr (b,true))) (rl ()))) (fun c (d:Unit)=> .ret (aO.mk [] [] [] [] [],false)) ())
def aNv (l:List aO)(a:Str):=(fsM l a).val
def aLb:aZ Z:=xx [asX] [jS 2 (bI (fun b=>[s0 11]) (l1 cI))] (ak (bC ug) (a1 (lH 151 [0]))) (b1 (aV cStr)) (shr [.slot 0 true (nn 5), s0 1] (aB gu (l1 aG))) [0] func150 2 (u11 fsM)
def aLj (x:bQ)(a:Str):Pg Bool:=.ret (x.Name==a)
def aJ5 (x:bQ)(a:Str):=(aLj x a).val
def av6:aZ Z:=xx [] [] (ak (aJ qU) (a1 (jf 0))) (b1 (aV cStr)) (R1 aG) [0] func147 1 (u11 aLj)
def fsS (l:List bQ)(a:Str):Pg (bQ×Bool):=aL l (.each false uj l lu (fun c b (d:Unit)=> .ix c l.length (.br (aJ5 b a) (.ret (.inr (b,true))) (rl ()))) (fun c (d:Unit)=> .ret (bQ.mk [] [] [],false)) ())
def aBA (l:List bQ)(a:Str):=(fsS l a).val
def aLq:aZ Z:=xx [av6] [jS 2 (bI (fun b=>[s0 11]) (l1 cI))] (ak (bC zW) (a1 (lH 147 [0]))) (b1 (aV cStr)) (shr [.slot 0 true (nn 3), s0 1] (aB qU (l1 aG))) [0] func146 2 (u11 fsS)
def aJI (x:fC)(a:Str):Pg Bool:=.ret (x.Name==a)
def aKx (x:fC)(a:Str):=(aJI x a).val
def ayA:aZ Z:=xx [] [] (ak (aJ rq) (a1 (jf 0))) (b1 (aV cStr)) (R1 aG) [0] func79 1 (u11 aJI)
def fsW (l:List fC)(a:Str):Pg (fC×Bool):=aL l (.each false uj l fG (fun c b (d:Unit)=> .ix c l.length (.br (aKx b a) (.ret (.inr (b,true))) (rl ()))) (fun c (d:Unit)=> .ret (fC.mk [] [] [] 0 [],false)) ())
def aHl (l:List fC)(a:Str):=(fsW l a).val
def aL1:aZ Z:=xx [ayA] [jS 2 (bI (fun b=>[s0 11]) (l1 cI))] (ak (bC zt) (a1 (lH 79 [0]))) (b1 (aV cStr)) (shr [.slot 0 true (nn 5), s0 1] (aB rq (l1 aG))) [0] func78 2 (u11 fsW)
def aLH (x:aK)(a:Int):Pg Bool:=.ret (x.Num==a)
def aLR (x:aK)(a:Int):=(aLH x a).val
def axT:aZ Z:=xx [] [] (ak (aJ eG) (a1 (jf 0))) (b1 (aV cI)) (R1 aG) [0] func153 1 (u11 aLH)
def fsF (l:List aK)(b:Int):Pg (aK×Bool):=aL l (.each false uj l aH (fun c a (d:Unit)=> .ix c l.length (.br (aLR (aK.mk a.Num a.Name a.Card a.Key a.dH a.Union a.dD a.Default.re a.Notes) b) (.ret (.inr (aK.mk a.Num a.Name a.Card a.Key a.dH a.Union a.dD a.Default.re a.Notes,true))) (rl ()))) (fun c (d:Unit)=> .ret (aK.mk 0 [] 0 0 (uS.mk 0 []) [] false (ah.mk 0 0 [] [] [] [] []) [],false)) ())
def aNg (l:List aK)(a:Int):=(fsF l a).val
def aK6:aZ Z:=xx [axT] [jS 2 (bI (fun b=>[s0 11]) (l1 cI))] (ak (bC iw) (a1 (lH 153 [0]))) (b1 (aV cI)) (shr [.slot 0 true (nn 16), s0 1] (aB eG (l1 aG))) [0] func152 2 (u11 fsF)
def afC (s:ay)(a:Str):Pg (aO×Bool):=.ret (aNv s.Messages a)
def GL (s:ay)(a:Str):=(afC s a).val
def JU:aZ Z:=E0 [aLb,asX] [] (ak (aJ bH) (a1 (bC cStr))) (shr [.slot 0 true (nn 5), s0 1] (aB gu (l1 aG))) [] func85 2 (u2 afC)
def agE (s:ay)(a:Str):Pg (bQ×Bool):=.ret (aBA s.dQ a)
def abI (s:ay)(a:Str):=(agE s a).val
def alr:aZ Z:=E0 [aLq,av6] [] (ak (aJ bH) (a1 (bC cStr))) (shr [.slot 0 true (nn 3), s0 1] (aB qU (l1 aG))) [] func77 2 (u2 agE)
def auY (m:aO)(b:Int):Pg (aK×Bool):=.lt (aNg m.Fields b) fun a=> .ret (aK.mk a.1.Num a.1.Name a.1.Card a.1.Key a.1.dH a.1.Union a.1.dD a.1.Default.re a.1.Notes,a.2)
def UT (m:aO)(a:Int):=(auY m a).val
def LK:aZ Z:=E0 [aK6,axT] [] (ak (aJ gu) (a1 (bC cI))) (shr [.slot 0 true (nn 16), s0 1] (aB eG (l1 aG))) [] func86 2 (u2 auY)
def nZ:Str:=[47]
def anA (s:Str):Pg Int:=.as (List.length nZ<=9223372036854775807) (.br (nZ==s) (.ret 0) (.ix 0 (List.length nZ) (.ret (Lib.indexByte s (List.getD nZ 0 0).toNat.toUInt8))))
def adQ (s:Str):=(anA s).val
theorem avZ (s:Str):Is (anA s):=
 gp fun _=>aT iR (fun _=>b_ mi mi aQ)
def aCr:aZ Z:=vF Z [QF] [jS 15 (bI (fun c=>[s0 8, s0 10]) (aB cI (l1 cI)))] (args (ak (bC cStr) (a1 (bC cStr)))) (lJ (n:=143) rfl) (R1 cI) [] func144 ntmps144 eQ 1 rfl (fun a=>anA (a.1)) (fun a=>some (a.2=nZ)) (fun⟨s,p⟩ e h=>by have b:p=nZ:=h;subst b;show _=_;kernel_rfl) (fun a=>adQ (a.1)) (fun a h=>⟨avZ (a.1),rfl⟩)
theorem MF (c:UInt8):∀(s:List UInt8) (k:Nat),wV (fun x=>x==c) s k=bif decide (Lib.indexByte s c= -1)then -1 else Lib.indexByte s c+k
 | [],k=>rfl
 | x::s,k=>by
  have b:=MF c s (k+1);have d:=Lib.indexByte_ge s c;unfold wV Lib.indexByte;cases e:x==c with
  | true=>simp
  | false=>
   simp only[mX,Qa8,if_false];rw[b];by_cases h:Lib.indexByte s c= -1
   ·simp[h]
   ·have a:(Lib.indexByte s c== -1)=false:=beq_eq_false_iff_ne.2 h;rw[a];simp only[Qa8,if_false];rw[qM h,qM au];simp only[mX];omega
theorem am4 (s:Str):adQ s=fM (fun x=>x==47) s:=by
 have e:Lib.indexByte s 47=fM (fun x=>x==47) s:=by
  unfold fM;rw[MF];by_cases h:Lib.indexByte s 47= -1
  ·simp[h]
  ·rw[qM h];simp
 unfold adQ anA;simp only[iG,bf,eU,aI];cases h:nZ==s with
 | true=>
  have:s=[47]:=(eq_of_beq h).symm;rw[this];rfl
 | false=>exact e
def am_ (s:Str):Pg (List UInt8×List UInt8×Bool):=.ob (nZ=nZ) (.lt (adQ s) fun a=> .br (decide (0<=a)) (.ob ((0:Int)<=0/\0<=a/\a<=(↑(List.length s):Int)) (.lt (dA .i64 (a+(↑(List.length nZ):Int))) fun b=> .ob (0<=b/\b<=(↑(List.length s):Int)/\(↑(List.length s):Int)<=(↑(List.length s):Int)) (.as (List.length nZ<=9223372036854775807) (.ret (List.take a.toNat s,List.drop b.toNat (List.take (List.length s) s),true))))) (.ret (s,[],false)))
def ajE (s:Str):=(am_ s).val
theorem axn (s:Str)(h:s.length<=1048576):Is (am_ s):=
 by
 refine aY rfl (dI fun c a=>dB (fun _=> ?_) iR);have d:c < s.length:=by rw[a,am4];exact(mO (fun(x:UInt8)=>x==47) s).1
 have e:(List.length nZ:Int)=1:=rfl;refine aY ⟨by omega,by omega,by omega⟩ (dI fun f b=> ?_);rw[e,dU (k:= .i64) tZ]at b;exact aY ⟨by omega,by omega,by omega⟩ (gp fun _=>aQ)
def azW:aZ Z:=vF Z [aCr,al7] [] (args (ak (bC cStr) (a1 (bC cStr)))) (lJ (n:=23) rfl) (shr [s0 0, s0 1, s0 2] (aB cStr (aB cStr (l1 aG)))) [] func74 ntmps74 eQ 3 rfl (fun a=>am_ (a.1)) (fun a=>some ((a.2=nZ)/\((a.1).length<=1048576))) (fun⟨s,p⟩ e h=>by have b:p=nZ:=h.1;subst b;show _=_;kernel_rfl) (fun a=>ajE (a.1)) (fun a h=>⟨axn (a.1) h.2,rfl⟩)
def aB7 (s:Str):Pg (List UInt8×List UInt8×Bool):=.ob (nZ=nZ/\List.length s<=1048576) (.ret (ajE s))
def aab (s:Str):=(aB7 s).val
theorem aCh (s:Str)(h:s.length<=1048576):Is (aB7 s):=
 aY ((⟨rfl,h⟩)) (aQ)
def awm:aZ Z:=vF Z [azW] [] (args (ak (bC cStr) (a1 (bC cStr)))) (lJ (n:=13) rfl) (shr [s0 0, s0 1, s0 2] (aB cStr (aB cStr (l1 aG)))) [] func33 ntmps33 eQ 3 rfl (fun a=>aB7 (a.1)) (fun a=>some ((a.2=nZ)/\((a.1).length<=1048576))) (fun⟨s,p⟩ e h=>by have b:p=nZ:=h.1;subst b;show _=_;kernel_rfl) (fun a=>aab (a.1)) (fun a h=>⟨aCh (a.1) h.2,rfl⟩)
theorem aBF (s:Str)(h:s.length<=1048576):aab s=bif decide (0<=fM (fun x=>x==47) s)then(s.take (fM (fun x=>x==47) s).toNat,s.drop ((fM (fun x=>x==47) s).toNat+1),true)else(s,[],false):=by
 have b:=(mO (fun(x:UInt8)=>x==47) s).1;unfold aab aB7 ajE am_;simp only[bY,cZ,bf,iG,aI,am4];by_cases a:0<=fM (fun x=>x==47) s
 ·have e:(List.length nZ:Int)=1:=rfl;rw[rY a,e,dU (k:= .i64) tZ,Kr];rw[show(fM (fun x=>x==47) s+1).toNat=(fM (fun x=>x==47) s).toNat+1 by omega]
 ·rw[qM a];rfl
theorem ayt (s:Str)(h:s.length<=1048576):(aab s).1.length<=s.length:=by
 rw[aBF s h];cases decide (0<=fM (fun x=>x==47) s)
 ·exact nO _
 ·simp only[uu,QA];omega
def Uz (s:ay)(a:Str):Pg (fC×Bool):=.ob ([47]=nZ/\List.length a<=1048576) (.lt (aab a) fun b=> .br (!b.2.2) (.ret (fC.mk [] [] [] 0 [],false)) (.lt (abI s b.1) fun c=> .br (!c.2) (.ret (fC.mk [] [] [] 0 [],false)) (.ret (aHl c.1.Methods b.2.1))))
def aft (s:ay)(a:Str):=(Uz s a).val
def apI:aZ Z:=E1 [awm,alr,aL1,ayA] [] (ak (aJ bH) (a1 (bC cStr))) (shr [.slot 0 true (nn 5), s0 1] (aB rq (l1 aG))) [] func36 2 (u2 Uz) fun a=>a.2.length<=1048576
def agL (s:ay)(a:Str):Pg (fC×Int):=.ob ([47]=nZ/\List.length a<=1048576) (.lt (aab a) fun b=> .br (!b.2.2) (.ret (fC.mk [] [] [] 0 [],2)) (.ob (b.1.length<=4294967296) (.br (!Ve b.1) (.ret (fC.mk [] [] [] 0 [],2)) (.br (!Jw b.2.1) (.ret (fC.mk [] [] [] 0 [],2)) (.ob (List.length a<=1048576) (.lt (aft s a) fun c=> .br (!c.2) (.ret (fC.mk [] [] [] 0 [],10)) (.ret (c.1,0))))))))
def gX (s:ay)(a:Str):=(agL s a).val
theorem ayc (s:ay)(a:Str)(h:a.length<=1048576):Is (agL s a):=
 aY ((⟨rfl,h⟩)) (dI fun d b=>aT iR (fun _=>aY (by have:=ayt a h;rw[b];omega) (aT iR (fun _=>aT iR (fun _=>aY qaq (dI fun e c=>aT iR iR))))))
def v_:aZ Z:=E1 [awm,acE,Uk,apI] [] (ak (aJ bH) (a1 (bC cStr))) (shr [.slot 0 true (nn 5), s0 1] (aB rq (l1 cI))) [] func17 2 (u2 agL) (fun a=>a.2.length<=1048576) fun a h=>ayc a.1 a.2 h
def agP (shape:Int):Pg (Bool×Bool):=.br (shape==3) (.br (shape==2) (.ret (true,true)) (.ret (true,shape==4))) (.br (shape==2) (.ret (shape==4,true)) (.ret (shape==4,shape==4)))
def lV (shape:Int):=(agP shape).val
def vM:aZ Z:=E0 [] [] (a1 (bC cI)) (shr [s0 0, s0 1] (aB aG (l1 aG))) [] func39 2 agP
def ranged (x:dF):Pg Bool:=.br (decide (x.ay_ < 0)) (.ret false) (.br (decide (1099511627776 < x.ay_)) (.ret false) (.cut (fun(a:Bool)=> .br a (.ret (x.Num==0)) (.br (x.Kind==3) (.br (decide (1<=x.Num)) (.ret (decide (x.Num<=65535))) (.ret false)) (.br (x.Kind==4) (.br (decide (0<=x.Num)) (.ret (decide (x.Num<=64))) (.ret false)) (.br (x.Kind==5) (.br (decide (1<=x.Num)) (.ret (decide (x.Num<=13))) (.ret false)) (.ret false))))) (.br (x.Kind==1) (rl (x.Kind==1)) (rl (x.Kind==2)))))
def TK (x:dF):=(ranged x).val
def ahC:aZ Z:=E0 [] [jS 100006 (bI (fun b=>[s0 13]) (l1 aG))] (a1 (aJ jR)) (R1 aG) [] func16 1 ranged
def counted (s:ay)(b:Str)(c:Int):Pg (aK×Bool):=.lt (UT (GL s b).1 c) fun a=> .br (a.1.dH.Kind==4) (.br a.2 (.br (a.1.Card !=4) (.ret (aK.mk a.1.Num a.1.Name a.1.Card a.1.Key a.1.dH a.1.Union a.1.dD a.1.Default.re a.1.Notes,a.1.Card !=5)) (.ret (aK.mk a.1.Num a.1.Name a.1.Card a.1.Key a.1.dH a.1.Union a.1.dD a.1.Default.re a.1.Notes,false))) (.ret (aK.mk a.1.Num a.1.Name a.1.Card a.1.Key a.1.dH a.1.Union a.1.dD a.1.Default.re a.1.Notes,false))) (.br a.2 (.br (a.1.dH.Kind==5) (.br (a.1.Card !=4) (.ret (aK.mk a.1.Num a.1.Name a.1.Card a.1.Key a.1.dH a.1.Union a.1.dD a.1.Default.re a.1.Notes,a.1.Card !=5)) (.ret (aK.mk a.1.Num a.1.Name a.1.Card a.1.Key a.1.dH a.1.Union a.1.dD a.1.Default.re a.1.Notes,false))) (.ret (aK.mk a.1.Num a.1.Name a.1.Card a.1.Key a.1.dH a.1.Union a.1.dD a.1.Default.re a.1.Notes,false))) (.ret (aK.mk a.1.Num a.1.Name a.1.Card a.1.Key a.1.dH a.1.Union a.1.dD a.1.Default.re a.1.Notes,false)))
def ag_ (s:ay)(a:Str)(b:Int):=(counted s a b).val
def Z7:aZ Z:=E0 [JU,LK] [] (ak (aJ bH) (ak (bC cStr) (a1 (bC cI)))) (shr [.slot 0 true (nn 16), s0 1] (aB eG (l1 aG))) [] func40 2 (u3 counted)
def fits (s:ay)(x:dF):Pg Bool:=.ob (List.length x.Method<=1048576) (.lt (gX s x.Method) fun a=> .br (a.2 !=0) (.ret false) (.br (!TK (dF.mk x.Method x.Kind x.Num 0)) (.ret false) (.lt (lV a.1.Shape) fun b=> .br (x.Kind==2) (.ret !b.2) (.br (x.Kind==3) (.br (ag_ s a.1.Out x.Num).2 (.ret !b.2) (.ret false)) (.br (x.Kind==4) (.br b.2 (.ret (a.1.In==a.1.Out)) (.ret false)) (.ret true))))))
def ah7 (s:ay)(x:dF):=(fits s x).val
def XC:aZ Z:=E1 [ahC,v_,vM,Z7] [] (ak (aJ bH) (a1 (aJ jR))) (R1 aG) [] func19 1 (u2 fits) fun a=>a.2.Method.length<=1048576
def avd (s:Str):Pg Bool:=.br (decide ((↑(List.length s):Int) < 1)) (.ret false) (.br (decide (40 < (↑(List.length s):Int))) (.ret false) (.as (List.length s<=9223372036854775807) (.each false uj s 0 (fun a b (c:Unit)=> .ix a (List.length s) (.br (decide ((↑b.toNat:Int) < 97)) (.ix a (List.length s) (.br (decide ((↑b.toNat:Int) < 48)) (.ret (.inr false)) (.ix a (List.length s) (.br (decide (57 < (↑b.toNat:Int))) (.ret (.inr false)) (rl ()))))) (.ix a (List.length s) (.br (decide (122 < (↑b.toNat:Int))) (.ix a (List.length s) (.br (decide ((↑b.toNat:Int) < 48)) (.ret (.inr false)) (.ix a (List.length s) (.br (decide (57 < (↑b.toNat:Int))) (.ret (.inr false)) (rl ()))))) (rl ()))))) (fun a (c:Unit)=> .ret true) ())))
def azV (s:Str):=(avd s).val
def aym:aZ Z:=E0 [] [jS 4 (bI (fun b=>[s0 14]) (l1 cI))] (a1 (bC cStr)) (R1 aG) [] func14 1 avd
section
variable {A B Y Z R R' X:Type}
def aeq (I:Y->Z->Prop)(Q:R->R'->Prop):Y⊕R->Z⊕R'->Prop
 | .inl y, .inl z=>I y z
 | .inr r, .inr s=>Q r s
 | _,_=>False
theorem PY {c:Type}{I:X->c->Prop}{Q:R->R'->Prop}{a:X⊕R}{b:c⊕R'}{k:X->R}{d:c->R'}(h:aeq I Q a b)(e:∀x y,I x y->Q (k x) (d y)):Q (thenS a k) (thenS b d):=by
 cases a<;>cases b
 ·exact e _ _ h
 ·exact h.elim
 ·exact h.elim
 ·exact h
theorem rZ {b:Nat->A->Y->Y⊕R}{f:Nat->Y->R}{i:Nat->B->Z->Z⊕R'}{o:Nat->Z->R'}{d:A}{d':B}(I:Nat->Y->Z->Prop)(Q:R->R'->Prop):∀(l:List A) (g:List B) (k:Nat) (y:Y) (z:Z),l.length=g.length->I k y z->
  (∀j y z,j < l.length->I (k+j) y z->aeq (I (k+j+1)) Q (b (k+j) (l.getD j d) y) (i (k+j) (g.getD j d') z))->
  (∀y z,I (k+l.length) y z->Q (f (k+l.length) y) (o (k+l.length) z))->Q (mJ b f l k y) (mJ i o g k z)
 | [],[],k,y,z,_,n,_,p=>p y z n
 | a::l,c::g,k,y,z,v,n,t,p=>by
  have e:=t 0 y z qb n;simp only[UX,show(a::l).getD 0 d=a from rfl,show(c::g).getD 0 d'=c from rfl]at e;unfold mJ;cases m:b k a y with
  | inl x=>cases h:i k c z with
   | inl u=>
    rw[m,h]at e;refine rZ (d:=d) (d':=d') I Q l g (k+1) x u (by simpa using v) e (fun j y z C w=> ?_) (fun y z w=> ?_)
    ·have q:=t (j+1) y z qb6
     grind
    grind
   | inr s=>rw[m,h]at e;exact e.elim
  | inr r=>cases h:i k c z with
   | inl u=>rw[m,h]at e;exact e.elim
   | inr s=>rw[m,h]at e;exact e
theorem aa9 {b:Nat->A->Y->Y⊕R}{f:Nat->Y->R}{c:Int->Y->Y⊕R}{g:Int->Y->R}{d:A}:∀(l:List A) (k:Nat) (y:Y),(∀j y,j < l.length->b (k+j) (l.getD j d) y=c ↑(k+j) y)->(∀y,f (k+l.length) y=g ↑(k+l.length) y)->mJ b f l k y=o5 c g l.length ↑k y
 | [],k,y,_,h=>h y
 | a::l,k,y,m,h=>by
  have i:=m 0 y qb;simp only[UX,show(a::l).getD 0 d=a from rfl]at i;unfold mJ;show _=o5 c g (l.length+1) ↑k y
  unfold o5;rw[i];cases c ↑k y with
  | inr r=>rfl
  | inl n=>
   have e:((k:Nat):Int)+1=↑(k+1):=by omega
   dsimp only;rw[e];refine aa9 (d:=d) l (k+1) n (fun j y o=> ?_) (fun y=> ?_)
   ·have q:=m (j+1) y qb6
    grind
   grind
end
section
theorem V6 {c:UInt8}:∀{v:List UInt8},(∀x∈v,(x==c)=false)->iU c v=[v]
 | [],_=>rfl
 | x::v,h=>by rw[xM (h x qb),V6 fun y hy=>h y qcy]
theorem Yw {c:UInt8}{v:List UInt8}(d:∀x∈v,(x==c)=false):∀u:List UInt8,iU c (u++c::v)=iU c u++[v]
 | []=>by rw[Qch,yK qb,V6 d];rfl
 | x::u=>by
  have b:=Yw d u;rw[Qbp];cases a:x==c with
  | true=>rw[yK a,yK a,b];rfl
  | false=>
   rw[xM a,xM a,b];cases e:iU c u with
   | nil=>exact absurd e (PE c u)
   | cons p f=>rfl
end
theorem awD (b:Nat):b &&& 9218868437227405312=((b / 2 ^ 52) % 2 ^ 11)*2 ^ 52:=by
 have e:(9218868437227405312:Nat)=(2 ^ 11 - 1) <<< 52:=by decide
 rw[e,<-Nat.shiftLeft_eq];apply Nat.eq_of_testBit_eq;intro i;rw[Nat.testBit_and,Nat.testBit_shiftLeft,Nat.testBit_shiftLeft,Nat.testBit_mod_two_pow,Nat.testBit_two_pow_sub_one,Nat.testBit_div_two_pow]
 grind
theorem aIE (b:Nat)(h:b < 2 ^ 64):(b &&& 9218868437227405312=9218868437227405312/\¬(b &&& 4503599627370495=0)) ↔ 9218868437227405312 < b % 9223372036854775808:=by
 have a:b &&& 4503599627370495=b % 2 ^ 52:=Nat.and_two_pow_sub_one_eq_mod b 52;rw[awD,a];omega
def aoQ (c:UInt8)(s:List UInt8)(r:List UInt8×List UInt8):Prop:=
 (r.1=[]/\r.2=s/\∀x∈s,(x==c)=false)\/(s=r.1++c::r.2/\∀x∈r.2,(x==c)=false)
theorem Fe {c:UInt8}{isW:List UInt8->Bool}{sp:List UInt8->List UInt8×List UInt8}(d:isW []=false)(j:∀y,y.length<=120->aoQ c y (sp y)){b:Int->List UInt8->List UInt8⊕Bool}
  (f:∀i y,b i y=bif y==[]then .inr true else bif isW (sp y).2 then .inr false else .inl (sp y).1):∀(n:Nat) (i:Int) (y:List UInt8),y.length<=n->n<=120->o5 b (fun _ _=>true) n i y= !(iU c y).any isW
 | 0,i,[],_,_=>by simp[o5,iU,d]
 | n+1,i,y,h,r=>by
  unfold o5;rw[f];cases y with
  | nil=>simp[iU,d]
  | cons a y=>
   have e:((a::y)==[])=false:=rfl;rw[e,mX];generalize s:a::y=w at*;rcases j w au with⟨m,g,p⟩ | ⟨m,g⟩
   ·rw[m,g,V6 p];cases l:isW w with
    | true=>simp[l]
    | false=>
     have q:=Fe (c:=c) d j f n (i+1) [] qb au;simp only[mX];rw[q];simp[iU,d,l]
   ·have o:(sp w).1.length<=n:=by
     grind
    have q:=Fe (c:=c) d j f n (i+1) (sp w).1 o au;have k:=Yw g (sp w).1
    grind
theorem aA5 {c:UInt8}{s:List UInt8}{step:Int->Int⊕(List UInt8×List UInt8)}(a:∀x:Int,-1<=x->x < s.length->step x=bif decide (0<=x)then bif s.getD x.toNat 0==c then .inr (s.take x.toNat,s.drop (x.toNat+1))else .inl (x - 1)else .inr ([],s))(l:List UInt8×List UInt8)(n:Nat)(q:s.length < n):
  aoQ c s (RV step l n ((s.length:Int) - 1)):=by
 refine BR (fun(x:Int)=> -1<=x/\x < s.length/\∀j:Nat,x < j->j < s.length->(s.getD j 0==c)=false) (fun(x:Int)=>(x+1).toNat) (fun r=>aoQ c s r) (fun x f=> ?_) n ((s.length:Int) - 1) ⟨by omega,by omega,fun j g h=>by omega⟩ au;obtain⟨g,h,t⟩:=f;rw[a x g h];by_cases b:0<=x
 ·rw[rY b,uu];obtain⟨k,rfl⟩:=Qcy b;simp only[xw];cases f:s.getD k 0==c with
  | true=>
   refine .inr ⟨_,rfl, .inr ⟨?_,fun x d=> ?_⟩⟩
   ·have p:k < s.length:=by omega
    have m:s.getD k 0=c:=eq_of_beq f;have e:s.getD k 0=s[k]:=by grind
    rw[<-m,e];simp
   ·obtain⟨i,o,rfl⟩:=Qdy.1 d
    grind
  | false=>
   grind
 ·rw[qM b,mX];refine .inr ⟨_,rfl, .inl ⟨rfl,rfl,fun y d=> ?_⟩⟩;obtain⟨i,o,rfl⟩:=Qdy.1 d
  grind
section
variable {α:Type}[DecidableEq α]
abbrev qL (a:Type):=List (a×((a->Bool)->Bool))
def EP (X:α->Bool)(n:α):α->Bool:=fun a=>decide (a=n) || X a
def uf (X:α->Bool)(r:α×((α->Bool)->Bool)):α->Bool:=bif r.2 X then EP X r.1 else X
def o6 (R:qL α)(X:α->Bool):α->Bool:=R.foldl uf X
def LeB (X Y:α->Bool):Prop:=∀a,X a=true->Y a=true
def anN (R:qL α):Prop:=∀r∈R,∀X Y,LeB X Y->r.2 X=true->r.2 Y=true
def UF (R:qL α)(C:α->Bool):Prop:=∀r∈R,r.2 C=true->C r.1=true
theorem aho (X:α->Bool)(r:α×((α->Bool)->Bool)):LeB X (uf X r):=fun a h=>by
 unfold uf;cases r.2 X<;>simp[EP,h]
theorem MQ:∀(R:qL α) (X:α->Bool),LeB X (o6 R X)
 | [],X=>fun a h=>h
 | r::R,X=>fun a h=>MQ R (uf X r) a (aho X r a h)
theorem QX {R:qL α}{C:α->Bool}(f:anN R)(g:UF R C):∀(c:qL α) (X:α->Bool),(∀r∈c,r∈R)->LeB X C->LeB (o6 c X) C
 | [],X,_,h=>h
 | r::c,X,d,h=>by
  refine QX f g c (uf X r) (fun q i=>d q (by simp[i])) fun a b=> ?_;unfold uf at b;cases e:r.2 X with
  | false=>rw[e]at b;exact h a b
  | true=>
   rw[e]at b;simp only[uu,EP,Qa9,X6]at b;rcases b with rfl | b
   ·exact g r (d r qb) (f r (d r qb) X C h e)
   ·exact h a b
theorem abg:∀(R:qL α) (X:α->Bool),LeB (o6 R X) X->UF R X
 | [],X,_=>fun r g=>by cases g
 | r::R,X,h=>by
  have e:uf X r=X:=funext fun a=>by
   cases b:X a with
   | true=>exact aho X r a b
   | false=>
    cases f:uf X r a with
    | false=>rfl
    | true=>rw[h a (MQ R _ a f)]at b;cases b
  have d:LeB (o6 R X) X:=by
   have k:o6 (r::R) X=o6 R (uf X r):=rfl
   grind
  intro q c b;rcases EC.1 c with rfl | c
  ·rw[<-e];unfold uf;rw[b];simp[EP]
  ·exact abg R X d q c b
def Wh (R:qL α)(X:α->Bool):Nat:=R.countP fun r=>X r.1
end
section
variable {α:Type}
theorem aBk (R:qL α)(X:α->Bool):Wh R X<=R.length:=List.countP_le_length
theorem cnt_mono {R:qL α}{X Y:α->Bool}(h:LeB X Y):Wh R X<=Wh R Y:=List.countP_mono_left fun r _ a=>h _ a
theorem cnt_lt {X Y:α->Bool}(h:LeB X Y):∀{R:qL α} {r:α×((α->Bool)->Bool)},r∈R->X r.1=false->Y r.1=true->Wh R X < Wh R Y
 | q::R,r,a,d,c=>by
  have m:=cnt_mono (R:=R) h;unfold Wh at m⊢;rw[List.countP_cons,List.countP_cons];rcases EC.1 a with rfl | a
  ·grind
  ·have l:=cnt_lt h a d c;unfold Wh at l;have k:(if X q.1=true then 1 else 0)<=(if Y q.1=true then 1 else 0):=by
    by_cases b:X q.1=true
    ·rw[yY b,yY (h _ b)];omega
    grind
   omega
end
section
variable {α:Type}[DecidableEq α]
theorem awP {X:α->Bool}{r:α×((α->Bool)->Bool)}{a:α}(h:uf X r a=true)(b:X a=false):a=r.1:=by
 unfold uf at h;cases c:r.2 X with
 | false=>grind
 | true=>
  rw[c]at h;simp only[uu,EP,Qa9,X6,b,Qa8,Qea]at h;exact h
theorem agK:∀(R:qL α) (X:α->Bool) (a:α),o6 R X a=true->X a=false->∃r∈R,r.1=a
 | [],X,a,h,b=>by rw[show X a=true from h]at b;cases b
 | r::R,X,a,h,b=>by
  cases c:uf X r a with
  | true=>exact⟨r,by simp,(awP c b).symm⟩
  | false=>
   obtain⟨q,d,e⟩:=agK R (uf X r) a h c
   grind
theorem aqw {R:qL α}{X:α->Bool}(h:¬LeB (o6 R X) X):Wh R X < Wh R (o6 R X):=by
 obtain⟨a,d⟩:∃a,¬(o6 R X a=true->X a=true):=Classical.not_forall.1 h;have b:o6 R X a=true:=Classical.byContradiction fun k=>d fun q=>absurd q k
 have c:X a=false:=by grind
 obtain⟨r,f,e⟩:=agK R X a b c;subst e;exact cnt_lt (MQ R X) f c b
def yR (R:qL α):Nat->(α->Bool)->(α->Bool)
 | 0,X=>X
 | n+1,X=>yR R n (o6 R X)
theorem azR {R:qL α}{X:α->Bool}(h:LeB (o6 R X) X):o6 R X=X:=funext fun a=>by
 cases b:X a with
 | true=>exact MQ R X a b
 | false=>cases c:o6 R X a with
  | false=>rfl
  | true=>rw[h a c]at b;cases b
theorem Qk {R:qL α}{X:α->Bool}(h:LeB (o6 R X) X):∀n,yR R n X=X
 | 0=>rfl
 | n+1=>by unfold yR;rw[azR h];exact Qk h n
theorem Ea {R:qL α}:∀(n:Nat) (X:α->Bool),R.length<=n+Wh R X->UF R (yR R n X)
 | 0,X,h=>fun r b _=>by
  have k:=aBk R X;exact List.countP_eq_length.1 (show R.countP (fun r=>X r.1)=R.length from by unfold Wh at*;omega) r b
 | n+1,X,h=>by
  by_cases a:LeB (o6 R X) X
  ·rw[Qk a];exact abg R X a
  ·have k:=aqw a;exact Ea n (o6 R X) au
theorem EE {R:qL α}{C:α->Bool}(a:anN R)(b:UF R C):∀(n:Nat) (X:α->Bool),LeB X C->LeB (yR R n X) C
 | 0,X,h=>h
 | n+1,X,h=>EE a b n _ (QX a b R X (fun _ h=>h) h)
end
section
variable {A S:Type}
theorem not_any {l:List S}{f g:S->Bool}:(!l.any fun n=>f n && !g n)=true ↔ ∀n∈l,f n=true->g n=true:=by
 grind
def OC (M:List A)(c:A->S)(d:A->List S)(a:S->Bool)(b:S->A):qL S:=M.map fun m=>(c m,fun X=> !(d (b (c m))).any fun n=>a n && !X n)
def Je (c:Nat)(b:Nat->A)(e:A->List S)(a:S->Bool)(d:S->Nat):qL Nat:=(List.range c).map fun i=>(i,fun X=> !(e (b i)).any fun n=>a n && !X (d n))
theorem aJH (M:List A)(g:A->S)(f:A->List S)(a:S->Bool)(b:S->A):anN (OC M g f a b):=by
 intro r i X Y c h;obtain⟨m,_,rfl⟩:=MN.1 i;exact not_any.2 fun n d e=>c n (not_any.1 h n d e)
theorem aLv (e:Nat)(c:Nat->A)(k:A->List S)(b:S->Bool)(a:S->Nat):anN (Je e c k b a):=by
 intro r l X Y d h;obtain⟨i,_,rfl⟩:=MN.1 l;exact(not_any (g:=fun n=>Y (a n))).2 fun n f j=>d _ ((not_any (g:=fun n=>X (a n))).1 h n f j)
end
section
variable {A S:Type}[DecidableEq S]
theorem ar1 (M:List A)(d:A)(g:A->S)(j:A->List S)(c:S->Bool)(f:S->Nat)(l:S->A)
  (D:∀n,c n=true->f n < M.length/\g (M.getD (f n) d)=n) (B:∀i,i < M.length->c (g (M.getD i d))=true)
  (L:∀n,c n=true->l n=M.getD (f n) d) (a b:Nat) (I:M.length<=a) (K:M.length<=b) (n:S) (J:c n=true):
  yR (OC M g j c l) a (fun _=>false) n=yR (Je M.length (fun i=>M.getD i d) j c f) b (fun _=>false) (f n):=by
 have u:=Ea (R:=OC M g j c l) a (fun _=>false) (by unfold OC;grind);have v:=Ea (R:=Je M.length (fun i=>M.getD i d) j c f) b (fun _=>false) (by unfold Je;grind);generalize E:yR (OC M g j c l) a (fun _=>false)=F at u;generalize z:yR (Je M.length (fun i=>M.getD i d) j c f) b (fun _=>false)=G at v;have y:LeB F (fun n=> !c n || G (f n)):=by
  rw[<-E];refine EE (aJH M g j c l) (fun r t h=> ?_) a _ (fun _ h=>by cases h);obtain⟨m,x,rfl⟩:=MN.1 t;obtain⟨i,o,rfl⟩:=Qdy.1 x;have e:M[i]=M.getD i d:=by grind
  have p:=B i o;rw[<-e]at p;dsimp only at h⊢;rw[p,Qbm,Qdn];have w:=(D _ p).1;refine v (f (g M[i]),fun X=> !(j (M.getD (f (g M[i])) d)).any fun n=>c n && !X (f n)) (MN.2 ⟨f (g M[i]),Qca.2 w,rfl⟩) ?_
  grind
 have H:LeB G (fun i=>decide (i≠f (g (M.getD i d))) || F (g (M.getD i d))):=by
  rw[<-z];refine EE (aLv M.length (fun i=>M.getD i d) j c f) (fun r t h=> ?_) b _ (fun _ h=>by cases h);obtain⟨i,o,rfl⟩:=MN.1 t;have o:=Qca.1 o;dsimp only at h⊢;by_cases s:i=f (g (M.getD i d))
  ·rw[qM (fun k=>k s),Qdn];have e:M[i]=M.getD i d:=by grind
   refine u (g (M.getD i d),fun X=> !(j (l (g (M.getD i d)))).any fun n=>c n && !X n) (MN.2 ⟨M.getD i d,e▸Qdw o,rfl⟩) ?_
   grind
  grind
 cases s:F n with
 | true=>
  have q:(!c n || G (f n))=true:=y n s
  grind
 | false=>
  cases C:G (f n)with
  | false=>rfl
  | true=>
   have q:(decide (f n≠f (g (M.getD (f n) d))) || F (g (M.getD (f n) d)))=true:=H _ C
   grind
end
section
variable {A B Y Z R R' X:Type}
def axv (p:Nat->A->Bool):List A->Nat->Bool
 | [],_=>false
 | a::l,k=>p k a || axv p l (k+1)
def aaG (g:Nat->A->Y->Y):List A->Nat->Y->Y
 | [],_,y=>y
 | a::l,k,y=>aaG g l (k+1) (g k a y)
theorem aam {b:Nat->A->Y->Y⊕R}{f:Nat->Y->R}{p:Nat->A->Bool}{g:Nat->A->Y->Y}{r:R}:∀(l:List A) (k:Nat) (y:Y),(∀j a y,l[j]? =some a->b (k+j) a y=bif p (k+j) a then .inr r else .inl (g (k+j) a y))->mJ b f l k y=bif axv p l k then r else f (k+l.length) (aaG g l k y)
 | [],k,y,_=>rfl
 | a::l,k,y,d=>by
  have c:=d 0 a y rfl;unfold mJ axv aaG;rw[UX]at c;rw[c];cases p k a with
  | true=>rfl
  | false=>
   have q:=aam (f:=f) l (k+1) (g k a y) (fun j a y h=>by rw[Qe,Nat.add_comm 1 j];exact d (j+1) a y h)
   grind
theorem ahl (p:A->Bool):∀(l:List A) (k:Nat),axv (fun _ a=>p a) l k=l.any p
 | [],_=>rfl
 | a::l,k=>by unfold axv;rw[Qc8,ahl p l (k+1)]
theorem abo (p:A->Bool)(n:Nat):∀(l:List A) (k:Nat) (y:Bool),aaG (fun j a y=>bif decide (j < n)then bif p a then true else y else y) l k y=(y || (l.take (n - k)).any p)
 | [],k,y=>by simp[aaG]
 | a::l,k,y=>by
  unfold aaG;rw[abo p n l (k+1)];by_cases h:k < n
  ·rw[rY h,uu,show n - k=(n - (k+1))+1 by omega,Qcx,Qc8]
   grind
  ·rw[qM h,mX,show n - k=0 by omega,show n - (k+1)=0 by omega];simp
theorem agj {A Y c:Type}[DecidableEq c]{abs:Y->c->Bool}{I:Y->Prop}{g:Y->A->Y}{r:A->c×((c->Bool)->Bool)}:∀(l:List A) (y:Y),I y->(∀a∈l,∀y,I y->I (g y a)/\abs (g y a)=uf (abs y) (r a))->I (l.foldl g y)/\abs (l.foldl g y)=o6 (l.map r) (abs y)
 | [],y,d,_=>⟨d,rfl⟩
 | a::l,y,d,h=>by
  have e:=h a qb y d;have q:=agj l (g y a) e.1 fun b f=>h b (by simp[f])
  refine⟨q.1,?_⟩;show abs (l.foldl g (g y a))=o6 (l.map r) (uf (abs y) (r a))
  rw[q.2,e.2]
theorem az3 (l:List (List UInt8×Bool))(k:List UInt8):(fun n=>mZ false (qO l k true) n)=EP (fun n=>mZ false l n) k:=funext fun n=>by
 rw[arR];unfold EP
 grind
theorem aCp (l:List Bool)(i:Nat)(h:i < l.length):(fun n=>(l.set i true).getD n false)=EP (fun n=>l.getD n false) i:=funext fun n=>by
 unfold EP
 grind
theorem akZ {b:Type}[DecidableEq b](X:b->Bool)(i:b)(h:X i=true):EP X i=X:=funext fun a=>by
 unfold EP;simp_all
end
section
variable {A B Y Z R R' X:Type}
def aaL (g:Y->Y):Nat->Y->Y
 | 0,y=>y
 | n+1,y=>aaL g n (g y)
theorem aa2 {b:Int->Y->Y⊕R}{f:Int->Y->R}{g:Y->Y}(a:∀i y,b i y= .inl (g y)):∀(n:Nat) (i:Int) (y:Y),o5 b f n i y=f (i+n) (aaL g n y)
 | 0,i,y=>by show f i y=f (i+((0:Nat):Int)) y;grind
 | n+1,i,y=>by
  unfold o5 aaL;rw[a];dsimp only;rw[aa2 a n (i+1) (g y),show i+1+(n:Int)=i+((n+1:Nat):Int) by omega]
theorem agy {a:Type}[DecidableEq a]{abs:Y->a->Bool}{I:Y->Prop}{g:Y->Y}{c:qL a}(b:∀y,I y->I (g y)/\abs (g y)=o6 c (abs y)):∀(n:Nat) (y:Y),I y->abs (aaL g n y)=yR c n (abs y)
 | 0,y,_=>rfl
 | n+1,y,d=>by
  have h:=b y d;unfold aaL yR;rw[agy b n (g y) h.1,h.2]
theorem agu {e:Type}[DecidableEq e]{abs:Y->e->Bool}{I:Y->Prop}{g:Y->Bool×Y}{Rs:qL e}{b:Int->Bool×Y->(Bool×Y)⊕R}{f:Int->Bool×Y->R}{F:Y->R}(k:∀i m y,I y->b i (m,y)=bif m then .inl (g y)else .inr (F y))(j:∀i m y,f i (m,y)=F y)
  (l:∀y,I y->I (g y).2/\abs (g y).2=o6 Rs (abs y)/\((g y).1=false->abs (g y).2=abs y)):∀(n:Nat) (i:Int) (m:Bool) (y:Y),I y->(m=false->o6 Rs (abs y)=abs y)->∃d,o5 b f n i (m,y)=F d/\I d/\abs d=yR Rs n (abs y)
 | 0,i,m,y,c,_=>⟨y,j i m y,c,rfl⟩
 | n+1,i,m,y,c,s=>by
  unfold o5;rw[k i m y c];cases m with
  | false=>
   refine⟨y,rfl,c,?_⟩;rw[Qk (fun a h=>by simp_all)]
  | true=>
   obtain⟨p,t,u⟩:=l y c;obtain⟨d,q,r,o⟩:=agu k j l n (i+1) (g y).1 (g y).2 p fun s=>by
    grind
   refine⟨d,q,r,?_⟩;rw[o,t];rfl
theorem I5 {A c:Type}[DecidableEq c]{abs:Y->c->Bool}{I:Y->Prop}{g:Bool×Y->A->Bool×Y}{r:A->c×((c->Bool)->Bool)}:∀(l:List A) (m:Bool) (y:Y),I y->(∀a∈l,∀m y,I y->I (g (m,y) a).2/\abs (g (m,y) a).2=uf (abs y) (r a)/\((g (m,y) a).1=false->m=false/\abs (g (m,y) a).2=abs y))->
  I (l.foldl g (m,y)).2/\abs (l.foldl g (m,y)).2=o6 (l.map r) (abs y)/\((l.foldl g (m,y)).1=false->m=false/\abs (l.foldl g (m,y)).2=abs y)
 | [],m,y,d,_=>⟨d,rfl,fun h=>⟨h,rfl⟩⟩
 | a::l,m,y,d,h=>by
  obtain⟨e,n,j⟩:=h a qb m y d;obtain⟨i,o,k⟩:=I5 l (g (m,y) a).1 (g (m,y) a).2 e fun b f=>h b (by simp[f])
  refine⟨i,?_,fun p=> ?_⟩
  ·show abs (l.foldl g (g (m,y) a)).2=o6 (l.map r) (uf (abs y) (r a))
   grind
  grind
end
def FB (v:ah):Prop:=0<=v.Bits/\v.Bits < 18446744073709551616/\v.Text.length<=1048576/\v.List.length<=1048576/\v.Pairs.length<=1048576/\v.Slots.length<=1048576/\v.bM.length<=1048576
theorem aBQ (s:Str):Ae s=aeG s:=rfl
theorem au4 (k:Int):aee k=LJ k:=rfl
theorem aIC (k:Int):kM k=awO k:=rfl
theorem aob (v:ah):CQ v=decide ((v.List.length:Int)+v.Pairs.length+v.Slots.length+v.bM.length=0):=by
 unfold CQ aeL;simp only[bf,aI,Qa6,Qb6]
 grind
theorem azO (v:ah)(h:FB v):acY v=(bif CQ v then bif LJ v.Kind then v.Bits==0 else v.Text==[]else false):=by
 obtain⟨_,_,_,c,d,b,a⟩:=h;have w:∀x:Int,0<=x->x<=16777216->dA .i64 x=x:=fun x _ _=>dU (k:= .i64) tZ
 unfold acY av5;simp only[iG,cZ,bf,aI,au4];rw[w ((v.List.length:Int)+v.Pairs.length) au au,w (_+(v.Slots.length:Int)) au au,w (_+(v.bM.length:Int)) au au,aob]
 grind
theorem ahZ (k:Int)(v:ah)(h:FB v):O9 k v=zN k v:=by
 unfold O9 atQ zN OG;simp only[bf,aI,bY,cZ,ah.dR,azO v h,aBQ,aIC];cases awO k with
 | false=>rfl
 | true=>
  cases a:v.Kind !=k with
  | true=>rfl
  | false=>
   have a:v.Kind=k:=by simpa using a
   cases CQ v with
   | false=>rfl
   | true=>
    unfold ah5 acT LJ TM;simp only[bf,aI,cZ,a,Qbm,mX,uu]
    grind
theorem av2 (b:Int)(d:0<=b)(e:b < 18446744073709551616):(Ub b==0)=(Lj b==0):=by
 obtain⟨n,rfl⟩:=Qcy d;have a:n < 2 ^ 64:=by omega
 have a1:uO .u64 (n:Int) 9218868437227405312=((n &&& 9218868437227405312:Nat):Int):=XF (k:= .u64) rfl a mi;have a2:uO .u64 (n:Int) 4503599627370495=((n &&& 4503599627370495:Nat):Int):=XF (k:= .u64) rfl a mi;have c:=aIE n a;have m:(n:Int).tmod 9223372036854775808=((n % 9223372036854775808:Nat):Int):=rfl;unfold Ub ajG Lj Tc;simp only[bf,aI,bY,a1,a2,m,Qa6,Qb6,Qdd,X6,ne_eq]
 grind
theorem aAO (v:ah)(h:FB v):nK v=qE v:=by
 unfold nK ahx qE Xg;simp only[bf,aI,av2 v.Bits h.1 h.2.1]
theorem aJY (v:ah)(h:FB v)(w:ah)(b:w.List.length=v.List.length/\w.Pairs.length=v.Pairs.length/\w.Slots.length=v.Slots.length/\w.bM.length=v.bM.length):Dj v w=(v.Kind==w.Kind && (v.Bits==w.Bits && (v.Text==w.Text && CQ v))):=by
 obtain⟨_,_,_,e,f,d,c⟩:=h;have a:∀x:Int,0<=x->x<=16777216->dA .i64 x=x:=fun x _ _=>dU (k:= .i64) tZ
 unfold Dj WA;simp only[iG,bf,aI];rw[b.1,b.2.1,b.2.2.1,b.2.2.2];rw[a ((v.List.length:Int)+v.Pairs.length) au au];rw[a ((v.List.length:Int)+v.Pairs.length+v.Slots.length) au au];rw[a ((v.List.length:Int)+v.Pairs.length+v.Slots.length+v.bM.length) au au];rw[a ((v.List.length:Int)+v.Pairs.length+v.Slots.length+v.bM.length+v.List.length) au au];rw[a ((v.List.length:Int)+v.Pairs.length+v.Slots.length+v.bM.length+v.List.length+v.Pairs.length) au au];rw[a ((v.List.length:Int)+v.Pairs.length+v.Slots.length+v.bM.length+v.List.length+v.Pairs.length+v.Slots.length) au au];rw[a ((v.List.length:Int)+v.Pairs.length+v.Slots.length+v.bM.length+v.List.length+v.Pairs.length+v.Slots.length+v.bM.length) au au,aob]
 grind
theorem OV:nD=[([100,101,112,114,101,99,97,116,101,100],⟨1,126⟩),([100,111,99],⟨7,126⟩),([97,108,105,97,115],⟨7,84⟩),([115,105,110,99,101],⟨4,84⟩),([117,110,116,105,108],⟨4,84⟩),([109,105,110],⟨3,4⟩),([109,97,120],⟨3,4⟩),([108,101,110,103,116,104],⟨4,4⟩),([115,101,99,114,101,116],⟨1,4⟩),([105,100,101,109,112,111,116,101,110,116],⟨1,64⟩),([116,105,109,101,111,117,116],⟨4,64⟩),([114,111,117,116,101],⟨7,64⟩),([111,119,110,101,114],⟨7,34⟩)]:=rfl
theorem amL {Q:Str->Prop}(b:∀p∈nD,Q p.1)(a:∀n,(∀p∈nD,n≠p.1)->Q n)(n:Str):Q n:=by
 grind
theorem aEA {Q:Str×iT->Prop}(l:Q ([100,101,112,114,101,99,97,116,101,100],⟨1,126⟩))(m:Q ([100,111,99],⟨7,126⟩))(j:Q ([97,108,105,97,115],⟨7,84⟩))(f:Q ([115,105,110,99,101],⟨4,84⟩))(g:Q ([117,110,116,105,108],⟨4,84⟩))(k:Q ([109,105,110],⟨3,4⟩))(n:Q ([109,97,120],⟨3,4⟩))(i:Q ([108,101,110,103,116,104],⟨4,4⟩))(h:Q ([115,101,99,114,101,116],⟨1,4⟩))(b:Q ([105,100,101,109,112,111,116,101,110,116],⟨1,64⟩))(e:Q ([116,105,109,101,111,117,116],⟨4,64⟩))(c:Q ([114,111,117,116,101],⟨7,64⟩))(d:Q ([111,119,110,101,114],⟨7,34⟩)):∀p∈nD,Q p:=by
 intro p a;rw[OV]at a;simp only[EC,Zc,Qea]at a;rcases a with rfl | rfl | rfl | rfl | rfl | rfl | rfl | rfl | rfl | rfl | rfl | rfl | rfl<;>assumption
theorem aC5 {n:Str}(h:∀p∈nD,n≠p.1):n≠[100,101,112,114,101,99,97,116,101,100]/\n≠[100,111,99]/\n≠[97,108,105,97,115]/\n≠[115,105,110,99,101]/\n≠[117,110,116,105,108]/\n≠[109,105,110]/\n≠[109,97,120]/\n≠[108,101,110,103,116,104]/\n≠[115,101,99,114,101,116]/\n≠[105,100,101,109,112,111,116,101,110,116]/\n≠[116,105,109,101,111,117,116]/\n≠[114,111,117,116,101]/\n≠[111,119,110,101,114]:=by
 rw[OV]at h;simp_all
theorem kind_other {n:Str}(h:∀p∈nD,n≠p.1):PW n=0/\qI n=0/\yS nD n=false:=by
 obtain⟨l,m,i,e,f,k,o,g,j,a,d,b,c⟩:=aC5 h;refine⟨?_,?_,?_⟩
 ·unfold PW axb;simp only[aI,OV,mZ,l,m,i,e,f,k,o,g,j,a,d,b,c,if_false];rfl
 ·unfold qI ac_;simp only[jk,bf,aI,beq_eq_false_iff_ne.2 l,beq_eq_false_iff_ne.2 m,beq_eq_false_iff_ne.2 i,beq_eq_false_iff_ne.2 e,beq_eq_false_iff_ne.2 f,beq_eq_false_iff_ne.2 k,beq_eq_false_iff_ne.2 o,beq_eq_false_iff_ne.2 g,beq_eq_false_iff_ne.2 j,beq_eq_false_iff_ne.2 a,beq_eq_false_iff_ne.2 d,beq_eq_false_iff_ne.2 b,beq_eq_false_iff_ne.2 c,mX,jc]
 ·unfold yS
  grind
theorem Jy:∀p∈nD,PW p.1=p.2.kind/\qI p.1=p.2.kind/\p.2.kind≠0/\yS nD p.1=true/\(mZ kU.z nD p.1)=p.2:=
 aEA ⟨rfl,rfl,by decide,rfl,rfl⟩ ⟨rfl,rfl,by decide,rfl,rfl⟩ ⟨rfl,rfl,by decide,rfl,rfl⟩ ⟨rfl,rfl,by decide,rfl,rfl⟩ ⟨rfl,rfl,by decide,rfl,rfl⟩ ⟨rfl,rfl,by decide,rfl,rfl⟩ ⟨rfl,rfl,by decide,rfl,rfl⟩ ⟨rfl,rfl,by decide,rfl,rfl⟩ ⟨rfl,rfl,by decide,rfl,rfl⟩ ⟨rfl,rfl,by decide,rfl,rfl⟩ ⟨rfl,rfl,by decide,rfl,rfl⟩ ⟨rfl,rfl,by decide,rfl,rfl⟩ ⟨rfl,rfl,by decide,rfl,rfl⟩
theorem akS (t:Int)(a:t=1\/t=2\/t=3\/t=4\/t=5\/t=6):∀p∈nD,(uO .i64 (Ar .i64 p.2.targets t) (1:Int)==0)= !G7 p.1 t:=by
 rcases a with rfl | rfl | rfl | rfl | rfl | rfl<;>exact aEA rfl rfl rfl rfl rfl rfl rfl rfl rfl rfl rfl rfl rfl
theorem right_eq (n:Note)(h:FB n.Val):acG n=wO n:=by
 have c:PW n.Name=qI n.Name:=amL (Q:=fun m=>PW m=qI m) (fun p b=>(Jy p b).1.trans (Jy p b).2.1.symm) (fun m a=>(kind_other a).1.trans (kind_other a).2.1.symm) n.Name;unfold acG aiT wO UV;simp only[cZ,bf,aI,ah.dR,c,ahZ _ _ h];cases qI n.Name !=0 with
 | false=>rfl
 | true=>
  cases d:n.Val.Kind==qI n.Name with
  | true=>rfl
  | false=>
   have:(n.Val.Kind !=qI n.Name)=true:=by grind
   unfold zN OG;simp_all
def Yu (l:List Note):Prop:=∀n∈l,FB n.Val
theorem aIb (n:Note)(h:FB n.Val)(t:Int)(j:t=1\/t=2\/t=3\/t=4\/t=5\/t=6)(a:Str)(b:Bool):ayE n t a b=(bif qI n.Name==0 then 8 else bif !G7 n.Name t then 1 else bif !wO n then 12 else bif b then bif Op.bytesLess n.Name a then 11 else bif n.Name==a then 9 else 0 else 0):=by
 have t1:¬t < 1:=by omega
 have t6:¬(6:Int) < t:=by omega
 unfold ayE aIS;simp only[bf,jk,aI,bY,ah.dR,right_eq n h,qM t1,qM t6,mX,jc];have c:(SC kU D.kT nD).has (Pv.str n.Name)=yS nD n.Name:=rfl;rw[c];refine amL (Q:=fun m=>(bif !yS nD m then(8:Int)else bif uO .i64 (Ar .i64 (mZ kU.z nD m).targets t) (1:Int)==0 then 1 else bif !wO n then 12 else bif b then bif Op.bytesLess n.Name a then 11 else bif b then bif n.Name==a then 9 else 0 else 0 else bif b then bif n.Name==a then 9 else 0 else 0)=(bif qI m==0 then 8 else bif !G7 m t then 1 else bif !wO n then 12 else bif b then bif Op.bytesLess n.Name a then 11 else bif n.Name==a then 9 else 0 else 0)) (fun p e=> ?_) (fun m c=> ?_) n.Name
 ·obtain⟨_,d,f,i,g⟩:=Jy p e;rw[i,g,akS t j p e,d,beq_eq_false_iff_ne.2 f]
  grind
 ·obtain⟨_,d,f⟩:=kind_other c
  grind
theorem asl (l:List Note)(h:Yu l)(t:Int)(m:t=1\/t=2\/t=3\/t=4\/t=5\/t=6):UB l t=YC l t:=by
 unfold UB als YC Ut;simp only[bf,iG,jD,eU,cZ,jk,aI];cases a:decide (8 < (l.length:Int))with
 | true=>rfl
 | false=>
  have a:¬8 < (l.length:Int):=Qbz a;simp only[mX];refine rZ (d:=sW) (d':=sW) (fun k (y:List UInt8) _=>k=0\/y=(l.getD (k - 1) sW).Name) Eq l l 0 [] () rfl (.inl rfl) (fun j y z g b=> ?_) (fun _ _ _=>rfl);simp only[Dw]at b⊢;have o:=h _ (getD_mem (d:=sW) g);generalize p:l.getD j sW=n at*;have e:(Note.mk n.Name n.Val.re)=n:=by rw[ah.dR]
  rw[e,aIb n o t m y];by_cases c:j=0
  ·have d0:decide ((0:Int) < (j:Int))=false:=qM au;rw[d0];cases qI n.Name==0 with
   | true=>rfl
   | false=>
    cases G7 n.Name t with
    | false=>rfl
    | true=>
     cases wO n with
     | false=>rfl
     | true=>exact .inr rf
  ·have d0:decide ((0:Int) < (j:Int))=true:=rY au;have i:y=(l.getD (j - 1) sW).Name:=b.resolve_left c;have f:(dA .i64 ((j:Int) - 1)).toNat=j - 1:=by rw[dU (k:= .i64) tZ];omega
   rw[d0,f,<-i];cases qI n.Name==0 with
   | true=>rfl
   | false=>
    cases G7 n.Name t with
    | false=>rfl
    | true=>
     cases wO n with
     | false=>rfl
     | true=>
      cases Op.bytesLess n.Name y with
      | true=>rfl
      | false=>
       cases n.Name==y with
       | true=>rfl
       | false=>exact .inr rf
theorem BN {A B:Type}(c:Bool)(a b:A):(bif c then(Sum.inl a:A⊕B)else .inl b)= .inl (bif c then a else b):=by cases c<;>rfl
theorem aHR (a:Bool)(e:Int)(x:ax):iI a e x=bif a then x else⟨x.rP,x.num,x.out++[⟨x.rP,x.num,e⟩]⟩:=by cases a<;>rfl
theorem aH3 (bad:Bool)(n e:Int)(p:aC):bg bad n e p=bif bad then⟨p.rP,p.l++[⟨p.rP,n,e⟩]⟩else p:=by rfl
theorem Bd (c a b:Bool)(e:Int)(x:ax):(bif c then iI a e x else iI b e x)=iI (bif c then a else b) e x:=by cases c<;>rfl
theorem xK (c a:Bool)(e:Int)(x y:ax):(bif c then iI a e x else iI a e y)=iI a e (bif c then x else y):=by cases c<;>rfl
theorem EU (c a b:Bool)(n e:Int)(x:aC):(bif c then bg a n e x else bg b n e x)=bg (bif c then a else b) n e x:=by cases c<;>rfl
theorem BL (c a:Bool)(n e:Int)(x y:aC):(bif c then bg a n e x else bg a n e y)=bg a n e (bif c then x else y):=by cases c<;>rfl
def qw (n:Int)(x:ax)(p:aC):Prop:=x.rP=p.rP/\x.num=n/\x.out=p.l
theorem fP {n:Int}{x:ax}{p:aC}{b bad:Bool}{e:Int}(h:qw n x p)(f:b= !bad):qw n (iI b e x) (bg bad n e p):=by
 obtain⟨a,c,d⟩:=h;rw[aHR,aH3,f];cases bad with
 | false=>exact⟨a,c,d⟩
 | true=>exact⟨a,c,by grind⟩
theorem Gl {n:Int}{x:ax}{p:aC}(h:qw n x p)(m:Int):qw m ⟨x.rP,m,x.out⟩ p:=⟨h.1,rfl,h.2.2⟩
theorem xP {n:Int}{x:ax}{p:aC}(h:qw n x p)(l:List Note)(a:Yu l)(t:Int)(b:t=1\/t=2\/t=3\/t=4\/t=5\/t=6):qw n (mD l t x) (jo l t n p):=by
 unfold mD anX jo N_;simp only[bY,cZ,aI,asl l a t b];refine fP h ?_
 grind
theorem LG {p q:Prop}[Decidable p][Decidable q](h:p ↔ ¬q):decide p= !decide q:=by
 grind
theorem aba (l:List mg)(a b:Int){x:ax}{p:aC}(h:qw (-1) x p):qw (-1) (Ji l a b x) (xR l a b p):=by
 unfold Ji spans xR MO;simp only[iG,jD,eU,cZ,bf,bY,aI];refine rZ (d:=tJ) (d':=tJ) (fun _=>qw (-1)) (qw (-1)) l l 0 x p rfl h (fun j y z i e=> ?_) (fun y z e=>e);simp only[Dw,BN,Bd,EU,xK,BL];generalize l.getD j tJ=s;show qw (-1) _ _
 by_cases f:a<=s.From
 ·by_cases g:s.To<=b
  ·simp only[rY f,rY g,qM (show ¬s.From < a by omega),qM (show ¬b < s.To by omega),uu,mX];refine fP (fP e (LG au)) ?_;by_cases c:j=0
   ·subst c;rfl
   ·rw[show((j:Int)==0)=false from beq_eq_false_iff_ne.2 au,rY (show(0:Int) < (j:Int) by omega)]
    grind
  ·simp only[rY f,qM g,qM (show ¬s.From < a by omega),rY (show b < s.To by omega),uu,mX];refine fP (fP e rfl) ?_;by_cases c:j=0
   ·subst c;rfl
   ·rw[show((j:Int)==0)=false from beq_eq_false_iff_ne.2 au,rY (show(0:Int) < (j:Int) by omega)]
    grind
 ·simp only[qM f,rY (show s.From < a by omega),uu,mX];refine fP (fP e rfl) ?_;by_cases c:j=0
  ·subst c;rfl
  ·rw[show((j:Int)==0)=false from beq_eq_false_iff_ne.2 au,rY (show(0:Int) < (j:Int) by omega)]
   grind
theorem aKG (c d:UInt8):((c.toNat:Int)==(d.toNat:Int))=(c==d):=by
 apply Qbr.2;simp only[Qb6];constructor
 ·intro h;exact Qc6.1 au
 grind
theorem amU (s:Str):Ag s=Hr s:=by
 unfold Ag isWord Hr ae7;simp only[jk,bf,aI];cases s==[109,101,115,115,97,103,101]
 rotate_left;· rfl
 cases s==[101,110,117,109]
 rotate_left;· rfl
 cases s==[115,101,114,118,105,99,101]
 rotate_left;· rfl
 cases s==[117,110,105,111,110]
 rotate_left;· rfl
 cases s==[109,97,112]
 rotate_left;· rfl
 cases s==[108,105,115,116]
 rotate_left;· rfl
 cases s==[114,101,113,117,105,114,101,100]
 rotate_left;· rfl
 cases s==[111,112,116,105,111,110,97,108]
 rotate_left;· rfl
 cases s==[112,108,97,105,110]
 rotate_left;· rfl
 cases s==[100,101,102,97,117,108,116]
 rotate_left;· rfl
 cases s==[114,101,115,101,114,118,101,100]
 rotate_left;· rfl
 cases s==[105,109,112,111,114,116]
 rotate_left;· rfl
 cases s==[115,112,97,99,101]
 rotate_left;· rfl
 cases s==[114,112,99]
 rotate_left;· rfl
 cases s==[115,116,114,101,97,109]
 rotate_left;· rfl
 cases s==[114,101,116,117,114,110,115]
 rotate_left;· rfl
 cases s==[111,112,101,110]
 rotate_left;· rfl
 cases s==[116,114,117,101]
 rotate_left;· rfl
 cases s==[102,97,108,115,101]
 rotate_left;· rfl
 cases s==[110,97,110]
 rotate_left;· rfl
 cases s==[105,110,102]<;>rfl
theorem TU (s:Str):Fa s=uF s:=by
 unfold Fa ayb uF acs;simp only[bf,aI,ahD,O4,amU]
theorem arG (y:Str)(h:y.length<=4294967296):aoQ 46 y (BG y):=by
 unfold BG Ny;simp only[cZ,tq,bf,eU,bY,aI];have w0:dA .i64 ((y.length:Int) - 1)=(y.length:Int) - 1:=dU (k:= .i64) tZ;rw[w0];refine aA5 (fun x d f=> ?_) _ _ au;by_cases c:0<=x
 ·have e:(((y.getD x.toNat 0).toNat:Int)==46)=(y.getD x.toNat 0==46):=aKG _ 46;have a:dA .i64 (x+1)=x+1:=dU (k:= .i64) tZ;have b:dA .i64 (x - 1)=x - 1:=dU (k:= .i64) tZ
  grind
 grind
theorem PG (s:Str):X9 s=A_ s:=by
 unfold X9 asH A_ Mc;simp only[bY,bf,qC,cZ,aI,axO,amU];cases a:Ky s with
 | false=>rfl
 | true=>
  have b:s.length<=120:=by
   rw[aak,kW,X6]at a;exact a.1
  have d:Hr []=false:=rfl;simp only[Qbm,mX,uu];refine Eq.symm (Fe (c:=46) (isW:=Hr) (sp:=BG) d (fun y e=>arG y au) ?_ 120 0 s b (nO _))
  grind
theorem xQ {A:Type}{b:Nat->A->Unit->Unit⊕Bool}{f:Nat->Unit->Bool}{p:A->Bool}(d:∀k a,b k a ()=bif p a then .inr true else .inl ())(c:∀k,f k ()=false):∀(l:List A) (k:Nat),mJ b f l k ()=l.any p
 | [],k=>c k
 | a::l,k=>by
  unfold mJ;rw[d,Qc8];cases p a with
  | true=>rfl
  | false=>exact xQ d c l (k+1)
theorem Vj {A R:Type}{d:A}{l:List A}{p:A->Bool}{b:Int->Bool->Bool⊕R}{f:Int->Bool->R}(a:∀k y,b k y= .inl (bif p (l.getD k.toNat d)then true else y)):∀(n i:Nat) (y:Bool),i+n<=l.length->o5 b f n (i:Int) y=f ((i+n:Nat):Int) (y || ((l.drop i).take n).any p)
 | 0,i,y,_=>by simp[o5]
 | n+1,i,y,h=>by
  unfold o5;rw[a];have e:((i:Nat):Int)+1=((i+1:Nat):Int):=by omega
  dsimp only;rw[e,Vj a n (i+1) _ au,show i+1+n=i+(n+1) by omega];congr 1;have c:l.drop i=l.getD i d::l.drop (i+1):=by
   rw[Qb (show i < l.length by omega)]
   grind
  rw[c,Qcx,Qc8,xw]
  grind
theorem awh (l:List mg)(n:Int):vU l n=Dk l n:=by
 unfold vU Pq Dk acK;simp only[jD,eU,bf,aI];symm;refine xQ (fun k a=> ?_) (fun k=>rfl) l 0;unfold aoO aHx;simp only[bf,aI]
 grind
theorem has_eq (l:List Str)(v:Str):(l.any fun(x:Str)=>v==x)=Ju l v:=by
 unfold Ju an4;simp only[jD,eU,bf,aI];symm;refine xQ (fun k a=> ?_) (fun k=>rfl) l 0
 grind
theorem yf (s:ay)(n:Str):(jb s n).2=decide (0<=fM (fun(m:aO)=>m.Name==n) s.Messages):=by
 rw[zI]
 grind
theorem aig (s:ay)(a:Str):ac5 s a=bif decide (fM (fun(x:dV)=>x.Name==a) s.Enums < 0)then(dV.mk [] false [] [] [],false)else(s.Enums.getD (fM (fun(x:dV)=>x.Name==a) s.Enums).toNat kE,true):=by
 rfl
theorem azY (s:ay)(n:Str):(ac5 s n).2=decide (0<=fM (fun(m:dV)=>m.Name==n) s.Enums):=by
 rw[aig]
 grind
theorem aCF (f:aK):(bif decide (1<=f.Card)then bif decide (f.Card<=5)then CX f.Card f.Key else false else false)=FV f:=by
 unfold CX adI FV U3;simp only[bf,aI]
 grind
theorem awu (s:ay)(f:aK):HY s f=Nb s f:=by
 unfold HY aea Nb adY;simp only[cZ,bf,aI,yf,azY]
 grind
theorem aAa (v:ah)(h:FB v):aiR v=Dj v (ah.mk 0 0 [] [] [] [] []):=by
 obtain⟨_,_,_,d,e,c,b⟩:=h;have a:∀x:Int,0<=x->x<=16777216->dA .i64 x=x:=fun x _ _=>dU (k:= .i64) tZ
 unfold aiR asE Dj WA;simp only[iG,bf,aI];have l0:((ah.mk 0 0 [] [] [] [] []).List.length:Int)=0/\((ah.mk 0 0 [] [] [] [] []).Pairs.length:Int)=0/\((ah.mk 0 0 [] [] [] [] []).Slots.length:Int)=0/\((ah.mk 0 0 [] [] [] [] []).bM.length:Int)=0:=⟨rfl,rfl,rfl,rfl⟩;rw[l0.1,l0.2.1,l0.2.2.1,l0.2.2.2];rw[a ((v.List.length:Int)+v.Pairs.length) au au];rw[a ((v.List.length:Int)+v.Pairs.length+v.Slots.length) au au];rw[a ((v.List.length:Int)+v.Pairs.length+v.Slots.length+v.bM.length) au au];simp only[Int.add_zero];rw[a ((v.List.length:Int)+v.Pairs.length+v.Slots.length+v.bM.length) au au];simp only[a ((v.List.length:Int)+v.Pairs.length+v.Slots.length+v.bM.length) au au];rfl
theorem ajV (v:ah):(qE v).Kind=v.Kind/\(qE v).Text=v.Text/\(qE v).List=v.List/\(qE v).Pairs=v.Pairs/\(qE v).Slots=v.Slots/\(qE v).bM=v.bM:=by
 unfold qE Xg;simp only[bf,aI,ah.dR];cases v.Kind==6<;>cases Lj v.Bits==0<;>exact⟨rfl,rfl,rfl,rfl,rfl,rfl⟩
theorem arL (k:Int)(v:ah)(h:zN k v=true):CQ v=true:=by
 unfold zN OG at h;simp_all
theorem alH (s:ay)(f:aK)(h:FB f.Default):EN s f=BU s f:=by
 unfold EN Jg BU Nz;simp only[cZ,bf,aI,eU,apG,ah.dR,ahZ _ _ h,aAO _ h,aAa _ h];cases f.dD with
 | false=>rfl
 | true=>
  cases f.Card !=2 with
  | true=>rfl
  | false=>
   cases f.Union !=[]with
   | true=>rfl
   | false=>
    cases c:zN f.dH.Kind f.Default with
    | false=>rfl
    | true=>
     obtain⟨i,d,b,e,l,g⟩:=ajV f.Default;have m:Dj f.Default (qE f.Default)=((qE f.Default).Bits==f.Default.Bits):=by
      rw[aJY f.Default h (qE f.Default) ⟨by rw[b],by rw[e],by rw[l],by rw[g]⟩,i,d,arL _ _ c,Qc0,Qc0]
      grind
     rw[m];simp only[Qbm,mX,bne];cases(qE f.Default).Bits==f.Default.Bits with
     | false=>rfl
     | true=>
      cases n:f.dH.Kind==9 with
      | false=>rfl
      | true=>
       simp only[Qbm,mX];rw[aig];by_cases j:fM (fun(x:dV)=>x.Name==f.dH.Name) s.Enums < 0
       ·grind
       ·rw[qM j];simp only[mX,uu];symm;refine xQ (fun k a=> ?_) (fun k=>rfl) _ 0;rfl
theorem aqX (m:aO)(i:Int)(h:0<=i)(o:i < m.Fields.length):Yt m i=Cc m i:=by
 unfold Yt UH Cc La;simp only[cZ,bf,aI,eU,bY,jD,ah.dR,TU];obtain⟨n,rfl⟩:=Qcy h;simp only[xw];generalize l:(m.Fields.getD n aH).Union=u;cases u==[]with
 | true=>rfl
 | false=>
  cases(m.Fields.getD n aH).Card !=2 with
  | true=>rfl
  | false=>
   cases uF u with
   | false=>rfl
   | true=>
    simp only[Qbm,mX];have e:=aam (R:=Bool) (b:=fun(k:Nat) (d:aK) (c:Bool)=>bif d.Name==u then(Sum.inr false:Bool⊕Bool)else bif decide ((k:Int) < (n:Int))then bif d.Union==u then .inl true else .inl c else .inl c) (f:=fun(_:Nat) (c:Bool)=>bif !c then true else(m.Fields.getD (dA .i64 ((n:Int) - 1)).toNat aH).Union==u) (p:=fun _ a=>a.Name==u) (g:=fun j a y=>bif decide (j < n)then bif a.Union==u then true else y else y) (r:=false) m.Fields 0 false (fun j a y _=>by
     grind)
    refine Qcn ?_ e.symm;rw[ahl,abo,Qdn,Nat.sub_zero];rfl
theorem QC (c:Bool)(l:List Note)(t:Int)(x y:ax):(bif c then mD l t x else mD l t y)=mD l t (bif c then x else y):=by cases c<;>rfl
theorem QZ (c:Bool)(l:List Note)(t n:Int)(x y:aC):(bif c then jo l t n x else jo l t n y)=jo l t n (bif c then x else y):=by cases c<;>rfl
theorem XJ {n:Int}{x:ax}{p:aC}(h:qw n x p):qw x.num x p:=⟨h.1,rfl,h.2.2⟩
theorem afK {n:Int}{x:ax}{p:aC}{v:ax⊕List eY}{w:aC⊕List eY}(h:qw n x p)(b:v= .inl x)(a:w= .inl p):aeq (fun x p=>qw x.num x p) Eq v w:=by subst b a;exact XJ h
theorem dnn (b:Bool):b= !!b:=(Bool.not_not b).symm
theorem avi (l:List aK)(n:Nat):axE l n=(l.take n).any fun a=>a.Name==(l.getD n aH).Name:=by
 rfl
theorem au8 (l:List Item)(n:Nat):akl l n=(l.take n).any fun a=>a.Name==(l.getD n jI).Name:=by
 rfl
def okF (f:aK):Prop:=FB f.Default/\Yu f.Notes
def aBe (m:aO):Prop:=Yu m.Notes/\∀f∈m.Fields,okF f
def aHw (e:dV):Prop:=Yu e.Notes/\∀i∈e.Items,Yu i.Notes
def aud (v:bQ):Prop:=Yu v.Notes/\∀m∈v.Methods,Yu m.Notes
def aKh (s:ay):Prop:=okS s/\(∀m∈s.Messages,aBe m)/\(∀e∈s.Enums,aHw e)/\∀v∈s.dQ,aud v
theorem abE (n a b:Int):(bif decide (a<=n)then decide (n<=b)else false)= !(bif decide (n < a)then true else decide (b < n)):=by
 grind
theorem abN (n:Nat)(a b:Int):(bif (n:Int)==0 then true else decide (a < b))= !(bif decide ((0:Int) < (n:Int))then decide (b<=a)else false):=by
 grind
theorem ap5 (s:ay)(m:aO)(n:Nat)(g:n < m.Fields.length)(i:aBe m){x:ax}{p:aC}(h:qw (-1) x p)(a:aK)(c:m.Fields.getD n aH=a):
  qw (-1) (FO s m n x) (jo a.Notes 2 a.Num (bg (!BU s a) a.Num 1 (bg (!Cc m n) a.Num 15 (bg (!Nb s a) a.Num 12 (bg (!FV a) a.Num 1 (bg (bif Dk m.Reserved a.Num then true else Ju m.Gone a.Name) a.Num 21 (bg ((m.Fields.take n).any fun b=>b.Name==a.Name) a.Num 9 (bg (!uF a.Name) a.Num 8 (bg (bif decide ((0:Int) < (n:Int))then decide (a.Num<=(m.Fields.getD (dA .i64 ((n:Int) - 1)).toNat aH).Num)else false) a.Num 11 (bg (bif decide (a.Num < 1)then true else decide (65535 < a.Num)) a.Num 6 p)))))))))):=by
 have e:okF a:=c▸i.2 _ (getD_mem (d:=aH) g);have f:=avi m.Fields n;rw[c]at f;unfold FO field;simp only[eU,jk,bf,cZ,bY,aI,BN,jc,Bd,xK,xw,ah.dR,c,f];refine Gl (n:=a.Num) (xP ?_ a.Notes e.2 2 au) (-1);refine fP (fP (fP (fP (fP (fP (fP (fP (fP (Gl h a.Num) ?_) ?_) ?_) ?_) ?_) ?_) ?_) ?_) ?_
 ·grind
 ·exact abN _ _ _
 ·exact(TU _).trans (dnn _)
 ·rfl
 ·rw[awh,has_eq]
  grind
 ·exact(aCF a).trans (dnn _)
 ·exact(awu s a).trans (dnn _)
 ·exact(aqX m n au au).trans (dnn _)
 ·exact(alH s a e.1).trans (dnn _)
theorem aFT (s:ay)(m:aO)(h:List (Str×Bool))(c:List Bool)(w:aBe m)(B:Bo s m h=vV s m c):wU s m h=aeV s m c:=by
 unfold wU aaE aeV adm;simp only[jk,cZ,bf,bY,iG,jD,qC,eU,aI,BN,jc,Bd,xK,EU,BL];refine PY (I:=qw (-1)) (Q:=Eq) ?_ (fun y z t=> ?_)
 ·have o:((m.Fields.length:Int) - 0).toNat=m.Fields.length:=by omega
  rw[o];have e:∀X:ax,o5 (fun(i:Int) (y:ax)=>(Sum.inl (FO s m i y):ax⊕(ax⊕List eY))) (fun _ y=> .inl y) m.Fields.length 0 X=mJ (fun(k:Nat) (_:aK) (y:ax)=>(Sum.inl (FO s m k y):ax⊕(ax⊕List eY))) (fun _ y=> .inl y) m.Fields 0 X:=fun X=>(aa9 (d:=aH) m.Fields 0 X (fun j y r=>rfl) (fun y=>rfl)).symm
  refine Eq.mpr (XQ (fun v=>aeq (qw (-1)) Eq v _) (e _)) ?_;refine rZ (d:=aH) (d':=aH) (fun _=>qw (-1)) (aeq (qw (-1)) Eq) m.Fields m.Fields 0 _ _ rfl ?_ (fun j y z r g=> ?_) (fun y z g=>g)
  ·refine fP (fP ⟨rfl,rfl,rfl⟩ ((PG _).trans (dnn _))) ?_
   grind
  ·simp only[Dw];have u:((j:Int) - 0).toNat=j:=by omega
   rw[u];generalize x:m.Fields.getD j aH=a;have q:=Vj (R:=aC⊕(aC⊕List eY)) (d:=aH) (l:=m.Fields) (p:=fun b=>b.Name==a.Name) (b:=fun(A:Int) (n:Bool)=> .inl (bif (m.Fields.getD A.toNat aH).Name==a.Name then true else n)) (f:=fun(_:Int) (n:Bool)=> .inl (jo a.Notes 2 a.Num (bg (!BU s a) a.Num 1 (bg (!Cc m j) a.Num 15 (bg (!Nb s a) a.Num 12 (bg (!FV a) a.Num 1 (bg (bif Dk m.Reserved a.Num then true else Ju m.Gone a.Name) a.Num 21 (bg n a.Num 9 (bg (!uF a.Name) a.Num 8 (bg (bif decide ((0:Int) < (j:Int))then decide (a.Num<=(m.Fields.getD (dA .i64 ((j:Int) - 1)).toNat aH).Num)else false) a.Num 11 (bg (bif decide (a.Num < 1)then true else decide (65535 < a.Num)) a.Num 6 z))))))))))) (fun _ _=>rfl) j 0 false au;simp only[Qdn,List.drop_zero,ah.dR]at q⊢;refine Eq.mpr (XQ (fun v=>aeq (qw (-1)) (aeq (qw (-1)) Eq) _ v) q) ?_;exact ap5 s m j r w g a x
 ·refine rZ (d:=[]) (d':=[]) (fun _=>qw (-1)) Eq m.Gone m.Gone 0 _ _ rfl (aba _ _ _ t) (fun j y z r g=> ?_) (fun y z g=> ?_)
  ·exact fP g (dnn _)
  ·have q:=fP (e:=19) (xP g m.Notes w.1 1 au) (show(!Bo s m h)= !vV s m c by rw[B]);exact q.2.2
theorem aqP (a b:Int):(bif decide (1<=a)then bif decide (a<=64)then decide (b<=16)else false else false)= !(bif decide (a < 1)then true else bif decide (64 < a)then true else decide (16 < b)):=by
 grind
theorem aDC (e:dV)(i:aHw e):UZ e=Vr e:=by
 unfold UZ aeQ Vr Uu;simp only[jk,cZ,bf,bY,iG,jD,qC,eU,aI,BN,jc,Bd,xK,EU,BL,QC,QZ];refine rZ (d:=jI) (d':=jI) (fun _ x p=>qw x.num x p) Eq e.Items e.Items 0 _ _ rfl ?_ (fun j y z k g=> ?_) (fun y z g=> ?_)
 ·refine XJ (n:= -1) (fP (n:= -1) (fP (n:= -1) (fP (n:= -1) ?_ ((PG _).trans (dnn _))) (aqP _ _)) ?_)
  ·exact⟨rfl,rfl,rfl⟩
  grind
 ·simp only[Dw];have o:Yu (e.Items.getD j jI).Notes:=i.2 _ (getD_mem (d:=jI) k);have s:=au8 e.Items j;have h:((j:Int) - 0).toNat=j:=by omega
  rw[h];generalize t:e.Items.getD j jI=a at*;have q:=Vj (R:=aC⊕List eY) (d:=jI) (l:=e.Items) (p:=fun b=>b.Name==a.Name) (b:=fun(m:Int) (c:Bool)=> .inl (bif (e.Items.getD m.toNat jI).Name==a.Name then true else c)) (f:=fun(_:Int) (c:Bool)=> .inl (jo a.Notes 4 a.Num (bg (Dk e.Reserved a.Num) a.Num 21 (bg c a.Num 9 (bg (!uF a.Name) a.Num 8 (bg (bif decide ((0:Int) < (j:Int))then decide (a.Num<=(e.Items.getD (dA .i64 ((j:Int) - 1)).toNat jI).Num)else false) a.Num 11 (bg (bif decide (a.Num < 0)then true else decide (2147483647 < a.Num)) a.Num 6 z))))))) (fun _ _=>rfl) j 0 false au;simp only[Qdn,List.drop_zero]at q;have r:qw a.Num (mD a.Notes 4 (iI (!vU e.Reserved a.Num) 21 (iI (!akl e.Items j) 9 (iI (Fa a.Name) 8 (iI (bif (j:Int)==0 then true else decide ((e.Items.getD (dA .i64 ((j:Int) - 1)).toNat jI).Num < a.Num)) 11 (iI (bif decide (0<=a.Num)then decide (a.Num<=2147483647)else false) 6 ⟨y.rP,a.Num,y.out⟩)))))) _:=
   xP (fP (fP (fP (fP (fP (Gl g a.Num) (abE _ _ _)) (abN j _ _)) ((TU _).trans (dnn _))) (XQ not s)) (XQ not (awh _ _))) a.Notes o 4 au
  exact afK r rfl q
 ·have q:=xP (aba e.Reserved 0 2147483647 (Gl g (-1))) e.Notes i.1 3 au;exact q.2.2
theorem aHU (s:ay)(v:bQ)(c:aud v):Q8 s v=aer s v:=by
 unfold Q8 ap6 aer acd;simp only[jk,cZ,bf,bY,iG,jD,qC,eU,aI,BN,jc,Bd,xK,EU,BL,QC,QZ];refine rZ (d:=fG) (d':=fG) (fun _ x p=>qw x.num x p) Eq v.Methods v.Methods 0 _ _ rfl ?_ (fun j y z e b=> ?_) (fun y z b=> ?_)
 ·refine XJ (n:= -1) (fP (n:= -1) (fP (n:= -1) ?_ ((PG _).trans (dnn _))) (LG ?_))
  ·exact⟨rfl,rfl,rfl⟩
  ·omega
 ·simp only[Dw];have g:Yu (v.Methods.getD j fG).Notes:=c.2 _ (getD_mem (d:=fG) e);generalize h:v.Methods.getD j fG=a at*;have r:qw (j:Int) (mD a.Notes 6 (iI (bif decide (1<=a.Shape)then decide (a.Shape<=4)else false) 1 (iI (bif (jb s a.In).2 then(jb s a.Out).2 else false) 12 (iI (bif (j:Int)==0 then true else !(Op.bytesLess a.Name (v.Methods.getD (dA .i64 ((j:Int) - 1)).toNat fG).Name || a.Name==(v.Methods.getD (dA .i64 ((j:Int) - 1)).toNat fG).Name)) 11 (iI (Fa a.Name) 8 ⟨y.rP,(j:Int),y.out⟩)))))
    (jo a.Notes 6 j (bg (bif decide (a.Shape < 1)then true else decide (4 < a.Shape)) j 1 (bg (bif decide (fM (fun(m:aO)=>m.Name==a.In) s.Messages < 0)then true else decide (fM (fun(m:aO)=>m.Name==a.Out) s.Messages < 0)) j 12 (bg (bif decide ((0:Int) < (j:Int))then Op.bytesLess a.Name (v.Methods.getD (dA .i64 ((j:Int) - 1)).toNat fG).Name || a.Name==(v.Methods.getD (dA .i64 ((j:Int) - 1)).toNat fG).Name else false) j 11 (bg (!uF a.Name) j 8 z))))):=by
   refine xP (fP (fP (fP (fP (Gl b (j:Int)) ((TU _).trans (dnn _))) ?_) ?_) (abE _ _ _)) a.Notes g 6 au
   ·by_cases f:j=0
    ·subst f;rfl
    ·rw[show((j:Int)==0)=false from beq_eq_false_iff_ne.2 au,rY (show(0:Int) < (j:Int) by omega)];rfl
   ·rw[yf,yf]
    grind
  refine afK r ?_ rfl;rfl
 ·have q:=xP (Gl b (-1)) v.Notes c.1 5 au;exact q.2.2
theorem Xd {A Y R:Type}{d:A}{b:Nat->A->Y->Y⊕R}{f:Nat->Y->R}{g:Y->Nat->Y}:∀(l:List A) (k:Nat) (y:Y),(∀j y,j < l.length->b (k+j) (l.getD j d) y= .inl (g y (k+j)))->mJ b f l k y=f (k+l.length) ((List.range' k l.length).foldl g y)
 | [],k,y,_=>rfl
 | a::l,k,y,h=>by
  have c:=h 0 y qb;rw[UX]at c;have e:(a::l).getD 0 d=a:=rfl;rw[e]at c;unfold mJ;rw[c];have i:=Xd (d:=d) (f:=f) (g:=g) l (k+1) (g y k) (fun j y m=>by
   have q:=h (j+1) y qb6;rw[show k+(j+1)=k+1+j by omega]at q;exact q)
  dsimp only;rw[i,yG,List.range'_succ,List.foldl_cons,show k+1+l.length=k+(l.length+1) by omega]
def wants (m:aO):List Str:=(m.Fields.filter fun f=>f.Card==1 && f.dH.Kind==10).map fun f=>f.dH.Name
theorem aaS (m:aO):MH m=wants m:=by
 unfold MH acP wants;simp only[iG,jD,eU,bf,bY,aI];have c:∀(l:List aK) (k:Nat) (y:List Str),mJ (fun(_:Nat) (a:aK) (b:List Str)=>bif a.Card==1 then bif a.dH.Kind==10 then(Sum.inl (b++[a.dH.Name]):List Str⊕List Str)else .inl b else .inl b) (fun _ b=>b) l k y=y++(l.filter fun f=>f.Card==1 && f.dH.Kind==10).map fun f=>f.dH.Name:=by
  intro l;induction l with
  | nil=>intro k y;simp[mJ]
  | cons a l d=>
   intro k y;unfold mJ
   grind
 grind
def pO (s:ay)(n:Str):Int:=fM (fun(m:aO)=>m.Name==n) s.Messages
def xC (s:ay)(n:Str):Bool:=decide (0<=pO s n)
theorem Ri (s:ay)(m:aO)(b:List Bool):vV s m b=(wants m).any fun n=>xC s n && !b.getD (pO s n).toNat false:=by
 unfold vV NF;simp only[jD,eU,bf,cZ,aI];have e:∀l:List aK,(l.any fun f=>(f.Card==1 && f.dH.Kind==10) && (xC s f.dH.Name && !b.getD (pO s f.dH.Name).toNat false))=((l.filter fun f=>f.Card==1 && f.dH.Kind==10).map fun f=>f.dH.Name).any fun n=>xC s n && !b.getD (pO s n).toNat false:=by
  grind
 unfold wants;rw[<-e];refine xQ (fun k a=> ?_) (fun k=>rfl) _ 0;unfold xC pO bne
 grind
theorem aB9 (n:Str)(s:ay)(a:List (Str×Bool)):NZ n s a=(xC s n && !mZ false a n):=by
 unfold NZ aIo;simp only[bf,aI,yf];unfold xC pO;cases decide (0<=fM (fun(m:aO)=>m.Name==n) s.Messages)<;>rfl
theorem apv (s:ay)(m:aO)(a:List (Str×Bool)):Bo s m a=(wants m).any fun n=>xC s n && !mZ false a n:=by
 unfold Bo adl;simp only[bY,aI,aaS];congr 1;funext n;unfold ama aI3;simp only[bf,aI,yf];unfold xC pO;cases decide (0<=fM (fun(m:aO)=>m.Name==n) s.Messages)<;>rfl
noncomputable def aIj (s:ay):qL Str:=OC s.Messages aO.Name wants (xC s) (fun n=>(jb s n).1)
def O1 (s:ay):qL Nat:=Je s.Messages.length (fun i=>s.Messages.getD i dP) wants (xC s) (fun n=>(pO s n).toNat)
noncomputable def ag2 (s:ay)(y:List (Str×Bool))(a:aO):List (Str×Bool):=bif !(wants (jb s a.Name).1).any fun n=>xC s n && !mZ false y n then qO y a.Name true else y
theorem apW (s:ay)(h:s.Messages.length<=1048576):(fun n=>mZ false (oM s) n)=yR (aIj s) (s.Messages.length+1) (fun _=>false):=by
 have w:dA .i64 ((s.Messages.length:Int)+1)=(s.Messages.length:Int)+1:=dU (k:= .i64) tZ;have e:oM s=aaL (fun y=>s.Messages.foldl (ag2 s) y) (s.Messages.length+1) []:=by
  unfold oM Td;simp only[cZ,qC,iG,jD,eU,bY,bf,aI];rw[w,show((s.Messages.length:Int)+1 - 0).toNat=s.Messages.length+1 by omega];refine Qcn (aa2 (g:=fun y=>s.Messages.foldl (ag2 s) y) (fun i y=> ?_) _ 0 []) rfl;refine Qcn (ZV _ _ _ (fun j a y _ _=> ?_) (fun y=>rfl)) (aaj (ag2 s) (fun _ y=>(Sum.inl y:List (Str×Bool)⊕List (Str×Bool))) s.Messages 0 y);unfold ag2;have k:((MH (jb s a.Name).1).any fun(x:Str)=>NZ x s y)=(wants (jb s a.Name).1).any fun n=>xC s n && !mZ false y n:=by
   rw[aaS];congr 1;funext n;exact aB9 n s y
  grind
 rw[e];refine agy (abs:=fun(y:List (Str×Bool)) n=>mZ false y n) (I:=fun _=>True) (fun y _=> ?_) _ _ trivial;refine agj (abs:=fun(y:List (Str×Bool)) n=>mZ false y n) (I:=fun _=>True) (r:=fun m=>(m.Name,fun X=> !(wants (jb s m.Name).1).any fun n=>xC s n && !X n)) s.Messages y trivial (fun a _ y _=>⟨trivial,?_⟩);unfold ag2 uf;cases b:(!(wants (jb s a.Name).1).any fun n=>xC s n && !mZ false y n)with
 | true=>simp only[b,uu];exact az3 y a.Name
 | false=>grind
def I7 (s:ay)(x:Bool×List Bool)(i:Nat):Bool×List Bool:=bif !x.2.getD i false then bif !(wants (s.Messages.getD i dP)).any fun n=>xC s n && !x.2.getD (pO s n).toNat false then(true,x.2.set i true)else x else x
theorem art (s:ay)(h:s.Messages.length<=1048576):(fun i=>(GI s).getD i false)=yR (O1 s) s.Messages.length (fun _=>false):=by
 unfold GI adX;simp only[bY,iG,qC,bf,jD,eU,aI];rw[show((s.Messages.length:Int) - 0).toNat=s.Messages.length by omega];have o:∀y:List Bool,y.length=s.Messages.length->((List.range' 0 s.Messages.length).foldl (I7 s) (false,y)).2.length=s.Messages.length/\(fun i=>((List.range' 0 s.Messages.length).foldl (I7 s) (false,y)).2.getD i false)=o6 (O1 s) (fun i=>y.getD i false)/\
   (((List.range' 0 s.Messages.length).foldl (I7 s) (false,y)).1=false->(fun i=>((List.range' 0 s.Messages.length).foldl (I7 s) (false,y)).2.getD i false)=fun i=>y.getD i false):=by
  intro y c;have q:=I5 (abs:=fun(y:List Bool) i=>y.getD i false) (I:=fun y=>y.length=s.Messages.length) (g:=I7 s) (r:=fun i=>(i,fun X=> !(wants (s.Messages.getD i dP)).any fun n=>xC s n && !X (pO s n).toNat)) (List.range' 0 s.Messages.length) false y c (fun a x m y c=> ?_)
  ·refine⟨q.1,?_,fun k=>(q.2.2 k).2⟩;have e:O1 s=(List.range' 0 s.Messages.length).map fun i=>(i,fun X=> !(wants (s.Messages.getD i dP)).any fun n=>xC s n && !X (pO s n).toNat):=by
    unfold O1 Je;rw[List.range_eq_range']
   grind
  ·have w:a < s.Messages.length:=by
    grind
   unfold I7 uf;cases l:y.getD a false with
   | true=>
    refine⟨c,?_,fun k=>⟨k,rfl⟩⟩;simp only[l,Qbm,mX];cases(!(wants (s.Messages.getD a dP)).any fun n=>xC s n && !y.getD (pO s n).toNat false)with
    | true=>exact(akZ (fun i=>y.getD i false) a l).symm
    | false=>rfl
   | false=>
    cases v:(!(wants (s.Messages.getD a dP)).any fun n=>xC s n && !y.getD (pO s n).toNat false)with
    | true=>
     simp only[l,v,Bool.not_false,uu];exact⟨by grind,aCp y a au,fun k=>by cases k⟩
    | false=>
     grind
 have p:∀b:Int->Bool×List Bool->(Bool×List Bool)⊕List Bool,(∀i m y,y.length=s.Messages.length->b i (m,y)=bif m then .inl ((List.range' 0 s.Messages.length).foldl (I7 s) (false,y))else .inr y)->(fun i=>(o5 b (fun _ t=>t.2) s.Messages.length 0 (true,List.replicate s.Messages.length false)).getD i false)=yR (O1 s) s.Messages.length (fun _=>false):=by
  intro b u;obtain⟨D,l,C,B⟩:=agu (R:=List Bool) (abs:=fun(y:List Bool) i=>y.getD i false) (I:=fun y=>y.length=s.Messages.length) (g:=fun y=>(List.range' 0 s.Messages.length).foldl (I7 s) (false,y)) (Rs:=O1 s) (b:=b) (f:=fun _ y=>y.2) (F:=fun y=>y) u (fun i m y=>rfl) o s.Messages.length 0 true (List.replicate s.Messages.length false) qb (fun k=>by cases k)
  grind
 refine p _ (fun i m y c=> ?_);cases m with
 | false=>rfl
 | true=>
  simp only[uu];refine Qcn (Xd (d:=dP) (g:=I7 s) s.Messages 0 (false,y) (fun j z A=> ?_)) rfl;simp only[Dw,xw,Ri];unfold I7
  grind
theorem ark (s:ay)(h:s.Messages.length<=1048576)(n:Str)(b:xC s n=true):mZ false (oM s) n=(GI s).getD (pO s n).toNat false:=by
 have e:=congrFun (apW s h) n;have f:=congrFun (art s h) (pO s n).toNat;have c:∀n,xC s n=true->0<=pO s n:=fun n b=>Eh b
 have j:∀n,pO s n < s.Messages.length:=fun n=>(mO _ _).1
 refine e.trans (Qcn (ar1 s.Messages dP aO.Name wants (xC s) (fun n=>(pO s n).toNat) (fun n=>(jb s n).1) (fun n b=>⟨?_,?_⟩) (fun i l=> ?_) (fun n b=> ?_) _ _ (Qd7 _) (nO _) n b) f.symm)
 ·grind
 ·have:=aAZ (fun(m:aO)=>m.Name==n) s.Messages dP (c n b);exact eq_of_beq this
 ·unfold xC;refine rY ?_;rcases ql (fun(m:aO)=>m.Name==(s.Messages.getD i dP).Name) s.Messages with⟨_,g⟩ | ⟨u,a,v,_,_,_,d⟩
  ·grind
  ·show 0<=fM _ _
   rw[d];omega
 ·have:=c n b;rw[zI];have k:¬fM (fun(x:aO)=>x.Name==n) s.Messages < 0:=by
   unfold pO at this;omega
  rw[qM k];rfl
theorem arn (s:ay)(h:s.Messages.length<=1048576)(m:aO):Bo s m (oM s)=vV s m (GI s):=by
 rw[apv,Ri];congr 1;funext n;cases a:xC s n with
 | false=>rfl
 | true=>rw[ark s h n a]
end
end Go.Proofs.YtgdmjfkdbfafjaaGreatDoor
