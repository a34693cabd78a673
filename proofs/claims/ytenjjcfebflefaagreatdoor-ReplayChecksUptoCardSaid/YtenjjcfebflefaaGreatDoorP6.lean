/- Replay: what Check asks. -/
import Derived.Test.YtenjjcfebflefaaGreatDoorP5
namespace Go.Proofs.YtenjjcfebflefaaGreatDoor
noncomputable section
open Go.RowKit Go.Vc
open Tryz
set_option linter.unusedVariables false
set_option linter.unusedSimpArgs false
set_option maxRecDepth 100000
def acE (s:Status):Pg Int:=.br (decide (s.Code < 0)) (.ret 1) (.br (decide (13 < s.Code)) (.ret 1) (.ob (List.length s.Text<=9223372036854775700) (.br (!Ib s.Text) (.ret 7) (.br (decide (4096 < (↑(List.length s.Text):Int))) (.ret 3) (.br (s.Code==0) (.br (s.Text !=[]) (.ret 1) (.ret 0)) (.ret 0))))))
def ayd (s:Status):=(acE s).val
theorem aki (s:Status)(h:s.Text.length<=1048576):Is (acE s):=
 bn iR (fun _=>bn iR (fun _=>bM qav (aS iR (fun _=>bn iR (fun _=>bK (fun _=>aS iR iR) iR)))))
def ap9:bT Z:=E1 [L6] [] (a1 (aQ Dq)) (R1 cI) [] func12 1 acE (fun a=>a.Text.length<=1048576) fun a h=>aki a h
def Yr (s:Status):Pg Int:=.br (decide (s.Code < 0)) (.ret 1) (.br (decide (13 < s.Code)) (.ret 1) (.ob (List.length s.Text<=9223372036854775700) (.br (!Ie s.Text) (.ret 7) (.br (decide (4096 < (↑(List.length s.Text):Int))) (.ret 3) (.br (s.Code==0) (.br (s.Text !=[]) (.ret 1) (.ret 0)) (.ret 0))))))
def aqd (s:Status):=(Yr s).val
theorem ahY (s:Status)(h:s.Text.length<=1048576):Is (Yr s):=
 bn iR (fun _=>bn iR (fun _=>bM qav (aS iR (fun _=>bn iR (fun _=>bK (fun _=>aS iR iR) iR)))))
def ajZ:bT Z:=E1 [Oy] [] (a1 (aQ Dq)) (R1 cI) [] func18 1 Yr (fun a=>a.Text.length<=1048576) fun a h=>ahY a h
def ape (shape:Int):Pg Bool:=.br (decide (1<=shape)) (.ret (decide (shape<=4))) (.ret false)
def avf (shape:Int):=(ape shape).val
def arZ:bT Z:=E0 [] [] (a1 (df cI)) (R1 aW) [] func34 1 ape
def anb (shape:Int):Pg (Int×Int×Int×Int):=.br (!avf shape) (.ret (0,0,0,0)) (.lt (aq1 shape) fun b=> .cut (fun(a:Int×Int)=> .br b.2 (.ret (a.1,a.2,0,(-1))) (.ret (a.1,a.2,1,1))) (.br b.1 (rl (0,(-1))) (rl (1,1))))
def asV (shape:Int):=(anb shape).val
def arJ:bT Z:=E0 [arZ,al9] [jS 100007 (dh (fun b=>[s0 8, s0 9]) (aC cI (l1 cI)))] (a1 (df cI)) (shr [s0 0, s0 1, s0 2, s0 3] (aC cI (aC cI (aC cI (l1 cI))))) [] func14 4 anb
def awN (shape:Int):Pg Bool:=.br (decide (1<=shape)) (.ret (decide (shape<=4))) (.ret false)
def aFb (shape:Int):=(awN shape).val
theorem aur (shape:Int):Is (awN shape):=
 bn iR iR
def aA6:bT Z:=E0 [] [] (a1 (df cI)) (R1 aW) [] func42 1 awN fun a=>aur a
def PZ (shape:Int):Pg (Int×Int×Int×Int):=.br (!aFb shape) (.ret (0,0,0,0)) (.lt (agS shape) fun b=> .cut (fun(a:Int×Int)=> .br b.2 (.ret (a.1,a.2,0,(-1))) (.ret (a.1,a.2,1,1))) (.br b.1 (rl (0,(-1))) (rl (1,1))))
def alJ (shape:Int):=(PZ shape).val
theorem adX (shape:Int):Is (PZ shape):=
 aS iR (fun _=>dm fun d b=>lK (aS iR iR) (fun c a=>aS iR iR))
def ahh:bT Z:=E0 [aA6,ac4] [jS 100007 (dh (fun b=>[s0 8, s0 9]) (aC cI (l1 cI)))] (a1 (df cI)) (shr [s0 0, s0 1, s0 2, s0 3] (aC cI (aC cI (aC cI (l1 cI))))) [] func20 4 PZ fun a=>adX a
def aeD (n:Int)(b:Int)(c:Int)(a:Bool):Pg Bool:=.br (decide (c < 0)) (.br (!a) (.ret true) (.ret (decide (b<=n)))) (.br (decide (n<=c)) (.br (!a) (.ret true) (.ret (decide (b<=n)))) (.ret false))
def UM (n:Int)(b:Int)(c:Int)(a:Bool):=(aeD n b c a).val
theorem aqM (n:Int)(b:Int)(c:Int)(a:Bool):Is (aeD n b c a):=
 bn (fun _=>aS iR iR) (fun _=>bn (fun _=>aS iR iR) iR)
def awK:bT Z:=E0 [] [] (ax (df cI) (ax (df cI) (ax (df cI) (a1 (df aW))))) (R1 aW) [] func15 1 (u4 aeD) fun a=>aqM a.1 a.2.1 a.2.2.1 a.2.2.2
def WC (p:aJ)(c:Str)(l:List Str):Pg (List af×Int):=aL l (.each false rP l [] (fun d e (a:List af)=> .ix d l.length (.ob (mf p/\okL qY) (.lt (rQ p c e qY) fun b=> .br (b.2 !=0) (.ret (.inr ([],b.2))) (.ob (dE (a.length+1) 128) (rl (a++[b.1.re])))))) (fun d (a:List af)=> .ret (a,0)) [])
def Vo (p:aJ)(a:Str)(l:List Str):=(WC p a l).val
def aie (s:aF)(b:Str)(a:Str):Pg (af×Int):=.ob (okS s/\FN s) (.lt (GX s) fun c=> .ob (pG c.1/\okL aax) (.lt (YS c.1 b a aax) fun d=> .ret (d.1.re,d.2)))
def aFJ (s:aF)(a:Str)(b:Str):=(aie s a b).val
def EF (f:Str->Int):List Str->Int
 | []=>0
 | d::l=>bif f d !=0 then f d else EF f l
theorem PS (f:Str->Int){l:List Str}{i:Nat}(a:i < l.length):EF f (l.drop i)=bif f (l.getD i []) !=0 then f (l.getD i [])else EF f (l.drop (i+1)):=by
 have e:l.drop i=l.getD i []::l.drop (i+1):=by rw[Qbc a];simp[List.getD,a]
 rw[e];rfl
theorem J_ {p:aJ}{a:Str}{l:List Str}(g:mf p)(j:l.length<=1048576):kw (WC p a l) (fun r=>r.2=EF (fun d=>(rQ p a d qY).2) l):=by
 unfold WC;simp only[af.dn];refine fD (dA (fun i y=>y.length<=i/\EF (fun d=>(rQ p a d qY).2) (l.drop i)=EF (fun d=>(rQ p a d qY).2) l) ⟨Jd _,rfl⟩ au (fun i y f b=>aX au au (aj ⟨g,XE⟩ (aI fun h e=>dL (fun c=>ai ?_) (fun c=>aj (dw au au) (ai ⟨by rw[tK,Qbx];omega,?_⟩))))) (fun y b=>ai ?_))
 ·have k:=b.2;rw[PS _ f,<-e,c,cond_true]at k;exact k
 ·have k:=b.2;rw[PS _ f,<-e,c,jm]at k;exact k
 ·have k:=b.2;rw[Qc1]at k;exact k
def rdQ (s:aF):Prop:=okS s/\FN s/\nK s=true/\qf s=true
theorem atC {s:aF}{b a:Str}(h:rdQ s):kw (aie s b a) (fun r=>r.2=(rQ (tZ s).1 b a qY).2):=by
 obtain⟨e,c⟩:=auY h.1 h.2.1 h.2.2.1 h.2.2.2;unfold aie;simp only[af.dn];refine aj ⟨h.1,h.2.1⟩ (aI fun i d=>aj ⟨by rw[d];exact c,XE⟩ (aI fun f g=>ai ?_));have k:YS (GX s).1 b a qY=rQ (tZ s).1 b a qY:=(anC c e XE).2;show f.2=_
 rw[g,d];exact Ll Prod.snd k
theorem apy (p:aJ)(a:Str)(l:List Str)(h:mf p/\l.length<=1048576):Is (WC p a l):=
 (J_ h.1 h.2).1
def avj:bT Z:=E1 [aqG,atI] [jS 3 (dh (fun b=>[s0 15, .slot 8 false [some 65]]) (aC cI (l1 Dy)))] (ax (aQ dU) (ax (df cStr) (a1 (df dI)))) (shr [s0 0, s0 1] (aC Dy (l1 cI))) [] func13 2 (u3 WC) (fun a=>mf a.1/\a.2.2.length<=1048576) fun a h=>apy a.1 a.2.1 a.2.2 h
theorem auM (s:aF)(a:Str)(b:Str)(h:rdQ s):Is (aie s a b):=
 (atC h).1
def aBT:bT Z:=E1 [aqR,aiv,amn] [] (ax (aQ bV) (ax (df cStr) (a1 (df cStr)))) (shr [.slot 0 true (nn 7), s0 1] (aC aH (l1 cI))) [] func41 2 (u3 aie) (fun a=>rdQ a.1) fun a h=>auM a.1 a.2.1 a.2.2 h
def XL (s:aF)(a:Str)(l:List Str):Pg Int:=.each true Ec l [] (fun b d (e:Unit)=> .ix b l.length (.ob (rdQ s) (.lt (aFJ s a d) fun c=> .br (c.2 !=0) (.ret (.inr c.2)) (rl ())))) (fun b (e:Unit)=> .ret 0) ()
def Vk (s:aF)(a:Str)(l:List Str):=(XL s a l).val
def Ez (s:aF)(t:Tape):Pg Int:=.ob (okS s) (.lt (tZ s) fun a=> .br (a.2 !=0) (.ret 1) (.ob (List.length t.Method<=1048576) (.lt (al8 s t.Method) fun c=> .br (c.2 !=0) (.ret 10) (.ob (List.length t.Status.Text<=1048576) (.lt (ayd t.Status) fun e=> .br (e !=0) (.ret e) (.ob (mf a.1/\t.In.length<=1048576) (.lt (Vo a.1 c.1.In t.In) fun d=> .br (d.2 !=0) (.ret d.2) (.ob (mf a.1/\t.Out.length<=1048576) (.lt (Vo a.1 c.1.Out t.Out) fun f=> .br (f.2 !=0) (.ret f.2) (.lt (asV c.1.Shape) fun b=> .br (!UM (↑t.In.length:Int) b.1 b.2.1 (t.Status.Code==0)) (aL t.In (.ret 11)) (aL t.In (aL t.Out (.br (!UM (↑t.Out.length:Int) b.2.2.1 b.2.2.2 (t.Status.Code==0)) (.ret 11) (.ret 0))))))))))))))
def aix (s:aF)(t:Tape):=(Ez s t).val
def ckQ (s:aF)(t:Tape):Prop:=okS s/\t.Method.length<=1048576/\t.Status.Text.length<=1048576/\t.In.length<=1048576/\t.Out.length<=1048576
theorem adx {s:aF}{a:Str}{l:List Str}(h:rdQ s)(m:l.length<=1048576):kw (XL s a l) (fun e=>e=EF (fun d=>(rQ (tZ s).1 a d qY).2) l):=by
 unfold XL;refine dA (fun i _=>EF (fun d=>(rQ (tZ s).1 a d qY).2) (l.drop i)=EF (fun d=>(rQ (tZ s).1 a d qY).2) l) rfl au (fun i _ j b=>aX au au (aj h (aI fun g f=> ?_))) (fun _ b=>ai (by rw[Qc1]at b;exact b));have k:g.2=(rQ (tZ s).1 a (l.getD i []) qY).2:=by rw[f];exact(atC h).2
 rw[PS _ j,<-k]at b;refine dL (fun c=>ai ?_) (fun c=>ai ?_)
 ·rw[c,cond_true]at b;exact b
 ·rw[c,jm]at b;exact b
theorem ae2 {s:aF}{t:Tape}(h:ckQ s t):Is (Ez s t):=by
 obtain⟨b,e,i,g,j⟩:=h;unfold Ez;refine bM b (dm fun d f=>gQ iR (fun c=> ?_));have a:mf d.1:=by rw[f]at c⊢;exact aeQ b c
 exact bM e (dm fun l k=>gQ iR (fun _=>bM i (dm fun m o=>gQ iR (fun _=>bM ⟨a,g⟩ (dm fun r p=>gQ iR (fun _=>bM ⟨a,j⟩ (dm fun n v=>gQ iR (fun _=>dm fun q u=>aS (fun _=>jH fun _=>aZ) (fun _=>jH fun _=>jH fun _=>aS iR iR)))))))))
theorem aqY (s:aF)(a:Str)(l:List Str)(h:rdQ s/\l.length<=1048576):Is (XL s a l):=
 (adx h.1 h.2).1
def avd:bT Z:=E1 [aBT] [jS 2 (dh (fun b=>[s0 7]) (l1 cI))] (ax (aQ bV) (ax (df cStr) (a1 (df dI)))) (R1 cI) [] func19 1 (u3 XL) (fun a=>rdQ a.1/\a.2.2.length<=1048576) fun a h=>aqY a.1 a.2.1 a.2.2 h
theorem alU (s:aF)(t:Tape)(h:ckQ s t):Is (Ez s t):=
 ae2 h
def arx:bT Z:=E1 [aBv,aAc,ap9,avj,arJ,awK] [] (ax (aQ bV) (a1 (aQ Eo))) (R1 cI) [] func6 1 (u2 Ez) (fun a=>ckQ a.1 a.2) fun a h=>alU a.1 a.2 h
noncomputable def Ha (s:aF)(t:Tape):Pg Int:=.ob (okS s) (.br (!qf s) (.ret 1) (.ob (List.length t.Method<=1048576) (.lt (Zj s t.Method) fun b=> .br (b.2 !=0) (.ret 10) (.ob (List.length t.Status.Text<=1048576) (.lt (aqd t.Status) fun c=> .br (c !=0) (.ret c) (.ob (rdQ s/\t.In.length<=1048576) (.lt (Vk s b.1.In t.In) fun e=> .br (e !=0) (.ret e) (.ob (rdQ s/\t.Out.length<=1048576) (.lt (Vk s b.1.Out t.Out) fun d=> .br (d !=0) (.ret d) (aL t.In (aL t.Out (.lt (alJ b.1.Shape) fun a=> .br (decide (0<=a.2.1)) (.br (decide (a.2.1 < (↑t.In.length:Int))) (.ret 11) (.br (decide (0<=a.2.2.2)) (.br (decide (a.2.2.2 < (↑t.Out.length:Int))) (.ret 11) (.br (t.Status.Code==0) (.br (decide ((↑t.In.length:Int) < a.1)) (.ret 11) (.br (decide ((↑t.Out.length:Int) < a.2.2.1)) (.ret 11) (.ret 0))) (.ret 0))) (.br (t.Status.Code==0) (.br (decide ((↑t.In.length:Int) < a.1)) (.ret 11) (.br (decide ((↑t.Out.length:Int) < a.2.2.1)) (.ret 11) (.ret 0))) (.ret 0)))) (.br (decide (0<=a.2.2.2)) (.br (decide (a.2.2.2 < (↑t.Out.length:Int))) (.ret 11) (.br (t.Status.Code==0) (.br (decide ((↑t.In.length:Int) < a.1)) (.ret 11) (.br (decide ((↑t.Out.length:Int) < a.2.2.1)) (.ret 11) (.ret 0))) (.ret 0))) (.br (t.Status.Code==0) (.br (decide ((↑t.In.length:Int) < a.1)) (.ret 11) (.br (decide ((↑t.Out.length:Int) < a.2.2.1)) (.ret 11) (.ret 0))) (.ret 0)))))))))))))))
noncomputable def aaH (s:aF)(t:Tape):Int:=(Ha s t).val
theorem ayn (n a b:Int)(c:Bool):UM n a b c=(decide (b < 0\/n<=b) && (!c || decide (a<=n))):=by
 unfold UM aeD;simp only[aN,ay];by_cases e:b < 0<;>by_cases d:n<=b<;>cases c<;>simp[e,d]
theorem atx {s:aF}(h:nK s=false):(tZ s).2=1:=by
 unfold tZ aaR;simp only[bG,aN,ay];rw[h];rfl
theorem abM {s:aF}{t:Tape}(h:ckQ s t)(C:alN s)(S:FN s):mG (Ez s t) (Ha s t) (fun x y=>y=x):=by
 obtain⟨q,v,Q,p,r⟩:=h;have j:=valid_eq s C;unfold Ez Ha;refine fC (fV fun f e=>dV q ?_);cases g:qf s with
 | false=>
  have o:f.2=1:=by rw[e];exact atx (j.trans g)
  exact jr (fun _=>iD (fun _=>bZ rfl) (fun k=>absurd k jy)) (fun k=>absurd k (by rw[o];decide))
 | true=>
  have l:rdQ s:=⟨q,S,j.trans g,g⟩;have o:f.2=0:=by rw[e];exact YL (j.trans g)
  have w:mf f.1:=by rw[e];exact aeQ q (YL (j.trans g))
  refine jr (fun k=>absurd k (by rw[o];decide)) fun _=>iD (fun k=>absurd k jy) fun _=>fC (dV v (fV fun I u=>fP fun i f2=> ?_));have G:i=I:=by rw[f2,u,aAW s t.Method v]
  subst G;refine iP rfl (fun _=>bZ rfl) fun _=>fC (dV Q (fV fun J z=>fP fun F f3=> ?_));have R:F=J:=by rw[f3,z];rfl
  subst R;refine iP rfl (fun _=>bZ rfl) fun _=>fC (dV ⟨l,p⟩ (fV fun N A=>fP fun M f4=> ?_));have H:M=N.2:=by
   have a:Vk s i.1.In t.In=_:=(adx l p).2;have b:(Vo f.1 i.1.In t.In).2=_:=(J_ w p).2;rw[f4,a,A,b,e]
  subst H;refine iP rfl (fun _=>bZ rfl) fun _=>fC (dV ⟨l,r⟩ (fV fun K E=>fP fun P f5=> ?_));have O:P=K.2:=by
   have a:Vk s i.1.Out t.Out=_:=(adx l r).2;have b:(Vo f.1 i.1.Out t.Out).2=_:=(J_ w r).2;rw[f5,a,E,b,e]
  subst O;refine iP rfl (fun _=>bZ rfl) fun _=>fV fun L B=>auB (auB (fP fun D f6=> ?_));have T:D=L:=by rw[f6,B];rfl
  subst T;clear e u f2 z f3 A f4 E f5 B f6;obtain⟨a,b,c,d⟩:=D;dsimp only;unfold mG;simp only[aN,gm,ay,ayn];generalize (t.In.length:Int)=n;generalize (t.Out.length:Int)=m;repeat' first
   | refine bQ (fun _=> ?_) (fun _=> ?_)
   | refine dR (fun _=> ?_) (fun _=> ?_)
   | refine ai ?_
  all_goals
   first
    | (rw[Qa7,Qa7];simp only[Qbg,Qdf,Qcu,decide_eq_false_iff_not,Qbo,Bool.not_eq_false',Vt];(repeat' split)<;>first | rfl | (exfalso;omega))
theorem ahq (s:aF)(t:Tape)(h:ckQ s t/\alN s/\FN s):Is (Ha s t):=
 (abM h.1 h.2.1 h.2.2).1
noncomputable def alk:bT Z:=E1 [Yi,apM,ajZ,avd,ahh] [] (ax (aQ bV) (a1 (aQ Eo))) (R1 cI) [] func7 1 (u2 Ha) (fun a=>ckQ a.1 a.2/\alN a.1/\FN a.1) fun a h=>ahq a.1 a.2 h
def ahu (s:aF):Pg Bool:=.br (decide ((↑s.Messages.length:Int)<=8)) (.br (decide ((↑s.Enums.length:Int)<=8)) (.ret (decide ((↑s.dC.length:Int)<=8))) (.ret false)) (.ret false)
def ayx (s:aF):=(ahu s).val
theorem awE (s:aF):Is (ahu s):=
 bn (fun _=>bn iR iR) iR
def aAm:bT Z:=E0 [] [] (a1 (aQ bV)) (R1 aW) [] func4 1 ahu fun a=>awE a
def Oh (l:List Str):Pg Bool:=.wh (l.length+1) default (fun(a:Int×Bool)=> .br a.2 (aL l (.br (decide (a.1 < (↑l.length:Int))) (.ix a.1 l.length (rl (bJ .i64 (a.1+1),decide ((↑(List.length (l.getD a.1.toNat [])):Int)<=3000)))) (.ret (.inr a.2)))) (.ret (.inr a.2))) (0,decide ((↑l.length:Int)<=30))
def ahf (l:List Str):=(Oh l).val
theorem QX (l:List Str):kw (Oh l) (fun r=>r=true->l.length<=30/\∀x∈l,x.length<=3000):=
 by
 unfold Oh;refine qJ (fun x=>0<=x.1/\x.1<=l.length/\(x.2=true->l.length<=30/\∀j:Nat,(j:Int) < x.1->(l.getD j []).length<=3000)) (fun x=>((l.length:Int) - x.1).toNat) ⟨by omega,by omega,fun e=>⟨by have:=EU e;omega,fun j a=>absurd a au⟩⟩ (by simp only[Int.sub_zero,uZ];omega) fun x i=>dL (fun e=>fD (bQ (fun h=>aX au au (ai ?_)) (fun h=>ai ?_))) (fun e=>ai fun d=>absurd d (by rw[e];decide))
 ·obtain⟨p,o,m⟩:=i;obtain⟨c,f⟩:=m e;have b:bJ .i64 (x.1+1)=x.1+1:=bY (k:= .i64) p_;refine⟨⟨by show 0<=bJ .i64 (x.1+1);rw[b];omega,by show bJ .i64 (x.1+1)<=_;rw[b];omega,fun d=>⟨c,fun j a=> ?_⟩⟩,by show((l.length:Int) - bJ .i64 (x.1+1)).toNat < _;rw[b];omega⟩;have a:(j:Int) < bJ .i64 (x.1+1):=a;rw[b]at a;by_cases g:(j:Int) < x.1
  ·exact f j g
  ·have k:=EU (show decide (((l.getD x.1.toNat []).length:Int)<=3000)=true from d);rw[show x.1.toNat=j by omega]at k;omega
 ·intro _;obtain⟨c,f⟩:=i.2.2 e;refine⟨c,fun y n=> ?_⟩;obtain⟨j,a,rfl⟩:=Qb7.1 n;have k:=f j au;rwa [List.getD,Qav a]at k
theorem ak3 (l:List Str):Is (Oh l):=(QX l).1
def arV:bT Z:=E0 [] [jS 3 (dh (fun b=>[s0 4, s0 3]) (aC cI (l1 aW)))] (a1 (df dI)) (R1 aW) [] func9 1 Oh fun a=>ak3 a
def acN (t:Tape):Prop:=t.In.length<=30/\∀x∈t.In,x.length<=3000
def OU (l:List Tape):Pg Bool:=.wh (l.length+1) default (fun(a:Int×Bool)=> .br a.2 (aL l (.br (decide (a.1 < (↑l.length:Int))) (.ix a.1 l.length (.lt (bJ .i64 (a.1+1)) fun b=> .br (ahf (l.getD a.1.toNat KN).In) (.ix a.1 l.length (.br (ahf (l.getD a.1.toNat KN).Out) (.ix a.1 l.length (rl (b,decide ((↑(List.length (l.getD a.1.toNat KN).Status.Text):Int)<=9000)))) (rl (b,false)))) (rl (b,false)))) (.ret (.inr a.2)))) (.ret (.inr a.2))) (0,decide ((↑l.length:Int)<=20))
def auH (l:List Tape):=(OU l).val
theorem aig (l:List Tape):kw (OU l) (fun r=>r=true->l.length<=20/\∀t∈l,acN t):=
 by
 unfold OU;refine qJ (fun x=>0<=x.1/\x.1<=l.length/\(x.2=true->l.length<=20/\∀j:Nat,(j:Int) < x.1->acN (l.getD j KN))) (fun x=>((l.length:Int) - x.1).toNat) ⟨by omega,by omega,fun e=>⟨by have:=EU e;omega,fun j c=>absurd c au⟩⟩ (by simp only[Int.sub_zero,uZ];omega) fun x i=>dL (fun e=>fD (bQ (fun h=>aX au au (aI fun a m=> ?_)) (fun h=>ai ?_))) (fun e=>ai fun d=>absurd d (by rw[e];decide))
 ·obtain⟨v,u,s⟩:=i;obtain⟨f,g⟩:=s e;have w:a=x.1+1:=m.trans (bY (k:= .i64) p_);have next:∀b:Bool,(b=true->acN (l.getD x.1.toNat KN))->(0<=a/\a<=l.length/\(b=true->l.length<=20/\∀j:Nat,(j:Int) < a->acN (l.getD j KN)))/\((l.length:Int) - a).toNat < ((l.length:Int) - x.1).toNat:=fun b o=>by
   refine⟨⟨by omega,by omega,fun d=>⟨f,fun j c=> ?_⟩⟩,by omega⟩;by_cases n:(j:Int) < x.1
   ·exact g j n
   ·have k:=o d;rwa [show x.1.toNat=j by omega]at k
  exact dL (fun q=>aX au au (dL (fun _=>aX au au (ai (next _ fun _=>(QX _).2 q))) (fun _=>ai (next _ fun e=>by cases e)))) (fun _=>ai (next _ fun e=>by cases e))
 ·intro _;obtain⟨f,g⟩:=i.2.2 e;refine⟨f,fun y p=> ?_⟩;obtain⟨j,c,rfl⟩:=Qb7.1 p;have k:=g j au;rwa [List.getD,Qav c]at k
theorem akO (l:List Tape):Is (OU l):=(aig l).1
def aqp:bT Z:=E0 [arV] [jS 3 (dh (fun b=>[s0 4, s0 3]) (aC cI (l1 aW)))] (a1 (df agB)) (R1 aW) [] func5 1 OU fun a=>akO a
def okB (s:aF):Prop:=(∀m∈s.Messages,okM m)/\(∀e∈s.Enums,okE e)/\∀v∈s.dC,adz v
theorem aHJ {s:aF}(h:okB s)(f:ayx s=true):okS s:=by
 have k:VP (ahu s) (fun r=>r=true->s.Messages.length<=8/\s.Enums.length<=8/\s.dC.length<=8):=by
  unfold ahu;have a:∀{p:Prop},(false=true->p):=fun e=>by cases e
  refine iU (fun d=>iU (fun c=>bz fun b=> ?_) fun _=>bz a) fun _=>bz a;have d:=EU d;have c:=EU c;have b:=EU b;omega
 obtain⟨g,i,j⟩:=k f;exact⟨by omega,by omega,by omega,h.1,h.2.1,h.2.2⟩
def aHM (s:aF):Prop:=(∀m∈s.Messages,aAI m)/\(∀e∈s.Enums,aEv e)/\∀v∈s.dC,axR v
def okT (t:Tape):Prop:=t.Method.length<=1048576/\t.Status.Text.length<=1048576/\t.In.length<=1048576/\t.Out.length<=1048576
def okP (s:aF)(t:Tape):Prop:=okB s/\aHM s/\FN s/\okT t
noncomputable def law (s:aF)(t:Tape):Pg Bool:=.br (!ayx s) (.ret true) (.br (!auH [t]) (.ret true) (.ob (ckQ s t) (.ob (ckQ s t/\alN s/\FN s) (.br (aix s t==aaH s t) (.ret true) (.ret false)))))
theorem aoz (s:aF)(t:Tape)(h:okP s t):kw (law s t) (fun r=>r=true):=
 by
 obtain⟨g,f,d,t1,t2,t3,t4⟩:=h;unfold law;refine dL (fun _=>ai rfl) fun f1=>dL (fun _=>ai rfl) fun f2=> ?_;have c:okS s:=aHJ g (by simpa using f1);have a:ckQ s t:=⟨c,t1,t2,t3,t4⟩;have b:alN s:=⟨c,f⟩;have e:aaH s t=aix s t:=(abM a b d).2;exact aj a (aj ⟨a,b,d⟩ (dR (fun _=>ai rfl) (fun k=>absurd e.symm k)))
theorem aFx (s:aF)(t:Tape)(h:okP s t):Is (law s t):=(aoz s t h).1
noncomputable def aIf:bT Z:=E2 [aAm,aqp,arx,alk,aBd] [] (ax (aQ bV) (a1 (aQ Eo))) (R1 aW) [] func3 1 (u2 law) (fun a=>some (okP a.1 a.2)) (fun a=>true) fun a h=>⟨aFx a.1 a.2 h,(fun s t h=>(aoz s t h).2) a.1 a.2 h⟩
end
end Go.Proofs.YtenjjcfebflefaaGreatDoor
