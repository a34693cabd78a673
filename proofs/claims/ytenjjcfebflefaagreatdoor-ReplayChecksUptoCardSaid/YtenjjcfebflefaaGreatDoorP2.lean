/- Server: full names. -/
import Derived.Test.YtenjjcfebflefaaGreatDoorP1
namespace Go.Proofs.YtenjjcfebflefaaGreatDoor
noncomputable section
open Go.RowKit Go.Vc
open Tryz
set_option linter.unusedVariables false
set_option linter.unusedSimpArgs false
set_option maxRecDepth 100000
def xP:Str:=[46]
def aom (s:Str):Pg Int:=.as (List.length xP<=9223372036854775807) (.br (xP==s) (.ret 0) (.ix 0 (List.length xP) (.ret (Lib.indexByte s (List.getD xP 0 0).toNat.toUInt8))))
def acY (s:Str):=(aom s).val
theorem auJ (s:Str):Is (aom s):=
 jH fun _=>aS iR (fun _=>dJ jy jy aZ)
def anH:bT Z:=yQ Z [Rj] [jS 15 (dh (fun c=>[s0 8, s0 10]) (aC cI (l1 cI)))] (args (ax (df cStr) (a1 (df cStr)))) (oP (n:=143) rfl) (R1 cI) [] func108 ntmps108 fO 1 rfl (fun a=>aom (a.1)) (fun a=>some (a.2=xP)) (fun⟨s,p⟩ e h=>by have b:p=xP:=h;subst b;show _=_;kernel_rfl) (fun a=>acY (a.1)) (fun a h=>⟨auJ (a.1),rfl⟩)
theorem awh (s:Str):acY s=Lib.indexByte s 46:=by
 unfold acY aom;simp only[gm,gz,aN,bG,ay];by_cases h:xP=s
 ·subst h;rfl
 ·have:(xP==s)=false:=by simpa using h
  rw[this];rfl
theorem afz:((List.length xP:Nat):Int)=1:=rfl
def aHD (s:Str):Pg Int:=.ob (xP=xP) (.ret (acY s))
theorem aAS (s:Str):Is (aHD s):=
 bM rfl aZ
def aD1:bT Z:=yQ Z [anH] [] (args (ax (df cStr) (a1 (df cStr)))) (oP (n:=8) rfl) (R1 cI) [] func186 ntmps186 fO 1 rfl (fun a=>aHD (a.1)) (fun a=>some (a.2=xP)) (fun⟨s,p⟩ e h=>by have b:p=xP:=h;subst b;show _=_;kernel_rfl) (fun a=>Lib.indexByte (a.1) 46) (fun a h=>⟨aAS (a.1),awh (a.1)⟩)
def acB (i:Int)(y:List UInt8×List Str):(List UInt8×List Str)⊕((List UInt8×Int×List Str)⊕List Str):=
 bif decide (Lib.indexByte y.1 46 < 0)then .inr (.inl (y.1,i,y.2))else .inl (List.drop (bJ .i64 (Lib.indexByte y.1 46+1)).toNat (List.take y.1.length y.1),y.2.set i.toNat (List.take (bJ .i64 (Lib.indexByte y.1 46+0)).toNat y.1))
def aCS (i:Int)(y:List UInt8×List Str):(List UInt8×Int×List Str)⊕List Str:= .inl (y.1,i,y.2)
theorem aaI {r:Str}(g:r.length<=4294967296)(h:0 < Lib.countByte r 46):∃m:Nat,Lib.indexByte r 46=(m:Int)/\m < r.length/\iw 46 r=r.take m::iw 46 (r.drop (m+1))/\Lib.countByte r 46=Lib.countByte (r.drop (m+1)) 46+1:=by
 have f:=Lib.indexByte_ge r 46;by_cases d:Lib.indexByte r 46= -1
 ·have:=(KQ d).2;omega
 ·obtain⟨m,a⟩:∃m:Nat,Lib.indexByte r 46=(m:Int):=⟨(Lib.indexByte r 46).toNat,by omega⟩;obtain⟨b,c,e⟩:=KH a;exact⟨m,a,b,c,e⟩
theorem azj {r:Str}{a:List Str}{i:Nat}(g:r.length<=4294967296)(h:0 < Lib.countByte r 46):∃m:Nat,acB (i:Int) (r,a)= .inl (r.drop (m+1),a.set i (r.take m))/\iw 46 r=r.take m::iw 46 (r.drop (m+1))/\Lib.countByte r 46=Lib.countByte (r.drop (m+1)) 46+1:=by
 obtain⟨m,e,j,b,f⟩:=aaI g h;refine⟨m,?_,b,f⟩;unfold acB;have d:bJ .i64 ((m:Int)+1)=((m+1:Nat):Int):=lX au;have c:bJ .i64 ((m:Int)+0)=((m:Nat):Int):=by rw[Int.add_zero,bY (k:= .i64) p_]
 rw[e,d,c,jF (show ¬(m:Int) < 0 by omega),jm,JG,uZ,uZ,uZ]
theorem afh:∀(n i:Nat) (r:Str) (a:List Str),Lib.countByte r 46=n->a.length=i+n+1->r.length<=4294967296->∃f b,oq acB aCS n (i:Int) (r,a)= .inl (f,((i+n:Nat):Int),b)/\b.length=i+n+1/\b.take (i+n)++[f]=a.take i++iw 46 r
 | 0,i,r,a,q,j,k=>by
  have d:Lib.indexByte r 46= -1:=by
   have u:=Lib.indexByte_ge r 46;by_cases d:Lib.indexByte r 46= -1
   ·exact d
   ·obtain⟨_,_,t⟩:=KH (s:=r) (c:=46) (m:=(Lib.indexByte r 46).toNat) au;omega
  exact⟨r,a,rfl,j,by rw[(KQ d).1];rfl⟩
 | n+1,i,r,a,q,j,k=>by
  obtain⟨m,p,l,t⟩:=azj (a:=a) (i:=i) k au;have h:(r.drop (m+1)).length<=4294967296:=by rw[Qbe];omega
  obtain⟨f,b,d,v,o⟩:=afh n (i+1) (r.drop (m+1)) (a.set i (r.take m)) au qb6 h;refine⟨f,b,?_,by omega,?_⟩
  ·unfold oq;rw[p];have e:((i:Int)+1)=((i+1:Nat):Int):=rfl;rw[e];simp only;rw[d,show i+1+n=i+(n+1) by omega]
  ·rw[show i+(n+1)=i+1+n by omega,o,l];have:(a.set i (r.take m)).take (i+1)=a.take i++[r.take m]:=by
    rw[Qen,Qdg,Qav au];have g:(a.take i).length=i:=by rw[C9];omega
    simp only[Qek];rw[List.set_append_right _ _ au,g,Nat.sub_self];rfl
   rw[this,Qa2];rfl
theorem aHK (s:Str)(h:s.length<=4294967296):min (bJ .i64 ((Lib.countByte s 46:Int)+1)) (bJ .i64 ((s.length:Int)+1))=((Lib.countByte s 46+1:Nat):Int)/\bJ .i64 (((Lib.countByte s 46+1:Nat):Int) - 1)=((Lib.countByte s 46:Nat):Int):=by
 have c:=count_le 46 s;have b:bJ .i64 ((Lib.countByte s 46:Int)+1)=((Lib.countByte s 46+1:Nat):Int):=lX au;have a:bJ .i64 ((s.length:Int)+1)=((s.length+1:Nat):Int):=lX au;rw[b,a,bY (k:= .i64) p_];omega
def afo (s:Str):Pg (List Str):=.cut (fun(c:Int)=> .lt (bJ .i64 ((↑(List.length s):Int)+1)) fun d=> .ob (min c d=min c d/\0<=min c d/\min c d*(16:Int)<=281474976710656/\min c d<=1099511627776) (.cut (fun(b:List UInt8×Int×List Str)=> .ix b.2.1 b.2.2.length (.ob (b.2.1.toNat < b.2.2.length) (.lt (b.2.2.set b.2.1.toNat b.1) fun i=> .lt (bJ .i64 (b.2.1+1)) fun g=> .ob ((0:Int)<=0/\0<=g/\g<=(↑i.length:Int)) (.ret (List.take g.toNat i))))) (.lt (bJ .i64 (min c d - 1)) fun j=> .cnt rP 0 j (fun e (a:List UInt8×List Str)=> .ob (xP=xP) (.br (decide (Lib.indexByte a.1 46 < 0)) (.ret (.inr (.inl (a.1,e,a.2)))) (.lt (bJ .i64 (Lib.indexByte a.1 46+0)) fun h=> .ob ((0:Int)<=0/\0<=h/\h<=(↑a.1.length:Int)) (.ix e a.2.length (.ob (e.toNat < a.2.length) (.lt (bJ .i64 (Lib.indexByte a.1 46+(↑(List.length xP):Int))) fun f=> .ob (0<=f/\f<=(↑a.1.length:Int)/\(↑a.1.length:Int)<=(↑a.1.length:Int)) (.as (List.length xP<=9223372036854775807) (rl (List.drop f.toNat (List.take a.1.length a.1),a.2.set e.toNat (List.take h.toNat a.1)))))))))) (fun e (a:List UInt8×List Str)=> rl (a.1,e,a.2)) (s,List.replicate (min c d).toNat [])))) (rl (bJ .i64 ((↑(Lib.countByte s 46):Int)+1)))
def Ul (s:Str):=(afo s).val
theorem apt (s:Str)(h:s.length<=4294967296):Is (afo s):=
 by
 obtain⟨G,o⟩:=aHK s h;have K:=count_le 46 s;refine lK aZ (fun v a=> ?_);have a:bJ .i64 ((Lib.countByte s 46:Int)+1)=v:=by injection a
 subst a;refine dm fun O f=> ?_;subst f;rw[G];refine bM ⟨rfl,by omega,by omega,by omega⟩ (lK (dm fun M z=> ?_) fun F j=> ?_)
 ·subst z;rw[o];refine NH (fun i y=>0<=i/\y.2.length=Lib.countByte s 46+1/\(Lib.countByte y.1 46:Int)=(Lib.countByte s 46:Int) - i/\y.1.length<=s.length) ⟨by omega,by rw[Qd9];omega,by show(Lib.countByte s 46:Int)=_;omega,rC _⟩ au au (fun B b l q u=> ?_) (fun B b _ _ _=>aZ);obtain⟨U,x,Q,X⟩:=u;obtain⟨m,E,P,L,W⟩:=aaI (r:=b.1) au au;have p:bJ .i64 ((m:Int)+1)=((m+1:Nat):Int):=lX au;have D:bJ .i64 ((m:Int)+0)=((m:Nat):Int):=by rw[Int.add_zero,bY (k:= .i64) p_]
  rw[E];rw[afz,p,D];refine⟨bM rfl (bn iR (fun _=>dm fun J V=>bM au (dJ au au (bM au (dm fun I H=>bM au (jH fun _=>aZ)))))),fun N c=> ?_⟩
  ·revert c;simp only[bG,bF,aN,dN,gm,ay];rw[jF (show ¬(m:Int) < 0 by omega),jm,JG];intro e;injection e with e
   subst e;refine⟨by omega,by simp only[Qcl];exact x,?_,?_⟩
   ·show(Lib.countByte (List.drop ((m+1:Nat):Int).toNat b.1) 46:Int)=_
    rw[uZ];omega
   ·show(List.drop ((m+1:Nat):Int).toNat b.1).length<=_
    rw[Qbe];omega
 ·obtain⟨C,t,l,q,T⟩:=afh (Lib.countByte s 46) 0 s (List.replicate (((Lib.countByte s 46+1:Nat):Int)).toNat []) rfl (by rw[Qd9];omega) h;have e:F=(C,((0+Lib.countByte s 46:Nat):Int),t):=by
   have:=j;simp only[bF,qx,bG,aN,dN,gm,ay,o,afz]at this;have d:=l;rw[show(((Lib.countByte s 46:Nat):Int) - 0).toNat=Lib.countByte s 46 by omega]at this;have A:=this.symm.trans d;injection A
  subst e;dsimp only;have w:bJ .i64 (((0+Lib.countByte s 46:Nat):Int)+1)=((0+Lib.countByte s 46+1:Nat):Int):=lX au;exact dJ au au (bM au (dm fun R n=>dm fun S g=>bM (by rw[g,w,n,Qcl];omega) aZ))
def atP:bT Z:=yQ Z [aAp,aD1] [jS 11 (dh (fun b=>[s0 10, s0 0, .row (pid (b 9)) 9]) (aC cI (aC cStr (l1 dI)))),jS 100007 (dh (fun b=>[s0 3]) (l1 cI)),jS 100017 (dh (fun b=>[s0 0, s0 10, .row (pid (b 9)) 9]) (aC cStr (aC cI (l1 dI))))] (args (ax (df cStr) (ax (df cStr) (ax (df cI) (a1 (df cI)))))) (oP (n:=66) rfl) (R1 dI) [] func109 ntmps109 fO 1 rfl (fun a=>afo (a.1)) (fun a=>some ((a.2.1=xP/\a.2.2.1=0/\a.2.2.2=(-1))/\((a.1).length<=4294967296))) (fun⟨s,p,c,n⟩ e h=>by have d:p=xP:=h.1.1;subst d;have g:c=0:=h.1.2.1;subst g;have f:n=(-1):=h.1.2.2;subst f;show _=_;kernel_rfl) (fun a=>Ul (a.1)) (fun a h=>⟨apt (a.1) h.2,rfl⟩)
theorem aqB (s:Str)(h:s.length<=4294967296):Ul s=iw 46 s:=by
 obtain⟨g,e⟩:=aHK s h;have j:=count_le 46 s;obtain⟨i,c,f,k,b⟩:=afh (Lib.countByte s 46) 0 s (List.replicate (((Lib.countByte s 46+1:Nat):Int)).toNat []) rfl (by rw[Qd9];omega) h;unfold Ul afo;simp only[gz,bF,qx,bG,aN,dN,gm,ay,fG,g,e,afz];rw[show(((Lib.countByte s 46:Nat):Int) - 0).toNat=Lib.countByte s 46 by omega];have d:(oq acB aCS (Lib.countByte s 46) 0 (s,List.replicate (((Lib.countByte s 46+1:Nat):Int)).toNat []):(List UInt8×Int×List Str)⊕List Str)= .inl (i,((0+Lib.countByte s 46:Nat):Int),c):=f;refine(Ll (fun x:(List UInt8×Int×List Str)⊕List Str=>thenS x _) d).trans ?_;rw[fG];have w:bJ .i64 (((0+Lib.countByte s 46:Nat):Int)+1)=((0+Lib.countByte s 46+1:Nat):Int):=lX au;dsimp only;rw[w,uZ,uZ];rw[zM]at*;rw[Qej,Qbs]at b;rw[<-b,Qen,Qdg,Qav au];have a:(c.take (Lib.countByte s 46)).length=Lib.countByte s 46:=by rw[C9];omega
 simp only[Qek];rw[List.set_append_right _ _ au,a,Nat.sub_self];rfl
def avi (s:Str):Pg (List Str):=.ob ((xP=xP/\(0:Int)=0/\(-1)=(-1))/\List.length s<=4294967296) (.ret (Ul s))
theorem arC (s:Str)(h:s.length<=4294967296):Is (avi s):=
 bM ⟨⟨rfl,rfl,rfl⟩,h⟩ aZ
def ags:bT Z:=yQ Z [atP] [] (args (ax (df cStr) (a1 (df cStr)))) (oP (n:=8) rfl) (R1 dI) [] func59 ntmps59 fO 1 rfl (fun a=>avi (a.1)) (fun a=>some ((a.2=xP)/\((a.1).length<=4294967296))) (fun⟨s,p⟩ e h=>by have b:p=xP:=h.1;subst b;show _=_;kernel_rfl) (fun a=>iw 46 (a.1)) (fun a h=>⟨arC (a.1) h.2,aqB (a.1) h.2⟩)
def av6 (s:Str):Pg Bool:=.ob ([46]=xP/\List.length s<=4294967296) (.as ((iw 46 s).length<=9223372036854775807) (.each false Ec (iw 46 s) [] (fun a c (b:Unit)=> .ix a (iw 46 s).length (.br (!PV c) (.ret (.inr false)) (rl ()))) (fun a (b:Unit)=> .ret (decide ((↑(List.length s):Int)<=120))) ()))
def adS (s:Str):=(av6 s).val
def aoE:bT Z:=E1 [adI,ags] [jS 2 (dh (fun b=>[s0 8]) (l1 cI))] (a1 (df cStr)) (R1 aW) [] func28 1 av6 fun a=>a.length<=4294967296
theorem ahB (s:Str):adS s=H9 s:=by
 unfold adS av6;simp only[bG,bF,gm,fM,dN,aN,ay];rw[ab9];have b:∀(l:List Str) (k:Nat),jZ (fun(_:Nat) (c:Str) (_:Unit)=>bif !PV c then(Sum.inr false:Unit⊕Bool)else .inl ()) (fun(_:Nat) (_:Unit)=>decide ((s.length:Int)<=120)) l k ()=(decide (s.length<=120) && l.all OO):=by
  intro l;induction l with
  | nil=>intro k;show decide ((s.length:Int)<=120)=_;rw[List.all_nil,Qeb];congr 1;rw[eq_iff_iff];omega
  | cons a l d=>
   intro k;unfold jZ;rw[Ym,Qcj];cases OO a with
   | true=>exact d (k+1)
   | false=>simp
 exact b _ 0
def aeJ (s:Str):Pg Bool:=.br (s==[109,101,115,115,97,103,101]) (.br (s==[109,101,115,115,97,103,101]) (.ret true) (.ret false)) (.br (s==[101,110,117,109]) (.br (s==[101,110,117,109]) (.ret true) (.ret false)) (.br (s==[115,101,114,118,105,99,101]) (.br (s==[115,101,114,118,105,99,101]) (.ret true) (.ret false)) (.br (s==[117,110,105,111,110]) (.br (s==[117,110,105,111,110]) (.ret true) (.ret false)) (.br (s==[109,97,112]) (.br (s==[109,97,112]) (.ret true) (.ret false)) (.br (s==[108,105,115,116]) (.br (s==[108,105,115,116]) (.ret true) (.ret false)) (.br (s==[114,101,113,117,105,114,101,100]) (.br (s==[114,101,113,117,105,114,101,100]) (.ret true) (.ret false)) (.br (s==[111,112,116,105,111,110,97,108]) (.br (s==[111,112,116,105,111,110,97,108]) (.ret true) (.ret false)) (.br (s==[112,108,97,105,110]) (.br (s==[112,108,97,105,110]) (.ret true) (.ret false)) (.br (s==[100,101,102,97,117,108,116]) (.br (s==[100,101,102,97,117,108,116]) (.ret true) (.ret false)) (.br (s==[114,101,115,101,114,118,101,100]) (.br (s==[114,101,115,101,114,118,101,100]) (.ret true) (.ret false)) (.br (s==[105,109,112,111,114,116]) (.br (s==[105,109,112,111,114,116]) (.ret true) (.ret false)) (.br (s==[115,112,97,99,101]) (.br (s==[115,112,97,99,101]) (.ret true) (.ret false)) (.br (s==[114,112,99]) (.br (s==[114,112,99]) (.ret true) (.ret false)) (.br (s==[115,116,114,101,97,109]) (.br (s==[115,116,114,101,97,109]) (.ret true) (.ret false)) (.br (s==[114,101,116,117,114,110,115]) (.br (s==[114,101,116,117,114,110,115]) (.ret true) (.ret false)) (.br (s==[111,112,101,110]) (.br (s==[111,112,101,110]) (.ret true) (.ret false)) (.br (s==[116,114,117,101]) (.br (s==[116,114,117,101]) (.ret true) (.ret false)) (.br (s==[102,97,108,115,101]) (.br (s==[102,97,108,115,101]) (.ret true) (.ret false)) (.br (s==[110,97,110]) (.br (s==[110,97,110]) (.ret true) (.ret false)) (.br (s==[105,110,102]) (.ret true) (.ret false)))))))))))))))))))))
def Ir (s:Str):=(aeJ s).val
theorem aqm (s:Str):Is (aeJ s):=
 aS (fun _=>aS iR iR) (fun _=>aS (fun _=>aS iR iR) (fun _=>aS (fun _=>aS iR iR) (fun _=>aS (fun _=>aS iR iR) (fun _=>aS (fun _=>aS iR iR) (fun _=>aS (fun _=>aS iR iR) (fun _=>aS (fun _=>aS iR iR) (fun _=>aS (fun _=>aS iR iR) (fun _=>aS (fun _=>aS iR iR) (fun _=>aS (fun _=>aS iR iR) (fun _=>aS (fun _=>aS iR iR) (fun _=>aS (fun _=>aS iR iR) (fun _=>aS (fun _=>aS iR iR) (fun _=>aS (fun _=>aS iR iR) (fun _=>aS (fun _=>aS iR iR) (fun _=>aS (fun _=>aS iR iR) (fun _=>aS (fun _=>aS iR iR) (fun _=>aS (fun _=>aS iR iR) (fun _=>aS (fun _=>aS iR iR) (fun _=>aS (fun _=>aS iR iR) (fun _=>aS iR iR))))))))))))))))))))
def afQ:bT Z:=E0 [] [] (a1 (df cStr)) (R1 aW) [] func203 1 aeJ fun a=>aqm a
def ML (a:Str):Pg (List UInt8×List UInt8):=.lt (bJ .i64 ((↑(List.length a):Int) - 1)) fun d=> .wh (a.length+1) default (fun(b:Int)=> .br (decide (0<=b)) (.ix b (List.length a) (.br ((↑(List.getD a b.toNat 0).toNat:Int)==46) (.ob ((0:Int)<=0/\0<=b/\b<=(↑(List.length a):Int)) (.lt (bJ .i64 (b+1)) fun c=> .ob (0<=c/\c<=(↑(List.length a):Int)/\(↑(List.length a):Int)<=(↑(List.length a):Int)) (.ret (.inr (List.take b.toNat a,List.drop c.toNat (List.take (List.length a) a)))))) (rl (bJ .i64 (b - 1))))) (.ret (.inr ([],a)))) d
def Du (a:Str):=(ML a).val
theorem akH (a:Str)(h:a.length<=9223372036854775807):Is (ML a):=
 by
 refine mO fun i d g=>L_ (fun x=> -1<=x/\x < a.length) (fun x=>(x+1).toNat) au au (fun x j=>⟨bn (fun _=>dJ au au (bK (fun _=>bM au (mO fun l c m=>bM au (aZ))) iR)) iR,fun f b=> ?_⟩);revert b;simp only[dN,aN,bF,bG,ay,Qa7,Lh];have w:0<=x->bJ .i64 (x - 1)=x - 1:=fun _=>bY (k:= .i64) p_
 (repeat' split)<;>intro e<;>cases e<;>rw[w au]<;>omega
def aq7:bT Z:=E1 [] [jS 2 (dh (fun b=>[s0 4]) (l1 cI))] (a1 (df cStr)) (shr [s0 0, s0 1] (aC cStr (l1 cStr))) [] func202 2 ML (fun a=>a.length<=9223372036854775807) fun a h=>akH a h
def aoj (l:List Str)(s:Str):Pg Bool:=.each true Ec l [] (fun a c (b:Unit)=> .ix a l.length (.br (c==s) (.ret (.inr true)) (rl ()))) (fun a (b:Unit)=> .ret false) ()
def Kw (l:List Str)(s:Str):=(aoj l s).val
theorem at6 (l:List Str)(s:Str):Is (aoj l s):=
 jG (.inl rfl) (fun b a _ _=>dJ au au (aS iR iR)) (fun a _=>aZ)
def ant:bT Z:=E0 [] [jS 2 (dh (fun b=>[s0 5]) (l1 cI))] (ax (df dI) (a1 (df cStr))) (R1 aW) [] func121 1 (u2 aoj) fun a=>at6 a.1 a.2
def aEK (k:Int):Pg Bool:=.br (decide (1<=k)) (.ret (decide (k<=9))) (.ret false)
def Gy (k:Int):=(aEK k).val
theorem aBH (k:Int):Is (aEK k):=
 bn iR iR
def afb:bT Z:=E0 [] [] (a1 (df cI)) (R1 aW) [] func281 1 aEK fun a=>aBH a
def Vs (k:Int):Pg Bool:=.br (k==7) (.ret true) (.ret (k==8))
def zl (k:Int):=(Vs k).val
theorem aj6 (k:Int):Is (Vs k):=
 bK iR iR
def acf:bT Z:=E0 [] [] (a1 (df cI)) (R1 aW) [] func283 1 Vs fun a=>aj6 a
def adM (v:af):Pg Bool:=.br ((↑v.List.length:Int)==0) (.br ((↑v.Pairs.length:Int)==0) (.br ((↑v.Slots.length:Int)==0) (.ret ((↑v.dH.length:Int)==0)) (.ret false)) (.ret false)) (.ret false)
def wL (v:af):=(adM v).val
theorem arb (v:af):Is (adM v):=
 bK (fun _=>bK (fun _=>bK iR iR) iR) iR
def aiz:bT Z:=E0 [] [] (a1 (aQ aH)) (R1 aW) [] func282 1 adM fun a=>arb a
def P7 (k:Int)(v:af):Pg Bool:=.br (!Gy k) (.ret false) (.br (v.Kind !=k) (.ret false) (.br (!wL v.re) (.ret false) (.br (zl k) (.br (v.Bits==0) (.br (decide ((↑(List.length v.Text):Int)<=4096)) (.br (k==8) (.ret true) (.ob (List.length v.Text<=9223372036854775700) (.ret (Ie v.Text)))) (.ret false)) (.ret false)) (.br (v.Text !=[]) (.ret false) (.br (k==1) (.ret (decide (v.Bits<=1))) (.br (k==2) (.lt (bJ .i64 v.Bits) fun a=> .br (decide ((-2147483648)<=a)) (.ret (decide (a<=2147483647))) (.ret false)) (.br (k==4) (.ret (decide (v.Bits < 4294967296))) (.br (k==9) (.ret (decide (v.Bits < 2147483648))) (.ret true)))))))))
def wJ (k:Int)(v:af):=(P7 k v).val
theorem aqo (k:Int)(v:af):Is (P7 k v):=
 aS iR (fun _=>gQ iR (fun _=>aS iR (fun _=>aS (fun _=>bK (fun _=>bn (fun _=>bK iR (fun _=>bM qav (aZ))) iR) iR) (fun _=>aS iR (fun _=>bK iR (fun _=>bK (fun _=>mO fun b a _=>bn iR iR) (fun _=>bK iR (fun _=>bK iR iR))))))))
def Xo:bT Z:=E0 [Oy,afb,aiz,acf] [] (ax (df cI) (a1 (aQ aH))) (R1 aW) [] func206 1 (u2 P7) fun a=>aqo a.1 a.2
def Ut (b:Int):Pg Int:=.ob ((9223372036854775808:Int)≠0) (.br (decide (9218868437227405312 < b.tmod 9223372036854775808)) (.ret 0) (.br (b.tmod (9223372036854775808:Int)==9218868437227405312) (.ret 1) (.br (b.tmod (9223372036854775808:Int)==0) (.ret 2) (.br (decide (b.tmod (9223372036854775808:Int) < 4503599627370496)) (.ret 3) (.ret 4)))))
def CO (b:Int):=(Ut b).val
theorem al3 (b:Int):Is (Ut b):=
 bM au (bn iR (fun _=>bK iR (fun _=>bK iR (fun _=>bn iR iR))))
def aa4:bT Z:=E0 [] [] (a1 (df (gW .u64))) (R1 cI) [] func284 1 Ut fun a=>al3 a
def XT (v:af):Pg af:=.br (v.Kind==6) (.br (CO v.Bits==0) (.ret (af.mk v.Kind 9221120237041090560 v.Text v.List v.Pairs v.Slots v.dH)) (.ret v.re)) (.ret v.re)
def lq (v:af):=(XT v).val
theorem ar7 (v:af):Is (XT v):=
 bK (fun _=>bK iR iR) iR
def MN:bT Z:=E0 [aa4] [] (a1 (aQ aH)) (shr [.slot 0 true (nn 7)] (l1 aH)) [] func207 1 XT fun a=>ar7 a
def aeP (a:Str):Pg Int:=.cut (fun(d:Bool)=> .br d (.ret 1) (.cut (fun(c:Bool)=> .br c (.ret 7) (.cut (fun(b:Bool)=> .br b (.ret 4) (.br (a==[109,105,110]) (.br (a==[109,105,110]) (.ret 3) (.ret 0)) (.br (a==[109,97,120]) (.ret 3) (.ret 0)))) (.br (a==[115,105,110,99,101]) (rl (a==[115,105,110,99,101])) (.br (a==[117,110,116,105,108]) (rl (a==[117,110,116,105,108])) (.br (a==[108,101,110,103,116,104]) (rl (a==[108,101,110,103,116,104])) (rl (a==[116,105,109,101,111,117,116]))))))) (.br (a==[100,111,99]) (rl (a==[100,111,99])) (.br (a==[97,108,105,97,115]) (rl (a==[97,108,105,97,115])) (.br (a==[114,111,117,116,101]) (rl (a==[114,111,117,116,101])) (rl (a==[111,119,110,101,114]))))))) (.br (a==[100,101,112,114,101,99,97,116,101,100]) (rl (a==[100,101,112,114,101,99,97,116,101,100])) (.br (a==[115,101,99,114,101,116]) (rl (a==[115,101,99,114,101,116])) (rl (a==[105,100,101,109,112,111,116,101,110,116]))))
def qw (a:Str):=(aeP a).val
theorem apJ (a:Str):Is (aeP a):=
 lK (aS iR (fun _=>aS iR iR)) (fun g d=>aS iR (fun _=>lK (aS iR (fun _=>aS iR (fun _=>aS iR iR))) (fun e b=>aS iR (fun _=>lK (aS iR (fun _=>aS iR (fun _=>aS iR iR))) (fun f c=>aS iR (fun _=>aS (fun _=>aS iR iR) (fun _=>aS iR iR)))))))
def afN:bT Z:=E0 [] [jS 100005 (dh (fun b=>[s0 4]) (l1 aW)),jS 100010 (dh (fun b=>[s0 8]) (l1 aW)),jS 100015 (dh (fun b=>[s0 13]) (l1 aW))] (a1 (df cStr)) (R1 cI) [] func285 1 aeP fun a=>apJ a
def ak5 (b:Str)(a:Int):Pg Bool:=.cut (fun(e:Bool)=> .br e (.br (decide (1<=a)) (.ret (decide (a<=6))) (.ret false)) (.cut (fun(c:Bool)=> .br c (.br (a==2) (.ret true) (.br (a==4) (.ret true) (.ret (a==6)))) (.cut (fun(d:Bool)=> .br d (.ret (a==2)) (.br (b==[105,100,101,109,112,111,116,101,110,116]) (.br (b== [105,100,101,109,112,111,116,101,110,116]) (.ret (a==6)) (.br (a==1) (.ret true) (.ret (a==5)))) (.br (b==[116,105,109,101,111,117,116]) (.br (b==[116,105,109,101,111,117,116]) (.ret (a==6)) (.br (a==1) (.ret true) (.ret (a==5)))) (.br (b==[114,111,117,116,101]) (.ret (a==6)) (.br (a==1) (.ret true) (.ret (a==5))))))) (.br (b==[109,105,110]) (rl (b==[109,105,110])) (.br (b==[109,97,120]) (rl (b==[109,97,120])) (.br (b==[108,101,110,103,116,104]) (rl (b==[108,101,110,103,116,104])) (rl (b==[115,101,99,114,101,116]))))))) (.br (b==[97,108,105,97,115]) (rl (b==[97,108,105,97,115])) (.br (b==[115,105,110,99,101]) (rl (b==[115,105,110,99,101])) (rl (b==[117,110,116,105,108])))))) (.br (b==[100,101,112,114,101,99,97,116,101,100]) (rl (b==[100,101,112,114,101,99,97,116,101,100])) (rl (b==[100,111,99])))
def IQ (b:Str)(a:Int):=(ak5 b a).val
theorem apz (b:Str)(a:Int):Is (ak5 b a):=
 lK (aS iR iR) (fun h d=>aS (fun _=>bn iR iR) (fun _=>lK (aS iR (fun _=>aS iR iR)) (fun f c=>aS (fun _=>bK iR (fun _=>bK iR iR)) (fun _=>lK (aS iR (fun _=>aS iR (fun _=>aS iR iR))) (fun g e=>aS iR (fun _=>aS (fun _=>aS iR (fun _=>bK iR iR)) (fun _=>aS (fun _=>aS iR (fun _=>bK iR iR)) (fun _=>aS iR (fun _=>bK iR iR)))))))))
def au5:bT Z:=E0 [] [jS 100004 (dh (fun b=>[s0 6]) (l1 aW)),jS 100008 (dh (fun b=>[s0 15]) (l1 aW)),jS 100013 (dh (fun b=>[s0 29]) (l1 aW))] (ax (df cStr) (a1 (df cI))) (R1 aW) [] func286 1 (u2 ak5) fun a=>apz a.1 a.2
def Vd (n:Note):Pg Bool:=.lt (qw n.Name) fun a=> .br (a !=0) (.br (n.Val.Kind==a) (.ret (wJ a n.Val.re)) (.ret false)) (.ret false)
def wX (n:Note):=(Vd n).val
theorem alo (n:Note):Is (Vd n):=
 dm fun b a=>gQ (fun _=>bK iR iR) iR
def apv:bT Z:=E0 [Xo,afN] [] (a1 (aQ EY)) (R1 aW) [] func287 1 Vd fun a=>alo a
def Uk (l:List Note)(c:Int):Pg Int:=.br (decide (8 < (↑l.length:Int))) (.ret 3) (.each true Ec l qI (fun a b (e:Unit)=> .ix a l.length (.br (qw b.Name==0) (.ret (.inr 8)) (.ix a l.length (.br (!IQ b.Name c) (.ret (.inr 1)) (.ix a l.length (.br (!wX (Note.mk b.Name b.Val.re)) (.ret (.inr 12)) (.lt (bJ .i64 (a - 1)) fun d=> .cut (fun(f:Unit)=> .br (decide (0 < a)) (.ix a l.length (.ix d l.length (.br (b.Name==(l.getD d.toNat qI).Name) (.ret (.inr 9)) (rl ())))) (rl ())) (.br (decide (0 < a)) (.ix a l.length (.ix d l.length (.br (Op.bytesLess b.Name (l.getD d.toNat qI).Name) (.ret (.inr (.inr 11))) (rl ())))) (rl ()))))))))) (fun a (e:Unit)=> .ret 0) ())
def O4 (l:List Note)(a:Int):=(Uk l a).val
theorem ak0 (l:List Note)(a:Int):Is (Uk l a):=
 bn iR (fun _=>jG (.inl rfl) (fun e b _ _=>dJ au au (bK iR (fun _=>dJ au au (aS iR (fun _=>dJ au au (aS iR (fun _=>mO fun f c _=>lK (bn (fun _=>dJ au au (dJ au au (aS iR iR))) iR) (fun g d=>bn (fun _=>dJ au au (dJ au au (aS iR iR))) iR)))))))) (fun b _=>aZ))
def aqC:bT Z:=E0 [afN,au5,apv] [jS 4 (dh (fun b=>[s0 5]) (l1 cI)),jS 100014 (dh (fun b=>[]) l0)] (ax (df jE) (a1 (df cI))) (R1 cI) [] func208 1 (u2 Uk) fun a=>ak0 a.1 a.2
def ao5 (l:List Note)(b:Str):Pg Int:=.each true Ec l qI (fun a d (c:Unit)=> .ix a l.length (.br (d.Name==b) (.ret (.inr a)) (rl ()))) (fun a (c:Unit)=> .ret (-1)) ()
theorem alM (l:List Note)(a:Str):Is (ao5 l a):=
 jG (.inl rfl) (fun c b _ _=>dJ au au (aS iR iR)) (fun b _=>aZ)
def ap7:bT Z:=E2 [] [jS 2 (dh (fun c=>[s0 5]) (l1 cI))] (ax (df jE) (a1 (df cStr))) (R1 cI) [] func288 1 (u2 ao5) (fun a=>none) (fun a=>dP (fun(n:Note)=>n.Name==a.2) a.1) fun a h=>⟨alM a.1 a.2,(fun l b=>yc (fun(n:Note)=>n.Name==b) l 0) a.1 a.2⟩
def adD (l:List Note)(b:Str):Pg (af×Bool):=.lt (dP (fun(n:Note)=>n.Name==b) l) fun a=> .br (decide (a < 0)) (.ret (af.mk 0 0 [] [] [] [] [],false)) (.ix a l.length (.ret ((l.getD a.toNat qI).Val.re,true)))
def aeq (l:List Note)(a:Str):=(adD l a).val
theorem aq_ (l:List Note)(a:Str):Is (adD l a):=
 dm fun c b=>bn iR (fun _=>dJ au (by have:=kU (fun(n:Note)=>n.Name==a) l;rw[b];exact this.1) (aZ))
def axV:bT Z:=E0 [ap7] [] (ax (df jE) (a1 (df cStr))) (shr [.slot 0 true (nn 7), s0 1] (aC aH (l1 aW))) [] func212 2 (u2 adD) fun a=>aq_ a.1 a.2
theorem agn (s:Str)(h:s.length<=9223372036854775807):(Du s).1.length<=s.length:=by
 unfold Du ML;simp only[bF,sS,aN,dN,bG,ay];have w0:bJ .i64 ((s.length:Int) - 1)=(s.length:Int) - 1:=bY (k:= .i64) p_;rw[w0];refine Oe (fun(x:Int)=> -1<=x/\x < s.length) (fun(x:Int)=>(x+1).toNat) (fun(r:Str×Str)=>r.1.length<=s.length) (fun x b=> ?_) _ _ au au;by_cases a:0<=x
 ·simp only[a,decide_true,cond_true];cases((s.getD x.toNat 0).toNat:Int)==46 with
  | true=>exact .inr ⟨_,rfl,by simp[C9];omega⟩
  | false=>exact .inl ⟨_,rfl,by rw[bY (k:= .i64) p_];omega,by rw[bY (k:= .i64) p_];omega⟩
 ·simp only[a,decide_false,jm];exact .inr ⟨_,rfl,by simp⟩
def MS (s:Str):Pg Bool:=.br (!H9 s) (.ret false) (.cnt rP 0 120 (fun c (a:List UInt8)=> .br (a !=[]) (.ob (a.length<=9223372036854775807) (.lt (Du a) fun b=> .br (Ir b.2) (.ret (.inr false)) (rl b.1))) (.ret (.inr true))) (fun c (a:List UInt8)=> .ret true) s)
def BN (s:Str):=(MS s).val
theorem agA (s:Str)(h:s.length<=9223372036854775807):Is (MS s):=
 by
 refine aS iR (fun _=>NH (fun _ y=>y.length<=9223372036854775807) h au au (fun d b _ _ c=>⟨aS (fun _=>bM c (dm fun i f=>aS iR iR)) iR,fun g a=> ?_⟩) (fun d b _ _ _=>aZ));revert a;simp only[aN,bG,bF,ay,Qa7];have:=agn b c;(repeat' split)<;>intro e<;>cases e<;>omega
def J5:bT Z:=E1 [agN,aq7,afQ] [jS 4 (dh (fun b=>[s0 3, s0 0]) (aC cI (l1 cStr)))] (a1 (df cStr)) (R1 aW) [] func123 1 MS (fun a=>a.length<=9223372036854775807) fun a h=>agA a h
def adV (s:Str):Pg Bool:=.br (wO s) (.ret !Ir s) (.ret false)
def uK (s:Str):=(adV s).val
theorem asj (s:Str):Is (adV s):=
 aS iR iR
def Ov:bT Z:=E0 [VJ,afQ] [] (a1 (df cStr)) (R1 aW) [] func124 1 adV fun a=>asj a
def WH (a:af)(b:af):Pg Bool:=.br (a.Kind==b.Kind) (.br (a.Bits==b.Bits) (.br (a.Text==b.Text) (aL a.List (aL a.Pairs (aL a.Slots (aL a.dH (aL b.List (aL b.Pairs (aL b.Slots (aL b.dH (.ret (bJ .i64 (bJ .i64 (bJ .i64 (bJ .i64 (bJ .i64 (bJ .i64 (bJ .i64 ((↑a.List.length:Int)+(↑a.Pairs.length:Int))+(↑a.Slots.length:Int))+ (↑a.dH.length:Int))+ (↑b.List.length:Int))+ (↑b.Pairs.length:Int))+ (↑b.Slots.length:Int))+ (↑b.dH.length:Int))== 0)))))))))) (.ret false)) (.ret false)) (.ret false)
def Fe (a:af)(b:af):=(WH a b).val
theorem arL (a:af)(b:af):Is (WH a b):=
 bK (fun _=>bK (fun _=>aS (fun _=>jH fun _=>jH fun _=>jH fun _=>jH fun _=>jH fun _=>jH fun _=>jH fun _=>jH fun _=>aZ) iR) iR) iR
def awX:bT Z:=E0 [] [] (ax (aQ aH) (a1 (aQ aH))) (R1 aW) [] func205 1 (u2 WH) fun a=>arL a.1 a.2
def sIs (k:Int):Pg Bool:=.br (decide (1<=k)) (.ret (decide (k<=9))) (.ret false)
def j_ (k:Int):=(sIs k).val
def afS:bT Z:=E0 [] [] (a1 (df cI)) (R1 aW) [] func365 1 sIs
def av9 (k:Int):Pg Bool:=.br (k==7) (.ret true) (.ret (k==8))
def EG (k:Int):=(av9 k).val
def ah2:bT Z:=E0 [] [] (a1 (df cI)) (R1 aW) [] func441 1 av9
def awI (v:af):Pg Bool:=aL v.List (aL v.Pairs (aL v.Slots (aL v.dH (.lt (bJ .i64 (bJ .i64 (bJ .i64 ((↑v.List.length:Int)+(↑v.Pairs.length:Int))+(↑v.Slots.length:Int))+(↑v.dH.length:Int))) fun a=> .br (decide (0 < a)) (.ret false) (.br (EG v.Kind) (.ret (v.Bits==0)) (.ret (v.Text==[])))))))
def adZ (v:af):=(awI v).val
def am2:bT Z:=E0 [ah2] [] (a1 (aQ aH)) (R1 aW) [] func366 1 awI
def aeY (k:Int)(b:Int):Pg Bool:=.br (k==1) (.ret (decide (b<=1))) (.br (k==2) (.lt (bJ .i64 b) fun a=> .br (decide ((-2147483648)<=a)) (.ret (decide (a<=2147483647))) (.ret false)) (.br (k==9) (.ret (decide (b<=2147483647))) (.br (k==4) (.ret (decide (b<=4294967295))) (.ret true))))
def aio (k:Int)(b:Int):=(aeY k b).val
def aqW:bT Z:=E0 [] [] (ax (df cI) (a1 (df (gW .u64)))) (R1 aW) [] func447 1 (u2 aeY)
def aub (k:Int)(v:af):Pg Bool:=.br (!j_ k) (.ret false) (.br (v.Kind !=k) (.ret false) (.br (!adZ v.re) (.ret false) (.br (!aio k v.Bits) (.ret false) (.br (decide (4096 < (↑(List.length v.Text):Int))) (.ret false) (.br (k !=7) (.ret true) (.ob (List.length v.Text<=9223372036854775700) (.ret (Ib v.Text))))))))
def KO (k:Int)(v:af):=(aub k v).val
def ad3:bT Z:=E0 [L6,afS,am2,aqW] [] (ax (df cI) (a1 (aQ aH))) (R1 aW) [] func338 1 (u2 aub)
def ala (b:Int):Pg Int:=.br (uF .u64 b (9218868437227405312:Int)==9218868437227405312) (.br (uF .u64 b (4503599627370495:Int) !=0) (.ret 0) (.br (uF .u64 b (9218868437227405312:Int)==9218868437227405312) (.ret 1) (.br (uF .u64 b (9218868437227405312:Int)==0) (.br (uF .u64 b (4503599627370495:Int)==0) (.ret 2) (.br (uF .u64 b (9218868437227405312:Int)==0) (.ret 3) (.ret 4))) (.br (uF .u64 b (9218868437227405312:Int)==0) (.ret 3) (.ret 4))))) (.br (uF .u64 b (9218868437227405312:Int)==9218868437227405312) (.ret 1) (.br (uF .u64 b (9218868437227405312:Int)==0) (.br (uF .u64 b (4503599627370495:Int)==0) (.ret 2) (.br (uF .u64 b (9218868437227405312:Int)==0) (.ret 3) (.ret 4))) (.br (uF .u64 b (9218868437227405312:Int)==0) (.ret 3) (.ret 4))))
def Ig (b:Int):=(ala b).val
def ag0:bT Z:=E0 [] [] (a1 (df (gW .u64))) (R1 cI) [] func364 1 ala
def ah8 (v:af):Pg af:=.br (v.Kind==6) (.br (Ig v.Bits==0) (.ret (af.mk v.Kind 9221120237041090560 v.Text v.List v.Pairs v.Slots v.dH)) (.ret v.re)) (.ret v.re)
def kQ (v:af):=(ah8 v).val
def Uj:bT Z:=E0 [ag0] [] (a1 (aQ aH)) (shr [.slot 0 true (nn 7)] (l1 aH)) [] func277 1 ah8
def as6:Pg (List (Str×h_)):=.ret (qC (qC (qC (qC (qC (qC (qC (qC (qC (qC (qC (qC (qC [] [100,101,112,114,101,99,97,116,101,100] (h_.mk 1 126)) [100,111,99] (h_.mk 7 126)) [97,108,105,97,115] (h_.mk 7 84)) [115,105,110,99,101] (h_.mk 4 84)) [117,110,116,105,108] (h_.mk 4 84)) [109,105,110] (h_.mk 3 4)) [109,97,120] (h_.mk 3 4)) [108,101,110,103,116,104] (h_.mk 4 4)) [115,101,99,114,101,116] (h_.mk 1 4)) [105,100,101,109,112,111,116,101,110,116] (h_.mk 1 64)) [116,105,109,101,111,117,116] (h_.mk 4 64)) [114,111,117,116,101] (h_.mk 7 64)) [111,119,110,101,114] (h_.mk 7 34))
def nC:List (Str×h_):=(as6).val
def ahy:bT Z:=E0 [] [] a0 (R1 Ah) [] func448 1 fun a=>as6
def axp (a:Str):Pg Int:=.ret (mD kH.z nC a).kind
def PI (a:Str):=(axp a).val
def azd:bT Z:=E0 [ahy] [] (a1 (df cStr)) (R1 cI) [] func506 1 axp
def akk (n:Note):Pg Bool:=.lt (PI n.Name) fun a=> .br (a !=0) (.ret (KO a n.Val.re)) (.ret false)
def aeH (n:Note):=(akk n).val
def ato:bT Z:=E0 [ad3,azd] [] (a1 (aQ EY)) (R1 aW) [] func449 1 akk
def aE0 (n:Note)(a:Int)(b:Str)(c:Bool):Pg Int:=.br (!(TD kH D.kG nC).has (Pv.str n.Name)) (.ret 8) (.cut (fun(d:Bool)=> .br d (.ret 1) (.br (!aeH (Note.mk n.Name n.Val.re)) (.ret 12) (.br c (.br (Op.bytesLess n.Name b) (.ret 11) (.br c (.br (n.Name==b) (.ret 9) (.ret 0)) (.ret 0))) (.br c (.br (n.Name==b) (.ret 9) (.ret 0)) (.ret 0))))) (.br (decide (a < 1)) (rl true) (.br (decide (6 < a)) (rl true) (.ob (0<=a) (rl (uF .i64 (BD .i64 (mD kH.z nC n.Name).targets a) (1:Int)==0))))))
def as4 (n:Note)(a:Int)(b:Str)(c:Bool):=(aE0 n a b c).val
def aEE:bT Z:=E0 [ahy,ato] [jS 100005 (dh (fun b=>[s0 21]) (l1 aW))] (ax (aQ EY) (ax (df cI) (ax (df cStr) (a1 (df aW))))) (R1 cI) [] func340 1 (u4 aE0)
def amE (l:List Note)(a:Int):Pg Int:=.br (decide (8 < (↑l.length:Int))) (.ret 3) (aL l (.each false rP l qI (fun b c (e:List UInt8)=> .ix b l.length (.lt (as4 (Note.mk c.Name c.Val.re) a e (decide (0 < b))) fun d=> .br (d !=0) (.ret (.inr d)) (rl c.Name))) (fun b (e:List UInt8)=> .ret 0) []))
def aeM (l:List Note)(a:Int):=(amE l a).val
def aun:bT Z:=E0 [aEE] [jS 5 (dh (fun b=>[s0 14, s0 5]) (aC cI (l1 cStr)))] (ax (df jE) (a1 (df cI))) (R1 cI) [] func249 1 (u2 amE)
theorem take_snoc {A:Type}{l:List A}{i:Nat}{d:A}(a:i < l.length):l.take (i+1)=l.take i++[l.getD i d]:=by
 rw[Qdg];congr 1;simp[List.getD,a]
theorem ahn {A:Type}{y l:List A}{i:Nat}{d a:A}(h:y.Sublist (l.take i))(b:i < l.length)(e:a=l.getD i d):(y++[a]).Sublist (l.take (i+1)):=by
 rw[take_snoc (d:=d) b,e];exact h.append (List.Sublist.refl _)
theorem ai9 {A:Type}{y l:List A}{i:Nat}(h:y.Sublist (l.take i)):y.Sublist (l.take (i+1)):=h.trans (Qdh au)
theorem ax3 {p:Slot->Bool}{y l:List Slot}{i:Nat}(h:y.Sublist ((l.take i).filter p))(a:i < l.length)(b:p (l.getD i iV)=true):(y++[Slot.mk (l.getD i iV).Num (l.getD i iV).Val.re]).Sublist ((l.take (i+1)).filter p):=by
 rw[af.dn,Slot.eta,take_snoc (d:=iV) a,Qcq,Qcg b,List.filter_nil];exact h.append (List.Sublist.refl _)
theorem asZ {p:Slot->Bool}{y l:List Slot}{i:Nat}(h:y.Sublist ((l.take i).filter p)):y.Sublist ((l.take (i+1)).filter p):=h.trans ((Qdh au).filter p)
theorem aAu {p:Slot->Bool}{y l:List Slot}{i:Nat}(h:y.Sublist ((l.take i).filter p)):y.length<=l.length:=KF h.length_le (KF (List.length_filter_le _ _) qcb)
def Un (p:aJ)(o:Op)(f:Raw):Pg (af×Int):=.br (!j_ o.Kind) (.ret (af.mk 0 0 [] [] [] [] [],12)) (.br (f.eF !=rG o) (.ret (af.mk 0 0 [] [] [] [] [],13)) (.br (f.eF==3) (.br (o.Kind==7) (.ob (List.length f.Data<=9223372036854775700) (.br (!Ib f.Data) (.ret (af.mk 0 0 [] [] [] [] [],7)) (.ret (af.mk o.Kind 0 f.Data [] [] [] [],0)))) (.ret (af.mk o.Kind 0 f.Data [] [] [] [],0))) (.cut (fun(a:af)=> .br (!KO o.Kind a.re) (.ret (af.mk 0 0 [] [] [] [] [],6)) (.lt (kQ a.re) fun b=> .br (o.Kind==9) (.br (!BM p o.Target a.Bits) (.ret (af.mk 0 0 [] [] [] [] [],16)) (.ret (b.re,0))) (.ret (b.re,0)))) (.br (f.eF==1) (rl (af.mk o.Kind (bJ .u64 (ao2 f.Bits)) [] [] [] [] [])) (rl (af.mk o.Kind f.Bits [] [] [] [] []))))))
def rZ (p:aJ)(o:Op)(f:Raw):=(Un p o f).val
def aaL:bT Z:=E1 [L6,NL,Uj,ad3,afS,aEQ,aDS] [jS 100012 (dh (fun b=>[.cells (pid (b 8)) (nn 7)]) (l1 aH))] (ax (aQ dU) (ax (aQ jD) (a1 (aQ qM)))) (shr [.slot 0 true (nn 7), s0 1] (aC aH (l1 cI))) [] func356 2 (u3 Un) fun a=>a.2.2.Data.length<=1048576
def awu (g:bC)(v:af)(o:Op)(x:af):Pg af:=aL v.Slots (.each false rP v.Slots iV (fun e c (b:af)=> .ix e v.Slots.length (.br (c.Num==o.Num) (rl b.re) (.lt (b.Slots++[Slot.mk c.Num c.Val.re]) fun(d:List Slot)=> .lt (qK g c.Num) fun f=> .br f.2 (.br (decide (0<=o.Union)) (.br (f.1.Union==o.Union) (rl b.re) (.ob (dE (b.Slots.length+1) 136) (rl (af.mk b.Kind b.Bits b.Text b.List b.Pairs d b.dH)))) (.ob (dE (b.Slots.length+1) 136) (rl (af.mk b.Kind b.Bits b.Text b.List b.Pairs d b.dH)))) (.ob (dE (b.Slots.length+1) 136) (rl (af.mk b.Kind b.Bits b.Text b.List b.Pairs d b.dH)))))) (fun e (b:af)=> .ob (dE (b.Slots.length+1) 136) (.ret (af.mk b.Kind b.Bits b.Text b.List b.Pairs (b.Slots++[Slot.mk o.Num x.re]) b.dH))) (af.mk (Int.ofNat (nat_lit 10)) (Int.ofNat (nat_lit 0)) [] [] [] [] (match v with | af.mk h l i k m j a=>a)))
def ut (g:bC)(v:af)(o:Op)(x:af):=(awu g v o x).val
theorem aip (g:bC)(v:af)(o:Op)(x:af)(h:v.Slots.length<=1048576):kw (awu g v o x) (fun r=>∃l,l.Sublist (v.Slots.filter fun s=> !(s.Num==o.Num))/\r=af.mk 10 0 [] [] [] (l++[Slot.mk o.Num x]) v.dH):=
 fD <| dA (fun(a:Nat) y2=>y2.Slots.Sublist ((v.Slots.take a).filter fun s=> !(s.Num==o.Num))/\y2=af.mk 10 0 [] [] [] y2.Slots v.dH) (by exact⟨List.nil_sublist _,rfl⟩) au (fun a y2 d b=>have hI:y2.Slots.Sublist ((v.Slots.take a).filter fun s=> !(s.Num==o.Num))/\y2=af.mk 10 0 [] [] [] y2.Slots v.dH:=b;aX au au (dR (fun _=>ai qam) (fun _=>aI fun v4 hv4=>aI fun f c=>dL (fun _=>bQ (fun _=>dR (fun _=>ai qam) (fun _=>aj (qbm) (ai qam))) (fun _=>aj (qbm) (ai qam))) (fun _=>aj (qbm) (ai qam))))) (fun y2 hI=>have hI:y2.Slots.Sublist ((v.Slots.take v.Slots.length).filter fun s=> !(s.Num==o.Num))/\y2=af.mk 10 0 [] [] [] y2.Slots v.dH:=hI;aj (qbm) (ai qam))
def ad1:bT Z:=E1 [aCD] [jS 3 (dh (fun b=>[s0 20, .cells (pid (b 9)) [none,none,none,none,none,some 291,none]]) (aC cI (l1 aH))),jS 800001 (dh (fun b=>[.cells (pid (b 9)) [none,none,none,none,none,some 291,none]]) (l1 aH))] (ax (aQ jV) (ax (aQ aH) (ax (aQ jD) (a1 (aQ aH))))) (shr [.slot 0 true (nn 7)] (l1 aH)) [] func350 1 (u4 awu) (fun a=>a.2.1.Slots.length<=1048576) fun a h=>(aip a.1 a.2.1 a.2.2.1 a.2.2.2 h).1
def aeZ (v:af)(f:Raw):Pg af:=aL v.dH (.ob (0<=(↑v.dH.length:Int)/\(↑v.dH.length:Int)=(↑v.dH.length:Int)/\(↑v.dH.length:Int)<=(↑v.dH.length:Int)) (.ob (0 < 1/\dE ((List.take v.dH.length v.dH).length+1) 40) (.ret (af.mk v.Kind v.Bits v.Text v.List v.Pairs v.Slots (List.take v.dH.length v.dH++[f])))))
def qX (v:af)(f:Raw):=(aeZ v f).val
theorem aso (v:af)(f:Raw)(h:v.dH.length<=1048576):Is (aeZ v f):=
 jH fun _=>bM au (bM ((⟨by decide,dw xI xI⟩)) (aZ))
def aiZ:bT Z:=E1 [] [] (ax (aQ aH) (a1 (aQ qM))) (shr [.slot 0 true (nn 7)] (l1 aH)) [] func193 1 (u2 aeZ) (fun a=>a.1.dH.length<=1048576) fun a h=>aso a.1 a.2 h
def UF (l:af)(x:af):Pg af:=aL l.List (.ob (0<=(↑l.List.length:Int)/\(↑l.List.length:Int)=(↑l.List.length:Int)/\(↑l.List.length:Int)<=(↑l.List.length:Int)) (.ob (0 < 1/\dE ((List.take l.List.length l.List).length+1) 128) (.ret (af.mk 11 0 [] (List.take l.List.length l.List++[x.re]) [] [] []))))
def pJ (l:af)(x:af):=(UF l x).val
theorem ajv (l:af)(x:af)(h:l.List.length<=1048576):Is (UF l x):=
 jH fun _=>bM au (bM ((⟨by decide,dw xI xI⟩)) (aZ))
def abT:bT Z:=E1 [] [] (ax (aQ aH) (a1 (aQ aH))) (shr [.slot 0 true (nn 7)] (l1 aH)) [] func354 1 (u2 UF) (fun a=>a.1.List.length<=1048576) fun a h=>ajv a.1 a.2 h
def akp (n:Int)(r:ae):Pg (Int×ae):=.lt (oZ r.c n) fun a=> .ret (a.2,ae.mk r.p a.1)
def nO (n:Int)(r:ae):=(akp n r).val
def Gt:bT Z:=UH [afY] [] (ax (lm 0) (a1 (df cI))) (b1 (cZ a_)) (shr [s0 0, .cells 0 (nn 8)] (aC cI (l1 a_))) [] func114 1 fun a=>akp a.1.2 a.2
def UR (r:ae):Pg (Int×Int×ae):=.ob (ig r.c) (.lt (bi r.c) fun a=> .br (a.2.2 !=0) (.ret (0,a.2.2,r)) (.lt (bJ .u64 (oK a.2.1)) fun b=> .br (decide (b < a.1)) (.ret (0,4,r)) (.ret (bJ .i64 a.1,0,ae.mk r.p a.2.1))))
def jb (r:ae):=(UR r).val
def I8:bT Z:=E1B [Au,CW] [] (a1 (lm 0)) (b1 (cZ a_)) (shr [s0 0, s0 1, .cells 0 (nn 8)] (aC cI (aC cI (l1 a_)))) [] func346 2 (fun a=>UR a.2) fun a=>ig a.2.c
theorem mr {r:ae}(h:ig r.c)(a:(jb r).2.1=0):AA 1 r.c (jb r).2.2.c/\(jb r).2.2.c.Nodes=r.c.Nodes/\(jb r).2.2.p=r.p/\0<=(jb r).1/\(jb r).1<=(jb r).2.2.c.End - (jb r).2.2.c.At:=by
 obtain⟨f,k⟩:=jv h;unfold jb UR at a⊢;simp only[bG,bF,aN,ay]at a⊢;cases e:(bi r.c).2.2 !=0 with
 | true=>
  rw[e]at a;have a:(bi r.c).2.2=0:=a;rw[a]at e;cases e
 | false=>
  obtain⟨c,i⟩:=k (bW.1 e);have b:=c.1;have kl:=nJ b;rw[e]at a;simp only[jm]at a⊢;obtain⟨⟨l,m,o,n⟩,j⟩:=b;obtain⟨g,u2⟩:=f;rw[kl,bY (k:= .u64) p_]at a⊢;by_cases d:(bi r.c).2.1.End - (bi r.c).2.1.At < (bi r.c).1
  ·rw[jK d]at a;cases a
  rw[jF d];rw[bY (k:= .i64) p_];exact⟨c,i,rfl,g,by show(bi r.c).1<=(bi r.c).2.1.End - (bi r.c).2.1.At;omega⟩
def yG (a:Int)(r:ae):Pg (Raw×Int×ae):=.br (a==3) (.ob (ig r.c) (.lt (jb r) fun b=> .br (b.2.1 !=0) (.ret (Raw.mk 0 a 0 [],b.2)) (.ob (ig b.2.2.c) (.lt (xJ b.2.2.c b.1) fun c=> .ret (Raw.mk 0 a 0 c.1,c.2.2,ae.mk b.2.2.p c.2.1))))) (.br (a==2) (.ob (ig r.c) (.lt (wK r.c) fun e=> .ret (Raw.mk 0 a e.1 [],e.2.2,ae.mk r.p e.2.1))) (.ob (ig r.c) (.lt (bi r.c) fun d=> .ret (Raw.mk 0 a d.1 [],d.2.2,ae.mk r.p d.2.1))))
def gq (a:Int)(r:ae):=(yG a r).val
theorem acL (b:Int)(r:ae)(h:ig r.c):Is (yG b r):=
 bK (fun _=>bM (h) (dm fun f a=>gQ iR (fun _=>bM (by have k:=(mr h (by rw[<-a];omega)).1.1;rw[<-a]at k;exact k) (dm fun g c=>aZ)))) (fun _=>bK (fun _=>bM (h) (dm fun j d=>aZ)) (fun _=>bM (h) (dm fun i e=>aZ)))
def SC:bT Z:=E1B [CW,I8,aid,ay7] [] (ax (lm 0) (a1 (df cI))) (b1 (cZ a_)) (shr [.slot 0 true (nn 4), s0 1, .cells 0 (nn 8)] (aC qM (aC cI (l1 a_)))) [] func355 2 (fun a=>yG a.1.2 a.2) (fun a=>ig a.2.c) fun a h=>acL a.1.2 a.2 h
def aye (n:Int)(r:ae):Pg (ah×ae):=.ret (r.c,ae.mk r.p (ah.mk r.c.Data r.c.At (bJ .i64 (r.c.At+n)) r.c.Depth r.c.Nodes r.c.Text))
def XU (n:Int)(r:ae):=(aye n r).val
def anO:bT Z:=UH [] [] (ax (lm 0) (a1 (df cI))) (b1 (cZ a_)) (shr [.slot 0 true (nn 6), .cells 0 (nn 8)] (aC aP (l1 a_))) [] func347 1 fun a=>aye a.1.2 a.2
def aoS (a:ah)(r:ae):Pg ae:=.ret (ae.mk r.p (ah.mk a.Data r.c.End a.End a.Depth r.c.Nodes a.Text))
def af6 (a:ah)(r:ae):=(aoS a r).val
def abP:bT Z:=UH [] [] (ax (lm 0) (a1 (aQ aP))) (b1 (cZ a_)) (shr [.cells 0 (nn 8)] (l1 a_)) [] func349 0 fun a=>aoS a.1.2 a.2
def clS (l:List Slot):Pg (List Slot):=.unk false (fun(b:Bool)=>b=true->l.length=0) (.ret []) (.ob (dE (0+l.length) 136) (.ret l))
theorem aEq (l:List Slot)(h:l.length<=1048576):Is (clS l):=
 FZ (dw au au)
def aHA:bT Z:=E2 [] [] (a1 (df fZ)) (shr [.slot 0 false [some 291]] (l1 fZ)) [] func270 1 clS (fun a=>some (a.length<=1048576)) (fun a=>a) fun a h=>⟨aEq a h,rfl⟩
def clP (l:List Pair):Pg (List Pair):=.unk false (fun(b:Bool)=>b=true->l.length=0) (.ret []) (.ob (dE (0+l.length) 256) (.ret l))
theorem aEA (l:List Pair)(h:l.length<=1048576):Is (clP l):=
 FZ (dw au au)
def aGT:bT Z:=E2 [] [] (a1 (df fB)) (shr [.slot 0 false [some 300]] (l1 fB)) [] func361 1 clP (fun a=>some (a.length<=1048576)) (fun a=>a) fun a h=>⟨aEA a h,rfl⟩
def clR (l:List Raw):Pg (List Raw):=.unk false (fun(b:Bool)=>b=true->l.length=0) (.ret []) (.ob (dE (0+l.length) 40) (.ret l))
theorem aFZ (l:List Raw)(h:l.length<=1048576):Is (clR l):=
 FZ (dw au au)
def aH6:bT Z:=E2 [] [] (a1 (df iH)) (shr [.slot 0 false [some 284]] (l1 iH)) [] func194 1 clR (fun a=>some (a.length<=1048576)) (fun a=>a) fun a h=>⟨aFZ a h,rfl⟩
def osC (a:Slot)(b:Slot):Pg Int:=.ret (Jr a.Num b.Num)
def Jg (a:Slot)(b:Slot):=(osC a b).val
def Xa:bT Z:=E1 [ad6] [] (ax (aQ MB) (a1 (aQ MB))) (R1 cI) [] func272 1 (u2 osC) fun a=>True
theorem Gf:zT (ltOf Jg):=ane (fun a=>a.Num) fun a b=>Ef a.Num b.Num
def KD (a:Slot):Slot:=Slot.mk a.Num a.Val.re
theorem wu (a:Slot):KD a=a:=by
 unfold KD;rw[af.dn,Slot.eta]
def aH1 (a:Int)(b:Int)(n:Int)(l:List Slot):Pg (List Slot):=aiP KD iV a b n l
theorem aBw (a:Int)(b:Int)(n:Int)(l:List Slot)(h:swQ a b n l.length):Is (aH1 a b n l):=
 avk wu h
def aDO:bT Z:=E1B [Xa] [jS 1 (dh (fun b=>[s0 10, .row (pid (b 0)) 291]) (aC cI (l1 fZ)))] (ax (zD 0) (ax (df cI) (ax (df cI) (ax (df cI) (a1 (zO 272 [])))))) (b1 (xu 291 D.Slot pM)) (shr [.row 0 291] (l1 fZ)) [] func541 0 (fun a=>aH1 a.1.2.1 a.1.2.2.1 a.1.2.2.2.1 a.2) (fun a=>swQ a.1.2.1 a.1.2.2.1 a.1.2.2.2.1 a.2.length) fun a h=>aBw a.1.2.1 a.1.2.2.1 a.1.2.2.2.1 a.2 h
def aG1 (a:Int)(m:Int)(b:Int)(l:List Slot):Pg (List Slot):=ai2 KD iV a m b l
theorem azM (a:Int)(m:Int)(b:Int)(l:List Slot)(h:roQ a m b l.length):Is (aG1 a m b l):=
 atm wu h
def aDX:bT Z:=E1B [Xa,aDO] [jS 2 (dh (fun b=>[s0 10, s0 11, .row (pid (b 0)) 291]) (aC cI (aC cI (l1 fZ))))] (ax (zD 0) (ax (df cI) (ax (df cI) (ax (df cI) (a1 (zO 272 [])))))) (b1 (xu 291 D.Slot pM)) (shr [.row 0 291] (l1 fZ)) [] func508 0 (fun a=>aG1 a.1.2.1 a.1.2.2.1 a.1.2.2.2.1 a.2) (fun a=>roQ a.1.2.1 a.1.2.2.1 a.1.2.2.2.1 a.2.length) fun a h=>azM a.1.2.1 a.1.2.2.1 a.1.2.2.2.1 a.2 h
def aDF (a:Int)(b:Int)(l:List Slot):Pg (List Slot):=agP KD Jg (fun _ _=>True) iV a b l
def aHQ (a:Int)(b:Int)(l:List Slot):=(aDF a b l).val
theorem aBt (a:Int)(b:Int)(l:List Slot)(h:inQ (fun _ _=>True) a b l):Is (aDF a b l):=
 axq wu Gf h
def aD5:bT Z:=yQ Z [Xa] [jS 1 (dh (fun b=>[s0 8, .row (pid (b 0)) 291]) (aC cI (l1 fZ))),jS 4 (dh (fun b=>[s0 9, .row (pid (b 0)) 291]) (aC cI (l1 fZ)))] (lH (ax (zD 0) (ax (df cI) (ax (df cI) (a1 (zO 272 []))))) (b1 (xu 291 D.Slot pM))) (tJ (n:=53) rfl) (shr [.row 0 291] (l1 fZ)) [] func455 ntmps455 fO 0 rfl (fun a=>aDF (a.1.2.1) (a.1.2.2.1) (a.2)) (fun a=>some (inQ (fun _ _=>True) (a.1.2.1) (a.1.2.2.1) (a.2))) (fun a e _=>by kernel_rfl) (fun a=>aHQ (a.1.2.1) (a.1.2.2.1) (a.2)) (fun a h=>⟨aBt (a.1.2.1) (a.1.2.2.1) (a.2) h,rfl⟩)
def aHl (c:Int->Int->Int->List Slot->List Slot)(Ry:Int->Int->Int->List Slot->Prop)(a:Int)(m:Int)(b:Int)(l:List Slot):Pg (List Slot):=anR KD Jg (fun _ _=>True) iV c Ry a m b l
def Ry (c:Nat)(a:Int)(m:Int)(b:Int)(l:List Slot):Prop:=Z4 Jg (fun _ _=>True) c a m b l
def arK:Nat->(Int->Int->Int->(List Slot)->(List Slot))
 | 0=>(fun _ _ _ _=>default)
 | c+1=>(fun a m b l=>(aHl ((arK c)) (Ry c) a m b l).val)
def aol (a:Int)(m:Int)(b:Int)(l:List Slot):List Slot:=(arK ((b - a).toNat+1)) a m b l
theorem N9:∀(c:Nat) (a m b:Int) (l:List Slot),Ry c a m b l->mrg Jg a b l (arK c a m b l)
 | 0,_,_,_,_,h=>abW h
 | c+1,_,_,_,_,h=>(Uu wu (JL:=arK c) (PE:=Ry c) (d:=iV) Gf (fun _ _ _ _ h=>h) (N9 c) h).2
abbrev atr (a:Nat):=aHl ((arK a)) (Ry a)
theorem aAQ (c:Nat)(a:Int)(m:Int)(b:Int)(l:List Slot)(h:Ry (c+1) a m b l):Is (atr c a m b l):=
 (Uu wu Gf (fun _ _ _ _ h=>h) (N9 c) h).1
theorem atY:∀c,fK Z.P Z.S 456 (xK (lH (ax (zD 0) (ax (df cI) (ax (df cI) (ax (df cI) (a1 (zO 272 [])))))) (b1 (xu 291 D.Slot pM))) (shr [.row 0 291] (l1 fZ)) 0 [] (fun a=>some (Ry c (a.1.2.1) (a.1.2.2.1) (a.1.2.2.2.1) (a.2))) (fun a=>(arK c) (a.1.2.1) (a.1.2.2.1) (a.1.2.2.2.1) (a.2)))
 | 0=>jU func456 fO (fun a h=>abW h)
 | c+1=>by
  have d:=atY c;exact Um [Xa,aDX,⟨456,_,d⟩] [jS 3 (dh (fun b=>[s0 10, s0 11]) (aC cI (l1 cI))),jS 9 (dh (fun b=>[s0 13, .row (pid (b 0)) 291]) (aC cI (l1 fZ))),jS 15 (dh (fun b=>[s0 14, s0 15]) (aC cI (l1 cI))),jS 21 (dh (fun b=>[s0 17, .row (pid (b 0)) 291]) (aC cI (l1 fZ))),jS 33 (dh (fun b=>[s0 20, s0 21]) (aC cI (l1 cI))),jS 100008 (dh (fun b=>[s0 10]) (l1 cI)),jS 100012 (dh (fun b=>[.row (pid (b 0)) 291]) (l1 fZ)),jS 100020 (dh (fun b=>[s0 14]) (l1 cI)),jS 100024 (dh (fun b=>[.row (pid (b 0)) 291]) (l1 fZ)),jS 100032 (dh (fun b=>[s0 20, s0 21]) (aC cI (l1 cI))),jS 100038 (dh (fun b=>[s0 20]) (l1 cI)),jS 100041 (dh (fun b=>[.row (pid (b 0)) 291]) (l1 fZ)),jS 100043 (dh (fun b=>[.row (pid (b 0)) 291]) (l1 fZ))] func456 ntmps456 (fun a=>atr c a.1.2.1 a.1.2.2.1 a.1.2.2.2.1 a.2) (fun a h=>⟨aAQ c a.1.2.1 a.1.2.2.1 a.1.2.2.2.1 a.2 h,rfl⟩) (tJ (n:=220) rfl)
def aDD:bT Z:=⟨456,xK (lH (ax (zD 0) (ax (df cI) (ax (df cI) (ax (df cI) (a1 (zO 272 [])))))) (b1 (xu 291 D.Slot pM))) (shr [.row 0 291] (l1 fZ)) 0 [] (fun a=>some (Z4 Jg (fun _ _=>True) (((a.1.2.2.2.1) - (a.1.2.1)).toNat+1) (a.1.2.1) (a.1.2.2.1) (a.1.2.2.2.1) (a.2))) (fun a=>aol (a.1.2.1) (a.1.2.2.1) (a.1.2.2.2.1) (a.2)),uM (fun n=>((atY n))) _ _ (fun a h=>⟨((a.1.2.2.2.1) - (a.1.2.1)).toNat+1,h,rfl⟩)⟩
def aED (n:Int)(l:List Slot):Pg (List Slot):=ao3 KD Jg (fun _ _=>True) iV aol n l
def aG5 (n:Int)(l:List Slot):=(aED n l).val
theorem aBX (n:Int)(l:List Slot)(h:stQ (fun _ _=>True) n l):Is (aED n l):=
 (Uo wu (JL:=aol) Gf (fun a m b l h=>N9 _ a m b l h) h).1
def aFf:bT Z:=E1B [Xa,aD5,aDD] [jS 2 (dh (fun b=>[s0 7, s0 8, .row (pid (b 0)) 291]) (aC cI (aC cI (l1 fZ)))),jS 7 (dh (fun b=>[s0 6, .row (pid (b 0)) 291]) (aC cI (l1 fZ))),jS 9 (dh (fun b=>[s0 7, s0 8, .row (pid (b 0)) 291]) (aC cI (aC cI (l1 fZ)))),jS 100006 (dh (fun b=>[s0 7, .row (pid (b 0)) 291]) (aC cI (l1 fZ))),jS 100013 (dh (fun b=>[s0 7, .row (pid (b 0)) 291]) (aC cI (l1 fZ)))] (ax (zD 0) (ax (df cI) (a1 (zO 272 [])))) (b1 (xu 291 D.Slot pM)) (shr [.row 0 291] (l1 fZ)) [] func359 0 (fun a=>aED a.1.2.1 a.2) (fun a=>stQ (fun _ _=>True) a.1.2.1 a.2) fun a h=>aBX a.1.2.1 a.2 h
def aDQ (l:List Slot):Pg (List Slot):=.ob (stQ (fun(x b:Slot)=>True) (↑l.length:Int) l) (.lt (aG5 (↑l.length:Int) l) fun a=> aL a (.ret a))
def Mc (l:List Slot):=(aDQ l).val
theorem azO (l:List Slot)(h:yP (fun _ _=>True) l):Is (aDQ l):=
 bM ((⟨h,rfl⟩)) (dm fun b a=>jH fun _=>aZ)
def aEC:bT Z:=E1B [Xa,aFf] [] (ax (zD 0) (a1 (zO 272 []))) (b1 (xu 291 D.Slot pM)) (shr [.row 0 291] (l1 fZ)) [] func271 0 (fun a=>aDQ a.2) (fun a=>yP (fun _ _=>True) a.2) fun a h=>azO a.2 h
theorem QZ (l:List Slot)(h:yP (fun _ _=>True) l):Sorted Jg l (Mc l):=
 (Uo wu (q:=(fun _ _=>True)) (d:=iV) (JL:=aol) Gf (fun a m b l h=>N9 _ a m b l h) ⟨h,rfl⟩).2
theorem apE {l:List Slot}(h:yP (fun _ _=>True) l):(Mc l).Perm l:=(X7 Gf (QZ l h).2.1).symm
theorem MV {l:List Slot}(h:l.length<=1048576):(Mc l).Perm l:=apE ⟨by omega,fun _ _ _ _=>trivial⟩
theorem MW {l v:List Slot}(h:l.length<=1048576)(e:v=Mc l):v.length=l.length:=by
 rw[e];exact(MV h).length_eq
noncomputable def QF (l:List Slot):Pg (List Slot):=.ob (l.length<=1048576) (.ob (yP (fun(x g:Slot)=>True) l) (.lt (Mc l) fun a=> aL a (.each false rP a iV (fun d e (b:List Slot)=> .ix d a.length (.ob (d.toNat < a.length) (.lt (b++[Slot.mk e.Num e.Val.re]) fun(f:List Slot)=> .lt (bJ .i64 (d+1)) fun c=> .br (c==(↑a.length:Int)) (aL a (.ob (dE (b.length+1) 136) (rl f))) (.ix c a.length (.ob (c.toNat < a.length) (aL a (.br (e.Num !=(a.getD c.toNat iV).Num) (.ob (dE (b.length+1) 136) (rl f)) (rl b)))))))) (fun d (b:List Slot)=> .ret b) [])))
noncomputable def qU (l:List Slot):List Slot:=(QF l).val
theorem En (l:List Slot)(h:l.length<=1048576):kw (QF l) (fun r=>r.Sublist (Mc l)):=
 aj (h) (aj ((⟨by omega,fun _ _ _ _=>trivial⟩)) (aI fun a hv4=>fD <| dA (fun(c:Nat) b=>b.Sublist (a.take c)/\a.length=l.length) (by exact⟨List.nil_sublist _,MW h hv4⟩) (by(have:=MW h hv4;omega)) (fun c b g d=>have hI:b.Sublist (a.take c)/\a.length=l.length:=d;aX au au (aj (qa3) (aI fun i hv5=>sH fun f e _=>dR (fun _=>fD <| aj (qa3) (ai qa2)) (fun _=>aX au au (aj (qa3) (fD <| dY (fun _=>aj (qa3) (ai qa2)) (fun _=>ai qa2))))))) (fun b hI=>have hI:b.Sublist (a.take a.length)/\a.length=l.length:=hI;ai qa2)))
theorem asr (l:List Slot)(h:l.length<=1048576):Is (QF l):=(En l h).1
noncomputable def avF:bT Z:=E1 [aHA,aEC,Xa] [jS 5 (dh (fun b=>[s0 13, .slot 4 false [some 291]]) (aC cI (l1 fZ)))] (a1 (df fZ)) (R1 fZ) [] func195 1 QF (fun a=>a.length<=1048576) fun a h=>asr a h
def acR (x:Str):Pg Bool:=.ret (x !=x)
def Uh (x:Str):=(acR x).val
def avH:bT Z:=E0 [] [] (a1 (df cStr)) (R1 aW) [] func504 1 acR
def aAG (x:Str)(y:Str):Pg Int:=.lt (Uh y) fun a=> .br (Uh x) (.br a (.ret 0) (.ret (-1))) (.br a (.ret 1) (.br (Op.bytesLess x y) (.ret (-1)) (.br (!(Op.bytesLess x y || x==y)) (.ret 1) (.ret 0))))
def abA (x:Str)(y:Str):=(aAG x y).val
def aFM:bT Z:=E0 [avH] [] (ax (df cStr) (a1 (df cStr))) (R1 cI) [] func442 1 (u2 aAG)
def akM (x:Int):Pg Bool:=.ret (x !=x)
def acU (x:Int):=(akM x).val
def ayA:bT Z:=E0 [] [] (a1 (df (gW .u64))) (R1 aW) [] func505 1 akM
def aDu (x:Int)(y:Int):Pg Int:=.lt (acU y) fun a=> .br (acU x) (.br a (.ret 0) (.ret (-1))) (.br a (.ret 1) (.br (decide (x < y)) (.ret (-1)) (.br (decide (y < x)) (.ret 1) (.ret 0))))
def Tj (x:Int)(y:Int):=(aDu x y).val
def aE3:bT Z:=E0 [ayA] [] (ax (df (gW .u64)) (a1 (df (gW .u64)))) (R1 cI) [] func443 1 (u2 aDu)
def amh (b:Int):Pg Int:=.br (Ig b==0) (.ret 18446744073709551615) (.br (uF .u64 b (9223372036854775808:Int) !=0) (.ret (TE .u64 (if IntKind.u64.signed=true then(-1)else IntKind.u64.max) b)) (.ret (orI .u64 b 9223372036854775808)))
def x9 (b:Int):=(amh b).val
def avq:bT Z:=E0 [ag0] [] (a1 (df (gW .u64))) (R1 (gW .u64)) [] func444 1 amh
def alL (a:af)(b:af):Pg Int:=.br (a.Kind !=b.Kind) (.ret (Jr a.Kind b.Kind)) (.br (!j_ a.Kind) (.ret 0) (.br (EG a.Kind) (.ret (abA a.Text b.Text)) (.lt (Jr (bJ .i64 a.Bits) (bJ .i64 b.Bits)) fun c=> .br (a.Kind==2) (.ret c) (.br (a.Kind==3) (.ret c) (.br (a.Kind==6) (.ret (Tj (x9 a.Bits) (x9 b.Bits))) (.ret (Tj a.Bits b.Bits)))))))
def r_ (a:af)(b:af):=(alL a b).val
def aD_:bT Z:=E0 [ad6,afS,ah2,aFM,aE3,avq] [] (ax (aQ aH) (a1 (aQ aH))) (R1 cI) [] func323 1 (u2 alL)
def aBb:bT Z:=aHh Z [afS] 322 [true] func322 fO
def aAq (a:af)(b:af):Pg Int:=.br (a.Kind !=b.Kind) (.ret (Jr a.Kind b.Kind)) (.ob (j_ b.Kind=true/\True) (.ob (j_ a.Kind=true/\True) (.ret (r_ a.re b.re))))
def Y3 (a:af)(b:af):=(aAq a b).val
theorem azb (a:af)(b:af)(h:j_ a.Kind=true/\j_ b.Kind=true):Is (aAq a b):=
 gQ iR (fun _=>bM ((⟨h.2,trivial⟩)) (bM ((⟨h.1,trivial⟩)) (aZ)))
def as1:bT Z:=E1 [ad6,aBb,aD_] [] (ax (aQ aH) (a1 (aQ aH))) (R1 cI) [] func239 1 (u2 aAq) (fun a=>j_ a.1.Kind=true/\j_ a.2.Kind=true) fun a h=>azb a.1 a.2 h
theorem ax0:∀a b c:Str,Op.bytesLess b a=false->Op.bytesLess c b=false->Op.bytesLess c a=false
 | [],_,[],_,_=>rfl
 | [],_,_::_,_,_=>rfl
 | _::_,[],_,h,_=>absurd h qcj
 | _::_,_::_,[],_,h=>absurd h qcj
 | x::a,y::b,z::c,f,d=>by
  have i:=ax0 a b c;simp only[Op.bytesLess,Qcu,Qdf,decide_eq_false_iff_not,Qbo,Qe]at f d⊢;refine⟨by omega,?_⟩;by_cases e:z=x
  ·subst e;have g:y=z:=Qcn.1 au;subst g;exact .inr (i (f.2.resolve_left fun k=>k rfl) (d.2.resolve_left fun k=>k rfl))
  ·exact .inl e
theorem Ur:∀a b:Str,Op.bytesLess a b=true->Op.bytesLess b a=false
 | _,[],h=>absurd h (by cases ‹Str›<;>simp[Op.bytesLess])
 | [],_::_,_=>rfl
 | x::a,y::b,h=>by
  have c:=Ur a b;simp only[Op.bytesLess,Qbi,jA,Lh,Vt,Qcu,Qdf,decide_eq_false_iff_not,Qbo,Qe]at h⊢;rcases h with h | ⟨e,h⟩
  ·exact⟨by omega, .inl fun k=>by rw[k]at h;omega⟩
  ·subst e;exact⟨by omega, .inr (c h)⟩
theorem aoW {A:Type}{l:A->A->Bool}(k:A->Int)(L:Int->A->A->Bool)(m:∀n,zT (L n))(h:∀a b,l a b=if k a=k b then L (k a) a b else decide (k a < k b)):zT l:=by
 constructor
 ·intro a b g;rw[h]at g⊢;by_cases e:k a=k b
  ·rw[nI e]at g;rw[nI e.symm,<-e];exact(m _).asym g
  ·rw[kT e]at g;rw[kT (fun x=>e x.symm)];have:=EU g;exact jF au
 ·intro a b c j i;rw[h]at j i⊢;by_cases f:k b=k a
  ·rw[nI f]at j;by_cases d:k c=k b
   ·rw[nI d]at i;rw[nI (d.trans f)];rw[f]at j;rw[d,f]at i;rw[d,f];exact(m _).trn j i
   ·rw[kT d]at i;rw[kT (fun x=>d (x.trans f.symm))];rw[<-f];exact i
  ·rw[kT f]at j;have l1:=Qbm j;by_cases d:k c=k b
   ·rw[d,kT f];exact j
   ·rw[kT d]at i;have o:=Qbm i;rw[kT (show ¬k c=k a by omega)];exact jF au
theorem alE {A:Type}{c:A->A->Bool}(k:A->Int)(h:∀a b,c a b=decide (k a < k b)):zT c:=
 aoW k (fun _ _ _=>false) (fun _=>⟨fun _=>rfl,fun _ _=>rfl⟩) fun a b=>by
  rw[h];split<;>first | exact jF au | rfl
theorem aEM {A:Type}{d:A->A->Bool}(k:A->Str)(h:∀a b,d a b=Op.bytesLess (k a) (k b)):zT d:=
 ⟨fun{a b} e=>by rw[h]at e⊢;exact Ur _ _ e,fun{a b c} g f=>by rw[h]at g f⊢;exact ax0 _ _ _ g f⟩
theorem OB (x y:Int):Tj x y=if x < y then -1 else if y < x then 1 else 0:=by
 unfold Tj aDu acU akM;simp only[bF,aN,ay,bne_self_eq_false,Qa7,Lh,RX,if_false]
theorem aoA (x y:Int):decide (Tj x y < 0)=decide (x < y):=by
 rw[OB];by_cases h:x < y
 ·rw[nI h];exact(jK jy).trans (jK h).symm
 ·rw[kT h,jF h];split<;>rfl
theorem azr (x y:Str):decide (abA x y < 0)=Op.bytesLess x y:=by
 unfold abA aAG Uh acR;simp only[bF,aN,ay,bne_self_eq_false,jm];cases Op.bytesLess x y with
 | true=>rfl
 | false=>simp only[jm];cases(!(false || x==y))<;>rfl
def agF (n:Int)(a b:af):Bool:=
 if j_ n=false then false else if EG n=true then Op.bytesLess a.Text b.Text else if n=2\/n=3 then decide (bJ .i64 a.Bits < bJ .i64 b.Bits)else if n=6 then decide (x9 a.Bits < x9 b.Bits)else decide (a.Bits < b.Bits)
theorem awS (n:Int):zT (agF n):=by
 by_cases d:j_ n=false
 ·exact⟨fun{a b} _=>nI d,fun{a b c} _ _=>nI d⟩
 by_cases e:EG n=true
 ·exact aEM (fun a=>a.Text) fun a b=>by unfold agF;rw[kT d,nI e]
 by_cases f:n=2\/n=3
 ·exact alE (fun a=>bJ .i64 a.Bits) fun a b=>by unfold agF;rw[kT d,kT e,nI f]
 by_cases g:n=6
 ·exact alE (fun a=>x9 a.Bits) fun a b=>by unfold agF;rw[kT d,kT e,kT f,nI g]
 ·exact alE (fun a=>a.Bits) fun a b=>by unfold agF;rw[kT d,kT e,kT f,kT g]
theorem aBY (a b:af):ltOf r_ a b=if a.Kind=b.Kind then agF a.Kind a b else decide (a.Kind < b.Kind):=by
 unfold ltOf r_ alL agF;simp only[bF,aN,ay];by_cases e:a.Kind=b.Kind
 ·rw[nI e,show(a.Kind !=b.Kind)=false by rw[e];exact bne_self_eq_false _];cases h:j_ a.Kind with
  | false=>rfl
  | true=>
   rw[kT jy];cases g:EG a.Kind with
   | true=>exact(azr _ _).trans (nI rfl).symm
   | false=>
    rw[kT jy];by_cases f:a.Kind=2
    ·rw[nI (.inl f),show(a.Kind==2)=true by rw[f];rfl];exact Ef _ _
    by_cases c:a.Kind=3
    ·rw[nI (.inr c),show(a.Kind==2)=false by rw[c];rfl,show(a.Kind==3)=true by rw[c];rfl];exact Ef _ _
    rw[kT au,show(a.Kind==2)=false from beq_false_of_ne f,show(a.Kind==3)=false from beq_false_of_ne c];by_cases d:a.Kind=6
    ·rw[nI d,show(a.Kind==6)=true by rw[d];rfl];exact aoA _ _
    ·rw[kT d,show(a.Kind==6)=false from beq_false_of_ne d];exact aoA _ _
 ·rw[kT e,show(a.Kind !=b.Kind)=true from bne_iff_ne.2 e];exact Ef _ _
theorem axb:zT (ltOf r_):=aoW (fun a=>a.Kind) agF awS aBY
theorem afw (a b:af):Y3 a b=r_ a b:=by
 unfold Y3 aAq;simp only[aN,bG,ay,af.dn];by_cases e:a.Kind=b.Kind
 ·rw[show(a.Kind !=b.Kind)=false by rw[e];exact bne_self_eq_false _];rfl
 ·rw[show(a.Kind !=b.Kind)=true from bne_iff_ne.2 e];unfold r_ alL;simp only[aN,ay];rw[show(a.Kind !=b.Kind)=true from bne_iff_ne.2 e];rfl
theorem awd:zT (ltOf Y3):=by
 rw[show Y3=r_ from funext fun a=>funext fun b=>afw a b];exact axb
theorem aqO {A B:Type}{d:A->A->Bool}(h:zT d)(f:B->A):zT (fun a b=>d (f a) (f b)):=⟨fun{a b} e=>h.asym e,fun{a b c} i g=>h.trn i g⟩
def opQ (a b:Pair):Prop:=j_ a.Key.Kind=true/\j_ b.Key.Kind=true
def opC (a:Pair)(b:Pair):Pg Int:=.ob (j_ a.Key.re.Kind=true/\j_ b.Key.re.Kind=true) (.ret (Y3 a.Key.re b.Key.re))
def qh (a:Pair)(b:Pair):=(opC a b).val
def Xf:bT Z:=E1 [as1] [] (ax (aQ yg) (a1 (aQ yg))) (R1 cI) [] func363 1 (u2 opC) fun a=>opQ a.1 a.2
theorem JQ:zT (ltOf qh):=by
 rw[show ltOf qh=fun a b=>ltOf Y3 a.Key b.Key from funext fun a=>funext fun b=>by
  unfold ltOf qh opC;simp only[bG,ay,af.dn]]
 exact aqO awd fun p:Pair=>p.Key
def J9 (a:Pair):Pair:=Pair.mk a.Key.re a.Val.re
theorem vT (a:Pair):J9 a=a:=by
 unfold J9;rw[af.dn,af.dn,Pair.eta]
def aG7 (a:Int)(b:Int)(n:Int)(l:List Pair):Pg (List Pair):=aiP J9 fH a b n l
theorem azG (a:Int)(b:Int)(n:Int)(l:List Pair)(h:swQ a b n l.length):Is (aG7 a b n l):=
 avk vT h
def aFR:bT Z:=E1B [Xf] [jS 1 (dh (fun b=>[s0 10, .row (pid (b 0)) 300]) (aC cI (l1 fB)))] (ax (zD 0) (ax (df cI) (ax (df cI) (ax (df cI) (a1 (zO 363 [])))))) (b1 (xu 300 D.Pair pO)) (shr [.row 0 300] (l1 fB)) [] func549 0 (fun a=>aG7 a.1.2.1 a.1.2.2.1 a.1.2.2.2.1 a.2) (fun a=>swQ a.1.2.1 a.1.2.2.1 a.1.2.2.2.1 a.2.length) fun a h=>azG a.1.2.1 a.1.2.2.1 a.1.2.2.2.1 a.2 h
def aHf (a:Int)(m:Int)(b:Int)(l:List Pair):Pg (List Pair):=ai2 J9 fH a m b l
theorem aza (a:Int)(m:Int)(b:Int)(l:List Pair)(h:roQ a m b l.length):Is (aHf a m b l):=
 atm vT h
def aES:bT Z:=E1B [Xf,aFR] [jS 2 (dh (fun b=>[s0 10, s0 11, .row (pid (b 0)) 300]) (aC cI (aC cI (l1 fB))))] (ax (zD 0) (ax (df cI) (ax (df cI) (ax (df cI) (a1 (zO 363 [])))))) (b1 (xu 300 D.Pair pO)) (shr [.row 0 300] (l1 fB)) [] func542 0 (fun a=>aHf a.1.2.1 a.1.2.2.1 a.1.2.2.2.1 a.2) (fun a=>roQ a.1.2.1 a.1.2.2.1 a.1.2.2.2.1 a.2.length) fun a h=>aza a.1.2.1 a.1.2.2.1 a.1.2.2.2.1 a.2 h
def aD7 (a:Int)(b:Int)(l:List Pair):Pg (List Pair):=agP J9 qh opQ fH a b l
def aHO (a:Int)(b:Int)(l:List Pair):=(aD7 a b l).val
theorem aAz (a:Int)(b:Int)(l:List Pair)(h:inQ opQ a b l):Is (aD7 a b l):=
 axq vT JQ h
def aEp:bT Z:=yQ Z [Xf] [jS 1 (dh (fun b=>[s0 8, .row (pid (b 0)) 300]) (aC cI (l1 fB))),jS 4 (dh (fun b=>[s0 9, .row (pid (b 0)) 300]) (aC cI (l1 fB)))] (lH (ax (zD 0) (ax (df cI) (ax (df cI) (a1 (zO 363 []))))) (b1 (xu 300 D.Pair pO))) (tJ (n:=53) rfl) (shr [.row 0 300] (l1 fB)) [] func509 ntmps509 fO 0 rfl (fun a=>aD7 (a.1.2.1) (a.1.2.2.1) (a.2)) (fun a=>some (inQ opQ (a.1.2.1) (a.1.2.2.1) (a.2))) (fun a e _=>by kernel_rfl) (fun a=>aHO (a.1.2.1) (a.1.2.2.1) (a.2)) (fun a h=>⟨aAz (a.1.2.1) (a.1.2.2.1) (a.2) h,rfl⟩)
def aGV (c:Int->Int->Int->List Pair->List Pair)(Rk:Int->Int->Int->List Pair->Prop)(a:Int)(m:Int)(b:Int)(l:List Pair):Pg (List Pair):=anR J9 qh opQ fH c Rk a m b l
def Rk (c:Nat)(a:Int)(m:Int)(b:Int)(l:List Pair):Prop:=Z4 qh opQ c a m b l
def aqH:Nat->(Int->Int->Int->(List Pair)->(List Pair))
 | 0=>(fun _ _ _ _=>default)
 | c+1=>(fun a m b l=>(aGV ((aqH c)) (Rk c) a m b l).val)
def anE (a:Int)(m:Int)(b:Int)(l:List Pair):List Pair:=(aqH ((b - a).toNat+1)) a m b l
theorem NR:∀(c:Nat) (a m b:Int) (l:List Pair),Rk c a m b l->mrg qh a b l (aqH c a m b l)
 | 0,_,_,_,_,h=>abW h
 | c+1,_,_,_,_,h=>(Uu vT (JL:=aqH c) (PE:=Rk c) (d:=fH) JQ (fun _ _ _ _ h=>h) (NR c) h).2
abbrev atX (a:Nat):=aGV ((aqH a)) (Rk a)
theorem azY (c:Nat)(a:Int)(m:Int)(b:Int)(l:List Pair)(h:Rk (c+1) a m b l):Is (atX c a m b l):=
 (Uu vT JQ (fun _ _ _ _ h=>h) (NR c) h).1
theorem atS:∀c,fK Z.P Z.S 510 (xK (lH (ax (zD 0) (ax (df cI) (ax (df cI) (ax (df cI) (a1 (zO 363 [])))))) (b1 (xu 300 D.Pair pO))) (shr [.row 0 300] (l1 fB)) 0 [] (fun a=>some (Rk c (a.1.2.1) (a.1.2.2.1) (a.1.2.2.2.1) (a.2))) (fun a=>(aqH c) (a.1.2.1) (a.1.2.2.1) (a.1.2.2.2.1) (a.2)))
 | 0=>jU func510 fO (fun a h=>abW h)
 | c+1=>by
  have d:=atS c;exact Um [Xf,aES,⟨510,_,d⟩] [jS 3 (dh (fun b=>[s0 10, s0 11]) (aC cI (l1 cI))),jS 9 (dh (fun b=>[s0 13, .row (pid (b 0)) 300]) (aC cI (l1 fB))),jS 15 (dh (fun b=>[s0 14, s0 15]) (aC cI (l1 cI))),jS 21 (dh (fun b=>[s0 17, .row (pid (b 0)) 300]) (aC cI (l1 fB))),jS 33 (dh (fun b=>[s0 20, s0 21]) (aC cI (l1 cI))),jS 100008 (dh (fun b=>[s0 10]) (l1 cI)),jS 100012 (dh (fun b=>[.row (pid (b 0)) 300]) (l1 fB)),jS 100020 (dh (fun b=>[s0 14]) (l1 cI)),jS 100024 (dh (fun b=>[.row (pid (b 0)) 300]) (l1 fB)),jS 100032 (dh (fun b=>[s0 20, s0 21]) (aC cI (l1 cI))),jS 100038 (dh (fun b=>[s0 20]) (l1 cI)),jS 100041 (dh (fun b=>[.row (pid (b 0)) 300]) (l1 fB)),jS 100043 (dh (fun b=>[.row (pid (b 0)) 300]) (l1 fB))] func510 ntmps510 (fun a=>atX c a.1.2.1 a.1.2.2.1 a.1.2.2.2.1 a.2) (fun a h=>⟨azY c a.1.2.1 a.1.2.2.1 a.1.2.2.2.1 a.2 h,rfl⟩) (tJ (n:=220) rfl)
def aFy:bT Z:=⟨510,xK (lH (ax (zD 0) (ax (df cI) (ax (df cI) (ax (df cI) (a1 (zO 363 [])))))) (b1 (xu 300 D.Pair pO))) (shr [.row 0 300] (l1 fB)) 0 [] (fun a=>some (Z4 qh opQ (((a.1.2.2.2.1) - (a.1.2.1)).toNat+1) (a.1.2.1) (a.1.2.2.1) (a.1.2.2.2.1) (a.2))) (fun a=>anE (a.1.2.1) (a.1.2.2.1) (a.1.2.2.2.1) (a.2)),uM (fun n=>((atS n))) _ _ (fun a h=>⟨((a.1.2.2.2.1) - (a.1.2.1)).toNat+1,h,rfl⟩)⟩
def aF2 (n:Int)(l:List Pair):Pg (List Pair):=ao3 J9 qh opQ fH anE n l
def aHG (n:Int)(l:List Pair):=(aF2 n l).val
theorem azZ (n:Int)(l:List Pair)(h:stQ opQ n l):Is (aF2 n l):=
 (Uo vT (JL:=anE) JQ (fun a m b l h=>NR _ a m b l h) h).1
def aE9:bT Z:=E1B [Xf,aEp,aFy] [jS 2 (dh (fun b=>[s0 7, s0 8, .row (pid (b 0)) 300]) (aC cI (aC cI (l1 fB)))),jS 7 (dh (fun b=>[s0 6, .row (pid (b 0)) 300]) (aC cI (l1 fB))),jS 9 (dh (fun b=>[s0 7, s0 8, .row (pid (b 0)) 300]) (aC cI (aC cI (l1 fB)))),jS 100006 (dh (fun b=>[s0 7, .row (pid (b 0)) 300]) (aC cI (l1 fB))),jS 100013 (dh (fun b=>[s0 7, .row (pid (b 0)) 300]) (aC cI (l1 fB)))] (ax (zD 0) (ax (df cI) (a1 (zO 363 [])))) (b1 (xu 300 D.Pair pO)) (shr [.row 0 300] (l1 fB)) [] func457 0 (fun a=>aF2 a.1.2.1 a.2) (fun a=>stQ opQ a.1.2.1 a.2) fun a h=>azZ a.1.2.1 a.2 h
def aDB (l:List Pair):Pg (List Pair):=.ob (stQ opQ (↑l.length:Int) l) (.lt (aHG (↑l.length:Int) l) fun a=> aL a (.ret a))
def OW (l:List Pair):=(aDB l).val
theorem aBR (l:List Pair)(h:yP opQ l):Is (aDB l):=
 bM ((⟨h,rfl⟩)) (dm fun b a=>jH fun _=>aZ)
def aFc:bT Z:=E1B [Xf,aE9] [] (ax (zD 0) (a1 (zO 363 []))) (b1 (xu 300 D.Pair pO)) (shr [.row 0 300] (l1 fB)) [] func362 0 (fun a=>aDB a.2) (fun a=>yP opQ a.2) fun a h=>aBR a.2 h
theorem Sr (l:List Pair)(h:yP opQ l):Sorted qh l (OW l):=
 (Uo vT (q:=opQ) (d:=fH) (JL:=anE) JQ (fun a m b l h=>NR _ a m b l h) ⟨h,rfl⟩).2
theorem yB {l:List Pair}(h:yP opQ l):(OW l).Perm l:=(X7 JQ (Sr l h).2.1).symm
def alf (a:af)(b:af):Pg Bool:=.ob (j_ a.re.Kind=true/\j_ b.re.Kind=true) (.ret (Y3 a.re b.re==0))
def ae4 (a:af)(b:af):=(alf a b).val
def aw4:bT Z:=E1 [as1] [] (ax (aQ aH) (a1 (aQ aH))) (R1 aW) [] func163 1 (u2 alf) fun a=>j_ a.1.Kind=true/\j_ a.2.Kind=true
def oJ (l:List Pair):Prop:=l.length<=1048576/\∀x∈l,j_ x.Key.Kind=true
theorem mY {l:List Pair}(h:oJ l):yP opQ l:=⟨by have:=h.1;omega,fun x b y a=>⟨h.2 x b,h.2 y a⟩⟩
theorem aut {l v:List Pair}(h:oJ l)(e:v=OW l):oJ v:=by
 have k:=yB (mY h);rw[e];exact⟨by rw[k.length_eq];exact h.1,fun x a=>h.2 x (k.mem_iff.1 a)⟩
theorem aaK {v:List Pair}(h:oJ v){i:Nat}(a:i < v.length):j_ (v.getD i fH).Key.Kind=true:=h.2 _ (getD_mem a)
theorem MM {l v:List Pair}(h:yP opQ l)(e:v=OW l):v.length=l.length:=by
 rw[e];exact(yB h).length_eq
def WG (l:List Pair):Pg (List Pair):=.ob (l.length<=1048576) (.ob (yP opQ l) (.lt (OW l) fun a=> aL a (.each false rP a fH (fun d e (b:List Pair)=> .ix d a.length (.ob (d.toNat < a.length) (.lt (b++[Pair.mk e.Key.re e.Val.re]) fun(f:List Pair)=> .lt (bJ .i64 (d+1)) fun c=> .br (c==(↑a.length:Int)) (aL a (.ob (dE (b.length+1) 256) (rl f))) (.ix c a.length (.ob (c.toNat < a.length) (.ob (j_ e.Key.re.Kind=true/\j_ (a.getD c.toNat fH).Key.re.Kind=true) (aL a (.br (!ae4 e.Key.re (a.getD c.toNat fH).Key.re) (.ob (dE (b.length+1) 256) (rl f)) (rl b))))))))) (fun d (b:List Pair)=> .ret b) [])))
def kL (l:List Pair):=(WG l).val
theorem DW (l:List Pair)(h:oJ l):kw (WG l) (fun r=>r.Sublist (OW l)):=
 aj (h.1) (aj ((mY h)) (aI fun a hv4=>fD <| dA (fun(c:Nat) b=>b.Sublist (a.take c)/\a.length=l.length/\l.length<=1048576) (by exact⟨List.nil_sublist _,MM (mY h) hv4,h.1⟩) (by(have:=MM (mY h) hv4;have:=h.1;omega)) (fun c b g d=>have hI:b.Sublist (a.take c)/\a.length=l.length/\l.length<=1048576:=d;aX au au (aj (qat) (aI fun i hv5=>sH fun f e _=>dR (fun _=>fD <| aj (qat) (ai qaz)) (fun _=>aX au au (aj (qat) (aj (qat) (fD <| dL (fun _=>aj (qat) (ai qaz)) (fun _=>ai qaz)))))))) (fun b hI=>have hI:b.Sublist (a.take a.length)/\a.length=l.length/\l.length<=1048576:=hI;ai qaz)))
def aiG:bT Z:=E1 [aw4,aGT,aFc,Xf] [jS 5 (dh (fun b=>[s0 13, .slot 4 false [some 300]]) (aC cI (l1 fB)))] (a1 (df fB)) (R1 fB) [] func276 1 WG (fun a=>oJ a) fun a h=>(DW a h).1
def ae9 (v:af):Pg Bool:=.br (j_ v.Kind) (.br (adZ v.re) (.br (v.Bits==0) (.ret (v.Text==[])) (.ret false)) (.ret false)) (.ret false)
def XK (v:af):=(ae9 v).val
def aqi:bT Z:=E0 [afS,am2] [] (a1 (aQ aH)) (R1 aW) [] func278 1 ae9
def alF (v:af):Pg Bool:=.lt (XK v.re) fun a=> .br (v.Kind==11) (.br ((↑v.List.length:Int)==0) (.ret true) (.br (v.Kind==12) (.br ((↑v.Pairs.length:Int)==0) (.ret true) (.ret a)) (.ret a))) (.br (v.Kind==12) (.br ((↑v.Pairs.length:Int)==0) (.ret true) (.ret a)) (.ret a))
def Ic (v:af):=(alF v).val
def awr:bT Z:=E0 [aqi] [] (a1 (aQ aH)) (R1 aW) [] func198 1 alF
theorem avE (n:Int):jQ (IntKind.wrap .u64 n):=by
 have e:IntKind.wrap .u64 n=n % 18446744073709551616:=by
  unfold IntKind.wrap;rfl
 rw[e];exact⟨by omega,by omega⟩
theorem aCy (n:Int):jQ (bJ .u64 n):=avE n
theorem u0:jQ 0:=⟨by decide,by decide⟩
def aHz (a:Int):Pg Bool:=.br (a==0) (.ret true) (.br (a==1) (.ret true) (.ret (a==2)))
def awD (a:Int):=(aHz a).val
def aCM (b:Int)(a:Int):Pg (List UInt8×Int):=.br (decide (b < 1)) (.ret ([],6)) (.br (decide (65535 < b)) (.ret ([],6)) (.br (decide (a < 0)) (.ret ([],6)) (.br (decide (6 < a)) (.ret ([],6)) (.lt (bJ .u64 (bJ .i64 (bJ .i64 (b*8)+a))) fun c=> .ob (jQ c) (.ret (aHX c,0))))))
def aly (b:Int)(a:Int):=(aCM b a).val
def ava (f:Raw):Pg Bool:=.br ((aly f.Num f.eF).2 !=0) (.ret false) (.br (awD f.eF) (.ret (f.Data==[])) (.ret (f.Bits==0)))
def ao4 (f:Raw):=(ava f).val
def tRs:List Raw->Nat
 | []=>0
 | x::l=>1+x.Data.length+tRs l
mutual
def tV:af->Nat
 | .mk _ _ t l p s r=>1+t.length+tVs l+tPs p+tSs s+tRs r
def tVs:List af->Nat
 | []=>0
 | x::l=>1+tV x+tVs l
def tP:Pair->Nat
 | .mk k v=>1+tV k+tV v
def tPs:List Pair->Nat
 | []=>0
 | x::l=>tP x+tPs l
def tS:Slot->Nat
 | .mk _ v=>1+tV v
def tSs:List Slot->Nat
 | []=>0
 | x::l=>tS x+tSs l
end
def rOk (x:Raw):Prop:=jQ x.Bits/\ao4 x=true
def kRs:List Raw->Prop
 | []=>True
 | x::l=>rOk x/\kRs l
mutual
def kV:af->Prop
 | .mk _ b _ l p s r=>(jQ b/\kRs r)/\kVs l/\kPs p/\kSs s
def kVs:List af->Prop
 | []=>True
 | x::l=>kV x/\kVs l
def kP:Pair->Prop
 | .mk k v=>(j_ k.Kind=true/\kV k)/\kV v
def kPs:List Pair->Prop
 | []=>True
 | x::l=>kP x/\kPs l
def kS:Slot->Prop
 | .mk _ v=>kV v
def kSs:List Slot->Prop
 | []=>True
 | x::l=>kS x/\kSs l
end
theorem nD (v:af):tV v=1+v.Text.length+tVs v.List+tPs v.Pairs+tSs v.Slots+tRs v.dH:=by cases v;simp[tV,af.Text,af.List,af.Pairs,af.Slots,af.dH]
theorem aif (x:Pair):tP x=1+tV x.Key+tV x.Val:=by cases x;simp[tP,Pair.Key,Pair.Val]
theorem abq (x:Slot):tS x=1+tV x.Val:=by cases x;simp[tS,Slot.Val]
theorem xM (v:af):1<=tV v:=by rw[nD];omega
def wG {A:Type}(f:A->Nat):List A->Nat
 | []=>0
 | x::l=>f x+wG f l
section
variable {A:Type}{f:A->Nat}
theorem Aw (l m:List A):wG f (l++m)=wG f l+wG f m:=by
 induction l with
 | nil=>simp[wG]
 | cons a l b=>simp only[Qb1,wG,b];omega
theorem Ve {l:List A}{x:A}(h:x∈l):f x<=wG f l:=by
 induction l with
 | nil=>cases h
 | cons a l b=>
  simp only[wG];rcases zN.1 h with e | e
  ·subst e;omega
  ·have:=b e;omega
theorem U4 {l:List A}(h:∀x,1<=f x):l.length<=wG f l:=by
 induction l with
 | nil=>simp
 | cons a l b=>have:=h a;simp only[wG,zx];omega
theorem UE {l m:List A}(h:l.Sublist m):wG f l<=wG f m:=by
 induction h with
 | slnil=>exact rC _
 | cons a _ b=>simp only[wG];omega
 | cons_cons a _ b=>simp only[wG];omega
theorem Xb {l m:List A}(h:l.Perm m):wG f l=wG f m:=by
 induction h with
 | nil=>rfl
 | cons a _ e=>simp only[wG,e]
 | swap a b l=>simp only[wG];omega
 | trans _ _ c d=>exact c.trans d
theorem XR {l:List A}{i:Nat}{d:A}(a:i < l.length):wG f (l.take (i+1))=wG f (l.take i)+f (l.getD i d):=by
 rw[take_snoc (d:=d) a,Aw];simp[wG]
end
theorem P8 (l:List af):tVs l=wG (fun x=>1+tV x) l:=by
 induction l with
 | nil=>rfl
 | cons a l b=>simp only[tVs,wG,b]
theorem P_ (l:List Pair):tPs l=wG tP l:=by
 induction l with
 | nil=>rfl
 | cons a l b=>simp only[tPs,wG,b]
theorem PM (l:List Slot):tSs l=wG tS l:=by
 induction l with
 | nil=>rfl
 | cons a l b=>simp only[tSs,wG,b]
theorem V7 (l:List Raw):tRs l=wG (fun x=>1+x.Data.length) l:=by
 induction l with
 | nil=>rfl
 | cons a l b=>simp only[tRs,wG,b]
theorem aAP {l:List af}{x:af}(h:x∈l):1+tV x<=tVs l:=by rw[P8];exact Ve (f:=fun x=>1+tV x) h
theorem azL {l:List Pair}{x:Pair}(h:x∈l):1+tV x.Key+tV x.Val<=tPs l:=by rw[P_,<-aif];exact Ve h
theorem an_ {l:List Slot}{x:Slot}(h:x∈l):1+tV x.Val<=tSs l:=by rw[PM,<-abq];exact Ve h
theorem azE (l:List af):l.length<=tVs l:=by rw[P8];exact U4 fun x=>by omega
theorem aeT (l:List Pair):l.length<=tPs l:=by rw[P_];exact U4 fun x=>by rw[aif];omega
theorem aAZ (l:List Slot):l.length<=tSs l:=by rw[PM];exact U4 fun x=>by rw[abq];omega
theorem aAT (l:List Raw):l.length<=tRs l:=by rw[V7];exact U4 fun x=>by omega
theorem azI (l:List af):kVs l ↔ ∀x∈l,kV x:=by
 induction l with
 | nil=>simp[kVs]
 | cons a l b=>simp[kVs,b]
theorem anX (l:List Raw):kRs l ↔ ∀x∈l,rOk x:=by
 induction l with
 | nil=>simp[kRs]
 | cons a l b=>simp[kRs,b]
theorem aFh (x:Pair):kP x ↔ (j_ x.Key.Kind=true/\kV x.Key)/\kV x.Val:=by cases x;simp[kP,Pair.Key,Pair.Val]
theorem az0 (l:List Pair):kPs l ↔ ∀x∈l,(j_ x.Key.Kind=true/\kV x.Key)/\kV x.Val:=by
 induction l with
 | nil=>simp[kPs]
 | cons a l b=>simp[kPs,b,aFh]
theorem aDU (x:Slot):kS x ↔ kV x.Val:=by cases x;simp[kS,Slot.Val]
theorem aAw (l:List Slot):kSs l ↔ ∀x∈l,kV x.Val:=by
 induction l with
 | nil=>simp[kSs]
 | cons a l b=>simp[kSs,b,aDU]
theorem kK (v:af):kV v ↔ (jQ v.Bits/\∀r∈v.dH,rOk r)/\(∀x∈v.List,kV x)/\(∀x∈v.Pairs,(j_ x.Key.Kind=true/\kV x.Key)/\kV x.Val)/\∀x∈v.Slots,kV x.Val:=by
 cases v;simp[kV,azI,az0,aAw,anX,af.Bits,af.List,af.Pairs,af.Slots,af.dH]
def gV (v:af):Prop:=kV v/\tV v<=1048576
def xH (k a:Nat)(v:af):Prop:=gV v/\3*tV v+k<=a
theorem xO {k:Nat}{v:af}(h:xH k 0 v):False:=by
 have:=xM v;have:=h.2;omega
theorem uS {v:af}(h:gV v):v.dH.length<=1048576/\v.Slots.length<=1048576/\v.List.length<=1048576/\oJ v.Pairs:=by
 have f:=nD v;have e:=aAT v.dH;have d:=aAZ v.Slots;have b:=azE v.List;have g:=aeT v.Pairs;have c:=h.2;exact⟨by omega,by omega,by omega,by omega,fun x a=>(((kK v).1 h.1).2.2.1 x a).1.1⟩
theorem TZ {v x:af}(h:gV v)(a:x∈v.List):gV x/\tV x < tV v:=by
 have c:=nD v;have b:=aAP a;have:=h.2;exact⟨⟨((kK v).1 h.1).2.1 x a,by omega⟩,by omega⟩
theorem HY {v:af}{x:Pair}(h:gV v)(b:x∈v.Pairs):gV x.Val/\tV x.Val < tV v/\j_ x.Key.Kind=true/\tV x.Key < tV v:=by
 have d:=nD v;have c:=azL b;have a:=((kK v).1 h.1).2.2.1 x b;have:=h.2;exact⟨⟨a.2,by omega⟩,by omega,a.1.1,by omega⟩
theorem ajY {v:af}{x:Pair}(h:gV v)(a:x∈v.Pairs):kV x.Key:=(((kK v).1 h.1).2.2.1 x a).1.2
theorem Vh {v:af}{x:Slot}(h:gV v)(a:x∈v.Slots):gV x.Val/\tV x.Val < tV v:=by
 have c:=nD v;have b:=an_ a;have:=h.2;exact⟨⟨((kK v).1 h.1).2.2.2 x a,by omega⟩,by omega⟩
theorem Ar (v:af):(kQ v).Kind=v.Kind/\(kQ v).Text=v.Text/\(kQ v).List=v.List/\(kQ v).Pairs=v.Pairs/\(kQ v).Slots=v.Slots/\(kQ v).dH=v.dH:=by
 unfold kQ ah8;simp only[bG,bF,aN,ay,gz,Qa7];(repeat' split)<;>(cases v;exact⟨rfl,rfl,rfl,rfl,rfl,rfl⟩)
theorem aer (v:af):tV (kQ v)=tV v:=by
 obtain⟨f,d,c,a,e,b⟩:=Ar v;rw[nD,nD v,d,c,a,e,b]
theorem aBr (v:af):(kQ v).Bits=v.Bits\/(kQ v).Bits=9221120237041090560:=by
 unfold kQ ah8;simp only[bG,bF,aN,ay,gz,Qa7];(repeat' split)<;>(cases v;first | exact .inl rfl | exact .inr rfl)
theorem ad4 {v:af}(h:kV v):kV (kQ v):=by
 obtain⟨g,f,c,a,d,b⟩:=Ar v;rw[kK]at h⊢;rw[c,a,d,b];refine⟨⟨?_,h.1.2⟩,h.2⟩;rcases aBr v with e | e
 ·rw[e];exact h.1.1
 ·rw[e];exact⟨by decide,by decide⟩
theorem kE (k b:Int)(t:Str)(a:jQ b):kV (af.mk k b t [] [] [] [])/\tV (af.mk k b t [] [] [] [])=1+t.length:=by
 simp[kV,kVs,kPs,kSs,kRs,tV,tVs,tPs,tSs,tRs,a]
def aov (l:aJ->Int->af->af)(rM:aJ->Int->af->Prop)(j:aJ->Op->af->af)(ny:aJ->Op->af->Prop)(t:aJ->Op->af->af)(nz:aJ->Op->af->Prop)(p:aJ)(prog:Int)(v:af):Pg af:=.ob (v.dH.length<=1048576) (.lt (match v with | af.mk k q r o m s a=>a) fun(g:List Raw)=> .br (decide (prog < 0)) (.ret (af.mk (Int.ofNat (nat_lit 10)) (Int.ofNat (nat_lit 0)) [] [] [] [] g)) (aL p.aO (.br (decide ((↑p.aO.length:Int)<=prog)) (.ret (af.mk (Int.ofNat (nat_lit 10)) (Int.ofNat (nat_lit 0)) [] [] [] [] g)) (.ob (v.Slots.length<=1048576) (.lt (qU v.Slots) fun f=> aL f (.each false rP f iV (fun i c (b:af)=> .ix i f.length (.ix prog p.aO.length (.lt (b.Slots++[Slot.mk c.Num (j p (qK (p.aO.getD prog.toNat aU) c.Num).1 c.Val.re).re]) fun(e:List Slot)=> .lt (Ic (j p (qK (p.aO.getD prog.toNat aU) c.Num).1 c.Val.re).re) fun h=> .lt (qK (p.aO.getD prog.toNat aU) c.Num) fun d=> .br (d.1.Card==3) (.ob (ny p d.1 c.Val.re) (.br (!h) (.ob (dE (b.Slots.length+1) 136) (rl (af.mk b.Kind b.Bits b.Text b.List b.Pairs e b.dH))) (rl b.re))) (.br (d.1.Card==4) (.ob (ny p d.1 c.Val.re) (.br (!h) (.ob (dE (b.Slots.length+1) 136) (rl (af.mk b.Kind b.Bits b.Text b.List b.Pairs e b.dH))) (rl b.re))) (.ob (ny p d.1 c.Val.re) (.br (!d.1.Card==5) (.ob (dE (b.Slots.length+1) 136) (rl (af.mk b.Kind b.Bits b.Text b.List b.Pairs e b.dH))) (.br (!h) (.ob (dE (b.Slots.length+1) 136) (rl (af.mk b.Kind b.Bits b.Text b.List b.Pairs e b.dH))) (rl b.re)))))))) (fun i (b:af)=> .ob (yP (fun(x n:Raw)=>True) b.dH) (.ret (af.mk b.Kind b.Bits b.Text b.List b.Pairs b.Slots (nM b.dH)))) (af.mk (Int.ofNat (nat_lit 10)) (Int.ofNat (nat_lit 0)) [] [] [] [] g)))))))
def Qu (i:aJ->Int->af->af)(rM:aJ->Int->af->Prop)(j:aJ->Op->af->af)(ny:aJ->Op->af->Prop)(e:aJ->Op->af->af)(nz:aJ->Op->af->Prop)(p:aJ)(o:Op)(v:af):Pg af:=.br (o.Card==4) (aL v.List (.each false rP v.List l_ (fun f (g b:af)=> .ix f v.List.length (.ob (nz p o g.re) (.ob (dE (b.List.length+1) 128) (rl (af.mk b.Kind b.Bits b.Text (b.List++[(e p o g.re).re]) b.Pairs b.Slots b.dH))))) (fun f (b:af)=> .ret b.re) (af.mk (Int.ofNat (nat_lit 11)) (Int.ofNat (nat_lit 0)) [] [] [] [] []))) (.br (o.Card==5) (.ob (oJ v.Pairs) (.lt (kL v.Pairs) fun c=> aL c (.each false rP c fH (fun h d (a:af)=> .ix h c.length (.ob (nz p o d.Val.re) (.ob (dE (a.Pairs.length+1) 256) (rl (af.mk a.Kind a.Bits a.Text a.List (a.Pairs++[Pair.mk (kQ d.Key.re).re (e p o d.Val.re).re]) a.Slots a.dH))))) (fun h (a:af)=> .ret a.re) (af.mk (Int.ofNat (nat_lit 12)) (Int.ofNat (nat_lit 0)) [] [] [] [] [])))) (.ob (nz p o v.re) (.ret (e p o v.re).re)))
def aeE (a:aJ->Int->af->af)(rM:aJ->Int->af->Prop)(b:aJ->Op->af->af)(ny:aJ->Op->af->Prop)(c:aJ->Op->af->af)(nz:aJ->Op->af->Prop)(p:aJ)(o:Op)(v:af):Pg af:=.br (o.Kind==10) (.ob (rM p o.Target v.re) (.ret (a p o.Target v.re).re)) (.ret (kQ v.re).re)
def rM (a:Nat)(p:aJ)(prog:Int)(v:af):Prop:=xH 0 a v
def ny (a:Nat)(p:aJ)(o:Op)(v:af):Prop:=xH 2 a v
def nz (a:Nat)(p:aJ)(o:Op)(v:af):Prop:=xH 1 a v
def rO:Nat->(aJ->Int->af->af)×(aJ->Op->af->af)×(aJ->Op->af->af)
 | 0=>(fun _ _ _=>default,fun _ _ _=>default,fun _ _ _=>default)
 | a+1=>(fun p prog v=>(aov ((rO a).1) (rM a) ((rO a).2.1) (ny a) ((rO a).2.2) (nz a) p prog v).val,fun p o v=>(Qu ((rO a).1) (rM a) ((rO a).2.1) (ny a) ((rO a).2.2) (nz a) p o v).val,fun p o v=>(aeE ((rO a).1) (rM a) ((rO a).2.1) (ny a) ((rO a).2.2) (nz a) p o v).val)
def P6 (p:aJ)(prog:Int)(v:af):af:=(rO (3*tV v)).1 p prog v
def adP (a:Nat):Prop:=(∀(p:aJ) (prog:Int) (v:af),rM a p prog v->(fun r=>kV r/\tV r<=tV v) ((rO a).1 p prog v))/\(∀(p:aJ) (o:Op) (v:af),ny a p o v->(fun r=>kV r/\tV r<=tV v) ((rO a).2.1 p o v))/\(∀(p:aJ) (o:Op) (v:af),nz a p o v->(fun r=>kV r/\tV r<=tV v) ((rO a).2.2 p o v))
def pnI (a:List Raw)(b:List Slot)(i:Nat)(y:af):Prop:=kV y/\tV y<=1+wG tS (b.take i)+tRs a/\y.Slots.length<=i/\y.dH=a
def pnL (l:List af)(i:Nat)(y:af):Prop:=kV y/\tV y<=1+wG (fun x=>1+tV x) (l.take i)/\y.List.length<=i
def pnP (l:List Pair)(i:Nat)(y:af):Prop:=kV y/\tV y<=1+wG tP (l.take i)/\y.Pairs.length<=i
theorem aHC (y z:af)(n:Int):tV (af.mk y.Kind y.Bits y.Text y.List y.Pairs (y.Slots++[Slot.mk n z]) y.dH)=tV y+(1+tV z):=by
 rw[nD,nD y];cases y;simp only[af.Text,af.List,af.Pairs,af.Slots,af.dH,PM,Aw,wG,abq,Slot.Val];omega
theorem aHF {y z:af}{n:Int}(h:kV y)(b:kV z):kV (af.mk y.Kind y.Bits y.Text y.List y.Pairs (y.Slots++[Slot.mk n z]) y.dH):=by
 rw[kK]at h⊢;cases y;simp only[af.Bits,af.Text,af.List,af.Pairs,af.Slots,af.dH]at h⊢;exact⟨h.1,h.2.1,h.2.2.1,fun x a=>(vN.1 a).elim (h.2.2.2 x) fun e=>by rw[FY.1 e];exact b⟩
theorem aHY (y z:af):tV (af.mk y.Kind y.Bits y.Text (y.List++[z]) y.Pairs y.Slots y.dH)=tV y+(1+tV z):=by
 rw[nD,nD y];cases y;simp only[af.Text,af.List,af.Pairs,af.Slots,af.dH,P8,Aw,wG];omega
theorem aHi {y z:af}(h:kV y)(b:kV z):kV (af.mk y.Kind y.Bits y.Text (y.List++[z]) y.Pairs y.Slots y.dH):=by
 rw[kK]at h⊢;cases y;simp only[af.Bits,af.Text,af.List,af.Pairs,af.Slots,af.dH]at h⊢;exact⟨h.1,fun x a=>(vN.1 a).elim (h.2.1 x) fun e=>by rw[FY.1 e];exact b,h.2.2⟩
theorem aIb (y k z:af):tV (af.mk y.Kind y.Bits y.Text y.List (y.Pairs++[Pair.mk k z]) y.Slots y.dH)=tV y+(1+tV k+tV z):=by
 rw[nD,nD y];cases y;simp only[af.Text,af.List,af.Pairs,af.Slots,af.dH,P_,Aw,wG,aif,Pair.Key,Pair.Val];omega
theorem aHS {y k z:af}(h:kV y)(b:j_ k.Kind=true/\kV k)(c:kV z):kV (af.mk y.Kind y.Bits y.Text y.List (y.Pairs++[Pair.mk k z]) y.Slots y.dH):=by
 rw[kK]at h⊢;cases y;simp only[af.Bits,af.Text,af.List,af.Pairs,af.Slots,af.dH]at h⊢;exact⟨h.1,h.2.1,fun x a=>(vN.1 a).elim (h.2.2.1 x) fun e=>by rw[FY.1 e];exact⟨b,c⟩,h.2.2.2⟩
theorem ald {l:List Slot}(h:l.length<=1048576){x:Slot}(a:x∈qU l):x∈l:=(MV h).mem_iff.1 ((En l h).2.subset a)
theorem av3 {l:List Slot}(h:l.length<=1048576):wG tS (qU l)<=wG tS l:=by
 rw[<-Xb (MV h)];exact UE (En l h).2
theorem Xw {l v:List Slot}(h:l.length<=1048576)(e:v=qU l):v.length<=1048576:=by
 have k:=(En l h).2.length_le;have a:=(MV h).length_eq;have b:(qU l).length<=(Mc l).length:=k;rw[e];omega
theorem Ee {l:List Pair}(h:oJ l){x:Pair}(a:x∈kL l):x∈l:=(yB (mY h)).mem_iff.1 ((DW l h).2.subset a)
theorem ain {l:List Pair}(h:oJ l):wG tP (kL l)<=wG tP l:=by
 rw[<-Xb (yB (mY h))];exact UE (DW l h).2
theorem JO {l v:List Pair}(h:oJ l)(e:v=kL l):v.length<=1048576:=by
 have k:(kL l).length<=(OW l).length:=(DW l h).2.length_le;have a:=(yB (mY h)).length_eq;have b:=h.1;rw[e];omega
theorem aGa {l:List Raw}(h:l.length<=1048576):tRs (nM l)=tRs l:=by
 rw[V7,V7];exact Xb (aot h)
theorem an2 {r:List Raw}(a:∀x∈r,rOk x):kV (af.mk 10 0 [] [] [] [] r)/\tV (af.mk 10 0 [] [] [] [] r)=1+tRs r:=by
 have a:=(anX r).2 a;simp[kV,kVs,kPs,kSs,tV,tVs,tPs,tSs,u0,a]
theorem aI5 {k:Nat}{b:Nat}{v:af}{a:List Raw}(h:xH k b v)(e:a=v.dH):kV (af.mk 10 0 [] [] [] [] a)/\tV (af.mk 10 0 [] [] [] [] a)<=tV v:=by
 subst e;obtain⟨c,d⟩:=an2 ((kK v).1 h.1.1).1.2;have:=nD v;exact⟨c,by omega⟩
theorem aH2 {k b:Nat}{v:af}(h:xH k (b+1) v){a:List Slot}(e:a=qU v.Slots){i:Nat}(c:i < a.length):xH (k+2) b (a.getD i iV).Val:=by
 subst e;have f:=ald (uS h.1).2.1 (getD_mem (d:=iV) c);obtain⟨g,j⟩:=Vh h.1 f;have:=h.2;exact⟨g,by omega⟩
theorem aDz {k a:Nat}{v:af}(h:xH (k+1) (a+1) v){i:Nat}(b:i < v.List.length):xH k a (v.List.getD i l_):=by
 obtain⟨c,e⟩:=TZ h.1 (getD_mem (d:=l_) b);have:=h.2;exact⟨c,by omega⟩
theorem aAf {k b:Nat}{v:af}(h:xH (k+1) (b+1) v){a:List Pair}(e:a=kL v.Pairs){i:Nat}(f:i < a.length):xH k b (a.getD i fH).Val/\j_ (a.getD i fH).Key.Kind=true/\kV (a.getD i fH).Key:=by
 subst e;have c:=Ee (uS h.1).2.2.2 (getD_mem (d:=fH) f);obtain⟨j,l,g,_⟩:=HY h.1 c;have:=h.2;exact⟨⟨j,by omega⟩,g,ajY h.1 c⟩
theorem I7 {k a:Nat}{v:af}(h:xH (k+1) (a+1) v):xH k a v:=⟨h.1,by have:=h.2;omega⟩
theorem aHN {k b:Nat}{v:af}{a:List Raw}{f:List Slot}(h:xH k b v)(e:a=v.dH):pnI a f 0 (af.mk 10 0 [] [] [] [] a):=by
 obtain⟨d,c⟩:=an2 (r:=a) (by rw[e];exact((kK v).1 h.1.1).1.2);exact⟨d,by rw[c];simp[wG],rC _,rfl⟩
theorem av8 {b:List Raw}{a:List Slot}{i:Nat}{y:af}(h:pnI b a i y):pnI b a (i+1) y.re:=by
 rw[af.dn];obtain⟨d,g,e,c⟩:=h;have:=UE (f:=tS) (Qdh (l:=a) (show i<=i+1 by omega));exact⟨d,by omega,by omega,c⟩
theorem az8 {c:List Raw}{a:List Slot}{i:Nat}{y z:af}{n:Int}(j:i < a.length)(h:pnI c a i y)(l:kV z/\tV z<=tV (a.getD i iV).Val){b:List Slot}(e:b=y.Slots++[Slot.mk n z]):pnI c a (i+1) (af.mk y.Kind y.Bits y.Text y.List y.Pairs b y.dH):=by
 obtain⟨m,q,p,g⟩:=h;rw[e];have k:=XR (f:=tS) (d:=iV) j;have o:=abq (a.getD i iV);refine⟨aHF m l.1,?_,?_,g⟩
 ·rw[aHC];omega
 ·show(y.Slots++[Slot.mk n z]).length<=i+1
  simp only[tK,zx,BP];omega
theorem aBf {k l:Nat}{v:af}{e:List Raw}{b:List Slot}{y:af}(h:xH k l v)(d:e=v.dH)(n:b=qU v.Slots)(j:pnI e b b.length y):kV (af.mk y.Kind y.Bits y.Text y.List y.Pairs y.Slots (nM y.dH))/\tV (af.mk y.Kind y.Bits y.Text y.List y.Pairs y.Slots (nM y.dH))<=tV v:=by
 obtain⟨a,c,u,m⟩:=j;have f:=uS h.1;have g:y.dH.length<=1048576:=by rw[m,d];exact f.1
 have s:=av3 f.2.1;have q:=nD v;have p:=aGa g;have r:=PM v.Slots;have t:=nD y;rw[JG,n]at c;rw[d]at c;refine⟨?_,?_⟩
 ·have o:∀x∈nM y.dH,rOk x:=fun x i=>((kK y).1 a).1.2 x ((aot g).mem_iff.1 i)
  rw[kK]at a⊢;cases y;exact⟨⟨a.1.1,o⟩,a.2⟩
 ·rw[nD];show 1+y.Text.length+tVs y.List+tPs y.Pairs+tSs y.Slots+tRs (nM y.dH)<=tV v
  rw[p];omega
theorem aHv {l:List af}:pnL l 0 (af.mk 11 0 [] [] [] [] []):=by
 obtain⟨b,a⟩:=kE 11 0 [] u0;exact⟨b,by rw[a];simp[wG],rC _⟩
theorem azR {l:List af}{i:Nat}{y z:af}(a:i < l.length)(h:pnL l i y)(b:kV z/\tV z<=tV (l.getD i l_)):pnL l (i+1) (af.mk y.Kind y.Bits y.Text (y.List++[z]) y.Pairs y.Slots y.dH):=by
 obtain⟨c,g,e⟩:=h;have k:=XR (f:=fun x=>1+tV x) (d:=l_) a;refine⟨aHi c b.1,?_,?_⟩
 ·rw[aHY];omega
 ·show(y.List++[z]).length<=i+1
  simp only[tK,zx,BP];omega
theorem azH {v y:af}(c:pnL v.List v.List.length y):kV y.re/\tV y.re<=tV v:=by
 rw[af.dn];obtain⟨b,a,e⟩:=c;have d:=nD v;have f:=P8 v.List;rw[JG]at a;exact⟨b,by omega⟩
theorem aGK {l:List Pair}:pnP l 0 (af.mk 12 0 [] [] [] [] []):=by
 obtain⟨b,a⟩:=kE 12 0 [] u0;exact⟨b,by rw[a];simp[wG],rC _⟩
theorem azz {l:List Pair}{i:Nat}{y k z:af}(b:i < l.length)(h:pnP l i y)(a:(j_ k.Kind=true/\kV k)/\tV k<=tV (l.getD i fH).Key)(c:kV z/\tV z<=tV (l.getD i fH).Val):pnP l (i+1) (af.mk y.Kind y.Bits y.Text y.List (y.Pairs++[Pair.mk k z]) y.Slots y.dH):=by
 obtain⟨e,m,j⟩:=h;have q:=XR (f:=tP) (d:=fH) b;have g:=aif (l.getD i fH);refine⟨aHS e a.1 c.1,?_,?_⟩
 ·rw[aIb];omega
 ·show(y.Pairs++[Pair.mk k z]).length<=i+1
  simp only[tK,zx,BP];omega
theorem aAh {k b:Nat}{v y:af}{a:List Pair}(h:xH k b v)(e:a=kL v.Pairs)(f:pnP a a.length y):kV y.re/\tV y.re<=tV v:=by
 rw[af.dn];obtain⟨d,c,j⟩:=f;have g:=ain (uS h.1).2.2.2;have i:=nD v;have l:=P_ v.Pairs;rw[JG,e]at c;exact⟨d,by omega⟩
theorem ayi {v:af}{a:List Raw}{b:List Slot}{i:Nat}{y:af}(h:pnI a b i y)(e:a=v.dH)(c:v.dH.length<=1048576):yP (fun(_ _:Raw)=>True) y.dH:=⟨by rw[h.2.2.2,e];omega,fun _ _ _ _=>trivial⟩
abbrev H7 (a:Nat):=aov ((rO a).1) (rM a) ((rO a).2.1) (ny a) ((rO a).2.2) (nz a)
theorem aba (fu:Nat)(ih:adP fu)(p:aJ)(prog:Int)(v:af)(h:rM (fu+1) p prog v):kw (H7 fu p prog v) (fun r=>kV r/\tV r<=tV v):=
 have h:xH 0 (fu+1) v:=h;have hl:=uS h.1;aj (qai) (aI fun d hv4=>bQ (fun _=>ai qal) (fun _=>fD <| bQ (fun _=>ai qal) (fun _=>aj (qai) (aI fun b hv5=>fD <| dA (fun(c:Nat) a=>pnI d b c a) (by exact aHN h hv4) (by(have:=Xw hl.2.1 hv5;omega)) (fun c a uC e=>have hI:pnI d b c a:=e;aX au au (aX au au (aI fun g hv6=>aI fun j f=>aI fun k i=>dR (fun _=>aj (qai) (dL (fun _=>aj (qai) (ai qal)) (fun _=>ai qal))) (fun _=>dR (fun _=>aj (qai) (dL (fun _=>aj (qai) (ai qal)) (fun _=>ai qal))) (fun _=>aj (qai) (dL (fun _=>aj (qai) (ai qal)) (fun _=>dL (fun _=>aj (qai) (ai qal)) (fun _=>ai qal)))))))) (fun a hI=>have hI:pnI d b b.length a:=hI;aj (qai) (ai qal))))))
abbrev rY (a:Nat):=Qu ((rO a).1) (rM a) ((rO a).2.1) (ny a) ((rO a).2.2) (nz a)
theorem Yk (fu:Nat)(ih:adP fu)(p:aJ)(o:Op)(v:af)(h:ny (fu+1) p o v):kw (rY fu p o v) (fun r=>kV r/\tV r<=tV v):=
 have h:xH 2 (fu+1) v:=h;have hl:=uS h.1;dR (fun _=>fD <| dA (fun(d:Nat) b=>pnL v.List d b) (by exact aHv) au (fun d b uC g=>have hI:pnL v.List d b:=g;aX au au (aj (qan) (aj (qan) (ai qah)))) (fun b hI=>have hI:pnL v.List v.List.length b:=hI;ai qah)) (fun _=>dR (fun _=>aj (qan) (aI fun c hv7=>fD <| dA (fun(e:Nat) a=>pnP c e a) (by exact aGK) (by(have:=JO hl.2.2.2 hv7;omega)) (fun e a acs f=>have hI:pnP c e a:=f;aX au au (aj (qan) (aj (qan) (ai qah)))) (fun a hI=>have hI:pnP c c.length a:=hI;ai qah))) (fun _=>aj (qan) (ai qah)))
abbrev VN (a:Nat):=aeE ((rO a).1) (rM a) ((rO a).2.1) (ny a) ((rO a).2.2) (nz a)
theorem Xi (a:Nat)(ih:adP a)(p:aJ)(o:Op)(v:af)(h:nz (a+1) p o v):kw (VN a p o v) (fun r=>kV r/\tV r<=tV v):=
 have h:xH 1 (a+1) v:=h;dR (fun _=>aj ((by(show xH 0 a _;rw[af.dn];exact I7 h))) (ai qbh)) (fun _=>ai qbh)
theorem AX:∀a,adP a
 | 0=>⟨fun p prog v h=>False.elim (xO h),
  fun p o v h=>False.elim (xO h),
  fun p o v h=>False.elim (xO h)⟩
 | a+1=>⟨fun p prog v h=>(aba a (AX a) p prog v h).2,
  fun p o v h=>(Yk a (AX a) p o v h).2,
  fun p o v h=>(Xi a (AX a) p o v h).2⟩
theorem avK (a:Nat)(p:aJ)(prog:Int)(v:af)(h:rM (a+1) p prog v):Is (H7 a p prog v):=(aba a (AX a) p prog v h).1
theorem arz (a:Nat)(p:aJ)(o:Op)(v:af)(h:ny (a+1) p o v):Is (rY a p o v):=(Yk a (AX a) p o v h).1
theorem aqz (a:Nat)(p:aJ)(o:Op)(v:af)(h:nz (a+1) p o v):Is (VN a p o v):=(Xi a (AX a) p o v h).1
theorem agE (p:aJ)(prog:Int)(v:af)(h:gV v):(fun r=>kV r/\tV r<=tV v) (P6 p prog v):=(AX (3*tV v)).1 p prog v (⟨h,rC _⟩)
theorem aCe:∀b,fK Z.P Z.S 116 (xK (args (ax (aQ dU) (ax (df cI) (a1 (aQ aH))))) (shr [.slot 0 true (nn 7)] (l1 aH)) 1 [] (fun a=>some (rM b (a.1) (a.2.1) (a.2.2))) (fun a=>(rO b).1 (a.1) (a.2.1) (a.2.2)))/\fK Z.P Z.S 197 (xK (args (ax (aQ dU) (ax (aQ jD) (a1 (aQ aH))))) (shr [.slot 0 true (nn 7)] (l1 aH)) 1 [] (fun a=>some (ny b (a.1) (a.2.1) (a.2.2))) (fun a=>(rO b).2.1 (a.1) (a.2.1) (a.2.2)))/\fK Z.P Z.S 275 (xK (args (ax (aQ dU) (ax (aQ jD) (a1 (aQ aH))))) (shr [.slot 0 true (nn 7)] (l1 aH)) 1 [] (fun a=>some (nz b (a.1) (a.2.1) (a.2.2))) (fun a=>(rO b).2.2 (a.1) (a.2.1) (a.2.2)))
 | 0=>⟨jU func116 fO (fun a h=>xO h),
  jU func197 fO (fun a h=>xO h),
  jU func275 fO (fun a h=>xO h)⟩
 | b+1=>by
  obtain⟨f,g,d⟩:=aCe b;exact⟨Um [aH6,avF,aCD,awr,aDy,Zq,⟨116,_,f⟩,⟨197,_,g⟩,⟨275,_,d⟩] [jS 5 (dh (fun c=>[s0 32, .cells (pid (c 7)) [none,none,none,none,none,some 291,some 284]]) (aC cI (l1 aH))),jS 800001 (dh (fun c=>[.cells (pid (c 7)) [none,none,none,none,none,some 291,some 284]]) (l1 aH))] func116 ntmps116 (fun a=>H7 b a.1 a.2.1 a.2.2) (fun a h=>⟨avK b a.1 a.2.1 a.2.2 h,rfl⟩) (oP (n:=86) rfl),
   Um [aiG,Uj,⟨116,_,f⟩,⟨197,_,g⟩,⟨275,_,d⟩] [jS 5 (dh (fun c=>[s0 21, .cells (pid (c 7)) [none,none,none,some 65,none,none,none]]) (aC cI (l1 aH))),jS 13 (dh (fun c=>[s0 43, .cells (pid (c 10)) [none,none,none,none,some 300,none,none]]) (aC cI (l1 aH))),jS 800003 (dh (fun c=>[.cells (pid (c 7)) [none,none,none,some 65,none,none,none]]) (l1 aH)),jS 800011 (dh (fun c=>[.cells (pid (c 10)) [none,none,none,none,some 300,none,none]]) (l1 aH))] func197 ntmps197 (fun a=>rY b a.1 a.2.1 a.2.2) (fun a h=>⟨arz b a.1 a.2.1 a.2.2 h,rfl⟩) (oP (n:=67) rfl),
   Um [Uj,⟨116,_,f⟩,⟨197,_,g⟩,⟨275,_,d⟩] [] func275 ntmps275 (fun a=>VN b a.1 a.2.1 a.2.2) (fun a h=>⟨aqz b a.1 a.2.1 a.2.2 h,rfl⟩) (oP (n:=17) rfl)⟩
def aAr:bT Z:=⟨116,xK (args (ax (aQ dU) (ax (df cI) (a1 (aQ aH))))) (shr [.slot 0 true (nn 7)] (l1 aH)) 1 [] (fun a=>some (gV (a.2.2))) (fun a=>P6 (a.1) (a.2.1) (a.2.2)),uM (fun n=>((aCe n).1)) _ _ (fun a h=>⟨3*tV (a.2.2),⟨h,rC _⟩,rfl⟩)⟩
theorem aBp (s:Str):jQ (xQ s).1:=by
 unfold xQ WT;simp only[aN,ay,qx];cases decide ((s.length:Int) < 8)with
 | true=>exact u0
 | false=>exact Iz (Q:=fun(r:Int×Int)=>jQ r.1) (fun _ y=>jQ y) 8 _ 0 0 rfl u0 (fun i y _ _=>by simp only[dN,bF,bG,ay];exact avE _) (fun i y _ h=>h)
theorem agK {c:ah}:jQ (wK c).1:=by
 have k:=aBp (qL c 8);unfold wK PK;simp only[bG,bF,aN,ay];cases(xQ (qL c 8)).2 !=0 with
 | true=>exact u0
 | false=>exact k
theorem as9 {f:Raw}(k:1<=f.Num/\f.Num<=65535)(j:0<=f.eF/\f.eF<=6)(e:jQ f.Bits)(d:f.eF<=2->f.Data=[])(i:3<=f.eF->f.Bits=0):rOk f:=by
 refine⟨e,?_⟩;have h:(aly f.Num f.eF).2=0:=by
  unfold aly aCM;simp only[aN,bF,bG,ay];rw[jF (show ¬f.Num < 1 by omega),jF (show ¬65535 < f.Num by omega),jF (show ¬f.eF < 0 by omega),jF (show ¬6 < f.eF by omega)];rfl
 have g:awD f.eF=decide (f.eF<=2):=by
  unfold awD aHz;simp only[aN,ay];by_cases w0:f.eF=0
  ·rw[w0];rfl
  by_cases c:f.eF=1
  ·rw[c];rfl
  rw[beq_false_of_ne w0,beq_false_of_ne c];by_cases b:f.eF=2
  ·rw[b];rfl
  ·rw[jF au];exact beq_false_of_ne b
 unfold ao4 ava;simp only[aN,ay];rw[h,g];by_cases a:f.eF<=2
 ·rw[jK a,d a];rfl
 ·rw[jF a,i au];rfl
theorem aiN {c:ah}(h:ig c){f:Raw}(n:0<=f.eF/\f.eF<=6)(g:f.Bits=0)(i:f.Data=[]):(eQ c f).2.2.Num=f.Num/\(eQ c f).2.2.eF=f.eF/\jQ (eQ c f).2.2.Bits/\(f.eF<=2->(eQ c f).2.2.Data=[])/\(3<=f.eF->(eQ c f).2.2.Bits=0):=by
 have l:∀K:Bool->ah×Int×Raw,(thenS (bif f.eF==0 then(Sum.inl (f.eF==0):Bool⊕(ah×Int×Raw))else Sum.inl (f.eF==1)) K)=K (bif f.eF==0 then true else f.eF==1):=fun K=>by cases e:f.eF==0<;>rfl
 unfold eQ yH;simp only[bG,bF,aN,ay,gz];rw[l];cases b:(bif f.eF==0 then true else f.eF==1)with
 | true=>
  have a:f.eF<=2:=by
   by_cases w0:f.eF=0
   ·omega
   ·rw[beq_false_of_ne w0]at b;have:=eq_of_beq (show(f.eF==1)=true from b);omega
  exact⟨rfl,rfl,(jv h).1,fun _=>i,fun j=>absurd a au⟩
 | false=>
  cases d:f.eF==2 with
  | true=>
   have a:=eq_of_beq d;exact⟨rfl,rfl,agK,fun _=>i,fun j=>absurd a au⟩
  | false=>
   have m:¬f.eF<=2:=fun a=>by
    by_cases w0:f.eF=0
    ·rw[w0]at b;cases b
    by_cases k:f.eF=1
    ·rw[k]at b;cases b
    have:f.eF=2:=by omega
    rw[this]at d;cases d
   exact⟨rfl,rfl,by show jQ f.Bits;rw[g];exact u0,fun a=>absurd a m,fun _=>g⟩
theorem atU {c:ah}(a:(dZ c).2.2.2=0)(h:ig c):(1<=(dZ c).1/\(dZ c).1<=65535)/\0<=(dZ c).2.1/\(dZ c).2.1<=6:=by
 obtain⟨⟨d,u2⟩,k⟩:=jv h;unfold dZ auT at a⊢;simp only[bG,bF,aN,ay]at a⊢;cases e:(bi c).2.2 !=0 with
 | true=>
  rw[e]at a;have a:(bi c).2.2=0:=a;rw[a]at e;cases e
 | false=>
  rw[e]at a;simp only[jm]at a⊢;have n:(bi c).1.tmod 8=(bi c).1 % 8:=Int.tmod_eq_emod_of_nonneg d;have d8:(bi c).1.tdiv 8=(bi c).1 / 8:=Int.tdiv_eq_ediv_of_nonneg d;rw[n,d8]at a⊢;have m:bJ .u64 ((bi c).1 / 8)=(bi c).1 / 8:=bY (k:= .u64) p_;rw[m]at a⊢;by_cases f:(bi c).1 % 8=7
  ·rw[f]at a;cases a
  have i:((bi c).1 % 8==7)=false:=beq_false_of_ne f;rw[i]at a⊢;simp only[jm]at a⊢;by_cases g:(bi c).1 / 8 < 1
  ·rw[jK g]at a;cases a
  rw[jF g]at a⊢;by_cases b:65535 < (bi c).1 / 8
  ·rw[jK b]at a;cases a
  rw[jF b];have l:bJ .i64 ((bi c).1 / 8)=(bi c).1 / 8:=bY (k:= .i64) p_;have j:bJ .i64 ((bi c).1 % 8)=(bi c).1 % 8:=bY (k:= .i64) p_;simp only[jm,l,j];omega
theorem aoT {c:ah}(h:ig c)(a:(lg c).2.2=0):rOk (lg c).1:=by
 have k:=qF h;have kr:=fun a=>atU (c:=c) a h
 unfold lg VA at a⊢;simp only[bG,bF,aN,ay]at a⊢;generalize dZ c=b at*;cases e:b.2.2.2 !=0 with
 | true=>
  rw[e]at a;have a:b.2.2.2=0:=a;rw[a]at e;cases e
 | false=>
  obtain⟨m,r⟩:=k (bW.1 e);obtain⟨o,l⟩:=kr (bW.1 e);rw[e]at a;simp only[jm]at a⊢;have s:=lJ m.1 (n:=1);generalize oZ b.2.2.1 1=i at*;cases g:i.2 !=0 with
  | true=>
   rw[g]at a;have a:i.2=0:=a;rw[a]at g;cases g
  | false=>
   obtain⟨p,_⟩:=s (bW.1 g);rw[g]at a;simp only[jm]at a⊢;obtain⟨t1,t2,t3,t4,t5⟩:=aiN p.1 (f:=Raw.mk b.1 b.2.1 0 []) l rfl rfl;generalize eQ i.1 (Raw.mk b.1 b.2.1 0 [])=d at*;cases j:d.2.1 !=0 with
   | true=>
    rw[j]at a;have a:d.2.1=0:=a;rw[a]at j;cases j
   | false=>
    have t1:d.2.2.Num=b.1:=t1;have t2:d.2.2.eF=b.2.1:=t2;have t4:b.2.1<=2->d.2.2.Data=[]:=t4;have t5:3<=b.2.1->d.2.2.Bits=0:=t5;show rOk d.2.2
    exact as9 (by rw[t1];exact o) (by rw[t2];exact l) t3 (fun q=>t4 au) (fun q=>t5 au)
theorem Aj {wire:Int}{r:ae}(h:ig r.c):jQ (gq wire r).1.Bits:=by
 unfold gq yG;simp only[bG,bF,aN,ay];cases wire==3 with
 | true=>
  simp only[cond_true];cases(jb r).2.1 !=0<;>exact u0
 | false=>
  simp only[jm];cases wire==2 with
  | true=>exact agK
  | false=>exact(jv h).1
theorem arU {c:ah}(h:ig c){b:Int}(a:(Bz c b).2.2=0):((Bz c b).1.length:Int)+1<=(Bz c b).2.1.At - c.At:=by
 obtain⟨j,k⟩:=jv h;unfold Bz aaJ at a⊢;simp only[bG,bF,aN,ay,gz]at a⊢;cases e:(bi c).2.2 !=0 with
 | true=>
  rw[e]at a;have a:(bi c).2.2=0:=a;rw[a]at e;cases e
 | false=>
  obtain⟨f,v⟩:=k (bW.1 e);have d:=f.1;have kl:=nJ d;have l:thenS (bif b==3 then(Sum.inl c.Text:Int⊕(Str×ah×Int))else Sum.inl 65536)=thenS (.inl (bif b==3 then c.Text else 65536)):=by cases b==3<;>rfl
  rw[e]at a;simp only[jm]at a⊢;rw[l]at a⊢;simp only[fG]at a⊢;obtain⟨⟨q,r,y,n⟩,p⟩:=d;obtain⟨w,u2⟩:=j;rw[kl,bY (k:= .u64) p_]at a⊢;by_cases g:(bi c).2.1.End - (bi c).2.1.At < (bi c).1
  ·rw[jK g]at a;cases a
  rw[jF g]at a⊢;rw[bY (k:= .i64) p_]at a⊢;by_cases i:(bif b==3 then c.Text else 65536) < (bi c).1
  ·rw[jK i]at a;cases a
  rw[jF i];simp only[jm];rw[bY (k:= .i64) p_];obtain⟨_,o,s,m,x,t,u⟩:=f;show((List.drop (bi c).2.1.At.toNat (List.take ((bi c).2.1.At+(bi c).1).toNat (bi c).2.1.Data)).length:Int)+1<=(bi c).2.1.At+(bi c).1 - c.At
  rw[Qbe,C9];omega
theorem aac {c:ah}(h:ig c){f:Raw}(g:f.Data=[])(b:(eQ c f).2.1=0):((eQ c f).2.2.Data.length:Int)+1<=(eQ c f).1.At - c.At:=by
 have i:=Ju h b;have j:∀K:Bool->ah×Int×Raw,(thenS (bif f.eF==0 then(Sum.inl (f.eF==0):Bool⊕(ah×Int×Raw))else Sum.inl (f.eF==1)) K)=K (bif f.eF==0 then true else f.eF==1):=fun K=>by cases e:f.eF==0<;>rfl
 have a:=i.1.2.2.2.2.2.2;unfold eQ yH at b a⊢;simp only[bG,bF,aN,ay,gz]at b a⊢;rw[j]at b a⊢;cases e:(bif f.eF==0 then true else f.eF==1)with
 | true=>
  rw[e]at a;simp only[cond_true,g]at a⊢;simp only[BP];omega
 | false=>
  rw[e]at b a;cases d:f.eF==2 with
  | true=>
   rw[d]at a;simp only[cond_true,jm,g]at a⊢;simp only[BP];omega
  | false=>rw[d]at b;exact arU h b
theorem aaB {c:ah}(h:ig c)(a:(lg c).2.2=0):((lg c).1.Data.length:Int)+1<=(lg c).2.1.At - c.At:=by
 have k:=qF h;unfold lg VA at a⊢;simp only[bG,bF,aN,ay]at a⊢;generalize dZ c=b at*;cases e:b.2.2.2 !=0 with
 | true=>
  rw[e]at a;have a:b.2.2.2=0:=a;rw[a]at e;cases e
 | false=>
  obtain⟨j,p⟩:=k (bW.1 e);rw[e]at a;simp only[jm]at a⊢;have s:=lJ j.1 (n:=1);generalize oZ b.2.2.1 1=i at*;cases d:i.2 !=0 with
  | true=>
   rw[d]at a;have a:i.2=0:=a;rw[a]at d;cases d
  | false=>
   obtain⟨m,q,o,_⟩:=s (bW.1 d);rw[d]at a;simp only[jm]at a⊢;have t:=aac m.1 (f:=Raw.mk b.1 b.2.1 0 []) rfl;generalize eQ i.1 (Raw.mk b.1 b.2.1 0 [])=l at*;cases g:l.2.1 !=0 with
   | true=>
    rw[g]at a;have a:l.2.1=0:=a;rw[a]at g;cases g
   | false=>
    have t:=t (bW.1 g);have r:=j.2.2.2.2.2.2;simp only[jm];omega
theorem aqn {c:ah}{n:Int}:(xJ c n).1.length<=n.toNat:=by
 unfold xJ abE;simp only[bG,bF,aN,ay,Qa7];(repeat' split)<;>first | exact Jd _ | skip
 show(txU (OA c n)).length<=_
 rw[aAa];unfold OA VS;simp only[bG,bF,ay,C9];omega
theorem wI {wire:Int}{r:ae}(h:ig r.c)(a:(gq wire r).2.1=0):AA 1 r.c (gq wire r).2.2.c/\(gq wire r).2.2.p=r.p/\((gq wire r).1.Data.length:Int)+1<=(gq wire r).2.2.c.At - r.c.At/\(gq wire r).1.Data.length<=1048576/\(gq wire r).2.2.c.Nodes=r.c.Nodes:=by
 have g:AA 1 r.c (gq wire r).2.2.c/\(gq wire r).2.2.p=r.p/\((gq wire r).1.Data.length:Int)+1<=(gq wire r).2.2.c.At - r.c.At/\(gq wire r).2.2.c.Nodes=r.c.Nodes:=by
  unfold gq yG at a⊢;simp only[bG,bF,aN,ay]at a⊢;cases i:wire==3 with
  | true=>
   rw[i]at a;simp only[cond_true]at a⊢;have k:=mr h;generalize jb r=d at*;cases e:d.2.1 !=0 with
   | true=>
    rw[e]at a;have a:d.2.1=0:=a;rw[a]at e;cases e
   | false=>
    rw[e]at a;simp only[jm]at a⊢;obtain⟨b,f,l,s,q⟩:=k (bW.1 e);obtain⟨t1,t2,t3,t4⟩:=aq3 b.1 (n:=d.1) a;have t5:=aqn (c:=d.2.2.c) (n:=d.1);have j:=b.2.2.2.2.2.2;exact⟨iC (iM b t1) jy,l,by show(((xJ d.2.2.c d.1).1.length:Nat):Int)+1<=(xJ d.2.2.c d.1).2.1.At - r.c.At;omega,t2.trans f⟩
  | false=>
   rw[i]at a;simp only[jm]at a⊢;cases e:wire==2 with
   | true=>
    rw[e]at a;simp only[cond_true]at a⊢;obtain⟨b,f⟩:=YG h a;have j:=b.2.2.2.2.2.2;exact⟨b,by trivial,by simp only[BP];omega,f⟩
   | false=>
    rw[e]at a;simp only[jm]at a⊢;obtain⟨b,f⟩:=(jv h).2 a;have j:=b.2.2.2.2.2.2;exact⟨b,by trivial,by simp only[BP];omega,f⟩
 obtain⟨f1,f2,f3,f4⟩:=g;refine⟨f1,f2,f3,?_,f4⟩;obtain⟨⟨m,o,t,p⟩,_⟩:=f1.1;obtain⟨⟨u,_⟩,_⟩:=h;omega
theorem xk (v:af)(a:Int):((dG v a).2=true/\∃s∈v.Slots,s.Num=a/\s.Val=(dG v a).1)\/((dG v a).2=false/\(dG v a).1=af.mk 0 0 [] [] [] [] []):=by
 unfold dG avT;simp only[gm,fM];refine IR (d:=iV) (Q:=fun(r:af×Bool)=>(r.2=true/\∃s∈v.Slots,s.Num=a/\s.Val=r.1)\/(r.2=false/\r.1=af.mk 0 0 [] [] [] [] [])) (fun _ _=>True) v.Slots 0 () trivial (fun j y b _=> ?_) (fun y _=> ?_)
 ·simp only[dN,aN,ay,zM];cases e:(v.Slots.getD j iV).Num==a with
  | true=>exact .inl ⟨rfl,_,getD_mem b,eq_of_beq e,by rw[af.dn]⟩
  | false=>trivial
 ·exact .inr ⟨rfl,rfl⟩
theorem arj {A:Type}{f:A->Nat}(p:A->Bool)(l:List A):wG f l=wG f (l.filter p)+wG f (l.filter fun a=> !p a):=by
 induction l with
 | nil=>rfl
 | cons a l b=>
  simp only[List.filter_cons];cases p a<;>simp[wG,b]<;>omega
theorem VF (g:bC)(v:af)(o:Op)(x:af)(h:v.Slots.length<=1048576):∃l,l.Sublist (v.Slots.filter fun s=> !(s.Num==o.Num))/\ut g v o x=af.mk 10 0 [] [] [] (l++[Slot.mk o.Num x]) v.dH:=(aip g v o x h).2
theorem Hf {g:bC}{v:af}{o:Op}{x:af}(h:v.Slots.length<=1048576):tV (ut g v o x)+(bif (dG v o.Num).2 then 1+tV (dG v o.Num).1 else 0)<=tV v+1+tV x:=by
 obtain⟨l,k,j⟩:=VF g v o x h;have q:=nD v;have n:wG tS l<=wG tS (v.Slots.filter fun s=> !(s.Num==o.Num)):=UE k;have r:=arj (f:=tS) (fun s:Slot=> !(s.Num==o.Num)) v.Slots;have p:=PM v.Slots;have e:tV (ut g v o x)=1+(wG tS l+(1+tV x))+tRs v.dH:=by
  rw[j,nD];simp only[af.Text,af.List,af.Pairs,af.Slots,af.dH,tVs,tPs,BP];rw[PM,Aw];simp only[wG,abq,Slot.Val];omega
 rw[e];rcases xk v o.Num with⟨b,s,d,m,c⟩ | ⟨b,_⟩
 ·have b:(dG v o.Num).2=true:=b;have c:s.Val=(dG v o.Num).1:=c;rw[b,<-c];have i:tS s<=wG tS (v.Slots.filter fun a=> !!(a.Num==o.Num)):=Ve (ZT.2 ⟨d,by simp[m]⟩);rw[abq]at i;simp only[cond_true];omega
 ·have b:(dG v o.Num).2=false:=b;rw[b];simp only[jm];omega
theorem G8 {g:bC}{v:af}{o:Op}{x:af}(h:v.Slots.length<=1048576)(c:kV v)(b:kV x):kV (ut g v o x):=by
 obtain⟨l,f,e⟩:=VF g v o x h;have i:=((kK v).1 c).1.2;have d:=((kK v).1 c).2.2.2;rw[e,kK];refine⟨⟨u0,i⟩,fun x b=>absurd b (Qbq),fun x b=>absurd b (Qbq),fun y a=> ?_⟩;have a:y∈l++[Slot.mk o.Num x]:=a;rcases vN.1 a with a | a
 ·exact d y (ZT.1 (f.subset a)).1
 ·rw[FY.1 a];exact b
theorem Be {v:af}{a:Int}(e:kV v):kV (dG v a).1:=by
 rcases xk v a with⟨d,s,b,f,c⟩ | ⟨d,b⟩
 ·have c:s.Val=(dG v a).1:=c;rw[<-c];exact((kK v).1 e).2.2.2 s b
 ·have b:(dG v a).1=_:=b;rw[b];exact(kE 0 0 [] u0).1
theorem IB {v:af}{num:Int}:tV (dG v num).1<=tV v/\((dG v num).2=false->tV (dG v num).1=1):=by
 rcases xk v num with⟨b,s,a,d,c⟩ | ⟨b,a⟩
 ·have c:s.Val=(dG v num).1:=c;have b:(dG v num).2=true:=b;refine⟨?_,fun h=>by rw[b]at h;cases h⟩;have:=an_ a;have:=nD v;rw[<-c];omega
 ·have a:(dG v num).1=_:=a;have e:tV (dG v num).1=1:=by rw[a];simp[tV,tVs,tPs,tSs,tRs]
  exact⟨by have:=xM v;omega,fun _=>e⟩
theorem Aa (l x:af):pJ l x=af.mk 11 0 [] (l.List++[x]) [] [] []:=by
 unfold pJ UF;simp only[gm,bG,ay,JG,af.dn]
theorem PQ {l x:af}:tV (pJ l x)<=tV l+1+tV x:=by
 rw[Aa,nD,nD l];simp only[af.Text,af.List,af.Pairs,af.Slots,af.dH,tPs,tSs,tRs,BP];rw[P8,P8,Aw];simp only[wG];omega
theorem PR {l x:af}(d:kV l)(b:kV x):kV (pJ l x):=by
 have c:=((kK l).1 d).2.1;rw[Aa,kK];refine⟨⟨u0,fun x b=>absurd b (Qbq)⟩,fun y a=> ?_,fun x b=>absurd b (Qbq),fun y a=>absurd a (Qbq)⟩;have a:y∈l.List++[x]:=a;rcases vN.1 a with a | a
 ·exact c y a
 ·rw[FY.1 a];exact b
theorem D6 (v:af)(f:Raw):qX v f=af.mk v.Kind v.Bits v.Text v.List v.Pairs v.Slots (v.dH++[f]):=by
 unfold qX aeZ;simp only[gm,bG,ay,JG]
theorem XH {v:af}{f:Raw}:tV (qX v f)=tV v+1+f.Data.length:=by
 rw[D6,nD,nD v];simp only[af.Text,af.List,af.Pairs,af.Slots,af.dH];rw[V7,V7,Aw];simp only[wG];cases v;simp only[af.Text,af.List,af.Pairs,af.Slots,af.dH];omega
theorem Xq {v:af}{f:Raw}(a:kV v)(b:rOk f):kV (qX v f):=by
 have h:=(kK v).1 a;rw[D6,kK];exact⟨⟨h.1.1,fun r c=>(vN.1 c).elim (h.1.2 r) fun e=>by rw[FY.1 e];exact b⟩,h.2⟩
theorem WP {p:aJ}{o:Op}{f:Raw}(e:jQ f.Bits)(d:(rZ p o f).2=0):tV (rZ p o f).1<=1+f.Data.length/\kV (rZ p o f).1/\(rZ p o f).1.Kind=o.Kind/\j_ o.Kind=true:=by
 unfold rZ Un at d⊢;simp only[bG,bF,aN,ay,gz,af.dn]at d⊢;cases j:j_ o.Kind with
 | false=>rw[j]at d;cases d
 | true=>
  rw[j]at d;simp only[Qbj,jm]at d⊢;cases i:f.eF !=rG o with
  | true=>rw[i]at d;cases d
  | false=>
   rw[i]at d;simp only[jm]at d⊢;cases l:f.eF==3 with
   | true=>
    rw[l]at d;simp only[cond_true]at d⊢;have k:=kE o.Kind 0 f.Data u0;cases g:o.Kind==7 with
    | true=>
     rw[g]at d;simp only[cond_true]at d⊢;cases h:Ib f.Data with
     | false=>rw[h]at d;cases d
     | true=>exact⟨Qdo k.2,k.1,by trivial,by trivial⟩
    | false=>exact⟨Qdo k.2,k.1,by trivial,by trivial⟩
   | false=>
    rw[l]at d;simp only[jm]at d⊢;have t:∀(c:Bool) (K:af->af×Int) (a b:af),thenS (bif c then(Sum.inl a:af⊕(af×Int))else Sum.inl b) K=K (bif c then a else b):=fun c K a b=>by cases c<;>rfl
    rw[t]at d⊢;have e:∃bits,(bif f.eF==1 then af.mk o.Kind (bJ .u64 (ao2 f.Bits)) [] [] [] [] []else af.mk o.Kind f.Bits [] [] [] [] [])=af.mk o.Kind bits [] [] [] [] []/\jQ bits:=by cases f.eF==1<;>first | exact⟨_,rfl,e⟩ | exact⟨_,rfl,aCy _⟩
    obtain⟨bits,e,s⟩:=e;rw[e]at d⊢;obtain⟨m,n⟩:=kE o.Kind bits [] s;have q:tV (kQ (af.mk o.Kind bits [] [] [] [] []))<=1+f.Data.length/\kV (kQ (af.mk o.Kind bits [] [] [] [] []))/\(kQ (af.mk o.Kind bits [] [] [] [] [])).Kind=o.Kind/\True:=
     ⟨by rw[aer,n];simp,ad4 m,(Ar _).1,trivial⟩
    cases g:KO o.Kind (af.mk o.Kind bits [] [] [] [] [])with
    | false=>rw[g]at d;cases d
    | true=>
     rw[g]at d;simp only[Qbj,jm]at d⊢;cases h:o.Kind==9 with
     | false=>exact⟨q.1,q.2.1,q.2.2.1,by trivial⟩
     | true=>
      rw[h]at d;simp only[cond_true]at d⊢;cases r:BM p o.Target (af.mk o.Kind bits [] [] [] [] []).Bits with
      | false=>rw[r]at d;cases d
      | true=>exact⟨q.1,q.2.1,q.2.2.1,by trivial⟩
def alS (p:aJ)(o:Op):Prop:=(o.Kind=10->0<=o.Target/\o.Target < p.aO.length)/\(o.Card=5->j_ o.Key=true)/\1<=o.Num/\o.Num<=65535
def mf (p:aJ):Prop:=∀g∈p.aO,g.Ops.length<=1048576/\∀o∈g.Ops,alS p o
def rq (v:af)(r:ae):Prop:=ig r.c/\mf r.p/\kV v/\(tV v:Int)+8*(r.c.End - r.c.At)<=1048576
def FP (k s:Int)(v:af)(r:ae)(x:af×Int×ae):Prop:=x.2.1=0->x.2.2.p=r.p/\AA k r.c x.2.2.c/\kV x.1/\(tV x.1:Int)+s<=tV v+8*(x.2.2.c.At - r.c.At)
theorem aCh {v:af}{r:ae}(h:rq v r):gV v:=⟨h.2.2.1,by obtain⟨⟨⟨d,c,b,a⟩,_⟩,_,_,e⟩:=h;omega⟩
theorem sK {v:af}{r:ae}(h:rq v r):v.dH.length<=1048576/\v.Slots.length<=1048576/\v.List.length<=1048576/\oJ v.Pairs:=uS (aCh h)
theorem aAd {k s:Int}{v w:af}{r a:ae}(h:rq v r)(i:0<=s)(e:a.p=r.p)(b:AA k r.c a.c)(d:kV w)(l:(tV w:Int)+s<=tV v+8*(a.c.At - r.c.At)):rq w a:=by
 obtain⟨m,c,j,g⟩:=h;have f:=b.2.2.1;exact⟨b.1,by rw[e];exact c,d,by omega⟩
theorem g_ {k s:Int}{v:af}{r:ae}{x:af×Int×ae}(h:¬x.2.1=0):FP k s v r x:=fun e=>absurd e h
theorem C_ {v:af}{r:ae}(h:rq v r)(num:Int):(dG v num).1.List.length<=1048576/\oJ (dG v num).1.Pairs:=by
 have b:=aCh h;have a:gV (dG v num).1:=⟨Be b.1,by have:=(IB (v:=v) (num:=num)).1;have:=b.2;omega⟩;exact⟨(uS a).2.2.1,(uS a).2.2.2⟩
theorem yI {r:ae}{n:Int}(h:ig r.c)(a:(nO n r).1=0):(nO n r).2.p=r.p/\AA 0 r.c (nO n r).2.c/\(nO n r).2.c.At=r.c.At:=by
 unfold nO akp at a⊢;simp only[bF,ay]at a⊢;obtain⟨b,d,c,_⟩:=lJ h a;exact⟨by trivial,b,c⟩
theorem aa1 {c:ah}(h:ig c)(a:(DX c).2.2=0):AA 1 c (DX c).2.1/\(DX c).2.1.Nodes=c.Nodes/\(DX c).2.1.At=c.At+1:=by
 have d:=nJ h;unfold DX aiJ at a⊢;simp only[dN,bF,aN,ay]at a⊢;rw[d]at a⊢;by_cases b:c.End - c.At < 1
 ·rw[jK b]at a;cases a
 rw[jF b];refine⟨IK h jy au jy,?_,?_⟩
 ·show(qV c 1).Nodes=_;rw[(CG h (n:=1) au au).1]
 ·show(qV c 1).At=_;rw[(CG h (n:=1) au au).1]
def oh (c:ah)(n:Int):ah:=ah.mk c.Data c.At (c.At+n) c.Depth c.Nodes c.Text
theorem Ou {c:ah}{n:Int}(h:ig c)(f:0<=n)(g:n<=c.End - c.At):ig (oh c n):=by
 obtain⟨⟨b,e,i,d⟩,a⟩:=h;exact⟨⟨b,by show c.At<=c.At+n;omega,by show c.At+n<=c.Data.length;omega,d⟩,a⟩
theorem Cb {r:ae}{n:Int}(h:ig r.c)(e:0<=n)(f:n<=r.c.End - r.c.At):XU n r=(r.c,ae.mk r.p (oh r.c n)):=by
 obtain⟨⟨b,c,g,d⟩,a⟩:=h;unfold XU aye oh;simp only[ay];rw[bY (k:= .i64) p_]
theorem VG {c d:ah}{n:Int}(h:ig c)(t:0<=n)(r:n<=c.End - c.At)(g:AA 0 (oh c n) d):AA n c (ah.mk c.Data d.End c.End c.Depth d.Nodes c.Text):=by
 obtain⟨⟨⟨l,j,m,o⟩,u,a,s⟩,d2,d3,d4,d5,d6,d7⟩:=g;obtain⟨⟨p,q,i,b⟩,f,k,e⟩:=h;have d3:d.End=c.At+n:=d3;have d6:d.Nodes<=c.Nodes:=d6;exact⟨⟨⟨by show 0<=d.End;omega,by show d.End<=c.End;omega,i,b⟩,f,⟨a.1,a.2⟩,e⟩,rfl,rfl,rfl,rfl,d6,by show c.At+n<=d.End;omega⟩
theorem at_end {c:ah}(h:ig c)(a:¬0 < oK c):c.At=c.End:=by
 rw[nJ h]at a;obtain⟨⟨b,d,f,e⟩,_⟩:=h;omega
theorem av5 {c d:ah}(h:ig c)(f:c.At<=d.End)(e:d.End<=c.End)(b:0<=d.Nodes)(a:d.Nodes<=c.Nodes):Et c d=ah.mk c.Data d.End c.End c.Depth d.Nodes c.Text:=by
 unfold Et ajl;simp only[aN,ay];rw[II h,jF (show ¬d.End < c.At by omega),jF (show ¬c.End < d.End by omega),jF (show ¬d.Nodes < 0 by omega),jF (show ¬c.Nodes < d.Nodes by omega)];rfl
theorem Wx {c:ah}(h:ig c){n:Int}(a:(I_ c n).2=0):I_ c n=(ah.mk c.Data c.At (c.At+n) (c.Depth - 1) c.Nodes c.Text,0)/\0<=n/\n<=c.End - c.At/\1<=c.Depth:=by
 have f:=nJ h;obtain⟨⟨i,j,p,l⟩,⟨g,o⟩,m⟩:=h;unfold I_ adE at a⊢;simp only[bF,aN,ay]at a⊢;rw[f]at a⊢;by_cases e:n < 0
 ·rw[jK e]at a;cases a
 rw[jF e]at a⊢;by_cases d:c.End - c.At < n
 ·rw[jK d]at a;cases a
 rw[jF d]at a⊢;by_cases b:c.Depth < 1
 ·rw[jK b]at a;cases a
 rw[jF b];rw[bY (k:= .i64) (show FX .i64 (c.At+n) by simp only[FX];omega),bY (k:= .i64) (show FX .i64 (c.Depth - 1) by simp only[FX];omega)];exact⟨rfl,by omega,by omega,by omega⟩
def ahm (g:bC)(v:af)(o:Op)(r:ae):Pg (af×Int×ae):=.lt (nO 1 r) fun c=> .br (c.1 !=0) (.ret (v.re,c)) (.ob (ig c.2.c) (.lt (gq (rG o) c.2) fun a=> .br (a.2.1 !=0) (.ret (v.re,a.2)) (.ob (List.length a.1.Data<=1048576) (.lt (rZ a.2.2.p o a.1) fun b=> .br (b.2==16) (.ob (v.re.dH.length<=1048576) (.ret ((qX v.re (Raw.mk o.Num 0 a.1.Bits [])).re,0,a.2.2))) (.br (b.2 !=0) (.ret (v.re,b.2,a.2.2)) (.br (o.Card !=4) (.ob (v.re.Slots.length<=1048576) (.ret ((ut g v.re o b.1.re).re,0,a.2.2))) (.lt (ut g v.re o (pJ (dG v.re o.Num).1.re b.1.re).re) fun f=> .lt (dG v.re o.Num) fun e=> .br (!e.2) (.lt (nO 1 a.2.2) fun d=> .br (d.1 !=0) (.ret (v.re,d)) (.ob (e.1.re.List.length<=1048576) (.ob (v.re.Slots.length<=1048576) (.ret (f.re,0,d.2))))) (.ob (e.1.re.List.length<=1048576) (.ob (v.re.Slots.length<=1048576) (.ret (f.re,0,a.2.2)))))))))))
def xW (g:bC)(v:af)(o:Op)(r:ae):=(ahm g v o r).val
theorem Lt (g:bC)(v:af)(o:Op)(r:ae)(h:rq v r/\1<=o.Num/\o.Num<=65535):kw (ahm g v o r) (FP 1 0 v r):=
 by
 obtain⟨h,H⟩:=h;have b:=sK h;have y:=C_ h o.Num;have w:=h.1;unfold ahm;simp only[af.dn];refine aI fun P F=>dY (fun a=>ai (g_ a)) fun D=> ?_;rw[F]at D⊢;obtain⟨K,m,Q⟩:=yI w D;generalize nO 1 r=G at*;refine aj m.1 (aI fun U z=>dY (fun a=>ai (g_ a)) fun u=> ?_);rw[z]at u⊢;obtain⟨O,I,c3,J,_⟩:=wI m.1 u;have A:=Aj (wire:=rG o) m.1;generalize gq (rG o) G.2=c at*;have n:c.2.2.p=r.p:=I.trans K;have d:AA 1 r.c c.2.2.c:=iC (iM m O) jy;have T:=d.2.2.1;have V:=d.2.2.2.2.2.2;refine aj J (aI fun W t=>dR (fun s=>aj b.1 (ai fun _=>⟨n,d,Xq h.2.2.1 (as9 (f:=Raw.mk o.Num 0 c.1.Bits []) H ⟨ZU 0,(by decide:(0:Int)<=6)⟩ A (fun _=>rfl) (fun s=>absurd s (by decide:¬(3:Int)<=0))),?_⟩)) fun s=>dY (fun a=>ai (g_ a)) fun B=> ?_)
 ·show(tV (qX v (Raw.mk o.Num 0 c.1.Bits [])):Int)+0<=tV v+8*(c.2.2.c.At - r.c.At)
  rw[XH];simp only[BP];omega
 rw[t]at B⊢;obtain⟨Y,q,k3,R⟩:=WP A B;generalize rZ c.2.2.p o c.1=i at*;have t1:=Hf (g:=g) (v:=v) (o:=o) (x:=i.1) b.2.1;refine dY (fun a=>aj b.2.1 (ai fun _=>⟨n,d,G8 b.2.1 h.2.2.1 q,?_⟩)) fun h5=>aI fun C e=>aI fun X k=>dL (fun j=>aI fun Z E=>dY (fun a=>ai (g_ a)) fun p=> ?_) (fun j=> ?_)
 ·show(tV (ut g v o i.1):Int)+0<=tV v+8*(c.2.2.c.At - r.c.At)
  omega
 ·rw[E]at p⊢;obtain⟨M,N,S⟩:=yI d.1 p;rw[k];refine aj y.1 (aj b.2.1 (ai fun _=>⟨M.trans n,iC (iM d N) jy,by rw[e];exact G8 b.2.1 h.2.2.1 (PR (Be h.2.2.1) q),?_⟩));show(tV C:Int)+0<=tV v+8*((nO 1 c.2.2).2.c.At - r.c.At)
  have t2:=Hf (g:=g) (v:=v) (o:=o) (x:=pJ (dG v o.Num).1 i.1) b.2.1;have t3:=PQ (l:=(dG v o.Num).1) (x:=i.1);have t4:=(IB (v:=v) (num:=o.Num)).2 (by rw[k]at j;simpa using j);rw[<-e]at t2;omega
 ·rw[k]at j⊢;refine aj y.1 (aj b.2.1 (ai fun _=>⟨n,d,by rw[e];exact G8 b.2.1 h.2.2.1 (PR (Be h.2.2.1) q),?_⟩));show(tV C:Int)+0<=tV v+8*(c.2.2.c.At - r.c.At)
  have t2:=Hf (g:=g) (v:=v) (o:=o) (x:=pJ (dG v o.Num).1 i.1) b.2.1;have t3:=PQ (l:=(dG v o.Num).1) (x:=i.1);have L:(dG v o.Num).2=true:=by simpa using j
  rw[<-e,L]at t2;simp only[cond_true]at t2;omega
def axw:bT Z:=E1B [Gt,Md,aiZ,NL,ad1,abT,SC,aaL] [] (ax (lm 0) (ax (aQ jV) (ax (aQ aH) (a1 (aQ jD))))) (b1 (cZ a_)) (shr [.slot 0 true (nn 7), s0 1, .cells 0 (nn 8)] (aC aH (aC cI (l1 a_)))) [] func268 2 (fun a=>ahm a.1.2.1 a.1.2.2.1 a.1.2.2.2 a.2) (fun a=>rq a.1.2.2.1 a.2/\1<=a.1.2.2.2.Num/\a.1.2.2.2.Num<=65535) fun a h=>(Lt a.1.2.1 a.1.2.2.1 a.1.2.2.2 a.2 h).1
def abm (g:bC)(v:af)(o:Op)(r:ae):Pg (af×Int×ae):=.ob (ig r.c) (.lt (jb r) fun e=> .br (e.2.1 !=0) (.ret (v.re,e.2)) (.lt (XU e.1 e.2.2) fun b=> .ob (ig b.2.c) (.lt (DX b.2.c) fun c=> .br (c.2.2 !=0) (.ret (v.re,c.2.2,b.2)) (.lt (bJ .i64 c.1) fun i=> .br (i !=rG o) (.ret (v.re,13,ae.mk b.2.p c.2.1)) (.cut (fun(h:ae×af)=> .wh ((r.c.End - r.c.At).toNat+1) default (fun(a:ae×af)=> .lt (oK a.1.c) fun j=> .br (decide (0 < j)) (.ob (rq a.2.re a.1/\1<=o.Num/\o.Num<=65535) (.lt (xW g a.2.re o a.1) fun d=> .br (d.2.1 !=0) (.ret (.inr (d.1.re,d.2))) (rl (d.2.2,d.1.re)))) (.ret (.inr (a.2.re,0,af6 b.1 a.1)))) (h.1,h.2.re)) (.br (!(dG v.re o.Num).2) (.lt (nO 1 (ae.mk b.2.p c.2.1)) fun f=> .br (f.1 !=0) (.ret (.inr (v.re,f))) (.ob (v.re.Slots.length<=1048576) (rl (f.2,(ut g v.re o (af.mk 11 0 [] [] [] [] [])).re)))) (rl (ae.mk b.2.p c.2.1,v.re))))))))
def aEd (g:bC)(v:af)(o:Op)(r:ae):=(abm g v o r).val
theorem abJ (g:bC)(v:af)(o:Op)(r:ae)(h:rq v r/\1<=o.Num/\o.Num<=65535):kw (abm g v o r) (FP 0 0 v r):=
 by
 obtain⟨h,C⟩:=h;have p:=sK h;have j:=h.1;unfold abm;simp only[af.dn];refine aj j (aI fun v3 B=>dY (fun b=>ai (g_ b)) fun J=> ?_);rw[B]at J⊢;obtain⟨l1,l2,E,n,q⟩:=mr j J;generalize jb r=a at*;have l7:=l1.2.2.2.2.2.2;have le:=l1.2.2.1;have K:=Ou l1.1 n q;rw[Cb l1.1 n q];refine aI fun v4 F=> ?_;subst F;refine aj K (aI fun v5 O=>dY (fun b=>ai (g_ b)) fun G=>aI fun v6 ag=>dY (fun b=>ai (g_ qcf)) fun h6=> ?_);rw[O]at G⊢;obtain⟨b1,R,M⟩:=aa1 K G;show kw (Pg.cut _ _) _
 dsimp only at b1 R M⊢;generalize DX (oh a.2.2.c a.1)=f at*;have e:(oh a.2.2.c a.1).At=a.2.2.c.At:=rfl;have u:(oh a.2.2.c a.1).End=a.2.2.c.At+a.1:=rfl;rw[e]at M;refine bP (fun y=>y.1.p=r.p/\AA 0 (oh a.2.2.c a.1) y.1.c/\kV y.2/\(tV y.2:Int)<=tV v+8*(y.1.c.At - a.2.2.c.At)) ?_ (fun y A=>qJ (fun x=>x.1.p=r.p/\AA 0 (oh a.2.2.c a.1) x.1.c/\kV x.2/\(tV x.2:Int)<=tV v+8*(x.1.c.At - a.2.2.c.At)) (fun x=>(x.1.c.End - x.1.c.At).toNat) A ?_ fun x T=> ?_)
 ·refine dL (fun Z=>aI fun v9 s=>dY (fun b=>ai (g_ b)) fun w=> ?_) (fun Z=>ai ⟨E,iC b1 jy,h.2.2.1,by show(tV v:Int)<=tV v+8*(f.2.1.At - a.2.2.c.At);omega⟩);rw[s]at w⊢;obtain⟨i,c,d⟩:=yI (r:=ae.mk a.2.2.p f.2.1) b1.1 w;refine aj p.2.1 (ai ⟨i.trans E,iC (iM b1 c) jy,G8 p.2.1 h.2.2.1 (kE 11 0 [] u0).1,?_⟩);have t2:=Hf (g:=g) (v:=v) (o:=o) (x:=af.mk 11 0 [] [] [] [] []) p.2.1;have t3:=(kE 11 0 [] u0).2;have d:(nO 1 (ae.mk a.2.2.p f.2.1)).2.c.At=f.2.1.At:=d;simp only[BP]at t3;show(tV (ut g v o (af.mk 11 0 [] [] [] [] [])):Int)<=tV v+8*((nO 1 (ae.mk a.2.2.p f.2.1)).2.c.At - a.2.2.c.At)
  omega
 ·obtain⟨y1,⟨⟨⟨q1,q2,q3,q4⟩,_⟩,ac,L,ab,ad,al,I⟩,y3,y4⟩:=A;rw[u]at L;rw[e]at I;have:=j.1.1;show(y.1.c.End - y.1.c.At).toNat < (r.c.End - r.c.At).toNat+1
  omega
 ·obtain⟨i,c,d,x4⟩:=T;have S:=c.2.2.1;have X:=c.2.2.2.2.2.2;rw[u]at S;rw[e]at X;have l:rq x.2 x.1:=⟨c.1,by rw[i];exact h.2.1,d,by have:=h.2.2.2;omega⟩;refine aI fun v7 D=>bQ (fun aa=> ?_) (fun m=>ai ?_)
  ·refine aj ⟨l,C⟩ (aI fun v8 U=>dY (fun b=>ai (g_ b)) fun P=>ai ?_);rw[U]at P⊢;obtain⟨V,k,Y,N⟩:=(Lt g x.2 o x.1 ⟨l,C⟩).2 P;have H:=k.2.2.2.2.2.2;have t:=k.2.2.1;have z:=k.1.1.2.1;refine⟨⟨V.trans i,iC (iM c k) jy,Y,?_⟩,?_⟩
   ·show(tV (xW g x.2 o x.1).1:Int)<=tV v+8*((xW g x.2 o x.1).2.2.c.At - a.2.2.c.At)
    have N:(tV (xW g x.2 o x.1).1:Int)+0<=tV x.2+8*((xW g x.2 o x.1).2.2.c.At - x.1.c.At):=N;omega
   ·show((xW g x.2 o x.1).2.2.c.End - (xW g x.2 o x.1).2.2.c.At).toNat < (x.1.c.End - x.1.c.At).toNat
    have H:x.1.c.At+1<=(xW g x.2 o x.1).2.2.c.At:=H;have t:(xW g x.2 o x.1).2.2.c.End=x.1.c.End:=t;have z:(xW g x.2 o x.1).2.2.c.At<=(xW g x.2 o x.1).2.2.c.End:=z;omega
  ·rw[D]at m;have W:=at_end c.1 m;have Q:=VG l1.1 n q c;refine fun _=>⟨i,iC (iM l1 Q) au,d,?_⟩;show(tV x.2:Int)+0<=tV v+8*(x.1.c.End - r.c.At)
   omega
def aBm:bT Z:=E1B [Gt,Md,Au,NL,axw,I8,anO,abP,ad1,azt] [jS 17 (dh (fun b=>[.cells (pid (b 0)) (nn 8), .cells (pid (b 6)) (nn 7)]) (aC a_ (l1 aH))),jS 100017 (dh (fun b=>[.cells (pid (b 0)) (nn 8), .cells (pid (b 6)) (nn 7)]) (aC a_ (l1 aH)))] (ax (lm 0) (ax (aQ jV) (ax (aQ aH) (a1 (aQ jD))))) (b1 (cZ a_)) (shr [.slot 0 true (nn 7), s0 1, .cells 0 (nn 8)] (aC aH (aC cI (l1 a_)))) [] func265 2 (fun a=>abm a.1.2.1 a.1.2.2.1 a.1.2.2.2 a.2) (fun a=>rq a.1.2.2.1 a.2/\1<=a.1.2.2.2.Num/\a.1.2.2.2.Num<=65535) fun a h=>(abJ a.1.2.1 a.1.2.2.1 a.1.2.2.2 a.2 h).1
end
end Go.Proofs.YtenjjcfebflefaaGreatDoor
