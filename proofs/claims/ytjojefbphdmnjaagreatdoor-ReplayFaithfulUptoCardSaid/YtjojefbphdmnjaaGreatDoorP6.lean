/- Server: merging, what is left out; sorting. -/
import Derived.Test.YtjojefbphdmnjaaGreatDoorP5
namespace Go.Proofs.YtjojefbphdmnjaaGreatDoor
noncomputable section
open Go.RowKit Go.Vc
open Tryz
set_option linter.unusedVariables false
set_option linter.unusedSimpArgs false
set_option maxRecDepth 100000
def moC (g:aB)(f:aB)(b:AVal):Pg Bool:=.br (g.Num !=f.Num) (.ret (aGh b.re g.Num)) (.ret false)
def aEx (g:aB)(f:aB)(b:AVal):=(moC g f b).val
def apr:Ent Z:=vz [aDz] [] (aCons (aAgg dA) (aCons (fG 0) (a1 (fG 1)))) (eF (aF dA) (b1 (aF ay))) (R1 aj) [0,1] func429 1 fun a=>moC a.1.1 a.2.1 a.2.2
def aFR:Ent Z:=Me [apr] dS 429 [0,1] (eF (aF dA) (b1 (aF ay))) func389 ax fun x b=>aEx x b.1 b.2
def aFz:Ent Z:=EAB [SX,Yj,afP,aAI,aFR,apr] dS 429 [0,1] (eF (aF dA) (b1 (aF ay))) func289 fun x b=>aEx x b.1 b.2
def aiB (m:aH)(f:aB)(b:AVal):Pg Bool:=.ob (m.Fields.length<=1048576) (.ret ((ayY m f.Union).any fun(x:aB)=>aEx x (aB.mk f.Num f.Name f.Card f.Key f.cO f.Union f.bU f.Default.re f.Notes) b.re))
def asL (m:aH)(f:aB)(b:AVal):=(aiB m f b).val
def alM:Ent Z:=E1 [agq,aq4,aru,aFz,anG,apr] [] (aCons (aAgg dG) (aCons (aAgg dA) (a1 (aAgg ay)))) (R1 aj) [] func326 1 (u3 aiB) fun a=>a.1.Fields.length<=1048576
def mgC (x:Slot)(m:aH)(b:AVal):Pg Bool:=.ob (m.Fields.length<=1048576) (.lt (YU m x.Num) fun a=> .ret (asL m (aB.mk a.1.Num a.1.Name a.1.Card a.1.Key a.1.cO a.1.Union a.1.bU a.1.Default.re a.1.Notes) b.re))
def JD (x:Slot)(m:aH)(b:AVal):=(mgC x m b).val
def apq:Ent Z:=Ae [PD,alM] [] (aCons (aAgg jP) (aCons (fG 0) (a1 (fG 1)))) (eF (aF dG) (b1 (aF ay))) (R1 aj) [0,1] func325 1 (fun a=>mgC a.1.1 a.2.1 a.2.2) fun a=>a.2.1.Fields.length<=1048576
def mgI (l:List Slot)(m:aH)(b:AVal):Pg Int:=aL l (.each false m_ l bn (fun a c (d:Unit)=> .ix a l.length (.ob (a.toNat < l.length) (.ob (m.Fields.length<=1048576) (.br (JD (Slot.mk c.Num c.Val.re) m b.re) (.ret (.inr a)) (rl ()))))) (fun a (d:Unit)=> .ret (-1)) ())
theorem aBJ (l:List Slot)(m:aH)(b:AVal):(mgI l m b).val=eX (fun x=>JD x m b) l:=by
 unfold mgI;simp only[val_as,Ar,iY,val_ob,a_,val_ret,AVal.cZ];exact lJ (fun x=>JD x m b) l 0
theorem aBn (l:List Slot)(m:aH)(b:AVal)(h:m.Fields.length<=1048576):Is (mgI l m b):=
 bW fun _=>dh (.inr ah) (fun c a _ _=>aW ah ah (az ah (az h (is_br iR iR)))) (fun a _=>is_ret)
def aAi:Ent Z:=WO [apq] [jS 2 (aT (fun c=>[s0 8]) (l1 cI))] (aCons (lV 0) (a1 (ja 325 [1,2]))) (eF (jJ 287 D.Slot iD) (eF (aF dG) (b1 (aF ay)))) (R1 cI) [0,1,2] func374 1 (fun a=>mgI a.2.1 a.2.2.1 a.2.2.2) (fun a=>some (a.2.2.1.Fields.length<=1048576)) (fun a=>eX (fun(x:Slot)=>JD x a.2.2.1 a.2.2.2) a.2.1) fun a h=>⟨aBn a.2.1 a.2.2.1 a.2.2.2 h,(fun l m b _=>aBJ l m b) a.2.1 a.2.2.1 a.2.2.2 h⟩
def mgD (l:List Slot)(m:aH)(b:AVal):Pg (List Slot):=.ob (m.Fields.length<=1048576) (.lt (eX (fun(x:Slot)=>JD x m b.re) l) fun c=> .br (c==(-1)) (.ret l) (.lt (wrp .i64 (c+1)) fun f=> .wh (l.length+1) default (fun(a:Int×Int×List Slot)=> aL a.2.2 (.br (decide (a.1 < (↑a.2.2.length:Int))) (.ix a.1 a.2.2.length (.ob (a.1.toNat < a.2.2.length) (.ob (m.Fields.length<=1048576) (.lt (wrp .i64 (a.1+1)) fun e=> .br (!JD (Slot.mk (a.2.2.getD a.1.toNat bn).Num (a.2.2.getD a.1.toNat bn).Val.re) m b.re) (.ix a.2.1 a.2.2.length (.ob (a.2.1.toNat < a.2.2.length) (rl (e,wrp .i64 (a.2.1+1), a.2.2.set a.2.1.toNat (Slot.mk (a.2.2.getD a.1.toNat bn).Num (a.2.2.getD a.1.toNat bn).Val.re))))) (rl (e,a.2)))))) (.ob (0<=a.2.1/\a.2.1<=(↑a.2.2.length:Int)/\(↑a.2.2.length:Int)<=(↑a.2.2.length:Int)) (.ob (a.2.2.length=a.2.2.length) (.lt (List.take a.2.1.toNat a.2.2++ List.replicate (a.2.2.length - a.2.1.toNat) (Slot.mk 0 (AVal.mk 0 0 [] [] [] [] []))) fun d=> .ob ((0:Int)<=0/\0<=a.2.1/\a.2.1<=(↑d.length:Int)) (.ret (.inr (List.take a.2.1.toNat d)))))))) (f,c,l)))
def Qp {A:Type}(c:Prop)(p:A->Bool)(d:A)(l:List A):Pg (List A):=.ob c <| .lt (eX p l) fun b=> .br (b==(-1)) (.ret l) (.lt (wrp .i64 (b+1)) fun g=> .wh (l.length+1) default (fun(a:Int×Int×List A)=> aL a.2.2 (.br (decide (a.1 < (↑a.2.2.length:Int))) (.ix a.1 a.2.2.length (.ob (a.1.toNat < a.2.2.length) <| .ob c (.lt (wrp .i64 (a.1+1)) fun e=> .br (!p (a.2.2.getD a.1.toNat d)) (.ix a.2.1 a.2.2.length (.ob (a.2.1.toNat < a.2.2.length) (rl (e,wrp .i64 (a.2.1+1),a.2.2.set a.2.1.toNat (a.2.2.getD a.1.toNat d))))) (rl (e,a.2))))) (.ob (0<=a.2.1/\a.2.1<=(↑a.2.2.length:Int)/\(↑a.2.2.length:Int)<=(↑a.2.2.length:Int)) (.ob (a.2.2.length=a.2.2.length) (.lt (List.take a.2.1.toNat a.2.2++List.replicate (a.2.2.length - a.2.1.toNat) d) fun f=> .ob ((0:Int)<=0/\0<=a.2.1/\a.2.1<=(↑f.length:Int)) (.ret (.inr (List.take a.2.1.toNat f)))))))) (g,b,l))
structure Xd {A:Type}(p:A->Bool)(l:List A)(x:Int×Int×List A)(j i:Nat):Prop where
 hj:x.1=↑j
 hi:x.2.1=↑i
 lt:i < j
 le:j<=l.length
 len:x.2.2.length=l.length
 tk:x.2.2.take i=(l.take j).filter fun a=> !p a
 dr:x.2.2.drop j=l.drop j
theorem aiJ {A:Type}{c:Prop}(C:c)(p:A->Bool)(d:A)(l:List A)(hl:l.length<=9223372036854775806):Is (Qp c p d l)/\(Qp c p d l).val=l.filter fun a=> !p a:=by
 unfold Qp;rcases ug p l with⟨W,S⟩ | ⟨u,a,v,H,D,Q,b⟩
 ·rw[W];refine⟨az C <| bg fun U s=>by subst s;exact is_br iR (fun h=>by cases h),?_⟩;simp only[val_ob,val_lt,a_,val_ret];refine(Qcy.2 fun a D=> ?_).symm;rw[S a D];rfl
 ·rw[b];have T:l.length=u.length+(v.length+1):=by rw[H];simp
  have L:(((u.length:Int))== -1)=false:=by
   rw[Qbr];omega
  have O:wrp .i64 ((u.length:Int)+1)=((u.length+1:Nat):Int):=by
   rw[wrp_in (k:= .i64) oC];omega
  have N:Xd p l (wrp .i64 ((u.length:Int)+1),(u.length:Int),l) (u.length+1) u.length:=by
   refine⟨O,rfl,by omega,by omega,rfl,?_,rfl⟩;show l.take u.length=_
   rw[H];have:(u++a::v).take (u.length+1)=u++[a]:=by
    rw[show u++a::v=(u++[a])++v by simp,show u.length+1=(u++[a]).length by simp,Qch]
   rw[this,Qb1,Qch];have B:u.filter (fun a=> !p a)=u:=Qcy.2 fun x b=>by rw[Q x b];rfl
   rw[B];simp[D]
  have t:∀(x:Int×Int×List A) (j i:Nat),Xd p l x j i->j < l.length->x.2.2.getD j d=l.getD j d/\l.take (j+1)=l.take j++[l.getD j d]/\x.2.2.drop (j+1)=l.drop (j+1):=by
   intro x j i b f;have z:j < x.2.2.length:=by rw[b.len];exact f
   have B:=Qa7 f;have X:=Qa7 z;have:=b.dr;rw[B,X]at this;injection this with o y
   refine⟨by rw[getD_some f,getD_some z,o],?_,y⟩;rw[getD_some f,Qbk f]
  have step:∀(x:Int×Int×List A) (j i:Nat),Xd p l x j i->j < l.length->∀q,p (l.getD j d)=q->
    Xd p l (wrp .i64 (x.1+1),(cond (!q) (wrp .i64 (x.2.1+1),x.2.2.set x.2.1.toNat (x.2.2.getD x.1.toNat d)) x.2)) (j+1) (cond (!q) (i+1) i):=by
   intro x j i b f q m;obtain⟨w,M,J⟩:=t x j i b f
   have n:wrp .i64 (x.1+1)=((j+1:Nat):Int):=by rw[b.hj,wrp_in (k:= .i64) oC];omega
   have Z:=b.lt;cases q with
   | true=>
    refine⟨n,b.hi,?_,by omega,b.len,?_,J⟩
    ·simp;omega
    ·show x.2.2.take i=_
     rw[b.tk,M,Qb1,Qct,m];simp
   | false=>
    refine⟨n,?_,?_,by omega,?_,?_,?_⟩
    ·show wrp .i64 (x.2.1+1)=_
     rw[b.hi,wrp_in (k:= .i64) oC];simp
    ·simp;omega
    ·simp[b.len]
    ·show(x.2.2.set x.2.1.toNat (x.2.2.getD x.1.toNat d)).take (i+1)=_
     rw[b.hi,b.hj,u_,u_,w];have G:i < (x.2.2.set i (l.getD j d)).length:=by rw[Qbs,b.len];omega
     rw[Qbk G,List.getElem_set_self,List.take_set_of_le (lH i),b.tk,M,Qb1,Qct,m];simp
    ·show(x.2.2.set x.2.1.toNat (x.2.2.getD x.1.toNat d)).drop (j+1)=_
     rw[b.hi,u_,Qcx ah];exact J
  refine⟨az C <| bg fun U s=>is_br iR fun _=>bg fun v4 K=> ?_,?_⟩
  ·subst s K;refine AY (fun x=>∃j i,Xd p l x j i) (fun x=>l.length - x.1.toNat) ⟨_,_,N⟩ ah ?_;rintro x ⟨j,i,b⟩;have o:=b.hj;have y:=b.hi;have P:=b.lt;have V:=b.le;have R:=b.len;refine⟨bW fun _=>aQ (fun h=>aW ah ah (az ah <| az C (bg fun v5 Y=>is_br (fun _=>aW ah ah (az ah is_ret)) iR))) (fun h=>az ah (az rfl (bg fun v6 hv6=>az qb1 is_ret))),fun x' F=> ?_⟩;revert F;simp only[val_as,a_,iY,val_ob,val_lt,val_ret];by_cases h:x.1 < (↑x.2.2.length:Int)
   ·simp only[h,decide_true,xU];intro e;have f:j < l.length:=by omega
    obtain⟨w,_,_⟩:=t x j i b f
    have g:=step x j i b f _ rfl;have E:x.2.2.getD x.1.toNat d=l.getD j d:=by rw[o,u_];exact w
    rw[E]at e g;have n:wrp .i64 (x.1+1)=((j+1:Nat):Int):=g.hj;cases m:p (l.getD j d)with
    | true=>
     rw[m]at e g;injection e with e
     subst e;exact⟨⟨_,_,g⟩,by
       have:(wrp .i64 (x.1+1)).toNat=j+1:=by rw[n];rfl
       show l.length - (wrp .i64 (x.1+1)).toNat < _
       omega⟩
    | false=>
     rw[m]at e g;injection e with e
     subst e;exact⟨⟨_,_,g⟩,by
       have:(wrp .i64 (x.1+1)).toNat=j+1:=by rw[n];rfl
       show l.length - (wrp .i64 (x.1+1)).toNat < _
       omega⟩
   ·simp only[h,decide_false,og];intro e;cases e
  ·simp only[val_lt,a_,L,og,EJ];refine Bl (fun x=>∃j i,Xd p l x j i) (fun x=>l.length - x.1.toNat) (fun r=>r=l.filter fun a=> !p a) ?_ _ _ ⟨_,_,N⟩ ah;rintro x ⟨j,i,b⟩;have o:=b.hj;have y:=b.hi;have P:=b.lt;have V:=b.le;have R:=b.len;simp only[val_as,a_,iY,val_ob,val_lt,val_ret];by_cases h:x.1 < (↑x.2.2.length:Int)
   ·left
    simp only[h,decide_true,xU];have f:j < l.length:=by omega
    obtain⟨w,_,_⟩:=t x j i b f
    have g:=step x j i b f _ rfl;have E:x.2.2.getD x.1.toNat d=l.getD j d:=by rw[o,u_];exact w
    rw[E]at g⊢;have n:wrp .i64 (x.1+1)=((j+1:Nat):Int):=g.hj;have I:l.length - (wrp .i64 (x.1+1)).toNat < l.length - x.1.toNat:=by
     have:(wrp .i64 (x.1+1)).toNat=j+1:=by rw[n];rfl
     omega
    cases m:p (l.getD j d)with
    | true=>rw[m]at g;exact⟨_,rfl,⟨_,_,g⟩,I⟩
    | false=>rw[m]at g;exact⟨_,rfl,⟨_,_,g⟩,I⟩
   ·right
    simp only[h,decide_false,og];refine⟨_,rfl,?_⟩;have f:j=l.length:=by omega
    rw[y,u_];have e:=b.tk;rw[f,yS]at e;rw[<-e,List.take_append_of_le_length qcn,List.take_take,Nat.min_self]
theorem aqA (x:Slot):Slot.mk x.Num x.Val=x:=by cases x;rfl
theorem air (l:List Slot)(m:aH)(b:AVal):mgD l m b=Qp (m.Fields.length<=1048576) (fun x=>JD x m b) bn l:=by
 unfold mgD Qp;simp only[AVal.cZ,aqA];rfl
theorem aEy (l:List Slot)(m:aH)(b:AVal)(h:m.Fields.length<=1048576/\l.length<=1048576):(mgD l m b).val=l.filter fun(x:Slot)=> !(JD x m b):=by
 rw[air];exact(aiJ h.1 (fun x=>JD x m b) bn l ah).2
theorem aBm (l:List Slot)(m:aH)(b:AVal)(h:m.Fields.length<=1048576/\l.length<=1048576):Is (mgD l m b):=
 by
 rw[air];exact(aiJ h.1 (fun x=>JD x m b) bn l ah).1
def aHK:Ent Z:=WO [apq,aqN,aAi] [jS 5 (aT (fun b=>[s0 6, s0 5, .row (pid (b 0)) 287]) (lCons cI (lCons cI (l1 bf))))] (aCons (lV 0) (a1 (ja 325 [1,2]))) (eF (jJ 287 D.Slot iD) (eF (aF dG) (b1 (aF ay)))) (shr [.slot 0 false [some 287]] (l1 bf)) [1,2] func324 1 (fun a=>mgD a.2.1 a.2.2.1 a.2.2.2) (fun a=>some (a.2.2.1.Fields.length<=1048576/\a.2.1.length<=1048576)) (fun a=>a.2.1.filter fun(x:Slot)=> !(JD x a.2.2.1 a.2.2.2)) fun a h=>⟨aBm a.2.1 a.2.2.1 a.2.2.2 h,aEy a.2.1 a.2.2.1 a.2.2.2 h⟩
def saC (x:Slot)(a:Int):Pg Bool:=.ret (x.Num==a)
def aHe (x:Slot)(a:Int):=(saC x a).val
def aAE:Ent Z:=vz [] [] (aCons (aAgg jP) (a1 (fG 0))) (b1 (aF cI)) (R1 aj) [0] func431 1 (u11 saC)
def aF3:Ent Z:=Me [aAE] bf 431 [0] (b1 (aF cI)) func374 bn fun x b=>aHe x b
def ZQ (l:List Slot)(a:Int):Pg Int:=.ret (eX (fun(x:Slot)=>aHe x a) l)
def TC (l:List Slot)(a:Int):=(ZQ l a).val
def amv:Ent Z:=E0 [aqN,aAi,aF3,aAE] [] (aCons (aLf bf) (a1 (aLf cI))) (R1 cI) [] func327 1 (u2 ZQ)
def rrC (a:Raw)(b:Raw):Pg Int:=.ret (sF a.Num b.Num)
def aur (a:Raw)(b:Raw):=(rrC a b).val
def TP:Ent Z:=E1 [ry] [] (aCons (aAgg lh) (a1 (aAgg lh))) (R1 cI) [] func435 1 (u2 rrC) fun a=>True
def aH3 (a:Int)(b:Int)(n:Int)(l:List Raw):Pg (List Raw):=O3 (fun a=>a) lD a b n l
theorem avC (a:Int)(b:Int)(n:Int)(l:List Raw)(h:swQ a b n l.length):Is (aH3 a b n l):=
 (JR (fun _=>rfl) h).1
def aD6:Ent Z:=Ae [TP] [jS 1 (aT (fun b=>[s0 10, .row (pid (b 0)) 294]) (lCons cI (l1 aZ)))] (aCons (lV 0) (aCons (aLf cI) (aCons (aLf cI) (aCons (aLf cI) (a1 (ja 435 [])))))) (b1 (jJ 294 D.Raw jI)) (shr [.row 0 294] (l1 aZ)) [] func483 0 (fun a=>aH3 a.1.2.1 a.1.2.2.1 a.1.2.2.2.1 a.2) (fun a=>swQ a.1.2.1 a.1.2.2.1 a.1.2.2.2.1 a.2.length) fun a h=>avC a.1.2.1 a.1.2.2.1 a.1.2.2.2.1 a.2 h
def aFV (a:Int)(m:Int)(b:Int)(l:List Raw):Pg (List Raw):=PO (fun a=>a) lD a m b l
theorem ax0 (a:Int)(m:Int)(b:Int)(l:List Raw)(h:roQ a m b l.length):Is (aFV a m b l):=
 (Jy (fun _=>rfl) h).1
def aD7:Ent Z:=Ae [TP,atv,aD6] [jS 2 (aT (fun b=>[s0 10, s0 11, .row (pid (b 0)) 294]) (lCons cI (lCons cI (l1 aZ))))] (aCons (lV 0) (aCons (aLf cI) (aCons (aLf cI) (aCons (aLf cI) (a1 (ja 435 [])))))) (b1 (jJ 294 D.Raw jI)) (shr [.row 0 294] (l1 aZ)) [] func465 0 (fun a=>aFV a.1.2.1 a.1.2.2.1 a.1.2.2.2.1 a.2) (fun a=>roQ a.1.2.1 a.1.2.2.1 a.1.2.2.2.1 a.2.length) fun a h=>ax0 a.1.2.1 a.1.2.2.1 a.1.2.2.2.1 a.2 h
def aC5 (a:Int)(b:Int)(l:List Raw):Pg (List Raw):=Rn (fun a=>a) aur (fun _ _=>True) lD a b l
def aHj (a:Int)(b:Int)(l:List Raw):=(aC5 a b l).val
theorem axr (a:Int)(b:Int)(l:List Raw)(h:inQ (fun _ _=>True) a b l):Is (aC5 a b l):=
 (Jo (fun _=>rfl) h).1
def aCn:Ent Z:=rE Z [TP] [jS 1 (aT (fun b=>[s0 8, .row (pid (b 0)) 294]) (lCons cI (l1 aZ))),jS 4 (aT (fun b=>[s0 9, .row (pid (b 0)) 294]) (lCons cI (l1 aZ)))] (iM (aCons (lV 0) (aCons (aLf cI) (aCons (aLf cI) (a1 (ja 435 []))))) (b1 (jJ 294 D.Raw jI))) (l_ (n:=53) rfl) (shr [.row 0 294] (l1 aZ)) [] func426 ntmps426 dE 0 rfl (fun a=>aC5 (a.1.2.1) (a.1.2.2.1) (a.2)) (fun a=>some (inQ (fun _ _=>True) (a.1.2.1) (a.1.2.2.1) (a.2))) (fun a e _=>by kernel_rfl) (fun a=>aHj (a.1.2.1) (a.1.2.2.1) (a.2)) (fun a h=>⟨axr (a.1.2.1) (a.1.2.2.1) (a.2) h,rfl⟩)
def aH4 (c:Int->Int->Int->List Raw->List Raw)(Lu:Int->Int->Int->List Raw->Prop)(a:Int)(m:Int)(b:Int)(l:List Raw):Pg (List Raw):=Vh (fun a=>a) aur (fun _ _=>True) lD c Lu a m b l
def Lu (c:Nat)(a:Int)(m:Int)(b:Int)(l:List Raw):Prop:=UH (fun _ _=>True) c a m b l
def alB:Nat->(Int->Int->Int->(List Raw)->(List Raw))
 | 0=>(fun _ _ _ _=>default)
 | c+1=>(fun a m b l=>(aH4 ((alB c)) (Lu c) a m b l).val)
def ahy (a:Int)(m:Int)(b:Int)(l:List Raw):List Raw:=(alB ((b - a).toNat+1)) a m b l
theorem F8:∀(e:Nat) (a m b:Int) (l:List Raw),Lu e a m b l->(alB e a m b l).Perm l
 | 0,_,_,_,_,h=>DT h
 | e+1,_,_,_,_,h=>(xC (fun _=>rfl) (c:=aur) (MK:=alB e) (UY:=Lu e) (d:=lD) (fun _ _ _ _ h=>h) (F8 e) h).2
abbrev asO (a:Nat):=aH4 ((alB a)) (Lu a)
theorem azh (c:Nat)(a:Int)(m:Int)(b:Int)(l:List Raw)(h:Lu (c+1) a m b l):Is (asO c a m b l):=
 (xC (fun _=>rfl) (fun _ _ _ _ h=>h) (F8 c) h).1
theorem asv:∀c,CtOk Z.P Z.S 427 (ctN (iM (aCons (lV 0) (aCons (aLf cI) (aCons (aLf cI) (aCons (aLf cI) (a1 (ja 435 [])))))) (b1 (jJ 294 D.Raw jI))) (shr [.row 0 294] (l1 aZ)) 0 [] (fun a=>some (Lu c (a.1.2.1) (a.1.2.2.1) (a.1.2.2.2.1) (a.2))) (fun a=>(alB c) (a.1.2.1) (a.1.2.2.1) (a.1.2.2.2.1) (a.2)))
 | 0=>dH func427 dE (fun a h=>DT h)
 | c+1=>by
  have d:=asv c;exact xM [TP,aoT,aD7,⟨427,_,d⟩] [jS 3 (aT (fun b=>[s0 10, s0 11]) (lCons cI (l1 cI))),jS 9 (aT (fun b=>[s0 13, .row (pid (b 0)) 294]) (lCons cI (l1 aZ))),jS 15 (aT (fun b=>[s0 14, s0 15]) (lCons cI (l1 cI))),jS 21 (aT (fun b=>[s0 17, .row (pid (b 0)) 294]) (lCons cI (l1 aZ))),jS 33 (aT (fun b=>[s0 20, s0 21]) (lCons cI (l1 cI))),jS 100008 (aT (fun b=>[s0 10]) (l1 cI)),jS 100012 (aT (fun b=>[.row (pid (b 0)) 294]) (l1 aZ)),jS 100020 (aT (fun b=>[s0 14]) (l1 cI)),jS 100024 (aT (fun b=>[.row (pid (b 0)) 294]) (l1 aZ)),jS 100032 (aT (fun b=>[s0 20, s0 21]) (lCons cI (l1 cI))),jS 100038 (aT (fun b=>[s0 20]) (l1 cI)),jS 100041 (aT (fun b=>[.row (pid (b 0)) 294]) (l1 aZ)),jS 100043 (aT (fun b=>[.row (pid (b 0)) 294]) (l1 aZ))] func427 ntmps427 (fun a=>asO c a.1.2.1 a.1.2.2.1 a.1.2.2.2.1 a.2) (fun a h=>⟨azh c a.1.2.1 a.1.2.2.1 a.1.2.2.2.1 a.2 h,rfl⟩) (l_ (n:=220) rfl)
def aEb:Ent Z:=⟨427,ctN (iM (aCons (lV 0) (aCons (aLf cI) (aCons (aLf cI) (aCons (aLf cI) (a1 (ja 435 [])))))) (b1 (jJ 294 D.Raw jI))) (shr [.row 0 294] (l1 aZ)) 0 [] (fun a=>some (UH (fun _ _=>True) (((a.1.2.2.2.1) - (a.1.2.1)).toNat+1) (a.1.2.1) (a.1.2.2.1) (a.1.2.2.2.1) (a.2))) (fun a=>ahy (a.1.2.1) (a.1.2.2.1) (a.1.2.2.2.1) (a.2)),ctFam_ok (fun n=>((asv n))) _ _ (fun a h=>⟨((a.1.2.2.2.1) - (a.1.2.1)).toNat+1,h,rfl⟩)⟩
def aD0 (n:Int)(l:List Raw):Pg (List Raw):=Vj (fun a=>a) aur (fun _ _=>True) lD ahy n l
def aG4 (n:Int)(l:List Raw):=(aD0 n l).val
theorem ayl (n:Int)(l:List Raw)(h:stQ (fun _ _=>True) n l):Is (aD0 n l):=
 (xn (fun _=>rfl) (MK:=ahy) (fun a m b l h=>F8 _ a m b l h) h).1
def aCy:Ent Z:=Ae [aq3,aCn,ard,aEb,TP] [jS 2 (aT (fun b=>[s0 7, s0 8, .row (pid (b 0)) 294]) (lCons cI (lCons cI (l1 aZ)))),jS 7 (aT (fun b=>[s0 6, .row (pid (b 0)) 294]) (lCons cI (l1 aZ))),jS 9 (aT (fun b=>[s0 7, s0 8, .row (pid (b 0)) 294]) (lCons cI (lCons cI (l1 aZ)))),jS 100006 (aT (fun b=>[s0 7, .row (pid (b 0)) 294]) (lCons cI (l1 aZ))),jS 100013 (aT (fun b=>[s0 7, .row (pid (b 0)) 294]) (lCons cI (l1 aZ)))] (aCons (lV 0) (aCons (aLf cI) (a1 (ja 435 [])))) (b1 (jJ 294 D.Raw jI)) (shr [.row 0 294] (l1 aZ)) [] func322 0 (fun a=>aD0 a.1.2.1 a.2) (fun a=>stQ (fun _ _=>True) a.1.2.1 a.2) fun a h=>ayl a.1.2.1 a.2 h
def aDI (l:List Raw):Pg (List Raw):=.ob (stQ (fun(x b:Raw)=>True) (↑l.length:Int) l) (.lt (aG4 (↑l.length:Int) l) fun a=> aL a (.ret a))
def aAL (l:List Raw):=(aDI l).val
theorem ayM (l:List Raw)(h:p_ (fun _ _=>True) l):Is (aDI l):=
 az ((⟨h,rfl⟩)) (bg fun b a=>bW fun _=>is_ret)
def aCg:Ent Z:=Ae [atS,aCy,TP] [] (aCons (lV 0) (a1 (ja 435 []))) (b1 (jJ 294 D.Raw jI)) (shr [.row 0 294] (l1 aZ)) [] func240 0 (fun a=>aDI a.2) (fun a=>p_ (fun _ _=>True) a.2) fun a h=>ayM a.2 h
theorem amq {l:List Raw}(h:p_ (fun _ _=>True) l):(aAL l).Perm l:=
 (xn (fun _=>rfl) (c:=aur) (q:=(fun _ _=>True)) (d:=lD) (MK:=ahy) (fun a m b l h=>F8 _ a m b l h) ⟨h,rfl⟩).2
def ssC (x:Slot)(y:Slot):Pg Int:=.ret (sF x.Num y.Num)
def aue (x:Slot)(y:Slot):=(ssC x y).val
def Pz:Ent Z:=E1 [ry] [] (aCons (aAgg jP) (a1 (aAgg jP))) (R1 cI) [] func329 1 (u2 ssC) fun a=>True
def aHG (a:Int)(b:Int)(n:Int)(l:List Slot):Pg (List Slot):=O3 sO bn a b n l
theorem av6 (a:Int)(b:Int)(n:Int)(l:List Slot)(h:swQ a b n l.length):Is (aHG a b n l):=
 (JR jo h).1
def aCX:Ent Z:=Ae [Pz] [jS 1 (aT (fun b=>[s0 10, .row (pid (b 0)) 287]) (lCons cI (l1 bf)))] (aCons (lV 0) (aCons (aLf cI) (aCons (aLf cI) (aCons (aLf cI) (a1 (ja 329 [])))))) (b1 (jJ 287 D.Slot iD)) (shr [.row 0 287] (l1 bf)) [] func488 0 (fun a=>aHG a.1.2.1 a.1.2.2.1 a.1.2.2.2.1 a.2) (fun a=>swQ a.1.2.1 a.1.2.2.1 a.1.2.2.2.1 a.2.length) fun a h=>av6 a.1.2.1 a.1.2.2.1 a.1.2.2.2.1 a.2 h
def aHA (a:Int)(m:Int)(b:Int)(l:List Slot):Pg (List Slot):=PO sO bn a m b l
theorem axm (a:Int)(m:Int)(b:Int)(l:List Slot)(h:roQ a m b l.length):Is (aHA a m b l):=
 (Jy jo h).1
def aCN:Ent Z:=Ae [Pz,ao5,aCX] [jS 2 (aT (fun b=>[s0 10, s0 11, .row (pid (b 0)) 287]) (lCons cI (lCons cI (l1 bf))))] (aCons (lV 0) (aCons (aLf cI) (aCons (aLf cI) (aCons (aLf cI) (a1 (ja 329 [])))))) (b1 (jJ 287 D.Slot iD)) (shr [.row 0 287] (l1 bf)) [] func480 0 (fun a=>aHA a.1.2.1 a.1.2.2.1 a.1.2.2.2.1 a.2) (fun a=>roQ a.1.2.1 a.1.2.2.1 a.1.2.2.2.1 a.2.length) fun a h=>axm a.1.2.1 a.1.2.2.1 a.1.2.2.2.1 a.2 h
def aCj (a:Int)(b:Int)(l:List Slot):Pg (List Slot):=Rn sO aue (fun _ _=>True) bn a b l
def aGs (a:Int)(b:Int)(l:List Slot):=(aCj a b l).val
theorem awD (a:Int)(b:Int)(l:List Slot)(h:inQ (fun _ _=>True) a b l):Is (aCj a b l):=
 (Jo jo h).1
def aCV:Ent Z:=rE Z [Pz] [jS 1 (aT (fun b=>[s0 8, .row (pid (b 0)) 287]) (lCons cI (l1 bf))),jS 4 (aT (fun b=>[s0 9, .row (pid (b 0)) 287]) (lCons cI (l1 bf)))] (iM (aCons (lV 0) (aCons (aLf cI) (aCons (aLf cI) (a1 (ja 329 []))))) (b1 (jJ 287 D.Slot iD))) (l_ (n:=53) rfl) (shr [.row 0 287] (l1 bf)) [] func462 ntmps462 dE 0 rfl (fun a=>aCj (a.1.2.1) (a.1.2.2.1) (a.2)) (fun a=>some (inQ (fun _ _=>True) (a.1.2.1) (a.1.2.2.1) (a.2))) (fun a e _=>by kernel_rfl) (fun a=>aGs (a.1.2.1) (a.1.2.2.1) (a.2)) (fun a h=>⟨awD (a.1.2.1) (a.1.2.2.1) (a.2) h,rfl⟩)
def aHW (c:Int->Int->Int->List Slot->List Slot)(LW:Int->Int->Int->List Slot->Prop)(a:Int)(m:Int)(b:Int)(l:List Slot):Pg (List Slot):=Vh sO aue (fun _ _=>True) bn c LW a m b l
def LW (c:Nat)(a:Int)(m:Int)(b:Int)(l:List Slot):Prop:=UH (fun _ _=>True) c a m b l
def amc:Nat->(Int->Int->Int->(List Slot)->(List Slot))
 | 0=>(fun _ _ _ _=>default)
 | c+1=>(fun a m b l=>(aHW ((amc c)) (LW c) a m b l).val)
def aix (a:Int)(m:Int)(b:Int)(l:List Slot):List Slot:=(amc ((b - a).toNat+1)) a m b l
theorem Gn:∀(e:Nat) (a m b:Int) (l:List Slot),LW e a m b l->(amc e a m b l).Perm l
 | 0,_,_,_,_,h=>DT h
 | e+1,_,_,_,_,h=>(xC jo (c:=aue) (MK:=amc e) (UY:=LW e) (d:=bn) (fun _ _ _ _ h=>h) (Gn e) h).2
abbrev aoz (a:Nat):=aHW ((amc a)) (LW a)
theorem axT (c:Nat)(a:Int)(m:Int)(b:Int)(l:List Slot)(h:LW (c+1) a m b l):Is (aoz c a m b l):=
 (xC jo (fun _ _ _ _ h=>h) (Gn c) h).1
theorem att:∀c,CtOk Z.P Z.S 463 (ctN (iM (aCons (lV 0) (aCons (aLf cI) (aCons (aLf cI) (aCons (aLf cI) (a1 (ja 329 [])))))) (b1 (jJ 287 D.Slot iD))) (shr [.row 0 287] (l1 bf)) 0 [] (fun a=>some (LW c (a.1.2.1) (a.1.2.2.1) (a.1.2.2.2.1) (a.2))) (fun a=>(amc c) (a.1.2.1) (a.1.2.2.1) (a.1.2.2.2.1) (a.2)))
 | 0=>dH func463 dE (fun a h=>DT h)
 | c+1=>by
  have d:=att c;exact xM [Pz,aoB,aCN,⟨463,_,d⟩] [jS 3 (aT (fun b=>[s0 10, s0 11]) (lCons cI (l1 cI))),jS 9 (aT (fun b=>[s0 13, .row (pid (b 0)) 287]) (lCons cI (l1 bf))),jS 15 (aT (fun b=>[s0 14, s0 15]) (lCons cI (l1 cI))),jS 21 (aT (fun b=>[s0 17, .row (pid (b 0)) 287]) (lCons cI (l1 bf))),jS 33 (aT (fun b=>[s0 20, s0 21]) (lCons cI (l1 cI))),jS 100008 (aT (fun b=>[s0 10]) (l1 cI)),jS 100012 (aT (fun b=>[.row (pid (b 0)) 287]) (l1 bf)),jS 100020 (aT (fun b=>[s0 14]) (l1 cI)),jS 100024 (aT (fun b=>[.row (pid (b 0)) 287]) (l1 bf)),jS 100032 (aT (fun b=>[s0 20, s0 21]) (lCons cI (l1 cI))),jS 100038 (aT (fun b=>[s0 20]) (l1 cI)),jS 100041 (aT (fun b=>[.row (pid (b 0)) 287]) (l1 bf)),jS 100043 (aT (fun b=>[.row (pid (b 0)) 287]) (l1 bf))] func463 ntmps463 (fun a=>aoz c a.1.2.1 a.1.2.2.1 a.1.2.2.2.1 a.2) (fun a h=>⟨axT c a.1.2.1 a.1.2.2.1 a.1.2.2.2.1 a.2 h,rfl⟩) (l_ (n:=220) rfl)
def aDT:Ent Z:=⟨463,ctN (iM (aCons (lV 0) (aCons (aLf cI) (aCons (aLf cI) (aCons (aLf cI) (a1 (ja 329 [])))))) (b1 (jJ 287 D.Slot iD))) (shr [.row 0 287] (l1 bf)) 0 [] (fun a=>some (UH (fun _ _=>True) (((a.1.2.2.2.1) - (a.1.2.1)).toNat+1) (a.1.2.1) (a.1.2.2.1) (a.1.2.2.2.1) (a.2))) (fun a=>aix (a.1.2.1) (a.1.2.2.1) (a.1.2.2.2.1) (a.2)),ctFam_ok (fun n=>((att n))) _ _ (fun a h=>⟨((a.1.2.2.2.1) - (a.1.2.1)).toNat+1,h,rfl⟩)⟩
def aEF (n:Int)(l:List Slot):Pg (List Slot):=Vj sO aue (fun _ _=>True) bn aix n l
def aH9 (n:Int)(l:List Slot):=(aEF n l).val
theorem axc (n:Int)(l:List Slot)(h:stQ (fun _ _=>True) n l):Is (aEF n l):=
 (xn jo (MK:=aix) (fun a m b l h=>Gn _ a m b l h) h).1
def aEh:Ent Z:=Ae [Pz,apH,aCV,atf,aDT] [jS 2 (aT (fun b=>[s0 7, s0 8, .row (pid (b 0)) 287]) (lCons cI (lCons cI (l1 bf)))),jS 7 (aT (fun b=>[s0 6, .row (pid (b 0)) 287]) (lCons cI (l1 bf))),jS 9 (aT (fun b=>[s0 7, s0 8, .row (pid (b 0)) 287]) (lCons cI (lCons cI (l1 bf)))),jS 100006 (aT (fun b=>[s0 7, .row (pid (b 0)) 287]) (lCons cI (l1 bf))),jS 100013 (aT (fun b=>[s0 7, .row (pid (b 0)) 287]) (lCons cI (l1 bf)))] (aCons (lV 0) (aCons (aLf cI) (a1 (ja 329 [])))) (b1 (jJ 287 D.Slot iD)) (shr [.row 0 287] (l1 bf)) [] func421 0 (fun a=>aEF a.1.2.1 a.2) (fun a=>stQ (fun _ _=>True) a.1.2.1 a.2) fun a h=>axc a.1.2.1 a.2 h
def aCU (l:List Slot):Pg (List Slot):=.ob (stQ (fun(x b:Slot)=>True) (↑l.length:Int) l) (.lt (aH9 (↑l.length:Int) l) fun a=> aL a (.ret a))
def aAG (l:List Slot):=(aCU l).val
theorem avY (l:List Slot)(h:p_ (fun _ _=>True) l):Is (aCU l):=
 az ((⟨h,rfl⟩)) (bg fun b a=>bW fun _=>is_ret)
def aDM:Ent Z:=Ae [Pz,asP,aEh] [] (aCons (lV 0) (a1 (ja 329 []))) (b1 (jJ 287 D.Slot iD)) (shr [.row 0 287] (l1 bf)) [] func315 0 (fun a=>aCU a.2) (fun a=>p_ (fun _ _=>True) a.2) fun a h=>avY a.2 h
theorem alQ {l:List Slot}(h:p_ (fun _ _=>True) l):(aAG l).Perm l:=
 (xn jo (c:=aue) (q:=(fun _ _=>True)) (d:=bn) (MK:=aix) (fun a m b l h=>Gn _ a m b l h) ⟨h,rfl⟩).2
def auE (a:List Raw)(b:List Raw):Pg (List Raw):=.ob ([a,b].flatten.length<=2097152/\2<=2097152) (.lt (at7 [a,b]) fun c=> .ob (p_ (fun(x d:Raw)=>True) c) (.ret (aAL c)))
def apD (a:List Raw)(b:List Raw):=(auE a b).val
theorem WC (a:List Raw)(b:List Raw)(h:a.length+b.length<=1048576):IsP (auE a b) (fun r=>r.Perm (a++b)):=
 by
 have q:[a,b].flatten.length<=2097152/\(2:Nat)<=2097152:=⟨by simp only[List.flatten_cons,List.flatten_nil,Qbx,kG];omega,by decide⟩;have c:at7 [a,b]=a++b:=((abz [a,b] q).2).trans oG;have d:p_ (fun(_ _:Raw)=>True) (at7 [a,b]):=by rw[c];exact⟨by rw[kG];omega,fun _ _ _ _=>trivial⟩
 refine isP_ob q (isP_lt fun f e=> ?_);rw[e];refine isP_ob d (isP_ret ?_);have k:=amq d;rw[c]at k;rw[c];exact k
def azb:Ent Z:=E1 [ash,aCg,aDp,TP] [] (aCons (aLf aZ) (a1 (aLf aZ))) (R1 aZ) [] func330 1 (u2 auE) (fun a=>a.1.length+a.2.length<=1048576) fun a h=>(WC a.1 a.2 h).1
theorem aDe {s:Schema}{a:Str}(h:okS s):(J7 s a).1.Fields.length<=1048576:=by
 have k:VP (fsM s.Messages a) (fun r=>r.1.Fields.length<=1048576):=by
  unfold fsM;exact vp_as (vp_each (fun _ _=>True) trivial (fun k y b _=>vp_ix (vp_br (fun _=>vp_ret (h.2.2.2.1 _ (getD_mem (d:=dP) b)).1) fun _=>vp_ret trivial)) fun y _=>vp_ret (qR _))
 exact k
theorem amw (l:List Slot)(n:Int):TC l n < l.length:=by
 unfold TC ZQ;rw[val_ret];exact(lI _ _).1
theorem aca {A:Type}{f:A->Nat}{d r:A}:∀{l:List A} {i:Nat},i < l.length->smL f (l.set i r)+f (l.getD i d)=smL f l+f r
 | a::l,0,_=>by
  show f r+smL f l+f a=f a+smL f l+f r
  omega
 | a::l,i+1,b=>by
  have:=aca (f:=f) (d:=d) (r:=r) (l:=l) (i:=i) (by simpa using b);show f a+smL f (l.set i r)+f (l.getD i d)=f a+smL f l+f r
  omega
theorem aH0 {a b:List AVal}(h:a.length+b.length<=2097152):([a,b].flatten.length<=2097152/\(2:Nat)<=2097152)/\aAU [a,b]=a++b:=by
 have q:[a,b].flatten.length<=2097152/\(2:Nat)<=2097152:=⟨by simp only[List.flatten_cons,List.flatten_nil,Qbx,kG];omega,by decide⟩;exact⟨q,((aas [a,b] q).2).trans oG⟩
theorem aF5 {a b:List Pair}(h:a.length+b.length<=2097152):([a,b].flatten.length<=2097152/\(2:Nat)<=2097152)/\aAP [a,b]=a++b:=by
 have q:[a,b].flatten.length<=2097152/\(2:Nat)<=2097152:=⟨by simp only[List.flatten_cons,List.flatten_nil,Qbx,kG];omega,by decide⟩;exact⟨q,((adn [a,b] q).2).trans oG⟩
theorem arH (k b:Int)(t:Str)(l:List AVal)(p:List Pair)(a:List Slot)(r:List Raw):tV (AVal.mk k b t l p a r)=1+t.length+tVs l+tPs p+tSs a+UK r:=gQ _
theorem anA {A:Type}{P:A->Prop}{r:A}{l:List A}{i:Nat}(h:∀x∈l,P x)(c:P r):∀x∈l.set i r,P x:=fun x b=>by
 rcases List.mem_or_eq_of_mem_set b with a | rfl
 ·exact h x a
 ·exact c
theorem zX:isU64 0:=⟨by decide,by decide⟩
theorem aCY {y:List Slot}{i:Nat}{n:Int}{r:AVal}{B:Nat}(a:i < y.length)(b:tV r<=tV (y.getD i bn).Val+B):smL tS (y.set i (Slot.mk n r))<=smL tS y+B:=by
 have e:=aca (f:=tS) (d:=bn) (r:=Slot.mk n r) a;rw[yc,yc]at e;have e:smL tS (y.set i (Slot.mk n r))+(1+tV (y.getD i bn).Val)=smL tS y+(1+tV r):=e;omega
def ao2 (e:Schema->aB->AVal->AVal->AVal)(uS:Schema->aB->AVal->AVal->Prop)(c:Schema->Str->AVal->AVal->AVal)(qh:Schema->Str->AVal->AVal->Prop)(s:Schema)(f:aB)(a:AVal)(b:AVal):Pg AVal:=.br (f.Card==4) (.ob ([a.List,b.List].flatten.length<=2097152/\2<=2097152) (.ret (AVal.mk 11 0 [] (aAU [a.List,b.List]) [] [] []))) (.br (f.Card==5) (.ob ([a.Pairs,b.Pairs].flatten.length<=2097152/\2<=2097152) (.lt (aAP [a.Pairs,b.Pairs]) fun d=> .ob (mf d) (.ret (AVal.mk 12 0 [] [] (lX d) [] [])))) (.br (f.cO.Kind==10) (.ob (qh s f.cO.Name a.re b.re) (.ret (c s f.cO.Name a.re b.re).re)) (.ret b.re)))
def aek (i:Schema->aB->AVal->AVal->AVal)(uS:Schema->aB->AVal->AVal->Prop)(m:Schema->Str->AVal->AVal->AVal)(qh:Schema->Str->AVal->AVal->Prop)(s:Schema)(g:Str)(a:AVal)(b:AVal):Pg AVal:=.ob ((↑a.Slots.length:Int)=(↑a.Slots.length:Int)/\ 0<=(↑a.Slots.length:Int)/\(↑a.Slots.length:Int)*(136:Int)<=281474976710656/\(↑a.Slots.length:Int)<=1099511627776) (aL a.Slots (.lt (List.take (min a.Slots.length (List.replicate a.Slots.length (Slot.mk 0 (AVal.mk 0 0 [] [] [] [] []))).length) a.Slots++ List.drop (min a.Slots.length (List.replicate a.Slots.length (Slot.mk 0 (AVal.mk 0 0 [] [] [] [] []))).length) (List.take (List.replicate a.Slots.length (Slot.mk 0 (AVal.mk 0 0 [] [] [] [] []))).length (List.replicate a.Slots.length (Slot.mk 0 (AVal.mk 0 0 [] [] [] [] []))))) fun k=> .lt (J7 s g) fun h=> .ob (h.1.Fields.length<=1048576/\k.length<=1048576) (aL b.Slots (.each false lF b.Slots bn (fun j f (d:List Slot)=> .ix j b.Slots.length (.lt (TC d f.Num) fun e=> .br (decide (0<=e)) (.ix e d.length (.ob (e.toNat < d.length) (.lt (YU h.1 f.Num) fun c=> .ob (uS s (aB.mk c.1.Num c.1.Name c.1.Card c.1.Key c.1.cO c.1.Union c.1.bU c.1.Default.re c.1.Notes) (d.getD e.toNat bn).Val.re f.Val.re) (.ix e d.length (.ob (e.toNat < d.length) (rl (d.set e.toNat (Slot.mk (d.getD e.toNat bn).Num (i s (aB.mk c.1.Num c.1.Name c.1.Card c.1.Key c.1.cO c.1.Union c.1.bU c.1.Default.re c.1.Notes) (d.getD e.toNat bn).Val.re f.Val.re).re)))))))) (.ob (bM (d.length+1) 136) (rl (d++[Slot.mk f.Num f.Val.re]))))) (fun j (d:List Slot)=> .ob (p_ (fun(x l:Slot)=>True) d) (.ob (a.bC.length+b.bC.length<=1048576) (.ret (AVal.mk 10 0 [] [] [] (aAG d) (apD a.bC b.bC))))) (List.filter (fun(x:Slot)=> !JD x h.1 b.re) k)))))
def uS (c:Nat)(s:Schema)(f:aB)(a:AVal)(b:AVal):Prop:=okS s/\(kV a/\kV b/\tV a+tV b<=1048576)/\2*tV b+1<=c
def qh (c:Nat)(s:Schema)(d:Str)(a:AVal)(b:AVal):Prop:=okS s/\(kV a/\kV b/\tV a+tV b<=1048576)/\2*tV b<=c
def mmV:Nat->(Schema->aB->AVal->AVal->AVal)×(Schema->Str->AVal->AVal->AVal)
 | 0=>(fun _ _ _ _=>default,fun _ _ _ _=>default)
 | c+1=>(fun s f a b=>(ao2 ((mmV c).1) (uS c) ((mmV c).2) (qh c) s f a b).val,fun s d a b=>(aek ((mmV c).1) (uS c) ((mmV c).2) (qh c) s d a b).val)
def Xm (s:Schema)(c:Str)(a:AVal)(b:AVal):AVal:=(mmV (2*tV b)).2 s c a b
def afB (d:Nat):Prop:=(∀(s:Schema) (f:aB) (a:AVal) (b:AVal),uS d s f a b->(fun r=>kV r/\tV r<=tV a+tV b) ((mmV d).1 s f a b))/\(∀(s:Schema) (c:Str) (a:AVal) (b:AVal),qh d s c a b->(fun r=>kV r/\tV r<=tV a+tV b) ((mmV d).2 s c a b))
abbrev Ob (a:Nat):=ao2 ((mmV a).1) (uS a) ((mmV a).2) (qh a)
theorem WR (l:Nat)(u:afB l)(s:Schema)(f:aB)(a:AVal)(b:AVal)(h:uS (l+1) s f a b):IsP (Ob l s f a b) (fun r=>kV r/\tV r<=tV a+tV b):=
 by
 obtain⟨o,⟨i,d,m⟩,z⟩:=h;have C:=gQ a;have E:=gQ b;have l1:=FB a.List;have B:=FB b.List;have y:=FT a.Pairs;have F:=FT b.Pairs;obtain⟨a1,a2,v,w⟩:=(gW a).1 i;obtain⟨b1,t,p,D⟩:=(gW b).1 d;unfold Ob ao2;simp only[AVal.cZ];refine isP_beq (fun _=> ?_) (fun _=>isP_beq (fun _=> ?_) (fun _=>isP_beq (fun _=>isP_ob ⟨o,⟨i,d,m⟩,by omega⟩ (isP_ret (u.2 _ _ _ _ ⟨o,⟨i,d,m⟩,by omega⟩))) (fun _=>isP_ret ⟨d,by omega⟩)))
 ·obtain⟨q,e⟩:=aH0 (a:=a.List) (b:=b.List) ah;refine isP_ob q (isP_ret ?_);rw[e];refine⟨(gW _).2 ⟨⟨zX,fun r j=>by cases j⟩,nT a2 t,fun x hx=>qcq,fun x hx=>qcq⟩,?_⟩;rw[arH,xq,ni,<-xq,<-xq];show 1+0+(tVs a.List+tVs b.List)+0+0+0<=_
  omega
 ·obtain⟨q,e⟩:=aF5 (a:=a.Pairs) (b:=b.Pairs) ah;have c:=nT v p;have g:mf (a.Pairs++b.Pairs):=⟨by rw[kG];omega,fun x hx=>(c x hx).1.1⟩;refine isP_ob q (isP_lt fun A n=> ?_);rw[n,e];refine isP_ob g (isP_ret ⟨(gW _).2 ⟨⟨zX,fun r j=>by cases j⟩,fun x hx=>qcq,fun x hx=>c x (Eb g hx),fun x hx=>qcq⟩,?_⟩);have k:=PR g;rw[ni,<-xu,<-xu,<-xu]at k;rw[arH];show 1+0+0+tPs (lX (a.Pairs++b.Pairs))+0+0<=_
  omega
abbrev Ha (a:Nat):=aek ((mmV a).1) (uS a) ((mmV a).2) (qh a)
theorem OT (p:Nat)(N:afB p)(s:Schema)(j:Str)(a:AVal)(b:AVal)(h:qh (p+1) s j a b):IsP (Ha p s j a b) (fun r=>kV r/\tV r<=tV a+tV b):=
 by
 obtain⟨E,⟨K,Q,Z⟩,h2⟩:=h;have ea:=gQ a;have eb:=gQ b;have l1:=NL a.Slots;have l2:=NL b.Slots;have l3:=Fv a.bC;have l4:=Fv b.bC;have s1:=xg a.Slots;have s2:=xg b.Slots;obtain⟨a1,a2,a3,H⟩:=(gW a).1 K;obtain⟨b1,X,W,S⟩:=(gW b).1 Q;unfold Ha aek;simp only[AVal.cZ];refine isP_ob ⟨trivial,by omega,by omega,by omega⟩ (isP_as (isP_lt fun P B=>isP_lt fun C u=> ?_));have L:P=a.Slots:=by
  rw[B];simp
 rw[L];have M:C.1.Fields.length<=1048576:=by rw[u];exact aDe E
 have f:(List.filter (fun(x:Slot)=> !JD x C.1 b) a.Slots).Sublist a.Slots:=List.filter_sublist;refine isP_ob ⟨M,by omega⟩ (isP_as (isP_each (fun k (y:List Slot)=>y.length<=a.Slots.length+k/\(∀x∈y,kV x.Val)/\smL tS y<=smL tS a.Slots+smL tS (b.Slots.take k)) ⟨f.length_le,fun x hx=>H x (f.subset hx),rJ f⟩ ah (fun k y F t=> ?_) (fun y t=> ?_)))
 ·obtain⟨I,m,v⟩:=t;have e:smL tS (b.Slots.take (k+1))=smL tS (b.Slots.take k)+tS (b.Slots.getD k bn):=oJ F;have V:smL tS (b.Slots.take (k+1))<=smL tS b.Slots:=rJ (Qcp _ _);have e2:=yc (b.Slots.getD k bn);have q:=S _ (getD_mem (d:=bn) F);refine isP_ix ah ah (isP_lt fun n D=>isP_brd (fun R=> ?_) (fun R=>isP_ob (room_of ah ah) (isP_ret ⟨by simp only[kG,uU,uF];omega,nT m (jq q),?_⟩)))
  ·have G:=amw y (b.Slots.getD k bn).Num;rw[<-D]at G;have w:=getD_mem (d:=bn) (l:=y) (i:=n.toNat) ah;have O:=m _ w;have Y:tS (y.getD n.toNat bn)<=smL tS y:=C_ w;have e3:=yc (y.getD n.toNat bn);have g:okS s/\(kV (y.getD n.toNat bn).Val/\kV (b.Slots.getD k bn).Val/\tV (y.getD n.toNat bn).Val+tV (b.Slots.getD k bn).Val<=1048576)/\2*tV (b.Slots.getD k bn).Val+1<=p:=⟨E,⟨O,q,by omega⟩,by omega⟩;refine isP_ix ah ah (isP_ob ah (isP_lt fun c U=>isP_ob g (isP_ix ah ah (isP_ob ah (isP_ret ?_)))));obtain⟨J,T⟩:=N.1 s (aB.mk c.1.Num c.1.Name c.1.Card c.1.Key c.1.cO c.1.Union c.1.bU c.1.Default c.1.Notes) _ _ g;exact⟨by rw[Qbs];omega,anA m J,zW (aCY ah T) ah⟩
  ·rw[ni];show smL tS y+(tS (Slot.mk (b.Slots.getD k bn).Num (b.Slots.getD k bn).Val)+0)<=_
   rw[yc];show smL tS y+(1+tV (b.Slots.getD k bn).Val+0)<=_
   omega
 ·obtain⟨I,m,v⟩:=t;rw[yS]at v;have g:p_ (fun(_ _:Slot)=>True) y:=⟨by omega,fun _ _ _ _=>trivial⟩;have o:a.bC.length+b.bC.length<=1048576:=by omega
  refine isP_ob g (isP_ob o (isP_ret ?_));have A:=(alQ g).symm;have z:(apD a.bC b.bC).Perm (a.bC++b.bC):=(WC a.bC b.bC o).2;refine⟨(gW _).2 ⟨⟨zX,fun r o=> ?_⟩,fun x hx=>qcq,fun x hx=>qcq,fun x hx=>m x (A.mem_iff.2 hx)⟩,?_⟩
  ·rcases xN.1 (z.mem_iff.1 o)with e | e
   ·exact a1.2 r e
   ·exact b1.2 r e
  ·rw[arH,xg,<-Aj A,Aq,Aj z,ni,<-Aq,<-Aq];show 1+0+0+0+smL tS y+(UK a.bC+UK b.bC)<=_
   omega
theorem Ip:∀c,afB c
 | 0=>⟨fun s f a b h=>False.elim (by have k:=h.2.2;omega),
  fun s d a b h=>False.elim (by have k:=h.2.2;have:=jH b;omega)⟩
 | c+1=>⟨fun s f a b h=>(WR c (Ip c) s f a b h).2,
  fun s d a b h=>(OT c (Ip c) s d a b h).2⟩
theorem aoD (c:Nat)(s:Schema)(f:aB)(a:AVal)(b:AVal)(h:uS (c+1) s f a b):Is (Ob c s f a b):=(WR c (Ip c) s f a b h).1
theorem ak1 (d:Nat)(s:Schema)(c:Str)(a:AVal)(b:AVal)(h:qh (d+1) s c a b):Is (Ha d s c a b):=(OT d (Ip d) s c a b h).1
theorem Zw (s:Schema)(c:Str)(a:AVal)(b:AVal)(h:okS s/\(kV a/\kV b/\tV a+tV b<=1048576)):(fun r=>kV r/\tV r<=tV a+tV b) (Xm s c a b):=(Ip (2*tV b)).2 s c a b (⟨h.1,h.2,lH _⟩)
theorem az7:∀b,CtOk Z.P Z.S 328 (ctN (args (aCons (aAgg cd_Schema) (aCons (aAgg dA) (aCons (aAgg ay) (a1 (aAgg ay)))))) (shr [.slot 0 true (nn 7)] (l1 ay)) 1 [] (fun a=>some (uS b (a.1) (a.2.1) (a.2.2.1) (a.2.2.2))) (fun a=>(mmV b).1 (a.1) (a.2.1) (a.2.2.1) (a.2.2.2)))/\CtOk Z.P Z.S 243 (ctN (args (aCons (aAgg cd_Schema) (aCons (aLf cStr) (aCons (aAgg ay) (a1 (aAgg ay)))))) (shr [.slot 0 true (nn 7)] (l1 ay)) 1 [] (fun a=>some (qh b (a.1) (a.2.1) (a.2.2.1) (a.2.2.2))) (fun a=>(mmV b).2 (a.1) (a.2.1) (a.2.2.1) (a.2.2.2)))
 | 0=>⟨dH func328 dE (fun a h=>by have k:=h.2.2;omega),
  dH func243 dE (fun a h=>by have k:=h.2.2;have:=jH (a.2.2.2);omega)⟩
 | b+1=>by
  obtain⟨d,c⟩:=az7 b;exact⟨xM [Tm,aEk,aCk,⟨328,_,d⟩,⟨243,_,c⟩] [] func328 ntmps328 (fun a=>Ob b a.1 a.2.1 a.2.2.1 a.2.2.2) (fun a h=>⟨aoD b a.1 a.2.1 a.2.2.1 a.2.2.2 h,rfl⟩) (iE (n:=45) rfl),
   xM [Sm,PD,aq_,aDM,aHK,apq,amv,Pz,azb,⟨328,_,d⟩,⟨243,_,c⟩] [jS 6 (aT (fun f=>[s0 37, .slot 11 false [some 287]]) (lCons cI (l1 bf)))] func243 ntmps243 (fun a=>Ha b a.1 a.2.1 a.2.2.1 a.2.2.2) (fun a h=>⟨ak1 b a.1 a.2.1 a.2.2.1 a.2.2.2 h,rfl⟩) (iE (n:=82) rfl)⟩
def auk:Ent Z:=⟨243,ctN (args (aCons (aAgg cd_Schema) (aCons (aLf cStr) (aCons (aAgg ay) (a1 (aAgg ay)))))) (shr [.slot 0 true (nn 7)] (l1 ay)) 1 [] (fun a=>some (okS (a.1)/\(kV (a.2.2.1)/\kV (a.2.2.2)/\tV (a.2.2.1)+tV (a.2.2.2)<=1048576))) (fun a=>Xm (a.1) (a.2.1) (a.2.2.1) (a.2.2.2)),ctFam_ok (fun n=>((az7 n).2)) _ _ (fun a h=>⟨2*tV (a.2.2.2),⟨h.1,h.2,lH _⟩,rfl⟩)⟩
def ayy (s:Schema)(c:Str)(l:List AVal):Pg AVal:=aL l (.each false lF l dK (fun d (b a:AVal)=> .ix d l.length (.br (d==0) (rl b.re) (.ob (okS s/\kV a.re/\kV b.re/\tV a.re+tV b.re<=1048576) (rl (Xm s c a.re b.re).re)))) (fun d (a:AVal)=> .ret a.re) (AVal.mk 10 0 [] [] [] [] []))
def aGO (s:Schema)(a:Str)(l:List AVal):=(ayy s a l).val
theorem RH (s:Schema)(b:Str)(l:List AVal)(h:okS s/\(∀v∈l,kV v)/\smL (fun v=>1+tV v) l<=1048576):IsP (ayy s b l) (fun r=>kV r/\tV r<=1048576):=
 by
 obtain⟨o,m,n⟩:=h;have t:l.length<=1048576:=zW (ww fun x=>by omega) n;unfold ayy;simp only[AVal.cZ];refine isP_as (isP_each (fun k (y:AVal)=>kV y/\tV y<=1+smL (fun v=>1+tV v) (l.take k)/\(0 < k->tV y+1<=1+smL (fun v=>1+tV v) (l.take k))) ⟨(je 10 0 [] ⟨by decide,by decide⟩).1,by rw[(je 10 0 [] ⟨by decide,by decide⟩).2];exact Nat.add_le_add_left (qR _) 1,fun e=>absurd e h_⟩ ah (fun k y j a=> ?_) (fun y a=>isP_ret ⟨a.1,?_⟩))
 ·have e:=oJ (f:=fun v=>1+tV v) (d:=dK) j;have e:smL (fun v=>1+tV v) (l.take (k+1))=smL (fun v=>1+tV v) (l.take k)+(1+tV (l.getD k dK)):=e;have q:smL (fun v=>1+tV v) (l.take (k+1))<=smL (fun v=>1+tV v) l:=rJ (Qcp _ l);have c:=m _ (getD_mem (d:=dK) j);refine isP_ix ah ah (isP_beq (fun g=>isP_ret ⟨c,by omega,fun _=>by omega⟩) (fun g=> ?_));have i:okS s/\(kV y/\kV (l.getD k dK)/\tV y+tV (l.getD k dK)<=1048576):=⟨o,a.1,c,by have:=a.2.2 ah;omega⟩;obtain⟨p,u⟩:=Zw s b y (l.getD k dK) i;exact isP_ob i (isP_ret ⟨p,by have:=a.2.1;omega,fun _=>by have:=a.2.2 ah;omega⟩)
 ·rw[yS]at a;by_cases g:l.length=0
  ·have:l=[]:=List.length_eq_zero_iff.1 g;subst this;have:=a.2.1;simp only[smL]at this;omega
  ·have:=a.2.2 ah;omega
def aCs:Ent Z:=E1 [auk] [jS 3 (aT (fun b=>[s0 13, .cells (pid (b 7)) (nn 7)]) (lCons cI (l1 ay)))] (aCons (aAgg cd_Schema) (aCons (aLf cStr) (a1 (aLf fP)))) (shr [.slot 0 true (nn 7)] (l1 ay)) [] func177 1 (u3 ayy) (fun a=>okS a.1/\(∀v∈a.2.2,kV v)/\smL (fun v=>1+tV v) a.2.2<=1048576) fun a h=>(RH a.1 a.2.1 a.2.2 h).1
theorem adt {x:Handler}(h:Nj x=true):(x.Kind=5->1<=x.Num)/\(x.Kind=4->x.Num<=64)/\(x.Kind=1\/x.Kind=2\/x.Kind=3\/x.Kind=4\/x.Kind=5):=by
 have k:VP (ranged x) (fun r=>r=true->(x.Kind=5->1<=x.Num)/\(x.Kind=4->x.Num<=64)/\(x.Kind=1\/x.Kind=2\/x.Kind=3\/x.Kind=4\/x.Kind=5)):=by
  unfold ranged;have a:∀{p:Prop},(false=true->p):=fun e=>by cases e
  refine vp_br (fun _=>vp_ret a) fun _=>vp_br (fun _=>vp_ret a) fun _=>vp_cut (fun y=>y=true->x.Kind=1\/x.Kind=2) (vp_br (fun e=>vp_ret fun _=> .inl (eq_of_beq e)) fun _=>vp_ret fun e=> .inr (eq_of_beq e)) fun y b=>vp_br (fun e=>vp_ret fun _=> ?_) fun _=>vp_br (fun e=> ?_) fun _=>vp_br (fun e=> ?_) fun _=>vp_br (fun e=> ?_) fun _=>vp_ret a
  ·rcases b e with k | k<;>refine⟨fun q=> ?_,fun q=> ?_,by omega⟩<;>omega
  ·have e:=eq_of_beq e;exact vp_br (fun _=>vp_ret fun _=>⟨fun q=>by omega,fun q=>by omega,by omega⟩) fun _=>vp_ret a
  ·have e:=eq_of_beq e;exact vp_br (fun _=>vp_ret fun c=>⟨fun q=>by omega,fun _=>xe c,by omega⟩) fun _=>vp_ret a
  ·have e:=eq_of_beq e;exact vp_br (fun d=>vp_ret fun _=>⟨fun _=>xe d,fun q=>by omega,by omega⟩) fun _=>vp_ret a
 exact k h
theorem fits_kind {s:Schema}{x:Handler}(h:fitsP s x=true):(x.Kind=5->1<=x.Num)/\(x.Kind=4->x.Num<=64/\(mV (kZ s x.Method).1.Shape).2=true)/\(x.Kind=1\/x.Kind=2\/x.Kind=3\/x.Kind=4\/x.Kind=5):=by
 have k:VP (fits s x) (fun r=>r=true->(x.Kind=5->1<=x.Num)/\(x.Kind=4->x.Num<=64/\(mV (kZ s x.Method).1.Shape).2=true)/\(x.Kind=1\/x.Kind=2\/x.Kind=3\/x.Kind=4\/x.Kind=5)):=by
  unfold fits;have c:∀{p:Prop},(false=true->p):=fun e=>by cases e
  refine vp_ob (vp_lt fun n l=>vp_br (fun _=>vp_ret c) fun _=>vp_br (fun _=>vp_ret c) fun g=>vp_lt fun m j=> ?_);have g:Nj (Handler.mk x.Method x.Kind x.Num 0)=true:=by simpa using g
  obtain⟨f,i,d⟩:=adt g;have f:x.Kind=5->1<=x.Num:=f;have i:x.Kind=4->x.Num<=64:=i;have d:x.Kind=1\/x.Kind=2\/x.Kind=3\/x.Kind=4\/x.Kind=5:=d;have a:∀{b:Bool},(x.Kind=4->(mV (kZ s x.Method).1.Shape).2=true)->(b=true->(x.Kind=5->1<=x.Num)/\(x.Kind=4->x.Num<=64/\(mV (kZ s x.Method).1.Shape).2=true)/\(x.Kind=1\/x.Kind=2\/x.Kind=3\/x.Kind=4\/x.Kind=5)):=fun k _=>⟨f,fun q=>⟨i q,k q⟩,d⟩
  refine vp_br (fun e=>vp_ret (a fun q=> ?_)) fun _=>vp_br (fun e=>vp_br (fun _=>vp_ret (a fun q=> ?_)) fun _=>vp_ret c) fun _=>vp_br (fun _=>vp_br (fun e=>vp_ret (a fun _=> ?_)) fun _=>vp_ret c) fun e=>vp_ret (a fun q=> ?_)
  ·have e:=eq_of_beq e;omega
  ·have e:=eq_of_beq e;omega
  ·rw[j,l]at e;exact e
  ·rw[q]at e;cases e
 exact k h
def inQ (l:List Str):Prop:=smL (fun d=>2+8*d.length) l<=1048576
def wOk (w:server_work):Prop:=(∀v∈w.in_,kV v)/\smL (fun v=>1+tV v) w.in_<=1048576
def VH (w:server_work)(r:List AVal):Prop:=(∀v∈r,gV v)/\r.length<=67108864/\(w.one=true->w.h.Kind≠4->r.length=1)
theorem apv {w:server_work}(h:wOk w):∀v∈w.in_,gV v:=fun v a=>⟨h.1 v a,by
 have k:1+tV v<=smL (fun v=>1+tV v) w.in_:=C_ (f:=fun v=>1+tV v) a;have:=h.2;omega⟩
theorem aia {w:server_work}(h:wOk w):w.in_.length<=1048576:=zW (ww fun x=>by omega) h.2
theorem ax_ (k b:Int)(a:isU64 b):gV (AVal.mk k b [] [] [] [] []):=⟨(je k b [] a).1,by rw[(je k b [] a).2];decide⟩
theorem aic {l:List Str}(h:inQ l):l.length<=1048576:=zW (ww fun x=>by omega) h
theorem an9 {l:List Str}(h:inQ l)(k:Nat):smL (fun d:Str=>2+8*d.length) (l.take k)<=1048576:=zW (rJ (Qcp k l)) h
def Y9 (s:Schema)(x:Handler)(r:List Str×Status):Prop:=(∀d∈r.1,d.length<=65536)/\(r.2.Code≠0->r.1=[])/\(r.2.Code=0->(mV (kZ s x.Method).1.Shape).2=false->r.1.length=1)/\r.1.length<=67108864
theorem FD {s:Schema}{x:Handler}{c:Int}(h:c≠0):Y9 s x ([],Status.mk c []):=⟨fun d a=>(by cases a),fun _=>rfl,fun e=>absurd e h,qR _⟩
def wEcho (w:server_work):Pg (List AVal):=.br (!w.one) (.ret w.in_) (aL w.in_ (.br (decide (0 < (↑w.in_.length:Int))) (.lt (wrp .i64 ((↑w.in_.length:Int) - 1)) fun a=> .ob (0<=a/\a<=(↑w.in_.length:Int)/\(↑w.in_.length:Int)<=(↑w.in_.length:Int)) (.ret (List.drop a.toNat (List.take w.in_.length w.in_)))) (.ret [AVal.mk 10 0 [] [] [] [] []])))
def wEchoP (w:server_work):=(wEcho w).val
theorem VE (w:server_work)(h:wOk w):IsP (wEcho w) (fun r=>VH w r):=
 by
 have f:=aia h;unfold wEcho;refine isP_br (fun a=>isP_ret ⟨apv h,by omega,fun e=>by rw[e]at a;cases a⟩) (fun a=>isP_as (isP_brd (fun i=>kT fun g c d=>isP_ob ⟨by omega,by omega,AA _⟩ (isP_ret ⟨fun v b=>apv h v ?_,?_,fun _ _=> ?_⟩)) (fun _=>isP_ret ⟨jq (ax_ 10 0 ⟨by decide,by decide⟩),by decide,fun _ _=>rfl⟩)))
 ·rw[yS]at b;exact List.mem_of_mem_drop b
 ·rw[Qa9,yS];omega
 ·rw[Qa9,yS];omega
def ayJ:Ent Z:=E1 [] [] (a1 (aAgg dD)) (R1 fP) [] func101 1 wEcho (fun a=>wOk a) fun a h=>(VE a h).1
def Y0 (w:server_work):Pg (List AVal):=aL w.in_ (.lt (acB w.s w.m.Out w.h.Num) fun a=> .ret [AVal.mk 10 0 [] [] [] [Slot.mk a.1.Num (AVal.mk a.1.cO.Kind (wrp .u64 (↑w.in_.length:Int)) [] [] [] [] [])] []])
def awl (w:server_work):=(Y0 w).val
theorem TB (w:server_work)(h:wOk w):IsP (Y0 w) (fun r=>VH w r):=
 by
 unfold Y0;refine isP_as (isP_lt fun a c=>isP_ret ⟨jq ⟨?_,?_⟩,by show 1<=67108864;decide,fun _ _=>rfl⟩)
 ·have k:=(je a.1.cO.Kind (wrp .u64 (w.in_.length:Int)) [] (LQ _)).1;exact(gW _).2 ⟨⟨zX,fun r b=>(by cases b)⟩,fun x hx=>qcq,fun x hx=>qcq,jq k⟩
 ·have k:=(je a.1.cO.Kind (wrp .u64 (w.in_.length:Int)) [] (LQ _)).2;rw[gQ];show 1+0+0+0+(tS _+0)+0<=_
  rw[yc];show 1+0+0+0+(1+tV (AVal.mk a.1.cO.Kind (wrp .u64 (w.in_.length:Int)) [] [] [] [] [])+0)+0<=_
  rw[k];decide
def ato:Ent Z:=E1 [V4] [] (a1 (aAgg dD)) (R1 fP) [] func103 1 Y0 (fun a=>wOk a) fun a h=>(TB a h).1
def wRepeat (w:server_work):Pg (List AVal):=aL w.in_ (.each false lF w.in_ dK (fun c e (b:List AVal)=> .ix c w.in_.length (.cnt lF 0 w.h.Num (fun d (a:List AVal)=> .ob (bM (a.length+1) 128) (rl (a++[e.re]))) (fun d (a:List AVal)=> rl a) b)) (fun c (b:List AVal)=> .ret b) [])
def wRepeatP (w:server_work):=(wRepeat w).val
theorem Mc (w:server_work)(h:wOk w/\w.h.Num<=64/\w.h.Kind=4):IsP (wRepeat w) (fun r=>VH w r):=
 by
 obtain⟨h,o,f⟩:=h;have n:=aia h;unfold wRepeat;simp only[AVal.cZ];refine isP_as (isP_each (fun k (y:List AVal)=>(∀v∈y,gV v)/\y.length<=64*k) ⟨fun v j=>(by cases j),lH _⟩ ah (fun k y c a=> ?_) (fun y a=>isP_ret ⟨a.1,by have:=a.2;omega,fun _ e=>absurd f e⟩));have g:=apv h _ (getD_mem (d:=dK) c);exact isP_ix ah ah (isP_cnt (fun i (z:List AVal)=>(∀v∈z,gV v)/\(z.length:Int)<=64*k+i/\i<=64) ⟨a.1,by have:=a.2;omega,by decide⟩ h_ ah (fun i z l m b=>isP_ob (room_of ah ah) (isP_ret ⟨nT b.1 (jq g),by simp only[kG,uU,uF];omega,by omega⟩)) (fun i z _ _ b=>isP_ret ⟨b.1,by omega⟩))
def alo:Ent Z:=E1 [] [jS 3 (aT (fun b=>[s0 9, .slot 3 false [some 77]]) (lCons cI (l1 fP))),jS 6 (aT (fun b=>[s0 16, .slot 3 false [some 77]]) (lCons cI (l1 fP)))] (a1 (aAgg dD)) (R1 fP) [] func104 1 wRepeat (fun a=>wOk a/\a.h.Num<=64/\a.h.Kind=4) fun a h=>(Mc a h).1
def Oy (w:server_work):Pg (List AVal):=.ob (okS w.s/\(∀(v:AVal),v∈w.in_->kV v)/\smL (fun(v:AVal)=>1+tV v) w.in_<=1048576) (.ret [(aGO w.s w.m.Out w.in_).re])
def aqk (w:server_work):=(Oy w).val
theorem KG (w:server_work)(h:wOk w/\okS w.s):IsP (Oy w) (fun r=>VH w r):=
 by
 have q:okS w.s/\(∀v∈w.in_,kV v)/\smL (fun v=>1+tV v) w.in_<=1048576:=⟨h.2,h.1.1,h.1.2⟩;unfold Oy;simp only[AVal.cZ];exact isP_ob q (isP_ret ⟨jq ⟨(RH w.s w.m.Out w.in_ q).2.1,(RH w.s w.m.Out w.in_ q).2.2⟩,by show 1<=67108864;decide,fun _ _=>rfl⟩)
def amA:Ent Z:=E1 [aCs] [] (a1 (aAgg dD)) (R1 fP) [] func102 1 Oy (fun a=>wOk a/\okS a.s) fun a h=>(KG a h).1
def aDk:Ent Z:=xQ Z [] 47 [true] func47 dE
def aBB:Ent Z:=xQ Z [] 47 [false,true] func47 dE
def aEH:Ent Z:=xQ Z [] 47 [false,false,true] func47 dE
def aBO:Ent Z:=xQ Z [] 47 [false,false,false] func47 dE
def ansG (c:Handler->Prop)(q:server_work->Prop)(W:server_work->List AVal)(s:Schema)(x:Handler)(l:List Str):Pg (List Str×Status):=.ob (okS s) (.lt (iP s) fun b=> .br (b.2 !=0) (.ret ([],Status.mk 11 [])) (.ob (List.length x.Method<=1048576) (.br (!fitsP s x) (.ret ([],Status.mk 11 [])) (.br (x.Kind==5) (.ret ([],Status.mk x.Num [])) (.ob (List.length x.Method<=1048576) (.lt (kZ s x.Method) fun f=> .cut (fun(i:server_work)=> .ob (c i.h) (.ob (q i) (.lt (W i) fun d=> aL d (.each false lF d dK (fun m j (e:List Str)=> .ix m d.length (.ob (Gt b.1/\bZ b.1/\gV j.re) (.lt (aqO b.1 f.1.Out j.re) fun h=> .br (h.2 !=0) (.ret (.inr ([],Status.mk 11 []))) (.ob (bM (e.length+1) 16) (rl (e++[h.1])))))) (fun m (e:List Str)=> .ret (e,Status.mk 0 [])) [])))) (aL l (.each false lF l [] (fun k n (a:server_work)=> .ix k l.length (.ob (bZ b.1/\okL jy) (.lt (kU b.1 f.1.Out n jy) fun g=> .br (g.2 !=0) (.ret (.inr (.inr ([],Status.mk 11 [])))) (.ob (bM (a.in_.length+1) 128) (rl (server_work.mk a.s a.h a.m (a.in_++[g.1.re]) a.one)))))) (fun k (a:server_work)=> rl a) (server_work.mk s x f.1 [] !(mV f.1.Shape).2)))))))))
theorem FV {c:Handler->Prop}{q:server_work->Prop}{W:server_work->List AVal}{s:Schema}{x:Handler}{l:List Str}(h:okS s/\okN s/\x.Method.length<=1048576/\inQ l)(O:c x)(I:fitsP s x=true->¬x.Kind=5->∀y:server_work,y.s=s->y.h=x->wOk y->q y)(P:∀y,q y->VH y (W y)):IsP (ansG c q W s x l) (fun r=>Y9 s x r):=by
 obtain⟨u,V,A,B⟩:=h;have U:=aic B;unfold ansG;simp only[AVal.cZ];refine isP_ob u (isP_lt fun v8 N=>isP_bne (fun _=>isP_ret (FD h_)) (fun w=>isP_ob A (isP_br (fun _=>isP_ret (FD h_)) (fun n=> ?_))));have n:fitsP s x=true:=by simpa using n
 obtain⟨f1,f2,f3⟩:=fits_kind n;rw[N]at w⊢;have o:=aCv u V w;have g:=Y6 u w;refine isP_beq (fun e=>isP_ret (FD (by have:=f1 e;omega))) (fun X=>isP_ob A (isP_lt fun b Xi=> ?_));refine isP_cut (fun y=>y.s=s/\y.h=x/\y.one= !(mV b.1.Shape).2/\wOk y) (isP_as (isP_each (fun k y=>(y.s=s/\y.h=x/\y.one= !(mV b.1.Shape).2)/\(∀v∈y.in_,kV v)/\smL (fun v=>1+tV v) y.in_<=smL (fun d:Str=>2+8*d.length) (l.take k)/\y.in_.length=k) ⟨⟨rfl,rfl,rfl⟩,fun v T=>(by cases T),qR _,rfl⟩ ah (fun k y i a=> ?_) (fun y a=>isP_ret ⟨a.1.1,a.1.2.1,a.1.2.2,a.2.1,?_⟩))) (fun j D=> ?_)
 ·have m:(kU (iP s).1 b.1.Out (l.getD k []) jy).2=0->kV (kU (iP s).1 b.1.Out (l.getD k []) jy).1/\tV (kU (iP s).1 b.1.Out (l.getD k []) jy).1<=1+8*(l.getD k []).length:=(L8 (iP s).1 b.1.Out (l.getD k []) jy ⟨g,Ik⟩).2;obtain⟨⟨K,i2,M⟩,Z,j2,S⟩:=a;have e:smL (fun d:Str=>2+8*d.length) (l.take (k+1))=smL (fun d:Str=>2+8*d.length) (l.take k)+(2+8*(l.getD k []).length):=oJ (f:=fun d:Str=>2+8*d.length) (d:=[]) i;refine isP_ix ah ah (isP_ob ⟨g,Ik⟩ (isP_lt fun v12 F=>isP_bne (fun _=>isP_ret (show Y9 s x ([],Status.mk 11 [])from FD h_)) (fun p=> ?_)));rw[<-F]at m;obtain⟨d1,d2⟩:=m p;refine isP_ob (room_of ah ah) (isP_ret ⟨⟨K,i2,M⟩,nT Z (jq d1),?_,?_⟩)
  ·show smL (fun v=>1+tV v) (y.in_++[_])<=_
   rw[ni,e];show _+(1+tV _+0)<=_
   omega
  ·show(y.in_++[_]).length=_
   rw[kG,S];rfl
 ·have:=a.2.2.1;have p:=an9 B l.length;exact zW this p
 ·obtain⟨J,t,g3,R⟩:=D;have G:q j:=I n X j J t R;have z:VH j (W j):=P j G;refine isP_ob (by rw[t];exact O) (isP_ob G (isP_lt fun E Y=> ?_));rw[<-Y]at z;obtain⟨w1,w2,L⟩:=z;refine isP_as (isP_each (fun k (y:List Str)=>(∀d∈y,d.length<=65536)/\y.length=k) ⟨fun d m=>(by cases m),rfl⟩ ah (fun k y i a=> ?_) (fun y a=>isP_ret ⟨a.1,fun e=>absurd rfl e,fun _ C=> ?_,by have:=a.2;show y.length<=_;omega⟩))
  ·have H:=w1 _ (getD_mem (d:=dK) i);have Q:=(KT (iP s).1 b.1.Out (E.getD k dK) ⟨o,g,H⟩).2;exact isP_ix ah ah (isP_ob ⟨o,g,H⟩ (isP_lt fun v11 IJ=>isP_bne (fun _=>isP_ret (show Y9 s x ([],Status.mk 11 [])from FD h_)) (fun _=>isP_ob (room_of (by have:=a.2;omega) (by have:=a.2;omega)) (isP_ret ⟨nT a.1 (jq (by rw[IJ];exact Q)),by have:=a.2;simp only[kG,uU,uF];omega⟩))))
  ·show y.length=1
   have:=a.2;rw[this];refine L ?_ ?_
   ·rw[g3,Xi,C];rfl
   ·rw[t];intro e;have:=(f2 e).2;rw[C]at this;cases this
def ast (s:Schema)(x:Handler)(l:List Str):Pg (List Str×Status):=ansG (fun h=>(h.Kind==1)=true/\True) wOk wEchoP s x l
def anW (s:Schema)(x:Handler)(l:List Str):=(ast s x l).val
theorem Vt (s:Schema)(x:Handler)(l:List Str)(h:okS s/\okN s/\x.Method.length<=1048576/\inQ l/\x.Kind=1):IsP (ast s x l) (fun r=>Y9 s x r):=
 by
 obtain⟨a,b,d,e,c⟩:=h;have h:=And.intro a (And.intro b (And.intro d e));exact FV h ⟨beq_iff_eq.2 c,trivial⟩ (fun _ _ y _ _ k=>k) fun y k=>(VE y k).2
def azy:Ent Z:=E1 [BQ,O_,tC,rf,uf,yw,aDk,Ci,ayJ] [jS 11 (aT (fun b=>[s0 68, .cells (pid (b 15)) [none,none,none,none,none,none,none,none,none,none,none,none,some 77,none]]) (lCons cI (l1 dD))),jS 21 (aT (fun b=>[s0 96, .slot 21 false [some 9]]) (lCons cI (l1 aV))),jS 100018 (aT (fun b=>[.cells (pid (b 15)) [none,none,none,none,none,none,none,none,none,none,none,none,some 77,none]]) (l1 dD)),jS 800009 (aT (fun b=>[.cells (pid (b 15)) [none,none,none,none,none,none,none,none,none,none,none,none,some 77,none]]) (l1 dD))] (aCons (aAgg cd_Schema) (aCons (aAgg eP) (a1 (aLf aV)))) (shr [s0 0, .slot 1 true [none,none]] (lCons aV (l1 jb))) [] func21 2 (u3 ast) (fun a=>okS a.1/\okN a.1/\a.2.1.Method.length<=1048576/\inQ a.2.2/\a.2.1.Kind=1) fun a h=>(Vt a.1 a.2.1 a.2.2 h).1
def auc (s:Schema)(x:Handler)(l:List Str):Pg (List Str×Status):=ansG (fun h=>(h.Kind==1)=false/\(h.Kind==2)=true/\True) (fun y=>wOk y/\okS y.s) aqk s x l
def aog (s:Schema)(x:Handler)(l:List Str):=(auc s x l).val
theorem VQ (s:Schema)(x:Handler)(l:List Str)(h:okS s/\okN s/\x.Method.length<=1048576/\inQ l/\x.Kind=2):IsP (auc s x l) (fun r=>Y9 s x r):=
 by
 obtain⟨b,c,d,f,a⟩:=h;have h:=And.intro b (And.intro c (And.intro d f));exact FV h ⟨by rw[a];rfl,by rw[a];rfl,trivial⟩ (fun _ _ y e _ k=>⟨k,by rw[e];exact h.1⟩) fun y k=>(KG y k).2
def azz:Ent Z:=E1 [BQ,O_,tC,rf,uf,yw,aBB,Ci,amA] [jS 11 (aT (fun b=>[s0 68, .cells (pid (b 15)) [none,none,none,none,none,none,none,none,none,none,none,none,some 77,none]]) (lCons cI (l1 dD))),jS 21 (aT (fun b=>[s0 96, .slot 21 false [some 9]]) (lCons cI (l1 aV))),jS 100018 (aT (fun b=>[.cells (pid (b 15)) [none,none,none,none,none,none,none,none,none,none,none,none,some 77,none]]) (l1 dD)),jS 800009 (aT (fun b=>[.cells (pid (b 15)) [none,none,none,none,none,none,none,none,none,none,none,none,some 77,none]]) (l1 dD))] (aCons (aAgg cd_Schema) (aCons (aAgg eP) (a1 (aLf aV)))) (shr [s0 0, .slot 1 true [none,none]] (lCons aV (l1 jb))) [] func21 2 (u3 auc) (fun a=>okS a.1/\okN a.1/\a.2.1.Method.length<=1048576/\inQ a.2.2/\a.2.1.Kind=2) fun a h=>(VQ a.1 a.2.1 a.2.2 h).1
def apV (s:Schema)(x:Handler)(l:List Str):Pg (List Str×Status):=ansG (fun h=>(h.Kind==1)=false/\(h.Kind==2)=false/\(h.Kind==3)=true/\True) wOk awl s x l
def atF (s:Schema)(x:Handler)(l:List Str):=(apV s x l).val
theorem U_ (s:Schema)(x:Handler)(l:List Str)(h:okS s/\okN s/\x.Method.length<=1048576/\inQ l/\x.Kind=3):IsP (apV s x l) (fun r=>Y9 s x r):=
 by
 obtain⟨b,c,d,e,a⟩:=h;have h:=And.intro b (And.intro c (And.intro d e));exact FV h ⟨by rw[a];rfl,by rw[a];rfl,by rw[a];rfl,trivial⟩ (fun _ _ y _ _ k=>k) fun y k=>(TB y k).2
def azx:Ent Z:=E1 [BQ,O_,tC,rf,uf,yw,aEH,Ci,ato] [jS 11 (aT (fun b=>[s0 68, .cells (pid (b 15)) [none,none,none,none,none,none,none,none,none,none,none,none,some 77,none]]) (lCons cI (l1 dD))),jS 21 (aT (fun b=>[s0 96, .slot 21 false [some 9]]) (lCons cI (l1 aV))),jS 100018 (aT (fun b=>[.cells (pid (b 15)) [none,none,none,none,none,none,none,none,none,none,none,none,some 77,none]]) (l1 dD)),jS 800009 (aT (fun b=>[.cells (pid (b 15)) [none,none,none,none,none,none,none,none,none,none,none,none,some 77,none]]) (l1 dD))] (aCons (aAgg cd_Schema) (aCons (aAgg eP) (a1 (aLf aV)))) (shr [s0 0, .slot 1 true [none,none]] (lCons aV (l1 jb))) [] func21 2 (u3 apV) (fun a=>okS a.1/\okN a.1/\a.2.1.Method.length<=1048576/\inQ a.2.2/\a.2.1.Kind=3) fun a h=>(U_ a.1 a.2.1 a.2.2 h).1
def arB (s:Schema)(x:Handler)(l:List Str):Pg (List Str×Status):=ansG (fun h=>(h.Kind==1)=false/\(h.Kind==2)=false/\(h.Kind==3)=false/\True) (fun y=>wOk y/\y.h.Num<=64/\y.h.Kind=4) wRepeatP s x l
def anH (s:Schema)(x:Handler)(l:List Str):=(arB s x l).val
theorem Vo (s:Schema)(x:Handler)(l:List Str)(h:okS s/\okN s/\x.Method.length<=1048576/\inQ l/\(x.Kind≠1/\x.Kind≠2/\x.Kind≠3)):IsP (arB s x l) (fun r=>Y9 s x r):=
 by
 obtain⟨d,f,g,i,a⟩:=h;have h:=And.intro d (And.intro f (And.intro g i));exact FV h ⟨beq_eq_false_iff_ne.2 a.1,beq_eq_false_iff_ne.2 a.2.1,beq_eq_false_iff_ne.2 a.2.2,trivial⟩ (fun b j y _ e k=>by have c:x.Kind=4:=(by have:=(fits_kind b).2.2;omega);rw[e];exact⟨k,((fits_kind b).2.1 c).1,c⟩) fun y k=>(Mc y k).2
def azA:Ent Z:=E1 [BQ,O_,tC,rf,uf,yw,aBO,Ci,alo] [jS 11 (aT (fun b=>[s0 68, .cells (pid (b 15)) [none,none,none,none,none,none,none,none,none,none,none,none,some 77,none]]) (lCons cI (l1 dD))),jS 21 (aT (fun b=>[s0 96, .slot 21 false [some 9]]) (lCons cI (l1 aV))),jS 100018 (aT (fun b=>[.cells (pid (b 15)) [none,none,none,none,none,none,none,none,none,none,none,none,some 77,none]]) (l1 dD)),jS 800009 (aT (fun b=>[.cells (pid (b 15)) [none,none,none,none,none,none,none,none,none,none,none,none,some 77,none]]) (l1 dD))] (aCons (aAgg cd_Schema) (aCons (aAgg eP) (a1 (aLf aV)))) (shr [s0 0, .slot 1 true [none,none]] (lCons aV (l1 jb))) [] func21 2 (u3 arB) (fun a=>okS a.1/\okN a.1/\a.2.1.Method.length<=1048576/\inQ a.2.2/\(a.2.1.Kind≠1/\a.2.1.Kind≠2/\a.2.1.Kind≠3)) fun a h=>(Vo a.1 a.2.1 a.2.2 h).1
def anP (s:Schema)(x:Handler)(l:List Str):Prop:=okS s/\okN s/\x.Method.length<=1048576/\inQ l
def svAnswerP (s:Schema)(x:Handler)(l:List Str):List Str×Status:=bif x.Kind==1 then anW s x l else bif x.Kind==2 then aog s x l else bif x.Kind==3 then atF s x l else anH s x l
def Qn:Ent Z:=⟨21,ctN (args (aCons (aAgg cd_Schema) (aCons (aAgg eP) (a1 (aLf aV))))) (shr [s0 0, .slot 1 true [none,none]] (lCons aV (l1 jb))) 2 [] (fun a=>some (anP a.1 a.2.1 a.2.2)) (fun a=>svAnswerP a.1 a.2.1 a.2.2),by
  have c:CtOk Z.P Z.S 21 (ctN (args (aCons (aAgg cd_Schema) (aCons (aAgg eP) (a1 (aLf aV))))) (shr [s0 0, .slot 1 true [none,none]] (lCons aV (l1 jb))) 2 [] (fun a=>some ((a.2.1.Kind==1)=true/\anP a.1 a.2.1 a.2.2)) (fun a=>anW a.1 a.2.1 a.2.2)):=ctFam_ok (fun _=>azy.ok) _ _ (fun a h=>⟨0,⟨h.2.1,h.2.2.1,h.2.2.2.1,h.2.2.2.2,eq_of_beq h.1⟩,rfl⟩);have b:CtOk Z.P Z.S 21 (ctN (args (aCons (aAgg cd_Schema) (aCons (aAgg eP) (a1 (aLf aV))))) (shr [s0 0, .slot 1 true [none,none]] (lCons aV (l1 jb))) 2 [] (fun a=>some ((a.2.1.Kind==2)=true/\((a.2.1.Kind==1)=false/\anP a.1 a.2.1 a.2.2))) (fun a=>aog a.1 a.2.1 a.2.2)):=ctFam_ok (fun _=>azz.ok) _ _ (fun a h=>⟨0,⟨h.2.2.1,h.2.2.2.1,h.2.2.2.2.1,h.2.2.2.2.2,eq_of_beq h.1⟩,rfl⟩);have e:CtOk Z.P Z.S 21 (ctN (args (aCons (aAgg cd_Schema) (aCons (aAgg eP) (a1 (aLf aV))))) (shr [s0 0, .slot 1 true [none,none]] (lCons aV (l1 jb))) 2 [] (fun a=>some ((a.2.1.Kind==3)=true/\((a.2.1.Kind==2)=false/\((a.2.1.Kind==1)=false/\anP a.1 a.2.1 a.2.2)))) (fun a=>atF a.1 a.2.1 a.2.2)):=ctFam_ok (fun _=>azx.ok) _ _ (fun a h=>⟨0,⟨h.2.2.2.1,h.2.2.2.2.1,h.2.2.2.2.2.1,h.2.2.2.2.2.2,eq_of_beq h.1⟩,rfl⟩);have d:CtOk Z.P Z.S 21 (ctN (args (aCons (aAgg cd_Schema) (aCons (aAgg eP) (a1 (aLf aV))))) (shr [s0 0, .slot 1 true [none,none]] (lCons aV (l1 jb))) 2 [] (fun a=>some ((a.2.1.Kind==3)=false/\((a.2.1.Kind==2)=false/\((a.2.1.Kind==1)=false/\anP a.1 a.2.1 a.2.2)))) (fun a=>anH a.1 a.2.1 a.2.2)):=ctFam_ok (fun _=>azA.ok) _ _ (fun a h=>⟨0,⟨h.2.2.2.1,h.2.2.2.2.1,h.2.2.2.2.2.1,h.2.2.2.2.2.2,beq_eq_false_iff_ne.1 h.2.2.1,beq_eq_false_iff_ne.1 h.2.1,beq_eq_false_iff_ne.1 h.1⟩,rfl⟩);exact ctN_if c (ctN_if b (ctN_if e d))⟩
theorem DD {s:Schema}{x:Handler}{l:List Str}(h:anP s x l):Y9 s x (svAnswerP s x l):=by
 obtain⟨b,a,c,d⟩:=h;unfold svAnswerP;cases e:x.Kind==1 with
 | true=>exact(Vt s x l ⟨b,a,c,d,eq_of_beq e⟩).2
 | false=>
  cases f:x.Kind==2 with
  | true=>exact(VQ s x l ⟨b,a,c,d,eq_of_beq f⟩).2
  | false=>
   cases g:x.Kind==3 with
   | true=>exact(U_ s x l ⟨b,a,c,d,eq_of_beq g⟩).2
   | false=>exact(Vo s x l ⟨b,a,c,d,beq_eq_false_iff_ne.1 e,beq_eq_false_iff_ne.1 f,beq_eq_false_iff_ne.1 g⟩).2
def atx:Ent Z:=xQ Z [DV] 265 [false,true] func265 dE
def atD:Ent Z:=xQ Z [DV] 265 [false,false,true] func265 dE
def ass:Ent Z:=xQ Z [DV] 265 [false,false,false,true] func265 dE
def asM:Ent Z:=xQ Z [DV] 265 [false,false,false,false] func265 dE
def apL (l:List Int):Pg Int:=aL l (.each false m_ l 0 (fun(b a:Int) (c:Unit)=> .ix b l.length (.br (a !=0) (.ret (.inr a)) (rl ()))) (fun b (c:Unit)=> .ret 0) ())
def QB (l:List Int):=(apL l).val
theorem apR (l:List Int):Is (apL l):=
 bW fun _=>dh (.inr ah) (fun b a _ _=>aW ah ah (dm iR iR)) (fun a _=>is_ret)
def wL:Ent Z:=E0 [] [jS 3 (aT (fun b=>[s0 8]) (l1 cI))] (a1 (aLf Y3)) (R1 cI) [] func270 1 apL fun a=>apR a
def NS (a:Raw)(b:Raw):Pg Int:=.ret (QB [sF a.Num b.Num,sF a.dF b.dF,adA a.Bits b.Bits,ahw a.Data b.Data])
def TM (a:Raw)(b:Raw):=(NS a b).val
theorem aeB (a:Raw)(b:Raw):Is (NS a b):=
 is_ret
def t_:Ent Z:=E0 [ry,wL,asY,aup] [] (aCons (aAgg lh) (a1 (aAgg lh))) (R1 cI) [] func274 1 (u2 NS) fun a=>aeB a.1 a.2
def cfR (l:List Raw)(m:List Raw):Pg Int:=.cut (fun(e:Unit)=> aL l (aL m (.br (decide ((↑l.length:Int) < (↑m.length:Int))) (.ret (-1)) (.ret 0)))) (aL l (.each false m_ l lD (fun a c (d:Unit)=> .ix a l.length (aL m (.br (decide ((↑m.length:Int)<=a)) (.ret (.inr (.inr 1))) (.ix a m.length (.lt (TM c (m.getD a.toNat lD)) fun b=> .br (b !=0) (.ret (.inr (.inr b))) (rl ())))))) (fun a (d:Unit)=> rl ()) ()))
def aFx (l:List Raw)(m:List Raw):=(cfR l m).val
theorem aDH (l:List Raw)(m:List Raw):Is (cfR l m):=
 gG (bW fun _=>dh (.inr ah) (fun d a _ _=>aW ah ah (bW fun _=>aQ iR (fun _=>aW ah ah (bg fun e c=>dm iR iR)))) (fun a _=>is_ret)) (fun f b=>bW fun _=>bW fun _=>aQ iR iR)
def acA:Ent Z:=E0 [t_] [jS 2 (aT (fun b=>[s0 13]) (l1 cI)),jS 100011 (aT (fun b=>[]) l0)] (aCons (aLf aZ) (aCons (aLf aZ) (a1 (ja 274 [])))) (R1 cI) [] func273 1 (fun a=>cfR a.1 a.2.1) fun a=>aDH a.1 a.2.1
def auv (e:AVal->AVal->Int)(dU:AVal->AVal->Prop)(d:List AVal->List AVal->Int)(nY:List AVal->List AVal->Prop)(f:List Pair->List Pair->Int)(oq:List Pair->List Pair->Prop)(g:List Slot->List Slot->Int)(n_:List Slot->List Slot->Prop)(c:Pair->Pair->Int)(ig:Pair->Pair->Prop)(h:Slot->Slot->Int)(ik:Slot->Slot->Prop)(a:AVal)(b:AVal):Pg Int:=.br (a.Kind !=b.Kind) (.ret (sF a.Kind b.Kind)) (.ob (fA b.Kind=true/\True) (.ob (fA a.Kind=true/\True) (.ret (ahQ a.re b.re))))
def arp (e:AVal->AVal->Int)(dU:AVal->AVal->Prop)(c:List AVal->List AVal->Int)(nY:List AVal->List AVal->Prop)(f:List Pair->List Pair->Int)(oq:List Pair->List Pair->Prop)(g:List Slot->List Slot->Int)(n_:List Slot->List Slot->Prop)(d:Pair->Pair->Int)(ig:Pair->Pair->Prop)(h:Slot->Slot->Int)(ik:Slot->Slot->Prop)(a:AVal)(b:AVal):Pg Int:=.br (a.Kind !=b.Kind) (.ret (sF a.Kind b.Kind)) (.ob (fA b.Kind=false/\(b.Kind==11)=true/\True) (.ob (fA a.Kind=false/\(a.Kind==11)=true/\True) (.ob (nY a.List b.List) (.ret (c a.List b.List)))))
def ad6 (f:AVal->AVal->Int)(dU:AVal->AVal->Prop)(e:List AVal->List AVal->Int)(nY:List AVal->List AVal->Prop)(c:List Pair->List Pair->Int)(oq:List Pair->List Pair->Prop)(g:List Slot->List Slot->Int)(n_:List Slot->List Slot->Prop)(d:Pair->Pair->Int)(ig:Pair->Pair->Prop)(h:Slot->Slot->Int)(ik:Slot->Slot->Prop)(a:AVal)(b:AVal):Pg Int:=.br (a.Kind !=b.Kind) (.ret (sF a.Kind b.Kind)) (.ob (fA b.Kind=false/\(b.Kind==11)=false/\(b.Kind==12)=true/\True) (.ob (fA a.Kind=false/\(a.Kind==11)=false/\(a.Kind==12)=true/\True) (.ob (oq a.Pairs b.Pairs) (.ret (c a.Pairs b.Pairs)))))
def atI (f:AVal->AVal->Int)(dU:AVal->AVal->Prop)(e:List AVal->List AVal->Int)(nY:List AVal->List AVal->Prop)(g:List Pair->List Pair->Int)(oq:List Pair->List Pair->Prop)(c:List Slot->List Slot->Int)(n_:List Slot->List Slot->Prop)(d:Pair->Pair->Int)(ig:Pair->Pair->Prop)(h:Slot->Slot->Int)(ik:Slot->Slot->Prop)(a:AVal)(b:AVal):Pg Int:=.br (a.Kind !=b.Kind) (.ret (sF a.Kind b.Kind)) (.ob (fA b.Kind=false/\(b.Kind==11)=false/\(b.Kind==12)=false/\(b.Kind==10)=true/\True) (.ob (fA a.Kind=false/\(a.Kind==11)=false/\(a.Kind==12)=false/\(a.Kind==10)=true/\True) (.ob (n_ a.Slots b.Slots) (.ret (QB [c a.Slots b.Slots,aFx a.bC b.bC])))))
def aqH (e:AVal->AVal->Int)(dU:AVal->AVal->Prop)(d:List AVal->List AVal->Int)(nY:List AVal->List AVal->Prop)(f:List Pair->List Pair->Int)(oq:List Pair->List Pair->Prop)(g:List Slot->List Slot->Int)(n_:List Slot->List Slot->Prop)(c:Pair->Pair->Int)(ig:Pair->Pair->Prop)(h:Slot->Slot->Int)(ik:Slot->Slot->Prop)(a:AVal)(b:AVal):Pg Int:=.br (a.Kind !=b.Kind) (.ret (sF a.Kind b.Kind)) (.ob (fA b.Kind=false/\(b.Kind==11)=false/\(b.Kind==12)=false/\(b.Kind==10)=false/\True) (.ob (fA a.Kind=false/\(a.Kind==11)=false/\(a.Kind==12)=false/\(a.Kind==10)=false/\True) (.ret 0)))
def cfL (c:AVal->AVal->Int)(dU:AVal->AVal->Prop)(f:List AVal->List AVal->Int)(nY:List AVal->List AVal->Prop)(g:List Pair->List Pair->Int)(oq:List Pair->List Pair->Prop)(h:List Slot->List Slot->Int)(n_:List Slot->List Slot->Prop)(e:Pair->Pair->Int)(ig:Pair->Pair->Prop)(j:Slot->Slot->Int)(ik:Slot->Slot->Prop)(l:List AVal)(m:List AVal):Pg Int:=.cut (fun(i:Unit)=> aL l (aL m (.br (decide ((↑l.length:Int) < (↑m.length:Int))) (.ret (-1)) (.ret 0)))) (aL l (.each false m_ l dK (fun a b (d:Unit)=> .ix a l.length (aL m (.br (decide ((↑m.length:Int)<=a)) (.ret (.inr (.inr 1))) (.ix a m.length (.ob (dU b.re (m.getD a.toNat dK).re) (.br (c b.re (m.getD a.toNat dK).re !=0) (.ret (.inr (.inr (c b.re (m.getD a.toNat dK).re)))) (rl ()))))))) (fun a (d:Unit)=> rl ()) ()))
def cfP (f:AVal->AVal->Int)(dU:AVal->AVal->Prop)(e:List AVal->List AVal->Int)(nY:List AVal->List AVal->Prop)(g:List Pair->List Pair->Int)(oq:List Pair->List Pair->Prop)(h:List Slot->List Slot->Int)(n_:List Slot->List Slot->Prop)(c:Pair->Pair->Int)(ig:Pair->Pair->Prop)(j:Slot->Slot->Int)(ik:Slot->Slot->Prop)(l:List Pair)(m:List Pair):Pg Int:=.cut (fun(i:Unit)=> aL l (aL m (.br (decide ((↑l.length:Int) < (↑m.length:Int))) (.ret (-1)) (.ret 0)))) (aL l (.each false m_ l dJ (fun a b (d:Unit)=> .ix a l.length (aL m (.br (decide ((↑m.length:Int)<=a)) (.ret (.inr (.inr 1))) (.ix a m.length (.ob (ig (Pair.mk b.Key.re b.Val.re) (Pair.mk (m.getD a.toNat dJ).Key.re (m.getD a.toNat dJ).Val.re)) (.br (c (Pair.mk b.Key.re b.Val.re) (Pair.mk (m.getD a.toNat dJ).Key.re (m.getD a.toNat dJ).Val.re) !=0) (.ret (.inr (.inr (c (Pair.mk b.Key.re b.Val.re) (Pair.mk (m.getD a.toNat dJ).Key.re (m.getD a.toNat dJ).Val.re))))) (rl ()))))))) (fun a (d:Unit)=> rl ()) ()))
def cfS (g:AVal->AVal->Int)(dU:AVal->AVal->Prop)(f:List AVal->List AVal->Int)(nY:List AVal->List AVal->Prop)(h:List Pair->List Pair->Int)(oq:List Pair->List Pair->Prop)(i:List Slot->List Slot->Int)(n_:List Slot->List Slot->Prop)(e:Pair->Pair->Int)(ig:Pair->Pair->Prop)(c:Slot->Slot->Int)(ik:Slot->Slot->Prop)(l:List Slot)(m:List Slot):Pg Int:=.cut (fun(j:Unit)=> aL l (aL m (.br (decide ((↑l.length:Int) < (↑m.length:Int))) (.ret (-1)) (.ret 0)))) (aL l (.each false m_ l bn (fun a b (d:Unit)=> .ix a l.length (aL m (.br (decide ((↑m.length:Int)<=a)) (.ret (.inr (.inr 1))) (.ix a m.length (.ob (ik (Slot.mk b.Num b.Val.re) (Slot.mk (m.getD a.toNat bn).Num (m.getD a.toNat bn).Val.re)) (.br (c (Slot.mk b.Num b.Val.re) (Slot.mk (m.getD a.toNat bn).Num (m.getD a.toNat bn).Val.re) !=0) (.ret (.inr (.inr (c (Slot.mk b.Num b.Val.re) (Slot.mk (m.getD a.toNat bn).Num (m.getD a.toNat bn).Val.re))))) (rl ()))))))) (fun a (d:Unit)=> rl ()) ()))
def aph (c:AVal->AVal->Int)(dU:AVal->AVal->Prop)(e:List AVal->List AVal->Int)(nY:List AVal->List AVal->Prop)(f:List Pair->List Pair->Int)(oq:List Pair->List Pair->Prop)(g:List Slot->List Slot->Int)(n_:List Slot->List Slot->Prop)(d:Pair->Pair->Int)(ig:Pair->Pair->Prop)(h:Slot->Slot->Int)(ik:Slot->Slot->Prop)(a:Pair)(b:Pair):Pg Int:=.ob (dU a.Key.re b.Key.re) (.ob (dU a.Val.re b.Val.re) (.ret (QB [c a.Key.re b.Key.re,c a.Val.re b.Val.re])))
def auj (c:AVal->AVal->Int)(dU:AVal->AVal->Prop)(e:List AVal->List AVal->Int)(nY:List AVal->List AVal->Prop)(f:List Pair->List Pair->Int)(oq:List Pair->List Pair->Prop)(g:List Slot->List Slot->Int)(n_:List Slot->List Slot->Prop)(d:Pair->Pair->Int)(ig:Pair->Pair->Prop)(h:Slot->Slot->Int)(ik:Slot->Slot->Prop)(a:Slot)(b:Slot):Pg Int:=.ob (dU a.Val.re b.Val.re) (.ret (QB [sF a.Num b.Num,c a.Val.re b.Val.re]))
def dU (c:Nat)(a:AVal)(b:AVal):Prop:=3*tV a<=c
def nY (a:Nat)(l:List AVal)(m:List AVal):Prop:=0 < a/\∀x∈l,3*tV x < a
def oq (a:Nat)(l:List Pair)(m:List Pair):Prop:=0 < a/\∀x∈l,3*tV x.Key+1 < a/\3*tV x.Val+1 < a
def n_ (a:Nat)(l:List Slot)(m:List Slot):Prop:=0 < a/\∀x∈l,3*tV x.Val+1 < a
def ig (c:Nat)(a:Pair)(b:Pair):Prop:=0 < c/\3*tV a.Key < c/\3*tV a.Val < c
def ik (c:Nat)(a:Slot)(b:Slot):Prop:=0 < c/\3*tV a.Val < c
def gY:Nat->(AVal->AVal->Int)×((List AVal)->(List AVal)->Int)×((List Pair)->(List Pair)->Int)×((List Slot)->(List Slot)->Int)×(Pair->Pair->Int)×(Slot->Slot->Int)
 | 0=>(fun _ _=>default,fun _ _=>default,fun _ _=>default,fun _ _=>default,fun _ _=>default,fun _ _=>default)
 | c+1=>(fun a b=>bif fA a.Kind then(auv ((gY c).1) (dU c) ((gY c).2.1) (nY c) ((gY c).2.2.1) (oq c) ((gY c).2.2.2.1) (n_ c) ((gY c).2.2.2.2.1) (ig c) ((gY c).2.2.2.2.2) (ik c) a b).val else bif a.Kind==11 then(arp ((gY c).1) (dU c) ((gY c).2.1) (nY c) ((gY c).2.2.1) (oq c) ((gY c).2.2.2.1) (n_ c) ((gY c).2.2.2.2.1) (ig c) ((gY c).2.2.2.2.2) (ik c) a b).val else bif a.Kind==12 then(ad6 ((gY c).1) (dU c) ((gY c).2.1) (nY c) ((gY c).2.2.1) (oq c) ((gY c).2.2.2.1) (n_ c) ((gY c).2.2.2.2.1) (ig c) ((gY c).2.2.2.2.2) (ik c) a b).val else bif a.Kind==10 then(atI ((gY c).1) (dU c) ((gY c).2.1) (nY c) ((gY c).2.2.1) (oq c) ((gY c).2.2.2.1) (n_ c) ((gY c).2.2.2.2.1) (ig c) ((gY c).2.2.2.2.2) (ik c) a b).val else(aqH ((gY c).1) (dU c) ((gY c).2.1) (nY c) ((gY c).2.2.1) (oq c) ((gY c).2.2.2.1) (n_ c) ((gY c).2.2.2.2.1) (ig c) ((gY c).2.2.2.2.2) (ik c) a b).val,fun l m=>(cfL ((gY c).1) (dU c) ((gY c).2.1) (nY c) ((gY c).2.2.1) (oq c) ((gY c).2.2.2.1) (n_ c) ((gY c).2.2.2.2.1) (ig c) ((gY c).2.2.2.2.2) (ik c) l m).val,fun l m=>(cfP ((gY c).1) (dU c) ((gY c).2.1) (nY c) ((gY c).2.2.1) (oq c) ((gY c).2.2.2.1) (n_ c) ((gY c).2.2.2.2.1) (ig c) ((gY c).2.2.2.2.2) (ik c) l m).val,fun l m=>(cfS ((gY c).1) (dU c) ((gY c).2.1) (nY c) ((gY c).2.2.1) (oq c) ((gY c).2.2.2.1) (n_ c) ((gY c).2.2.2.2.1) (ig c) ((gY c).2.2.2.2.2) (ik c) l m).val,fun a b=>(aph ((gY c).1) (dU c) ((gY c).2.1) (nY c) ((gY c).2.2.1) (oq c) ((gY c).2.2.2.1) (n_ c) ((gY c).2.2.2.2.1) (ig c) ((gY c).2.2.2.2.2) (ik c) a b).val,fun a b=>(auj ((gY c).1) (dU c) ((gY c).2.1) (nY c) ((gY c).2.2.1) (oq c) ((gY c).2.2.2.1) (n_ c) ((gY c).2.2.2.2.1) (ig c) ((gY c).2.2.2.2.2) (ik c) a b).val)
def afu (a:AVal)(b:AVal):Int:=(gY (3*tV a)).1 a b
abbrev X7 (a:Nat):=auv ((gY a).1) (dU a) ((gY a).2.1) (nY a) ((gY a).2.2.1) (oq a) ((gY a).2.2.2.1) (n_ a) ((gY a).2.2.2.2.1) (ig a) ((gY a).2.2.2.2.2) (ik a)
theorem auq (c:Nat)(a:AVal)(b:AVal)(h:dU (c+1) a b)(d:(fA a.Kind)=true):Is (X7 c a b):=
 dm iR (fun e=>az ⟨by rw[<-e];exact d,trivial⟩ (az ⟨d,trivial⟩ is_ret))
abbrev Yq (a:Nat):=arp ((gY a).1) (dU a) ((gY a).2.1) (nY a) ((gY a).2.2.1) (oq a) ((gY a).2.2.2.1) (n_ a) ((gY a).2.2.2.2.1) (ig a) ((gY a).2.2.2.2.2) (ik a)
theorem aow (c:Nat)(a:AVal)(b:AVal)(h:dU (c+1) a b)(d:(a.Kind==11)=true/\(fA a.Kind)=false):Is (Yq c a b):=
 dm iR (fun e=>az ⟨by rw[<-e];exact d.2,by rw[<-e];exact d.1,trivial⟩ (az ⟨d.2,d.1,trivial⟩ (az ⟨by have:=jH a;have h:3*tV a<=c+1:=h;omega,fun x f=>by have:=ajd f;have h:3*tV a<=c+1:=h;omega⟩ is_ret)))
abbrev PH (a:Nat):=ad6 ((gY a).1) (dU a) ((gY a).2.1) (nY a) ((gY a).2.2.1) (oq a) ((gY a).2.2.2.1) (n_ a) ((gY a).2.2.2.2.1) (ig a) ((gY a).2.2.2.2.2) (ik a)
theorem al9 (d:Nat)(a:AVal)(b:AVal)(h:dU (d+1) a b)(c:(a.Kind==12)=true/\(a.Kind==11)=false/\(fA a.Kind)=false):Is (PH d a b):=
 dm iR (fun e=>az ⟨by rw[<-e];exact c.2.2,by rw[<-e];exact c.2.1,by rw[<-e];exact c.1,trivial⟩ (az ⟨c.2.2,c.2.1,c.1,trivial⟩ (az ⟨by have:=jH a;have h:3*tV a<=d+1:=h;omega,fun x f=>by have:=Zd f;have h:3*tV a<=d+1:=h;omega⟩ is_ret)))
abbrev YR (a:Nat):=atI ((gY a).1) (dU a) ((gY a).2.1) (nY a) ((gY a).2.2.1) (oq a) ((gY a).2.2.2.1) (n_ a) ((gY a).2.2.2.2.1) (ig a) ((gY a).2.2.2.2.2) (ik a)
theorem aoW (d:Nat)(a:AVal)(b:AVal)(h:dU (d+1) a b)(c:(a.Kind==10)=true/\(a.Kind==12)=false/\(a.Kind==11)=false/\(fA a.Kind)=false):Is (YR d a b):=
 dm iR (fun e=>az ⟨by rw[<-e];exact c.2.2.2,by rw[<-e];exact c.2.2.1,by rw[<-e];exact c.2.1,by rw[<-e];exact c.1,trivial⟩ (az ⟨c.2.2.2,c.2.2.1,c.2.1,c.1,trivial⟩ (az ⟨by have:=jH a;have h:3*tV a<=d+1:=h;omega,fun x f=>by have:=akl f;have h:3*tV a<=d+1:=h;omega⟩ is_ret)))
abbrev Y_ (a:Nat):=aqH ((gY a).1) (dU a) ((gY a).2.1) (nY a) ((gY a).2.2.1) (oq a) ((gY a).2.2.2.1) (n_ a) ((gY a).2.2.2.2.1) (ig a) ((gY a).2.2.2.2.2) (ik a)
theorem aoV (d:Nat)(a:AVal)(b:AVal)(h:dU (d+1) a b)(c:(a.Kind==10)=false/\(a.Kind==12)=false/\(a.Kind==11)=false/\(fA a.Kind)=false):Is (Y_ d a b):=
 dm iR (fun e=>az ⟨by rw[<-e];exact c.2.2.2,by rw[<-e];exact c.2.2.1,by rw[<-e];exact c.2.1,by rw[<-e];exact c.1,trivial⟩ (az ⟨c.2.2.2,c.2.2.1,c.2.1,c.1,trivial⟩ is_ret))
abbrev aAc (a:Nat):=cfL ((gY a).1) (dU a) ((gY a).2.1) (nY a) ((gY a).2.2.1) (oq a) ((gY a).2.2.2.1) (n_ a) ((gY a).2.2.2.2.1) (ig a) ((gY a).2.2.2.2.2) (ik a)
theorem aDv (a:Nat)(l:List AVal)(m:List AVal)(h:nY (a+1) l m):Is (aAc a l m):=
 gG (bW fun _=>dh (.inr ah) (fun b c _ _=>aW ah ah (bW fun _=>aQ iR (fun _=>aW ah ah (az (by simp only[AVal.cZ];have k:=h.2 (l.getD b dK) (getD_mem ah);show 3*tV (l.getD b dK)<=a;omega) (dm iR iR))))) (fun c _=>is_ret)) (fun e d=>bW fun _=>bW fun _=>aQ iR iR)
abbrev az0 (a:Nat):=cfP ((gY a).1) (dU a) ((gY a).2.1) (nY a) ((gY a).2.2.1) (oq a) ((gY a).2.2.2.1) (n_ a) ((gY a).2.2.2.2.1) (ig a) ((gY a).2.2.2.2.2) (ik a)
theorem aBx (a:Nat)(l:List Pair)(m:List Pair)(h:oq (a+1) l m):Is (az0 a l m):=
 gG (bW fun _=>dh (.inr ah) (fun b c _ _=>aW ah ah (bW fun _=>aQ iR (fun _=>aW ah ah (az (by simp only[AVal.cZ];have k:=h.2 (l.getD b dJ) (getD_mem ah);exact⟨by omega,by show 3*tV (l.getD b dJ).Key < a;omega,by show 3*tV (l.getD b dJ).Val < a;omega⟩) (dm iR iR))))) (fun c _=>is_ret)) (fun e d=>bW fun _=>bW fun _=>aQ iR iR)
abbrev azU (a:Nat):=cfS ((gY a).1) (dU a) ((gY a).2.1) (nY a) ((gY a).2.2.1) (oq a) ((gY a).2.2.2.1) (n_ a) ((gY a).2.2.2.2.1) (ig a) ((gY a).2.2.2.2.2) (ik a)
theorem aEw (a:Nat)(l:List Slot)(m:List Slot)(h:n_ (a+1) l m):Is (azU a l m):=
 gG (bW fun _=>dh (.inr ah) (fun b c _ _=>aW ah ah (bW fun _=>aQ iR (fun _=>aW ah ah (az (by simp only[AVal.cZ];have k:=h.2 (l.getD b bn) (getD_mem ah);exact⟨by omega,by show 3*tV (l.getD b bn).Val < a;omega⟩) (dm iR iR))))) (fun c _=>is_ret)) (fun e d=>bW fun _=>bW fun _=>aQ iR iR)
abbrev ajZ (a:Nat):=aph ((gY a).1) (dU a) ((gY a).2.1) (nY a) ((gY a).2.2.1) (oq a) ((gY a).2.2.2.1) (n_ a) ((gY a).2.2.2.2.1) (ig a) ((gY a).2.2.2.2.2) (ik a)
theorem an3 (c:Nat)(a:Pair)(b:Pair)(h:ig (c+1) a b):Is (ajZ c a b):=
 az (by simp only[AVal.cZ];show 3*tV a.Key<=c;have:=h.2.1;omega) (az (by simp only[AVal.cZ];show 3*tV a.Val<=c;have:=h.2.2;omega) (is_ret))
abbrev ajS (a:Nat):=auj ((gY a).1) (dU a) ((gY a).2.1) (nY a) ((gY a).2.2.1) (oq a) ((gY a).2.2.2.1) (n_ a) ((gY a).2.2.2.2.1) (ig a) ((gY a).2.2.2.2.2) (ik a)
theorem aun (c:Nat)(a:Slot)(b:Slot)(h:ik (c+1) a b):Is (ajS c a b):=
 az (by simp only[AVal.cZ];show 3*tV a.Val<=c;have:=h.2;omega) (is_ret)
set_option maxHeartbeats 4000000 in
theorem azS:∀b,CtOk Z.P Z.S 189 (ctN (args (aCons (aAgg ay) (a1 (aAgg ay)))) (R1 cI) 1 [] (fun a=>some (dU b (a.1) (a.2))) (fun a=>(gY b).1 (a.1) (a.2)))/\CtOk Z.P Z.S 267 (ctN (args (aCons (aLf fP) (aCons (aLf fP) (a1 (ja 189 []))))) (R1 cI) 1 [] (fun a=>some (nY b (a.1) (a.2.1))) (fun a=>(gY b).2.1 (a.1) (a.2.1)))/\CtOk Z.P Z.S 268 (ctN (args (aCons (aLf dC) (aCons (aLf dC) (a1 (ja 269 []))))) (R1 cI) 1 [] (fun a=>some (oq b (a.1) (a.2.1))) (fun a=>(gY b).2.2.1 (a.1) (a.2.1)))/\CtOk Z.P Z.S 271 (ctN (args (aCons (aLf bf) (aCons (aLf bf) (a1 (ja 272 []))))) (R1 cI) 1 [] (fun a=>some (n_ b (a.1) (a.2.1))) (fun a=>(gY b).2.2.2.1 (a.1) (a.2.1)))/\CtOk Z.P Z.S 269 (ctN (args (aCons (aAgg oV) (a1 (aAgg oV)))) (R1 cI) 1 [] (fun a=>some (ig b (a.1) (a.2))) (fun a=>(gY b).2.2.2.2.1 (a.1) (a.2)))/\CtOk Z.P Z.S 272 (ctN (args (aCons (aAgg jP) (a1 (aAgg jP)))) (R1 cI) 1 [] (fun a=>some (ik b (a.1) (a.2))) (fun a=>(gY b).2.2.2.2.2 (a.1) (a.2)))
 | 0=>⟨dH func189 dE (fun a h=>by have:=jH (a.1);have h:3*tV (a.1)<=0:=h;omega),
  dH func267 dE (fun a h=>absurd h.1 (Qc3 0)),
  dH func268 dE (fun a h=>absurd h.1 (Qc3 0)),
  dH func271 dE (fun a h=>absurd h.1 (Qc3 0)),
  dH func269 dE (fun a h=>absurd h.1 (Qc3 0)),
  dH func272 dE (fun a h=>absurd h.1 (Qc3 0))⟩
 | b+1=>by
  obtain⟨i,f,c,g,j,d⟩:=azS b;have l:CtOk Z.P Z.S 189 (ctN (args (aCons (aAgg ay) (a1 (aAgg ay)))) (R1 cI) 1 [] (fun a=>some ((fA (a.1).Kind)=true/\(dU (b+1) (a.1) (a.2)))) (fun a=>(X7 b (a.1) (a.2)).val)):=xM [ry,ajz,IY,wL,acA,t_,⟨189,_,i⟩,⟨267,_,f⟩,⟨268,_,c⟩,⟨271,_,g⟩,⟨269,_,j⟩,⟨272,_,d⟩] [] func189 ntmps189 (fun a=>X7 b a.1 a.2) (fun a h=>⟨auq b a.1 a.2 h.2 h.1,rfl⟩) (iE (n:=62) rfl);have m:CtOk Z.P Z.S 189 (ctN (args (aCons (aAgg ay) (a1 (aAgg ay)))) (R1 cI) 1 [] (fun a=>some (((a.1).Kind==11)=true/\((fA (a.1).Kind)=false/\(dU (b+1) (a.1) (a.2))))) (fun a=>(Yq b (a.1) (a.2)).val)):=xM [ry,atx,IY,wL,acA,t_,⟨189,_,i⟩,⟨267,_,f⟩,⟨268,_,c⟩,⟨271,_,g⟩,⟨269,_,j⟩,⟨272,_,d⟩] [] func189 ntmps189 (fun a=>Yq b a.1 a.2) (fun a h=>⟨aow b a.1 a.2 h.2.2 ⟨h.1,h.2.1⟩,rfl⟩) (iE (n:=62) rfl);have q:CtOk Z.P Z.S 189 (ctN (args (aCons (aAgg ay) (a1 (aAgg ay)))) (R1 cI) 1 [] (fun a=>some (((a.1).Kind==12)=true/\(((a.1).Kind==11)=false/\((fA (a.1).Kind)=false/\(dU (b+1) (a.1) (a.2)))))) (fun a=>(PH b (a.1) (a.2)).val)):=xM [ry,atD,IY,wL,acA,t_,⟨189,_,i⟩,⟨267,_,f⟩,⟨268,_,c⟩,⟨271,_,g⟩,⟨269,_,j⟩,⟨272,_,d⟩] [] func189 ntmps189 (fun a=>PH b a.1 a.2) (fun a h=>⟨al9 b a.1 a.2 h.2.2.2 ⟨h.1,h.2.1,h.2.2.1⟩,rfl⟩) (iE (n:=62) rfl);have o:CtOk Z.P Z.S 189 (ctN (args (aCons (aAgg ay) (a1 (aAgg ay)))) (R1 cI) 1 [] (fun a=>some (((a.1).Kind==10)=true/\(((a.1).Kind==12)=false/\(((a.1).Kind==11)=false/\((fA (a.1).Kind)=false/\(dU (b+1) (a.1) (a.2))))))) (fun a=>(YR b (a.1) (a.2)).val)):=xM [ry,ass,IY,wL,acA,t_,⟨189,_,i⟩,⟨267,_,f⟩,⟨268,_,c⟩,⟨271,_,g⟩,⟨269,_,j⟩,⟨272,_,d⟩] [] func189 ntmps189 (fun a=>YR b a.1 a.2) (fun a h=>⟨aoW b a.1 a.2 h.2.2.2.2 ⟨h.1,h.2.1,h.2.2.1,h.2.2.2.1⟩,rfl⟩) (iE (n:=62) rfl);have p:CtOk Z.P Z.S 189 (ctN (args (aCons (aAgg ay) (a1 (aAgg ay)))) (R1 cI) 1 [] (fun a=>some (((a.1).Kind==10)=false/\(((a.1).Kind==12)=false/\(((a.1).Kind==11)=false/\((fA (a.1).Kind)=false/\(dU (b+1) (a.1) (a.2))))))) (fun a=>(Y_ b (a.1) (a.2)).val)):=xM [ry,asM,IY,wL,acA,t_,⟨189,_,i⟩,⟨267,_,f⟩,⟨268,_,c⟩,⟨271,_,g⟩,⟨269,_,j⟩,⟨272,_,d⟩] [] func189 ntmps189 (fun a=>Y_ b a.1 a.2) (fun a h=>⟨aoV b a.1 a.2 h.2.2.2.2 ⟨h.1,h.2.1,h.2.2.1,h.2.2.2.1⟩,rfl⟩) (iE (n:=62) rfl);exact⟨ctN_if l (ctN_if m (ctN_if q (ctN_if o (p)))),
   xM [⟨189,_,i⟩,⟨267,_,f⟩,⟨268,_,c⟩,⟨271,_,g⟩,⟨269,_,j⟩,⟨272,_,d⟩] [jS 2 (aT (fun k=>[s0 13]) (l1 cI)),jS 100011 (aT (fun k=>[]) l0)] func267 ntmps267 (fun a=>aAc b a.1 a.2.1) (fun a h=>⟨aDv b a.1 a.2.1 h,rfl⟩) (iE (n:=39) rfl),
   xM [⟨189,_,i⟩,⟨267,_,f⟩,⟨268,_,c⟩,⟨271,_,g⟩,⟨269,_,j⟩,⟨272,_,d⟩] [jS 2 (aT (fun k=>[s0 13]) (l1 cI)),jS 100011 (aT (fun k=>[]) l0)] func268 ntmps268 (fun a=>az0 b a.1 a.2.1) (fun a h=>⟨aBx b a.1 a.2.1 h,rfl⟩) (iE (n:=39) rfl),
   xM [⟨189,_,i⟩,⟨267,_,f⟩,⟨268,_,c⟩,⟨271,_,g⟩,⟨269,_,j⟩,⟨272,_,d⟩] [jS 2 (aT (fun k=>[s0 13]) (l1 cI)),jS 100011 (aT (fun k=>[]) l0)] func271 ntmps271 (fun a=>azU b a.1 a.2.1) (fun a h=>⟨aEw b a.1 a.2.1 h,rfl⟩) (iE (n:=39) rfl),
   xM [wL,⟨189,_,i⟩,⟨267,_,f⟩,⟨268,_,c⟩,⟨271,_,g⟩,⟨269,_,j⟩,⟨272,_,d⟩] [] func269 ntmps269 (fun a=>ajZ b a.1 a.2) (fun a h=>⟨an3 b a.1 a.2 h,rfl⟩) (iE (n:=17) rfl),
   xM [ry,wL,⟨189,_,i⟩,⟨267,_,f⟩,⟨268,_,c⟩,⟨271,_,g⟩,⟨269,_,j⟩,⟨272,_,d⟩] [] func272 ntmps272 (fun a=>ajS b a.1 a.2) (fun a h=>⟨aun b a.1 a.2 h,rfl⟩) (iE (n:=17) rfl)⟩
def axB:Ent Z:=⟨189,ctN (args (aCons (aAgg ay) (a1 (aAgg ay)))) (R1 cI) 1 [] (fun a=>some (True)) (fun a=>afu (a.1) (a.2)),ctFam_ok (fun n=>((azS n).1)) _ _ (fun a h=>⟨3*tV (a.1),lH _,rfl⟩)⟩
def ayQ (a:AVal)(b:AVal):Pg Bool:=.ob True (.ret (afu a.re b.re==0))
def an0 (a:AVal)(b:AVal):=(ayQ a b).val
theorem ayq (a:AVal)(b:AVal):Is (ayQ a b):=
 az (trivial) (is_ret)
def aBC:Ent Z:=E0 [axB] [] (aCons (aAgg ay) (a1 (aAgg ay))) (R1 aj) [] func118 1 (u2 ayQ) fun a=>ayq a.1 a.2
def I5 (a:List Handler)(path:Str):Pg (Handler×Bool):=aL a (.each false m_ a d_Handler (fun c b (d:Unit)=> .ix c a.length (.br (b.Method==path) (.ret (.inr (b,true))) (rl ()))) (fun c (d:Unit)=> .ret (Handler.mk [] 0 0 0,false)) ())
def Xv (a:List Handler)(path:Str):=(I5 a path).val
theorem O7 (a:List Handler)(path:Str)(h:a.length<=1048576):IsP (I5 a path) (fun r=>(∀x∈a,x.Method.length<=1048576)->r.1.Method.length<=1048576):=
 by
 unfold I5;exact isP_as (isP_each (fun _ _=>True) trivial ah (fun k y b _=>isP_ix ah ah (isP_beq (fun _=>isP_ret fun q=>q _ (getD_mem b)) (fun _=>isP_ret trivial))) (fun y _=>isP_ret fun _=>qR _))
def arb:Ent Z:=E1 [] [jS 2 (aT (fun b=>[s0 10]) (l1 cI))] (aCons (aLf jT) (a1 (aLf cStr))) (shr [.slot 0 true (nn 4), s0 1] (lCons eP (l1 aj))) [] func55 2 (u2 I5) (fun a=>a.1.length<=1048576) fun a h=>(O7 a.1 a.2 h).1
def Jp (p:bJ)(b:Str)(l:List Str):Pg (List AVal×Int):=aL l (.each false lF l [] (fun d e (a:List AVal)=> .ix d l.length (.ob (bZ p/\okL jy) (.lt (kU p b e jy) fun c=> .br (c.2 !=0) (.ret (.inr ([],c.2))) (.ob (bM (a.length+1) 128) (rl (a++[c.1.re])))))) (fun d (a:List AVal)=> .ret (a,0)) [])
def NY (p:bJ)(a:Str)(l:List Str):=(Jp p a l).val
theorem Ei (p:bJ)(b:Str)(l:List Str)(h:bZ p/\l.length<=67108864):IsP (Jp p b l) (fun r=>r.2=0->∀d∈l,(kU p b d jy).2=0):=
 by
 unfold Jp;exact isP_as (isP_each (fun k y=>y.length<=k/\∀d∈l.take k,(kU p b d jy).2=0) ⟨qR _,fun d a=>by rw[Qb2]at a;cases a⟩ ah (fun k y g f=>isP_ix ah ah (isP_ob ⟨h.1,Ik⟩ (isP_lt fun v i=>isP_bne (fun c=>isP_ret fun e=>absurd e c) (fun c=>isP_ob (room_of ah ah) (isP_ret ⟨by show(y++[_]).length<=k+1;rw[kG];exact Qdd f.1,fun d a=>by
  have e:l.take (k+1)=l.take k++[l.getD k []]:=by rw[Qbj];congr 1;simp[List.getD,g]
  rw[e]at a;rcases xN.1 a with a | a
  ·exact f.2 d a
  ·rw[Be.1 a,<-i];exact c⟩))))) (fun y f=>isP_ret fun _=>by have:=f.2;rwa [yS]at this))
def acJ:Ent Z:=E1 [uf,yw] [jS 3 (aT (fun b=>[s0 15, .slot 8 false [some 77]]) (lCons cI (l1 fP)))] (aCons (aAgg b_) (aCons (aLf cStr) (a1 (aLf aV)))) (shr [s0 0, s0 1] (lCons fP (l1 cI))) [] func50 2 (u3 Jp) (fun a=>bZ a.1/\a.2.2.length<=67108864) fun a h=>(Ei a.1 a.2.1 a.2.2 h).1
def anC (x:Str)(y:Str)(p:bJ)(a:Str)(bad:Int):Pg (Bool×Int):=.ob (bZ p/\okL jy) (.lt (kU p a x jy) fun b=> .br (b.2 !=0) (.ret (false,b.2)) (.ob (bZ p/\okL jy) (.lt (kU p a y jy) fun c=> .br (c.2==0) (.ret (an0 b.1.re c.1.re,bad)) (.ret (false,bad)))))
def aDt (x:Str)(y:Str)(p:bJ)(a:Str)(bad:Int):=(anC x y p a bad).val
theorem aEC (x:Str)(y:Str)(p:bJ)(a:Str)(bad:Int)(h:bZ p):Is (anC x y p a bad):=
 az qch (bg fun d c=>dm iR (fun _=>az qch (bg fun e b=>bu iR iR)))
def aAh:Ent Z:=Ae [uf,yw,aBC] [] (aCons (aLf cStr) (aCons (aLf cStr) (aCons (fG 0) (aCons (fG 1) (a1 (fG 2)))))) (eF (aF b_) (eF (aF cStr) (b1 (aF cI)))) (shr [s0 0, .cells 2 [none]] (lCons aj (l1 cI))) [0,1] func117 1 (fun a=>anC a.1.1 a.1.2.1 a.2.1 a.2.2.1 a.2.2.2) (fun a=>bZ a.2.1) fun a h=>aEC a.1.1 a.1.2.1 a.2.1 a.2.2.1 a.2.2.2 h
def abk (a:List Str)(b:List Str)(p:bJ)(d:Str)(bad:Int):Pg (Int×Int):=aL a (.each false lF a [] (fun c g (e:Int)=> .ix c a.length (.ix c b.length (.ob (bZ p) (.lt (aDt g (b.getD c.toNat []) p d e) fun f=> .br (!f.1) (.ret (.inr (c,f.2))) (rl f.2))))) (fun(c e:Int)=> .ret ((-1),e)) bad)
def aoF (a:List Str)(b:List Str)(p:bJ)(c:Str)(bad:Int):=(abk a b p c bad).val
theorem aqm (a:List Str)(b:List Str)(p:bJ)(c:Str)(bad:Int)(h:bZ p/\a.length=b.length):Is (abk a b p c bad):=
 bW fun _=>dh (.inr ah) (fun g d e _=>aW ah ah (aW ah ah (az h.1 (bg fun i f=>is_br iR iR)))) (fun d _=>is_ret)
def av4:Ent Z:=Ae [aAh] [jS 2 (aT (fun b=>[s0 10, .cells 2 [none]]) (lCons cI (l1 cI)))] (aCons (aLf aV) (aCons (aLf aV) (a1 (ja 117 [0,1,2])))) (eF (aF b_) (eF (aF cStr) (b1 (aF cI)))) (shr [s0 0, .cells 2 [none]] (lCons cI (l1 cI))) [0,1] func116 1 (fun a=>abk a.1.1 a.1.2.1 a.2.1 a.2.2.1 a.2.2.2) (fun a=>bZ a.2.1/\a.1.1.length=a.1.2.1.length) fun a h=>aqm a.1.1 a.1.2.1 a.2.1 a.2.2.1 a.2.2.2 h
def ajO (p:bJ)(c:Str)(a:List Str)(b:List Str):Pg (dn×Bool):=aL b (aL a (.br ((↑b.length:Int) !=(↑a.length:Int)) (.ret (dn.mk 0 4 0,true)) (.ob (bZ p/\a.length=b.length) (.lt (aoF a b p c 0) fun d=> .ret (dn.mk 0 4 d.2,decide (0<=d.1))))))
def afG (p:bJ)(a:Str)(c:List Str)(b:List Str):=(ajO p a c b).val
theorem aoK (p:bJ)(a:Str)(b:List Str)(c:List Str)(h:bZ p):Is (ajO p a b c):=
 bW fun _=>bW fun _=>dm iR (fun e=>az ⟨h,by omega⟩ (bg fun f d=>is_ret))
def axh:Ent Z:=E1 [av4,aAh] [] (aCons (aAgg b_) (aCons (aLf cStr) (aCons (aLf aV) (a1 (aLf aV))))) (shr [.slot 0 true (nn 3), s0 1] (lCons vX (l1 aj))) [] func56 2 (u4 ajO) (fun a=>bZ a.1) fun a h=>aoK a.1 a.2.1 a.2.2.1 a.2.2.2 h
theorem awh (s:Schema):(iP s).2=0\/(iP s).1=bJ.mk [] []:=by
 have k:VP (ac5 s) (fun r=>r.2=0\/r.1=bJ.mk [] []):=by
  unfold ac5;exact vp_ob (vp_br (fun _=>vp_ret (.inr rfl)) fun _=>vp_cut (fun _=>True) (vp_as (vp_each (fun _ _=>True) trivial (fun k y a _=>vp_ix (vp_ob (vp_ob (vp_ret trivial)))) fun y _=>vp_ret trivial)) fun y _=>vp_as (vp_each (fun _ _=>True) trivial (fun k y a _=>vp_ix (vp_ob (vp_ob (vp_ret trivial)))) fun y _=>vp_ret (.inl rfl)))
 exact k
theorem aqU {s:Schema}(h:okS s):bZ (iP s).1:=by
 rcases awh s with e | e
 ·exact Y6 h e
 ·rw[e];exact fun g a=>by cases a
def tapeOk (t:Tape):Prop:=t.Method.length<=1048576/\inQ t.In/\t.In.length<=1048576
def atK (s:Schema)(p:bJ)(a:List Handler)(t:Tape):Prop:=okS s/\okN s/\bZ p/\(a.length<=1048576/\∀x∈a,x.Method.length<=1048576)/\tapeOk t
def Ey (f:Tape->dn×Bool):Nat->List Tape->List dn
 | _,[]=>[]
 | k,t::l=>(bif (f t).2 then[dn.mk (k:Int) (f t).1.Kind (f t).1.Err]else[])++Ey f (k+1) l
theorem abb (f:Tape->dn×Bool):∀(a b:List Tape) (k:Nat),Ey f k (a++b)=Ey f k a++Ey f (k+a.length) b
 | [],b,k=>by simp[Ey]
 | t::a,b,k=>by
  simp only[Qbo,Ey,uU,abb f a b (k+1),UA];rw[show k+1+a.length=k+(a.length+1) by omega]
theorem acf (f:Tape->dn×Bool):∀(l:List Tape) (k:Nat),(Ey f k l).length<=l.length
 | [],k=>lH _
 | t::l,k=>by
  have:=acf f l (k+1);simp only[Ey,kG,uU];cases(f t).2<;>simp<;>omega
theorem akG (f:Tape->dn×Bool){l:List Tape}{i:Nat}(h:i < l.length):Ey f 0 (l.take (i+1))=Ey f 0 (l.take i)++(bif (f (l.getD i jO)).2 then[dn.mk (i:Int) (f (l.getD i jO)).1.Kind (f (l.getD i jO)).1.Err]else[]):=by
 have e:l.take (i+1)=l.take i++[l.getD i jO]:=by
  rw[Qbj];congr 1;simp[List.getD,h]
 rw[e,abb,zU,Nat.min_eq_left ah,JH];simp[Ey]
def acj (e:Schema)(s:Schema)(p:bJ)(d:List Handler)(t:Tape):Pg (dn×Bool):=.ob (List.length t.Method<=1048576) (.ob (List.length t.Method<=1048576) (.ob (d.length<=1048576) (.lt (kZ e t.Method) fun c=> .br (c.2 !=0) (.ret (dn.mk 0 2 0,true)) (.lt (kZ s t.Method) fun a=> .br (a.2 !=0) (.ret (dn.mk 0 2 0,true)) (.br (c.1.Shape !=a.1.Shape) (.ret (dn.mk 0 2 0,true)) (.lt (Xv d t.Method) fun b=> .br (!b.2) (.ret (dn.mk 0 2 0,true)) (.ob (bZ p/\t.In.length<=67108864) (.lt (NY p a.1.In t.In) fun g=> .br (g.2 !=0) (.ret (dn.mk 0 1 g.2,true)) (.ob (anP s b.1 t.In) (.lt (svAnswerP s b.1 t.In) fun f=> .br (f.2.Code !=t.Status.Code) (.ret (dn.mk 0 3 0,true)) (.ob (bZ p) (.ret (afG p a.1.Out t.Out f.1)))))))))))))
def zI (a:Schema)(s:Schema)(p:bJ)(b:List Handler)(t:Tape):=(acj a s p b t).val
theorem as1 (f:Schema)(s:Schema)(p:bJ)(a:List Handler)(t:Tape)(h:atK s p a t):Is (acj f s p a t):=
 by
 obtain⟨l,i,e,⟨b,k⟩,c,j,g⟩:=h;exact az c (az c (az b (bg fun o _=>dm iR fun _=>bg fun r _=>dm iR fun _=>dm iR fun _=>bg fun n d=>is_br iR fun _=>az ⟨e,zW g h_⟩ (bg fun q _=>dm iR fun _=>az ⟨l,i,by rw[d];exact(O7 a _ b).2 k,j⟩ (bg fun m _=>dm iR fun _=>az e is_ret)))))
def ay3:Ent Z:=E1 [Qn,tC,acJ,arb,axh] [] (aCons (aAgg cd_Schema) (aCons (aAgg cd_Schema) (aCons (aAgg b_) (aCons (aLf jT) (a1 (aAgg rO)))))) (shr [.slot 0 true (nn 3), s0 1] (lCons vX (l1 aj))) [] func24 2 (fun a=>acj a.1 a.2.1 a.2.2.1 a.2.2.2.1 a.2.2.2.2) (fun a=>atK a.2.1 a.2.2.1 a.2.2.2.1 a.2.2.2.2) fun a h=>as1 a.1 a.2.1 a.2.2.1 a.2.2.2.1 a.2.2.2.2 h
def ahK (f:Schema)(s:Schema)(e:List Handler)(l:List Tape):Pg (List dn):=.ob (okS s) (aL l (.each false lF l jO (fun b d (a:List dn)=> .ix b l.length (.lt (iP s) fun g=> .ob (atK s g.1 e d) (.lt (zI f s g.1 e d) fun c=> .br c.2 (.ob (bM (a.length+1) 24) (rl (a++[dn.mk b c.1.Kind c.1.Err]))) (rl a)))) (fun b (a:List dn)=> .ret a) []))
def rpRunP (a:Schema)(s:Schema)(b:List Handler)(l:List Tape):=(ahK a s b l).val
theorem rpRun_isP (a:Schema)(s:Schema)(b:List Handler)(l:List Tape)(h:okS s/\okN s/\(b.length<=1048576/\∀x∈b,x.Method.length<=1048576)/\(∀t∈l,tapeOk t)/\l.length<=1048576):IsP (ahK a s b l) (fun r=>r=Ey (fun t=>zI a s (iP s).1 b t) 0 l):=
 by
 obtain⟨n,v,w,u,B⟩:=h;unfold ahK;refine isP_ob n (isP_as (isP_each (fun k y=>y=Ey (fun t=>zI a s (iP s).1 b t) 0 (l.take k)) (by rw[Qb2];rfl) ah (fun k y o f=> ?_) (fun y f=>isP_ret (by rw[f,yS]))));have q:=getD_mem (d:=jO) o;have j:=akG (fun t=>zI a s (iP s).1 b t) o;have p:=acf (fun t=>zI a s (iP s).1 b t) (l.take k) 0;rw[zU]at p;have z:y.length<=1048576:=by rw[f];omega
 refine isP_ix ah ah (isP_lt fun A c=>isP_ob ⟨n,v,by rw[c];exact aqU n,w,u _ q⟩ (isP_lt fun g i=>isP_br (fun e=>isP_ob (room_of ah ah) (isP_ret ?_)) (fun e=>isP_ret ?_)))
 ·have m:g=zI a s (iP s).1 b (l.getD k jO):=by rw[i,c]
  show y++[dn.mk (k:Int) g.1.Kind g.1.Err]=_
  rw[j,<-f,<-m,e];rfl
 ·have m:g=zI a s (iP s).1 b (l.getD k jO):=by rw[i,c]
  show y=_
  rw[j,<-f,<-m,e];simp
def ajk:Ent Z:=E1 [BQ,ay3] [jS 4 (aT (fun b=>[s0 23, .slot 11 false [some 96]]) (lCons cI (l1 yU)))] (aCons (aAgg cd_Schema) (aCons (aAgg cd_Schema) (aCons (aLf jT) (a1 (aLf cd_LTape))))) (R1 yU) [] func9 1 (u4 ahK) (fun a=>okS a.2.1/\okN a.2.1/\(a.2.2.1.length<=1048576/\∀x∈a.2.2.1,x.Method.length<=1048576)/\(∀t∈a.2.2.2,tapeOk t)/\a.2.2.2.length<=1048576) fun a h=>(rpRun_isP a.1 a.2.1 a.2.2.1 a.2.2.2 h).1
theorem take_enc:∀(k x i:Nat) (r:Str),i+k=10->x < 2 ^ (64 - 7*i)->1<=k->takeV i (txU ((encV k x).map Int.ofNat)++r)=(x,(encV k x).length,0)
 | 0,_,_,_,_,_,h=>by omega
 | k+1,x,i,r,f,c,_=>by
  have b:∀n:Nat,n < 256->(UInt8.ofNat (Int.ofNat n).toNat).toNat=n:=fun n h=>by simp[Qdp,Qbv h]
  unfold encV;by_cases h:x < 128
  ·rw[Ai h,txU_eq];simp only[MQ,Qb7,Qbo,Qcl,takeV,b x ah];rw[vF,Ai h]
   ·rfl
   ·rintro⟨rfl,d⟩;exact absurd c ah
  ·have g:i<=8:=by
    rcases Qb8 8 i with q | q
    ·have:2 ^ (64 - 7*i)<=2 ^ 1:=Qcs h_ ah;omega
    ·exact q
   have a:=take_enc k (x / 128) (i+1) r ah (by
    have e:2 ^ (64 - 7*i)=2 ^ (64 - 7*(i+1))*128:=by rw[<-Nat.pow_add 2 _ 7];congr 1;omega
    omega) ah
   rw[txU_eq]at a⊢;rw[vF h];simp only[MQ,Qbo,takeV,b (x % 128+128) ah,a];rw[vF (fun q=>by omega),vF ah,Ai trivial,uU];exact Prod.ext (by show(x % 128+128) % 128+128*(x / 128)=x;omega) rfl
theorem take_put {u:Int}(h:isU64 u)(r:Str):vtakeP (vputP u++r)=(u,((vputP u).length:Int),0):=by
 obtain⟨b,a⟩:=h;obtain⟨x,rfl⟩:∃x:Nat,u=(x:Int):=⟨u.toNat,by omega⟩;rw[vput_nat x ah,vtake_eq,take_enc 10 x 0 r rfl (by show x < 18446744073709551616;omega) h_,txU_len,Na];simp[finV]
theorem aqL {u:Int}(h:isU64 u):1<=(vputP u).length:=by
 obtain⟨b,a⟩:=h;obtain⟨x,rfl⟩:∃x:Nat,u=(x:Int):=⟨u.toNat,by omega⟩;rw[vput_nat x ah,txU_len,Na];unfold encV;split<;>simp
theorem aGE (i:Int):∃n:Nat,qE .u32 i 15=(n:Int)/\n < 16:=by
 have h:(BitVec.ofInt 32 i &&& BitVec.ofInt 32 15).toNat < 2 ^ 4:=by
  rw[BitVec.toNat_and];exact Nat.and_lt_two_pow _ h_
 exact⟨_,Aw (k:= .u32) rfl (Nat.lt_trans h h_),h⟩
def half (i:Int):Pg Int:=.ob (0<=qE .u32 i 15/\qE .u32 i (15:Int) < 16) (.ret ([0,498536548,997073096,651767980,1994146192,1802195444,1303535960,1342533948,3988292384, 4027552580,3604390888,3412177804,2607071920,2262029012,2685067896,3183342108].getD (qE .u32 i 15).toNat 0))
def az4 (i:Int):=(half i).val
theorem ay7 (i:Int):Is (half i):=
 by
 obtain⟨n,e,a⟩:=aGE i;unfold half;rw[e];exact az ah is_ret
def aEm:Ent Z:=E0 [] [] (a1 (aLf (cInt .u32))) (R1 (cInt .u32)) [] func279 1 half fun a=>ay7 a
def crc (s:Str):Pg Int:=.as (List.length s<=9223372036854775807) (.each false lF s 0 (fun c b (a:Int)=> .ix c (List.length s) (.ob ((0:Int)<=4) (.ob ((0:Int)<=4) (.lt (qM .u32 (I7 .u32 a (wrp .u32 (↑b.toNat:Int))) 4) fun e=> .lt (az4 (I7 .u32 a (wrp .u32 (↑b.toNat:Int)))) fun d=> rl (I7 .u32 (qM .u32 (I7 .u32 e d) 4) (az4 (I7 .u32 e d))))))) (fun(c a:Int)=> .ret (wrp .u64 (I7 .u32 (if IntKind.u32.signed=true then(-1)else IntKind.u32.max) a))) 4294967295)
def crcP (s:Str):=(crc s).val
theorem aBv (s:Str):Is (crc s):=
 bW fun _=>dh (.inr ah) (fun d a _ _=>aW ah ah (az ah (az ah (bg fun f c=>bg fun e b=>is_ret)))) (fun a _=>is_ret)
def aHw:Ent Z:=E0 [aEm] [jS 3 (aT (fun b=>[s0 7, s0 3]) (lCons cI (l1 (cInt .u32))))] (a1 (aLf cStr)) (R1 (cInt .u64)) [] func194 1 crc fun a=>aBv a
def low (u:Int)(n:Int):Pg (List UInt8):=.ob (n=n/\0<=n/\n*(1:Int)<=281474976710656/\n<=1099511627776) (.as ((ae8 n.toNat 0).length<=9223372036854775807) (.cnt lF 0 (↑(ae8 n.toNat 0).length:Int) (fun b (a:List Int)=> .lt (wrp .i64 (8*b)) fun c=> .ob (0<=c) (.ix b a.length (.ob (b.toNat < a.length) (rl (a.set b.toNat (wrp .u8 (qM .u64 u c))))))) (fun b (a:List Int)=> .ob (zy (fun(i:Nat)=>true) a.length=true) (.ret (txU a))) (ae8 n.toNat 0)))
def lowP (u:Int)(n:Int):=(low u n).val
theorem aD_ (u:Int)(n:Int)(h:n=4):Is (low u n):=
 by
 subst h;refine az ah (bW fun _=>CJ (fun _ y=>y.length=4) rfl h_ h_ (fun a f i c b=> ?_) (fun a f _ _ b=>az (mW (fun _=>rfl) _) (is_ret)));have b:f.length=4:=b;have c:a < 4:=c;have w:wrp .i64 (8*a)=8*a:=wrp_in (k:= .i64) oC;rw[w];refine⟨bg fun j g=>az ah (aW ah ah (az ah (is_ret))),fun l d=> ?_⟩;revert d;simp only[val_lt,val_ob,iY,val_ret];intro e;injection e with e
 subst e;show(List.set _ _ _).length=4
 rw[Qbs];exact b
def aFB:Ent Z:=E1 [] [jS 3 (aT (fun b=>[s0 11, .row (pid (b 5)) 5]) (lCons cI (l1 uG)))] (aCons (aLf (cInt .u64)) (a1 (aLf cI))) (R1 cStr) [] func193 1 (u2 low) (fun a=>a.2=4) fun a h=>aD_ a.1 a.2 h
theorem low4 (u:Int):lowP u 4=txU [wrp .u8 (qM .u64 u 0),wrp .u8 (qM .u64 u 8),wrp .u8 (qM .u64 u 16),wrp .u8 (qM .u64 u 24)]:=by
 unfold lowP low;simp only[val_ob,val_as,tJ,val_lt,iY,val_ret];rfl
theorem ajN (u:Int):(lowP u 4).length=4:=by rw[low4,txU_len];rfl
def ajC (s:Str):Pg (List UInt8):=.ob ((4:Int)=4) (.lt (lowP (crcP s) 4) fun a=> .ob (List.length s+List.length a<=9223372036854775807) (.ret (s++a)))
def dsealP (s:Str):=(ajC s).val
theorem atN (s:Str)(h:s.length<=4294967296):Is (ajC s):=
 az rfl (bg fun b a=>az (by rw[a,ajN];omega) is_ret)
def ajh:Ent Z:=E1 [aFB,aHw] [] (a1 (aLf cStr)) (R1 cStr) [] func126 1 ajC (fun a=>a.length<=4294967296) fun a h=>atN a h
def aj3 (s:Str):Pg (List UInt8×Int):=.br (decide ((↑(List.length s):Int) < 4)) (.ret ([],4)) (.lt (wrp .i64 ((↑(List.length s):Int) - 4)) fun a=> .ob ((0:Int)<=0/\0<=a/\a<=(↑(List.length s):Int)) (.ob ((List.take a.toNat s).length<=4294967296) (.br (dsealP (List.take a.toNat s) !=s) (.ret ([],25)) (.ret (List.take a.toNat s,0)))))
def aeG (s:Str):=(aj3 s).val
theorem atE (s:Str)(h:s.length<=4294967296):Is (aj3 s):=
 aQ iR (fun _=>jh fun c a b=>az ah (az qca (is_br iR iR)))
def ayi:Ent Z:=E1 [ajh] [] (a1 (aLf cStr)) (shr [s0 0, s0 1] (lCons cStr (l1 cI))) [] func129 2 aj3 (fun a=>a.length<=4294967296) fun a h=>atE a h
theorem dseal_eq (s:Str):dsealP s=s++lowP (crcP s) 4:=by
 unfold dsealP ajC;simp only[val_ob,val_lt,val_ret]
theorem dseal_len (s:Str):(dsealP s).length=s.length+4:=by rw[dseal_eq,kG,ajN]
theorem dopen_seal {x:Str}(h:x.length<=4294967000):(aeG (dsealP x)).2=0:=by
 have c:=dseal_len x;have b:(dsealP x).take x.length=x:=by rw[dseal_eq,Qch]
 unfold aeG aj3;have w:wrp .i64 (((dsealP x).length:Int) - 4)=(x.length:Int):=by rw[c,wrp_in (k:= .i64) oC];omega
 have a:decide (((dsealP x).length:Int) < 4)=false:=nU ah;simp only[a_,val_ob,val_lt,val_ret,w,a,og,u_,b,bne_self_eq_false]
theorem Gy (n:Int):isU64 (wrp .u64 n):=by
 unfold isU64 wrp IntKind.wrap;simp only[IntKind.signed,IntKind.bits];constructor<;>(try simp)<;>(try omega)
def aEl (u:Int):Pg Int:=.wh (u.toNat+1) default (fun(a:Int×Int)=> .br (decide (128<=a.1)) (.ob ((0:Int)<=7) (rl (qM .u64 a.1 7,wrp .i64 (a.2+1)))) (.ret (.inr a.2))) (u,1)
def aAe (u:Int):=(aEl u).val
theorem avW (u:Int)(h:isU64 u):Is (aEl u):=
 by
 have h:0<=u/\u < 18446744073709551616:=h;obtain⟨x,rfl⟩:∃x:Nat,u=(x:Int):=⟨u.toNat,by omega⟩;have f:x < 18446744073709551616:=by omega
 refine AY (fun X=>∃x:Nat,X.1=(x:Int)) (fun X=>X.1.toNat) ⟨x,rfl⟩ (by show x < x+1;omega) (fun X c=> ?_);obtain⟨i,b⟩:=X;obtain⟨x,rfl⟩:=c;dsimp only;rw[rY];refine⟨aQ (fun _=>az ah is_ret) iR,fun g a=> ?_⟩;revert a;simp only[a_,val_ob,val_ret,Qa2,Um];split
 ·rename_i d;intro e;injection e with e
  subst e;refine⟨⟨x / 128,rfl⟩,?_⟩;show((x / 128:Nat):Int).toNat < (x:Int).toNat
  omega
 ·intro e;cases e
def aCh:Ent Z:=E1 [] [jS 2 (aT (fun b=>[s0 0, s0 3]) (lCons (cInt .u64) (l1 cI)))] (a1 (aLf (cInt .u64))) (R1 cI) [] func132 1 aEl (fun a=>isU64 a) fun a h=>avW a h
theorem an4 {u:Int}(h:isU64 u):aAe u=((vputP u).length:Int):=by
 obtain⟨f,e⟩:=h;obtain⟨x,rfl⟩:∃x:Nat,u=(x:Int):=⟨u.toNat,by omega⟩;have d:∀(k n x m:Nat),x < n->x < 128 ^ k->1<=k->m+k < 1000->VB (fun(a:Int×Int)=>(bif decide (128<=a.1)then(Sum.inl (qM .u64 a.1 7,wrp .i64 (a.2+1)):(Int×Int)⊕Int)else .inr a.2)) default n ((x:Int),((m+1:Nat):Int))=((m+(encV k x).length:Nat):Int):=by
  intro k;induction k with
  | zero=>intro n x m _ _ h;omega
  | succ k c=>
   intro n x m g b _ i;obtain⟨n,rfl⟩:∃m,n=m+1:=⟨n - 1,by omega⟩;unfold VB encV;by_cases h:x < 128
   ·rw[Ai h,nU (show ¬(128:Int)<=(x:Int) by omega)];rfl
   ·rw[vF h,pY (show(128:Int)<=(x:Int) by omega)];have w:wrp .i64 (((m+1:Nat):Int)+1)=((m+1+1:Nat):Int):=wrp_next ah;simp only[xU,rY,w];rw[Nat.pow_succ]at b;rw[c n (x / 128) (m+1) ah ah (by
      rcases k with _ | k;· simp at b;omega
      ·omega) ah]
    simp only[uU];congr 1;omega
 rw[vput_nat x ah,txU_len,Na];exact(d 10 ((x:Int).toNat+1) x 0 ah (Qbm (show x < 18446744073709551616 by omega) h_) h_ h_).trans (by rw[JH])
def NC (s:Status):Pg Int:=.br (decide (s.Code < 0)) (.ret 1) (.br (decide (13 < s.Code)) (.ret 1) (.ob (List.length s.Text<=9223372036854775700) (.br (!yN s.Text) (.ret 7) (.br (decide (4096 < (↑(List.length s.Text):Int))) (.ret 3) (.br (s.Code==0) (.br (s.Text !=[]) (.ret 1) (.ret 0)) (.ret 0))))))
def mG (s:Status):=(NC s).val
theorem aeK (s:Status)(h:s.Text.length<=9223372036854775700):Is (NC s):=
 aQ iR (fun _=>aQ iR (fun _=>az qaq (is_br iR (fun _=>aQ iR (fun _=>bu (fun _=>is_br iR iR) iR)))))
def Jn:Ent Z:=E1 [um] [] (a1 (aAgg jb)) (R1 cI) [] func49 1 NC (fun a=>a.Text.length<=9223372036854775700) fun a h=>aeK a h
def Ro (s:Status):Pg (List UInt8):=.ob (List.length s.Text<=9223372036854775700) (.br (mG s !=0) (.ret []) (.lt (wrp .u64 s.Code) fun b=> .ob (isU64 b) (.lt (vputP b) fun a=> .ob (List.length a+List.length s.Text<=9223372036854775807) (.ret (a++s.Text)))))
def stPackP (s:Status):=(Ro s).val
def FC (a:Str):Pg (Status×Int):=.lt (vtakeP a) fun b=> .br (b.2.2 !=0) (.ret (Status.mk 0 [],b.2.2)) (.ob (isU64 b.1) (.br (b.2.1 !=aAe b.1) (.ret (Status.mk 0 [],5)) (.br (decide (13 < b.1)) (.ret (Status.mk 0 [],6)) (.ob (0<=b.2.1/\b.2.1<=(↑(List.length a):Int)/\(↑(List.length a):Int)<=(↑(List.length a):Int)) (.lt (List.drop b.2.1.toNat (List.take (List.length a) a)) fun c=> .ob (c.length<=9223372036854775700) (.lt (mG (Status.mk (wrp .i64 b.1) c)) fun d=> .br (d !=0) (.ret (Status.mk 0 [],d)) (.ret (Status.mk (wrp .i64 b.1) c,0))))))))
def stUnpackP (a:Str):=(FC a).val
theorem ac4 (a:Str)(h:a.length<=4294967296):Is (FC a):=
 bg fun f b=>dm iR (fun _=>az (by rw[b];exact(Gx a).1) (dm iR (fun _=>aQ iR (fun _=>az (by have:=Gx a;rw[b];omega) (bg fun g c=>az (by rw[c,Qa9,zU];omega) (bg fun e d=>dm iR iR))))))
def Td:Ent Z:=E1 [Jn,OE,aCh] [] (a1 (aLf cStr)) (shr [.slot 0 true [none,none], s0 1] (lCons jb (l1 cI))) [] func66 2 FC (fun a=>a.length<=4294967296) fun a h=>ac4 a h
theorem Y5 {s:Status}(h:mG s=0):0<=s.Code/\s.Code<=13/\s.Text.length<=4096:=by
 unfold mG NC at h;simp only[a_,val_ob,val_ret,Qa2,Um]at h;(repeat' split at h)<;>first | (exact absurd h h_) | omega
theorem ae_ {s:Status}(h:mG s=0):isU64 s.Code/\wrp .u64 s.Code=s.Code/\wrp .i64 s.Code=s.Code:=by
 obtain⟨a,b,_⟩:=Y5 h;exact⟨⟨a,by omega⟩,wrp_in (k:= .u64) oC,wrp_in (k:= .i64) oC⟩
theorem O4 (s:Status)(h:s.Text.length<=1048576):IsP (Ro s) (fun r=>mG s=0->r=vputP s.Code++s.Text):=by
 unfold Ro;refine isP_ob ah (isP_bne (fun c=>isP_ret fun e=>absurd e c) fun c=>isP_lt fun d a=>isP_ob (by rw[a];exact Gy _) (isP_lt fun f b=>isP_ob (by have:=put_len d (by rw[a];exact Gy _);rw[b];omega) (isP_ret fun _=> ?_)));rw[b,a,(ae_ c).2.1]
theorem st_rt {s:Status}(h:mG s=0):stUnpackP (vputP s.Code++s.Text)=(s,0):=by
 obtain⟨u,_,w⟩:=ae_ h;have a:=Y5 h;unfold stUnpackP FC;simp only[val_lt,a_,val_ob,val_ret,take_put u,an4 u,w,bne_self_eq_false,og,yS,u_,Qcr,nU (show ¬(13:Int) < s.Code by omega),show Status.mk s.Code s.Text=s from rfl,h]
theorem akA (s:Status)(h:s.Text.length<=1048576):Is (Ro s):=
 (O4 s h).is
def anY:Ent Z:=E1 [Jn,A_] [] (a1 (aAgg jb)) (R1 cStr) [] func59 1 Ro (fun a=>a.Text.length<=1048576) fun a h=>akA a h
theorem wl (n:Nat)(h:n<=4294967296):wrp .u64 (n:Int)=(n:Int):=Aw (k:= .u64) rfl (Nat.lt_of_le_of_lt h h_)
theorem aGo (n:Nat)(h:n<=4294967296):isU64 (wrp .u64 (n:Int)):=by rw[wl n h];exact⟨by omega,by omega⟩
def sized (s:Str):Pg (List UInt8):=.lt (wrp .u64 (↑(List.length s):Int)) fun b=> .ob (isU64 b) (.lt (vputP b) fun a=> .ob (List.length a+List.length s<=9223372036854775807) (.as (List.length s<=9223372036854775807) (.ret (a++s))))
def ou (s:Str):=(sized s).val
theorem arK (s:Str)(h:s.length<=4294967296):Is (sized s):=
 bg fun c a=>az (by rw[a];exact aGo _ h) (bg fun d b=>az (by have:=put_len c (by rw[a];exact aGo _ h);rw[b];omega) (bW fun _=>is_ret))
def awT:Ent Z:=E1 [A_] [] (a1 (aLf cStr)) (R1 cStr) [] func121 1 sized (fun a=>a.length<=4294967296) fun a h=>arK a h
def aCb:Ent Z:=⟨191,ctN (args (a1 (aLf cStr))) (R1 aj) 1 [] (fun _=>some False) (fun _=>false),dH func191 dE (fun _ h=>h)⟩
def uM (a:Head):Prop:=a.bK.length<=1048576/\a.Method.length<=1048576/\a.qH=0/\a.oO=[]
def Y2 (a:Head):Pg Int:=.cut (fun(d:Unit)=> aL a.oO (.cnt m_ 0 (↑a.oO.length:Int) (fun b (c:Unit)=> .ix b a.oO.length (.ob False (.ret (.inr 8)))) (fun b (c:Unit)=> .ret 0) ())) (.ob (List.length a.bK<=4294967296) (.br (!BH a.bK) (.ret (.inr 8)) (.br (!uO a.Method) (.ret (.inr 8)) (.br (decide (a.qH < 0)) (.ret (.inr 6)) (.br (decide (1099511627776 < a.qH)) (.ret (.inr 6)) (.br (decide (16 < (↑a.oO.length:Int))) (.ret (.inr 3)) (rl ())))))))
def zJ (a:Head):=(Y2 a).val
theorem amB (a:Head)(h:uM a):Is (Y2 a):=
 gG (az (by have:=h.1;omega) (is_br iR (fun _=>is_br iR (fun _=>aQ iR (fun _=>aQ iR (fun _=>aQ iR iR)))))) (fun f d=>bW fun _=>EX ah ah (fun c b _ _=>aW ah ah (az (by have e:a.oO.length=0:=(Qb3 List.length h.2.2.2);omega) (is_ret))) (fun c b _ _=>is_ret))
def ant:Ent Z:=E1 [Oa,Hr,um,aCb] [jS 8 (aT (fun b=>[s0 33]) (l1 cI)),jS 100007 (aT (fun b=>[]) l0)] (a1 (aAgg BN)) (R1 cI) [] func120 1 Y2 (fun a=>uM a) fun a h=>amB a h
def adl (a:Head):Pg (List UInt8×Int):=.ob (uM a) (.lt (zJ a) fun p=> .br (p !=0) (.ret ([],p)) (.ob (List.length a.bK<=4294967296) (.ob (List.length a.Method<=4294967296) (.lt (ou a.bK) fun o=> .lt (ou a.Method) fun q=> .ob (List.length o+List.length q<=9223372036854775807) (.lt (wrp .u64 a.qH) fun l=> .ob (isU64 l) (.lt (o++q) fun(k:List UInt8)=> .lt (vputP l) fun n=> .ob (k.length+List.length n<=9223372036854775807) (.lt (wrp .u64 (↑a.oO.length:Int)) fun d=> .ob (isU64 d) (.lt (k++n) fun(j:List UInt8)=> .lt (vputP d) fun g=> .ob (j.length+List.length g<=9223372036854775807) (.lt (j++g) fun(h:List UInt8)=> .ob ((dp (bM h.length 1)).p/\True) (aL a.oO (aL a.oO (.each false lF a.oO aoO (fun m c (b:List Int)=> .ix m a.oO.length (.ob (List.length c.Key<=4294967296) (.ob (List.length c.Val<=4294967296) (.lt (ou c.Key) fun i=> .lt (ou c.Val) fun e=> .ob (List.length i+List.length e<=9223372036854775807) (.lt (i++e) fun(f:List UInt8)=> .ob ((dp (bM (b.length+f.length) 1)).p/\True) (rl (b++BG f))))))) (fun m (b:List Int)=> .ob ((dp (0 < b.length)).p/\ (dp ((↑b.length:Int)=(↑b.length:Int)/\0 < (↑b.length:Int)/\zy (wV b) b.length=true)).p/\True) (.ret (txU b,0))) (BG h)))))))))))))
def Tn (a:Head):=(adl a).val
def ayP (t:aU):Pg (Int×aU):=.br (t.errno !=0) (.ret (0,t)) (.lt (vtakeP t.s) fun a=> .ob (0<=a.2.1/\a.2.1<=(↑(List.length t.s):Int)/\(↑(List.length t.s):Int)<=(↑(List.length t.s):Int)) (.ret (a.1,aU.mk (List.drop a.2.1.toNat (List.take (List.length t.s) t.s)) a.2.2)))
def F5 (t:aU):=(ayP t).val
theorem ay6 (t:aU):Is (ayP t):=
 dm iR (fun _=>bg fun b a=>az (by have:=Gx t.s;rw[a];omega) is_ret)
def ar6:Ent Z:=vz [OE] [] (a1 (fG 0)) (b1 (aF iO)) (shr [s0 0, .cells 0 [none,none]] (lCons (cInt .u64) (l1 iO))) [] func131 1 (fun a=>ayP a.2) fun a=>ay6 a.2
def acW (t:aU):Pg (List UInt8×aU):=.lt (F5 t) fun a=> .cut (fun(b:aU)=> .br (b.errno !=0) (.ret ([],b)) (.ob ((0:Int)<=0/\0<=a.1/\a.1<=(↑(List.length b.s):Int)) (.ob (0<=a.1/\a.1<=(↑(List.length b.s):Int)/\(↑(List.length b.s):Int)<=(↑(List.length b.s):Int)) (.ret (List.take a.1.toNat b.s,aU.mk (List.drop a.1.toNat (List.take (List.length b.s) b.s)) b.errno))))) (.br (a.2.errno==0) (.as (List.length a.2.s<=9223372036854775807) (.lt (wrp .u64 (↑(List.length a.2.s):Int)) fun c=> .br (decide (c < a.1)) (rl (aU.mk a.2.s 4)) (rl a.2))) (rl a.2))
def EE (t:aU):=(acW t).val
theorem Ph {s:Str}(h:s.length<=4294967296):ou s=vputP (s.length:Int)++s:=by
 unfold ou sized;simp only[val_lt,val_ob,val_as,val_ret];rw[wl _ h]
theorem len_u64 {n:Nat}(h:n<=4294967296):isU64 (n:Int):=⟨by omega,by omega⟩
theorem x_ {s:Str}(h:s.length<=4294967296):(ou s).length<=s.length+10:=by
 rw[Ph h,kG];have:=put_len _ (len_u64 h);omega
theorem U7 {s:Str}(h:s.length<=4294967296):1<=(ou s).length:=by
 rw[Ph h,kG];have:=aqL (len_u64 h);omega
def headB (a b:Str):Str:=ou a++(ou b++(vputP 0++vputP 0))
theorem alN {a b:Str}(d:a.length<=1048576)(c:b.length<=1048576):(headB a b).length<=a.length+b.length+40/\1<=(headB a b).length:=by
 have:=x_ (s:=a) ah;have:=U7 (s:=a) ah;have:=x_ (s:=b) ah;have:=put_len _ zX;unfold headB;simp only[kG];omega
theorem JG (a:Head)(h:uM a):IsP (adl a) (fun r=>r=bif zJ a !=0 then([],zJ a)else(headB a.bK a.Method,0)):=by
 obtain⟨A,z,u,o⟩:=h;have l1:=x_ (s:=a.bK) ah;have K:=x_ (s:=a.Method) ah;have H:=U7 (s:=a.bK) ah;have G:=put_len _ zX;have w:a.oO.length=0:=by rw[o];rfl
 unfold adl;refine isP_ob ⟨A,z,u,o⟩ (isP_lt fun J v=>isP_br (fun c=>isP_ret ?_) fun c=>isP_ob ah (isP_ob ah (isP_lt fun I m=>isP_lt fun M n=>isP_ob (by rw[m,n];omega) (isP_lt fun B e=> ?_))))
 ·rw[<-v,c];rfl
 rw[u]at e;have e:B=0:=e.trans h_;refine isP_ob (by rw[e];exact zX) (isP_lt fun q t=>isP_lt fun L f=> ?_);have k8:q.length=(ou a.bK).length+(ou a.Method).length:=by rw[t,m,n,kG]
 rw[e]at f;refine isP_ob (by rw[f];omega) (isP_lt fun p b=> ?_);rw[w]at b;have b:p=0:=b.trans h_;refine isP_ob (by rw[b];exact zX) (isP_lt fun j l=>isP_lt fun E d=> ?_);have F:j.length=q.length+(vputP 0).length:=by rw[l,kG,f]
 rw[b]at d;refine isP_ob (by rw[d];omega) (isP_lt fun i g=> ?_);have D:i.length=j.length+(vputP 0).length:=by rw[g,kG,d]
 refine isP_ob ⟨room_of ah ah,trivial⟩ (isP_as (isP_as (isP_each (fun _ y=>y=BG i) rfl ah (fun k y C _=>absurd C ah) (fun y x=> ?_))));rw[x];refine isP_ob ⟨by rw[ng];omega,⟨rfl,by rw[ng];omega,mW (uT _) _⟩,trivial⟩ (isP_ret ?_);rw[<-v,c,og,aht,g,d,l,f,t,m,n];unfold headB;simp only[UA]
theorem OU {u:Int}(h:isU64 u)(r:Str):F5 (aU.mk (vputP u++r) 0)=(u,aU.mk r 0):=by
 unfold F5 ayP;simp only[a_,val_lt,val_ob,val_ret,take_put h,bne_self_eq_false,og,yS,u_,Qcr]
def axS (t:aU)(a r:Str):Prop:=t=aU.mk (ou a++r) 0/\a.length<=1048576/\r.length<=4293918720
def amh (t:aU):Prop:=∃p r,axS t p r
theorem Jj {t:aU}{a r:Str}(h:axS t a r):IsP (acW t) (fun x=>x=(a,aU.mk r 0)):=by
 obtain⟨rfl,i,g⟩:=h;have d:F5 (aU.mk (ou a++r) 0)=((a.length:Int),aU.mk (a++r) 0):=by
  rw[Ph ah,UA];exact OU (len_u64 ah) _
 have k:(a++r).length=a.length+r.length:=kG;unfold acW;refine isP_lt fun l b=> ?_;rw[d]at b;subst b;refine isP_cut (fun y=>y=aU.mk (a++r) 0) (isP_beq (fun _=>isP_as (isP_lt fun j f=>isP_brd (fun c=>absurd c ?_) fun _=>isP_ret rfl)) (fun c=>absurd rfl c)) (fun y e=> ?_)
 ·rw[f];show ¬wrp .u64 ((a++r).length:Int) < (a.length:Int)
  rw[wl _ ah];omega
 ·subst e;dsimp only;refine isP_bne (fun c=>absurd rfl c) fun _=>isP_ob ⟨by decide,by omega,by omega⟩ (isP_ob ⟨by omega,by omega,by omega⟩ (isP_ret ?_));rw[yS,u_,Qch,Qcr]
theorem aou (a:Head)(h:uM a):Is (adl a):=
 (JG a h).is
def aiw:Ent Z:=E1 [oK,yz,ant,awT,A_] [jS 7 (aT (fun b=>[s0 35, .tcs (pid (b 5)) 102 [some 5]]) (lCons cI (l1 uG)))] (a1 (aAgg BN)) (shr [s0 0, s0 1] (lCons cStr (l1 cI))) [] func58 2 adl (fun a=>uM a) fun a h=>aou a h
theorem aqt (t:aU)(h:amh t):Is (acW t):=
 by obtain⟨a,r,h⟩:=h;exact(Jj h).is
def awH:Ent Z:=Ae [ar6] [jS 100004 (aT (fun b=>[.cells (pid (b 0)) [none,none]]) (l1 iO))] (a1 (fG 0)) (b1 (aF iO)) (shr [s0 0, .cells 0 [none,none]] (lCons cStr (l1 iO))) [] func130 1 (fun a=>acW a.2) (fun a=>amh a.2) fun a h=>aqt a.2 h
end
end Go.Proofs.YtjojefbphdmnjaaGreatDoor
