/- Server: the reference's methods, fields, handlers. -/
import Derived.Test.YtjojefbphdmnjaaGreatDoorP2
import Derived.Test.YtjojefbphdmnjaaGreatDoorEng16
namespace Go.Proofs.YtjojefbphdmnjaaGreatDoor
noncomputable section
open Go.RowKit Go.Vc
open Tryz
set_option linter.unusedVariables false
set_option linter.unusedSimpArgs false
set_option maxRecDepth 100000
def PI (s:Str)(c:Int):Pg (List UInt8×List UInt8×Bool):=.each true m_ s 0 (fun a d (e:Unit)=> .ix a (List.length s) (.br ((↑d.toNat:Int)==c) (.ob ((0:Int)<=0/\0<=a/\a<=(↑(List.length s):Int)) (.lt (wrp .i64 (a+1)) fun b=> .ob (0<=b/\b<=(↑(List.length s):Int)/\(↑(List.length s):Int)<=(↑(List.length s):Int)) (.ret (.inr (List.take a.toNat s,List.drop b.toNat (List.take (List.length s) s),true))))) (rl ()))) (fun a (e:Unit)=> .ret (s,[],false)) ()
def alv (s:Str)(c:Int):=(PI s c).val
theorem adx (s:Str)(c:Int):Is (PI s c):=
 dh (.inl rfl) (fun d a _ _=>aW ah ah (bu (fun _=>az ah (jh fun e b _=>az ah (is_ret))) iR)) (fun a _=>is_ret)
def agW:Ent Z:=E0 [] [jS 2 (aT (fun b=>[s0 7]) (l1 cI))] (aCons (aLf cStr) (a1 (aLf (cInt .u8)))) (shr [s0 0, s0 1, s0 2] (lCons cStr (lCons cStr (l1 aj)))) [] func78 3 (u2 PI) fun a=>adx a.1 a.2
def ES (s:Schema)(a:Str):Pg (bK×Bool):=.each true m_ s.Services kM (fun b c (d:Unit)=> .ix b s.Services.length (.br (c.Name==a) (.ix b s.Services.length (.ret (.inr (c,true)))) (rl ()))) (fun b (d:Unit)=> .ret (bK.mk [] [] [],false)) ()
def ade (s:Schema)(a:Str):=(ES s a).val
theorem UM (s:Schema)(a:Str):Is (ES s a):=
 dh (.inl rfl) (fun c b _ _=>aW ah ah (is_br (fun _=>aW ah ah (is_ret)) iR)) (fun b _=>is_ret)
def Zn:Ent Z:=E0 [] [jS 2 (aT (fun b=>[s0 6]) (l1 cI))] (aCons (aAgg cd_Schema) (a1 (aLf cStr))) (shr [.slot 0 true (nn 3), s0 1] (lCons mr (l1 aj))) [] func79 2 (u2 ES) fun a=>UM a.1 a.2
def Jb (s:Schema)(path:Str):Pg (bP×Bool):=.lt (alv path 47) fun c=> .br (!c.2.2) (.ret (bP.mk [] [] [] 0 [],false)) (.lt (ade s c.1) fun b=> .each true m_ b.1.Methods fD (fun a d (e:Unit)=> .ix a b.1.Methods.length (.br (d.Name==c.2.1) (.ix a b.1.Methods.length (.ret (.inr (d,true)))) (rl ()))) (fun a (e:Unit)=> .ret (bP.mk [] [] [] 0 [],false)) ())
def ag7 (s:Schema)(path:Str):=(Jb s path).val
theorem YY (s:Schema)(path:Str):Is (Jb s path):=
 bg fun f c=>is_br iR (fun _=>bg fun e b=>dh (.inl rfl) (fun d a _ _=>aW ah ah (is_br (fun _=>aW ah ah (is_ret)) iR)) (fun a _=>is_ret))
def abj:Ent Z:=E0 [agW,Zn] [jS 6 (aT (fun b=>[s0 11]) (l1 cI))] (aCons (aAgg cd_Schema) (a1 (aLf cStr))) (shr [.slot 0 true (nn 5), s0 1] (lCons kY (l1 aj))) [] func35 2 (u2 Jb) fun a=>YY a.1 a.2
def ED (s:Schema)(b:Str):Pg (aH×Int):=.each true m_ s.Messages dP (fun a c (d:Unit)=> .ix a s.Messages.length (.br (c.Name==b) (.ix a s.Messages.length (.ret (.inr (c,a)))) (rl ()))) (fun a (d:Unit)=> .ret (aH.mk [] [] [] [] [],(-1))) ()
def adz (s:Schema)(a:Str):=(ED s a).val
theorem Ut (s:Schema)(a:Str):Is (ED s a):=
 dh (.inl rfl) (fun c b _ _=>aW ah ah (is_br (fun _=>aW ah ah (is_ret)) iR)) (fun b _=>is_ret)
def Zh:Ent Z:=E0 [] [jS 2 (aT (fun b=>[s0 6]) (l1 cI))] (aCons (aAgg cd_Schema) (a1 (aLf cStr))) (shr [.slot 0 true (nn 5), s0 1] (lCons dG (l1 cI))) [] func82 2 (u2 ED) fun a=>Ut a.1 a.2
theorem LG {A:Type}(p:A->Bool)(b:A):∀(l:List A) (k:Nat),pg p (l++[b]) k=bif decide (0<=pg p l k)then pg p l k else bif p b then((k+l.length:Nat):Int)else -1
 | [],k=>by
  simp only[Qcl,pg,uF,Qba];cases p b<;>rfl
 | a::l,k=>by
  rw[Qbo];unfold pg;cases p a with
  | true=>simp
  | false=>
   simp only[og];rw[LG p b l (k+1)];rw[show k+1+l.length=k+(a::l).length by simp only[uU];omega]
theorem ahx {c:UInt8}{s:List UInt8}{R:Type}{step:Int×Int->(Int×Int)⊕R}{F:Int->R}(b:∀x:Int×Int,-1<=x.2->x.2 < s.length->step x=bif decide (0<=x.2)then .inl (bif s.getD x.2.toNat 0==c then x.2 else x.1,x.2 - 1)else .inr (F x.1))(e:R):∀(n i:Nat) (a:Int),i<=s.length->i < n->VB step e n (a,(i:Int) - 1)=F (bif decide (0<=eX (fun x=>x==c) (s.take i))then eX (fun x=>x==c) (s.take i)else a)
 | 0,i,a,_,h=>by omega
 | n+1,0,a,j,h=>by
  unfold VB;rw[b _ (by show(-1:Int)<=((0:Nat):Int) - 1;omega) (by show((0:Nat):Int) - 1 < _;omega)];rfl
 | n+1,i+1,a,j,h=>by
  unfold VB;have f:(((i+1:Nat):Int) - 1)=(i:Int):=by omega
  rw[b _ (by show(-1:Int)<=((i+1:Nat):Int) - 1;omega) (by show((i+1:Nat):Int) - 1 < _;omega)];simp only[f,u_];rw[pY (show(0:Int)<=(i:Int) by omega)];simp only[xU];rw[ahx b e n i _ ah ah];congr 1;have k:s.take (i+1)=s.take i++[s.getD i 0]:=by
   rw[Qbj];congr 1;simp[List.getD,show i < s.length by omega]
  rw[k];unfold eX;rw[LG];have g:((0+(s.take i).length:Nat):Int)=(i:Int):=by rw[zU];omega
  rw[g];by_cases d:0<=pg (fun x=>x==c) (s.take i) 0
  ·simp only[pY d,xU]
  ·simp only[nU d,og];cases s.getD i 0==c with
   | true=>rw[xU,xU,pY (show(0:Int)<=(i:Int) by omega)];rfl
   | false=>rfl
theorem aDJ (c d:UInt8):((c.toNat:Int)==(d.toNat:Int))=(c==d):=by
 apply Qc4.2;simp only[Qb6];constructor
 ·intro h;exact Qc7.1 ah
 ·rintro rfl;rfl
theorem awq {path:Str}{R:Type}{F:Int->R}(h:path.length<=1048576){step:Int×Int->(Int×Int)⊕R}(d:∀x:Int×Int,step x=bif decide (0<=x.2)then bif ((path.getD x.2.toNat 0).toNat:Int)==47 then .inl (x.2,wrp .i64 (x.2 - 1))else .inl (x.1,wrp .i64 (x.2 - 1))else .inr (F x.1))(b:R):VB step b (path.length+1) (-1,wrp .i64 ((path.length:Int) - 1))=F (eX (fun x=>x==47) path):=by
 rw[wrp_in (k:= .i64) (show InR .i64 ((path.length:Int) - 1) by simp only[InR];omega)];rw[ahx (c:=47) (F:=F) (fun x f e=> ?_) b (path.length+1) path.length (-1) (lH _) (Qcv _),yS]
 ·have:=(lI (fun(x:UInt8)=>x==47) path).2;by_cases a:0<=eX (fun x=>x==47) path
  ·rw[pY a];rfl
  ·rw[nU a,show eX (fun x=>x==47) path= -1 by omega];rfl
 ·rw[d];by_cases a:0<=x.2
  ·rw[pY a,wrp_in (k:= .i64) (show InR .i64 (x.2 - 1) by simp only[InR];omega),show(((path.getD x.2.toNat 0).toNat:Int)==47)=(path.getD x.2.toNat 0==47)from aDJ _ 47];cases path.getD x.2.toNat 0==47<;>rfl
  ·rw[nU a];rfl
def Yz (s:Schema)(path:Str):Pg (bP×Int):=.cut (fun(b:Int)=> .br (decide (b < 0)) (.ret (bP.mk [] [] [] 0 [],2)) (.ob ((0:Int)<=0/\0<=b/\b<=(↑(List.length path):Int)) (.br (!aiG (List.take b.toNat path)) (.ret (bP.mk [] [] [] 0 [],2)) (.lt (wrp .i64 (b+1)) fun c=> .ob (0<=c/\c<=(↑(List.length path):Int)/\(↑(List.length path):Int)<=(↑(List.length path):Int)) (.br (!Hm (List.drop c.toNat (List.take (List.length path) path))) (.ret (bP.mk [] [] [] 0 [],2)) (.lt (ag7 s path) fun e=> .br (!e.2) (.ret (bP.mk [] [] [] 0 [],10)) (.ret (e.1,0)))))))) (.lt (wrp .i64 ((↑(List.length path):Int) - 1)) fun f=> .wh (path.length+1) default (fun(a:Int×Int)=> .br (decide (0<=a.2)) (.ix a.2 (List.length path) (.lt (wrp .i64 (a.2 - 1)) fun d=> .br ((↑(List.getD path a.2.toNat 0).toNat:Int)==47) (rl (a.2,d)) (rl (a.1,d)))) (.ret (.inr (.inl a.1)))) ((-1),f))
def acD (s:Schema)(path:Str):=(Yz s path).val
theorem afn (s:Schema)(path:Str)(h:path.length<=1048576):Is (Yz s path):=
 by
 have j:=lI (fun(x:UInt8)=>x==47) path;refine gG (jh fun b g o=>AY (fun(x:Int×Int)=> -1<=x.2/\x.2 < path.length) (fun(x:Int×Int)=>(x.2+1).toNat) ⟨by show -1<=b;omega,by show b < _;omega⟩ (by show(b+1).toNat < _;omega) (fun x q=>⟨aQ (fun _=>aW ah ah (bg fun n l=>bu iR iR)) iR,fun r c=> ?_⟩)) (fun d a=> ?_)
 ·revert c;simp only[iY,a_,val_lt,val_ret,Qa2,Um];have w:0<=x.2->wrp .i64 (x.2 - 1)=x.2 - 1:=fun _=>wrp_in (k:= .i64) oC
  (repeat' split)<;>intro e<;>cases e<;>simp only[w (by assumption)]<;>omega
 ·simp only[val_lt,EJ,a_,iY,val_ret]at a;have t:d=eX (fun x=>x==47) path:=by
   rw[awq (F:=fun(y:Int)=>(Sum.inl y:Int⊕(bP×Int))) h]at a
   ·exact(Sum.inl.inj a).symm
   ·exact fun x=>rfl
  refine aQ iR (fun _=>az ⟨by omega,by omega,by omega⟩ (is_br iR (fun _=>jh fun m f p=>az ⟨by omega,by omega,by omega⟩ (is_br iR (fun _=>bg fun u i=>is_br iR iR)))))
def Wu:Ent Z:=E1 [aar,O1,abj] [jS 3 (aT (fun b=>[s0 6, s0 7]) (lCons cI (l1 cI))),jS 100007 (aT (fun b=>[s0 6]) (l1 cI))] (aCons (aAgg cd_Schema) (a1 (aLf cStr))) (shr [.slot 0 true (nn 5), s0 1] (lCons kY (l1 cI))) [] func16 2 (u2 Yz) (fun a=>a.2.length<=1048576) fun a h=>afn a.1 a.2 h
def D_ (shape:Int):Pg (Bool×Bool):=.br (shape==3) (.br (shape==2) (.ret (true,true)) (.ret (true,shape==4))) (.br (shape==2) (.ret (shape==4,true)) (.ret (shape==4,shape==4)))
def abD (shape:Int):=(D_ shape).val
theorem UF (shape:Int):Is (D_ shape):=
 bu (fun _=>bu iR iR) (fun _=>bu iR iR)
def Xq:Ent Z:=E0 [] [] (a1 (aLf cI)) (shr [s0 0, s0 1] (lCons aj (l1 aj))) [] func38 2 D_ fun a=>UF a
def PV (s:Str):Pg Bool:=.each true m_ s 0 (fun a b (c:Unit)=> .ix a (List.length s) (.br (decide ((↑b.toNat:Int) < 97)) (.ix a (List.length s) (.br (decide ((↑b.toNat:Int) < 48)) (.ret (.inr false)) (.ix a (List.length s) (.br (decide (57 < (↑b.toNat:Int))) (.ret (.inr false)) (rl ()))))) (.ix a (List.length s) (.br (decide (122 < (↑b.toNat:Int))) (.ix a (List.length s) (.br (decide ((↑b.toNat:Int) < 48)) (.ret (.inr false)) (.ix a (List.length s) (.br (decide (57 < (↑b.toNat:Int))) (.ret (.inr false)) (rl ()))))) (rl ()))))) (fun a (c:Unit)=> .br (decide (1<=(↑(List.length s):Int))) (.ret (decide ((↑(List.length s):Int)<=40))) (.ret false)) ()
def amM (s:Str):=(PV s).val
theorem aaM (s:Str):Is (PV s):=
 dh (.inl rfl) (fun b a _ _=>aW ah ah (aQ (fun _=>aW ah ah (aQ iR (fun _=>aW ah ah (aQ iR iR)))) (fun _=>aW ah ah (aQ (fun _=>aW ah ah (aQ iR (fun _=>aW ah ah (aQ iR iR)))) iR)))) (fun a _=>aQ iR iR)
def agO:Ent Z:=E0 [] [jS 2 (aT (fun b=>[s0 3]) (l1 cI))] (a1 (aLf cStr)) (R1 aj) [] func13 1 PV fun a=>aaM a
def I8 (x:Handler):Pg Bool:=.br (decide (x.anh < 0)) (.ret false) (.br (decide (1099511627776 < x.anh)) (.ret false) (.cut (fun(b:Unit)=> .br (x.Kind==5) (.br (decide (1<=x.Num)) (.ret (decide (x.Num<=13))) (.ret false)) (.ret false)) (.cut (fun(a:Bool)=> .br a (.ret (.inr (x.Num==0))) (.br (x.Kind==3) (.br (decide (1<=x.Num)) (.ret (.inr (decide (x.Num<=65535)))) (.ret (.inr false))) (.br (x.Kind==4) (.br (decide (0<=x.Num)) (.ret (.inr (decide (x.Num<=64)))) (.ret (.inr false))) (rl ())))) (.br (x.Kind==1) (rl (x.Kind==1)) (rl (x.Kind==2))))))
def QC (x:Handler):=(I8 x).val
theorem Xw (x:Handler):Is (I8 x):=
 aQ iR (fun _=>aQ iR (fun _=>gG (gG (bu iR iR) (fun c b=>is_br iR (fun _=>bu (fun _=>aQ iR iR) (fun _=>bu (fun _=>aQ iR iR) iR)))) (fun d a=>bu (fun _=>aQ iR iR) iR)))
def L_:Ent Z:=E0 [] [jS 100006 (aT (fun b=>[s0 13]) (l1 aj)),jS 100011 (aT (fun b=>[]) l0)] (a1 (aAgg eP)) (R1 aj) [] func15 1 I8 fun a=>Xw a
def Q9 (s:Schema)(b:Str)(e:Int):Pg (aB×Bool):=.lt (adz s b) fun d=> .each true m_ d.1.Fields ax (fun c a (f:Unit)=> .ix c d.1.Fields.length (.br (a.Num==e) (.ix c d.1.Fields.length (.ret (.inr (aB.mk a.Num a.Name a.Card a.Key a.cO a.Union a.bU a.Default.re a.Notes,true)))) (rl ()))) (fun c (f:Unit)=> .ret (aB.mk 0 [] 0 0 (oN.mk 0 []) [] false (AVal.mk 0 0 [] [] [] [] []) [],false)) ()
def al2 (s:Schema)(a:Str)(b:Int):=(Q9 s a b).val
theorem abK (s:Schema)(a:Str)(b:Int):Is (Q9 s a b):=
 bg fun f d=>dh (.inl rfl) (fun e c _ _=>aW ah ah (bu (fun _=>aW ah ah (is_ret)) iR)) (fun c _=>is_ret)
def agP:Ent Z:=E0 [Zh] [jS 3 (aT (fun b=>[s0 10]) (l1 cI))] (aCons (aAgg cd_Schema) (aCons (aLf cStr) (a1 (aLf cI)))) (shr [.slot 0 true (nn 16), s0 1] (lCons dA (l1 aj))) [] func39 2 (u3 Q9) fun a=>abK a.1 a.2.1 a.2.2
def X_ (s:Schema)(x:Handler):Pg Bool:=.ob (List.length x.Method<=1048576) (.lt (acD s x.Method) fun a=> .br (a.2 !=0) (.ret false) (.br (!QC (Handler.mk x.Method x.Kind x.Num 0)) (.ret false) (.lt (abD a.1.Shape) fun c=> .br (x.Kind==2) (.ret !c.2) (.br (x.Kind==3) (.br (!c.2) (.lt (al2 s a.1.Out x.Num) fun b=> .br b.2 (.br (decide (b.1.Card<=3)) (.br (b.1.cO.Kind==4) (.ret true) (.ret (b.1.cO.Kind==5))) (.ret false)) (.ret false)) (.ret false)) (.br (x.Kind==4) (.br c.2 (.ret (a.1.In==a.1.Out)) (.ret false)) (.ret true))))))
def ao_ (s:Schema)(x:Handler):=(X_ s x).val
theorem af6 (s:Schema)(x:Handler)(h:x.Method.length<=1048576):Is (X_ s x):=
 az qaq (bg fun e c=>dm iR (fun _=>is_br iR (fun _=>bg fun f a=>bu iR (fun _=>bu (fun _=>is_br (fun _=>bg fun d b=>is_br (fun _=>aQ (fun _=>bu iR iR) iR) iR) iR) (fun _=>bu (fun _=>is_br iR iR) iR)))))
def anf:Ent Z:=E1 [L_,Wu,Xq,agP] [] (aCons (aAgg cd_Schema) (a1 (aAgg eP))) (R1 aj) [] func18 1 (u2 X_) (fun a=>a.2.Method.length<=1048576) fun a h=>af6 a.1 a.2 h
def aqX (x:Int):Pg Bool:=.ret (x !=x)
def Y4 (x:Int):=(aqX x).val
def aqw:Ent Z:=E0 [] [] (a1 (aLf cI)) (R1 aj) [] func323 1 aqX
def aBk (x:Int)(y:Int):Pg Int:=.lt (Y4 y) fun a=> .br (Y4 x) (.br a (.ret 0) (.ret (-1))) (.br a (.ret 1) (.br (decide (x < y)) (.ret (-1)) (.br (decide (y < x)) (.ret 1) (.ret 0))))
def sF (x:Int)(y:Int):=(aBk x y).val
def ry:Ent Z:=E0 [aqw] [] (aCons (aLf cI) (a1 (aLf cI))) (R1 cI) [] func242 1 (u2 aBk)
def rwC (a:Raw)(b:Raw):Pg Int:=.ret (sF a.Num b.Num)
def auF (a:Raw)(b:Raw):=(rwC a b).val
def Pq:Ent Z:=E1 [ry] [] (aCons (aAgg lh) (a1 (aAgg lh))) (R1 cI) [] func241 1 (u2 rwC) fun a=>True
def aFP (a:Int)(b:Int)(n:Int)(l:List Raw):Pg (List Raw):=O3 (fun a=>a) lD a b n l
theorem avv (a:Int)(b:Int)(n:Int)(l:List Raw)(h:swQ a b n l.length):Is (aFP a b n l):=
 (JR (fun _=>rfl) h).1
def atv:Ent Z:=Ae [Pq] [jS 1 (aT (fun b=>[s0 10, .row (pid (b 0)) 294]) (lCons cI (l1 aZ)))] (aCons (lV 0) (aCons (aLf cI) (aCons (aLf cI) (aCons (aLf cI) (a1 (ja 241 [])))))) (b1 (jJ 294 D.Raw jI)) (shr [.row 0 294] (l1 aZ)) [] func483 0 (fun a=>aFP a.1.2.1 a.1.2.2.1 a.1.2.2.2.1 a.2) (fun a=>swQ a.1.2.1 a.1.2.2.1 a.1.2.2.2.1 a.2.length) fun a h=>avv a.1.2.1 a.1.2.2.1 a.1.2.2.2.1 a.2 h
def aFM (a:Int)(m:Int)(b:Int)(l:List Raw):Pg (List Raw):=PO (fun a=>a) lD a m b l
theorem ayt (a:Int)(m:Int)(b:Int)(l:List Raw)(h:roQ a m b l.length):Is (aFM a m b l):=
 (Jy (fun _=>rfl) h).1
def aoT:Ent Z:=Ae [Pq,atv] [jS 2 (aT (fun b=>[s0 10, s0 11, .row (pid (b 0)) 294]) (lCons cI (lCons cI (l1 aZ))))] (aCons (lV 0) (aCons (aLf cI) (aCons (aLf cI) (aCons (aLf cI) (a1 (ja 241 [])))))) (b1 (jJ 294 D.Raw jI)) (shr [.row 0 294] (l1 aZ)) [] func465 0 (fun a=>aFM a.1.2.1 a.1.2.2.1 a.1.2.2.2.1 a.2) (fun a=>roQ a.1.2.1 a.1.2.2.1 a.1.2.2.2.1 a.2.length) fun a h=>ayt a.1.2.1 a.1.2.2.1 a.1.2.2.2.1 a.2 h
def aDs (a:Int)(b:Int)(l:List Raw):Pg (List Raw):=Rn (fun a=>a) auF (fun _ _=>True) lD a b l
def aF6 (a:Int)(b:Int)(l:List Raw):=(aDs a b l).val
theorem ayn (a:Int)(b:Int)(l:List Raw)(h:inQ (fun _ _=>True) a b l):Is (aDs a b l):=
 (Jo (fun _=>rfl) h).1
def aq3:Ent Z:=rE Z [Pq] [jS 1 (aT (fun b=>[s0 8, .row (pid (b 0)) 294]) (lCons cI (l1 aZ))),jS 4 (aT (fun b=>[s0 9, .row (pid (b 0)) 294]) (lCons cI (l1 aZ)))] (iM (aCons (lV 0) (aCons (aLf cI) (aCons (aLf cI) (a1 (ja 241 []))))) (b1 (jJ 294 D.Raw jI))) (l_ (n:=53) rfl) (shr [.row 0 294] (l1 aZ)) [] func426 ntmps426 dE 0 rfl (fun a=>aDs (a.1.2.1) (a.1.2.2.1) (a.2)) (fun a=>some (inQ (fun _ _=>True) (a.1.2.1) (a.1.2.2.1) (a.2))) (fun a e _=>by kernel_rfl) (fun a=>aF6 (a.1.2.1) (a.1.2.2.1) (a.2)) (fun a h=>⟨ayn (a.1.2.1) (a.1.2.2.1) (a.2) h,rfl⟩)
def aGf (c:Int->Int->Int->List Raw->List Raw)(LJ:Int->Int->Int->List Raw->Prop)(a:Int)(m:Int)(b:Int)(l:List Raw):Pg (List Raw):=Vh (fun a=>a) auF (fun _ _=>True) lD c LJ a m b l
def LJ (c:Nat)(a:Int)(m:Int)(b:Int)(l:List Raw):Prop:=UH (fun _ _=>True) c a m b l
def amb:Nat->(Int->Int->Int->(List Raw)->(List Raw))
 | 0=>(fun _ _ _ _=>default)
 | c+1=>(fun a m b l=>(aGf ((amb c)) (LJ c) a m b l).val)
def ajY (a:Int)(m:Int)(b:Int)(l:List Raw):List Raw:=(amb ((b - a).toNat+1)) a m b l
theorem GH:∀(e:Nat) (a m b:Int) (l:List Raw),LJ e a m b l->(amb e a m b l).Perm l
 | 0,_,_,_,_,h=>DT h
 | e+1,_,_,_,_,h=>(xC (fun _=>rfl) (c:=auF) (MK:=amb e) (UY:=LJ e) (d:=lD) (fun _ _ _ _ h=>h) (GH e) h).2
abbrev anB (a:Nat):=aGf ((amb a)) (LJ a)
theorem ayR (c:Nat)(a:Int)(m:Int)(b:Int)(l:List Raw)(h:LJ (c+1) a m b l):Is (anB c a m b l):=
 (xC (fun _=>rfl) (fun _ _ _ _ h=>h) (GH c) h).1
theorem aub:∀c,CtOk Z.P Z.S 427 (ctN (iM (aCons (lV 0) (aCons (aLf cI) (aCons (aLf cI) (aCons (aLf cI) (a1 (ja 241 [])))))) (b1 (jJ 294 D.Raw jI))) (shr [.row 0 294] (l1 aZ)) 0 [] (fun a=>some (LJ c (a.1.2.1) (a.1.2.2.1) (a.1.2.2.2.1) (a.2))) (fun a=>(amb c) (a.1.2.1) (a.1.2.2.1) (a.1.2.2.2.1) (a.2)))
 | 0=>dH func427 dE (fun a h=>DT h)
 | c+1=>by
  have d:=aub c;exact xM [Pq,aoT,⟨427,_,d⟩] [jS 3 (aT (fun b=>[s0 10, s0 11]) (lCons cI (l1 cI))),jS 9 (aT (fun b=>[s0 13, .row (pid (b 0)) 294]) (lCons cI (l1 aZ))),jS 15 (aT (fun b=>[s0 14, s0 15]) (lCons cI (l1 cI))),jS 21 (aT (fun b=>[s0 17, .row (pid (b 0)) 294]) (lCons cI (l1 aZ))),jS 33 (aT (fun b=>[s0 20, s0 21]) (lCons cI (l1 cI))),jS 100008 (aT (fun b=>[s0 10]) (l1 cI)),jS 100012 (aT (fun b=>[.row (pid (b 0)) 294]) (l1 aZ)),jS 100020 (aT (fun b=>[s0 14]) (l1 cI)),jS 100024 (aT (fun b=>[.row (pid (b 0)) 294]) (l1 aZ)),jS 100032 (aT (fun b=>[s0 20, s0 21]) (lCons cI (l1 cI))),jS 100038 (aT (fun b=>[s0 20]) (l1 cI)),jS 100041 (aT (fun b=>[.row (pid (b 0)) 294]) (l1 aZ)),jS 100043 (aT (fun b=>[.row (pid (b 0)) 294]) (l1 aZ))] func427 ntmps427 (fun a=>anB c a.1.2.1 a.1.2.2.1 a.1.2.2.2.1 a.2) (fun a h=>⟨ayR c a.1.2.1 a.1.2.2.1 a.1.2.2.2.1 a.2 h,rfl⟩) (l_ (n:=220) rfl)
def ard:Ent Z:=⟨427,ctN (iM (aCons (lV 0) (aCons (aLf cI) (aCons (aLf cI) (aCons (aLf cI) (a1 (ja 241 [])))))) (b1 (jJ 294 D.Raw jI))) (shr [.row 0 294] (l1 aZ)) 0 [] (fun a=>some (UH (fun _ _=>True) (((a.1.2.2.2.1) - (a.1.2.1)).toNat+1) (a.1.2.1) (a.1.2.2.1) (a.1.2.2.2.1) (a.2))) (fun a=>ajY (a.1.2.1) (a.1.2.2.1) (a.1.2.2.2.1) (a.2)),ctFam_ok (fun n=>((aub n))) _ _ (fun a h=>⟨((a.1.2.2.2.1) - (a.1.2.1)).toNat+1,h,rfl⟩)⟩
def aCL (n:Int)(l:List Raw):Pg (List Raw):=Vj (fun a=>a) auF (fun _ _=>True) lD ajY n l
def aG7 (n:Int)(l:List Raw):=(aCL n l).val
theorem avr (n:Int)(l:List Raw)(h:stQ (fun _ _=>True) n l):Is (aCL n l):=
 (xn (fun _=>rfl) (MK:=ajY) (fun a m b l h=>GH _ a m b l h) h).1
def atS:Ent Z:=Ae [Pq,aq3,ard] [jS 2 (aT (fun b=>[s0 7, s0 8, .row (pid (b 0)) 294]) (lCons cI (lCons cI (l1 aZ)))),jS 7 (aT (fun b=>[s0 6, .row (pid (b 0)) 294]) (lCons cI (l1 aZ))),jS 9 (aT (fun b=>[s0 7, s0 8, .row (pid (b 0)) 294]) (lCons cI (lCons cI (l1 aZ)))),jS 100006 (aT (fun b=>[s0 7, .row (pid (b 0)) 294]) (lCons cI (l1 aZ))),jS 100013 (aT (fun b=>[s0 7, .row (pid (b 0)) 294]) (lCons cI (l1 aZ)))] (aCons (lV 0) (aCons (aLf cI) (a1 (ja 241 [])))) (b1 (jJ 294 D.Raw jI)) (shr [.row 0 294] (l1 aZ)) [] func322 0 (fun a=>aCL a.1.2.1 a.2) (fun a=>stQ (fun _ _=>True) a.1.2.1 a.2) fun a h=>avr a.1.2.1 a.2 h
def aCK (l:List Raw):Pg (List Raw):=.ob (stQ (fun(x b:Raw)=>True) (↑l.length:Int) l) (.lt (aG7 (↑l.length:Int) l) fun a=> aL a (.ret a))
def Kz (l:List Raw):=(aCK l).val
theorem awz (l:List Raw)(h:p_ (fun _ _=>True) l):Is (aCK l):=
 az ((⟨h,rfl⟩)) (bg fun b a=>bW fun _=>is_ret)
def ash:Ent Z:=Ae [Pq,atS] [] (aCons (lV 0) (a1 (ja 241 []))) (b1 (jJ 294 D.Raw jI)) (shr [.row 0 294] (l1 aZ)) [] func240 0 (fun a=>aCK a.2) (fun a=>p_ (fun _ _=>True) a.2) fun a h=>awz a.2 h
theorem ams {l:List Raw}(h:p_ (fun _ _=>True) l):(Kz l).Perm l:=
 (xn (fun _=>rfl) (c:=auF) (q:=(fun _ _=>True)) (d:=lD) (MK:=ajY) (fun a m b l h=>GH _ a m b l h) ⟨h,rfl⟩).2
theorem ajW {l:List Raw}(h:l.length<=1048576):(Kz l).Perm l:=ams ⟨by omega,fun _ _ _ _=>trivial⟩
def isU64 (u:Int):Prop:=0<=u/\u < 18446744073709551616
theorem u8_or:∀y,y < 256->y ||| 128=y % 128+128:=by decide+kernel
theorem acE (x:Nat)(a:x < 18446744073709551616):orI .u8 (wrp .u8 (x:Int)) 128=((x % 128+128:Nat):Int):=by
 rw[ahC (k:= .u8) rfl];refine(aiD (k:= .u8) rfl (y:=128) (Qck _ h_) h_).trans ?_;rw[show(2:Nat) ^ IntKind.u8.bits=256 from rfl,u8_or _ (Qck _ h_)];congr 2;omega
theorem rY (x:Nat):qM .u64 (x:Int) 7=((x / 128:Nat):Int):=abq (k:= .u64) x 7 h_
theorem avR (x:Nat)(h:x < 128):wrp .u8 (x:Int)=(x:Int):=Aw (k:= .u8) rfl (show x < 2 ^ 8 by omega)
def azR (X:Int×List Int):Prop:=∃x:Nat,X.1=(x:Int)/\X.2.length<=9/\x < 2 ^ (64 - 7*X.2.length)
theorem afF {x:Nat}{b:List Int}{v:Int}(c:b.length<=9)(a:x < 2 ^ (64 - 7*b.length))(d:128<=x):azR (((x / 128:Nat):Int),b++[v]):=by
 refine⟨x / 128,rfl,?_,?_⟩
 ·show(b++[v]).length<=9
  rw[kG,Qbe];rcases(by omega:b.length=9\/b.length<=8)with h | h
  ·rw[h]at a;have:x < 2:=a;omega
  ·omega
 ·show x / 128 < 2 ^ (64 - 7*(b++[v]).length)
  rw[kG,Qbe];rcases(by omega:b.length=9\/b.length<=8)with h | h
  ·rw[h]at a;have:x < 2:=a;omega
  ·have e:64 - 7*b.length=(64 - 7*(b.length+1))+7:=by omega
   rw[e,Nat.pow_add]at a;omega
theorem aJe {x k:Nat}(h:x < 2 ^ (64 - 7*k)):x < 18446744073709551616:=Qbm h (show 2 ^ (64 - 7*k)<=2 ^ 64 from Qcs h_ ah)
def aDa (u:Int):Pg (List UInt8):=.wh (u.toNat+1) default (fun(a:Int×List Int)=> .br (decide (128<=a.1)) (.ob (bM (a.2.length+1) 1) (.ob ((0:Int)<=7) (rl (qM .u64 a.1 7,a.2++[orI .u8 (wrp .u8 a.1) 128])))) (.ob (bM (a.2.length+1) 1) (.lt (a.2++[wrp .u8 a.1]) fun(b:List Int)=> .ob (zy (fun(i:Nat)=>true) b.length=true) (.ret (.inr (txU b)))))) (u,[])
def vputP (u:Int):=(aDa u).val
theorem axM (u:Int)(h:isU64 u):Is (aDa u):=
 by
 have h:0<=u/\u < 18446744073709551616:=h;obtain⟨x,rfl⟩:∃x:Nat,u=(x:Int):=⟨u.toNat,by omega⟩;have f:x < 18446744073709551616:=by omega
 refine AY azR (fun X=>X.1.toNat) ⟨x,rfl,qR _,f⟩ (by show x < x+1;omega) (fun X g=> ?_);obtain⟨i,b⟩:=X;obtain⟨x,rfl,d,a⟩:=g;dsimp only at d a⊢;rw[rY,acE x (aJe a)];refine⟨aQ (fun _=>az (room_of ah ah) (az ah is_ret)) (fun _=>az (room_of ah ah) (bg fun l j=>az (mW (fun _=>rfl) _) is_ret)),fun m c=> ?_⟩;revert c;simp only[a_,val_ob,val_lt,val_ret,Qa2,Um];split
 ·rename_i k;intro e;injection e with e
  subst e;refine⟨afF d a ah,?_⟩;show((x / 128:Nat):Int).toNat < (x:Int).toNat
  omega
 ·intro e;cases e
def A_:Ent Z:=E1 [] [jS 2 (aT (fun b=>[s0 0, .slot 3 false [some 5]]) (lCons (cInt .u64) (l1 uG)))] (a1 (aLf (cInt .u64))) (R1 cStr) [] func122 1 aDa (fun a=>isU64 a) fun a h=>axM a h
theorem vput_nat (x:Nat)(c:x < 18446744073709551616):vputP (x:Int)=txU ((encV 10 x).map Int.ofNat):=by
 have e:∀(k n x:Nat) (b:List Int),x < n->x < 128 ^ k->1<=k->x < 18446744073709551616->VB (fun(a:Int×List Int)=>(bif decide (128<=a.1)then(Sum.inl (qM .u64 a.1 7,a.2++[orI .u8 (wrp .u8 a.1) 128]):(Int×List Int)⊕List UInt8)else .inr (txU (a.2++[wrp .u8 a.1])))) default n ((x:Int),b)=txU (b++(encV k x).map Int.ofNat):=by
  intro k;induction k with
  | zero=>intro n x b _ _ h;omega
  | succ k f=>
   intro n x b g d _ c;obtain⟨n,rfl⟩:∃m,n=m+1:=⟨n - 1,by omega⟩;unfold VB encV;by_cases h:x < 128
   ·rw[Ai h,nU (show ¬(128:Int)<=(x:Int) by omega)];simp only[og,avR x h];rfl
   ·rw[vF h,pY (show(128:Int)<=(x:Int) by omega)];simp only[xU,rY,acE x c];rw[Nat.pow_succ]at d;rw[f n (x / 128) _ ah ah (by
      rcases k with _ | k;· simp at d;omega
      ·omega) ah,UA]
    rfl
 exact e 10 ((x:Int).toNat+1) x [] ah (Qbm c h_) h_ c
theorem ais:∀(k x:Nat),(encV k x).length<=k
 | 0,x=>lH _
 | k+1,x=>by
  unfold encV;split
  ·simp
  ·simp only[uU];have:=ais k (x / 128);omega
theorem put_len (u:Int)(h:0<=u/\u < 18446744073709551616):(vputP u).length<=10:=by
 obtain⟨x,rfl⟩:∃x:Nat,u=(x:Int):=⟨u.toNat,by omega⟩;rw[vput_nat x ah,txU_len,Na];exact ais 10 x
def finV (u i:Nat)(t:Nat×Nat×Int):Int×Int×Int:=if t.2.2=0 then(((u+2 ^ (7*i)*t.1:Nat):Int),((i+t.2.1:Nat):Int),0)else(0,0,t.2.2)
theorem aCm {u i c:Nat}(d:u < 2 ^ (7*i))(a:i<=8\/i=9/\c<=1)(g:c < 128):c*2 ^ (7*i) < 2 ^ 64/\u ||| (c*2 ^ (7*i))=u+2 ^ (7*i)*c/\u+2 ^ (7*i)*c < 2 ^ 64:=by
 have b:u ||| (c*2 ^ (7*i))=u+2 ^ (7*i)*c:=by
  rw[Nat.or_comm,Qcd,<-Nat.two_pow_add_eq_or_of_lt d,Nat.add_comm]
 rw[b];rcases a with a | ⟨rfl,e⟩
 ·have f:2 ^ (7*i)<=2 ^ 56:=Qcs h_ ah;generalize 2 ^ (7*i)=p at*;have h:c*p<=127*p:=Qbb p ah;rw[Qcd p c];refine⟨by omega,rfl,by omega⟩
 ·have:c=0\/c=1:=by omega
  rcases this with rfl | rfl<;>refine⟨by decide,rfl,by omega⟩
theorem aEG (c:UInt8):wrp .u64 (qE .u8 (c.toNat:Int) 127)=((c.toNat % 128:Nat):Int):=by
 have a:=c.toNat_lt;have e:qE .u8 (c.toNat:Int) 127=((c.toNat &&& 127:Nat):Int):=auG (k:= .u8) rfl (y:=127) a h_;rw[e,show c.toNat &&& 127=c.toNat % 128 from Nat.and_two_pow_sub_one_eq_mod _ 7];exact Aw (k:= .u64) rfl (Nat.lt_trans (Qck _ h_) (by decide:128 < 2 ^ 64))
theorem axC (u i:Nat)(c:UInt8)(f:u < 2 ^ (7*i))(e:i<=8\/i=9/\c.toNat<=1):orI .u64 (u:Int) (UN .u64 (wrp .u64 (qE .u8 (c.toNat:Int) 127)) (wrp .i64 (7*(i:Int))))=((u+2 ^ (7*i)*(c.toNat % 128):Nat):Int):=by
 have g:c.toNat % 128 < 128:=Qck _ h_;obtain⟨b,d,j⟩:=aCm f (e.imp id fun h=>⟨h.1,by omega⟩) g;have w:wrp .i64 (7*(i:Int))=((7*i:Nat):Int):=by rw[wrp_in (k:= .i64) oC];omega
 rw[aEG,w,aqF (k:= .u64) rfl (show 7*i<=64 by omega) b];have a:u < 2 ^ 64:=by omega
 rw[aiD (k:= .u64) rfl a b,d]
theorem drop_at {s:Str}{i:Nat}(h:i < s.length):s.drop i=s.getD i 0::s.drop (i+1):=by
 rw[Qa7 h];simp[List.getD,h]
theorem anS (u i:Nat)(c:UInt8)(r:Str)(f:¬(i=9/\1 < c.toNat))(b:¬c.toNat < 128):finV u i (takeV i (c::r))=finV (u+2 ^ (7*i)*(c.toNat % 128)) (i+1) (takeV (i+1) r):=by
 conv=>lhs;unfold takeV
 rw[vF f,vF b];generalize takeV (i+1) r=t;obtain⟨v,n,e⟩:=t;dsimp only;by_cases a:e=0
 ·subst a;unfold finV;dsimp only;rw[Ai rfl,Ai rfl,Ai rfl];have d:u+2 ^ (7*i)*(c.toNat % 128+128*v)=u+2 ^ (7*i)*(c.toNat % 128)+2 ^ (7*(i+1))*v:=by
   rw[show 7*(i+1)=7*i+7 by omega,Nat.pow_add,Nat.mul_add,Nat.add_assoc,<-Nat.mul_assoc]
  rw[d,show i+(n+1)=i+1+n by omega]
 ·unfold finV;rw[vF a,vF a,vF a]
def arw (s:Str):Pg (Int×Int×Int):=.wh (11) default (fun(a:Int×Int)=> .as (List.length s<=9223372036854775807) (.br (a.2==(↑(List.length s):Int)) (.ret (.inr (0,0,4))) (.ix a.2 (List.length s) (.cut (fun(e:Unit)=> .lt (wrp .i64 (7*a.2)) fun d=> .ob (0<=d) (.lt (orI .u64 a.1 (UN .u64 (wrp .u64 (qE .u8 (↑(List.getD s a.2.toNat 0).toNat:Int) 127)) d)) fun b=> .lt (wrp .i64 (a.2+1)) fun c=> .br (decide ((↑(List.getD s a.2.toNat 0).toNat:Int) < 128)) (.ret (.inr (b,c,0))) (rl (b,c)))) (.br (a.2==9) (.br (decide (1 < (↑(List.getD s a.2.toNat 0).toNat:Int))) (.ret (.inr (.inr (0,0,6)))) (rl ())) (rl ())))))) (0,0)
def vtakeP (s:Str):=(arw s).val
theorem asV (s:Str):Is (arw s):=
 by
 refine AY (fun X=>0<=X.2/\X.2<=9/\X.2<=s.length) (fun X=>(10 - X.2).toNat) ⟨by decide,by decide,by simp⟩ h_ (fun X h=> ?_);obtain⟨u,n⟩:=X;obtain⟨i,f,g⟩:=h;dsimp only at i f g⊢;have w:wrp .i64 (7*n)=7*n:=wrp_in (k:= .i64) oC;have j:wrp .i64 (n+1)=n+1:=wrp_in (k:= .i64) oC;rw[w,j];refine⟨bW fun _=>bu iR (fun o=>aW ah ah (gG (bu (fun _=>aQ iR iR) iR) (fun y q=>bg fun r l=>az ah (bg fun x p=>bg fun t m=>aQ iR iR)))),fun v a=> ?_⟩;revert a;simp only[val_as,a_,iY,jv,val_lt,val_ob,val_ret,Qa2,Um,Qb6];by_cases b:n=(s.length:Int)
 ·rw[Ai b];intro e;cases e
 rw[vF b];by_cases d:n=9
 ·rw[Ai d];by_cases c:(1:Int) < ((s.getD n.toNat 0).toNat:Int)
  ·rw[Ai c];intro e;cases e
  ·rw[vF c,pJ,Ai ah];intro e;cases e
 ·rw[vF d,pJ];split
  ·intro e;cases e
  ·intro e;injection e with e
   subst e;exact⟨⟨by show 0<=n+1;omega,by show n+1<=9;omega,by show n+1<=(s.length:Int);omega⟩,by show(10 - (n+1)).toNat < (10 - n).toNat;omega⟩
def OE:Ent Z:=E0 [] [jS 3 (aT (fun b=>[s0 5, s0 6]) (lCons (cInt .u64) (l1 cI))),jS 100008 (aT (fun b=>[]) l0)] (a1 (aLf cStr)) (shr [s0 0, s0 1, s0 2] (lCons (cInt .u64) (lCons cI (l1 cI)))) [] func128 3 arw fun a=>asV a
theorem aI8 {u i c:Nat}(b:u < 2 ^ (7*i)):u+2 ^ (7*i)*(c % 128) < 2 ^ (7*(i+1)):=by
 rw[show 7*(i+1)=7*i+7 by omega,Nat.pow_add];have d:c % 128 < 128:=Qck _ h_;generalize 2 ^ (7*i)=p at*;have a:p*(c % 128)<=p*127:=Qc2 p ah;omega
theorem ax3 (u i:Nat):finV u i (takeV i [])=(0,0,4):=rfl
theorem avl (u i:Nat)(c:UInt8)(r:Str)(a:i=9/\1 < c.toNat):finV u i (takeV i (c::r))=(0,0,6):=by
 unfold takeV;rw[Ai a];rfl
theorem ax6 (u i:Nat)(c:UInt8)(r:Str)(b:¬(i=9/\1 < c.toNat))(a:c.toNat < 128):finV u i (takeV i (c::r))=(((u+2 ^ (7*i)*(c.toNat % 128):Nat):Int),((i+1:Nat):Int),0):=by
 unfold takeV;rw[vF b,Ai a,Qbv a];rfl
theorem vtake_eq (s:Str):vtakeP s=finV 0 0 (takeV 0 s):=by
 have g:∀(m i u:Nat),i<=9->i<=s.length->u < 2 ^ (7*i)->10 - i < m->VB (fun(a:Int×Int)=>bif a.2==(s.length:Int)then(Sum.inr (0,0,4):(Int×Int)⊕(Int×Int×Int))else thenS (bif a.2==9 then(bif decide ((1:Int) < ((s.getD a.2.toNat 0).toNat:Int))then(Sum.inr (.inr (0,0,6)):Unit⊕((Int×Int)⊕(Int×Int×Int)))else .inl ())else .inl ()) fun _=>bif decide (((s.getD a.2.toNat 0).toNat:Int) < 128)then Sum.inr (orI .u64 a.1 (UN .u64 (wrp .u64 (qE .u8 ((s.getD a.2.toNat 0).toNat:Int) 127)) (wrp .i64 (7*a.2))),wrp .i64 (a.2+1),0)else .inl (orI .u64 a.1 (UN .u64 (wrp .u64 (qE .u8 ((s.getD a.2.toNat 0).toNat:Int) 127)) (wrp .i64 (7*a.2))),wrp .i64 (a.2+1))) default m ((u:Int),(i:Int))=finV u i (takeV i (s.drop i)):=by
  intro m;induction m with
  | zero=>intro i u _ _ _ h;omega
  | succ m k=>
   intro i u r p j t;unfold VB;dsimp only;by_cases l:i=s.length
   ·have:((i:Int)==(s.length:Int))=true:=by rw[l];simp
    rw[this,List.drop_eq_nil_of_le ah,ax3];rfl
   ·have:((i:Int)==(s.length:Int))=false:=by rw[Qbr];omega
    rw[this,og,u_,drop_at ah];generalize s.getD i 0=c;by_cases b:i=9/\1 < c.toNat
    ·rw[avl _ _ _ _ b];have e:((i:Int)==9)=true:=by rw[b.1];rfl
     have d:decide ((1:Int) < (c.toNat:Int))=true:=pY ah;rw[e,d];rfl
    ·have q:(bif (i:Int)==9 then(bif decide ((1:Int) < (c.toNat:Int))then(Sum.inr (.inr (0,0,6)):Unit⊕((Int×Int)⊕(Int×Int×Int)))else .inl ())else .inl ())= .inl ():=by
      by_cases f:i=9
      ·have d:decide ((1:Int) < (c.toNat:Int))=false:=nU ah;rw[d];cases(i:Int)==9<;>rfl
      ·have e:((i:Int)==9)=false:=by rw[Qbr];omega
       rw[e];rfl
     have n:i<=8\/i=9/\c.toNat<=1:=by omega
     have o:wrp .i64 ((i:Int)+1)=((i+1:Nat):Int):=wrp_next ah;rw[q,pJ,axC u i c j n,o];by_cases f:c.toNat < 128
     ·rw[ax6 _ _ _ _ b f,pY (show(c.toNat:Int) < 128 by omega)];rfl
     ·rw[anS _ _ _ _ b f,nU (show ¬(c.toNat:Int) < 128 by omega)];exact k (i+1) _ ah ah (aI8 j) ah
 exact g 11 0 0 h_ (qR _) h_ h_
theorem Gx (s:Str):isU64 (vtakeP s).1/\0<=(vtakeP s).2.1/\(vtakeP s).2.1<=s.length/\((vtakeP s).2.2=0\/(vtakeP s).2.2=4\/(vtakeP s).2.2=6)/\((vtakeP s).2.2=0->1<=(vtakeP s).2.1):=by
 rw[vtake_eq];have d:∀(r:Str) (i:Nat),(takeV i r).2.2=0\/(takeV i r).2.2=4\/(takeV i r).2.2=6:=by
  intro r;induction r with
  | nil=>intro i;exact .inr (.inl rfl)
  | cons c r b=>
   intro i;unfold takeV;split
   ·exact .inr (.inr rfl)
   ·split
    ·exact .inl rfl
    ·have:=b (i+1);generalize takeV (i+1) r=t at*;obtain⟨u,n,e⟩:=t;dsimp only at this⊢;split
     ·exact .inl rfl
     ·exact this
 unfold finV;by_cases h:(takeV 0 s).2.2=0
 ·obtain⟨l,f,m,k,g,o,j,a⟩:=O8 s 0 h_ h;have:=awX f;rw[Ai h];have a:(takeV 0 s).1 < 18446744073709551616:=a;rw[JH,JH,Nat.mul_zero,Nat.pow_zero,Nat.one_mul];dsimp only;exact⟨⟨by omega,by omega⟩,by omega,by omega, .inl rfl,fun _=>by omega⟩
 ·rw[vF h];dsimp only;exact⟨⟨AA _,by decide⟩,AA _,by omega,(d s 0),fun e=>absurd e h⟩
def aHr (u:Int):Pg Int:=.ob ((0:Int)<=1) (.ret (I7 .i64 (wrp .i64 (qM .u64 u 1)) (wrp .i64 (-wrp .i64 (qE .u64 u 1)))))
def aAV (u:Int):=(aHr u).val
def aDG:Ent Z:=E0 [] [] (a1 (aLf (cInt .u64))) (R1 cI) [] func460 1 aHr
def ag0 (c:aC):Pg Bool:=.br (decide (0<=c.At)) (.br (decide (c.At<=c.End)) (.as (List.length c.Data<=9223372036854775807) (.ret (decide (c.End<=(↑(List.length c.Data):Int))))) (.ret false)) (.ret false)
def FP (c:aC):=(ag0 c).val
def QA:Ent Z:=E0 [] [] (a1 (aAgg di)) (R1 aj) [] func305 1 ag0
def asG (c:aC):Pg Int:=.br (!FP c) (.ret 0) (.ret (wrp .i64 (c.End - c.At)))
def ru (c:aC):=(asG c).val
def wQ:Ent Z:=E0 [QA] [] (a1 (aAgg di)) (R1 cI) [] func230 1 asG
def ag8 (c:aC)(n:Int):Pg aC:=.ret (aC.mk c.Data (wrp .i64 (c.At+n)) c.End c.Depth c.Nodes c.Text)
def oW (c:aC)(n:Int):=(ag8 c n).val
def Iz:Ent Z:=E0 [] [] (aCons (aAgg di) (a1 (aLf cI))) (shr [.slot 0 true (nn 6)] (l1 di)) [] func407 1 (u2 ag8)
def lm (c:aC):Prop:=(0<=c.At/\c.At<=c.End/\c.End<=c.Data.length/\c.Data.length<=1048576)/\(0<=c.Depth/\c.Depth<=1048576)/\(0<=c.Nodes/\c.Nodes<=1099511627776)/\0<=c.Text/\c.Text<=1099511627776
def KU (c:aC):Str:=(c.Data.take c.End.toNat).drop c.At.toNat
theorem VN {c:aC}(h:lm c):((KU c).length:Int)=c.End - c.At:=by
 obtain⟨⟨b,a,d,e⟩,_⟩:=h;unfold KU;rw[Qa9,zU];omega
theorem Ji {c:aC}(h:lm c):FP c=true:=by
 obtain⟨⟨b,a,d,e⟩,_⟩:=h;unfold FP ag0;simp only[a_,val_as,val_ret];rw[pY b,pY a,pY d];rfl
theorem oM {c:aC}(h:lm c):ru c=c.End - c.At:=by
 have a:=Ji h;obtain⟨⟨d,b,e,f⟩,_⟩:=h;unfold ru asG;simp only[a_,val_ret,a,Qdg,og];exact wrp_in (k:= .i64) oC
theorem CU {c:aC}(h:lm c){n:Int}(j:0<=n)(i:n<=c.End - c.At):oW c n=aC.mk c.Data (c.At+n) c.End c.Depth c.Nodes c.Text/\lm (oW c n):=by
 obtain⟨⟨f,g,d,b⟩,a⟩:=h;have e:oW c n=aC.mk c.Data (c.At+n) c.End c.Depth c.Nodes c.Text:=by
  unfold oW ag8;simp only[val_ret];rw[wrp_in (k:= .i64) oC]
 rw[e];exact⟨rfl,⟨by show 0<=c.At+n;omega,by show c.At+n<=c.End;omega,d,b⟩,a⟩
def ajw (c:aC)(n:Int):Pg (List UInt8):=.br (!FP c) (.ret []) (.lt (wrp .i64 (c.At+n)) fun a=> .ob (0<=c.At/\c.At<=min c.End a/\min c.End a<=(↑(List.length c.Data):Int)) (.ret (List.drop c.At.toNat (List.take (min c.End a).toNat c.Data))))
def o6 (c:aC)(n:Int):=(ajw c n).val
theorem aqD (c:aC)(n:Int)(h:lm c/\0<=n/\n<=1000):Is (ajw c n):=
 is_br iR (fun _=>jh fun i a _=>az (by obtain⟨⟨⟨f,b,g,j⟩,_⟩,e,d⟩:=h;omega) (is_ret))
def ahJ:Ent Z:=E1 [QA] [] (aCons (aAgg di) (a1 (aLf cI))) (R1 cStr) [] func406 1 (u2 ajw) (fun a=>lm a.1/\0<=a.2/\a.2<=1000) fun a h=>aqD a.1 a.2 h
theorem abV {c:aC}(h:lm c){n:Nat}(d:n<=1000):o6 c n=(KU c).take n:=by
 have a:=Ji h;obtain⟨⟨e,b,f,g⟩,_⟩:=h;unfold o6 ajw KU;simp only[a_,val_lt,val_ob,val_ret,a,Qdg,og];rw[wrp_in (k:= .i64) oC,List.take_drop];congr 1;rw[List.take_take];congr 1;omega
def ah8 (c:aC):Pg (Int×aC×Int):=.lt (ru c) fun a=> .br (decide (a < 1)) (.ret (0,c,4)) (.ix c.At (List.length c.Data) (.ret ((↑(List.getD c.Data c.At.toNat 0).toNat:Int),oW c 1,0)))
def EC (c:aC):=(ah8 c).val
theorem ao1 (c:aC)(h:lm c):Is (ah8 c):=
 bg fun g a=>aQ iR (fun b=>by rw[a,oM h]at b;obtain⟨⟨d,e,i,f⟩,_⟩:=h;exact aW ah ah is_ret)
def aym:Ent Z:=E1 [wQ,Iz] [] (a1 (aAgg di)) (shr [s0 0, .slot 1 true (nn 6), s0 2] (lCons (cInt .u8) (lCons di (l1 cI)))) [] func413 3 ah8 (fun a=>lm a) fun a h=>ao1 a h
def Oq (c:aC):Pg (Int×aC×Int):=.ob (lm c/\(0:Int)<=10/\(10:Int)<=1000) (.lt (vtakeP (o6 c 10)) fun a=> .br (a.2.2 !=0) (.ret (0,c,a.2.2)) (.ret (a.1,oW c a.2.1,0)))
def bi (c:aC):=(Oq c).val
theorem afY (c:aC)(h:lm c):Is (Oq c):=
 az ((⟨h,by decide,by decide⟩)) (bg fun b a=>dm iR iR)
def yg:Ent Z:=E1 [OE,ahJ,Iz] [] (a1 (aAgg di)) (shr [s0 0, .slot 1 true (nn 6), s0 2] (lCons (cInt .u64) (lCons di (l1 cI)))) [] func306 3 Oq (fun a=>lm a) fun a h=>afY a h
def ad7 (c:aC)(n:Int):Pg (aC×Int):=.br (decide (n < 0)) (.ret (c,1)) (.br (decide (c.Nodes < n)) (.ret (c,3)) (.ret (aC.mk c.Data c.At c.End c.Depth (wrp .i64 (c.Nodes - n)) c.Text,0)))
def oZ (c:aC)(n:Int):=(ad7 c n).val
def aaY:Ent Z:=E0 [] [] (aCons (aAgg di) (a1 (aLf cI))) (shr [.slot 0 true (nn 6), s0 1] (lCons di (l1 cI))) [] func229 2 (u2 ad7)
def afU (c:aC)(n:Int):Pg (aC×Int):=.br (decide (n < 0)) (.ret (c,1)) (.lt (ru c) fun a=> .br (decide (a < n)) (.ret (c,4)) (.br (decide (c.Depth < 1)) (.ret (c,17)) (.ret (aC.mk c.Data c.At (wrp .i64 (c.At+n)) (wrp .i64 (c.Depth - 1)) c.Nodes c.Text,0))))
def Ol (c:aC)(n:Int):=(afU c n).val
def as5:Ent Z:=E0 [wQ] [] (aCons (aAgg di) (a1 (aLf cI))) (shr [.slot 0 true (nn 6), s0 1] (lCons di (l1 cI))) [] func457 2 (u2 afU)
def aeS (c:aC)(a:aC):Pg aC:=.br (!FP c) (.ret c) (.br (decide (a.End < c.At)) (.ret c) (.br (decide (c.End < a.End)) (.ret c) (.br (decide (a.Nodes < 0)) (.ret c) (.br (decide (c.Nodes < a.Nodes)) (.ret c) (.ret (aC.mk c.Data a.End c.End c.Depth a.Nodes c.Text))))))
def CQ (c:aC)(a:aC):=(aeS c a).val
def arI:Ent Z:=E0 [QA] [] (aCons (aAgg di) (a1 (aAgg di))) (shr [.slot 0 true (nn 6)] (l1 di)) [] func458 1 (u2 aeS)
def Ah (k:Int)(c d:aC):Prop:=lm d/\d.Data=c.Data/\d.End=c.End/\d.Depth=c.Depth/\d.Text=c.Text/\d.Nodes<=c.Nodes/\c.At+k<=d.At
theorem Cb {c:aC}(h:lm c){n k:Int}(b:0<=n)(a:n<=c.End - c.At)(d:k<=n):Ah k c (oW c n):=by
 obtain⟨e,q⟩:=CU h b a;rw[e]at q⊢;exact⟨q,rfl,rfl,rfl,rfl,AA _,by show c.At+k<=c.At+n;omega⟩
theorem iZ {a b:Int}{c d e:aC}(o:Ah a c d)(l:Ah b d e):Ah (a+b) c e:=by
 obtain⟨_,i,h,p,k,r,q⟩:=o;obtain⟨g,m,f,n,j,s,t⟩:=l;exact⟨g,m.trans i,f.trans h,n.trans p,j.trans k,by omega,by omega⟩
theorem jl {a b:Int}{c d:aC}(h:Ah a c d)(l:b<=a):Ah b c d:=by
 obtain⟨i,g,f,j,e,k,m⟩:=h;exact⟨i,g,f,j,e,k,by omega⟩
theorem ji {a:Int}:(a !=0)=false ↔ a=0:=by simp
theorem jU {c:aC}(h:lm c):isU64 (bi c).1/\((bi c).2.2=0->Ah 1 c (bi c).2.1/\(bi c).2.1.Nodes=c.Nodes):=by
 have k:=Gx (o6 c 10);have g:=VN h;have f:=abV h (n:=10) h_;unfold bi Oq;simp only[val_ob,val_lt,a_,val_ret];cases e:(vtakeP (o6 c 10)).2.2 !=0 with
 | true=>
  refine⟨by show(0:Int)<=0/\(0:Int) < 18446744073709551616;decide,fun a=> ?_⟩;have a:(vtakeP (o6 c 10)).2.2=0:=a;rw[a]at e;cases e
 | false=>
  have d:=ji.1 e;refine⟨k.1,fun _=> ?_⟩;have b:(o6 c 10).length<=(KU c).length:=by
   rw[show o6 c 10=(KU c).take 10 from f,zU];omega
  refine⟨Cb h k.2.1 (by have:=k.2.2.1;omega) (k.2.2.2.2 d),rfl⟩
def adm (s:Str):Pg (Int×Int):=.br (decide ((↑(List.length s):Int) < 8)) (.ret (0,4)) (.cnt lF 0 8 (fun(a b:Int)=> .ix a (List.length s) (.lt (wrp .i64 (8*a)) fun c=> .ob (0<=c) (rl (orI .u64 b (UN .u64 (wrp .u64 (↑(List.getD s a.toNat 0).toNat:Int)) c))))) (fun(a b:Int)=> .ret (b,0)) 0)
def Ba (s:Str):=(adm s).val
theorem an2 (s:Str):Is (adm s):=
 aQ iR (fun _=>EX ah ah (fun a b _ _=>aW ah ah (jh fun d c _=>az ah (is_ret))) (fun a b _ _=>is_ret))
def avA:Ent Z:=E0 [] [jS 5 (aT (fun b=>[s0 9, s0 4]) (lCons cI (l1 (cInt .u64))))] (a1 (aLf cStr)) (shr [s0 0, s0 1] (lCons (cInt .u64) (l1 cI))) [] func461 2 adm fun a=>an2 a
def Rq (c:aC):Pg (Int×aC×Int):=.ob (lm c/\(0:Int)<=8/\(8:Int)<=1000) (.lt (Ba (o6 c 8)) fun a=> .br (a.2 !=0) (.ret (0,c,a.2)) (.ret (a.1,oW c 8,0)))
def vK (c:aC):=(Rq c).val
theorem ak9 (c:aC)(h:lm c):Is (Rq c):=
 az ((⟨h,by decide,by decide⟩)) (bg fun b a=>dm iR iR)
def aaU:Ent Z:=E1 [ahJ,Iz,avA] [] (a1 (aAgg di)) (shr [s0 0, .slot 1 true (nn 6), s0 2] (lCons (cInt .u64) (lCons di (l1 cI)))) [] func419 3 Rq (fun a=>lm a) fun a h=>ak9 a h
def YE (c:aC)(n:Int):Pg (List Int):=.lt (wrp .i64 (c.At+n)) fun a=> .ob (0<=c.At/\c.At<=a/\a<=(↑(List.length c.Data):Int)) (.ob (0<=n/\n=n/\n<=(↑(BG (List.drop c.At.toNat (List.take a.toNat c.Data))).length:Int)) (.ret (List.take n.toNat (BG (List.drop c.At.toNat (List.take a.toNat c.Data))))))
def Zx (c:aC)(n:Int):=(YE c n).val
theorem alZ (c:aC)(n:Int)(h:lm c/\0<=n/\n<=c.End - c.At):Is (YE c n):=
 jh fun j i _=>az (by obtain⟨⟨⟨e,a,f,g⟩,_⟩,d,b⟩:=h;omega) (az (by obtain⟨⟨⟨e,a,f,g⟩,_⟩,d,b⟩:=h;rw[ng,Qa9,zU];omega) (is_ret))
def api:Ent Z:=E1 [] [] (aCons (aAgg di) (a1 (aLf cI))) (R1 uG) [] func479 1 (u2 YE) (fun a=>lm a.1/\0<=a.2/\a.2<=a.1.End - a.1.At) fun a h=>alZ a.1 a.2 h
def ac6 (c:aC)(n:Int):Pg (List UInt8×aC×Int):=.br (decide (n < 0)) (.ret ([],c,1)) (.lt (ru c) fun b=> .br (decide (b < n)) (.ret ([],c,4)) (.br (decide (c.Text < n)) (.ret ([],c,3)) (.br (n==0) (.ret ([],c,0)) (.ob (lm c/\0<=n/\n<=c.End - c.At) (.lt (Zx c n) fun a=> .ob (zy (fun(i:Nat)=>true) a.length=true) (.ret (txU a,oW c n,0)))))))
def wY (c:aC)(n:Int):=(ac6 c n).val
theorem apj (c:aC)(n:Int)(h:lm c):Is (ac6 c n):=
 aQ iR (fun _=>bg fun d b=>aQ iR (fun _=>aQ iR (fun _=>bu iR (fun _=>az ((⟨h,by omega,by rw[<-oM h];omega⟩)) (bg fun e a=>az (mW (fun _=>rfl) _) (is_ret))))))
def ayW:Ent Z:=E1 [wQ,Iz,api] [] (aCons (aAgg di) (a1 (aLf cI))) (shr [s0 0, .slot 1 true (nn 6), s0 2] (lCons cStr (lCons di (l1 cI)))) [] func459 3 (u2 ac6) (fun a=>lm a.1) fun a h=>apj a.1 a.2 h
theorem apK {c:aC}(h:lm c){a:Int×aC×Int}(e:a=bi c)(o:a.2.2=0){i l b:Int}(g:i=wrp .u64 (ru a.2.1))(f:l=wrp .i64 a.1)(d:b=wrp .i64 (a.2.1.At+l))(p:¬i < a.1):0<=a.2.1.At/\a.2.1.At<=b/\b<=(a.2.1.Data.length:Int):=by
 obtain⟨j,k⟩:=jU h;rw[<-e]at j k;obtain⟨⟨m,_⟩,_⟩:=k o;have n:=oM m;obtain⟨⟨r,s,q,t⟩,_⟩:=m;obtain⟨u,u2⟩:=j;rw[n,wrp_in (k:= .u64) oC]at g;rw[wrp_in (k:= .i64) oC]at f;rw[wrp_in (k:= .i64) oC]at d;omega
def axG (c:aC):Pg (Int×Int×aC×Int):=.ob (lm c) (.lt (bi c) fun a=> .br (a.2.2 !=0) (.ret (0,0,c,a.2.2)) (.ob ((8:Int)≠0) (.br (a.1.tmod (8:Int)==7) (.ret (0,0,c,5)) (.ob ((8:Int)≠0) (.lt (wrp .u64 (a.1.tdiv 8)) fun b=> .br (decide (b < 1)) (.ret (0,0,c,6)) (.ob ((8:Int)≠0) (.br (decide (65535 < b)) (.ret (0,0,c,6)) (.ob ((8:Int)≠0) (.ob ((8:Int)≠0) (.ret (wrp .i64 b,wrp .i64 (a.1.tmod 8),a.2.1,0)))))))))))
def qQ (c:aC):=(axG c).val
def aeg:Ent Z:=E1 [yg] [] (a1 (aAgg di)) (shr [s0 0, s0 1, .slot 2 true (nn 6), s0 3] (lCons cI (lCons cI (lCons di (l1 cI))))) [] func231 4 axG fun a=>lm a
def abC (c:aC)(d:Int):Pg (List UInt8×aC×Int):=.ob (lm c) (.lt (bi c) fun a=> .br (a.2.2 !=0) (.ret ([],c,a.2.2)) (.cut (fun(f:Int)=> .lt (wrp .u64 (ru a.2.1)) fun g=> .br (decide (g < a.1)) (.ret ([],c,4)) (.lt (wrp .i64 a.1) fun e=> .br (decide (f < e)) (.ret ([],c,3)) (.lt (wrp .i64 (a.2.1.At+e)) fun b=> .ob (0<=a.2.1.At/\a.2.1.At<=b/\b<=(↑(List.length a.2.1.Data):Int)) (.ret (List.drop a.2.1.At.toNat (List.take b.toNat a.2.1.Data), aC.mk a.2.1.Data b a.2.1.End a.2.1.Depth a.2.1.Nodes a.2.1.Text,0))))) (.br (d==3) (rl c.Text) (rl 65536))))
def y_ (c:aC)(a:Int):=(abC c a).val
theorem atW (c:aC)(a:Int)(h:lm c):Is (abC c a):=
 az (h) (bg fun m b=>dm iR (fun _=>gG (bu iR iR) (fun i g=>bg fun j d=>aQ iR (fun _=>jh fun l f _=>aQ iR (fun _=>jh fun k e _=>az ((apK h b ah d f e ah)) (is_ret))))))
def axi:Ent Z:=E1 [wQ,yg] [jS 100007 (aT (fun b=>[s0 10]) (l1 cI))] (aCons (aAgg di) (a1 (aLf cI))) (shr [s0 0, .slot 1 true (nn 6), s0 2] (lCons cStr (lCons di (l1 cI)))) [] func420 3 (u2 abC) (fun a=>lm a.1) fun a h=>atW a.1 a.2 h
theorem aa2 {s:Str}(h:(Ba s).2=0):8<=s.length:=by
 rcases Qb8 s.length 8 with a | a
 ·unfold Ba adm at h;simp only[a_,val_ret]at h;rw[pY (show(s.length:Int) < 8 by omega)]at h;cases h
 ·exact a
theorem Rj {c:aC}(h:lm c)(a:(vK c).2.2=0):Ah 1 c (vK c).2.1/\(vK c).2.1.Nodes=c.Nodes:=by
 have f:=VN h;have d:=abV h (n:=8) h_;unfold vK Rq at a⊢;simp only[val_ob,val_lt,a_,val_ret]at a⊢;cases e:(Ba (o6 c 8)).2 !=0 with
 | true=>
  rw[e]at a;have a:(Ba (o6 c 8)).2=0:=a;rw[a]at e;cases e
 | false=>
  have g:=aa2 (ji.1 e);have b:(o6 c 8).length<=(KU c).length:=by
   rw[show o6 c 8=(KU c).take 8 from d,zU];omega
  exact⟨Cb h h_ ah h_,rfl⟩
theorem akC {c:aC}(h:lm c){n:Int}(a:(wY c n).2.2=0):Ah 0 c (wY c n).2.1/\(wY c n).2.1.Nodes=c.Nodes/\(0<=n/\n<=c.End - c.At)/\(wY c n).2.1.At=c.At+n:=by
 have g:=oM h;unfold wY ac6 at a⊢;simp only[val_ob,val_lt,a_,val_ret]at a⊢;by_cases e:n < 0
 ·rw[pY e]at a;cases a
 rw[nU e]at a⊢;by_cases b:ru c < n
 ·rw[pY b]at a;cases a
 rw[nU b]at a⊢;by_cases f:c.Text < n
 ·rw[pY f]at a;cases a
 rw[nU f];rw[g]at b;cases d:n==0 with
 | true=>
  have d:n=0:=by simpa using d
  subst d;exact⟨⟨h,rfl,rfl,rfl,rfl,AA _,by show c.At+0<=c.At;omega⟩,rfl,⟨AA _,by omega⟩,by show c.At=c.At+0;omega⟩
 | false=>
  refine⟨Cb h ah ah ah,rfl,⟨by omega,by omega⟩,?_⟩;show(oW c n).At=_
  rw[(CU h (n:=n) ah ah).1]
theorem yD {c:aC}(h:lm c)(a:(qQ c).2.2.2=0):Ah 1 c (qQ c).2.2.1/\(qQ c).2.2.1.Nodes=c.Nodes:=by
 obtain⟨_,k⟩:=jU h;unfold qQ axG at a⊢;simp only[val_ob,val_lt,a_,val_ret]at a⊢;cases e:(bi c).2.2 !=0 with
 | true=>
  rw[e]at a;have a:(bi c).2.2=0:=a;rw[a]at e;cases e
 | false=>
  rw[e]at a;simp only[og]at a⊢;cases b:(bi c).1.tmod 8==7 with
  | true=>rw[b]at a;cases a
  | false=>
   rw[b]at a;simp only[og]at a⊢;by_cases f:wrp .u64 ((bi c).1.tdiv 8) < 1
   ·rw[pY f]at a;cases a
   ·rw[nU f]at a⊢;by_cases d:65535 < wrp .u64 ((bi c).1.tdiv 8)
    ·rw[pY d]at a;cases a
    ·rw[nU d];exact k (ji.1 e)
theorem akF {c:aC}(h:lm c){b:Int}(a:(y_ c b).2.2=0):Ah 1 c (y_ c b).2.1/\(y_ c b).2.1.Nodes=c.Nodes:=by
 obtain⟨t,k⟩:=jU h;unfold y_ abC at a⊢;simp only[val_ob,val_lt,a_,val_ret,jv]at a⊢;cases e:(bi c).2.2 !=0 with
 | true=>
  rw[e]at a;have a:(bi c).2.2=0:=a;rw[a]at e;cases e
 | false=>
  obtain⟨f,j⟩:=k (ji.1 e);have d:=f.1;have n:=oM d;have l:thenS (bif b==3 then(Sum.inl c.Text:Int⊕(Str×aC×Int))else Sum.inl 65536)=thenS (.inl (bif b==3 then c.Text else 65536)):=by cases b==3<;>rfl
  rw[e]at a;simp only[og]at a⊢;rw[l]at a⊢;simp only[pJ]at a⊢;obtain⟨⟨w,y,m,u⟩,r⟩:=d;obtain⟨z,u2⟩:=t;rw[n,wrp_in (k:= .u64) oC]at a⊢;by_cases i:(bi c).2.1.End - (bi c).2.1.At < (bi c).1
  ·rw[pY i]at a;cases a
  rw[nU i]at a⊢;rw[wrp_in (k:= .i64) oC]at a⊢;by_cases g:(bif b==3 then c.Text else 65536) < (bi c).1
  ·rw[pY g]at a;cases a
  rw[nU g];simp only[og];rw[wrp_in (k:= .i64) oC];obtain⟨_,p,o,v,s,q,x⟩:=f;exact⟨⟨⟨⟨by show 0<=(bi c).2.1.At+(bi c).1;omega,by show(bi c).2.1.At+(bi c).1<=(bi c).2.1.End;omega,m,u⟩,r⟩,p,o,v,s,q,by show c.At+1<=(bi c).2.1.At+(bi c).1;omega⟩,j⟩
def yB (c:aC)(f:Raw):Pg (aC×Int×Raw):=.cut (fun(e:Bool)=> .br e (.ob (lm c) (.lt (bi c) fun d=> .ret (d.2.1,d.2.2,Raw.mk f.Num f.dF d.1 f.Data))) (.br (f.dF==2) (.ob (lm c) (.lt (vK c) fun a=> .ret (a.2.1,a.2.2,Raw.mk f.Num f.dF a.1 f.Data))) (.ob (lm c) (.lt (y_ c f.dF) fun b=> .ret (b.2.1,b.2.2,Raw.mk f.Num f.dF f.Bits b.1))))) (.br (f.dF==0) (rl (f.dF==0)) (rl (f.dF==1)))
def f_ (c:aC)(f:Raw):=(yB c f).val
def abQ:Ent Z:=Ae [yg,aaU,axi] [jS 100006 (aT (fun b=>[s0 24]) (l1 aj))] (aCons (aAgg di) (a1 (fG 0))) (b1 (aF lh)) (shr [.slot 0 true (nn 6), s0 1, .cells 0 (nn 4)] (lCons di (lCons cI (l1 lh)))) [] func313 2 (u11 yB) fun a=>lm a.1.1
theorem aez {c:aC}(h:lm c){n:Int}(a:(oZ c n).2=0):oZ c n=(aC.mk c.Data c.At c.End c.Depth (c.Nodes - n) c.Text,0)/\0<=n/\n<=c.Nodes:=by
 obtain⟨g,f,⟨e,i⟩,j⟩:=h;unfold oZ ad7 at a⊢;simp only[a_,val_ret]at a⊢;by_cases d:n < 0
 ·rw[pY d]at a;cases a
 rw[nU d]at a⊢;by_cases b:c.Nodes < n
 ·rw[pY b]at a;cases a
 rw[nU b];have w:wrp .i64 (c.Nodes - n)=c.Nodes - n:=wrp_in (k:= .i64) oC;rw[w];exact⟨rfl,by omega,by omega⟩
theorem ul {c:aC}(h:lm c){n:Int}(d:(oZ c n).2=0):Ah 0 c (oZ c n).1/\(oZ c n).1.Nodes=c.Nodes - n/\(oZ c n).1.At=c.At/\0<=n/\n<=c.Nodes:=by
 obtain⟨e,a,b⟩:=aez h d;obtain⟨g,f,⟨j,k⟩,i⟩:=h;rw[e];exact⟨⟨⟨g,f,⟨by show 0<=c.Nodes - n;omega,by show c.Nodes - n<=1099511627776;omega⟩,i⟩,rfl,rfl,rfl,rfl,by show c.Nodes - n<=c.Nodes;omega,by show c.At+0<=c.At;omega⟩,rfl,rfl,a,b⟩
theorem DR {c:aC}(h:lm c){f:Raw}(a:(f_ c f).2.1=0):Ah 1 c (f_ c f).1/\(f_ c f).1.Nodes=c.Nodes:=by
 have d:∀K:Bool->aC×Int×Raw,(thenS (bif f.dF==0 then(Sum.inl (f.dF==0):Bool⊕(aC×Int×Raw))else Sum.inl (f.dF==1)) K)=K (bif f.dF==0 then true else f.dF==1):=fun K=>by cases e:f.dF==0<;>rfl
 unfold f_ yB at a⊢;simp only[val_ob,val_lt,a_,val_ret,jv]at a⊢;rw[d]at a⊢;cases e:(bif f.dF==0 then true else f.dF==1)with
 | true=>rw[e]at a;exact(jU h).2 a
 | false=>
  rw[e]at a;cases b:f.dF==2 with
  | true=>rw[b]at a;exact Rj h a
  | false=>rw[b]at a;exact akF h a
def WE (c:aC):Pg (Raw×aC×Int):=.ob (lm c) (.lt (qQ c) fun a=> .br (a.2.2.2 !=0) (.ret (Raw.mk 0 0 0 [],c,a.2.2.2)) (.lt (oZ a.2.2.1 1) fun b=> .br (b.2 !=0) (.ret (Raw.mk 0 0 0 [],c,b.2)) (.ob (lm b.1) (.lt (f_ b.1 (Raw.mk a.1 a.2.1 0 [])) fun d=> .br (d.2.1 !=0) (.ret (Raw.mk 0 0 0 [],c,d.2.1)) (.ret (d.2.2,d.1,0))))))
def sQ (c:aC):=(WE c).val
theorem atP (c:aC)(h:lm c):Is (WE c):=
 az (h) (bg fun g b=>dm iR (fun _=>bg fun i a=>dm iR (fun _=>az (by have k:=(yD h (by rw[<-b];omega)).1.1;rw[<-b]at k;have d:=(ul k (n:=1) (by rw[<-a];omega)).1.1;rw[<-a]at d;exact d) (bg fun f e=>dm iR iR))))
def av9:Ent Z:=E1 [aaY,aeg,abQ] [] (a1 (aAgg di)) (shr [.slot 0 true (nn 4), .slot 1 true (nn 6), s0 2] (lCons lh (lCons di (l1 cI)))) [] func233 3 WE (fun a=>lm a) fun a h=>atP a h
theorem alp {c:aC}(h:lm c)(a:(sQ c).2.2=0):Ah 2 c (sQ c).2.1:=by
 have k:=yD h;unfold sQ WE at a⊢;simp only[val_ob,val_lt,a_,val_ret]at a⊢;generalize qQ c=b at*;cases e:b.2.2.2 !=0 with
 | true=>
  rw[e]at a;have a:b.2.2.2=0:=a;rw[a]at e;cases e
 | false=>
  obtain⟨j,o⟩:=k (ji.1 e);rw[e]at a;simp only[og]at a⊢;have s:=ul j.1 (n:=1);generalize oZ b.2.2.1 1=i at*;cases d:i.2 !=0 with
  | true=>
   rw[d]at a;have a:i.2=0:=a;rw[a]at d;cases d
  | false=>
   obtain⟨l,_⟩:=s (ji.1 d);rw[d]at a;simp only[og]at a⊢;have t:=DR l.1 (f:=Raw.mk b.1 b.2.1 0 []);generalize f_ i.1 (Raw.mk b.1 b.2.1 0 [])=m at*;cases g:m.2.1 !=0 with
   | true=>
    rw[g]at a;have a:m.2.1=0:=a;rw[a]at g;cases g
   | false=>exact jl (iZ j (iZ l (t (ji.1 g)).1)) h_
def aoY (g:aY)(a:Str):Pg Bool:=.ret (g.Name==a)
def ZM (g:aY)(a:Str):=(aoY g a).val
def abu:Ent Z:=vz [] [] (aCons (aAgg fJ) (a1 (fG 0))) (b1 (aF cStr)) (R1 aj) [0] func174 1 (u11 aoY)
def uu:Ent Z:=Me [abu] g_ 174 [0] (b1 (aF cStr)) func173 bH fun x b=>ZM x b
def atX (p:bJ)(a:Str):Pg (Int×Bool):=.lt (eX (fun(x:aY)=>ZM x a) p.aO) fun b=> .ret (max b 0,decide (0<=b))
def xx (p:bJ)(a:Str):=(atX p a).val
def YF:Ent Z:=E0 [uu,abu] [] (aCons (aAgg b_) (a1 (aLf cStr))) (shr [s0 0, s0 1] (lCons cI (l1 aj))) [] func99 2 (u2 atX)
def aFN (o:Op)(a:Int):Pg Bool:=.ret (o.Num==a)
def adr (o:Op)(a:Int):=(aFN o a).val
def agM:Ent Z:=vz [] [] (aCons (aAgg gU) (a1 (fG 0))) (b1 (aF cI)) (R1 aj) [0] func317 1 (u11 aFN)
def Js:Ent Z:=Me [agM] lN 317 [0] (b1 (aF cI)) func422 x9 fun x b=>adr x b
def ain (g:aY)(b:Int):Pg (Op×Bool):=.lt (eX (fun(x:Op)=>adr x b) g.Ops) fun a=> .br (decide (a < 0)) (.ret (Op.mk 0 [] [] 0 0 0 0 0,false)) (.ix a g.Ops.length (.ret (g.Ops.getD a.toNat x9,true)))
def aq6 (g:aY)(a:Int):=(ain g a).val
theorem apB (g:aY)(a:Int):Is (ain g a):=
 bg fun c b=>aQ iR (fun _=>aW ah (by rw[b];exact(lI (fun(x:Op)=>adr x a) g.Ops).1) is_ret)
def ayf:Ent Z:=vz [agM,Js] [] (aCons (aCA 317 [0]) (a1 (aAgg fJ))) (b1 (aF cI)) (shr [.slot 0 true (nn 8), s0 1] (lCons gU (l1 aj))) [0] func318 2 (fun a=>ain a.1.2 a.2) fun a=>apB a.1.2 a.2
def pOp (g:aY)(a:Int):Pg (Op×Bool):=.ret (aq6 g a)
def j_ (g:aY)(a:Int):=(pOp g a).val
def MC:Ent Z:=E0 [agM,ayf] [] (aCons (aAgg fJ) (a1 (aLf cI))) (shr [.slot 0 true (nn 8), s0 1] (lCons gU (l1 aj))) [] func237 2 (u2 pOp)
def azP (b:Item)(a:Int):Pg Bool:=.ret (wrp .u64 b.Num==a)
def aff (b:Item)(a:Int):=(azP b a).val
def Xz:Ent Z:=vz [] [] (aCons (aAgg kE) (a1 (fG 0))) (b1 (aF (cInt .u64))) (R1 aj) [0] func445 1 (u11 azP)
def Gm:Ent Z:=Me [Xz] eG 445 [0] (b1 (aF (cInt .u64))) func299 jF fun x b=>aff x b
def Ih:Ent Z:=EAB [Gm,Xz] eG 445 [0] (b1 (aF (cInt .u64))) func214 fun x b=>aff x b
def aG2 (p:bJ)(a:Int)(b:Int):Pg Bool:=.br (decide (a < 0)) (.ret false) (.br (decide ((↑p.Enums.length:Int)<=a)) (aL p.Enums (.ret false)) (aL p.Enums (.br (decide (2147483647 < b)) (.ret false) (.ix a p.Enums.length (.br (p.Enums.getD a.toNat jg).Open (.ret true) (.ret ((p.Enums.getD a.toNat jg).Items.any fun(x:Item)=>aff x b)))))))
def ahW (p:bJ)(a:Int)(b:Int):=(aG2 p a b).val
def ae1:Ent Z:=E0 [Ih,Xz] [] (aCons (aAgg b_) (aCons (aLf cI) (a1 (aLf (cInt .u64))))) (R1 aj) [] func375 1 (u3 aG2)
def ajR (o:Op):Pg Bool:=.br (o.Card==4) (.br (decide (1<=o.Kind)) (.br (decide (o.Kind<=6)) (.ret true) (.ret (o.Kind==9))) (.ret (o.Kind==9))) (.ret false)
def jE (o:Op):=(ajR o).val
def uj:Ent Z:=E0 [] [] (a1 (aAgg gU)) (R1 aj) [] func308 1 ajR
def azY (o:Op):Pg Int:=.br (o.Card==5) (.ret 6) (.br (jE o) (.ret 5) (.cut (fun(a:Bool)=> .br a (.ret 0) (.cut (fun(b:Bool)=> .br b (.ret 1) (.br (o.Kind==6) (.ret 2) (.br (o.Kind==7) (.br (o.Kind==7) (.ret 3) (.br (o.Kind==10) (.ret 4) (.ret (-1)))) (.br (o.Kind==8) (.ret 3) (.br (o.Kind==10) (.ret 4) (.ret (-1))))))) (.br (o.Kind==2) (rl (o.Kind==2)) (rl (o.Kind==3))))) (.br (o.Kind==1) (rl (o.Kind==1)) (.br (o.Kind==4) (rl (o.Kind==4)) (.br (o.Kind==5) (rl (o.Kind==5)) (rl (o.Kind==9)))))))
def ael (o:Op):=(azY o).val
def aiC:Ent Z:=E0 [uj] [jS 100010 (aT (fun b=>[s0 12]) (l1 aj)),jS 100013 (aT (fun b=>[s0 17]) (l1 aj))] (a1 (aAgg gU)) (R1 cI) [] func414 1 azY
def aAx (o:Op):Pg Int:=.ret (ael (Op.mk o.Num o.Name o.Alias 2 o.Key o.Kind o.Target o.Union))
def Az (o:Op):=(aAx o).val
def Ie:Ent Z:=E0 [aiC] [] (a1 (aAgg gU)) (R1 cI) [] func310 1 aAx
def aoq (v:AVal)(c:Int):Pg (AVal×Bool):=aL v.Slots (.each false m_ v.Slots bn (fun b a (d:Unit)=> .ix b v.Slots.length (.br (a.Num==c) (.ret (.inr (a.Val.re,true))) (rl ()))) (fun b (d:Unit)=> .ret (AVal.mk 0 0 [] [] [] [] [],false)) ())
def dQ (v:AVal)(a:Int):=(aoq v a).val
def GK:Ent Z:=E0 [] [jS 2 (aT (fun b=>[s0 11]) (l1 cI))] (aCons (aAgg ay) (a1 (aLf cI))) (shr [.slot 0 true (nn 7), s0 1] (lCons ay (l1 aj))) [] func175 2 (u2 aoq)
def aev (x:AVal):Pg (List AVal):=.br (x.Kind==11) (.ret x.List) (.br (x.Kind==12) (aL x.Pairs (.each false lF x.Pairs dJ (fun b c (a:List AVal)=> .ix b x.Pairs.length (.ob (bM (a.length+1) 128) (rl (a++[c.Val.re])))) (fun b (a:List AVal)=> .ret a) [])) (.ret [x.re]))
def ayU (x:AVal):=(aev x).val
theorem TL (x:AVal)(h:x.Pairs.length<=1048576):IsP (aev x) (fun r=>∀y∈r,y∈x.List\/(∃p∈x.Pairs,y=p.Val)\/y=x):=
 isP_beq (fun _=>isP_ret qap) (fun _=>isP_beq (fun _=>isP_as <| isP_each (fun(b:Nat) a=>a.length<=b/\∀z∈a,∃p∈x.Pairs,z=p.Val) (by exact⟨lH 0,fun _ hz=>absurd hz oG⟩) ah (fun b a nO c=>have hI:a.length<=b/\∀z∈a,∃p∈x.Pairs,z=p.Val:=c;isP_ix ah ah (isP_ob (qbn) (isP_ret qap))) (fun a hI=>have hI:a.length<=x.Pairs.length/\∀z∈a,∃p∈x.Pairs,z=p.Val:=hI;isP_ret qap)) (fun _=>isP_ret qap))
def auh:Ent Z:=E1 [] [jS 7 (aT (fun b=>[s0 17, .slot 3 false [some 77]]) (lCons cI (l1 fP)))] (a1 (aAgg ay)) (R1 fP) [] func176 1 aev (fun a=>a.Pairs.length<=1048576) fun a h=>(TL a h).1
theorem take_snoc {A:Type}{l:List A}{i:Nat}{d:A}(a:i < l.length):l.take (i+1)=l.take i++[l.getD i d]:=by
 rw[Qbj];congr 1;simp[List.getD,a]
theorem acg {A:Type}{y l:List A}{i:Nat}{d a:A}(h:y.Sublist (l.take i))(b:i < l.length)(e:a=l.getD i d):(y++[a]).Sublist (l.take (i+1)):=by
 rw[take_snoc (d:=d) b,e];exact h.append (List.Sublist.refl _)
theorem acN {A:Type}{y l:List A}{i:Nat}(h:y.Sublist (l.take i)):y.Sublist (l.take (i+1)):=h.trans (Qcq ah)
theorem aps {p:Slot->Bool}{y l:List Slot}{i:Nat}(h:y.Sublist ((l.take i).filter p))(a:i < l.length)(b:p (l.getD i bn)=true):(y++[Slot.mk (l.getD i bn).Num (l.getD i bn).Val.re]).Sublist ((l.take (i+1)).filter p):=by
 rw[AVal.cZ,Slot.eta,take_snoc (d:=bn) a,Qb1,List.filter_cons_of_pos b,List.filter_nil];exact h.append (List.Sublist.refl _)
theorem atp {p:Slot->Bool}{y l:List Slot}{i:Nat}(h:y.Sublist ((l.take i).filter p)):y.Sublist ((l.take (i+1)).filter p):=h.trans ((Qcq ah).filter p)
theorem avN {p:Slot->Bool}{y l:List Slot}{i:Nat}(h:y.Sublist ((l.take i).filter p)):y.length<=l.length:=zW h.length_le (zW (List.length_filter_le _ _) qcn)
def XT (p:bJ)(o:Op)(f:Raw):Pg (AVal×Int):=.br (!fA o.Kind) (.ret (AVal.mk 0 0 [] [] [] [] [],12)) (.br (f.dF !=Az o) (.ret (AVal.mk 0 0 [] [] [] [] [],13)) (.br (f.dF==3) (.br (o.Kind==7) (.ob (List.length f.Data<=9223372036854775700) (.br (!yN f.Data) (.ret (AVal.mk 0 0 [] [] [] [] [],7)) (.ret (AVal.mk o.Kind 0 f.Data [] [] [] [],0)))) (.ret (AVal.mk o.Kind 0 f.Data [] [] [] [],0))) (.cut (fun(a:AVal)=> .br (!QU o.Kind a.re) (.ret (AVal.mk 0 0 [] [] [] [] [],6)) (.lt (lS a.re) fun b=> .br (o.Kind==9) (.br (!ahW p o.Target a.Bits) (.ret (AVal.mk 0 0 [] [] [] [] [],16)) (.ret (b.re,0))) (.ret (b.re,0)))) (.br (f.dF==1) (rl (AVal.mk o.Kind (wrp .u64 (aAV f.Bits)) [] [] [] [] [])) (rl (AVal.mk o.Kind f.Bits [] [] [] [] []))))))
def rZ (p:bJ)(o:Op)(f:Raw):=(XT p o f).val
def U4:Ent Z:=E1 [um,NH,G5,Ie,ae1,DV,aDG] [jS 100012 (aT (fun b=>[.cells (pid (b 8)) (nn 7)]) (l1 ay))] (aCons (aAgg b_) (aCons (aAgg gU) (a1 (aAgg lh)))) (shr [.slot 0 true (nn 7), s0 1] (lCons ay (l1 cI))) [] func418 2 (u3 XT) fun a=>a.2.2.Data.length<=1048576
def aEa (g:aY)(v:AVal)(o:Op)(x:AVal):Pg AVal:=aL v.Slots (.each false lF v.Slots bn (fun e c (b:AVal)=> .ix e v.Slots.length (.br (c.Num==o.Num) (rl b.re) (.lt (b.Slots++[Slot.mk c.Num c.Val.re]) fun(d:List Slot)=> .lt (j_ g c.Num) fun f=> .br f.2 (.br (decide (0<=o.Union)) (.br (f.1.Union==o.Union) (rl b.re) (.ob (bM (b.Slots.length+1) 136) (rl (AVal.mk b.Kind b.Bits b.Text b.List b.Pairs d b.bC)))) (.ob (bM (b.Slots.length+1) 136) (rl (AVal.mk b.Kind b.Bits b.Text b.List b.Pairs d b.bC)))) (.ob (bM (b.Slots.length+1) 136) (rl (AVal.mk b.Kind b.Bits b.Text b.List b.Pairs d b.bC)))))) (fun e (b:AVal)=> .ob (bM (b.Slots.length+1) 136) (.ret (AVal.mk b.Kind b.Bits b.Text b.List b.Pairs (b.Slots++[Slot.mk o.Num x.re]) b.bC))) (AVal.mk (Int.ofNat (nat_lit 10)) (Int.ofNat (nat_lit 0)) [] [] [] [] (match v with | AVal.mk h j i m k l a=>a)))
def uN (g:aY)(v:AVal)(o:Op)(x:AVal):=(aEa g v o x).val
theorem abJ (g:aY)(v:AVal)(o:Op)(x:AVal)(h:v.Slots.length<=1048576):IsP (aEa g v o x) (fun r=>∃l,l.Sublist (v.Slots.filter fun s=> !(s.Num==o.Num))/\r=AVal.mk 10 0 [] [] [] (l++[Slot.mk o.Num x]) v.bC):=
 isP_as <| isP_each (fun(a:Nat) y2=>y2.Slots.Sublist ((v.Slots.take a).filter fun s=> !(s.Num==o.Num))/\y2=AVal.mk 10 0 [] [] [] y2.Slots v.bC) (by exact⟨List.nil_sublist _,rfl⟩) ah (fun a y2 d b=>have hI:y2.Slots.Sublist ((v.Slots.take a).filter fun s=> !(s.Num==o.Num))/\y2=AVal.mk 10 0 [] [] [] y2.Slots v.bC:=b;isP_ix ah ah (isP_beq (fun _=>isP_ret qam) (fun _=>isP_lt fun v4 hv4=>isP_lt fun f c=>isP_br (fun _=>isP_brd (fun _=>isP_beq (fun _=>isP_ret qam) (fun _=>isP_ob (qbm) (isP_ret qam))) (fun _=>isP_ob (qbm) (isP_ret qam))) (fun _=>isP_ob (qbm) (isP_ret qam))))) (fun y2 hI=>have hI:y2.Slots.Sublist ((v.Slots.take v.Slots.length).filter fun s=> !(s.Num==o.Num))/\y2=AVal.mk 10 0 [] [] [] y2.Slots v.bC:=hI;isP_ob (qbm) (isP_ret qam))
def Xl:Ent Z:=E1 [MC] [jS 3 (aT (fun b=>[s0 20, .cells (pid (b 9)) [none,none,none,none,none,some 287,none]]) (lCons cI (l1 ay))),jS 800001 (aT (fun b=>[.cells (pid (b 9)) [none,none,none,none,none,some 287,none]]) (l1 ay))] (aCons (aAgg fJ) (aCons (aAgg ay) (aCons (aAgg gU) (a1 (aAgg ay))))) (shr [.slot 0 true (nn 7)] (l1 ay)) [] func412 1 (u4 aEa) (fun a=>a.2.1.Slots.length<=1048576) fun a h=>(abJ a.1 a.2.1 a.2.2.1 a.2.2.2 h).1
def X8 (v:AVal)(f:Raw):Pg AVal:=aL v.bC (.ob (0<=(↑v.bC.length:Int)/\(↑v.bC.length:Int)=(↑v.bC.length:Int)/\(↑v.bC.length:Int)<=(↑v.bC.length:Int)) (.ob (0 < 1/\bM ((List.take v.bC.length v.bC).length+1) 40) (.ret (AVal.mk v.Kind v.Bits v.Text v.List v.Pairs v.Slots (List.take v.bC.length v.bC++[f])))))
def vN (v:AVal)(f:Raw):=(X8 v f).val
theorem alc (v:AVal)(f:Raw)(h:v.bC.length<=1048576):Is (X8 v f):=
 bW fun _=>az ah (az ((⟨by decide,room_of qb8 qb8⟩)) (is_ret))
def adu:Ent Z:=E1 [] [] (aCons (aAgg ay) (a1 (aAgg lh))) (shr [.slot 0 true (nn 7)] (l1 ay)) [] func234 1 (u2 X8) (fun a=>a.1.bC.length<=1048576) fun a h=>alc a.1 a.2 h
def Oi (l:AVal)(x:AVal):Pg AVal:=aL l.List (.ob (0<=(↑l.List.length:Int)/\(↑l.List.length:Int)=(↑l.List.length:Int)/\(↑l.List.length:Int)<=(↑l.List.length:Int)) (.ob (0 < 1/\bM ((List.take l.List.length l.List).length+1) 128) (.ret (AVal.mk 11 0 [] (List.take l.List.length l.List++[x.re]) [] [] []))))
def oI (l:AVal)(x:AVal):=(Oi l x).val
theorem agr (l:AVal)(x:AVal)(h:l.List.length<=1048576):Is (Oi l x):=
 bW fun _=>az ah (az ((⟨by decide,room_of qb8 qb8⟩)) (is_ret))
def VD:Ent Z:=E1 [] [] (aCons (aAgg ay) (a1 (aAgg ay))) (shr [.slot 0 true (nn 7)] (l1 ay)) [] func416 1 (u2 Oi) (fun a=>a.1.List.length<=1048576) fun a h=>agr a.1 a.2 h
def ag1 (n:Int)(r:ae):Pg (Int×ae):=.lt (oZ r.c n) fun a=> .ret (a.2,ae.mk r.p a.1)
def kX (n:Int)(r:ae):=(ag1 n r).val
def Bf:Ent Z:=vz [aaY] [] (aCons (fG 0) (a1 (aLf cI))) (b1 (aF aK)) (shr [s0 0, .cells 0 (nn 8)] (lCons cI (l1 aK))) [] func170 1 fun a=>ag1 a.1.2 a.2
def ZN (r:ae):Pg (Int×Int×ae):=.ob (lm r.c) (.lt (bi r.c) fun a=> .br (a.2.2 !=0) (.ret (0,a.2.2,r)) (.lt (wrp .u64 (ru a.2.1)) fun b=> .br (decide (b < a.1)) (.ret (0,4,r)) (.ret (wrp .i64 a.1,0,ae.mk r.p a.2.1))))
def iV (r:ae):=(ZN r).val
def Cm:Ent Z:=Ae [wQ,yg] [] (a1 (fG 0)) (b1 (aF aK)) (shr [s0 0, s0 1, .cells 0 (nn 8)] (lCons cI (lCons cI (l1 aK)))) [] func408 2 (fun a=>ZN a.2) fun a=>lm a.2.c
theorem su {r:ae}(h:lm r.c)(a:(iV r).2.1=0):Ah 1 r.c (iV r).2.2.c/\(iV r).2.2.c.Nodes=r.c.Nodes/\(iV r).2.2.p=r.p/\0<=(iV r).1/\(iV r).1<=(iV r).2.2.c.End - (iV r).2.2.c.At:=by
 obtain⟨i,k⟩:=jU h;unfold iV ZN at a⊢;simp only[val_ob,val_lt,a_,val_ret]at a⊢;cases e:(bi r.c).2.2 !=0 with
 | true=>
  rw[e]at a;have a:(bi r.c).2.2=0:=a;rw[a]at e;cases e
 | false=>
  obtain⟨d,f⟩:=k (ji.1 e);have b:=d.1;have g:=oM b;rw[e]at a;simp only[og]at a⊢;obtain⟨⟨m,n,l,o⟩,p⟩:=b;obtain⟨j,u2⟩:=i;rw[g,wrp_in (k:= .u64) oC]at a⊢;by_cases c:(bi r.c).2.1.End - (bi r.c).2.1.At < (bi r.c).1
  ·rw[pY c]at a;cases a
  rw[nU c];rw[wrp_in (k:= .i64) oC];exact⟨d,f,rfl,j,by show(bi r.c).1<=(bi r.c).2.1.End - (bi r.c).2.1.At;omega⟩
def yu (a:Int)(r:ae):Pg (Raw×Int×ae):=.br (a==3) (.ob (lm r.c) (.lt (iV r) fun b=> .br (b.2.1 !=0) (.ret (Raw.mk 0 a 0 [],b.2)) (.ob (lm b.2.2.c) (.lt (wY b.2.2.c b.1) fun e=> .ret (Raw.mk 0 a 0 e.1,e.2.2,ae.mk b.2.2.p e.2.1))))) (.br (a==2) (.ob (lm r.c) (.lt (vK r.c) fun c=> .ret (Raw.mk 0 a c.1 [],c.2.2,ae.mk r.p c.2.1))) (.ob (lm r.c) (.lt (bi r.c) fun d=> .ret (Raw.mk 0 a d.1 [],d.2.2,ae.mk r.p d.2.1))))
def fK (a:Int)(r:ae):=(yu a r).val
theorem Y1 (b:Int)(r:ae)(h:lm r.c):Is (yu b r):=
 bu (fun _=>az (h) (bg fun g a=>dm iR (fun _=>az (by have k:=(su h (by rw[<-a];omega)).1.1;rw[<-a]at k;exact k) (bg fun j c=>is_ret)))) (fun _=>bu (fun _=>az (h) (bg fun f d=>is_ret)) (fun _=>az (h) (bg fun i e=>is_ret)))
def MB:Ent Z:=Ae [yg,Cm,aaU,ayW] [] (aCons (fG 0) (a1 (aLf cI))) (b1 (aF aK)) (shr [.slot 0 true (nn 4), s0 1, .cells 0 (nn 8)] (lCons lh (lCons cI (l1 aK)))) [] func417 2 (fun a=>yu a.1.2 a.2) (fun a=>lm a.2.c) fun a h=>Y1 a.1.2 a.2 h
def auC (n:Int)(r:ae):Pg (aC×ae):=.ret (r.c,ae.mk r.p (aC.mk r.c.Data r.c.At (wrp .i64 (r.c.At+n)) r.c.Depth r.c.Nodes r.c.Text))
def RJ (n:Int)(r:ae):=(auC n r).val
def akm:Ent Z:=vz [] [] (aCons (fG 0) (a1 (aLf cI))) (b1 (aF aK)) (shr [.slot 0 true (nn 6), .cells 0 (nn 8)] (lCons di (l1 aK))) [] func409 1 fun a=>auC a.1.2 a.2
def ahO (a:aC)(r:ae):Pg ae:=.ret (ae.mk r.p (aC.mk a.Data r.c.End a.End a.Depth r.c.Nodes a.Text))
def aaV (a:aC)(r:ae):=(ahO a r).val
def UZ:Ent Z:=vz [] [] (aCons (fG 0) (a1 (aAgg di))) (b1 (aF aK)) (shr [.cells 0 (nn 8)] (l1 aK)) [] func411 0 fun a=>ahO a.1.2 a.2
def clS (l:List Slot):Pg (List Slot):=.unk false (fun(b:Bool)=>b=true->l.length=0) (.ret []) (.ob (bM (0+l.length) 136) (.ret l))
theorem aCa (l:List Slot)(h:l.length<=1048576):Is (clS l):=
 uz (room_of ah ah)
def aHB:Ent Z:=E2 [] [] (a1 (aLf bf)) (shr [.slot 0 false [some 287]] (l1 bf)) [] func314 1 clS (fun a=>some (a.length<=1048576)) (fun a=>a) fun a h=>⟨aCa a h,rfl⟩
def clP (l:List Pair):Pg (List Pair):=.unk false (fun(b:Bool)=>b=true->l.length=0) (.ret []) (.ob (bM (0+l.length) 256) (.ret l))
theorem aBP (l:List Pair)(h:l.length<=1048576):Is (clP l):=
 uz (room_of ah ah)
def aHm:Ent Z:=E2 [] [] (a1 (aLf dC)) (shr [.slot 0 false [some 358]] (l1 dC)) [] func423 1 clP (fun a=>some (a.length<=1048576)) (fun a=>a) fun a h=>⟨aBP a h,rfl⟩
def clR (l:List Raw):Pg (List Raw):=.unk false (fun(b:Bool)=>b=true->l.length=0) (.ret []) (.ob (bM (0+l.length) 40) (.ret l))
theorem aBW (l:List Raw)(h:l.length<=1048576):Is (clR l):=
 uz (room_of ah ah)
def aHN:Ent Z:=E2 [] [] (a1 (aLf aZ)) (shr [.slot 0 false [some 294]] (l1 aZ)) [] func235 1 clR (fun a=>some (a.length<=1048576)) (fun a=>a) fun a h=>⟨aBW a h,rfl⟩
def osC (a:Slot)(b:Slot):Pg Int:=.ret (sF a.Num b.Num)
def aoH (a:Slot)(b:Slot):=(osC a b).val
def S9:Ent Z:=E1 [ry] [] (aCons (aAgg jP) (a1 (aAgg jP))) (R1 cI) [] func316 1 (u2 osC) fun a=>True
def sO (a:Slot):Slot:=Slot.mk a.Num a.Val.re
theorem jo (a:Slot):sO a=a:=by
 unfold sO;rw[AVal.cZ,Slot.eta]
def aG6 (a:Int)(b:Int)(n:Int)(l:List Slot):Pg (List Slot):=O3 sO bn a b n l
theorem avT (a:Int)(b:Int)(n:Int)(l:List Slot)(h:swQ a b n l.length):Is (aG6 a b n l):=
 (JR jo h).1
def ao5:Ent Z:=Ae [S9] [jS 1 (aT (fun b=>[s0 10, .row (pid (b 0)) 287]) (lCons cI (l1 bf)))] (aCons (lV 0) (aCons (aLf cI) (aCons (aLf cI) (aCons (aLf cI) (a1 (ja 316 [])))))) (b1 (jJ 287 D.Slot iD)) (shr [.row 0 287] (l1 bf)) [] func488 0 (fun a=>aG6 a.1.2.1 a.1.2.2.1 a.1.2.2.2.1 a.2) (fun a=>swQ a.1.2.1 a.1.2.2.1 a.1.2.2.2.1 a.2.length) fun a h=>avT a.1.2.1 a.1.2.2.1 a.1.2.2.2.1 a.2 h
def aHh (a:Int)(m:Int)(b:Int)(l:List Slot):Pg (List Slot):=PO sO bn a m b l
theorem avD (a:Int)(m:Int)(b:Int)(l:List Slot)(h:roQ a m b l.length):Is (aHh a m b l):=
 (Jy jo h).1
def aoB:Ent Z:=Ae [S9,ao5] [jS 2 (aT (fun b=>[s0 10, s0 11, .row (pid (b 0)) 287]) (lCons cI (lCons cI (l1 bf))))] (aCons (lV 0) (aCons (aLf cI) (aCons (aLf cI) (aCons (aLf cI) (a1 (ja 316 [])))))) (b1 (jJ 287 D.Slot iD)) (shr [.row 0 287] (l1 bf)) [] func480 0 (fun a=>aHh a.1.2.1 a.1.2.2.1 a.1.2.2.2.1 a.2) (fun a=>roQ a.1.2.1 a.1.2.2.1 a.1.2.2.2.1 a.2.length) fun a h=>avD a.1.2.1 a.1.2.2.1 a.1.2.2.2.1 a.2 h
def aBU (a:Int)(b:Int)(l:List Slot):Pg (List Slot):=Rn sO aoH (fun _ _=>True) bn a b l
def aHx (a:Int)(b:Int)(l:List Slot):=(aBU a b l).val
theorem awi (a:Int)(b:Int)(l:List Slot)(h:inQ (fun _ _=>True) a b l):Is (aBU a b l):=
 (Jo jo h).1
def apH:Ent Z:=rE Z [S9] [jS 1 (aT (fun b=>[s0 8, .row (pid (b 0)) 287]) (lCons cI (l1 bf))),jS 4 (aT (fun b=>[s0 9, .row (pid (b 0)) 287]) (lCons cI (l1 bf)))] (iM (aCons (lV 0) (aCons (aLf cI) (aCons (aLf cI) (a1 (ja 316 []))))) (b1 (jJ 287 D.Slot iD))) (l_ (n:=53) rfl) (shr [.row 0 287] (l1 bf)) [] func462 ntmps462 dE 0 rfl (fun a=>aBU (a.1.2.1) (a.1.2.2.1) (a.2)) (fun a=>some (inQ (fun _ _=>True) (a.1.2.1) (a.1.2.2.1) (a.2))) (fun a e _=>by kernel_rfl) (fun a=>aHx (a.1.2.1) (a.1.2.2.1) (a.2)) (fun a h=>⟨awi (a.1.2.1) (a.1.2.2.1) (a.2) h,rfl⟩)
def aGI (c:Int->Int->Int->List Slot->List Slot)(Lr:Int->Int->Int->List Slot->Prop)(a:Int)(m:Int)(b:Int)(l:List Slot):Pg (List Slot):=Vh sO aoH (fun _ _=>True) bn c Lr a m b l
def Lr (c:Nat)(a:Int)(m:Int)(b:Int)(l:List Slot):Prop:=UH (fun _ _=>True) c a m b l
def am5:Nat->(Int->Int->Int->(List Slot)->(List Slot))
 | 0=>(fun _ _ _ _=>default)
 | c+1=>(fun a m b l=>(aGI ((am5 c)) (Lr c) a m b l).val)
def ai6 (a:Int)(m:Int)(b:Int)(l:List Slot):List Slot:=(am5 ((b - a).toNat+1)) a m b l
theorem Ii:∀(e:Nat) (a m b:Int) (l:List Slot),Lr e a m b l->(am5 e a m b l).Perm l
 | 0,_,_,_,_,h=>DT h
 | e+1,_,_,_,_,h=>(xC jo (c:=aoH) (MK:=am5 e) (UY:=Lr e) (d:=bn) (fun _ _ _ _ h=>h) (Ii e) h).2
abbrev arT (a:Nat):=aGI ((am5 a)) (Lr a)
theorem axw (c:Nat)(a:Int)(m:Int)(b:Int)(l:List Slot)(h:Lr (c+1) a m b l):Is (arT c a m b l):=
 (xC jo (fun _ _ _ _ h=>h) (Ii c) h).1
theorem aqu:∀c,CtOk Z.P Z.S 463 (ctN (iM (aCons (lV 0) (aCons (aLf cI) (aCons (aLf cI) (aCons (aLf cI) (a1 (ja 316 [])))))) (b1 (jJ 287 D.Slot iD))) (shr [.row 0 287] (l1 bf)) 0 [] (fun a=>some (Lr c (a.1.2.1) (a.1.2.2.1) (a.1.2.2.2.1) (a.2))) (fun a=>(am5 c) (a.1.2.1) (a.1.2.2.1) (a.1.2.2.2.1) (a.2)))
 | 0=>dH func463 dE (fun a h=>DT h)
 | c+1=>by
  have d:=aqu c;exact xM [S9,aoB,⟨463,_,d⟩] [jS 3 (aT (fun b=>[s0 10, s0 11]) (lCons cI (l1 cI))),jS 9 (aT (fun b=>[s0 13, .row (pid (b 0)) 287]) (lCons cI (l1 bf))),jS 15 (aT (fun b=>[s0 14, s0 15]) (lCons cI (l1 cI))),jS 21 (aT (fun b=>[s0 17, .row (pid (b 0)) 287]) (lCons cI (l1 bf))),jS 33 (aT (fun b=>[s0 20, s0 21]) (lCons cI (l1 cI))),jS 100008 (aT (fun b=>[s0 10]) (l1 cI)),jS 100012 (aT (fun b=>[.row (pid (b 0)) 287]) (l1 bf)),jS 100020 (aT (fun b=>[s0 14]) (l1 cI)),jS 100024 (aT (fun b=>[.row (pid (b 0)) 287]) (l1 bf)),jS 100032 (aT (fun b=>[s0 20, s0 21]) (lCons cI (l1 cI))),jS 100038 (aT (fun b=>[s0 20]) (l1 cI)),jS 100041 (aT (fun b=>[.row (pid (b 0)) 287]) (l1 bf)),jS 100043 (aT (fun b=>[.row (pid (b 0)) 287]) (l1 bf))] func463 ntmps463 (fun a=>arT c a.1.2.1 a.1.2.2.1 a.1.2.2.2.1 a.2) (fun a h=>⟨axw c a.1.2.1 a.1.2.2.1 a.1.2.2.2.1 a.2 h,rfl⟩) (l_ (n:=220) rfl)
def atf:Ent Z:=⟨463,ctN (iM (aCons (lV 0) (aCons (aLf cI) (aCons (aLf cI) (aCons (aLf cI) (a1 (ja 316 [])))))) (b1 (jJ 287 D.Slot iD))) (shr [.row 0 287] (l1 bf)) 0 [] (fun a=>some (UH (fun _ _=>True) (((a.1.2.2.2.1) - (a.1.2.1)).toNat+1) (a.1.2.1) (a.1.2.2.1) (a.1.2.2.2.1) (a.2))) (fun a=>ai6 (a.1.2.1) (a.1.2.2.1) (a.1.2.2.2.1) (a.2)),ctFam_ok (fun n=>((aqu n))) _ _ (fun a h=>⟨((a.1.2.2.2.1) - (a.1.2.1)).toNat+1,h,rfl⟩)⟩
def aD8 (n:Int)(l:List Slot):Pg (List Slot):=Vj sO aoH (fun _ _=>True) bn ai6 n l
def aGM (n:Int)(l:List Slot):=(aD8 n l).val
theorem awK (n:Int)(l:List Slot)(h:stQ (fun _ _=>True) n l):Is (aD8 n l):=
 (xn jo (MK:=ai6) (fun a m b l h=>Ii _ a m b l h) h).1
def asP:Ent Z:=Ae [S9,apH,atf] [jS 2 (aT (fun b=>[s0 7, s0 8, .row (pid (b 0)) 287]) (lCons cI (lCons cI (l1 bf)))),jS 7 (aT (fun b=>[s0 6, .row (pid (b 0)) 287]) (lCons cI (l1 bf))),jS 9 (aT (fun b=>[s0 7, s0 8, .row (pid (b 0)) 287]) (lCons cI (lCons cI (l1 bf)))),jS 100006 (aT (fun b=>[s0 7, .row (pid (b 0)) 287]) (lCons cI (l1 bf))),jS 100013 (aT (fun b=>[s0 7, .row (pid (b 0)) 287]) (lCons cI (l1 bf)))] (aCons (lV 0) (aCons (aLf cI) (a1 (ja 316 [])))) (b1 (jJ 287 D.Slot iD)) (shr [.row 0 287] (l1 bf)) [] func421 0 (fun a=>aD8 a.1.2.1 a.2) (fun a=>stQ (fun _ _=>True) a.1.2.1 a.2) fun a h=>awK a.1.2.1 a.2 h
def aEz (l:List Slot):Pg (List Slot):=.ob (stQ (fun(x b:Slot)=>True) (↑l.length:Int) l) (.lt (aGM (↑l.length:Int) l) fun a=> aL a (.ret a))
def VF (l:List Slot):=(aEz l).val
theorem axL (l:List Slot)(h:p_ (fun _ _=>True) l):Is (aEz l):=
 az ((⟨h,rfl⟩)) (bg fun b a=>bW fun _=>is_ret)
def aq_:Ent Z:=Ae [S9,asP] [] (aCons (lV 0) (a1 (ja 316 []))) (b1 (jJ 287 D.Slot iD)) (shr [.row 0 287] (l1 bf)) [] func315 0 (fun a=>aEz a.2) (fun a=>p_ (fun _ _=>True) a.2) fun a h=>axL a.2 h
theorem amO {l:List Slot}(h:p_ (fun _ _=>True) l):(VF l).Perm l:=
 (xn jo (c:=aoH) (q:=(fun _ _=>True)) (d:=bn) (MK:=ai6) (fun a m b l h=>Ii _ a m b l h) ⟨h,rfl⟩).2
theorem NZ {l:List Slot}(h:l.length<=1048576):(VF l).Perm l:=amO ⟨by omega,fun _ _ _ _=>trivial⟩
theorem Iy {l v:List Slot}(h:l.length<=1048576)(e:v=VF l):v.length=l.length:=by
 rw[e];exact(NZ h).length_eq
noncomputable def Zp (l:List Slot):Pg (List Slot):=.ob (l.length<=1048576) (.ob (p_ (fun(x g:Slot)=>True) l) (.lt (VF l) fun a=> aL a (.each false lF a bn (fun c e (b:List Slot)=> .ix c a.length (.ob (c.toNat < a.length) (.lt (b++[Slot.mk e.Num e.Val.re]) fun(f:List Slot)=> .lt (wrp .i64 (c+1)) fun d=> .br (d==(↑a.length:Int)) (aL a (.ob (bM (b.length+1) 136) (rl f))) (.ix d a.length (.ob (d.toNat < a.length) (aL a (.br (e.Num !=(a.getD d.toNat bn).Num) (.ob (bM (b.length+1) 136) (rl f)) (rl b)))))))) (fun c (b:List Slot)=> .ret b) [])))
noncomputable def yL (l:List Slot):List Slot:=(Zp l).val
theorem zH (l:List Slot)(h:l.length<=1048576):IsP (Zp l) (fun r=>r.Sublist (VF l)):=
 isP_ob (h) (isP_ob ((⟨by omega,fun _ _ _ _=>trivial⟩)) (isP_lt fun a hv4=>isP_as <| isP_each (fun(c:Nat) b=>b.Sublist (a.take c)/\a.length=l.length) (by exact⟨List.nil_sublist _,Iy h hv4⟩) (by(have:=Iy h hv4;omega)) (fun c b f d=>have hI:b.Sublist (a.take c)/\a.length=l.length:=d;isP_ix ah ah (isP_ob (qa3) (isP_lt fun g hv5=>kT fun i e _=>isP_beq (fun _=>isP_as <| isP_ob (qa3) (isP_ret qa2)) (fun _=>isP_ix ah ah (isP_ob (qa3) (isP_as <| isP_bne (fun _=>isP_ob (qa3) (isP_ret qa2)) (fun _=>isP_ret qa2))))))) (fun b hI=>have hI:b.Sublist (a.take a.length)/\a.length=l.length:=hI;isP_ret qa2)))
theorem amS (l:List Slot)(h:l.length<=1048576):Is (Zp l):=(zH l h).1
noncomputable def aox:Ent Z:=E1 [aHB,aq_,S9] [jS 5 (aT (fun b=>[s0 13, .slot 4 false [some 287]]) (lCons cI (l1 bf)))] (a1 (aLf bf)) (R1 bf) [] func236 1 Zp (fun a=>a.length<=1048576) fun a h=>amS a h
def aoR (x:Str):Pg Bool:=.ret (x !=x)
def Zm (x:Str):=(aoR x).val
def aoa:Ent Z:=E0 [] [] (a1 (aLf cStr)) (R1 aj) [] func450 1 aoR
def aBF (x:Str)(y:Str):Pg Int:=.lt (Zm y) fun a=> .br (Zm x) (.br a (.ret 0) (.ret (-1))) (.br a (.ret 1) (.br (Op.bytesLess x y) (.ret (-1)) (.br (!(Op.bytesLess x y || x==y)) (.ret 1) (.ret 0))))
def ahw (x:Str)(y:Str):=(aBF x y).val
def asY:Ent Z:=E0 [aoa] [] (aCons (aLf cStr) (a1 (aLf cStr))) (R1 cI) [] func384 1 (u2 aBF)
def apc (x:Int):Pg Bool:=.ret (x !=x)
def aae (x:Int):=(apc x).val
def an8:Ent Z:=E0 [] [] (a1 (aLf (cInt .u64))) (R1 aj) [] func451 1 apc
def aBV (x:Int)(y:Int):Pg Int:=.lt (aae y) fun a=> .br (aae x) (.br a (.ret 0) (.ret (-1))) (.br a (.ret 1) (.br (decide (x < y)) (.ret (-1)) (.br (decide (y < x)) (.ret 1) (.ret 0))))
def adA (x:Int)(y:Int):=(aBV x y).val
def aup:Ent Z:=E0 [an8] [] (aCons (aLf (cInt .u64)) (a1 (aLf (cInt .u64)))) (R1 cI) [] func385 1 (u2 aBV)
def as9 (b:Int):Pg Int:=.br (aiF b==0) (.ret 18446744073709551615) (.br (qE .u64 b (9223372036854775808:Int) !=0) (.ret (I7 .u64 (if IntKind.u64.signed=true then(-1)else IntKind.u64.max) b)) (.ret (orI .u64 b 9223372036854775808)))
def ajm (b:Int):=(as9 b).val
def auw:Ent Z:=E0 [aat] [] (a1 (aLf (cInt .u64))) (R1 (cInt .u64)) [] func386 1 as9
def aCM (a:AVal)(b:AVal):Pg Int:=.br (a.Kind !=b.Kind) (.ret (sF a.Kind b.Kind)) (.br (!fA a.Kind) (.ret 0) (.br (ajv a.Kind) (.ret (ahw a.Text b.Text)) (.lt (sF (wrp .i64 a.Bits) (wrp .i64 b.Bits)) fun c=> .br (a.Kind==2) (.ret c) (.br (a.Kind==3) (.ret c) (.br (a.Kind==6) (.ret (adA (ajm a.Bits) (ajm b.Bits))) (.ret (adA a.Bits b.Bits)))))))
def ahQ (a:AVal)(b:AVal):=(aCM a b).val
def IY:Ent Z:=E0 [ry,DV,acP,asY,aup,auw] [] (aCons (aAgg ay) (a1 (aAgg ay))) (R1 cI) [] func266 1 (u2 aCM)
def ajz:Ent Z:=xQ Z [DV] 265 [true] func265 dE
def aDw (a:AVal)(b:AVal):Pg Int:=.br (a.Kind !=b.Kind) (.ret (sF a.Kind b.Kind)) (.ob (fA b.Kind=true/\True) (.ob (fA a.Kind=true/\True) (.ret (ahQ a.re b.re))))
def aAy (a:AVal)(b:AVal):=(aDw a b).val
theorem ayk (a:AVal)(b:AVal)(h:fA a.Kind=true/\fA b.Kind=true):Is (aDw a b):=
 dm iR (fun _=>az ((⟨h.2,trivial⟩)) (az ((⟨h.1,trivial⟩)) (is_ret)))
def aos:Ent Z:=E1 [ry,ajz,IY] [] (aCons (aAgg ay) (a1 (aAgg ay))) (R1 cI) [] func189 1 (u2 aDw) (fun a=>fA a.1.Kind=true/\fA a.2.Kind=true) fun a h=>ayk a.1 a.2 h
def opQ (a b:Pair):Prop:=fA a.Key.Kind=true/\fA b.Key.Kind=true
def opC (a:Pair)(b:Pair):Pg Int:=.ob (fA a.Key.re.Kind=true/\fA b.Key.re.Kind=true) (.ret (aAy a.Key.re b.Key.re))
def anN (a:Pair)(b:Pair):=(opC a b).val
def P_:Ent Z:=E1 [aos] [] (aCons (aAgg oV) (a1 (aAgg oV))) (R1 cI) [] func425 1 (u2 opC) fun a=>opQ a.1 a.2
def Eo (a:Pair):Pair:=Pair.mk a.Key.re a.Val.re
theorem qZ (a:Pair):Eo a=a:=by
 unfold Eo;rw[AVal.cZ,AVal.cZ,Pair.eta]
def aGy (a:Int)(b:Int)(n:Int)(l:List Pair):Pg (List Pair):=O3 Eo dJ a b n l
theorem axZ (a:Int)(b:Int)(n:Int)(l:List Pair)(h:swQ a b n l.length):Is (aGy a b n l):=
 (JR qZ h).1
def aDu:Ent Z:=Ae [P_] [jS 1 (aT (fun b=>[s0 10, .row (pid (b 0)) 358]) (lCons cI (l1 dC)))] (aCons (lV 0) (aCons (aLf cI) (aCons (aLf cI) (aCons (aLf cI) (a1 (ja 425 [])))))) (b1 (jJ 358 D.Pair mP)) (shr [.row 0 358] (l1 dC)) [] func490 0 (fun a=>aGy a.1.2.1 a.1.2.2.1 a.1.2.2.2.1 a.2) (fun a=>swQ a.1.2.1 a.1.2.2.1 a.1.2.2.2.1 a.2.length) fun a h=>axZ a.1.2.1 a.1.2.2.1 a.1.2.2.2.1 a.2 h
def aGZ (a:Int)(m:Int)(b:Int)(l:List Pair):Pg (List Pair):=PO Eo dJ a m b l
theorem axN (a:Int)(m:Int)(b:Int)(l:List Pair)(h:roQ a m b l.length):Is (aGZ a m b l):=
 (Jy qZ h).1
def aCw:Ent Z:=Ae [P_,aDu] [jS 2 (aT (fun b=>[s0 10, s0 11, .row (pid (b 0)) 358]) (lCons cI (lCons cI (l1 dC))))] (aCons (lV 0) (aCons (aLf cI) (aCons (aLf cI) (aCons (aLf cI) (a1 (ja 425 [])))))) (b1 (jJ 358 D.Pair mP)) (shr [.row 0 358] (l1 dC)) [] func489 0 (fun a=>aGZ a.1.2.1 a.1.2.2.1 a.1.2.2.2.1 a.2) (fun a=>roQ a.1.2.1 a.1.2.2.1 a.1.2.2.2.1 a.2.length) fun a h=>axN a.1.2.1 a.1.2.2.1 a.1.2.2.2.1 a.2 h
def aBN (a:Int)(b:Int)(l:List Pair):Pg (List Pair):=Rn Eo anN opQ dJ a b l
def aGS (a:Int)(b:Int)(l:List Pair):=(aBN a b l).val
theorem awc (a:Int)(b:Int)(l:List Pair)(h:inQ opQ a b l):Is (aBN a b l):=
 (Jo qZ h).1
def aDR:Ent Z:=rE Z [P_] [jS 1 (aT (fun b=>[s0 8, .row (pid (b 0)) 358]) (lCons cI (l1 dC))),jS 4 (aT (fun b=>[s0 9, .row (pid (b 0)) 358]) (lCons cI (l1 dC)))] (iM (aCons (lV 0) (aCons (aLf cI) (aCons (aLf cI) (a1 (ja 425 []))))) (b1 (jJ 358 D.Pair mP))) (l_ (n:=53) rfl) (shr [.row 0 358] (l1 dC)) [] func481 ntmps481 dE 0 rfl (fun a=>aBN (a.1.2.1) (a.1.2.2.1) (a.2)) (fun a=>some (inQ opQ (a.1.2.1) (a.1.2.2.1) (a.2))) (fun a e _=>by kernel_rfl) (fun a=>aGS (a.1.2.1) (a.1.2.2.1) (a.2)) (fun a h=>⟨awc (a.1.2.1) (a.1.2.2.1) (a.2) h,rfl⟩)
def aHv (c:Int->Int->Int->List Pair->List Pair)(La:Int->Int->Int->List Pair->Prop)(a:Int)(m:Int)(b:Int)(l:List Pair):Pg (List Pair):=Vh Eo anN opQ dJ c La a m b l
def La (c:Nat)(a:Int)(m:Int)(b:Int)(l:List Pair):Prop:=UH opQ c a m b l
def amH:Nat->(Int->Int->Int->(List Pair)->(List Pair))
 | 0=>(fun _ _ _ _=>default)
 | c+1=>(fun a m b l=>(aHv ((amH c)) (La c) a m b l).val)
def ajA (a:Int)(m:Int)(b:Int)(l:List Pair):List Pair:=(amH ((b - a).toNat+1)) a m b l
theorem GN:∀(e:Nat) (a m b:Int) (l:List Pair),La e a m b l->(amH e a m b l).Perm l
 | 0,_,_,_,_,h=>DT h
 | e+1,_,_,_,_,h=>(xC qZ (c:=anN) (MK:=amH e) (UY:=La e) (d:=dJ) (fun _ _ _ _ h=>h) (GN e) h).2
abbrev arD (a:Nat):=aHv ((amH a)) (La a)
theorem awJ (c:Nat)(a:Int)(m:Int)(b:Int)(l:List Pair)(h:La (c+1) a m b l):Is (arD c a m b l):=
 (xC qZ (fun _ _ _ _ h=>h) (GN c) h).1
theorem asQ:∀c,CtOk Z.P Z.S 482 (ctN (iM (aCons (lV 0) (aCons (aLf cI) (aCons (aLf cI) (aCons (aLf cI) (a1 (ja 425 [])))))) (b1 (jJ 358 D.Pair mP))) (shr [.row 0 358] (l1 dC)) 0 [] (fun a=>some (La c (a.1.2.1) (a.1.2.2.1) (a.1.2.2.2.1) (a.2))) (fun a=>(amH c) (a.1.2.1) (a.1.2.2.1) (a.1.2.2.2.1) (a.2)))
 | 0=>dH func482 dE (fun a h=>DT h)
 | c+1=>by
  have d:=asQ c;exact xM [P_,aCw,⟨482,_,d⟩] [jS 3 (aT (fun b=>[s0 10, s0 11]) (lCons cI (l1 cI))),jS 9 (aT (fun b=>[s0 13, .row (pid (b 0)) 358]) (lCons cI (l1 dC))),jS 15 (aT (fun b=>[s0 14, s0 15]) (lCons cI (l1 cI))),jS 21 (aT (fun b=>[s0 17, .row (pid (b 0)) 358]) (lCons cI (l1 dC))),jS 33 (aT (fun b=>[s0 20, s0 21]) (lCons cI (l1 cI))),jS 100008 (aT (fun b=>[s0 10]) (l1 cI)),jS 100012 (aT (fun b=>[.row (pid (b 0)) 358]) (l1 dC)),jS 100020 (aT (fun b=>[s0 14]) (l1 cI)),jS 100024 (aT (fun b=>[.row (pid (b 0)) 358]) (l1 dC)),jS 100032 (aT (fun b=>[s0 20, s0 21]) (lCons cI (l1 cI))),jS 100038 (aT (fun b=>[s0 20]) (l1 cI)),jS 100041 (aT (fun b=>[.row (pid (b 0)) 358]) (l1 dC)),jS 100043 (aT (fun b=>[.row (pid (b 0)) 358]) (l1 dC))] func482 ntmps482 (fun a=>arD c a.1.2.1 a.1.2.2.1 a.1.2.2.2.1 a.2) (fun a h=>⟨awJ c a.1.2.1 a.1.2.2.1 a.1.2.2.2.1 a.2 h,rfl⟩) (l_ (n:=220) rfl)
def aCB:Ent Z:=⟨482,ctN (iM (aCons (lV 0) (aCons (aLf cI) (aCons (aLf cI) (aCons (aLf cI) (a1 (ja 425 [])))))) (b1 (jJ 358 D.Pair mP))) (shr [.row 0 358] (l1 dC)) 0 [] (fun a=>some (UH opQ (((a.1.2.2.2.1) - (a.1.2.1)).toNat+1) (a.1.2.1) (a.1.2.2.1) (a.1.2.2.2.1) (a.2))) (fun a=>ajA (a.1.2.1) (a.1.2.2.1) (a.1.2.2.2.1) (a.2)),ctFam_ok (fun n=>((asQ n))) _ _ (fun a h=>⟨((a.1.2.2.2.1) - (a.1.2.1)).toNat+1,h,rfl⟩)⟩
def aBi (n:Int)(l:List Pair):Pg (List Pair):=Vj Eo anN opQ dJ ajA n l
def aHU (n:Int)(l:List Pair):=(aBi n l).val
theorem ayc (n:Int)(l:List Pair)(h:stQ opQ n l):Is (aBi n l):=
 (xn qZ (MK:=ajA) (fun a m b l h=>GN _ a m b l h) h).1
def aEn:Ent Z:=Ae [P_,aDR,aCB] [jS 2 (aT (fun b=>[s0 7, s0 8, .row (pid (b 0)) 358]) (lCons cI (lCons cI (l1 dC)))),jS 7 (aT (fun b=>[s0 6, .row (pid (b 0)) 358]) (lCons cI (l1 dC))),jS 9 (aT (fun b=>[s0 7, s0 8, .row (pid (b 0)) 358]) (lCons cI (lCons cI (l1 dC)))),jS 100006 (aT (fun b=>[s0 7, .row (pid (b 0)) 358]) (lCons cI (l1 dC))),jS 100013 (aT (fun b=>[s0 7, .row (pid (b 0)) 358]) (lCons cI (l1 dC)))] (aCons (lV 0) (aCons (aLf cI) (a1 (ja 425 [])))) (b1 (jJ 358 D.Pair mP)) (shr [.row 0 358] (l1 dC)) [] func464 0 (fun a=>aBi a.1.2.1 a.2) (fun a=>stQ opQ a.1.2.1 a.2) fun a h=>ayc a.1.2.1 a.2 h
def aCZ (l:List Pair):Pg (List Pair):=.ob (stQ opQ (↑l.length:Int) l) (.lt (aHU (↑l.length:Int) l) fun a=> aL a (.ret a))
def WX (l:List Pair):=(aCZ l).val
theorem aw6 (l:List Pair)(h:p_ opQ l):Is (aCZ l):=
 az ((⟨h,rfl⟩)) (bg fun b a=>bW fun _=>is_ret)
def aBd:Ent Z:=Ae [P_,aEn] [] (aCons (lV 0) (a1 (ja 425 []))) (b1 (jJ 358 D.Pair mP)) (shr [.row 0 358] (l1 dC)) [] func424 0 (fun a=>aCZ a.2) (fun a=>p_ opQ a.2) fun a h=>aw6 a.2 h
theorem yh {l:List Pair}(h:p_ opQ l):(WX l).Perm l:=
 (xn qZ (c:=anN) (q:=opQ) (d:=dJ) (MK:=ajA) (fun a m b l h=>GN _ a m b l h) ⟨h,rfl⟩).2
def apb (a:AVal)(b:AVal):Pg Bool:=.ob (fA a.re.Kind=true/\fA b.re.Kind=true) (.ret (aAy a.re b.re==0))
def aio (a:AVal)(b:AVal):=(apb a b).val
def aaF:Ent Z:=E1 [aos] [] (aCons (aAgg ay) (a1 (aAgg ay))) (R1 aj) [] func118 1 (u2 apb) fun a=>fA a.1.Kind=true/\fA a.2.Kind=true
def mf (l:List Pair):Prop:=l.length<=1048576/\∀x∈l,fA x.Key.Kind=true
theorem lY {l:List Pair}(h:mf l):p_ opQ l:=⟨by have:=h.1;omega,fun x b y a=>⟨h.2 x b,h.2 y a⟩⟩
theorem aqi {l v:List Pair}(h:mf l)(e:v=WX l):mf v:=by
 have k:=yh (lY h);rw[e];exact⟨by rw[k.length_eq];exact h.1,fun x a=>h.2 x (k.mem_iff.1 a)⟩
theorem Xa {v:List Pair}(h:mf v){i:Nat}(a:i < v.length):fA (v.getD i dJ).Key.Kind=true:=h.2 _ (getD_mem a)
theorem GL {l v:List Pair}(h:p_ opQ l)(e:v=WX l):v.length=l.length:=by
 rw[e];exact(yh h).length_eq
def aeJ (l:List Pair):Pg (List Pair):=.ob (l.length<=1048576) (.ob (p_ opQ l) (.lt (WX l) fun a=> aL a (.each false lF a dJ (fun e d (b:List Pair)=> .ix e a.length (.ob (e.toNat < a.length) (.lt (b++[Pair.mk d.Key.re d.Val.re]) fun(f:List Pair)=> .lt (wrp .i64 (e+1)) fun c=> .br (c==(↑a.length:Int)) (aL a (.ob (bM (b.length+1) 256) (rl f))) (.ix c a.length (.ob (c.toNat < a.length) (.ob (fA d.Key.re.Kind=true/\fA (a.getD c.toNat dJ).Key.re.Kind=true) (aL a (.br (!aio d.Key.re (a.getD c.toNat dJ).Key.re) (.ob (bM (b.length+1) 256) (rl f)) (rl b))))))))) (fun e (b:List Pair)=> .ret b) [])))
def lX (l:List Pair):=(aeJ l).val
theorem yQ (l:List Pair)(h:mf l):IsP (aeJ l) (fun r=>r.Sublist (WX l)):=
 isP_ob (h.1) (isP_ob ((lY h)) (isP_lt fun a hv4=>isP_as <| isP_each (fun(c:Nat) b=>b.Sublist (a.take c)/\a.length=l.length/\l.length<=1048576) (by exact⟨List.nil_sublist _,GL (lY h) hv4,h.1⟩) (by(have:=GL (lY h) hv4;have:=h.1;omega)) (fun c b f d=>have hI:b.Sublist (a.take c)/\a.length=l.length/\l.length<=1048576:=d;isP_ix ah ah (isP_ob (qau) (isP_lt fun g hv5=>kT fun i e _=>isP_beq (fun _=>isP_as <| isP_ob (qau) (isP_ret qaz)) (fun _=>isP_ix ah ah (isP_ob (qau) (isP_ob (qau) (isP_as <| isP_br (fun _=>isP_ob (qau) (isP_ret qaz)) (fun _=>isP_ret qaz)))))))) (fun b hI=>have hI:b.Sublist (a.take a.length)/\a.length=l.length/\l.length<=1048576:=hI;isP_ret qaz)))
def Tm:Ent Z:=E1 [aaF,aHm,aBd,P_] [jS 5 (aT (fun b=>[s0 13, .slot 4 false [some 358]]) (lCons cI (l1 dC)))] (a1 (aLf dC)) (R1 dC) [] func320 1 aeJ (fun a=>mf a) fun a h=>(yQ a h).1
def aj7 (v:AVal):Pg Bool:=.br (fA v.Kind) (.br (aq5 v.re) (.br (v.Bits==0) (.ret (v.Text==[])) (.ret false)) (.ret false)) (.ret false)
def anI (v:AVal):=(aj7 v).val
def am9:Ent Z:=E0 [DV,ah0] [] (a1 (aAgg ay)) (R1 aj) [] func321 1 aj7
def asR (v:AVal):Pg Bool:=.lt (anI v.re) fun a=> .br (v.Kind==11) (.br ((↑v.List.length:Int)==0) (.ret true) (.br (v.Kind==12) (.br ((↑v.Pairs.length:Int)==0) (.ret true) (.ret a)) (.ret a))) (.br (v.Kind==12) (.br ((↑v.Pairs.length:Int)==0) (.ret true) (.ret a)) (.ret a))
def avF (v:AVal):=(asR v).val
def anF:Ent Z:=E0 [am9] [] (a1 (aAgg ay)) (R1 aj) [] func239 1 asR
theorem aeP (n:Int):isU64 (IntKind.wrap .u64 n):=by
 have e:IntKind.wrap .u64 n=n % 18446744073709551616:=by
  unfold IntKind.wrap;rfl
 rw[e];exact⟨by omega,by omega⟩
theorem LQ (n:Int):isU64 (wrp .u64 n):=aeP n
theorem u0:isU64 0:=⟨by decide,by decide⟩
def aBz (n:Int):Pg Int:=.ob ((0:Int)<=1) (.ob ((0:Int)<=63) (.ret (I7 .u64 (UN .u64 (wrp .u64 n) 1) (wrp .u64 (qM .i64 n 63)))))
def aov (n:Int):=(aBz n).val
def aCc:Ent Z:=E0 [] [] (a1 (aLf cI)) (R1 (cInt .u64)) [] func476 1 aBz
def ayD (u:Int):Pg (List UInt8):=.ob ((8:Int)=8/\(0:Int)<=8/\8*(1:Int)<=281474976710656/\(8:Int)<=1099511627776) (.as ((ae8 8 0).length<=9223372036854775807) (.cnt lF 0 (↑(ae8 8 0).length:Int) (fun b (a:List Int)=> .lt (wrp .i64 (8*b)) fun c=> .ob (0<=c) (.ix b a.length (.ob (b.toNat < a.length) (rl (a.set b.toNat (wrp .u8 (qM .u64 u c))))))) (fun b (a:List Int)=> .ob (zy (fun(i:Nat)=>true) a.length=true) (.ret (txU a))) (ae8 8 0)))
def aAp (u:Int):=(ayD u).val
theorem RY (u:Int):IsP (ayD u) (fun r=>r.length=8):=
 have d:(ae8 8 0).length=8:=rfl;isP_ob (qby) (isP_as <| isP_cnt (fun(b:Int) a=>a.length=8) (by exact d) ah ah (fun b a h e c=>have hI:a.length=8:=c;kT fun i g _=>isP_ob (qby) (isP_ix ah ah (isP_ob (qby) (isP_ret qbr)))) (fun b a _ f hI=>have hI:a.length=8:=hI;isP_ob (qby) (isP_ret qbr)))
theorem ayz (u:Int):Is (ayD u):=(RY u).1
def agQ:Ent Z:=E0 [] [jS 3 (aT (fun b=>[s0 8, .row (pid (b 3)) 5]) (lCons cI (l1 uG)))] (a1 (aLf (cInt .u64))) (R1 cStr) [] func260 1 ayD fun a=>ayz a
def aD5 (a:Int):Pg Bool:=.br (a==0) (.ret true) (.br (a==1) (.ret true) (.ret (a==2)))
def ai0 (a:Int):=(aD5 a).val
def afT:Ent Z:=E0 [] [] (a1 (aLf cI)) (R1 aj) [] func261 1 aD5
def aa4 (b:Int)(a:Int):Pg (List UInt8×Int):=.br (decide (b < 1)) (.ret ([],6)) (.br (decide (65535 < b)) (.ret ([],6)) (.br (decide (a < 0)) (.ret ([],6)) (.br (decide (6 < a)) (.ret ([],6)) (.lt (wrp .u64 (wrp .i64 (wrp .i64 (b*8)+a))) fun c=> .ob (isU64 c) (.ret (vputP c,0))))))
def zB (b:Int)(a:Int):=(aa4 b a).val
theorem aot (b:Int)(a:Int):Is (aa4 b a):=
 aQ iR (fun _=>aQ iR (fun _=>aQ iR (fun _=>aQ iR (fun _=>bg fun d c=>az (by rw[c];exact LQ _) (is_ret)))))
def YC:Ent Z:=E0 [A_] [] (aCons (aLf cI) (a1 (aLf cI))) (shr [s0 0, s0 1] (lCons cStr (l1 cI))) [] func259 2 (u2 aa4) fun a=>aot a.1 a.2
def XO (f:Raw):Pg Bool:=.br ((zB f.Num f.dF).2 !=0) (.ret false) (.br (ai0 f.dF) (.ret (f.Data==[])) (.ret (f.Bits==0)))
def H9 (f:Raw):=(XO f).val
def aby:Ent Z:=E0 [YC,afT] [] (a1 (aAgg lh)) (R1 aj) [] func258 1 XO
def UK:List Raw->Nat
 | []=>0
 | x::l=>1+x.Data.length+UK l
mutual
def tV:AVal->Nat
 | .mk _ _ t l p s r=>1+t.length+tVs l+tPs p+tSs s+UK r
def tVs:List AVal->Nat
 | []=>0
 | x::l=>1+tV x+tVs l
def tP:Pair->Nat
 | .mk k v=>1+tV k+tV v
def tPs:List Pair->Nat
 | []=>0
 | x::l=>tP x+tPs l
def tS:Slot->Nat
 | .mk _ v=>1+tV v
def tSs:List Slot->Nat
 | []=>0
 | x::l=>tS x+tSs l
end
def IM (x:Raw):Prop:=isU64 x.Bits/\H9 x=true
def kRs:List Raw->Prop
 | []=>True
 | x::l=>IM x/\kRs l
mutual
def kV:AVal->Prop
 | .mk _ b _ l p s r=>(isU64 b/\kRs r)/\kVs l/\kPs p/\kSs s
def kVs:List AVal->Prop
 | []=>True
 | x::l=>kV x/\kVs l
def kP:Pair->Prop
 | .mk k v=>(fA k.Kind=true/\kV k)/\kV v
def kPs:List Pair->Prop
 | []=>True
 | x::l=>kP x/\kPs l
def kS:Slot->Prop
 | .mk _ v=>kV v
def kSs:List Slot->Prop
 | []=>True
 | x::l=>kS x/\kSs l
end
theorem gQ (v:AVal):tV v=1+v.Text.length+tVs v.List+tPs v.Pairs+tSs v.Slots+UK v.bC:=by cases v;simp[tV,AVal.Text,AVal.List,AVal.Pairs,AVal.Slots,AVal.bC]
theorem Wq (x:Pair):tP x=1+tV x.Key+tV x.Val:=by cases x;simp[tP,Pair.Key,Pair.Val]
theorem yc (x:Slot):tS x=1+tV x.Val:=by cases x;simp[tS,Slot.Val]
theorem jH (v:AVal):1<=tV v:=by rw[gQ];omega
def smL {A:Type}(f:A->Nat):List A->Nat
 | []=>0
 | x::l=>f x+smL f l
section
variable {A:Type}{f:A->Nat}
theorem ni (l m:List A):smL f (l++m)=smL f l+smL f m:=by
 induction l with
 | nil=>simp[smL]
 | cons a l b=>simp only[Qbo,smL,b];omega
theorem C_ {l:List A}{x:A}(h:x∈l):f x<=smL f l:=by
 induction l with
 | nil=>cases h
 | cons a l b=>
  simp only[smL];rcases IP.1 h with e | e
  ·subst e;omega
  ·have:=b e;omega
theorem ww {l:List A}(h:∀x,1<=f x):l.length<=smL f l:=by
 induction l with
 | nil=>simp
 | cons a l b=>have:=h a;simp only[smL,uU];omega
theorem rJ {l m:List A}(h:l.Sublist m):smL f l<=smL f m:=by
 induction h with
 | slnil=>exact lH _
 | cons a _ b=>simp only[smL];omega
 | cons_cons a _ b=>simp only[smL];omega
theorem Aj {l m:List A}(h:l.Perm m):smL f l=smL f m:=by
 induction h with
 | nil=>rfl
 | cons a _ c=>simp only[smL,c]
 | swap a b l=>simp only[smL];omega
 | trans _ _ d e=>exact d.trans e
theorem oJ {l:List A}{i:Nat}{d:A}(a:i < l.length):smL f (l.take (i+1))=smL f (l.take i)+f (l.getD i d):=by
 rw[take_snoc (d:=d) a,ni];simp[smL]
end
theorem xq (l:List AVal):tVs l=smL (fun x=>1+tV x) l:=by
 induction l with
 | nil=>rfl
 | cons a l b=>simp only[tVs,smL,b]
theorem xu (l:List Pair):tPs l=smL tP l:=by
 induction l with
 | nil=>rfl
 | cons a l b=>simp only[tPs,smL,b]
theorem xg (l:List Slot):tSs l=smL tS l:=by
 induction l with
 | nil=>rfl
 | cons a l b=>simp only[tSs,smL,b]
theorem Aq (l:List Raw):UK l=smL (fun x=>1+x.Data.length) l:=by
 induction l with
 | nil=>rfl
 | cons a l b=>simp only[UK,smL,b]
theorem aiY {l:List AVal}{x:AVal}(h:x∈l):1+tV x<=tVs l:=by rw[xq];exact C_ (f:=fun x=>1+tV x) h
theorem ajU {l:List Pair}{x:Pair}(h:x∈l):1+tV x.Key+tV x.Val<=tPs l:=by rw[xu,<-Wq];exact C_ h
theorem ZE {l:List Slot}{x:Slot}(h:x∈l):1+tV x.Val<=tSs l:=by rw[xg,<-yc];exact C_ h
theorem FB (l:List AVal):l.length<=tVs l:=by rw[xq];exact ww fun x=>by omega
theorem FT (l:List Pair):l.length<=tPs l:=by rw[xu];exact ww fun x=>by rw[Wq];omega
theorem NL (l:List Slot):l.length<=tSs l:=by rw[xg];exact ww fun x=>by rw[yc];omega
theorem Fv (l:List Raw):l.length<=UK l:=by rw[Aq];exact ww fun x=>by omega
theorem ayG (l:List AVal):kVs l ↔ ∀x∈l,kV x:=by
 induction l with
 | nil=>simp[kVs]
 | cons a l b=>simp[kVs,b]
theorem ajE (l:List Raw):kRs l ↔ ∀x∈l,IM x:=by
 induction l with
 | nil=>simp[kRs]
 | cons a l b=>simp[kRs,b]
theorem aC7 (x:Pair):kP x ↔ (fA x.Key.Kind=true/\kV x.Key)/\kV x.Val:=by cases x;simp[kP,Pair.Key,Pair.Val]
theorem axa (l:List Pair):kPs l ↔ ∀x∈l,(fA x.Key.Kind=true/\kV x.Key)/\kV x.Val:=by
 induction l with
 | nil=>simp[kPs]
 | cons a l b=>simp[kPs,b,aC7]
theorem aDd (x:Slot):kS x ↔ kV x.Val:=by cases x;simp[kS,Slot.Val]
theorem axe (l:List Slot):kSs l ↔ ∀x∈l,kV x.Val:=by
 induction l with
 | nil=>simp[kSs]
 | cons a l b=>simp[kSs,b,aDd]
theorem gW (v:AVal):kV v ↔ (isU64 v.Bits/\∀r∈v.bC,IM r)/\(∀x∈v.List,kV x)/\(∀x∈v.Pairs,(fA x.Key.Kind=true/\kV x.Key)/\kV x.Val)/\∀x∈v.Slots,kV x.Val:=by
 cases v;simp[kV,ayG,axa,axe,ajE,AVal.Bits,AVal.List,AVal.Pairs,AVal.Slots,AVal.bC]
def gV (v:AVal):Prop:=kV v/\tV v<=1048576
def vg (k a:Nat)(v:AVal):Prop:=gV v/\3*tV v+k<=a
theorem JX {k:Nat}{v:AVal}(h:vg k 0 v):False:=by
 have:=jH v;have:=h.2;omega
theorem oh {v:AVal}(h:gV v):v.bC.length<=1048576/\v.Slots.length<=1048576/\v.List.length<=1048576/\mf v.Pairs:=by
 have e:=gQ v;have b:=Fv v.bC;have f:=NL v.Slots;have g:=FB v.List;have d:=FT v.Pairs;have c:=h.2;exact⟨by omega,by omega,by omega,by omega,fun x a=>(((gW v).1 h.1).2.2.1 x a).1.1⟩
theorem Iw {v x:AVal}(h:gV v)(a:x∈v.List):gV x/\tV x < tV v:=by
 have c:=gQ v;have b:=aiY a;have:=h.2;exact⟨⟨((gW v).1 h.1).2.1 x a,by omega⟩,by omega⟩
theorem FN {v:AVal}{x:Pair}(h:gV v)(b:x∈v.Pairs):gV x.Val/\tV x.Val < tV v/\fA x.Key.Kind=true/\tV x.Key < tV v:=by
 have d:=gQ v;have c:=ajU b;have a:=((gW v).1 h.1).2.2.1 x b;have:=h.2;exact⟨⟨a.2,by omega⟩,by omega,a.1.1,by omega⟩
theorem as2 {v:AVal}{x:Pair}(h:gV v)(a:x∈v.Pairs):kV x.Key:=(((gW v).1 h.1).2.2.1 x a).1.2
theorem OC {v:AVal}{x:Slot}(h:gV v)(a:x∈v.Slots):gV x.Val/\tV x.Val < tV v:=by
 have c:=gQ v;have b:=ZE a;have:=h.2;exact⟨⟨((gW v).1 h.1).2.2.2 x a,by omega⟩,by omega⟩
theorem wP (v:AVal):(lS v).Kind=v.Kind/\(lS v).Text=v.Text/\(lS v).List=v.List/\(lS v).Pairs=v.Pairs/\(lS v).Slots=v.Slots/\(lS v).bC=v.bC:=by
 unfold lS ajB;simp only[val_ob,val_lt,a_,val_ret,jv,Qa2];(repeat' split)<;>(cases v;exact⟨rfl,rfl,rfl,rfl,rfl,rfl⟩)
theorem X3 (v:AVal):tV (lS v)=tV v:=by
 obtain⟨f,a,d,e,c,b⟩:=wP v;rw[gQ,gQ v,a,d,e,c,b]
theorem ax1 (v:AVal):(lS v).Bits=v.Bits\/(lS v).Bits=9221120237041090560:=by
 unfold lS ajB;simp only[val_ob,val_lt,a_,val_ret,jv,Qa2];(repeat' split)<;>(cases v;first | exact .inl rfl | exact .inr rfl)
theorem Nr {v:AVal}(h:kV v):kV (lS v):=by
 obtain⟨g,f,c,d,b,a⟩:=wP v;rw[gW]at h⊢;rw[c,d,b,a];refine⟨⟨?_,h.1.2⟩,h.2⟩;rcases ax1 v with e | e
 ·rw[e];exact h.1.1
 ·rw[e];exact⟨by decide,by decide⟩
theorem je (k b:Int)(t:Str)(a:isU64 b):kV (AVal.mk k b t [] [] [] [])/\tV (AVal.mk k b t [] [] [] [])=1+t.length:=by
 simp[kV,kVs,kPs,kSs,kRs,tV,tVs,tPs,tSs,UK,a]
def aAj (s:bJ->Int->AVal->AVal)(qA:bJ->Int->AVal->Prop)(j:bJ->Op->AVal->AVal)(lM:bJ->Op->AVal->Prop)(t:bJ->Op->AVal->AVal)(lL:bJ->Op->AVal->Prop)(p:bJ)(prog:Int)(v:AVal):Pg AVal:=.ob (v.bC.length<=1048576) (.lt (match v with | AVal.mk k q m o n r a=>a) fun(g:List Raw)=> .br (decide (prog < 0)) (.ret (AVal.mk (Int.ofNat (nat_lit 10)) (Int.ofNat (nat_lit 0)) [] [] [] [] g)) (aL p.aO (.br (decide ((↑p.aO.length:Int)<=prog)) (.ret (AVal.mk (Int.ofNat (nat_lit 10)) (Int.ofNat (nat_lit 0)) [] [] [] [] g)) (.ob (v.Slots.length<=1048576) (.lt (yL v.Slots) fun f=> aL f (.each false lF f bn (fun i c (b:AVal)=> .ix i f.length (.ix prog p.aO.length (.lt (b.Slots++[Slot.mk c.Num (j p (j_ (p.aO.getD prog.toNat bH) c.Num).1 c.Val.re).re]) fun(e:List Slot)=> .lt (avF (j p (j_ (p.aO.getD prog.toNat bH) c.Num).1 c.Val.re).re) fun h=> .lt (j_ (p.aO.getD prog.toNat bH) c.Num) fun d=> .br (d.1.Card==3) (.ob (lM p d.1 c.Val.re) (.br (!h) (.ob (bM (b.Slots.length+1) 136) (rl (AVal.mk b.Kind b.Bits b.Text b.List b.Pairs e b.bC))) (rl b.re))) (.br (d.1.Card==4) (.ob (lM p d.1 c.Val.re) (.br (!h) (.ob (bM (b.Slots.length+1) 136) (rl (AVal.mk b.Kind b.Bits b.Text b.List b.Pairs e b.bC))) (rl b.re))) (.ob (lM p d.1 c.Val.re) (.br (!d.1.Card==5) (.ob (bM (b.Slots.length+1) 136) (rl (AVal.mk b.Kind b.Bits b.Text b.List b.Pairs e b.bC))) (.br (!h) (.ob (bM (b.Slots.length+1) 136) (rl (AVal.mk b.Kind b.Bits b.Text b.List b.Pairs e b.bC))) (rl b.re)))))))) (fun i (b:AVal)=> .ob (p_ (fun(x l:Raw)=>True) b.bC) (.ret (AVal.mk b.Kind b.Bits b.Text b.List b.Pairs b.Slots (Kz b.bC)))) (AVal.mk (Int.ofNat (nat_lit 10)) (Int.ofNat (nat_lit 0)) [] [] [] [] g)))))))
def asi (i:bJ->Int->AVal->AVal)(qA:bJ->Int->AVal->Prop)(j:bJ->Op->AVal->AVal)(lM:bJ->Op->AVal->Prop)(c:bJ->Op->AVal->AVal)(lL:bJ->Op->AVal->Prop)(p:bJ)(o:Op)(v:AVal):Pg AVal:=.br (o.Card==4) (aL v.List (.each false lF v.List dK (fun h (g b:AVal)=> .ix h v.List.length (.ob (lL p o g.re) (.ob (bM (b.List.length+1) 128) (rl (AVal.mk b.Kind b.Bits b.Text (b.List++[(c p o g.re).re]) b.Pairs b.Slots b.bC))))) (fun h (b:AVal)=> .ret b.re) (AVal.mk (Int.ofNat (nat_lit 11)) (Int.ofNat (nat_lit 0)) [] [] [] [] []))) (.br (o.Card==5) (.ob (mf v.Pairs) (.lt (lX v.Pairs) fun d=> aL d (.each false lF d dJ (fun f e (a:AVal)=> .ix f d.length (.ob (lL p o e.Val.re) (.ob (bM (a.Pairs.length+1) 256) (rl (AVal.mk a.Kind a.Bits a.Text a.List (a.Pairs++[Pair.mk (lS e.Key.re).re (c p o e.Val.re).re]) a.Slots a.bC))))) (fun f (a:AVal)=> .ret a.re) (AVal.mk (Int.ofNat (nat_lit 12)) (Int.ofNat (nat_lit 0)) [] [] [] [] [])))) (.ob (lL p o v.re) (.ret (c p o v.re).re)))
def anO (a:bJ->Int->AVal->AVal)(qA:bJ->Int->AVal->Prop)(c:bJ->Op->AVal->AVal)(lM:bJ->Op->AVal->Prop)(b:bJ->Op->AVal->AVal)(lL:bJ->Op->AVal->Prop)(p:bJ)(o:Op)(v:AVal):Pg AVal:=.br (o.Kind==10) (.ob (qA p o.Target v.re) (.ret (a p o.Target v.re).re)) (.ret (lS v.re).re)
def qA (a:Nat)(p:bJ)(prog:Int)(v:AVal):Prop:=vg 0 a v
def lM (a:Nat)(p:bJ)(o:Op)(v:AVal):Prop:=vg 2 a v
def lL (a:Nat)(p:bJ)(o:Op)(v:AVal):Prop:=vg 1 a v
def ML:Nat->(bJ->Int->AVal->AVal)×(bJ->Op->AVal->AVal)×(bJ->Op->AVal->AVal)
 | 0=>(fun _ _ _=>default,fun _ _ _=>default,fun _ _ _=>default)
 | a+1=>(fun p prog v=>(aAj ((ML a).1) (qA a) ((ML a).2.1) (lM a) ((ML a).2.2) (lL a) p prog v).val,fun p o v=>(asi ((ML a).1) (qA a) ((ML a).2.1) (lM a) ((ML a).2.2) (lL a) p o v).val,fun p o v=>(anO ((ML a).1) (qA a) ((ML a).2.1) (lM a) ((ML a).2.2) (lL a) p o v).val)
def Tc (p:bJ)(prog:Int)(v:AVal):AVal:=(ML (3*tV v)).1 p prog v
def aaf (a:Nat):Prop:=(∀(p:bJ) (prog:Int) (v:AVal),qA a p prog v->(fun r=>kV r/\tV r<=tV v) ((ML a).1 p prog v))/\(∀(p:bJ) (o:Op) (v:AVal),lM a p o v->(fun r=>kV r/\tV r<=tV v) ((ML a).2.1 p o v))/\(∀(p:bJ) (o:Op) (v:AVal),lL a p o v->(fun r=>kV r/\tV r<=tV v) ((ML a).2.2 p o v))
def pnI (a:List Raw)(b:List Slot)(i:Nat)(y:AVal):Prop:=kV y/\tV y<=1+smL tS (b.take i)+UK a/\y.Slots.length<=i/\y.bC=a
def pnL (l:List AVal)(i:Nat)(y:AVal):Prop:=kV y/\tV y<=1+smL (fun x=>1+tV x) (l.take i)/\y.List.length<=i
def pnP (l:List Pair)(i:Nat)(y:AVal):Prop:=kV y/\tV y<=1+smL tP (l.take i)/\y.Pairs.length<=i
theorem aHk (y z:AVal)(n:Int):tV (AVal.mk y.Kind y.Bits y.Text y.List y.Pairs (y.Slots++[Slot.mk n z]) y.bC)=tV y+(1+tV z):=by
 rw[gQ,gQ y];cases y;simp only[AVal.Text,AVal.List,AVal.Pairs,AVal.Slots,AVal.bC,xg,ni,smL,yc,Slot.Val];omega
theorem aGF {y z:AVal}{n:Int}(h:kV y)(b:kV z):kV (AVal.mk y.Kind y.Bits y.Text y.List y.Pairs (y.Slots++[Slot.mk n z]) y.bC):=by
 rw[gW]at h⊢;cases y;simp only[AVal.Bits,AVal.Text,AVal.List,AVal.Pairs,AVal.Slots,AVal.bC]at h⊢;exact⟨h.1,h.2.1,h.2.2.1,fun x a=>(xN.1 a).elim (h.2.2.2 x) fun e=>by rw[Be.1 e];exact b⟩
theorem aHg (y z:AVal):tV (AVal.mk y.Kind y.Bits y.Text (y.List++[z]) y.Pairs y.Slots y.bC)=tV y+(1+tV z):=by
 rw[gQ,gQ y];cases y;simp only[AVal.Text,AVal.List,AVal.Pairs,AVal.Slots,AVal.bC,xq,ni,smL];omega
theorem aHt {y z:AVal}(h:kV y)(b:kV z):kV (AVal.mk y.Kind y.Bits y.Text (y.List++[z]) y.Pairs y.Slots y.bC):=by
 rw[gW]at h⊢;cases y;simp only[AVal.Bits,AVal.Text,AVal.List,AVal.Pairs,AVal.Slots,AVal.bC]at h⊢;exact⟨h.1,fun x a=>(xN.1 a).elim (h.2.1 x) fun e=>by rw[Be.1 e];exact b,h.2.2⟩
theorem aFK (y k z:AVal):tV (AVal.mk y.Kind y.Bits y.Text y.List (y.Pairs++[Pair.mk k z]) y.Slots y.bC)=tV y+(1+tV k+tV z):=by
 rw[gQ,gQ y];cases y;simp only[AVal.Text,AVal.List,AVal.Pairs,AVal.Slots,AVal.bC,xu,ni,smL,Wq,Pair.Key,Pair.Val];omega
theorem aFy {y k z:AVal}(h:kV y)(a:fA k.Kind=true/\kV k)(c:kV z):kV (AVal.mk y.Kind y.Bits y.Text y.List (y.Pairs++[Pair.mk k z]) y.Slots y.bC):=by
 rw[gW]at h⊢;cases y;simp only[AVal.Bits,AVal.Text,AVal.List,AVal.Pairs,AVal.Slots,AVal.bC]at h⊢;exact⟨h.1,h.2.1,fun x b=>(xN.1 b).elim (h.2.2.1 x) fun e=>by rw[Be.1 e];exact⟨a,c⟩,h.2.2.2⟩
theorem agS {l:List Slot}(h:l.length<=1048576){x:Slot}(a:x∈yL l):x∈l:=(NZ h).mem_iff.1 ((zH l h).2.subset a)
theorem aoe {l:List Slot}(h:l.length<=1048576):smL tS (yL l)<=smL tS l:=by
 rw[<-Aj (NZ h)];exact rJ (zH l h).2
theorem PG {l v:List Slot}(h:l.length<=1048576)(e:v=yL l):v.length<=1048576:=by
 have k:=(zH l h).2.length_le;have a:=(NZ h).length_eq;have b:(yL l).length<=(VF l).length:=k;rw[e];omega
theorem Eb {l:List Pair}(h:mf l){x:Pair}(a:x∈lX l):x∈l:=(yh (lY h)).mem_iff.1 ((yQ l h).2.subset a)
theorem PR {l:List Pair}(h:mf l):smL tP (lX l)<=smL tP l:=by
 rw[<-Aj (yh (lY h))];exact rJ (yQ l h).2
theorem R_ {l v:List Pair}(h:mf l)(e:v=lX l):v.length<=1048576:=by
 have k:(lX l).length<=(WX l).length:=(yQ l h).2.length_le;have a:=(yh (lY h)).length_eq;have b:=h.1;rw[e];omega
theorem aDC {l:List Raw}(h:l.length<=1048576):UK (Kz l)=UK l:=by
 rw[Aq,Aq];exact Aj (ajW h)
theorem ai_ {r:List Raw}(a:∀x∈r,IM x):kV (AVal.mk 10 0 [] [] [] [] r)/\tV (AVal.mk 10 0 [] [] [] [] r)=1+UK r:=by
 have a:=(ajE r).2 a;simp[kV,kVs,kPs,kSs,tV,tVs,tPs,tSs,u0,a]
theorem aI6 {k:Nat}{b:Nat}{v:AVal}{a:List Raw}(h:vg k b v)(e:a=v.bC):kV (AVal.mk 10 0 [] [] [] [] a)/\tV (AVal.mk 10 0 [] [] [] [] a)<=tV v:=by
 subst e;obtain⟨c,d⟩:=ai_ ((gW v).1 h.1.1).1.2;have:=gQ v;exact⟨c,by omega⟩
theorem aGC {k b:Nat}{v:AVal}(h:vg k (b+1) v){a:List Slot}(e:a=yL v.Slots){i:Nat}(f:i < a.length):vg (k+2) b (a.getD i bn).Val:=by
 subst e;have g:=agS (oh h.1).2.1 (getD_mem (d:=bn) f);obtain⟨c,j⟩:=OC h.1 g;have:=h.2;exact⟨c,by omega⟩
theorem aFI {k a:Nat}{v:AVal}(h:vg (k+1) (a+1) v){i:Nat}(c:i < v.List.length):vg k a (v.List.getD i dK):=by
 obtain⟨b,e⟩:=Iw h.1 (getD_mem (d:=dK) c);have:=h.2;exact⟨b,by omega⟩
theorem avt {k b:Nat}{v:AVal}(h:vg (k+1) (b+1) v){a:List Pair}(e:a=lX v.Pairs){i:Nat}(j:i < a.length):vg k b (a.getD i dJ).Val/\fA (a.getD i dJ).Key.Kind=true/\kV (a.getD i dJ).Key:=by
 subst e;have c:=Eb (oh h.1).2.2.2 (getD_mem (d:=dJ) j);obtain⟨f,l,g,_⟩:=FN h.1 c;have:=h.2;exact⟨⟨f,by omega⟩,g,as2 h.1 c⟩
theorem NR {k a:Nat}{v:AVal}(h:vg (k+1) (a+1) v):vg k a v:=⟨h.1,by have:=h.2;omega⟩
theorem aHR {k c:Nat}{v:AVal}{a:List Raw}{f:List Slot}(h:vg k c v)(e:a=v.bC):pnI a f 0 (AVal.mk 10 0 [] [] [] [] a):=by
 obtain⟨d,b⟩:=ai_ (r:=a) (by rw[e];exact((gW v).1 h.1.1).1.2);exact⟨d,by rw[b];simp[smL],lH _,rfl⟩
theorem aq2 {b:List Raw}{a:List Slot}{i:Nat}{y:AVal}(h:pnI b a i y):pnI b a (i+1) y.re:=by
 rw[AVal.cZ];obtain⟨c,e,g,d⟩:=h;have:=rJ (f:=tS) (Qcq (l:=a) (show i<=i+1 by omega));exact⟨c,by omega,by omega,d⟩
theorem axO {c:List Raw}{a:List Slot}{i:Nat}{y z:AVal}{n:Int}(j:i < a.length)(h:pnI c a i y)(l:kV z/\tV z<=tV (a.getD i bn).Val){b:List Slot}(e:b=y.Slots++[Slot.mk n z]):pnI c a (i+1) (AVal.mk y.Kind y.Bits y.Text y.List y.Pairs b y.bC):=by
 obtain⟨g,o,q,m⟩:=h;rw[e];have k:=oJ (f:=tS) (d:=bn) j;have p:=yc (a.getD i bn);refine⟨aGF g l.1,?_,?_,m⟩
 ·rw[aHk];omega
 ·show(y.Slots++[Slot.mk n z]).length<=i+1
  simp only[kG,uU,uF];omega
theorem av2 {k o:Nat}{v:AVal}{f:List Raw}{b:List Slot}{y:AVal}(h:vg k o v)(g:f=v.bC)(m:b=yL v.Slots)(n:pnI f b b.length y):kV (AVal.mk y.Kind y.Bits y.Text y.List y.Pairs y.Slots (Kz y.bC))/\tV (AVal.mk y.Kind y.Bits y.Text y.List y.Pairs y.Slots (Kz y.bC))<=tV v:=by
 obtain⟨a,d,q,l⟩:=n;have c:=oh h.1;have e:y.bC.length<=1048576:=by rw[l,g];exact c.1
 have r:=aoe c.2.1;have t:=gQ v;have j:=aDC e;have u:=xg v.Slots;have s:=gQ y;rw[yS,m]at d;rw[g]at d;refine⟨?_,?_⟩
 ·have i:∀x∈Kz y.bC,IM x:=fun x p=>((gW y).1 a).1.2 x ((ajW e).mem_iff.1 p)
  rw[gW]at a⊢;cases y;exact⟨⟨a.1.1,i⟩,a.2⟩
 ·rw[gQ];show 1+y.Text.length+tVs y.List+tPs y.Pairs+tSs y.Slots+UK (Kz y.bC)<=tV v
  rw[j];omega
theorem aGv {l:List AVal}:pnL l 0 (AVal.mk 11 0 [] [] [] [] []):=by
 obtain⟨a,b⟩:=je 11 0 [] u0;exact⟨a,by rw[b];simp[smL],lH _⟩
theorem ax2 {l:List AVal}{i:Nat}{y z:AVal}(b:i < l.length)(h:pnL l i y)(c:kV z/\tV z<=tV (l.getD i dK)):pnL l (i+1) (AVal.mk y.Kind y.Bits y.Text (y.List++[z]) y.Pairs y.Slots y.bC):=by
 obtain⟨a,e,g⟩:=h;have k:=oJ (f:=fun x=>1+tV x) (d:=dK) b;refine⟨aHt a c.1,?_,?_⟩
 ·rw[aHg];omega
 ·show(y.List++[z]).length<=i+1
  simp only[kG,uU,uF];omega
theorem awZ {v y:AVal}(c:pnL v.List v.List.length y):kV y.re/\tV y.re<=tV v:=by
 rw[AVal.cZ];obtain⟨b,a,f⟩:=c;have d:=gQ v;have e:=xq v.List;rw[yS]at a;exact⟨b,by omega⟩
theorem aGw {l:List Pair}:pnP l 0 (AVal.mk 12 0 [] [] [] [] []):=by
 obtain⟨a,b⟩:=je 12 0 [] u0;exact⟨a,by rw[b];simp[smL],lH _⟩
theorem avH {l:List Pair}{i:Nat}{y k z:AVal}(b:i < l.length)(h:pnP l i y)(c:(fA k.Kind=true/\kV k)/\tV k<=tV (l.getD i dJ).Key)(e:kV z/\tV z<=tV (l.getD i dJ).Val):pnP l (i+1) (AVal.mk y.Kind y.Bits y.Text y.List (y.Pairs++[Pair.mk k z]) y.Slots y.bC):=by
 obtain⟨a,g,j⟩:=h;have q:=oJ (f:=tP) (d:=dJ) b;have m:=Wq (l.getD i dJ);refine⟨aFy a c.1 e.1,?_,?_⟩
 ·rw[aFK];omega
 ·show(y.Pairs++[Pair.mk k z]).length<=i+1
  simp only[kG,uU,uF];omega
theorem ax4 {k c:Nat}{v y:AVal}{a:List Pair}(h:vg k c v)(e:a=lX v.Pairs)(f:pnP a a.length y):kV y.re/\tV y.re<=tV v:=by
 rw[AVal.cZ];obtain⟨d,b,l⟩:=f;have g:=PR (oh h.1).2.2.2;have i:=gQ v;have j:=xu v.Pairs;rw[yS,e]at b;exact⟨d,by omega⟩
theorem apg {v:AVal}{a:List Raw}{b:List Slot}{i:Nat}{y:AVal}(h:pnI a b i y)(e:a=v.bC)(c:v.bC.length<=1048576):p_ (fun(_ _:Raw)=>True) y.bC:=⟨by rw[h.2.2.2,e];omega,fun _ _ _ _=>trivial⟩
abbrev aag (a:Nat):=aAj ((ML a).1) (qA a) ((ML a).2.1) (lM a) ((ML a).2.2) (lL a)
theorem U1 (fu:Nat)(ih:aaf fu)(p:bJ)(prog:Int)(v:AVal)(h:qA (fu+1) p prog v):IsP (aag fu p prog v) (fun r=>kV r/\tV r<=tV v):=
 have h:vg 0 (fu+1) v:=h;have hl:=oh h.1;isP_ob (qaj) (isP_lt fun d hv4=>isP_brd (fun _=>isP_ret qal) (fun _=>isP_as <| isP_brd (fun _=>isP_ret qal) (fun _=>isP_ob (qaj) (isP_lt fun b hv5=>isP_as <| isP_each (fun(c:Nat) a=>pnI d b c a) (by exact aHR h hv4) (by(have:=PG hl.2.1 hv5;omega)) (fun c a nO e=>have hI:pnI d b c a:=e;isP_ix ah ah (isP_ix ah ah (isP_lt fun k hv6=>isP_lt fun j f=>isP_lt fun g i=>isP_beq (fun _=>isP_ob (qaj) (isP_br (fun _=>isP_ob (qaj) (isP_ret qal)) (fun _=>isP_ret qal))) (fun _=>isP_beq (fun _=>isP_ob (qaj) (isP_br (fun _=>isP_ob (qaj) (isP_ret qal)) (fun _=>isP_ret qal))) (fun _=>isP_ob (qaj) (isP_br (fun _=>isP_ob (qaj) (isP_ret qal)) (fun _=>isP_br (fun _=>isP_ob (qaj) (isP_ret qal)) (fun _=>isP_ret qal)))))))) (fun a hI=>have hI:pnI d b b.length a:=hI;isP_ob (qaj) (isP_ret qal))))))
abbrev Pn (a:Nat):=asi ((ML a).1) (qA a) ((ML a).2.1) (lM a) ((ML a).2.2) (lL a)
theorem Ri (fu:Nat)(ih:aaf fu)(p:bJ)(o:Op)(v:AVal)(h:lM (fu+1) p o v):IsP (Pn fu p o v) (fun r=>kV r/\tV r<=tV v):=
 have h:vg 2 (fu+1) v:=h;have hl:=oh h.1;isP_beq (fun _=>isP_as <| isP_each (fun(e:Nat) b=>pnL v.List e b) (by exact aGv) ah (fun e b nO g=>have hI:pnL v.List e b:=g;isP_ix ah ah (isP_ob (qao) (isP_ob (qao) (isP_ret qai)))) (fun b hI=>have hI:pnL v.List v.List.length b:=hI;isP_ret qai)) (fun _=>isP_beq (fun _=>isP_ob (qao) (isP_lt fun c hv7=>isP_as <| isP_each (fun(d:Nat) a=>pnP c d a) (by exact aGw) (by(have:=R_ hl.2.2.2 hv7;omega)) (fun d a Xh f=>have hI:pnP c d a:=f;isP_ix ah ah (isP_ob (qao) (isP_ob (qao) (isP_ret qai)))) (fun a hI=>have hI:pnP c c.length a:=hI;isP_ret qai))) (fun _=>isP_ob (qao) (isP_ret qai)))
abbrev RV (a:Nat):=anO ((ML a).1) (qA a) ((ML a).2.1) (lM a) ((ML a).2.2) (lL a)
theorem Tt (a:Nat)(ih:aaf a)(p:bJ)(o:Op)(v:AVal)(h:lL (a+1) p o v):IsP (RV a p o v) (fun r=>kV r/\tV r<=tV v):=
 have h:vg 1 (a+1) v:=h;isP_beq (fun _=>isP_ob ((by(show vg 0 a _;rw[AVal.cZ];exact NR h))) (isP_ret qbi)) (fun _=>isP_ret qbi)
theorem yX:∀a,aaf a
 | 0=>⟨fun p prog v h=>False.elim (JX h),
  fun p o v h=>False.elim (JX h),
  fun p o v h=>False.elim (JX h)⟩
 | a+1=>⟨fun p prog v h=>(U1 a (yX a) p prog v h).2,
  fun p o v h=>(Ri a (yX a) p o v h).2,
  fun p o v h=>(Tt a (yX a) p o v h).2⟩
theorem arX (a:Nat)(p:bJ)(prog:Int)(v:AVal)(h:qA (a+1) p prog v):Is (aag a p prog v):=(U1 a (yX a) p prog v h).1
theorem akM (a:Nat)(p:bJ)(o:Op)(v:AVal)(h:lM (a+1) p o v):Is (Pn a p o v):=(Ri a (yX a) p o v h).1
theorem ali (a:Nat)(p:bJ)(o:Op)(v:AVal)(h:lL (a+1) p o v):Is (RV a p o v):=(Tt a (yX a) p o v h).1
theorem Kq (p:bJ)(prog:Int)(v:AVal)(h:gV v):(fun r=>kV r/\tV r<=tV v) (Tc p prog v):=(yX (3*tV v)).1 p prog v (⟨h,lH _⟩)
theorem aAg:∀b,CtOk Z.P Z.S 172 (ctN (args (aCons (aAgg b_) (aCons (aLf cI) (a1 (aAgg ay))))) (shr [.slot 0 true (nn 7)] (l1 ay)) 1 [] (fun a=>some (qA b (a.1) (a.2.1) (a.2.2))) (fun a=>(ML b).1 (a.1) (a.2.1) (a.2.2)))/\CtOk Z.P Z.S 238 (ctN (args (aCons (aAgg b_) (aCons (aAgg gU) (a1 (aAgg ay))))) (shr [.slot 0 true (nn 7)] (l1 ay)) 1 [] (fun a=>some (lM b (a.1) (a.2.1) (a.2.2))) (fun a=>(ML b).2.1 (a.1) (a.2.1) (a.2.2)))/\CtOk Z.P Z.S 319 (ctN (args (aCons (aAgg b_) (aCons (aAgg gU) (a1 (aAgg ay))))) (shr [.slot 0 true (nn 7)] (l1 ay)) 1 [] (fun a=>some (lL b (a.1) (a.2.1) (a.2.2))) (fun a=>(ML b).2.2 (a.1) (a.2.1) (a.2.2)))
 | 0=>⟨dH func172 dE (fun a h=>JX h),
  dH func238 dE (fun a h=>JX h),
  dH func319 dE (fun a h=>JX h)⟩
 | b+1=>by
  obtain⟨g,f,d⟩:=aAg b;exact⟨xM [aHN,aox,MC,anF,ash,Pq,⟨172,_,g⟩,⟨238,_,f⟩,⟨319,_,d⟩] [jS 5 (aT (fun c=>[s0 32, .cells (pid (c 7)) [none,none,none,none,none,some 287,some 294]]) (lCons cI (l1 ay))),jS 800001 (aT (fun c=>[.cells (pid (c 7)) [none,none,none,none,none,some 287,some 294]]) (l1 ay))] func172 ntmps172 (fun a=>aag b a.1 a.2.1 a.2.2) (fun a h=>⟨arX b a.1 a.2.1 a.2.2 h,rfl⟩) (iE (n:=86) rfl),
   xM [G5,Tm,⟨172,_,g⟩,⟨238,_,f⟩,⟨319,_,d⟩] [jS 5 (aT (fun c=>[s0 21, .cells (pid (c 7)) [none,none,none,some 77,none,none,none]]) (lCons cI (l1 ay))),jS 13 (aT (fun c=>[s0 43, .cells (pid (c 10)) [none,none,none,none,some 358,none,none]]) (lCons cI (l1 ay))),jS 800003 (aT (fun c=>[.cells (pid (c 7)) [none,none,none,some 77,none,none,none]]) (l1 ay)),jS 800011 (aT (fun c=>[.cells (pid (c 10)) [none,none,none,none,some 358,none,none]]) (l1 ay))] func238 ntmps238 (fun a=>Pn b a.1 a.2.1 a.2.2) (fun a h=>⟨akM b a.1 a.2.1 a.2.2 h,rfl⟩) (iE (n:=67) rfl),
   xM [G5,⟨172,_,g⟩,⟨238,_,f⟩,⟨319,_,d⟩] [] func319 ntmps319 (fun a=>RV b a.1 a.2.1 a.2.2) (fun a h=>⟨ali b a.1 a.2.1 a.2.2 h,rfl⟩) (iE (n:=17) rfl)⟩
def aiW:Ent Z:=⟨172,ctN (args (aCons (aAgg b_) (aCons (aLf cI) (a1 (aAgg ay))))) (shr [.slot 0 true (nn 7)] (l1 ay)) 1 [] (fun a=>some (gV (a.2.2))) (fun a=>Tc (a.1) (a.2.1) (a.2.2)),ctFam_ok (fun n=>((aAg n).1)) _ _ (fun a h=>⟨3*tV (a.2.2),⟨h,lH _⟩,rfl⟩)⟩
end
end Go.Proofs.YtjojefbphdmnjaaGreatDoor
