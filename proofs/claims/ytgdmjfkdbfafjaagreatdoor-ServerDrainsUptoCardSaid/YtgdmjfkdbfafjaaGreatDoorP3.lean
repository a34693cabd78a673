/- Server: all problems of a schema: the program's are the reference's. -/
import Derived.Test.YtgdmjfkdbfafjaaGreatDoorP2
import Derived.Test.YtgdmjfkdbfafjaaGreatDoorEng16
namespace Go.Proofs.YtgdmjfkdbfafjaaGreatDoor
noncomputable section
open Go.RowKit Go.Vc
open Tryz
set_option linter.unusedVariables false
set_option linter.unusedSimpArgs false
set_option maxRecDepth 100000
theorem NG {A R:Type}{l:List A}{d:A}{nm:A->Str}{F:List Str->R}{step:Int×List Str->(Int×List Str)⊕R}(c:l.length<=1048576)(b:∀x:Int×List Str,step x=bif decide (x.1 < (l.length:Int))then .inl (dA .i64 (x.1+1),x.2++[nm (l.getD x.1.toNat d)])else .inr (F x.2))(a:R):∀(n i:Nat) (y:List Str),l.length - i < n->i<=l.length->RV step a n ((i:Int),y)=F (y++(l.drop i).map nm)
 | 0,i,y,h,_=>by omega
 | n+1,i,y,h,f=>by
  unfold RV;rw[b];by_cases e:i < l.length
  ·have d0:decide (((i:Nat):Int) < (l.length:Int))=true:=rY au;have w:dA .i64 (((i:Nat):Int)+1)=((i+1:Nat):Int):=ru au;simp only[d0,uu,w,xw];rw[NG c b a n (i+1) _ au au];congr 1;have g:l.drop i=l.getD i d::l.drop (i+1):=by
    simp_all
   grind
  grind
def axV (s:ay):List Str:=s.Messages.map aO.Name
def avL (s:ay):List Str:=s.Enums.map dV.Name
def avG (s:ay):List Str:=s.dQ.map bQ.Name
theorem aG4 (s:ay)(h:okS s):lX s 1=axV s:=by
 have a:s.Messages.length<=150:=h.1;unfold lX Bf;simp only[jk,tq,bf,iG,eU,bY,aI];have e:=NG (R:=List Str⊕List Str) (l:=s.Messages) (d:=dP) (nm:=aO.Name) (F:=fun y=> .inl y) au (fun _=>rfl) default (s.Messages.length+1) 0 [] au au;refine Qcn (XQ (fun v=>thenS v _) e) ?_;rfl
theorem names2 (s:ay)(h:okS s):lX s 2=avL s:=by
 have a:s.Enums.length<=150:=h.2.1;unfold lX Bf;simp only[jk,tq,bf,iG,eU,bY,aI];have e:=NG (R:=List Str⊕List Str) (l:=s.Enums) (d:=kE) (nm:=dV.Name) (F:=fun y=> .inl y) au (fun _=>rfl) default (s.Enums.length+1) 0 [] au au;show thenS (RV _ (default:List Str⊕List Str) (s.Enums.length+1) ((0:Int),([]:List Str))) _=_
 refine Qcn (XQ (fun v=>thenS v _) e) ?_;rfl
theorem aFY (s:ay)(h:okS s):lX s 3=avG s:=by
 have a:s.dQ.length<=150:=h.2.2.1;unfold lX Bf;simp only[jk,tq,bf,iG,eU,bY,aI];have e:=NG (R:=List Str) (l:=s.dQ) (d:=lu) (nm:=bQ.Name) (F:=fun y=>y) au (fun _=>rfl) default (s.dQ.length+1) 0 [] au au;refine Qcn (XQ (fun v=>thenS v _) (?_:_=Sum.inl [])) ?_
 ·rfl
 simp only[jc];refine Qcn (XQ (fun v=>thenS v _) (?_:_=Sum.inl [])) ?_
 ·rfl
 simp only[jc];refine Qcn e ?_;rfl
theorem awG (s:ay):ajr s=[axV s,avL s,avG s]:=by
 unfold ajr lists;simp only[jk,iG,jD,eU,bY,aI];have f:∀(l:List aO) (k:Nat) (a b c:List Str),mJ (fun(_:Nat) (m:aO) (y:List (List Str))=>(Sum.inl [y.getD 0 []++[m.Name],y.getD 1 [],y.getD 2 []]:List (List Str)⊕(List (List Str)⊕List (List Str)))) (fun _ y=> .inl [y.getD 0 [],y.getD 1 [],y.getD 2 []]) l k [a,b,c]= .inl [a++l.map aO.Name,b,c]:=by
  intro l;induction l with
  | nil=>intro k a b c;simp[mJ]
  | cons m l d=>
   intro k a b c;unfold mJ
   grind
 have e:∀(l:List dV) (k:Nat) (a b c:List Str),mJ (fun(_:Nat) (m:dV) (y:List (List Str))=>(Sum.inl [y.getD 0 [],y.getD 1 []++[m.Name],y.getD 2 []]:List (List Str)⊕(List (List Str)⊕List (List Str)))) (fun _ y=> .inl [y.getD 0 [],y.getD 1 [],y.getD 2 []]) l k [a,b,c]= .inl [a,b++l.map dV.Name,c]:=by
  intro l;induction l with
  | nil=>intro k a b c;simp[mJ]
  | cons m l d=>
   intro k a b c;unfold mJ
   grind
 have g:∀(l:List bQ) (k:Nat) (a b c:List Str),mJ (fun(_:Nat) (m:bQ) (y:List (List Str))=>(Sum.inl [y.getD 0 [],y.getD 1 [],y.getD 2 []++[m.Name]]:List (List Str)⊕List (List Str))) (fun _ y=>[y.getD 0 [],y.getD 1 [],y.getD 2 []]) l k [a,b,c]=[a,b,c++l.map bQ.Name]:=by
  intro l;induction l with
  | nil=>intro k a b c;simp[mJ]
  | cons m l d=>
   intro k a b c;unfold mJ
   grind
 refine Qcn (XQ (fun v=>thenS v _) (f s.Messages 0 [] [] [])) ?_;simp only[jc,Qb3,Qb2];refine Qcn (XQ (fun v=>thenS v _) (e s.Enums 0 _ _ _)) ?_;simp only[jc,Qb3,Qb2];exact g s.dQ 0 _ _ _
theorem P8 (l:List Str):Ti l=Tn l:=rfl
theorem aBR (a b:List Str):uI a b=a.any fun x=>Ju b x:=by
 unfold uI U1;simp only[jD,eU,bf,aI];exact xQ (fun k a=>rfl) (fun k=>rfl) a 0
theorem atN (a b:List Str):(b.any fun x=>a.any fun y=>x==y)=uI a b:=by
 rw[aBR,Qbr,Qbi,Qbi];constructor
 ·rintro⟨x,d,c⟩;obtain⟨y,c,e⟩:=Qbi.1 c;refine⟨y,c,?_⟩;rw[<-has_eq,Qbi]
  grind
 ·rintro⟨y,c,d⟩;rw[<-has_eq,Qbi]at d
  grind
theorem apart_eq (a b c:List Str):ajz [a,b,c]= !(bif uI a b then true else bif uI a c then true else uI b c):=by
 have d:∀x,aup x [a,b,c]=a.any fun y=>x==y:=fun x=>rfl
 have e:∀x,aDP x [a,b,c]=b.any fun y=>x==y:=fun x=>rfl
 unfold ajz apart;simp only[cZ,bY,bf,aI,Qb3,Qb2,d,e,atN]
 grind
theorem wh3 {X R:Type}(G:Int->X->X)(a:X)(b:X⊕R):RV (fun(x:Int×X)=>bif decide (x.1<=3)then(Sum.inl (dA .i64 (x.1+1),G x.1 x.2):(Int×X)⊕(X⊕R))else .inr (.inl x.2)) b 5 (1,a)= .inl (G 3 (G 2 (G 1 a))):=by
 rfl
theorem acv {n:Int}{x:ax}{p:aC}(h:qw n x p){a b:List eY}(e:a=b):qw n ⟨x.rP,x.num,x.out++a⟩ ⟨p.rP,p.l++b⟩:=⟨h.1,h.2.1,by show x.out++a=p.l++b;rw[h.2.2,e]⟩
theorem aGJ (s:ay)(h:aKh s):YD s=ack s:=by
 obtain⟨e,g,f,l⟩:=h;have m:s.Messages.length<=150:=e.1;unfold YD af9 ack ade;simp only[jk,cZ,bf,bY,iG,jD,tq,eU,aI,BN,jc,Bd,xK,EU,BL,awG,Qb3,Qb2];refine Qcn ?_ (XQ (fun v=>thenS v _) (wh3 (fun k x=>bg (!Tn (lX s k)) (-1) 11 (bg (decide (64 < ((lX s k).length:Int))) (-1) 3 x)) ⟨[],[]⟩ default)).symm;simp only[jc,aG4 s e,names2 s e,aFY s e];refine PY (I:=qw (-1)) (Q:=Eq) ?_ (fun y z c=>PY (I:=qw (-1)) (Q:=Eq) ?_ (fun y z c=> ?_))
 ·refine rZ (d:=dP) (d':=dP) (fun _=>qw (-1)) (aeq (qw (-1)) Eq) s.Messages s.Messages 0 _ _ rfl ?_ (fun j y z b a=> ?_) (fun y z a=>a)
  ·refine fP (fP (fP (fP (fP (fP (fP ?_ (LG ?_)) ((P8 _).trans (dnn _))) (LG ?_)) ((P8 _).trans (dnn _))) (LG ?_)) ((P8 _).trans (dnn _))) (apart_eq _ _ _)
   ·exact⟨rfl,rfl,rfl⟩
   ·omega
   ·omega
   ·omega
  ·have i:=g _ (getD_mem (d:=dP) b);exact acv a (aFT s _ _ _ i (arn s au _))
 ·refine rZ (d:=kE) (d':=kE) (fun _=>qw (-1)) (aeq (qw (-1)) Eq) s.Enums s.Enums 0 _ _ rfl c (fun j y z b a=> ?_) (fun y z a=>a);exact acv a (aDC _ (f _ (getD_mem (d:=kE) b)))
 ·refine rZ (d:=lu) (d':=lu) (fun _=>qw (-1)) Eq s.dQ s.dQ 0 _ _ rfl c (fun j y z b a=> ?_) (fun y z a=>a.2.2);exact acv a (aHU s _ (l _ (getD_mem (d:=lu) b)))
theorem valid_eq (s:ay)(h:aKh s):oI s=O6 s:=by
 unfold oI Vl O6 Nk;simp only[bY,aI,aGJ s h]
def auN (x:Int):Pg Bool:=.ret (x !=x)
def anG (x:Int):=(auN x).val
def axG:aZ Z:=E0 [] [] (a1 (bC cI)) (R1 aG) [] func321 1 auN
def aKE (x:Int)(y:Int):Pg Int:=.lt (anG y) fun a=> .br (anG x) (.br a (.ret 0) (.ret (-1))) (.br a (.ret 1) (.br (decide (x < y)) (.ret (-1)) (.br (decide (y < x)) (.ret 1) (.ret 0))))
def X4 (x:Int)(y:Int):=(aKE x y).val
def OI:aZ Z:=E0 [axG] [] (ak (bC cI) (a1 (bC cI))) (R1 cI) [] func242 1 (u2 aKE)
def rwC (a:Raw)(b:Raw):Pg Int:=.ret (X4 a.Num b.Num)
def atY (a:Raw)(b:Raw):=(rwC a b).val
def WO:aZ Z:=E1 [OI] [] (ak (aJ pF) (a1 (aJ pF))) (R1 cI) [] func241 1 (u2 rwC) fun a=>True
def aJZ (a:Int)(b:Int)(n:Int)(l:List Raw):Pg (List Raw):=Vx (fun a=>a) qf a b n l
theorem aA7 (a:Int)(b:Int)(n:Int)(l:List Raw)(h:swQ a b n l.length):Is (aJZ a b n l):=
 (PH (fun _=>rfl) h).1
def axe:aZ Z:=H7 [WO] [jS 1 (bI (fun b=>[s0 10, .row (pid (b 0)) 295]) (aB cI (l1 bU)))] (ak (oD 0) (ak (bC cI) (ak (bC cI) (ak (bC cI) (a1 (lH 241 [])))))) (b1 (lh 295 D.Raw mF)) (shr [.row 0 295] (l1 bU)) [] func483 0 (fun a=>aJZ a.1.2.1 a.1.2.2.1 a.1.2.2.2.1 a.2) (fun a=>swQ a.1.2.1 a.1.2.2.1 a.1.2.2.2.1 a.2.length) fun a h=>aA7 a.1.2.1 a.1.2.2.1 a.1.2.2.2.1 a.2 h
def aKc (a:Int)(m:Int)(b:Int)(l:List Raw):Pg (List Raw):=WG (fun a=>a) qf a m b l
theorem aBC (a:Int)(m:Int)(b:Int)(l:List Raw)(h:roQ a m b l.length):Is (aKc a m b l):=
 (OM (fun _=>rfl) h).1
def aya:aZ Z:=H7 [WO,axe] [jS 2 (bI (fun b=>[s0 10, s0 11, .row (pid (b 0)) 295]) (aB cI (aB cI (l1 bU))))] (ak (oD 0) (ak (bC cI) (ak (bC cI) (ak (bC cI) (a1 (lH 241 [])))))) (b1 (lh 295 D.Raw mF)) (shr [.row 0 295] (l1 bU)) [] func464 0 (fun a=>aKc a.1.2.1 a.1.2.2.1 a.1.2.2.2.1 a.2) (fun a=>roQ a.1.2.1 a.1.2.2.1 a.1.2.2.2.1 a.2.length) fun a h=>aBC a.1.2.1 a.1.2.2.1 a.1.2.2.2.1 a.2 h
def aHs (a:Int)(b:Int)(l:List Raw):Pg (List Raw):=Wl (fun a=>a) atY (fun _ _=>True) qf a b l
def aKY (a:Int)(b:Int)(l:List Raw):=(aHs a b l).val
theorem aBJ (a:Int)(b:Int)(l:List Raw)(h:IQ (fun _ _=>True) a b l):Is (aHs a b l):=
 (PZ (fun _=>rfl) h).1
def awc:aZ Z:=vF Z [WO] [jS 1 (bI (fun b=>[s0 8, .row (pid (b 0)) 295]) (aB cI (l1 bU))),jS 4 (bI (fun b=>[s0 9, .row (pid (b 0)) 295]) (aB cI (l1 bU)))] (kN (ak (oD 0) (ak (bC cI) (ak (bC cI) (a1 (lH 241 []))))) (b1 (lh 295 D.Raw mF))) (pz (n:=53) rfl) (shr [.row 0 295] (l1 bU)) [] func417 ntmps417 eQ 0 rfl (fun a=>aHs (a.1.2.1) (a.1.2.2.1) (a.2)) (fun a=>some (IQ (fun _ _=>True) (a.1.2.1) (a.1.2.2.1) (a.2))) (fun a e _=>by kernel_rfl) (fun a=>aKY (a.1.2.1) (a.1.2.2.1) (a.2)) (fun a h=>⟨aBJ (a.1.2.1) (a.1.2.2.1) (a.2) h,rfl⟩)
def aMa (c:Int->Int->Int->List Raw->List Raw)(QB:Int->Int->Int->List Raw->Prop)(a:Int)(m:Int)(b:Int)(l:List Raw):Pg (List Raw):=aaJ (fun a=>a) atY (fun _ _=>True) qf c QB a m b l
def QB (c:Nat)(a:Int)(m:Int)(b:Int)(l:List Raw):Prop:=ZJ (fun _ _=>True) c a m b l
def aqK:Nat->(Int->Int->Int->(List Raw)->(List Raw))
 | 0=>(fun _ _ _ _=>default)
 | c+1=>(fun a m b l=>(aMa ((aqK c)) (QB c) a m b l).val)
def aov (a:Int)(m:Int)(b:Int)(l:List Raw):List Raw:=(aqK ((b - a).toNat+1)) a m b l
theorem NE:∀(e:Nat) (a m b:Int) (l:List Raw),QB e a m b l->(aqK e a m b l).Perm l
 | 0,_,_,_,_,h=>IL h
 | e+1,_,_,_,_,h=>(AU (fun _=>rfl) (c:=atY) (SB:=aqK e) (ZQ:=QB e) (d:=qf) (fun _ _ _ _ h=>h) (NE e) h).2
abbrev asQ (a:Nat):=aMa ((aqK a)) (QB a)
theorem az4 (c:Nat)(a:Int)(m:Int)(b:Int)(l:List Raw)(h:QB (c+1) a m b l):Is (asQ c a m b l):=
 (AU (fun _=>rfl) (fun _ _ _ _ h=>h) (NE c) h).1
theorem ax2:∀c,gZ Z.P Z.S 418 (qj (kN (ak (oD 0) (ak (bC cI) (ak (bC cI) (ak (bC cI) (a1 (lH 241 [])))))) (b1 (lh 295 D.Raw mF))) (shr [.row 0 295] (l1 bU)) 0 [] (fun a=>some (QB c (a.1.2.1) (a.1.2.2.1) (a.1.2.2.2.1) (a.2))) (fun a=>(aqK c) (a.1.2.1) (a.1.2.2.1) (a.1.2.2.2.1) (a.2)))
 | 0=>je func418 eQ (fun a h=>IL h)
 | c+1=>by
  have d:=ax2 c;exact GU [WO,aya,⟨418,_,d⟩] [jS 3 (bI (fun b=>[s0 10, s0 11]) (aB cI (l1 cI))),jS 9 (bI (fun b=>[s0 13, .row (pid (b 0)) 295]) (aB cI (l1 bU))),jS 15 (bI (fun b=>[s0 14, s0 15]) (aB cI (l1 cI))),jS 21 (bI (fun b=>[s0 17, .row (pid (b 0)) 295]) (aB cI (l1 bU))),jS 33 (bI (fun b=>[s0 20, s0 21]) (aB cI (l1 cI))),jS 100008 (bI (fun b=>[s0 10]) (l1 cI)),jS 100012 (bI (fun b=>[.row (pid (b 0)) 295]) (l1 bU)),jS 100020 (bI (fun b=>[s0 14]) (l1 cI)),jS 100024 (bI (fun b=>[.row (pid (b 0)) 295]) (l1 bU)),jS 100032 (bI (fun b=>[s0 20, s0 21]) (aB cI (l1 cI))),jS 100038 (bI (fun b=>[s0 20]) (l1 cI)),jS 100041 (bI (fun b=>[.row (pid (b 0)) 295]) (l1 bU)),jS 100043 (bI (fun b=>[.row (pid (b 0)) 295]) (l1 bU))] func418 ntmps418 (fun a=>asQ c a.1.2.1 a.1.2.2.1 a.1.2.2.2.1 a.2) (fun a h=>⟨az4 c a.1.2.1 a.1.2.2.1 a.1.2.2.2.1 a.2 h,rfl⟩) (pz (n:=220) rfl)
def axU:aZ Z:=⟨418,qj (kN (ak (oD 0) (ak (bC cI) (ak (bC cI) (ak (bC cI) (a1 (lH 241 [])))))) (b1 (lh 295 D.Raw mF))) (shr [.row 0 295] (l1 bU)) 0 [] (fun a=>some (ZJ (fun _ _=>True) (((a.1.2.2.2.1) - (a.1.2.1)).toNat+1) (a.1.2.1) (a.1.2.2.1) (a.1.2.2.2.1) (a.2))) (fun a=>aov (a.1.2.1) (a.1.2.2.1) (a.1.2.2.2.1) (a.2)),kQ (fun n=>((ax2 n))) _ _ (fun a h=>⟨((a.1.2.2.2.1) - (a.1.2.1)).toNat+1,h,rfl⟩)⟩
def aGY (n:Int)(l:List Raw):Pg (List Raw):=aap (fun a=>a) atY (fun _ _=>True) qf aov n l
def aLo (n:Int)(l:List Raw):=(aGY n l).val
theorem aC_ (n:Int)(l:List Raw)(h:stQ (fun _ _=>True) n l):Is (aGY n l):=
 (AC (fun _=>rfl) (SB:=aov) (fun a m b l h=>NE _ a m b l h) h).1
def awM:aZ Z:=H7 [WO,awc,axU] [jS 2 (bI (fun b=>[s0 7, s0 8, .row (pid (b 0)) 295]) (aB cI (aB cI (l1 bU)))),jS 7 (bI (fun b=>[s0 6, .row (pid (b 0)) 295]) (aB cI (l1 bU))),jS 9 (bI (fun b=>[s0 7, s0 8, .row (pid (b 0)) 295]) (aB cI (aB cI (l1 bU)))),jS 100006 (bI (fun b=>[s0 7, .row (pid (b 0)) 295]) (aB cI (l1 bU))),jS 100013 (bI (fun b=>[s0 7, .row (pid (b 0)) 295]) (aB cI (l1 bU)))] (ak (oD 0) (ak (bC cI) (a1 (lH 241 [])))) (b1 (lh 295 D.Raw mF)) (shr [.row 0 295] (l1 bU)) [] func320 0 (fun a=>aGY a.1.2.1 a.2) (fun a=>stQ (fun _ _=>True) a.1.2.1 a.2) fun a h=>aC_ a.1.2.1 a.2 h
def aG9 (l:List Raw):Pg (List Raw):=.ob (stQ (fun(x b:Raw)=>True) (↑l.length:Int) l) (.lt (aLo (↑l.length:Int) l) fun a=> aL a (.ret a))
def Q9 (l:List Raw):=(aG9 l).val
theorem aAn (l:List Raw)(h:uq (fun _ _=>True) l):Is (aG9 l):=
 aY ((⟨h,rfl⟩)) (dI fun b a=>gp fun _=>aQ)
def avK:aZ Z:=H7 [WO,awM] [] (ak (oD 0) (a1 (lH 241 []))) (b1 (lh 295 D.Raw mF)) (shr [.row 0 295] (l1 bU)) [] func240 0 (fun a=>aG9 a.2) (fun a=>uq (fun _ _=>True) a.2) fun a h=>aAn a.2 h
theorem apE {l:List Raw}(h:uq (fun _ _=>True) l):(Q9 l).Perm l:=
 (AC (fun _=>rfl) (c:=atY) (q:=(fun _ _=>True)) (d:=qf) (SB:=aov) (fun a m b l h=>NE _ a m b l h) ⟨h,rfl⟩).2
theorem aor {l:List Raw}(h:l.length<=1048576):(Q9 l).Perm l:=apE ⟨by omega,fun _ _ _ _=>trivial⟩
def m_ (u:Int):Prop:=0<=u/\u < 18446744073709551616
theorem u8_or:∀y,y < 256->y ||| 128=y % 128+128:=by decide+kernel
theorem afv (x:Nat)(a:x < 18446744073709551616):orI .u8 (dA .u8 (x:Int)) 128=((x % 128+128:Nat):Int):=by
 rw[aoU (k:= .u8) rfl];refine(ame (k:= .u8) rfl (y:=128) (Qcw _ mi) mi).trans ?_;rw[show(2:Nat) ^ IntKind.u8.bits=256 from rfl,u8_or _ (Qcw _ mi)];congr 2;omega
theorem yh (x:Nat):Ar .u64 (x:Int) 7=((x / 128:Nat):Int):=ahg (k:= .u64) x 7 mi
theorem aB3 (x:Nat)(h:x < 128):dA .u8 (x:Int)=(x:Int):=Po (k:= .u8) rfl (show x < 2 ^ 8 by omega)
def aE2 (X:Int×List Int):Prop:=∃x:Nat,X.1=(x:Int)/\X.2.length<=9/\x < 2 ^ (64 - 7*X.2.length)
theorem ajD {x:Nat}{b:List Int}{v:Int}(d:b.length<=9)(a:x < 2 ^ (64 - 7*b.length))(c:128<=x):aE2 (((x / 128:Nat):Int),b++[v]):=by
 refine⟨x / 128,rfl,?_,?_⟩
 ·show(b++[v]).length<=9
  rw[um,Qbw];rcases(by omega:b.length=9\/b.length<=8)with h | h
  ·rw[h]at a;have:x < 2:=a;omega
  ·omega
 ·show x / 128 < 2 ^ (64 - 7*(b++[v]).length)
  rw[um,Qbw];rcases(by omega:b.length=9\/b.length<=8)with h | h
  ·rw[h]at a;have:x < 2:=a;omega
  ·have e:64 - 7*b.length=(64 - 7*(b.length+1))+7:=by omega
   rw[e,Nat.pow_add]at a;omega
theorem aNl {x k:Nat}(h:x < 2 ^ (64 - 7*k)):x < 18446744073709551616:=Qb5 h (show 2 ^ (64 - 7*k)<=2 ^ 64 from Qd0 mi au)
def aHP (u:Int):Pg (List UInt8):=.wh (u.toNat+1) default (fun(a:Int×List Int)=> .br (decide (128<=a.1)) (.ob (bZ (a.2.length+1) 1) (.ob ((0:Int)<=7) (rl (Ar .u64 a.1 7,a.2++[orI .u8 (dA .u8 a.1) 128])))) (.ob (bZ (a.2.length+1) 1) (.lt (a.2++[dA .u8 a.1]) fun(b:List Int)=> .ob (JQ (fun(i:Nat)=>true) b.length=true) (.ret (.inr (txU b)))))) (u,[])
def Xy (u:Int):=(aHP u).val
theorem aDD (u:Int)(h:m_ u):Is (aHP u):=
 by
 have h:0<=u/\u < 18446744073709551616:=h;obtain⟨x,rfl⟩:∃x:Nat,u=(x:Int):=⟨u.toNat,by omega⟩;have f:x < 18446744073709551616:=by omega
 refine Ep aE2 (fun X=>X.1.toNat) ⟨x,rfl,ve _,f⟩ (by show x < x+1;omega) (fun X g=> ?_);obtain⟨i,b⟩:=X;obtain⟨x,rfl,c,a⟩:=g;dsimp only at c a⊢;rw[yh,afv x (aNl a)];refine⟨dB (fun _=>aY (dm au au) (aY au aQ)) (fun _=>aY (dm au au) (dI fun m j=>aY (xY (fun _=>rfl) _) aQ)),fun l d=> ?_⟩;revert d;simp only[bf,bY,cZ,aI,Qa6,X6];split
 ·rename_i k;intro e;injection e with e
  subst e;refine⟨ajD c a au,?_⟩;show((x / 128:Nat):Int).toNat < (x:Int).toNat
  omega
 ·intro e;cases e
def acb:aZ Z:=E1 [] [jS 2 (bI (fun b=>[s0 0, .slot 3 false [some 5]]) (aB (h_ .u64) (l1 PM)))] (a1 (bC (h_ .u64))) (R1 cStr) [] func263 1 aHP (fun a=>m_ a) fun a h=>aDD a h
theorem ahe (x:Nat)(c:x < 18446744073709551616):Xy (x:Int)=txU ((aiU 10 x).map Int.ofNat):=by
 have f:∀(k n x:Nat) (b:List Int),x < n->x < 128 ^ k->1<=k->x < 18446744073709551616->RV (fun(a:Int×List Int)=>(bif decide (128<=a.1)then(Sum.inl (Ar .u64 a.1 7,a.2++[orI .u8 (dA .u8 a.1) 128]):(Int×List Int)⊕List UInt8)else .inr (txU (a.2++[dA .u8 a.1])))) default n ((x:Int),b)=txU (b++(aiU k x).map Int.ofNat):=by
  intro k;induction k with
  | zero=>intro n x b _ _ h;omega
  | succ k e=>
   intro n x b g d _ c;obtain⟨n,rfl⟩:∃m,n=m+1:=⟨n - 1,by omega⟩;unfold RV aiU;by_cases h:x < 128
   ·rw[yY h,qM (show ¬(128:Int)<=(x:Int) by omega)];simp only[mX,aB3 x h];rfl
   ·rw[yc h,rY (show(128:Int)<=(x:Int) by omega)];simp only[uu,yh,afv x c];rw[Nat.pow_succ]at d;rw[e n (x / 128) _ au au (by
      rcases k with _ | k;· simp at d;omega
      ·omega) au,Qbc]
    rfl
 exact f 10 ((x:Int).toNat+1) x [] au (Qb5 c mi) mi c
theorem amE:∀(k x:Nat),(aiU k x).length<=k
 | 0,x=>nO _
 | k+1,x=>by
  unfold aiU;split
  ·simp
  ·simp only[yG];have:=amE k (x / 128);omega
theorem Tj (u:Int)(h:0<=u/\u < 18446744073709551616):(Xy u).length<=10:=by
 obtain⟨x,rfl⟩:∃x:Nat,u=(x:Int):=⟨u.toNat,by omega⟩;rw[ahe x au,G9,Qb0];exact amE 10 x
def ZF (u i:Nat)(t:Nat×Nat×Int):Int×Int×Int:=if t.2.2=0 then(((u+2 ^ (7*i)*t.1:Nat):Int),((i+t.2.1:Nat):Int),0)else(0,0,t.2.2)
theorem aGw {u i c:Nat}(b:u < 2 ^ (7*i))(a:i<=8\/i=9/\c<=1)(h:c < 128):c*2 ^ (7*i) < 2 ^ 64/\u ||| (c*2 ^ (7*i))=u+2 ^ (7*i)*c/\u+2 ^ (7*i)*c < 2 ^ 64:=by
 have d:u ||| (c*2 ^ (7*i))=u+2 ^ (7*i)*c:=by
  rw[Nat.or_comm,Qcl,<-Nat.two_pow_add_eq_or_of_lt b,Nat.add_comm]
 rw[d];rcases a with a | ⟨rfl,e⟩
 ·have g:2 ^ (7*i)<=2 ^ 56:=Qd0 mi au;generalize 2 ^ (7*i)=p at*;have f:c*p<=127*p:=Zh p au;rw[Qcl p c];refine⟨by omega,rfl,by omega⟩
 ·have:c=0\/c=1:=by omega
  rcases this with rfl | rfl<;>refine⟨by decide,rfl,by omega⟩
theorem aH1 (c:UInt8):dA .u64 (uO .u8 (c.toNat:Int) 127)=((c.toNat % 128:Nat):Int):=by
 have a:=c.toNat_lt;have e:uO .u8 (c.toNat:Int) 127=((c.toNat &&& 127:Nat):Int):=XF (k:= .u8) rfl (y:=127) a mi;rw[e,show c.toNat &&& 127=c.toNat % 128 from Nat.and_two_pow_sub_one_eq_mod _ 7];exact Po (k:= .u64) rfl (Nat.lt_trans (Qcw _ mi) (by decide:128 < 2 ^ 64))
theorem aAb (u i:Nat)(c:UInt8)(d:u < 2 ^ (7*i))(g:i<=8\/i=9/\c.toNat<=1):orI .u64 (u:Int) (Zj .u64 (dA .u64 (uO .u8 (c.toNat:Int) 127)) (dA .i64 (7*(i:Int))))=((u+2 ^ (7*i)*(c.toNat % 128):Nat):Int):=by
 have f:c.toNat % 128 < 128:=Qcw _ mi;obtain⟨b,e,j⟩:=aGw d (g.imp id fun h=>⟨h.1,by omega⟩) f;have w:dA .i64 (7*(i:Int))=((7*i:Nat):Int):=by rw[dU (k:= .i64) tZ];omega
 rw[aH1,w,as1 (k:= .u64) rfl (show 7*i<=64 by omega) b];have a:u < 2 ^ 64:=by omega
 rw[ame (k:= .u64) rfl a b,e]
theorem drop_at {s:Str}{i:Nat}(h:i < s.length):s.drop i=s.getD i 0::s.drop (i+1):=by
 rw[Qb h];simp[List.getD,h]
theorem av3 (u i:Nat)(c:UInt8)(r:Str)(b:¬(i=9/\1 < c.toNat))(d:¬c.toNat < 128):ZF u i (oz i (c::r))=ZF (u+2 ^ (7*i)*(c.toNat % 128)) (i+1) (oz (i+1) r):=by
 conv=>lhs;unfold oz
 rw[yc b,yc d];generalize oz (i+1) r=t;obtain⟨v,n,e⟩:=t;dsimp only;by_cases a:e=0
 ·subst a;unfold ZF;dsimp only;rw[yY rfl,yY rfl,yY rfl];have f:u+2 ^ (7*i)*(c.toNat % 128+128*v)=u+2 ^ (7*i)*(c.toNat % 128)+2 ^ (7*(i+1))*v:=by
   rw[show 7*(i+1)=7*i+7 by omega,Nat.pow_add,Nat.mul_add,Qe,<-Nat.mul_assoc]
  rw[f,show i+(n+1)=i+1+n by omega]
 ·unfold ZF;rw[yc a,yc a,yc a]
def asw (s:Str):Pg (Int×Int×Int):=.wh (11) default (fun(a:Int×Int)=> .as (List.length s<=9223372036854775807) (.br (a.2==(↑(List.length s):Int)) (.ret (.inr (0,0,4))) (.ix a.2 (List.length s) (.cut (fun(e:Unit)=> .lt (dA .i64 (7*a.2)) fun d=> .ob (0<=d) (.lt (orI .u64 a.1 (Zj .u64 (dA .u64 (uO .u8 (↑(List.getD s a.2.toNat 0).toNat:Int) 127)) d)) fun b=> .lt (dA .i64 (a.2+1)) fun c=> .br (decide ((↑(List.getD s a.2.toNat 0).toNat:Int) < 128)) (.ret (.inr (b,c,0))) (rl (b,c)))) (.br (a.2==9) (.br (decide (1 < (↑(List.getD s a.2.toNat 0).toNat:Int))) (.ret (.inr (.inr (0,0,6)))) (rl ())) (rl ())))))) (0,0)
def wX (s:Str):=(asw s).val
theorem aus (s:Str):Is (asw s):=
 by
 refine Ep (fun X=>0<=X.2/\X.2<=9/\X.2<=s.length) (fun X=>(10 - X.2).toNat) ⟨by decide,by decide,by simp⟩ mi (fun X g=> ?_);obtain⟨u,n⟩:=X;obtain⟨i,j,h⟩:=g;dsimp only at i j h⊢;have w:dA .i64 (7*n)=7*n:=dU (k:= .i64) tZ;have f:dA .i64 (n+1)=n+1:=dU (k:= .i64) tZ;rw[w,f];refine⟨gp fun _=>dY iR (fun m=>b_ au au (kX (dY (fun _=>dB iR iR) iR) (fun y v=>dI fun t p=>aY au (dI fun r l=>dI fun x o=>dB iR iR)))),fun q b=> ?_⟩;revert b;simp only[iG,bf,eU,jk,cZ,bY,aI,Qa6,X6,Qb6];by_cases c:n=(s.length:Int)
 ·rw[yY c];intro e;cases e
 rw[yc c];by_cases d:n=9
 ·rw[yY d];by_cases a:(1:Int) < ((s.getD n.toNat 0).toNat:Int)
  ·rw[yY a];intro e;cases e
  ·rw[yc a,jc,yY au];intro e;cases e
 ·rw[yc d,jc];split
  ·intro e;cases e
  ·intro e;injection e with e
   subst e;exact⟨⟨by show 0<=n+1;omega,by show n+1<=9;omega,by show n+1<=(s.length:Int);omega⟩,by show(10 - (n+1)).toNat < (10 - n).toNat;omega⟩
def aBL:aZ Z:=E0 [] [jS 3 (bI (fun b=>[s0 5, s0 6]) (aB (h_ .u64) (l1 cI))),jS 100008 (bI (fun b=>[]) l0)] (a1 (bC cStr)) (shr [s0 0, s0 1, s0 2] (aB (h_ .u64) (aB cI (l1 cI)))) [] func395 3 asw fun a=>aus a
theorem aNs {u i c:Nat}(b:u < 2 ^ (7*i)):u+2 ^ (7*i)*(c % 128) < 2 ^ (7*(i+1)):=by
 rw[show 7*(i+1)=7*i+7 by omega,Nat.pow_add];have d:c % 128 < 128:=Qcw _ mi;generalize 2 ^ (7*i)=p at*;have a:p*(c % 128)<=p*127:=Qdm p au;omega
theorem azZ (u i:Nat):ZF u i (oz i [])=(0,0,4):=rfl
theorem azS (u i:Nat)(c:UInt8)(r:Str)(a:i=9/\1 < c.toNat):ZF u i (oz i (c::r))=(0,0,6):=by
 unfold oz;rw[yY a];rfl
theorem aBU (u i:Nat)(c:UInt8)(r:Str)(b:¬(i=9/\1 < c.toNat))(a:c.toNat < 128):ZF u i (oz i (c::r))=(((u+2 ^ (7*i)*(c.toNat % 128):Nat):Int),((i+1:Nat):Int),0):=by
 unfold oz;rw[yc b,yY a,Qcm a];rfl
theorem awT (s:Str):wX s=ZF 0 0 (oz 0 s):=by
 have g:∀(m i u:Nat),i<=9->i<=s.length->u < 2 ^ (7*i)->10 - i < m->RV (fun(a:Int×Int)=>bif a.2==(s.length:Int)then(Sum.inr (0,0,4):(Int×Int)⊕(Int×Int×Int))else thenS (bif a.2==9 then(bif decide ((1:Int) < ((s.getD a.2.toNat 0).toNat:Int))then(Sum.inr (.inr (0,0,6)):Unit⊕((Int×Int)⊕(Int×Int×Int)))else .inl ())else .inl ()) fun _=>bif decide (((s.getD a.2.toNat 0).toNat:Int) < 128)then Sum.inr (orI .u64 a.1 (Zj .u64 (dA .u64 (uO .u8 ((s.getD a.2.toNat 0).toNat:Int) 127)) (dA .i64 (7*a.2))),dA .i64 (a.2+1),0)else .inl (orI .u64 a.1 (Zj .u64 (dA .u64 (uO .u8 ((s.getD a.2.toNat 0).toNat:Int) 127)) (dA .i64 (7*a.2))),dA .i64 (a.2+1))) default m ((u:Int),(i:Int))=ZF u i (oz i (s.drop i)):=by
  intro m;induction m with
  | zero=>intro i u _ _ _ h;omega
  | succ m o=>
   intro i u r p j t;unfold RV;dsimp only;by_cases l:i=s.length
   ·have:((i:Int)==(s.length:Int))=true:=by rw[l];simp
    rw[this,List.drop_eq_nil_of_le au,azZ];rfl
   ·have:((i:Int)==(s.length:Int))=false:=by rw[Qbu];omega
    rw[this,mX,xw,drop_at au];generalize s.getD i 0=c;by_cases b:i=9/\1 < c.toNat
    ·rw[azS _ _ _ _ b];have e:((i:Int)==9)=true:=by rw[b.1];rfl
     have f:decide ((1:Int) < (c.toNat:Int))=true:=rY au;rw[e,f];rfl
    ·have q:(bif (i:Int)==9 then(bif decide ((1:Int) < (c.toNat:Int))then(Sum.inr (.inr (0,0,6)):Unit⊕((Int×Int)⊕(Int×Int×Int)))else .inl ())else .inl ())= .inl ():=by
      by_cases d:i=9
      ·have f:decide ((1:Int) < (c.toNat:Int))=false:=qM au;rw[f];cases(i:Int)==9<;>rfl
      ·have e:((i:Int)==9)=false:=by rw[Qbu];omega
       rw[e];rfl
     have n:i<=8\/i=9/\c.toNat<=1:=by omega
     have k:dA .i64 ((i:Int)+1)=((i+1:Nat):Int):=ru au;rw[q,jc,aAb u i c j n,k];by_cases d:c.toNat < 128
     ·rw[aBU _ _ _ _ b d,rY (show(c.toNat:Int) < 128 by omega)];rfl
     ·rw[av3 _ _ _ _ b d,qM (show ¬(c.toNat:Int) < 128 by omega)];exact o (i+1) _ au au (aNs j) au
 exact g 11 0 0 mi (ve _) mi mi
theorem avQ (s:Str):m_ (wX s).1/\0<=(wX s).2.1/\(wX s).2.1<=s.length/\((wX s).2.2=0\/(wX s).2.2=4\/(wX s).2.2=6)/\((wX s).2.2=0->1<=(wX s).2.1):=by
 rw[awT];have d:∀(r:Str) (i:Nat),(oz i r).2.2=0\/(oz i r).2.2=4\/(oz i r).2.2=6:=by
  intro r;induction r with
  | nil=>intro i;exact .inr (.inl rfl)
  | cons c r f=>
   intro i;unfold oz;split
   ·exact .inr (.inr rfl)
   ·split
    ·exact .inl rfl
    ·have:=f (i+1);generalize oz (i+1) r=t at*;obtain⟨u,n,e⟩:=t;dsimp only at this⊢;split
     ·exact .inl rfl
     ·exact this
 unfold ZF;by_cases h:(oz 0 s).2.2=0
 ·obtain⟨l,b,g,m,o,j,k,a⟩:=Vu s 0 mi h;have:=aDk b;rw[yY h];have a:(oz 0 s).1 < 18446744073709551616:=a;rw[Dw,Dw,Nat.mul_zero,Nat.pow_zero,Nat.one_mul];dsimp only;exact⟨⟨by omega,by omega⟩,by omega,by omega, .inl rfl,fun _=>by omega⟩
 ·rw[yc h];dsimp only;exact⟨⟨MS _,by decide⟩,MS _,by omega,(d s 0),fun e=>absurd e h⟩
def aJU (u:Int):Pg Int:=.ob ((0:Int)<=1) (.ret (ajB .i64 (dA .i64 (Ar .u64 u 1)) (dA .i64 (-dA .i64 (uO .u64 u 1)))))
def aEc (u:Int):=(aJU u).val
def aIX:aZ Z:=E0 [] [] (a1 (bC (h_ .u64))) (R1 cI) [] func449 1 aJU
def alq (c:aS):Pg Bool:=.br (decide (0<=c.At)) (.br (decide (c.At<=c.End)) (.as (List.length c.Data<=9223372036854775807) (.ret (decide (c.End<=(↑(List.length c.Data):Int))))) (.ret false)) (.ret false)
def NK (c:aS):=(alq c).val
def XA:aZ Z:=E0 [] [] (a1 (aJ eF)) (R1 aG) [] func303 1 alq
def av_ (c:aS):Pg Int:=.br (!NK c) (.ret 0) (.ret (dA .i64 (c.End - c.At)))
def vz (c:aS):=(av_ c).val
def Ad:aZ Z:=E0 [XA] [] (a1 (aJ eF)) (R1 cI) [] func230 1 av_
def aiX (c:aS)(n:Int):Pg aS:=.ret (aS.mk c.Data (dA .i64 (c.At+n)) c.End c.Depth c.Nodes c.Text)
def sK (c:aS)(n:Int):=(aiX c n).val
def LZ:aZ Z:=E0 [] [] (ak (aJ eF) (a1 (bC cI))) (shr [.slot 0 true (nn 6)] (l1 eF)) [] func397 1 (u2 aiX)
def n_ (c:aS):Prop:=(0<=c.At/\c.At<=c.End/\c.End<=c.Data.length/\c.Data.length<=1048576)/\(0<=c.Depth/\c.Depth<=1048576)/\(0<=c.Nodes/\c.Nodes<=1099511627776)/\0<=c.Text/\c.Text<=1099511627776
def Rt (c:aS):Str:=(c.Data.take c.End.toNat).drop c.At.toNat
theorem abj {c:aS}(h:n_ c):((Rt c).length:Int)=c.End - c.At:=by
 obtain⟨⟨d,e,b,a⟩,_⟩:=h;unfold Rt;rw[Qbs,QA];omega
theorem O3 {c:aS}(h:n_ c):NK c=true:=by
 obtain⟨⟨b,d,a,e⟩,_⟩:=h;unfold NK alq;simp only[bf,iG,aI];rw[rY b,rY d,rY a];rfl
theorem su {c:aS}(h:n_ c):vz c=c.End - c.At:=by
 have a:=O3 h;obtain⟨⟨e,f,d,b⟩,_⟩:=h;unfold vz av_;simp only[bf,aI,a,Qbm,mX];exact dU (k:= .i64) tZ
theorem Ho {c:aS}(h:n_ c){n:Int}(f:0<=n)(g:n<=c.End - c.At):sK c n=aS.mk c.Data (c.At+n) c.End c.Depth c.Nodes c.Text/\n_ (sK c n):=by
 obtain⟨⟨j,i,d,b⟩,a⟩:=h;have e:sK c n=aS.mk c.Data (c.At+n) c.End c.Depth c.Nodes c.Text:=by
  unfold sK aiX;simp only[aI];rw[dU (k:= .i64) tZ]
 rw[e];exact⟨rfl,⟨by show 0<=c.At+n;omega,by show c.At+n<=c.End;omega,d,b⟩,a⟩
def aoy (c:aS)(n:Int):Pg (List UInt8):=.br (!NK c) (.ret []) (.lt (dA .i64 (c.At+n)) fun a=> .ob (0<=c.At/\c.At<=min c.End a/\min c.End a<=(↑(List.length c.Data):Int)) (.ret (List.drop c.At.toNat (List.take (min c.End a).toNat c.Data))))
def sZ (c:aS)(n:Int):=(aoy c n).val
theorem avW (c:aS)(n:Int)(h:n_ c/\0<=n/\n<=1000):Is (aoy c n):=
 aT iR (fun _=>ni fun g a _=>aY (by obtain⟨⟨⟨i,j,e,b⟩,_⟩,d,f⟩:=h;omega) (aQ))
def aok:aZ Z:=E1 [XA] [] (ak (aJ eF) (a1 (bC cI))) (R1 cStr) [] func396 1 (u2 aoy) (fun a=>n_ a.1/\0<=a.2/\a.2<=1000) fun a h=>avW a.1 a.2 h
theorem ahj {c:aS}(h:n_ c){n:Nat}(e:n<=1000):sZ c n=(Rt c).take n:=by
 have a:=O3 h;obtain⟨⟨f,g,d,b⟩,_⟩:=h;unfold sZ aoy Rt;simp only[bf,cZ,bY,aI,a,Qbm,mX];rw[dU (k:= .i64) tZ,List.take_drop];congr 1;rw[List.take_take];congr 1;omega
def aoa (c:aS):Pg (Int×aS×Int):=.lt (vz c) fun a=> .br (decide (a < 1)) (.ret (0,c,4)) (.ix c.At (List.length c.Data) (.ret ((↑(List.getD c.Data c.At.toNat 0).toNat:Int),sK c 1,0)))
def Js (c:aS):=(aoa c).val
theorem ayo (c:aS)(h:n_ c):Is (aoa c):=
 dI fun d a=>dB iR (fun b=>by rw[a,su h]at b;obtain⟨⟨g,f,i,e⟩,_⟩:=h;exact b_ au au aQ)
def aBo:aZ Z:=E1 [Ad,LZ] [] (a1 (aJ eF)) (shr [s0 0, .slot 1 true (nn 6), s0 2] (aB (h_ .u8) (aB eF (l1 cI)))) [] func403 3 aoa (fun a=>n_ a) fun a h=>ayo a h
def TB (c:aS):Pg (Int×aS×Int):=.ob (n_ c/\(0:Int)<=10/\(10:Int)<=1000) (.lt (wX (sZ c 10)) fun a=> .br (a.2.2 !=0) (.ret (0,c,a.2.2)) (.ret (a.1,sK c a.2.1,0)))
def dw (c:aS):=(TB c).val
theorem akY (c:aS)(h:n_ c):Is (TB c):=
 aY ((⟨h,by decide,by decide⟩)) (dI fun b a=>iW iR iR)
def Be:aZ Z:=E1 [aBL,aok,LZ] [] (a1 (aJ eF)) (shr [s0 0, .slot 1 true (nn 6), s0 2] (aB (h_ .u64) (aB eF (l1 cI)))) [] func304 3 TB (fun a=>n_ a) fun a h=>akY a h
def aj9 (c:aS)(n:Int):Pg (aS×Int):=.br (decide (n < 0)) (.ret (c,1)) (.br (decide (c.Nodes < n)) (.ret (c,3)) (.ret (aS.mk c.Data c.At c.End c.Depth (dA .i64 (c.Nodes - n)) c.Text,0)))
def sU (c:aS)(n:Int):=(aj9 c n).val
def agH:aZ Z:=E0 [] [] (ak (aJ eF) (a1 (bC cI))) (shr [.slot 0 true (nn 6), s0 1] (aB eF (l1 cI))) [] func229 2 (u2 aj9)
def ajn (c:aS)(n:Int):Pg (aS×Int):=.br (decide (n < 0)) (.ret (c,1)) (.lt (vz c) fun a=> .br (decide (a < n)) (.ret (c,4)) (.br (decide (c.Depth < 1)) (.ret (c,17)) (.ret (aS.mk c.Data c.At (dA .i64 (c.At+n)) (dA .i64 (c.Depth - 1)) c.Nodes c.Text,0))))
def TY (c:aS)(n:Int):=(ajn c n).val
def auz:aZ Z:=E0 [Ad] [] (ak (aJ eF) (a1 (bC cI))) (shr [.slot 0 true (nn 6), s0 1] (aB eF (l1 cI))) [] func446 2 (u2 ajn)
def akB (c:aS)(a:aS):Pg aS:=.br (!NK c) (.ret c) (.br (decide (a.End < c.At)) (.ret c) (.br (decide (c.End < a.End)) (.ret c) (.br (decide (a.Nodes < 0)) (.ret c) (.br (decide (c.Nodes < a.Nodes)) (.ret c) (.ret (aS.mk c.Data a.End c.End c.Depth a.Nodes c.Text))))))
def G6 (c:aS)(a:aS):=(akB c a).val
def ata:aZ Z:=E0 [XA] [] (ak (aJ eF) (a1 (aJ eF))) (shr [.slot 0 true (nn 6)] (l1 eF)) [] func447 1 (u2 akB)
def Ez (k:Int)(c d:aS):Prop:=n_ d/\d.Data=c.Data/\d.End=c.End/\d.Depth=c.Depth/\d.Text=c.Text/\d.Nodes<=c.Nodes/\c.At+k<=d.At
theorem Ha {c:aS}(h:n_ c){n k:Int}(a:0<=n)(b:n<=c.End - c.At)(d:k<=n):Ez k c (sK c n):=by
 obtain⟨e,q⟩:=Ho h a b;rw[e]at q⊢;exact⟨q,rfl,rfl,rfl,rfl,MS _,by show c.At+k<=c.At+n;omega⟩
theorem lq {a b:Int}{c d e:aS}(n:Ez a c d)(p:Ez b d e):Ez (a+b) c e:=by
 obtain⟨_,i,j,f,o,q,t⟩:=n;obtain⟨k,h,m,g,l,r,s⟩:=p;exact⟨k,h.trans i,m.trans j,g.trans f,l.trans o,by omega,by omega⟩
theorem lI {a b:Int}{c d:aS}(h:Ez a c d)(l:b<=a):Ez b c d:=by
 obtain⟨k,e,g,i,j,f,m⟩:=h;exact⟨k,e,g,i,j,f,by omega⟩
theorem lM {a:Int}:(a !=0)=false ↔ a=0:=by simp
theorem mV {c:aS}(h:n_ c):m_ (dw c).1/\((dw c).2.2=0->Ez 1 c (dw c).2.1/\(dw c).2.1.Nodes=c.Nodes):=by
 have k:=avQ (sZ c 10);have g:=abj h;have f:=ahj h (n:=10) mi;unfold dw TB;simp only[bY,cZ,bf,aI];cases e:(wX (sZ c 10)).2.2 !=0 with
 | true=>
  refine⟨by show(0:Int)<=0/\(0:Int) < 18446744073709551616;decide,fun a=> ?_⟩;have a:(wX (sZ c 10)).2.2=0:=a;rw[a]at e;cases e
 | false=>
  have d:=lM.1 e;refine⟨k.1,fun _=> ?_⟩;have b:(sZ c 10).length<=(Rt c).length:=by
   rw[show sZ c 10=(Rt c).take 10 from f,QA];omega
  refine⟨Ha h k.2.1 (by have:=k.2.2.1;omega) (k.2.2.2.2 d),rfl⟩
def agk (s:Str):Pg (Int×Int):=.br (decide ((↑(List.length s):Int) < 8)) (.ret (0,4)) (.cnt oZ 0 8 (fun(a b:Int)=> .ix a (List.length s) (.lt (dA .i64 (8*a)) fun c=> .ob (0<=c) (rl (orI .u64 b (Zj .u64 (dA .u64 (↑(List.getD s a.toNat 0).toNat:Int)) c))))) (fun(a b:Int)=> .ret (b,0)) 0)
def E8 (s:Str):=(agk s).val
theorem auk (s:Str):Is (agk s):=
 dB iR (fun _=>O7 au au (fun a b _ _=>b_ au au (ni fun d c _=>aY au (aQ))) (fun a b _ _=>aQ))
def aDo:aZ Z:=E0 [] [jS 5 (bI (fun b=>[s0 9, s0 4]) (aB cI (l1 (h_ .u64))))] (a1 (bC cStr)) (shr [s0 0, s0 1] (aB (h_ .u64) (l1 cI))) [] func450 2 agk fun a=>auk a
def YU (c:aS):Pg (Int×aS×Int):=.ob (n_ c/\(0:Int)<=8/\(8:Int)<=1000) (.lt (E8 (sZ c 8)) fun a=> .br (a.2 !=0) (.ret (0,c,a.2)) (.ret (a.1,sK c 8,0)))
def Aa (c:aS):=(YU c).val
theorem ap4 (c:aS)(h:n_ c):Is (YU c):=
 aY ((⟨h,by decide,by decide⟩)) (dI fun b a=>iW iR iR)
def ah_:aZ Z:=E1 [aok,LZ,aDo] [] (a1 (aJ eF)) (shr [s0 0, .slot 1 true (nn 6), s0 2] (aB (h_ .u64) (aB eF (l1 cI)))) [] func409 3 YU (fun a=>n_ a) fun a h=>ap4 a h
def acW (c:aS)(n:Int):Pg (List Int):=.lt (dA .i64 (c.At+n)) fun a=> .ob (0<=c.At/\c.At<=a/\a<=(↑(List.length c.Data):Int)) (.ob (0<=n/\n=n/\n<=(↑(Ya (List.drop c.At.toNat (List.take a.toNat c.Data))).length:Int)) (.ret (List.take n.toNat (Ya (List.drop c.At.toNat (List.take a.toNat c.Data))))))
def ae5 (c:aS)(n:Int):=(acW c n).val
theorem arj (c:aS)(n:Int)(h:n_ c/\0<=n/\n<=c.End - c.At):Is (acW c n):=
 ni fun j i _=>aY (by obtain⟨⟨⟨f,g,d,a⟩,_⟩,b,e⟩:=h;omega) (aY (by obtain⟨⟨⟨f,g,d,a⟩,_⟩,b,e⟩:=h;rw[zo,Qbs,QA];omega) (aQ))
def asZ:aZ Z:=E1 [] [] (ak (aJ eF) (a1 (bC cI))) (R1 PM) [] func476 1 (u2 acW) (fun a=>n_ a.1/\0<=a.2/\a.2<=a.1.End - a.1.At) fun a h=>arj a.1 a.2 h
def afF (c:aS)(n:Int):Pg (List UInt8×aS×Int):=.br (decide (n < 0)) (.ret ([],c,1)) (.lt (vz c) fun b=> .br (decide (b < n)) (.ret ([],c,4)) (.br (decide (c.Text < n)) (.ret ([],c,3)) (.br (n==0) (.ret ([],c,0)) (.ob (n_ c/\0<=n/\n<=c.End - c.At) (.lt (ae5 c n) fun a=> .ob (JQ (fun(i:Nat)=>true) a.length=true) (.ret (txU a,sK c n,0)))))))
def F_ (c:aS)(n:Int):=(afF c n).val
theorem avy (c:aS)(n:Int)(h:n_ c):Is (afF c n):=
 dB iR (fun _=>dI fun d a=>dB iR (fun _=>dB iR (fun _=>dY iR (fun _=>aY ((⟨h,by omega,by rw[<-su h];omega⟩)) (dI fun e b=>aY (xY (fun _=>rfl) _) (aQ))))))
def aBj:aZ Z:=E1 [Ad,LZ,asZ] [] (ak (aJ eF) (a1 (bC cI))) (shr [s0 0, .slot 1 true (nn 6), s0 2] (aB cStr (aB eF (l1 cI)))) [] func448 3 (u2 afF) (fun a=>n_ a.1) fun a h=>avy a.1 a.2 h
theorem ayK {c:aS}(h:n_ c){a:Int×aS×Int}(g:a=dw c)(n:a.2.2=0){d f b:Int}(l:d=dA .u64 (vz a.2.1))(i:f=dA .i64 a.1)(j:b=dA .i64 (a.2.1.At+f))(p:¬d < a.1):0<=a.2.1.At/\a.2.1.At<=b/\b<=(a.2.1.Data.length:Int):=by
 obtain⟨m,k⟩:=mV h;rw[<-g]at m k;obtain⟨⟨e,_⟩,_⟩:=k n;have o:=su e;obtain⟨⟨s,r,u,q⟩,_⟩:=e;obtain⟨t,u2⟩:=m;rw[o,dU (k:= .u64) tZ]at l;rw[dU (k:= .i64) tZ]at i;rw[dU (k:= .i64) tZ]at j;omega
def aBi (c:aS):Pg (Int×Int×aS×Int):=.ob (n_ c) (.lt (dw c) fun a=> .br (a.2.2 !=0) (.ret (0,0,c,a.2.2)) (.ob ((8:Int)≠0) (.br (a.1.tmod (8:Int)==7) (.ret (0,0,c,5)) (.ob ((8:Int)≠0) (.lt (dA .u64 (a.1.tdiv 8)) fun b=> .br (decide (b < 1)) (.ret (0,0,c,6)) (.ob ((8:Int)≠0) (.br (decide (65535 < b)) (.ret (0,0,c,6)) (.ob ((8:Int)≠0) (.ob ((8:Int)≠0) (.ret (dA .i64 b,dA .i64 (a.1.tmod 8),a.2.1,0)))))))))))
def vg (c:aS):=(aBi c).val
def alo:aZ Z:=E1 [Be] [] (a1 (aJ eF)) (shr [s0 0, s0 1, .slot 2 true (nn 6), s0 3] (aB cI (aB cI (aB eF (l1 cI))))) [] func231 4 aBi fun a=>n_ a
def agq (c:aS)(d:Int):Pg (List UInt8×aS×Int):=.ob (n_ c) (.lt (dw c) fun a=> .br (a.2.2 !=0) (.ret ([],c,a.2.2)) (.cut (fun(f:Int)=> .lt (dA .u64 (vz a.2.1)) fun g=> .br (decide (g < a.1)) (.ret ([],c,4)) (.lt (dA .i64 a.1) fun e=> .br (decide (f < e)) (.ret ([],c,3)) (.lt (dA .i64 (a.2.1.At+e)) fun b=> .ob (0<=a.2.1.At/\a.2.1.At<=b/\b<=(↑(List.length a.2.1.Data):Int)) (.ret (List.drop a.2.1.At.toNat (List.take b.toNat a.2.1.Data), aS.mk a.2.1.Data b a.2.1.End a.2.1.Depth a.2.1.Nodes a.2.1.Text,0))))) (.br (d==3) (rl c.Text) (rl 65536))))
def CW (c:aS)(a:Int):=(agq c a).val
theorem ayk (c:aS)(a:Int)(h:n_ c):Is (agq c a):=
 aY (h) (dI fun j e=>iW iR (fun _=>kX (dY iR iR) (fun i g=>dI fun k b=>dB iR (fun _=>ni fun l d _=>dB iR (fun _=>ni fun m f _=>aY ((ayK h e au b d f au)) (aQ))))))
def aAL:aZ Z:=E1 [Ad,Be] [jS 100007 (bI (fun b=>[s0 10]) (l1 cI))] (ak (aJ eF) (a1 (bC cI))) (shr [s0 0, .slot 1 true (nn 6), s0 2] (aB cStr (aB eF (l1 cI)))) [] func410 3 (u2 agq) (fun a=>n_ a.1) fun a h=>ayk a.1 a.2 h
theorem afI {s:Str}(h:(E8 s).2=0):8<=s.length:=by
 rcases Nat.lt_or_ge s.length 8 with a | a
 ·unfold E8 agk at h;simp only[bf,aI]at h;rw[rY (show(s.length:Int) < 8 by omega)]at h;cases h
 ·exact a
theorem WE {c:aS}(h:n_ c)(a:(Aa c).2.2=0):Ez 1 c (Aa c).2.1/\(Aa c).2.1.Nodes=c.Nodes:=by
 have f:=abj h;have d:=ahj h (n:=8) mi;unfold Aa YU at a⊢;simp only[bY,cZ,bf,aI]at a⊢;cases e:(E8 (sZ c 8)).2 !=0 with
 | true=>
  rw[e]at a;have a:(E8 (sZ c 8)).2=0:=a;rw[a]at e;cases e
 | false=>
  have g:=afI (lM.1 e);have b:(sZ c 8).length<=(Rt c).length:=by
   rw[show sZ c 8=(Rt c).take 8 from d,QA];omega
  exact⟨Ha h mi au mi,rfl⟩
theorem aqp {c:aS}(h:n_ c){n:Int}(a:(F_ c n).2.2=0):Ez 0 c (F_ c n).2.1/\(F_ c n).2.1.Nodes=c.Nodes/\(0<=n/\n<=c.End - c.At)/\(F_ c n).2.1.At=c.At+n:=by
 have g:=su h;unfold F_ afF at a⊢;simp only[bY,cZ,bf,aI]at a⊢;by_cases f:n < 0
 ·rw[rY f]at a;cases a
 rw[qM f]at a⊢;by_cases d:vz c < n
 ·rw[rY d]at a;cases a
 rw[qM d]at a⊢;by_cases e:c.Text < n
 ·rw[rY e]at a;cases a
 rw[qM e];rw[g]at d;cases b:n==0 with
 | true=>
  have b:n=0:=by simpa using b
  subst b;exact⟨⟨h,rfl,rfl,rfl,rfl,MS _,by show c.At+0<=c.At;omega⟩,rfl,⟨MS _,by omega⟩,by show c.At=c.At+0;omega⟩
 | false=>
  refine⟨Ha h au au au,rfl,⟨by omega,by omega⟩,?_⟩;show(sK c n).At=_
  rw[(Ho h (n:=n) au au).1]
theorem BQ {c:aS}(h:n_ c)(a:(vg c).2.2.2=0):Ez 1 c (vg c).2.2.1/\(vg c).2.2.1.Nodes=c.Nodes:=by
 obtain⟨_,k⟩:=mV h;unfold vg aBi at a⊢;simp only[bY,cZ,bf,aI]at a⊢;cases e:(dw c).2.2 !=0 with
 | true=>
  rw[e]at a;have a:(dw c).2.2=0:=a;rw[a]at e;cases e
 | false=>
  rw[e]at a;simp only[mX]at a⊢;cases f:(dw c).1.tmod 8==7 with
  | true=>rw[f]at a;cases a
  | false=>
   rw[f]at a;simp only[mX]at a⊢;by_cases d:dA .u64 ((dw c).1.tdiv 8) < 1
   ·rw[rY d]at a;cases a
   ·rw[qM d]at a⊢;by_cases b:65535 < dA .u64 ((dw c).1.tdiv 8)
    ·rw[rY b]at a;cases a
    ·rw[qM b];exact k (lM.1 e)
theorem ara {c:aS}(h:n_ c){b:Int}(a:(CW c b).2.2=0):Ez 1 c (CW c b).2.1/\(CW c b).2.1.Nodes=c.Nodes:=by
 obtain⟨t,k⟩:=mV h;unfold CW agq at a⊢;simp only[bY,cZ,bf,aI,jk]at a⊢;cases e:(dw c).2.2 !=0 with
 | true=>
  rw[e]at a;have a:(dw c).2.2=0:=a;rw[a]at e;cases e
 | false=>
  obtain⟨g,p⟩:=k (lM.1 e);have d:=g.1;have s:=su d;have q:thenS (bif b==3 then(Sum.inl c.Text:Int⊕(Str×aS×Int))else Sum.inl 65536)=thenS (.inl (bif b==3 then c.Text else 65536)):=by cases b==3<;>rfl
  rw[e]at a;simp only[mX]at a⊢;rw[q]at a⊢;simp only[jc]at a⊢;obtain⟨⟨x,w,u,l⟩,r⟩:=d;obtain⟨y,u2⟩:=t;rw[s,dU (k:= .u64) tZ]at a⊢;by_cases i:(dw c).2.1.End - (dw c).2.1.At < (dw c).1
  ·rw[rY i]at a;cases a
  rw[qM i]at a⊢;rw[dU (k:= .i64) tZ]at a⊢;by_cases f:(bif b==3 then c.Text else 65536) < (dw c).1
  ·rw[rY f]at a;cases a
  rw[qM f];simp only[mX];rw[dU (k:= .i64) tZ];obtain⟨_,m,o,j,v,n,z⟩:=g;exact⟨⟨⟨⟨by show 0<=(dw c).2.1.At+(dw c).1;omega,by show(dw c).2.1.At+(dw c).1<=(dw c).2.1.End;omega,u,l⟩,r⟩,m,o,j,v,n,by show c.At+1<=(dw c).2.1.At+(dw c).1;omega⟩,p⟩
def Bg (c:aS)(f:Raw):Pg (aS×Int×Raw):=.cut (fun(e:Bool)=> .br e (.ob (n_ c) (.lt (dw c) fun d=> .ret (d.2.1,d.2.2,Raw.mk f.Num f.iy d.1 f.Data))) (.br (f.iy==2) (.ob (n_ c) (.lt (Aa c) fun a=> .ret (a.2.1,a.2.2,Raw.mk f.Num f.iy a.1 f.Data))) (.ob (n_ c) (.lt (CW c f.iy) fun b=> .ret (b.2.1,b.2.2,Raw.mk f.Num f.iy f.Bits b.1))))) (.br (f.iy==0) (rl (f.iy==0)) (rl (f.iy==1)))
def jr (c:aS)(f:Raw):=(Bg c f).val
def aha:aZ Z:=H7 [Be,ah_,aAL] [jS 100006 (bI (fun b=>[s0 24]) (l1 aG))] (ak (aJ eF) (a1 (jf 0))) (b1 (aV pF)) (shr [.slot 0 true (nn 6), s0 1, .cells 0 (nn 4)] (aB eF (aB cI (l1 pF)))) [] func311 2 (u11 Bg) fun a=>n_ a.1.1
theorem ajW {c:aS}(h:n_ c){n:Int}(a:(sU c n).2=0):sU c n=(aS.mk c.Data c.At c.End c.Depth (c.Nodes - n) c.Text,0)/\0<=n/\n<=c.Nodes:=by
 obtain⟨f,i,⟨e,g⟩,j⟩:=h;unfold sU aj9 at a⊢;simp only[bf,aI]at a⊢;by_cases b:n < 0
 ·rw[rY b]at a;cases a
 rw[qM b]at a⊢;by_cases d:c.Nodes < n
 ·rw[rY d]at a;cases a
 rw[qM d];have w:dA .i64 (c.Nodes - n)=c.Nodes - n:=dU (k:= .i64) tZ;rw[w];exact⟨rfl,by omega,by omega⟩
theorem yg {c:aS}(h:n_ c){n:Int}(a:(sU c n).2=0):Ez 0 c (sU c n).1/\(sU c n).1.Nodes=c.Nodes - n/\(sU c n).1.At=c.At/\0<=n/\n<=c.Nodes:=by
 obtain⟨e,g,i⟩:=ajW h a;obtain⟨b,d,⟨j,k⟩,f⟩:=h;rw[e];exact⟨⟨⟨b,d,⟨by show 0<=c.Nodes - n;omega,by show c.Nodes - n<=1099511627776;omega⟩,f⟩,rfl,rfl,rfl,rfl,by show c.Nodes - n<=c.Nodes;omega,by show c.At+0<=c.At;omega⟩,rfl,rfl,g,i⟩
theorem I4 {c:aS}(h:n_ c){f:Raw}(a:(jr c f).2.1=0):Ez 1 c (jr c f).1/\(jr c f).1.Nodes=c.Nodes:=by
 have d:∀K:Bool->aS×Int×Raw,(thenS (bif f.iy==0 then(Sum.inl (f.iy==0):Bool⊕(aS×Int×Raw))else Sum.inl (f.iy==1)) K)=K (bif f.iy==0 then true else f.iy==1):=fun K=>by cases e:f.iy==0<;>rfl
 unfold jr Bg at a⊢;simp only[bY,cZ,bf,aI,jk]at a⊢;rw[d]at a⊢;cases e:(bif f.iy==0 then true else f.iy==1)with
 | true=>rw[e]at a;exact(mV h).2 a
 | false=>
  rw[e]at a;cases b:f.iy==2 with
  | true=>rw[b]at a;exact WE h a
  | false=>rw[b]at a;exact ara h a
def abu (c:aS):Pg (Raw×aS×Int):=.ob (n_ c) (.lt (vg c) fun a=> .br (a.2.2.2 !=0) (.ret (Raw.mk 0 0 0 [],c,a.2.2.2)) (.lt (sU a.2.2.1 1) fun d=> .br (d.2 !=0) (.ret (Raw.mk 0 0 0 [],c,d.2)) (.ob (n_ d.1) (.lt (jr d.1 (Raw.mk a.1 a.2.1 0 [])) fun b=> .br (b.2.1 !=0) (.ret (Raw.mk 0 0 0 [],c,b.2.1)) (.ret (b.2.2,b.1,0))))))
def wS (c:aS):=(abu c).val
theorem avJ (c:aS)(h:n_ c):Is (abu c):=
 aY (h) (dI fun f a=>iW iR (fun _=>dI fun g b=>iW iR (fun _=>aY (by have k:=(BQ h (by rw[<-a];omega)).1.1;rw[<-a]at k;have d:=(yg k (n:=1) (by rw[<-b];omega)).1.1;rw[<-b]at d;exact d) (dI fun i e=>iW iR iR))))
def aAy:aZ Z:=E1 [agH,alo,aha] [] (a1 (aJ eF)) (shr [.slot 0 true (nn 4), .slot 1 true (nn 6), s0 2] (aB pF (aB eF (l1 cI)))) [] func233 3 abu (fun a=>n_ a) fun a h=>avJ a h
theorem aqM {c:aS}(h:n_ c)(a:(wS c).2.2=0):Ez 2 c (wS c).2.1:=by
 have k:=BQ h;unfold wS abu at a⊢;simp only[bY,cZ,bf,aI]at a⊢;generalize vg c=b at*;cases e:b.2.2.2 !=0 with
 | true=>
  rw[e]at a;have a:b.2.2.2=0:=a;rw[a]at e;cases e
 | false=>
  obtain⟨m,o⟩:=k (lM.1 e);rw[e]at a;simp only[mX]at a⊢;have s:=yg m.1 (n:=1);generalize sU b.2.2.1 1=i at*;cases d:i.2 !=0 with
  | true=>
   rw[d]at a;have a:i.2=0:=a;rw[a]at d;cases d
  | false=>
   obtain⟨j,_⟩:=s (lM.1 d);rw[d]at a;simp only[mX]at a⊢;have t:=I4 j.1 (f:=Raw.mk b.1 b.2.1 0 []);generalize jr i.1 (Raw.mk b.1 b.2.1 0 [])=l at*;cases g:l.2.1 !=0 with
   | true=>
    rw[g]at a;have a:l.2.1=0:=a;rw[a]at g;cases g
   | false=>exact lI (lq m (lq j (t (lM.1 g)).1)) mi
def atP (g:bK)(a:Str):Pg Bool:=.ret (g.Name==a)
def ac1 (g:bK)(a:Str):=(atP g a).val
def ah2:aZ Z:=xx [] [] (ak (aJ jg) (a1 (jf 0))) (b1 (aV cStr)) (R1 aG) [0] func164 1 (u11 atP)
def yB:aZ Z:=Jf [ah2] jK 164 [0] (b1 (aV cStr)) func163 dC fun x b=>ac1 x b
def ax5 (p:dO)(a:Str):Pg (Int×Bool):=.lt (fM (fun(x:bK)=>ac1 x a) p.bD) fun b=> .ret (max b 0,decide (0<=b))
def AB (p:dO)(a:Str):=(ax5 p a).val
def adH:aZ Z:=E0 [yB,ah2] [] (ak (aJ eX) (a1 (bC cStr))) (shr [s0 0, s0 1] (aB cI (l1 aG))) [] func90 2 (u2 ax5)
def aMp (o:Op)(a:Int):Pg Bool:=.ret (o.Num==a)
def agx (o:Op)(a:Int):=(aMp o a).val
def alA:aZ Z:=xx [] [] (ak (aJ jF) (a1 (jf 0))) (b1 (aV cI)) (R1 aG) [0] func315 1 (u11 aMp)
def PD:aZ Z:=Jf [alA] oN 315 [0] (b1 (aV cI)) func412 BJ fun x b=>agx x b
def aou (g:bK)(b:Int):Pg (Op×Bool):=.lt (fM (fun(x:Op)=>agx x b) g.Ops) fun a=> .br (decide (a < 0)) (.ret (Op.mk 0 [] [] 0 0 0 0 0,false)) (.ix a g.Ops.length (.ret (g.Ops.getD a.toNat BJ,true)))
def asA (g:bK)(a:Int):=(aou g a).val
theorem ay1 (g:bK)(a:Int):Is (aou g a):=
 dI fun c b=>dB iR (fun _=>b_ au (by rw[b];exact(mO (fun(x:Op)=>agx x a) g.Ops).1) aQ)
def aAX:aZ Z:=xx [alA,PD] [] (ak (aHF 315 [0]) (a1 (aJ jg))) (b1 (aV cI)) (shr [.slot 0 true (nn 8), s0 1] (aB jF (l1 aG))) [0] func316 2 (fun a=>aou a.1.2 a.2) fun a=>ay1 a.1.2 a.2
def pOp (g:bK)(a:Int):Pg (Op×Bool):=.ret (asA g a)
def mY (g:bK)(a:Int):=(pOp g a).val
def Qu:aZ Z:=E0 [alA,aAX] [] (ak (aJ jg) (a1 (bC cI))) (shr [.slot 0 true (nn 8), s0 1] (aB jF (l1 aG))) [] func237 2 (u2 pOp)
def aEj (b:Item)(a:Int):Pg Bool:=.ret (dA .u64 b.Num==a)
def akv (b:Item)(a:Int):=(aEj b a).val
def aeK:aZ Z:=xx [] [] (ak (aJ nz) (a1 (jf 0))) (b1 (aV (h_ .u64))) (R1 aG) [0] func436 1 (u11 aEj)
def KZ:aZ Z:=Jf [aeK] iQ 436 [0] (b1 (aV (h_ .u64))) func290 jI fun x b=>akv x b
def Me:aZ Z:=EAB [KZ,aeK] iQ 436 [0] (b1 (aV (h_ .u64))) func206 fun x b=>akv x b
def aLc (p:dO)(a:Int)(b:Int):Pg Bool:=.br (decide (a < 0)) (.ret false) (.br (decide ((↑p.Enums.length:Int)<=a)) (aL p.Enums (.ret false)) (aL p.Enums (.br (decide (2147483647 < b)) (.ret false) (.ix a p.Enums.length (.br (p.Enums.getD a.toNat kE).Open (.ret true) (.ret ((p.Enums.getD a.toNat kE).Items.any fun(x:Item)=>akv x b)))))))
def ax0 (p:dO)(a:Int)(b:Int):=(aLc p a b).val
def ajT:aZ Z:=E0 [Me,aeK] [] (ak (aJ eX) (ak (bC cI) (a1 (bC (h_ .u64))))) (R1 aG) [] func373 1 (u3 aLc)
def anZ (o:Op):Pg Bool:=.br (o.Card==4) (.br (decide (1<=o.Kind)) (.br (decide (o.Kind<=6)) (.ret true) (.ret (o.Kind==9))) (.ret (o.Kind==9))) (.ret false)
def mf (o:Op):=(anZ o).val
def xO:aZ Z:=E0 [] [] (a1 (aJ jF)) (R1 aG) [] func306 1 anZ
def aEv (o:Op):Pg Int:=.br (o.Card==5) (.ret 6) (.br (mf o) (.ret 5) (.cut (fun(a:Bool)=> .br a (.ret 0) (.cut (fun(b:Bool)=> .br b (.ret 1) (.br (o.Kind==6) (.ret 2) (.br (o.Kind==7) (.br (o.Kind==7) (.ret 3) (.br (o.Kind==10) (.ret 4) (.ret (-1)))) (.br (o.Kind==8) (.ret 3) (.br (o.Kind==10) (.ret 4) (.ret (-1))))))) (.br (o.Kind==2) (rl (o.Kind==2)) (rl (o.Kind==3))))) (.br (o.Kind==1) (rl (o.Kind==1)) (.br (o.Kind==4) (rl (o.Kind==4)) (.br (o.Kind==5) (rl (o.Kind==5)) (rl (o.Kind==9)))))))
def ajC (o:Op):=(aEv o).val
def aoN:aZ Z:=E0 [xO] [jS 100010 (bI (fun b=>[s0 12]) (l1 aG)),jS 100013 (bI (fun b=>[s0 17]) (l1 aG))] (a1 (aJ jF)) (R1 cI) [] func404 1 aEv
def aFe (o:Op):Pg Int:=.ret (ajC (Op.mk o.Num o.Name o.Alias 2 o.Key o.Kind o.Target o.Union))
def Fv (o:Op):=(aFe o).val
def NP:aZ Z:=E0 [aoN] [] (a1 (aJ jF)) (R1 cI) [] func308 1 aFe
def aua (v:ah)(a:Int):Pg (ah×Bool):=aL v.Slots (.each false uj v.Slots cO (fun c b (d:Unit)=> .ix c v.Slots.length (.br (b.Num==a) (.ret (.inr (b.Val.re,true))) (rl ()))) (fun c (d:Unit)=> .ret (ah.mk 0 0 [] [] [] [] [],false)) ())
def iq (v:ah)(a:Int):=(aua v a).val
def KA:aZ Z:=E0 [] [jS 2 (bI (fun b=>[s0 11]) (l1 cI))] (ak (aJ aP) (a1 (bC cI))) (shr [.slot 0 true (nn 7), s0 1] (aB aP (l1 aG))) [] func165 2 (u2 aua)
def alb (x:ah):Pg (List ah):=.br (x.Kind==11) (.ret x.List) (.br (x.Kind==12) (aL x.Pairs (.each false oZ x.Pairs iE (fun b c (a:List ah)=> .ix b x.Pairs.length (.ob (bZ (a.length+1) 128) (rl (a++[c.Val.re])))) (fun b (a:List ah)=> .ret a) [])) (.ret [x.re]))
def aAr (x:ah):=(alb x).val
theorem XL (x:ah)(h:x.Pairs.length<=1048576):j_ (alb x) (fun r=>∀y∈r,y∈x.List\/(∃p∈x.Pairs,y=p.Val)\/y=x):=
 dK (fun _=>af qap) (fun _=>dK (fun _=>bW <| dh (fun(b:Nat) a=>a.length<=b/\∀z∈a,∃p∈x.Pairs,z=p.Val) (by exact⟨nO 0,fun _ hz=>absurd hz qb⟩) au (fun b a ry c=>have hI:a.length<=b/\∀z∈a,∃p∈x.Pairs,z=p.Val:=c;aW au au (ai (qbo) (af qap))) (fun a hI=>have hI:a.length<=x.Pairs.length/\∀z∈a,∃p∈x.Pairs,z=p.Val:=hI;af qap)) (fun _=>af qap))
def awN:aZ Z:=E1 [] [jS 7 (bI (fun b=>[s0 17, .slot 3 false [some 78]]) (aB cI (l1 jO)))] (a1 (aJ aP)) (R1 jO) [] func166 1 alb (fun a=>a.Pairs.length<=1048576) fun a h=>(XL a h).1
theorem take_snoc {A:Type}{l:List A}{i:Nat}{d:A}(a:i < l.length):l.take (i+1)=l.take i++[l.getD i d]:=by
 rw[List.take_add_one];congr 1;simp[List.getD,a]
theorem af1 {A:Type}{y l:List A}{i:Nat}{d a:A}(h:y.Sublist (l.take i))(b:i < l.length)(e:a=l.getD i d):(y++[a]).Sublist (l.take (i+1)):=by
 rw[take_snoc (d:=d) b,e];exact h.append (Qdq _)
theorem ag1 {A:Type}{y l:List A}{i:Nat}(h:y.Sublist (l.take i)):y.Sublist (l.take (i+1)):=h.trans (Qda au)
theorem asv {p:Slot->Bool}{y l:List Slot}{i:Nat}(h:y.Sublist ((l.take i).filter p))(a:i < l.length)(b:p (l.getD i cO)=true):(y++[Slot.mk (l.getD i cO).Num (l.getD i cO).Val.re]).Sublist ((l.take (i+1)).filter p):=by
 rw[ah.dR,Slot.eta,take_snoc (d:=cO) a,Qbn,List.filter_cons_of_pos b,Qdo];exact h.append (Qdq _)
theorem avP {p:Slot->Bool}{y l:List Slot}{i:Nat}(h:y.Sublist ((l.take i).filter p)):y.Sublist ((l.take (i+1)).filter p):=h.trans ((Qda au).filter p)
theorem aCS {p:Slot->Bool}{y l:List Slot}{i:Nat}(h:y.Sublist ((l.take i).filter p)):y.length<=l.length:=yI h.length_le (yI (Qbv _ _) qbu)
def ab9 (p:dO)(o:Op)(f:Raw):Pg (ah×Int):=.br (!kM o.Kind) (.ret (ah.mk 0 0 [] [] [] [] [],12)) (.br (f.iy !=Fv o) (.ret (ah.mk 0 0 [] [] [] [] [],13)) (.br (f.iy==3) (.br (o.Kind==7) (.ob (List.length f.Data<=9223372036854775700) (.br (!Ae f.Data) (.ret (ah.mk 0 0 [] [] [] [] [],7)) (.ret (ah.mk o.Kind 0 f.Data [] [] [] [],0)))) (.ret (ah.mk o.Kind 0 f.Data [] [] [] [],0))) (.cut (fun(a:ah)=> .br (!O9 o.Kind a.re) (.ret (ah.mk 0 0 [] [] [] [] [],6)) (.lt (nK a.re) fun b=> .br (o.Kind==9) (.br (!ax0 p o.Target a.Bits) (.ret (ah.mk 0 0 [] [] [] [] [],16)) (.ret (b.re,0))) (.ret (b.re,0)))) (.br (f.iy==1) (rl (ah.mk o.Kind (dA .u64 (aEc f.Bits)) [] [] [] [] [])) (rl (ah.mk o.Kind f.Bits [] [] [] [] []))))))
def wL (p:dO)(o:Op)(f:Raw):=(ab9 p o f).val
def abW:aZ Z:=E1 [BI,UG,KT,NP,ajT,abh,aIX] [jS 100012 (bI (fun b=>[.cells (pid (b 8)) (nn 7)]) (l1 aP))] (ak (aJ eX) (ak (aJ jF) (a1 (aJ pF)))) (shr [.slot 0 true (nn 7), s0 1] (aB aP (l1 cI))) [] func408 2 (u3 ab9) fun a=>a.2.2.Data.length<=1048576
def aFX (g:bK)(v:ah)(o:Op)(x:ah):Pg ah:=aL v.Slots (.each false oZ v.Slots cO (fun e c (b:ah)=> .ix e v.Slots.length (.br (c.Num==o.Num) (rl b.re) (.lt (b.Slots++[Slot.mk c.Num c.Val.re]) fun(d:List Slot)=> .lt (mY g c.Num) fun f=> .br f.2 (.br (decide (0<=o.Union)) (.br (f.1.Union==o.Union) (rl b.re) (.ob (bZ (b.Slots.length+1) 136) (rl (ah.mk b.Kind b.Bits b.Text b.List b.Pairs d b.bM)))) (.ob (bZ (b.Slots.length+1) 136) (rl (ah.mk b.Kind b.Bits b.Text b.List b.Pairs d b.bM)))) (.ob (bZ (b.Slots.length+1) 136) (rl (ah.mk b.Kind b.Bits b.Text b.List b.Pairs d b.bM)))))) (fun e (b:ah)=> .ob (bZ (b.Slots.length+1) 136) (.ret (ah.mk b.Kind b.Bits b.Text b.List b.Pairs (b.Slots++[Slot.mk o.Num x.re]) b.bM))) (ah.mk (Int.ofNat (nat_lit 10)) (Int.ofNat (nat_lit 0)) [] [] [] [] (match v with | ah.mk h k m l j i a=>a)))
def yT (g:bK)(v:ah)(o:Op)(x:ah):=(aFX g v o x).val
theorem afO (g:bK)(v:ah)(o:Op)(x:ah)(h:v.Slots.length<=1048576):j_ (aFX g v o x) (fun r=>∃l,l.Sublist (v.Slots.filter fun s=> !(s.Num==o.Num))/\r=ah.mk 10 0 [] [] [] (l++[Slot.mk o.Num x]) v.bM):=
 bW <| dh (fun(a:Nat) y2=>y2.Slots.Sublist ((v.Slots.take a).filter fun s=> !(s.Num==o.Num))/\y2=ah.mk 10 0 [] [] [] y2.Slots v.bM) (by exact⟨List.nil_sublist _,rfl⟩) au (fun a y2 d b=>have hI:y2.Slots.Sublist ((v.Slots.take a).filter fun s=> !(s.Num==o.Num))/\y2=ah.mk 10 0 [] [] [] y2.Slots v.bM:=b;aW au au (dK (fun _=>af qam) (fun _=>az fun v4 hv4=>az fun f c=>dJ (fun _=>bG (fun _=>dK (fun _=>af qam) (fun _=>ai (qbn) (af qam))) (fun _=>ai (qbn) (af qam))) (fun _=>ai (qbn) (af qam))))) (fun y2 hI=>have hI:y2.Slots.Sublist ((v.Slots.take v.Slots.length).filter fun s=> !(s.Num==o.Num))/\y2=ah.mk 10 0 [] [] [] y2.Slots v.bM:=hI;ai (qbn) (af qam))
def aeT:aZ Z:=E1 [Qu] [jS 3 (bI (fun b=>[s0 20, .cells (pid (b 9)) [none,none,none,none,none,some 288,none]]) (aB cI (l1 aP))),jS 800001 (bI (fun b=>[.cells (pid (b 9)) [none,none,none,none,none,some 288,none]]) (l1 aP))] (ak (aJ jg) (ak (aJ aP) (ak (aJ jF) (a1 (aJ aP))))) (shr [.slot 0 true (nn 7)] (l1 aP)) [] func402 1 (u4 aFX) (fun a=>a.2.1.Slots.length<=1048576) fun a h=>(afO a.1 a.2.1 a.2.2.1 a.2.2.2 h).1
def aeN (v:ah)(f:Raw):Pg ah:=aL v.bM (.ob (0<=(↑v.bM.length:Int)/\(↑v.bM.length:Int)=(↑v.bM.length:Int)/\(↑v.bM.length:Int)<=(↑v.bM.length:Int)) (.ob (0 < 1/\bZ ((List.take v.bM.length v.bM).length+1) 40) (.ret (ah.mk v.Kind v.Bits v.Text v.List v.Pairs v.Slots (List.take v.bM.length v.bM++[f])))))
def zF (v:ah)(f:Raw):=(aeN v f).val
theorem aph (v:ah)(f:Raw)(h:v.bM.length<=1048576):Is (aeN v f):=
 gp fun _=>aY au (aY ((⟨by decide,dm qb6 qb6⟩)) (aQ))
def agI:aZ Z:=E1 [] [] (ak (aJ aP) (a1 (aJ pF))) (shr [.slot 0 true (nn 7)] (l1 aP)) [] func234 1 (u2 aeN) (fun a=>a.1.bM.length<=1048576) fun a h=>aph a.1 a.2 h
def TA (l:ah)(x:ah):Pg ah:=aL l.List (.ob (0<=(↑l.List.length:Int)/\(↑l.List.length:Int)=(↑l.List.length:Int)/\(↑l.List.length:Int)<=(↑l.List.length:Int)) (.ob (0 < 1/\bZ ((List.take l.List.length l.List).length+1) 128) (.ret (ah.mk 11 0 [] (List.take l.List.length l.List++[x.re]) [] [] []))))
def rW (l:ah)(x:ah):=(TA l x).val
theorem ajo (l:ah)(x:ah)(h:l.List.length<=1048576):Is (TA l x):=
 gp fun _=>aY au (aY ((⟨by decide,dm qb6 qb6⟩)) (aQ))
def Z4:aZ Z:=E1 [] [] (ak (aJ aP) (a1 (aJ aP))) (shr [.slot 0 true (nn 7)] (l1 aP)) [] func406 1 (u2 TA) (fun a=>a.1.List.length<=1048576) fun a h=>ajo a.1 a.2 h
def aj1 (n:Int)(r:ae):Pg (Int×ae):=.lt (sU r.c n) fun a=> .ret (a.2,ae.mk r.p a.1)
def nS (n:Int)(r:ae):=(aj1 n r).val
def FM:aZ Z:=xx [agH] [] (ak (jf 0) (a1 (bC cI))) (b1 (aV bn)) (shr [s0 0, .cells 0 (nn 8)] (aB cI (l1 bn))) [] func160 1 fun a=>aj1 a.1.2 a.2
def acX (r:ae):Pg (Int×Int×ae):=.ob (n_ r.c) (.lt (dw r.c) fun a=> .br (a.2.2 !=0) (.ret (0,a.2.2,r)) (.lt (dA .u64 (vz a.2.1)) fun b=> .br (decide (b < a.1)) (.ret (0,4,r)) (.ret (dA .i64 a.1,0,ae.mk r.p a.2.1))))
def kZ (r:ae):=(acX r).val
def Ib:aZ Z:=H7 [Ad,Be] [] (a1 (jf 0)) (b1 (aV bn)) (shr [s0 0, s0 1, .cells 0 (nn 8)] (aB cI (aB cI (l1 bn)))) [] func398 2 (fun a=>acX a.2) fun a=>n_ a.2.c
theorem wP {r:ae}(h:n_ r.c)(a:(kZ r).2.1=0):Ez 1 r.c (kZ r).2.2.c/\(kZ r).2.2.c.Nodes=r.c.Nodes/\(kZ r).2.2.p=r.p/\0<=(kZ r).1/\(kZ r).1<=(kZ r).2.2.c.End - (kZ r).2.2.c.At:=by
 obtain⟨j,k⟩:=mV h;unfold kZ acX at a⊢;simp only[bY,cZ,bf,aI]at a⊢;cases e:(dw r.c).2.2 !=0 with
 | true=>
  rw[e]at a;have a:(dw r.c).2.2=0:=a;rw[a]at e;cases e
 | false=>
  obtain⟨c,g⟩:=k (lM.1 e);have b:=c.1;have i:=su b;rw[e]at a;simp only[mX]at a⊢;obtain⟨⟨m,o,l,n⟩,p⟩:=b;obtain⟨f,u2⟩:=j;rw[i,dU (k:= .u64) tZ]at a⊢;by_cases d:(dw r.c).2.1.End - (dw r.c).2.1.At < (dw r.c).1
  ·rw[rY d]at a;cases a
  rw[qM d];rw[dU (k:= .i64) tZ];exact⟨c,g,rfl,f,by show(dw r.c).1<=(dw r.c).2.1.End - (dw r.c).2.1.At;omega⟩
def Ba (a:Int)(r:ae):Pg (Raw×Int×ae):=.br (a==3) (.ob (n_ r.c) (.lt (kZ r) fun b=> .br (b.2.1 !=0) (.ret (Raw.mk 0 a 0 [],b.2)) (.ob (n_ b.2.2.c) (.lt (F_ b.2.2.c b.1) fun e=> .ret (Raw.mk 0 a 0 e.1,e.2.2,ae.mk b.2.2.p e.2.1))))) (.br (a==2) (.ob (n_ r.c) (.lt (Aa r.c) fun c=> .ret (Raw.mk 0 a c.1 [],c.2.2,ae.mk r.p c.2.1))) (.ob (n_ r.c) (.lt (dw r.c) fun d=> .ret (Raw.mk 0 a d.1 [],d.2.2,ae.mk r.p d.2.1))))
def jd (a:Int)(r:ae):=(Ba a r).val
theorem acz (b:Int)(r:ae)(h:n_ r.c):Is (Ba b r):=
 dY (fun _=>aY (h) (dI fun f a=>iW iR (fun _=>aY (by have k:=(wP h (by rw[<-a];omega)).1.1;rw[<-a]at k;exact k) (dI fun j d=>aQ)))) (fun _=>dY (fun _=>aY (h) (dI fun g c=>aQ)) (fun _=>aY (h) (dI fun i e=>aQ)))
def RG:aZ Z:=H7 [Be,Ib,ah_,aBj] [] (ak (jf 0) (a1 (bC cI))) (b1 (aV bn)) (shr [.slot 0 true (nn 4), s0 1, .cells 0 (nn 8)] (aB pF (aB cI (l1 bn)))) [] func407 2 (fun a=>Ba a.1.2 a.2) (fun a=>n_ a.2.c) fun a h=>acz a.1.2 a.2 h
def atZ (n:Int)(r:ae):Pg (aS×ae):=.ret (r.c,ae.mk r.p (aS.mk r.c.Data r.c.At (dA .i64 (r.c.At+n)) r.c.Depth r.c.Nodes r.c.Text))
def VE (n:Int)(r:ae):=(atZ n r).val
def anp:aZ Z:=xx [] [] (ak (jf 0) (a1 (bC cI))) (b1 (aV bn)) (shr [.slot 0 true (nn 6), .cells 0 (nn 8)] (aB eF (l1 bn))) [] func399 1 fun a=>atZ a.1.2 a.2
def aox (a:aS)(r:ae):Pg ae:=.ret (ae.mk r.p (aS.mk a.Data r.c.End a.End a.Depth r.c.Nodes a.Text))
def afX (a:aS)(r:ae):=(aox a r).val
def aae:aZ Z:=xx [] [] (ak (jf 0) (a1 (aJ eF))) (b1 (aV bn)) (shr [.cells 0 (nn 8)] (l1 bn)) [] func401 0 fun a=>aox a.1.2 a.2
def clS (l:List Slot):Pg (List Slot):=.unk false (fun(b:Bool)=>b=true->l.length=0) (.ret []) (.ob (bZ (0+l.length) 136) (.ret l))
theorem aHh (l:List Slot)(h:l.length<=1048576):Is (clS l):=
 r_ (dm au au)
def aJ1:aZ Z:=E2 [] [] (a1 (bC bT)) (shr [.slot 0 false [some 288]] (l1 bT)) [] func312 1 clS (fun a=>some (a.length<=1048576)) (fun a=>a) fun a h=>⟨aHh a h,rfl⟩
def clP (l:List Pair):Pg (List Pair):=.unk false (fun(b:Bool)=>b=true->l.length=0) (.ret []) (.ob (bZ (0+l.length) 256) (.ret l))
theorem aF1 (l:List Pair)(h:l.length<=1048576):Is (clP l):=
 r_ (dm au au)
def aEp:aZ Z:=E2 [] [] (a1 (bC fB)) (shr [.slot 0 false [some 355]] (l1 fB)) [] func269 1 clP (fun a=>some (a.length<=1048576)) (fun a=>a) fun a h=>⟨aF1 a h,rfl⟩
def clR (l:List Raw):Pg (List Raw):=.unk false (fun(b:Bool)=>b=true->l.length=0) (.ret []) (.ob (bZ (0+l.length) 40) (.ret l))
theorem aGb (l:List Raw)(h:l.length<=1048576):Is (clR l):=
 r_ (dm au au)
def aKd:aZ Z:=E2 [] [] (a1 (bC bU)) (shr [.slot 0 false [some 295]] (l1 bU)) [] func235 1 clR (fun a=>some (a.length<=1048576)) (fun a=>a) fun a h=>⟨aGb a h,rfl⟩
def osC (a:Slot)(b:Slot):Pg Int:=.ret (X4 a.Num b.Num)
def au1 (a:Slot)(b:Slot):=(osC a b).val
def VT:aZ Z:=E1 [OI] [] (ak (aJ nR) (a1 (aJ nR))) (R1 cI) [] func314 1 (u2 osC) fun a=>True
def wZ (a:Slot):Slot:=Slot.mk a.Num a.Val.re
theorem lZ (a:Slot):wZ a=a:=by
 unfold wZ;rw[ah.dR,Slot.eta]
def aLa (a:Int)(b:Int)(n:Int)(l:List Slot):Pg (List Slot):=Vx wZ cO a b n l
theorem aBB (a:Int)(b:Int)(n:Int)(l:List Slot)(h:swQ a b n l.length):Is (aLa a b n l):=
 (PH lZ h).1
def ash:aZ Z:=H7 [VT] [jS 1 (bI (fun b=>[s0 10, .row (pid (b 0)) 288]) (aB cI (l1 bT)))] (ak (oD 0) (ak (bC cI) (ak (bC cI) (ak (bC cI) (a1 (lH 314 [])))))) (b1 (lh 288 D.Slot kw)) (shr [.row 0 288] (l1 bT)) [] func486 0 (fun a=>aLa a.1.2.1 a.1.2.2.1 a.1.2.2.2.1 a.2) (fun a=>swQ a.1.2.1 a.1.2.2.1 a.1.2.2.2.1 a.2.length) fun a h=>aBB a.1.2.1 a.1.2.2.1 a.1.2.2.2.1 a.2 h
def aJW (a:Int)(m:Int)(b:Int)(l:List Slot):Pg (List Slot):=WG wZ cO a m b l
theorem aBG (a:Int)(m:Int)(b:Int)(l:List Slot)(h:roQ a m b l.length):Is (aJW a m b l):=
 (OM lZ h).1
def ay0:aZ Z:=H7 [VT,ash] [jS 2 (bI (fun b=>[s0 10, s0 11, .row (pid (b 0)) 288]) (aB cI (aB cI (l1 bT))))] (ak (oD 0) (ak (bC cI) (ak (bC cI) (ak (bC cI) (a1 (lH 314 [])))))) (b1 (lh 288 D.Slot kw)) (shr [.row 0 288] (l1 bT)) [] func477 0 (fun a=>aJW a.1.2.1 a.1.2.2.1 a.1.2.2.2.1 a.2) (fun a=>roQ a.1.2.1 a.1.2.2.1 a.1.2.2.2.1 a.2.length) fun a h=>aBG a.1.2.1 a.1.2.2.1 a.1.2.2.2.1 a.2 h
def aIw (a:Int)(b:Int)(l:List Slot):Pg (List Slot):=Wl wZ au1 (fun _ _=>True) cO a b l
def aLm (a:Int)(b:Int)(l:List Slot):=(aIw a b l).val
theorem aBu (a:Int)(b:Int)(l:List Slot)(h:IQ (fun _ _=>True) a b l):Is (aIw a b l):=
 (PZ lZ h).1
def ayi:aZ Z:=vF Z [VT] [jS 1 (bI (fun b=>[s0 8, .row (pid (b 0)) 288]) (aB cI (l1 bT))),jS 4 (bI (fun b=>[s0 9, .row (pid (b 0)) 288]) (aB cI (l1 bT)))] (kN (ak (oD 0) (ak (bC cI) (ak (bC cI) (a1 (lH 314 []))))) (b1 (lh 288 D.Slot kw))) (pz (n:=53) rfl) (shr [.row 0 288] (l1 bT)) [] func451 ntmps451 eQ 0 rfl (fun a=>aIw (a.1.2.1) (a.1.2.2.1) (a.2)) (fun a=>some (IQ (fun _ _=>True) (a.1.2.1) (a.1.2.2.1) (a.2))) (fun a e _=>by kernel_rfl) (fun a=>aLm (a.1.2.1) (a.1.2.2.1) (a.2)) (fun a h=>⟨aBu (a.1.2.1) (a.1.2.2.1) (a.2) h,rfl⟩)
def aL7 (c:Int->Int->Int->List Slot->List Slot)(Qv:Int->Int->Int->List Slot->Prop)(a:Int)(m:Int)(b:Int)(l:List Slot):Pg (List Slot):=aaJ wZ au1 (fun _ _=>True) cO c Qv a m b l
def Qv (c:Nat)(a:Int)(m:Int)(b:Int)(l:List Slot):Prop:=ZJ (fun _ _=>True) c a m b l
def ard:Nat->(Int->Int->Int->(List Slot)->(List Slot))
 | 0=>(fun _ _ _ _=>default)
 | c+1=>(fun a m b l=>(aL7 ((ard c)) (Qv c) a m b l).val)
def anf (a:Int)(m:Int)(b:Int)(l:List Slot):List Slot:=(ard ((b - a).toNat+1)) a m b l
theorem KI:∀(e:Nat) (a m b:Int) (l:List Slot),Qv e a m b l->(ard e a m b l).Perm l
 | 0,_,_,_,_,h=>IL h
 | e+1,_,_,_,_,h=>(AU lZ (c:=au1) (SB:=ard e) (ZQ:=Qv e) (d:=cO) (fun _ _ _ _ h=>h) (KI e) h).2
abbrev asG (a:Nat):=aL7 ((ard a)) (Qv a)
theorem aBX (c:Nat)(a:Int)(m:Int)(b:Int)(l:List Slot)(h:Qv (c+1) a m b l):Is (asG c a m b l):=
 (AU lZ (fun _ _ _ _ h=>h) (KI c) h).1
theorem ayp:∀c,gZ Z.P Z.S 452 (qj (kN (ak (oD 0) (ak (bC cI) (ak (bC cI) (ak (bC cI) (a1 (lH 314 [])))))) (b1 (lh 288 D.Slot kw))) (shr [.row 0 288] (l1 bT)) 0 [] (fun a=>some (Qv c (a.1.2.1) (a.1.2.2.1) (a.1.2.2.2.1) (a.2))) (fun a=>(ard c) (a.1.2.1) (a.1.2.2.1) (a.1.2.2.2.1) (a.2)))
 | 0=>je func452 eQ (fun a h=>IL h)
 | c+1=>by
  have d:=ayp c;exact GU [VT,ay0,⟨452,_,d⟩] [jS 3 (bI (fun b=>[s0 10, s0 11]) (aB cI (l1 cI))),jS 9 (bI (fun b=>[s0 13, .row (pid (b 0)) 288]) (aB cI (l1 bT))),jS 15 (bI (fun b=>[s0 14, s0 15]) (aB cI (l1 cI))),jS 21 (bI (fun b=>[s0 17, .row (pid (b 0)) 288]) (aB cI (l1 bT))),jS 33 (bI (fun b=>[s0 20, s0 21]) (aB cI (l1 cI))),jS 100008 (bI (fun b=>[s0 10]) (l1 cI)),jS 100012 (bI (fun b=>[.row (pid (b 0)) 288]) (l1 bT)),jS 100020 (bI (fun b=>[s0 14]) (l1 cI)),jS 100024 (bI (fun b=>[.row (pid (b 0)) 288]) (l1 bT)),jS 100032 (bI (fun b=>[s0 20, s0 21]) (aB cI (l1 cI))),jS 100038 (bI (fun b=>[s0 20]) (l1 cI)),jS 100041 (bI (fun b=>[.row (pid (b 0)) 288]) (l1 bT)),jS 100043 (bI (fun b=>[.row (pid (b 0)) 288]) (l1 bT))] func452 ntmps452 (fun a=>asG c a.1.2.1 a.1.2.2.1 a.1.2.2.2.1 a.2) (fun a h=>⟨aBX c a.1.2.1 a.1.2.2.1 a.1.2.2.2.1 a.2 h,rfl⟩) (pz (n:=220) rfl)
def atJ:aZ Z:=⟨452,qj (kN (ak (oD 0) (ak (bC cI) (ak (bC cI) (ak (bC cI) (a1 (lH 314 [])))))) (b1 (lh 288 D.Slot kw))) (shr [.row 0 288] (l1 bT)) 0 [] (fun a=>some (ZJ (fun _ _=>True) (((a.1.2.2.2.1) - (a.1.2.1)).toNat+1) (a.1.2.1) (a.1.2.2.1) (a.1.2.2.2.1) (a.2))) (fun a=>anf (a.1.2.1) (a.1.2.2.1) (a.1.2.2.2.1) (a.2)),kQ (fun n=>((ayp n))) _ _ (fun a h=>⟨((a.1.2.2.2.1) - (a.1.2.1)).toNat+1,h,rfl⟩)⟩
def aFy (n:Int)(l:List Slot):Pg (List Slot):=aap wZ au1 (fun _ _=>True) cO anf n l
def aKm (n:Int)(l:List Slot):=(aFy n l).val
theorem az0 (n:Int)(l:List Slot)(h:stQ (fun _ _=>True) n l):Is (aFy n l):=
 (AC lZ (SB:=anf) (fun a m b l h=>KI _ a m b l h) h).1
def ax9:aZ Z:=H7 [VT,ayi,atJ] [jS 2 (bI (fun b=>[s0 7, s0 8, .row (pid (b 0)) 288]) (aB cI (aB cI (l1 bT)))),jS 7 (bI (fun b=>[s0 6, .row (pid (b 0)) 288]) (aB cI (l1 bT))),jS 9 (bI (fun b=>[s0 7, s0 8, .row (pid (b 0)) 288]) (aB cI (aB cI (l1 bT)))),jS 100006 (bI (fun b=>[s0 7, .row (pid (b 0)) 288]) (aB cI (l1 bT))),jS 100013 (bI (fun b=>[s0 7, .row (pid (b 0)) 288]) (aB cI (l1 bT)))] (ak (oD 0) (ak (bC cI) (a1 (lH 314 [])))) (b1 (lh 288 D.Slot kw)) (shr [.row 0 288] (l1 bT)) [] func411 0 (fun a=>aFy a.1.2.1 a.2) (fun a=>stQ (fun _ _=>True) a.1.2.1 a.2) fun a h=>az0 a.1.2.1 a.2 h
def aGD (l:List Slot):Pg (List Slot):=.ob (stQ (fun(x b:Slot)=>True) (↑l.length:Int) l) (.lt (aKm (↑l.length:Int) l) fun a=> aL a (.ret a))
def abH (l:List Slot):=(aGD l).val
theorem aCJ (l:List Slot)(h:uq (fun _ _=>True) l):Is (aGD l):=
 aY ((⟨h,rfl⟩)) (dI fun b a=>gp fun _=>aQ)
def ax1:aZ Z:=H7 [VT,ax9] [] (ak (oD 0) (a1 (lH 314 []))) (b1 (lh 288 D.Slot kw)) (shr [.row 0 288] (l1 bT)) [] func313 0 (fun a=>aGD a.2) (fun a=>uq (fun _ _=>True) a.2) fun a h=>aCJ a.2 h
theorem aqW {l:List Slot}(h:uq (fun _ _=>True) l):(abH l).Perm l:=
 (AC lZ (c:=au1) (q:=(fun _ _=>True)) (d:=cO) (SB:=anf) (fun a m b l h=>KI _ a m b l h) ⟨h,rfl⟩).2
theorem TL {l:List Slot}(h:l.length<=1048576):(abH l).Perm l:=aqW ⟨by omega,fun _ _ _ _=>trivial⟩
theorem Oh {l v:List Slot}(h:l.length<=1048576)(e:v=abH l):v.length=l.length:=by
 rw[e];exact(TL h).length_eq
noncomputable def ac2 (l:List Slot):Pg (List Slot):=.ob (l.length<=1048576) (.ob (uq (fun(x g:Slot)=>True) l) (.lt (abH l) fun a=> aL a (.each false oZ a cO (fun d e (b:List Slot)=> .ix d a.length (.ob (d.toNat < a.length) (.lt (b++[Slot.mk e.Num e.Val.re]) fun(f:List Slot)=> .lt (dA .i64 (d+1)) fun c=> .br (c==(↑a.length:Int)) (aL a (.ob (bZ (b.length+1) 136) (rl f))) (.ix c a.length (.ob (c.toNat < a.length) (aL a (.br (e.Num !=(a.getD c.toNat cO).Num) (.ob (bZ (b.length+1) 136) (rl f)) (rl b)))))))) (fun d (b:List Slot)=> .ret b) [])))
noncomputable def C_ (l:List Slot):List Slot:=(ac2 l).val
theorem DW (l:List Slot)(h:l.length<=1048576):j_ (ac2 l) (fun r=>r.Sublist (abH l)):=
 ai (h) (ai ((⟨by omega,fun _ _ _ _=>trivial⟩)) (az fun a hv4=>bW <| dh (fun(c:Nat) b=>b.Sublist (a.take c)/\a.length=l.length) (by exact⟨List.nil_sublist _,Oh h hv4⟩) (by(have:=Oh h hv4;omega)) (fun c b g d=>have hI:b.Sublist (a.take c)/\a.length=l.length:=d;aW au au (ai (qa4) (az fun i hv5=>nC fun f e _=>dK (fun _=>bW <| ai (qa4) (af qa2)) (fun _=>aW au au (ai (qa4) (bW <| dM (fun _=>ai (qa4) (af qa2)) (fun _=>af qa2))))))) (fun b hI=>have hI:b.Sublist (a.take a.length)/\a.length=l.length:=hI;af qa2)))
theorem apl (l:List Slot)(h:l.length<=1048576):Is (ac2 l):=(DW l h).1
noncomputable def atB:aZ Z:=E1 [aJ1,ax1,VT] [jS 5 (bI (fun b=>[s0 13, .slot 4 false [some 288]]) (aB cI (l1 bT)))] (a1 (bC bT)) (R1 bT) [] func236 1 ac2 (fun a=>a.length<=1048576) fun a h=>apl a h
def axi (x:Str):Pg Bool:=.ret (x !=x)
def aop (x:Str):=(axi x).val
def ayU:aZ Z:=E0 [] [] (a1 (bC cStr)) (R1 aG) [] func488 1 axi
def aKC (x:Str)(y:Str):Pg Int:=.lt (aop y) fun a=> .br (aop x) (.br a (.ret 0) (.ret (-1))) (.br a (.ret 1) (.br (Op.bytesLess x y) (.ret (-1)) (.br (!(Op.bytesLess x y || x==y)) (.ret 1) (.ret 0))))
def aKR (x:Str)(y:Str):=(aKC x y).val
def aFA:aZ Z:=E0 [ayU] [] (ak (bC cStr) (a1 (bC cStr))) (R1 cI) [] func480 1 (u2 aKC)
def atA (x:Int):Pg Bool:=.ret (x !=x)
def an6 (x:Int):=(atA x).val
def as8:aZ Z:=E0 [] [] (a1 (bC (h_ .u64))) (R1 aG) [] func489 1 atA
def aJV (x:Int)(y:Int):Pg Int:=.lt (an6 y) fun a=> .br (an6 x) (.br a (.ret 0) (.ret (-1))) (.br a (.ret 1) (.br (decide (x < y)) (.ret (-1)) (.br (decide (y < x)) (.ret 1) (.ret 0))))
def aEU (x:Int)(y:Int):=(aJV x y).val
def aGa:aZ Z:=E0 [as8] [] (ak (bC (h_ .u64)) (a1 (bC (h_ .u64)))) (R1 cI) [] func481 1 (u2 aJV)
def atb (b:Int):Pg Int:=.br (Ub b==0) (.ret 18446744073709551615) (.br (uO .u64 b (9223372036854775808:Int) !=0) (.ret (ajB .u64 (if IntKind.u64.signed=true then(-1)else IntKind.u64.max) b)) (.ret (orI .u64 b 9223372036854775808)))
def anh (b:Int):=(atb b).val
def at6:aZ Z:=E0 [agz] [] (a1 (bC (h_ .u64))) (R1 (h_ .u64)) [] func482 1 atb
def aMn (a:ah)(b:ah):Pg Int:=.br (a.Kind !=b.Kind) (.ret (X4 a.Kind b.Kind)) (.br (!kM a.Kind) (.ret 0) (.br (aee a.Kind) (.ret (aKR a.Text b.Text)) (.lt (X4 (dA .i64 a.Bits) (dA .i64 b.Bits)) fun c=> .br (a.Kind==2) (.ret c) (.br (a.Kind==3) (.ret c) (.br (a.Kind==6) (.ret (aEU (anh a.Bits) (anh b.Bits))) (.ret (aEU a.Bits b.Bits)))))))
def aKl (a:ah)(b:ah):=(aMn a b).val
def aHC:aZ Z:=E0 [OI,abh,ah8,aFA,aGa,at6] [] (ak (aJ aP) (a1 (aJ aP))) (R1 cI) [] func455 1 (u2 aMn)
def aCW:aZ Z:=Nu Z [abh] 454 [true] func454 eQ
def aHp (a:ah)(b:ah):Pg Int:=.br (a.Kind !=b.Kind) (.ret (X4 a.Kind b.Kind)) (.ob (kM b.Kind=true/\True) (.ob (kM a.Kind=true/\True) (.ret (aKl a.re b.re))))
def aEr (a:ah)(b:ah):=(aHp a b).val
theorem aCK (a:ah)(b:ah)(h:kM a.Kind=true/\kM b.Kind=true):Is (aHp a b):=
 iW iR (fun _=>aY ((⟨h.2,trivial⟩)) (aY ((⟨h.1,trivial⟩)) (aQ)))
def axD:aZ Z:=E1 [OI,aCW,aHC] [] (ak (aJ aP) (a1 (aJ aP))) (R1 cI) [] func415 1 (u2 aHp) (fun a=>kM a.1.Kind=true/\kM a.2.Kind=true) fun a h=>aCK a.1 a.2 h
def opQ (a b:Pair):Prop:=kM a.Key.Kind=true/\kM b.Key.Kind=true
def opC (a:Pair)(b:Pair):Pg Int:=.ob (kM a.Key.re.Kind=true/\kM b.Key.re.Kind=true) (.ret (aEr a.Key.re b.Key.re))
def auZ (a:Pair)(b:Pair):=(opC a b).val
def YB:aZ Z:=E1 [axD] [] (ak (aJ wB) (a1 (aJ wB))) (R1 cI) [] func414 1 (u2 opC) fun a=>opQ a.1 a.2
def Jh (a:Pair):Pair:=Pair.mk a.Key.re a.Val.re
theorem vN (a:Pair):Jh a=a:=by
 unfold Jh;rw[ah.dR,ah.dR,Pair.eta]
def aKB (a:Int)(b:Int)(n:Int)(l:List Pair):Pg (List Pair):=Vx Jh iE a b n l
theorem aCX (a:Int)(b:Int)(n:Int)(l:List Pair)(h:swQ a b n l.length):Is (aKB a b n l):=
 (PH vN h).1
def aGi:aZ Z:=H7 [YB] [jS 1 (bI (fun b=>[s0 10, .row (pid (b 0)) 355]) (aB cI (l1 fB)))] (ak (oD 0) (ak (bC cI) (ak (bC cI) (ak (bC cI) (a1 (lH 414 [])))))) (b1 (lh 355 D.Pair qc)) (shr [.row 0 355] (l1 fB)) [] func490 0 (fun a=>aKB a.1.2.1 a.1.2.2.1 a.1.2.2.2.1 a.2) (fun a=>swQ a.1.2.1 a.1.2.2.1 a.1.2.2.2.1 a.2.length) fun a h=>aCX a.1.2.1 a.1.2.2.1 a.1.2.2.2.1 a.2 h
def aKU (a:Int)(m:Int)(b:Int)(l:List Pair):Pg (List Pair):=WG Jh iE a m b l
theorem aCz (a:Int)(m:Int)(b:Int)(l:List Pair)(h:roQ a m b l.length):Is (aKU a m b l):=
 (OM vN h).1
def aH9:aZ Z:=H7 [YB,aGi] [jS 2 (bI (fun b=>[s0 10, s0 11, .row (pid (b 0)) 355]) (aB cI (aB cI (l1 fB))))] (ak (oD 0) (ak (bC cI) (ak (bC cI) (ak (bC cI) (a1 (lH 414 [])))))) (b1 (lh 355 D.Pair qc)) (shr [.row 0 355] (l1 fB)) [] func487 0 (fun a=>aKU a.1.2.1 a.1.2.2.1 a.1.2.2.2.1 a.2) (fun a=>roQ a.1.2.1 a.1.2.2.1 a.1.2.2.2.1 a.2.length) fun a h=>aCz a.1.2.1 a.1.2.2.1 a.1.2.2.2.1 a.2 h
def aFB (a:Int)(b:Int)(l:List Pair):Pg (List Pair):=Wl Jh auZ opQ iE a b l
def aLN (a:Int)(b:Int)(l:List Pair):=(aFB a b l).val
theorem aAU (a:Int)(b:Int)(l:List Pair)(h:IQ opQ a b l):Is (aFB a b l):=
 (PZ vN h).1
def aGt:aZ Z:=vF Z [YB] [jS 1 (bI (fun b=>[s0 8, .row (pid (b 0)) 355]) (aB cI (l1 fB))),jS 4 (bI (fun b=>[s0 9, .row (pid (b 0)) 355]) (aB cI (l1 fB)))] (kN (ak (oD 0) (ak (bC cI) (ak (bC cI) (a1 (lH 414 []))))) (b1 (lh 355 D.Pair qc))) (pz (n:=53) rfl) (shr [.row 0 355] (l1 fB)) [] func478 ntmps478 eQ 0 rfl (fun a=>aFB (a.1.2.1) (a.1.2.2.1) (a.2)) (fun a=>some (IQ opQ (a.1.2.1) (a.1.2.2.1) (a.2))) (fun a e _=>by kernel_rfl) (fun a=>aLN (a.1.2.1) (a.1.2.2.1) (a.2)) (fun a h=>⟨aAU (a.1.2.1) (a.1.2.2.1) (a.2) h,rfl⟩)
def aJS (c:Int->Int->Int->List Pair->List Pair)(RU:Int->Int->Int->List Pair->Prop)(a:Int)(m:Int)(b:Int)(l:List Pair):Pg (List Pair):=aaJ Jh auZ opQ iE c RU a m b l
def RU (c:Nat)(a:Int)(m:Int)(b:Int)(l:List Pair):Prop:=ZJ opQ c a m b l
def arU:Nat->(Int->Int->Int->(List Pair)->(List Pair))
 | 0=>(fun _ _ _ _=>default)
 | c+1=>(fun a m b l=>(aJS ((arU c)) (RU c) a m b l).val)
def amJ (a:Int)(m:Int)(b:Int)(l:List Pair):List Pair:=(arU ((b - a).toNat+1)) a m b l
theorem Ld:∀(e:Nat) (a m b:Int) (l:List Pair),RU e a m b l->(arU e a m b l).Perm l
 | 0,_,_,_,_,h=>IL h
 | e+1,_,_,_,_,h=>(AU vN (c:=auZ) (SB:=arU e) (ZQ:=RU e) (d:=iE) (fun _ _ _ _ h=>h) (Ld e) h).2
abbrev ayg (a:Nat):=aJS ((arU a)) (RU a)
theorem aCH (c:Nat)(a:Int)(m:Int)(b:Int)(l:List Pair)(h:RU (c+1) a m b l):Is (ayg c a m b l):=
 (AU vN (fun _ _ _ _ h=>h) (Ld c) h).1
theorem ato:∀c,gZ Z.P Z.S 479 (qj (kN (ak (oD 0) (ak (bC cI) (ak (bC cI) (ak (bC cI) (a1 (lH 414 [])))))) (b1 (lh 355 D.Pair qc))) (shr [.row 0 355] (l1 fB)) 0 [] (fun a=>some (RU c (a.1.2.1) (a.1.2.2.1) (a.1.2.2.2.1) (a.2))) (fun a=>(arU c) (a.1.2.1) (a.1.2.2.1) (a.1.2.2.2.1) (a.2)))
 | 0=>je func479 eQ (fun a h=>IL h)
 | c+1=>by
  have d:=ato c;exact GU [YB,aH9,⟨479,_,d⟩] [jS 3 (bI (fun b=>[s0 10, s0 11]) (aB cI (l1 cI))),jS 9 (bI (fun b=>[s0 13, .row (pid (b 0)) 355]) (aB cI (l1 fB))),jS 15 (bI (fun b=>[s0 14, s0 15]) (aB cI (l1 cI))),jS 21 (bI (fun b=>[s0 17, .row (pid (b 0)) 355]) (aB cI (l1 fB))),jS 33 (bI (fun b=>[s0 20, s0 21]) (aB cI (l1 cI))),jS 100008 (bI (fun b=>[s0 10]) (l1 cI)),jS 100012 (bI (fun b=>[.row (pid (b 0)) 355]) (l1 fB)),jS 100020 (bI (fun b=>[s0 14]) (l1 cI)),jS 100024 (bI (fun b=>[.row (pid (b 0)) 355]) (l1 fB)),jS 100032 (bI (fun b=>[s0 20, s0 21]) (aB cI (l1 cI))),jS 100038 (bI (fun b=>[s0 20]) (l1 cI)),jS 100041 (bI (fun b=>[.row (pid (b 0)) 355]) (l1 fB)),jS 100043 (bI (fun b=>[.row (pid (b 0)) 355]) (l1 fB))] func479 ntmps479 (fun a=>ayg c a.1.2.1 a.1.2.2.1 a.1.2.2.2.1 a.2) (fun a h=>⟨aCH c a.1.2.1 a.1.2.2.1 a.1.2.2.2.1 a.2 h,rfl⟩) (pz (n:=220) rfl)
def aG6:aZ Z:=⟨479,qj (kN (ak (oD 0) (ak (bC cI) (ak (bC cI) (ak (bC cI) (a1 (lH 414 [])))))) (b1 (lh 355 D.Pair qc))) (shr [.row 0 355] (l1 fB)) 0 [] (fun a=>some (ZJ opQ (((a.1.2.2.2.1) - (a.1.2.1)).toNat+1) (a.1.2.1) (a.1.2.2.1) (a.1.2.2.2.1) (a.2))) (fun a=>amJ (a.1.2.1) (a.1.2.2.1) (a.1.2.2.2.1) (a.2)),kQ (fun n=>((ato n))) _ _ (fun a h=>⟨((a.1.2.2.2.1) - (a.1.2.1)).toNat+1,h,rfl⟩)⟩
def aG2 (n:Int)(l:List Pair):Pg (List Pair):=aap Jh auZ opQ iE amJ n l
def aL_ (n:Int)(l:List Pair):=(aG2 n l).val
theorem aC4 (n:Int)(l:List Pair)(h:stQ opQ n l):Is (aG2 n l):=
 (AC vN (SB:=amJ) (fun a m b l h=>Ld _ a m b l h) h).1
def aIg:aZ Z:=H7 [YB,aGt,aG6] [jS 2 (bI (fun b=>[s0 7, s0 8, .row (pid (b 0)) 355]) (aB cI (aB cI (l1 fB)))),jS 7 (bI (fun b=>[s0 6, .row (pid (b 0)) 355]) (aB cI (l1 fB))),jS 9 (bI (fun b=>[s0 7, s0 8, .row (pid (b 0)) 355]) (aB cI (aB cI (l1 fB)))),jS 100006 (bI (fun b=>[s0 7, .row (pid (b 0)) 355]) (aB cI (l1 fB))),jS 100013 (bI (fun b=>[s0 7, .row (pid (b 0)) 355]) (aB cI (l1 fB)))] (ak (oD 0) (ak (bC cI) (a1 (lH 414 [])))) (b1 (lh 355 D.Pair qc)) (shr [.row 0 355] (l1 fB)) [] func453 0 (fun a=>aG2 a.1.2.1 a.2) (fun a=>stQ opQ a.1.2.1 a.2) fun a h=>aC4 a.1.2.1 a.2 h
def aG1 (l:List Pair):Pg (List Pair):=.ob (stQ opQ (↑l.length:Int) l) (.lt (aL_ (↑l.length:Int) l) fun a=> aL a (.ret a))
def abk (l:List Pair):=(aG1 l).val
theorem aDE (l:List Pair)(h:uq opQ l):Is (aG1 l):=
 aY ((⟨h,rfl⟩)) (dI fun b a=>gp fun _=>aQ)
def aG0:aZ Z:=H7 [YB,aIg] [] (ak (oD 0) (a1 (lH 414 []))) (b1 (lh 355 D.Pair qc)) (shr [.row 0 355] (l1 fB)) [] func413 0 (fun a=>aG1 a.2) (fun a=>uq opQ a.2) fun a h=>aDE a.2 h
theorem BX {l:List Pair}(h:uq opQ l):(abk l).Perm l:=
 (AC vN (c:=auZ) (q:=opQ) (d:=iE) (SB:=amJ) (fun a m b l h=>Ld _ a m b l h) ⟨h,rfl⟩).2
def auq (a:ah)(b:ah):Pg Bool:=.ob (kM a.re.Kind=true/\kM b.re.Kind=true) (.ret (aEr a.re b.re==0))
def anL (a:ah)(b:ah):=(auq a b).val
def ahW:aZ Z:=E1 [axD] [] (ak (aJ aP) (a1 (aJ aP))) (R1 aG) [] func416 1 (u2 auq) fun a=>kM a.1.Kind=true/\kM a.2.Kind=true
def pJ (l:List Pair):Prop:=l.length<=1048576/\∀x∈l,kM x.Key.Kind=true
theorem pM {l:List Pair}(h:pJ l):uq opQ l:=⟨by have:=h.1;omega,fun x b y a=>⟨h.2 x b,h.2 y a⟩⟩
theorem awx {l v:List Pair}(h:pJ l)(e:v=abk l):pJ v:=by
 have k:=BX (pM h);rw[e];exact⟨by rw[k.length_eq];exact h.1,fun x a=>h.2 x (k.mem_iff.1 a)⟩
theorem abQ {v:List Pair}(h:pJ v){i:Nat}(a:i < v.length):kM (v.getD i iE).Key.Kind=true:=h.2 _ (getD_mem a)
theorem Ku {l v:List Pair}(h:uq opQ l)(e:v=abk l):v.length=l.length:=by
 rw[e];exact(BX h).length_eq
def aiY (l:List Pair):Pg (List Pair):=.ob (l.length<=1048576) (.ob (uq opQ l) (.lt (abk l) fun a=> aL a (.each false oZ a iE (fun e d (b:List Pair)=> .ix e a.length (.ob (e.toNat < a.length) (.lt (b++[Pair.mk d.Key.re d.Val.re]) fun(f:List Pair)=> .lt (dA .i64 (e+1)) fun c=> .br (c==(↑a.length:Int)) (aL a (.ob (bZ (b.length+1) 256) (rl f))) (.ix c a.length (.ob (c.toNat < a.length) (.ob (kM d.Key.re.Kind=true/\kM (a.getD c.toNat iE).Key.re.Kind=true) (aL a (.br (!anL d.Key.re (a.getD c.toNat iE).Key.re) (.ob (bZ (b.length+1) 256) (rl f)) (rl b))))))))) (fun e (b:List Pair)=> .ret b) [])))
def pg (l:List Pair):=(aiY l).val
theorem CU (l:List Pair)(h:pJ l):j_ (aiY l) (fun r=>r.Sublist (abk l)):=
 ai (h.1) (ai ((pM h)) (az fun a hv4=>bW <| dh (fun(c:Nat) b=>b.Sublist (a.take c)/\a.length=l.length/\l.length<=1048576) (by exact⟨List.nil_sublist _,Ku (pM h) hv4,h.1⟩) (by(have:=Ku (pM h) hv4;have:=h.1;omega)) (fun c b g d=>have hI:b.Sublist (a.take c)/\a.length=l.length/\l.length<=1048576:=d;aW au au (ai (qau) (az fun i hv5=>nC fun f e _=>dK (fun _=>bW <| ai (qau) (af qaz)) (fun _=>aW au au (ai (qau) (ai (qau) (bW <| dJ (fun _=>ai (qau) (af qaz)) (fun _=>af qaz)))))))) (fun b hI=>have hI:b.Sublist (a.take a.length)/\a.length=l.length/\l.length<=1048576:=hI;af qaz)))
def Vy:aZ Z:=E1 [aEp,aG0,YB,ahW] [jS 5 (bI (fun b=>[s0 13, .slot 4 false [some 355]]) (aB cI (l1 fB)))] (a1 (bC fB)) (R1 fB) [] func318 1 aiY (fun a=>pJ a) fun a h=>(CU a h).1
def aml (v:ah):Pg Bool:=.br (kM v.Kind) (.br (acY v.re) (.br (v.Bits==0) (.ret (v.Text==[])) (.ret false)) (.ret false)) (.ret false)
def atv (v:ah):=(aml v).val
def arZ:aZ Z:=E0 [abh,anv] [] (a1 (aJ aP)) (R1 aG) [] func319 1 aml
def axg (v:ah):Pg Bool:=.lt (atv v.re) fun a=> .br (v.Kind==11) (.br ((↑v.List.length:Int)==0) (.ret true) (.br (v.Kind==12) (.br ((↑v.Pairs.length:Int)==0) (.ret true) (.ret a)) (.ret a))) (.br (v.Kind==12) (.br ((↑v.Pairs.length:Int)==0) (.ret true) (.ret a)) (.ret a))
def aCY (v:ah):=(axg v).val
def auv:aZ Z:=E0 [arZ] [] (a1 (aJ aP)) (R1 aG) [] func239 1 axg
theorem aiN (n:Int):m_ (IntKind.wrap .u64 n):=by
 have e:IntKind.wrap .u64 n=n % 18446744073709551616:=by
  unfold IntKind.wrap;rfl
 rw[e];exact⟨by omega,by omega⟩
theorem QS (n:Int):m_ (dA .u64 n):=aiN n
theorem u0:m_ 0:=⟨by decide,by decide⟩
def aFV (n:Int):Pg Int:=.ob ((0:Int)<=1) (.ob ((0:Int)<=63) (.ret (ajB .u64 (Zj .u64 (dA .u64 n) 1) (dA .u64 (Ar .i64 n 63)))))
def atL (n:Int):=(aFV n).val
def aHr:aZ Z:=E0 [] [] (a1 (bC cI)) (R1 (h_ .u64)) [] func475 1 aFV
def aBK (u:Int):Pg (List UInt8):=.ob ((8:Int)=8/\(0:Int)<=8/\8*(1:Int)<=281474976710656/\(8:Int)<=1099511627776) (.as ((avV 8 0).length<=9223372036854775807) (.cnt oZ 0 (↑(avV 8 0).length:Int) (fun b (a:List Int)=> .lt (dA .i64 (8*b)) fun c=> .ob (0<=c) (.ix b a.length (.ob (b.toNat < a.length) (rl (a.set b.toNat (dA .u8 (Ar .u64 u c))))))) (fun b (a:List Int)=> .ob (JQ (fun(i:Nat)=>true) a.length=true) (.ret (txU a))) (avV 8 0)))
def aEM (u:Int):=(aBK u).val
theorem WT (u:Int):j_ (aBK u) (fun r=>r.length=8):=
 have d:(avV 8 0).length=8:=rfl;ai (qb2) (bW <| sQ (fun(b:Int) a=>a.length=8) (by exact d) au au (fun b a f h c=>have hI:a.length=8:=c;nC fun i g _=>ai (qb2) (aW au au (ai (qb2) (af qbv)))) (fun b a _ e hI=>have hI:a.length=8:=hI;ai (qb2) (af qbv)))
theorem aB2 (u:Int):Is (aBK u):=(WT u).1
def alv:aZ Z:=E0 [] [jS 3 (bI (fun b=>[s0 8, .row (pid (b 3)) 5]) (aB cI (l1 PM)))] (a1 (bC (h_ .u64))) (R1 cStr) [] func261 1 aBK fun a=>aB2 a
def aGg (a:Int):Pg Bool:=.br (a==0) (.ret true) (.br (a==1) (.ret true) (.ret (a==2)))
def anJ (a:Int):=(aGg a).val
def ajS:aZ Z:=E0 [] [] (a1 (bC cI)) (R1 aG) [] func262 1 aGg
def ag9 (b:Int)(a:Int):Pg (List UInt8×Int):=.br (decide (b < 1)) (.ret ([],6)) (.br (decide (65535 < b)) (.ret ([],6)) (.br (decide (a < 0)) (.ret ([],6)) (.br (decide (6 < a)) (.ret ([],6)) (.lt (dA .u64 (dA .i64 (dA .i64 (b*8)+a))) fun c=> .ob (m_ c) (.ret (Xy c,0))))))
def CV (b:Int)(a:Int):=(ag9 b a).val
theorem atw (b:Int)(a:Int):Is (ag9 b a):=
 dB iR (fun _=>dB iR (fun _=>dB iR (fun _=>dB iR (fun _=>dI fun d c=>aY (by rw[c];exact QS _) (aQ)))))
def adx:aZ Z:=E0 [acb] [] (ak (bC cI) (a1 (bC cI))) (shr [s0 0, s0 1] (aB cStr (l1 cI))) [] func259 2 (u2 ag9) fun a=>atw a.1 a.2
def aeg (f:Raw):Pg Bool:=.br ((CV f.Num f.iy).2 !=0) (.ret false) (.br (anJ f.iy) (.ret (f.Data==[])) (.ret (f.Bits==0)))
def Md (f:Raw):=(aeg f).val
def ahk:aZ Z:=E0 [adx,ajS] [] (a1 (aJ pF)) (R1 aG) [] func258 1 aeg
def Vq:List Raw->Nat
 | []=>0
 | x::l=>1+x.Data.length+Vq l
mutual
def tV:ah->Nat
 | .mk _ _ t l p s r=>1+t.length+tVs l+ZY p+tSs s+Vq r
def tVs:List ah->Nat
 | []=>0
 | x::l=>1+tV x+tVs l
def tP:Pair->Nat
 | .mk k v=>1+tV k+tV v
def ZY:List Pair->Nat
 | []=>0
 | x::l=>tP x+ZY l
def tS:Slot->Nat
 | .mk _ v=>1+tV v
def tSs:List Slot->Nat
 | []=>0
 | x::l=>tS x+tSs l
end
def Ov (x:Raw):Prop:=m_ x.Bits/\Md x=true
def kRs:List Raw->Prop
 | []=>True
 | x::l=>Ov x/\kRs l
mutual
def kV:ah->Prop
 | .mk _ b _ l p s r=>(m_ b/\kRs r)/\kVs l/\kPs p/\kSs s
def kVs:List ah->Prop
 | []=>True
 | x::l=>kV x/\kVs l
def kP:Pair->Prop
 | .mk k v=>(kM k.Kind=true/\kV k)/\kV v
def kPs:List Pair->Prop
 | []=>True
 | x::l=>kP x/\kPs l
def kS:Slot->Prop
 | .mk _ v=>kV v
def kSs:List Slot->Prop
 | []=>True
 | x::l=>kS x/\kSs l
end
theorem iZ (v:ah):tV v=1+v.Text.length+tVs v.List+ZY v.Pairs+tSs v.Slots+Vq v.bM:=by cases v;rfl
theorem Qy (x:Pair):tP x=1+tV x.Key+tV x.Val:=by cases x;rfl
theorem zD (x:Slot):tS x=1+tV x.Val:=by cases x;rfl
theorem nI (v:ah):1<=tV v:=by rw[iZ];omega
def kG {A:Type}(f:A->Nat):List A->Nat
 | []=>0
 | x::l=>f x+kG f l
section
variable {A:Type}{f:A->Nat}
theorem pI (l m:List A):kG f (l++m)=kG f l+kG f m:=by
 induction l with
 | nil=>simp[kG]
 | cons a l b=>simp only[Qbp,kG,b];omega
theorem GN {l:List A}{x:A}(h:x∈l):f x<=kG f l:=by
 induction l with
 | nil=>cases h
 | cons a l b=>
  simp only[kG]
  grind
theorem zO {l:List A}(h:∀x,1<=f x):l.length<=kG f l:=by
 induction l with
 | nil=>simp
 | cons a l b=>have:=h a;simp only[kG,yG];omega
theorem wu {l m:List A}(h:l.Sublist m):kG f l<=kG f m:=by
 induction h with
 | slnil=>omega
 | cons a _ b=>simp only[kG];omega
 | cons_cons a _ b=>simp only[kG];omega
theorem Fq {l m:List A}(h:l.Perm m):kG f l=kG f m:=by
 induction h with
 | nil=>rfl
 | cons a _ c=>simp only[kG,c]
 | swap a b l=>simp only[kG];omega
 | trans _ _ d e=>omega
theorem qZ {l:List A}{i:Nat}{d:A}(a:i < l.length):kG f (l.take (i+1))=kG f (l.take i)+f (l.getD i d):=by
 rw[take_snoc (d:=d) a,pI];simp[kG]
end
theorem vI (l:List ah):tVs l=kG (fun x=>1+tV x) l:=by
 induction l with
 | nil=>rfl
 | cons a l b=>simp only[tVs,kG,b]
theorem xg (l:List Pair):ZY l=kG tP l:=by
 induction l with
 | nil=>rfl
 | cons a l b=>simp only[ZY,kG,b]
theorem xe (l:List Slot):tSs l=kG tS l:=by
 induction l with
 | nil=>rfl
 | cons a l b=>simp only[tSs,kG,b]
theorem FD (l:List Raw):Vq l=kG (fun x=>1+x.Data.length) l:=by
 induction l with
 | nil=>rfl
 | cons a l b=>simp only[Vq,kG,b]
theorem ant {l:List ah}{x:ah}(h:x∈l):1+tV x<=tVs l:=by rw[vI];exact GN (f:=fun x=>1+tV x) h
theorem aom {l:List Pair}{x:Pair}(h:x∈l):1+tV x.Key+tV x.Val<=ZY l:=by rw[xg,<-Qy];exact GN h
theorem adg {l:List Slot}{x:Slot}(h:x∈l):1+tV x.Val<=tSs l:=by rw[xe,<-zD];exact GN h
theorem KP (l:List ah):l.length<=tVs l:=by rw[vI];exact zO fun x=>by omega
theorem G8 (l:List Pair):l.length<=ZY l:=by rw[xg];exact zO fun x=>by rw[Qy];omega
theorem U2 (l:List Slot):l.length<=tSs l:=by rw[xe];exact zO fun x=>by rw[zD];omega
theorem LH (l:List Raw):l.length<=Vq l:=by rw[FD];exact zO fun x=>by omega
theorem aCO (l:List ah):kVs l ↔ ∀x∈l,kV x:=by
 induction l with
 | nil=>simp[kVs]
 | cons a l b=>simp[kVs,b]
theorem amX (l:List Raw):kRs l ↔ ∀x∈l,Ov x:=by
 induction l with
 | nil=>simp[kRs]
 | cons a l b=>simp[kRs,b]
theorem aIP (x:Pair):kP x ↔ (kM x.Key.Kind=true/\kV x.Key)/\kV x.Val:=by cases x;rfl
theorem aC9 (l:List Pair):kPs l ↔ ∀x∈l,(kM x.Key.Kind=true/\kV x.Key)/\kV x.Val:=by
 induction l with
 | nil=>simp[kPs]
 | cons a l b=>simp[kPs,b,aIP]
theorem aIQ (x:Slot):kS x ↔ kV x.Val:=by cases x;rfl
theorem aAH (l:List Slot):kSs l ↔ ∀x∈l,kV x.Val:=by
 induction l with
 | nil=>simp[kSs]
 | cons a l b=>simp[kSs,b,aIQ]
theorem iV (v:ah):kV v ↔ (m_ v.Bits/\∀r∈v.bM,Ov r)/\(∀x∈v.List,kV x)/\(∀x∈v.Pairs,(kM x.Key.Kind=true/\kV x.Key)/\kV x.Val)/\∀x∈v.Slots,kV x.Val:=by
 cases v;simp[kV,aCO,aC9,aAH,amX,ah.Bits,ah.List,ah.Pairs,ah.Slots,ah.bM]
def gV (v:ah):Prop:=kV v/\tV v<=1048576
def yZ (k a:Nat)(v:ah):Prop:=gV v/\3*tV v+k<=a
theorem Ql {k:Nat}{v:ah}(h:yZ k 0 v):False:=by
 have:=nI v;have:=h.2;omega
theorem qm {v:ah}(h:gV v):v.bM.length<=1048576/\v.Slots.length<=1048576/\v.List.length<=1048576/\pJ v.Pairs:=by
 have f:=iZ v;have g:=LH v.bM;have d:=U2 v.Slots;have b:=KP v.List;have c:=G8 v.Pairs;have e:=h.2;exact⟨by omega,by omega,by omega,by omega,fun x a=>(((iV v).1 h.1).2.2.1 x a).1.1⟩
theorem D5 {v x:ah}(h:gV v)(a:x∈v.List):gV x/\tV x < tV v:=by
 have b:=iZ v;have c:=ant a;have:=h.2;exact⟨⟨((iV v).1 h.1).2.1 x a,by omega⟩,by omega⟩
theorem zL {v:ah}{x:Pair}(h:gV v)(b:x∈v.Pairs):gV x.Val/\tV x.Val < tV v/\kM x.Key.Kind=true/\tV x.Key < tV v:=by
 have c:=iZ v;have d:=aom b;have a:=((iV v).1 h.1).2.2.1 x b;have:=h.2;exact⟨⟨a.2,by omega⟩,by omega,a.1.1,by omega⟩
theorem alB {v:ah}{x:Pair}(h:gV v)(a:x∈v.Pairs):kV x.Key:=(((iV v).1 h.1).2.2.1 x a).1.2
theorem MB {v:ah}{x:Slot}(h:gV v)(a:x∈v.Slots):gV x.Val/\tV x.Val < tV v:=by
 have b:=iZ v;have c:=adg a;have:=h.2;exact⟨⟨((iV v).1 h.1).2.2.2 x a,by omega⟩,by omega⟩
theorem z_ (v:ah):(nK v).Kind=v.Kind/\(nK v).Text=v.Text/\(nK v).List=v.List/\(nK v).Pairs=v.Pairs/\(nK v).Slots=v.Slots/\(nK v).bM=v.bM:=by
 unfold nK ahx;simp only[bY,cZ,bf,aI,jk,Qa6];(repeat' split)<;>(cases v;exact⟨rfl,rfl,rfl,rfl,rfl,rfl⟩)
theorem acB (v:ah):tV (nK v)=tV v:=by
 obtain⟨f,e,c,a,b,d⟩:=z_ v;rw[iZ,iZ v,e,c,a,b,d]
theorem aBa (v:ah):(nK v).Bits=v.Bits\/(nK v).Bits=9221120237041090560:=by
 unfold nK ahx;simp only[bY,cZ,bf,aI,jk,Qa6];(repeat' split)<;>(cases v;first | exact .inl rfl | exact .inr rfl)
theorem TR {v:ah}(h:kV v):kV (nK v):=by
 obtain⟨f,g,c,a,b,d⟩:=z_ v;rw[iV]at h⊢;rw[c,a,b,d];refine⟨⟨?_,h.1.2⟩,h.2⟩;rcases aBa v with e | e
 ·grind
 ·rw[e];exact⟨by decide,by decide⟩
theorem lC (k b:Int)(t:Str)(a:m_ b):kV (ah.mk k b t [] [] [] [])/\tV (ah.mk k b t [] [] [] [])=1+t.length:=by
 simp[kV,kVs,kPs,kSs,kRs,tV,tVs,ZY,tSs,Vq,a]
def aEb (s:dO->Int->ah->ah)(uG:dO->Int->ah->Prop)(j:dO->Op->ah->ah)(oH:dO->Op->ah->Prop)(t:dO->Op->ah->ah)(oG:dO->Op->ah->Prop)(p:dO)(prog:Int)(v:ah):Pg ah:=.ob (v.bM.length<=1048576) (.lt (match v with | ah.mk k q r m l o a=>a) fun(f:List Raw)=> .br (decide (prog < 0)) (.ret (ah.mk (Int.ofNat (nat_lit 10)) (Int.ofNat (nat_lit 0)) [] [] [] [] f)) (aL p.bD (.br (decide ((↑p.bD.length:Int)<=prog)) (.ret (ah.mk (Int.ofNat (nat_lit 10)) (Int.ofNat (nat_lit 0)) [] [] [] [] f)) (.ob (v.Slots.length<=1048576) (.lt (C_ v.Slots) fun g=> aL g (.each false oZ g cO (fun i c (b:ah)=> .ix i g.length (.ix prog p.bD.length (.lt (b.Slots++[Slot.mk c.Num (j p (mY (p.bD.getD prog.toNat dC) c.Num).1 c.Val.re).re]) fun(e:List Slot)=> .lt (aCY (j p (mY (p.bD.getD prog.toNat dC) c.Num).1 c.Val.re).re) fun h=> .lt (mY (p.bD.getD prog.toNat dC) c.Num) fun d=> .br (d.1.Card==3) (.ob (oH p d.1 c.Val.re) (.br (!h) (.ob (bZ (b.Slots.length+1) 136) (rl (ah.mk b.Kind b.Bits b.Text b.List b.Pairs e b.bM))) (rl b.re))) (.br (d.1.Card==4) (.ob (oH p d.1 c.Val.re) (.br (!h) (.ob (bZ (b.Slots.length+1) 136) (rl (ah.mk b.Kind b.Bits b.Text b.List b.Pairs e b.bM))) (rl b.re))) (.ob (oH p d.1 c.Val.re) (.br (!d.1.Card==5) (.ob (bZ (b.Slots.length+1) 136) (rl (ah.mk b.Kind b.Bits b.Text b.List b.Pairs e b.bM))) (.br (!h) (.ob (bZ (b.Slots.length+1) 136) (rl (ah.mk b.Kind b.Bits b.Text b.List b.Pairs e b.bM))) (rl b.re)))))))) (fun i (b:ah)=> .ob (uq (fun(x n:Raw)=>True) b.bM) (.ret (ah.mk b.Kind b.Bits b.Text b.List b.Pairs b.Slots (Q9 b.bM)))) (ah.mk (Int.ofNat (nat_lit 10)) (Int.ofNat (nat_lit 0)) [] [] [] [] f)))))))
def auT (i:dO->Int->ah->ah)(uG:dO->Int->ah->Prop)(j:dO->Op->ah->ah)(oH:dO->Op->ah->Prop)(d:dO->Op->ah->ah)(oG:dO->Op->ah->Prop)(p:dO)(o:Op)(v:ah):Pg ah:=.br (o.Card==4) (aL v.List (.each false oZ v.List gQ (fun g (f b:ah)=> .ix g v.List.length (.ob (oG p o f.re) (.ob (bZ (b.List.length+1) 128) (rl (ah.mk b.Kind b.Bits b.Text (b.List++[(d p o f.re).re]) b.Pairs b.Slots b.bM))))) (fun g (b:ah)=> .ret b.re) (ah.mk (Int.ofNat (nat_lit 11)) (Int.ofNat (nat_lit 0)) [] [] [] [] []))) (.br (o.Card==5) (.ob (pJ v.Pairs) (.lt (pg v.Pairs) fun c=> aL c (.each false oZ c iE (fun h e (a:ah)=> .ix h c.length (.ob (oG p o e.Val.re) (.ob (bZ (a.Pairs.length+1) 256) (rl (ah.mk a.Kind a.Bits a.Text a.List (a.Pairs++[Pair.mk (nK e.Key.re).re (d p o e.Val.re).re]) a.Slots a.bM))))) (fun h (a:ah)=> .ret a.re) (ah.mk (Int.ofNat (nat_lit 12)) (Int.ofNat (nat_lit 0)) [] [] [] [] [])))) (.ob (oG p o v.re) (.ret (d p o v.re).re)))
def asJ (a:dO->Int->ah->ah)(uG:dO->Int->ah->Prop)(c:dO->Op->ah->ah)(oH:dO->Op->ah->Prop)(b:dO->Op->ah->ah)(oG:dO->Op->ah->Prop)(p:dO)(o:Op)(v:ah):Pg ah:=.br (o.Kind==10) (.ob (uG p o.Target v.re) (.ret (a p o.Target v.re).re)) (.ret (nK v.re).re)
def uG (a:Nat)(p:dO)(prog:Int)(v:ah):Prop:=yZ 0 a v
def oH (a:Nat)(p:dO)(o:Op)(v:ah):Prop:=yZ 2 a v
def oG (a:Nat)(p:dO)(o:Op)(v:ah):Prop:=yZ 1 a v
def SK:Nat->(dO->Int->ah->ah)×(dO->Op->ah->ah)×(dO->Op->ah->ah)
 | 0=>(fun _ _ _=>default,fun _ _ _=>default,fun _ _ _=>default)
 | a+1=>(fun p prog v=>(aEb ((SK a).1) (uG a) ((SK a).2.1) (oH a) ((SK a).2.2) (oG a) p prog v).val,fun p o v=>(auT ((SK a).1) (uG a) ((SK a).2.1) (oH a) ((SK a).2.2) (oG a) p o v).val,fun p o v=>(asJ ((SK a).1) (uG a) ((SK a).2.1) (oH a) ((SK a).2.2) (oG a) p o v).val)
def Yx (p:dO)(prog:Int)(v:ah):ah:=(SK (3*tV v)).1 p prog v
def adW (a:Nat):Prop:=(∀(p:dO) (prog:Int) (v:ah),uG a p prog v->(fun r=>kV r/\tV r<=tV v) ((SK a).1 p prog v))/\(∀(p:dO) (o:Op) (v:ah),oH a p o v->(fun r=>kV r/\tV r<=tV v) ((SK a).2.1 p o v))/\(∀(p:dO) (o:Op) (v:ah),oG a p o v->(fun r=>kV r/\tV r<=tV v) ((SK a).2.2 p o v))
def pnI (a:List Raw)(b:List Slot)(i:Nat)(y:ah):Prop:=kV y/\tV y<=1+kG tS (b.take i)+Vq a/\y.Slots.length<=i/\y.bM=a
def pnL (l:List ah)(i:Nat)(y:ah):Prop:=kV y/\tV y<=1+kG (fun x=>1+tV x) (l.take i)/\y.List.length<=i
def pnP (l:List Pair)(i:Nat)(y:ah):Prop:=kV y/\tV y<=1+kG tP (l.take i)/\y.Pairs.length<=i
theorem aLz (y z:ah)(n:Int):tV (ah.mk y.Kind y.Bits y.Text y.List y.Pairs (y.Slots++[Slot.mk n z]) y.bM)=tV y+(1+tV z):=by
 rw[iZ,iZ y];cases y;simp only[ah.Text,ah.List,ah.Pairs,ah.Slots,ah.bM,xe,pI,kG,zD,Slot.Val];omega
theorem aK7 {y z:ah}{n:Int}(h:kV y)(b:kV z):kV (ah.mk y.Kind y.Bits y.Text y.List y.Pairs (y.Slots++[Slot.mk n z]) y.bM):=by
 rw[iV]at h⊢;cases y;simp only[ah.Bits,ah.Text,ah.List,ah.Pairs,ah.Slots,ah.bM]at h⊢;exact⟨h.1,h.2.1,h.2.2.1,fun x a=>(yH.1 a).elim (h.2.2.2 x) fun e=>by rw[Ko.1 e];exact b⟩
theorem aKb (y z:ah):tV (ah.mk y.Kind y.Bits y.Text (y.List++[z]) y.Pairs y.Slots y.bM)=tV y+(1+tV z):=by
 rw[iZ,iZ y];cases y;simp only[ah.Text,ah.List,ah.Pairs,ah.Slots,ah.bM,vI,pI,kG];omega
theorem aMk {y z:ah}(h:kV y)(b:kV z):kV (ah.mk y.Kind y.Bits y.Text (y.List++[z]) y.Pairs y.Slots y.bM):=by
 rw[iV]at h⊢;cases y;simp only[ah.Bits,ah.Text,ah.List,ah.Pairs,ah.Slots,ah.bM]at h⊢;exact⟨h.1,fun x a=>(yH.1 a).elim (h.2.1 x) fun e=>by rw[Ko.1 e];exact b,h.2.2⟩
theorem aL6 (y k z:ah):tV (ah.mk y.Kind y.Bits y.Text y.List (y.Pairs++[Pair.mk k z]) y.Slots y.bM)=tV y+(1+tV k+tV z):=by
 rw[iZ,iZ y];cases y;simp only[ah.Text,ah.List,ah.Pairs,ah.Slots,ah.bM,xg,pI,kG,Qy,Pair.Key,Pair.Val];omega
theorem aLY {y k z:ah}(h:kV y)(a:kM k.Kind=true/\kV k)(c:kV z):kV (ah.mk y.Kind y.Bits y.Text y.List (y.Pairs++[Pair.mk k z]) y.Slots y.bM):=by
 rw[iV]at h⊢;cases y;simp only[ah.Bits,ah.Text,ah.List,ah.Pairs,ah.Slots,ah.bM]at h⊢;exact⟨h.1,h.2.1,fun x b=>(yH.1 b).elim (h.2.2.1 x) fun e=>by rw[Ko.1 e];exact⟨a,c⟩,h.2.2.2⟩
theorem alE {l:List Slot}(h:l.length<=1048576){x:Slot}(a:x∈C_ l):x∈l:=(TL h).mem_iff.1 ((DW l h).2.subset a)
theorem axq {l:List Slot}(h:l.length<=1048576):kG tS (C_ l)<=kG tS l:=by
 rw[<-Fq (TL h)];exact wu (DW l h).2
theorem Yl {l v:List Slot}(h:l.length<=1048576)(e:v=C_ l):v.length<=1048576:=by
 have k:=(DW l h).2.length_le;have a:=(TL h).length_eq;have b:(C_ l).length<=(abH l).length:=k;rw[e];omega
theorem Jz {l:List Pair}(h:pJ l){x:Pair}(a:x∈pg l):x∈l:=(BX (pM h)).mem_iff.1 ((CU l h).2.subset a)
theorem WL {l:List Pair}(h:pJ l):kG tP (pg l)<=kG tP l:=by
 rw[<-Fq (BX (pM h))];exact wu (CU l h).2
theorem Va {l v:List Pair}(h:pJ l)(e:v=pg l):v.length<=1048576:=by
 have k:(pg l).length<=(abk l).length:=(CU l h).2.length_le;have a:=(BX (pM h)).length_eq;have b:=h.1;rw[e];omega
theorem aF7 {l:List Raw}(h:l.length<=1048576):Vq (Q9 l)=Vq l:=by
 rw[FD,FD];exact Fq (aor h)
theorem amf {r:List Raw}(a:∀x∈r,Ov x):kV (ah.mk 10 0 [] [] [] [] r)/\tV (ah.mk 10 0 [] [] [] [] r)=1+Vq r:=by
 have a:=(amX r).2 a;simp[kV,kVs,kPs,kSs,tV,tVs,ZY,tSs,u0,a]
theorem aNq {k:Nat}{b:Nat}{v:ah}{a:List Raw}(h:yZ k b v)(e:a=v.bM):kV (ah.mk 10 0 [] [] [] [] a)/\tV (ah.mk 10 0 [] [] [] [] a)<=tV v:=by
 subst e;obtain⟨c,d⟩:=amf ((iV v).1 h.1.1).1.2;have:=iZ v;exact⟨c,by omega⟩
theorem aLB {k b:Nat}{v:ah}(h:yZ k (b+1) v){a:List Slot}(e:a=C_ v.Slots){i:Nat}(g:i < a.length):yZ (k+2) b (a.getD i cO).Val:=by
 subst e;have f:=alE (qm h.1).2.1 (getD_mem (d:=cO) g);obtain⟨c,j⟩:=MB h.1 f;have:=h.2;exact⟨c,by omega⟩
theorem aK4 {k a:Nat}{v:ah}(h:yZ (k+1) (a+1) v){i:Nat}(c:i < v.List.length):yZ k a (v.List.getD i gQ):=by
 obtain⟨b,e⟩:=D5 h.1 (getD_mem (d:=gQ) c);have:=h.2;exact⟨b,by omega⟩
theorem azT {k b:Nat}{v:ah}(h:yZ (k+1) (b+1) v){a:List Pair}(e:a=pg v.Pairs){i:Nat}(j:i < a.length):yZ k b (a.getD i iE).Val/\kM (a.getD i iE).Key.Kind=true/\kV (a.getD i iE).Key:=by
 subst e;have c:=Jz (qm h.1).2.2.2 (getD_mem (d:=iE) j);obtain⟨f,l,g,_⟩:=zL h.1 c;have:=h.2;exact⟨⟨f,by omega⟩,g,alB h.1 c⟩
theorem UI {k a:Nat}{v:ah}(h:yZ (k+1) (a+1) v):yZ k a v:=⟨h.1,by have:=h.2;omega⟩
theorem aKu {k b:Nat}{v:ah}{a:List Raw}{f:List Slot}(h:yZ k b v)(e:a=v.bM):pnI a f 0 (ah.mk 10 0 [] [] [] [] a):=by
 obtain⟨c,d⟩:=amf (r:=a) (by rw[e];exact((iV v).1 h.1.1).1.2);exact⟨c,by rw[d];simp[kG],nO _,rfl⟩
theorem aw2 {b:List Raw}{a:List Slot}{i:Nat}{y:ah}(h:pnI b a i y):pnI b a (i+1) y.re:=by
 rw[ah.dR];obtain⟨d,g,e,c⟩:=h;have:=wu (f:=tS) (Qda (l:=a) (show i<=i+1 by omega));exact⟨d,by omega,by omega,c⟩
theorem aC6 {c:List Raw}{a:List Slot}{i:Nat}{y z:ah}{n:Int}(m:i < a.length)(h:pnI c a i y)(l:kV z/\tV z<=tV (a.getD i cO).Val){b:List Slot}(e:b=y.Slots++[Slot.mk n z]):pnI c a (i+1) (ah.mk y.Kind y.Bits y.Text y.List y.Pairs b y.bM):=by
 obtain⟨j,p,o,g⟩:=h;rw[e];have k:=qZ (f:=tS) (d:=cO) m;have q:=zD (a.getD i cO);refine⟨aK7 j l.1,?_,?_,g⟩
 ·rw[aLz];omega
 ·show(y.Slots++[Slot.mk n z]).length<=i+1
  simp only[um,yG,CJ];omega
theorem azU {k i:Nat}{v:ah}{c:List Raw}{b:List Slot}{y:ah}(h:yZ k i v)(d:c=v.bM)(m:b=C_ v.Slots)(j:pnI c b b.length y):kV (ah.mk y.Kind y.Bits y.Text y.List y.Pairs y.Slots (Q9 y.bM))/\tV (ah.mk y.Kind y.Bits y.Text y.List y.Pairs y.Slots (Q9 y.bM))<=tV v:=by
 obtain⟨a,f,t,n⟩:=j;have e:=qm h.1;have g:y.bM.length<=1048576:=by rw[n,d];exact e.1
 have r:=axq e.2.1;have u:=iZ v;have o:=aF7 g;have s:=xe v.Slots;have q:=iZ y;rw[Kr,m]at f;rw[d]at f;refine⟨?_,?_⟩
 ·have l:∀x∈Q9 y.bM,Ov x:=fun x p=>((iV y).1 a).1.2 x ((aor g).mem_iff.1 p)
  rw[iV]at a⊢;cases y;exact⟨⟨a.1.1,l⟩,a.2⟩
 ·rw[iZ];show 1+y.Text.length+tVs y.List+ZY y.Pairs+tSs y.Slots+Vq (Q9 y.bM)<=tV v
  rw[o];omega
theorem aKP {l:List ah}:pnL l 0 (ah.mk 11 0 [] [] [] [] []):=by
 obtain⟨b,a⟩:=lC 11 0 [] u0;exact⟨b,by rw[a];simp[kG],nO _⟩
theorem aC7 {l:List ah}{i:Nat}{y z:ah}(c:i < l.length)(h:pnL l i y)(b:kV z/\tV z<=tV (l.getD i gQ)):pnL l (i+1) (ah.mk y.Kind y.Bits y.Text (y.List++[z]) y.Pairs y.Slots y.bM):=by
 obtain⟨a,g,e⟩:=h;have k:=qZ (f:=fun x=>1+tV x) (d:=gQ) c;refine⟨aMk a b.1,?_,?_⟩
 ·rw[aKb];omega
 ·show(y.List++[z]).length<=i+1
  simp only[um,yG,CJ];omega
theorem aAD {v y:ah}(b:pnL v.List v.List.length y):kV y.re/\tV y.re<=tV v:=by
 rw[ah.dR];obtain⟨a,c,d⟩:=b;have f:=iZ v;have e:=vI v.List;rw[Kr]at c;exact⟨a,by omega⟩
theorem aKa {l:List Pair}:pnP l 0 (ah.mk 12 0 [] [] [] [] []):=by
 obtain⟨b,a⟩:=lC 12 0 [] u0;exact⟨b,by rw[a];simp[kG],nO _⟩
theorem aCs {l:List Pair}{i:Nat}{y k z:ah}(e:i < l.length)(h:pnP l i y)(a:(kM k.Kind=true/\kV k)/\tV k<=tV (l.getD i iE).Key)(c:kV z/\tV z<=tV (l.getD i iE).Val):pnP l (i+1) (ah.mk y.Kind y.Bits y.Text y.List (y.Pairs++[Pair.mk k z]) y.Slots y.bM):=by
 obtain⟨b,m,g⟩:=h;have q:=qZ (f:=tP) (d:=iE) e;have j:=Qy (l.getD i iE);refine⟨aLY b a.1 c.1,?_,?_⟩
 ·rw[aL6];omega
 ·show(y.Pairs++[Pair.mk k z]).length<=i+1
  simp only[um,yG,CJ];omega
theorem aB5 {k b:Nat}{v y:ah}{a:List Pair}(h:yZ k b v)(e:a=pg v.Pairs)(d:pnP a a.length y):kV y.re/\tV y.re<=tV v:=by
 rw[ah.dR];obtain⟨c,f,g⟩:=d;have j:=WL (qm h.1).2.2.2;have l:=iZ v;have i:=xg v.Pairs;rw[Kr,e]at f;exact⟨c,by omega⟩
theorem auD {v:ah}{a:List Raw}{b:List Slot}{i:Nat}{y:ah}(h:pnI a b i y)(e:a=v.bM)(c:v.bM.length<=1048576):uq (fun(_ _:Raw)=>True) y.bM:=⟨by rw[h.2.2.2,e];omega,fun _ _ _ _=>trivial⟩
abbrev adG (a:Nat):=aEb ((SK a).1) (uG a) ((SK a).2.1) (oH a) ((SK a).2.2) (oG a)
theorem aa7 (fu:Nat)(ih:adW fu)(p:dO)(prog:Int)(v:ah)(h:uG (fu+1) p prog v):j_ (adG fu p prog v) (fun r=>kV r/\tV r<=tV v):=
 have h:yZ 0 (fu+1) v:=h;have hl:=qm h.1;ai (qaj) (az fun d hv4=>bG (fun _=>af qal) (fun _=>bW <| bG (fun _=>af qal) (fun _=>ai (qaj) (az fun b hv5=>bW <| dh (fun(c:Nat) a=>pnI d b c a) (by exact aKu h hv4) (by(have:=Yl hl.2.1 hv5;omega)) (fun c a ry e=>have hI:pnI d b c a:=e;aW au au (aW au au (az fun g hv6=>az fun j f=>az fun k i=>dK (fun _=>ai (qaj) (dJ (fun _=>ai (qaj) (af qal)) (fun _=>af qal))) (fun _=>dK (fun _=>ai (qaj) (dJ (fun _=>ai (qaj) (af qal)) (fun _=>af qal))) (fun _=>ai (qaj) (dJ (fun _=>ai (qaj) (af qal)) (fun _=>dJ (fun _=>ai (qaj) (af qal)) (fun _=>af qal)))))))) (fun a hI=>have hI:pnI d b b.length a:=hI;ai (qaj) (af qal))))))
abbrev WI (a:Nat):=auT ((SK a).1) (uG a) ((SK a).2.1) (oH a) ((SK a).2.2) (oG a)
theorem VS (fu:Nat)(ih:adW fu)(p:dO)(o:Op)(v:ah)(h:oH (fu+1) p o v):j_ (WI fu p o v) (fun r=>kV r/\tV r<=tV v):=
 have h:yZ 2 (fu+1) v:=h;have hl:=qm h.1;dK (fun _=>bW <| dh (fun(e:Nat) b=>pnL v.List e b) (by exact aKP) au (fun e b ry g=>have hI:pnL v.List e b:=g;aW au au (ai (qao) (ai (qao) (af qai)))) (fun b hI=>have hI:pnL v.List v.List.length b:=hI;af qai)) (fun _=>dK (fun _=>ai (qao) (az fun c hv7=>bW <| dh (fun(d:Nat) a=>pnP c d a) (by exact aKa) (by(have:=Va hl.2.2.2 hv7;omega)) (fun d a ab6 f=>have hI:pnP c d a:=f;aW au au (ai (qao) (ai (qao) (af qai)))) (fun a hI=>have hI:pnP c c.length a:=hI;af qai))) (fun _=>ai (qao) (af qai)))
abbrev Wu (a:Nat):=asJ ((SK a).1) (uG a) ((SK a).2.1) (oH a) ((SK a).2.2) (oG a)
theorem YH (a:Nat)(ih:adW a)(p:dO)(o:Op)(v:ah)(h:oG (a+1) p o v):j_ (Wu a p o v) (fun r=>kV r/\tV r<=tV v):=
 have h:yZ 1 (a+1) v:=h;dK (fun _=>ai ((by(show yZ 0 a _;rw[ah.dR];exact UI h))) (af qbj)) (fun _=>af qbj)
theorem Dx:∀a,adW a
 | 0=>⟨fun p prog v h=>False.elim (Ql h),
  fun p o v h=>False.elim (Ql h),
  fun p o v h=>False.elim (Ql h)⟩
 | a+1=>⟨fun p prog v h=>(aa7 a (Dx a) p prog v h).2,
  fun p o v h=>(VS a (Dx a) p o v h).2,
  fun p o v h=>(YH a (Dx a) p o v h).2⟩
theorem avD (a:Nat)(p:dO)(prog:Int)(v:ah)(h:uG (a+1) p prog v):Is (adG a p prog v):=(aa7 a (Dx a) p prog v h).1
theorem ao6 (a:Nat)(p:dO)(o:Op)(v:ah)(h:oH (a+1) p o v):Is (WI a p o v):=(VS a (Dx a) p o v h).1
theorem aq9 (a:Nat)(p:dO)(o:Op)(v:ah)(h:oG (a+1) p o v):Is (Wu a p o v):=(YH a (Dx a) p o v h).1
theorem Ry (p:dO)(prog:Int)(v:ah)(h:gV v):(fun r=>kV r/\tV r<=tV v) (Yx p prog v):=(Dx (3*tV v)).1 p prog v (⟨h,nO _⟩)
theorem aEX:∀b,gZ Z.P Z.S 162 (qj (args (ak (aJ eX) (ak (bC cI) (a1 (aJ aP))))) (shr [.slot 0 true (nn 7)] (l1 aP)) 1 [] (fun a=>some (uG b (a.1) (a.2.1) (a.2.2))) (fun a=>(SK b).1 (a.1) (a.2.1) (a.2.2)))/\gZ Z.P Z.S 238 (qj (args (ak (aJ eX) (ak (aJ jF) (a1 (aJ aP))))) (shr [.slot 0 true (nn 7)] (l1 aP)) 1 [] (fun a=>some (oH b (a.1) (a.2.1) (a.2.2))) (fun a=>(SK b).2.1 (a.1) (a.2.1) (a.2.2)))/\gZ Z.P Z.S 317 (qj (args (ak (aJ eX) (ak (aJ jF) (a1 (aJ aP))))) (shr [.slot 0 true (nn 7)] (l1 aP)) 1 [] (fun a=>some (oG b (a.1) (a.2.1) (a.2.2))) (fun a=>(SK b).2.2 (a.1) (a.2.1) (a.2.2)))
 | 0=>⟨je func162 eQ (fun a h=>Ql h),
  je func238 eQ (fun a h=>Ql h),
  je func317 eQ (fun a h=>Ql h)⟩
 | b+1=>by
  obtain⟨d,f,g⟩:=aEX b;exact⟨GU [aKd,atB,Qu,auv,avK,WO,⟨162,_,d⟩,⟨238,_,f⟩,⟨317,_,g⟩] [jS 5 (bI (fun c=>[s0 32, .cells (pid (c 7)) [none,none,none,none,none,some 288,some 295]]) (aB cI (l1 aP))),jS 800001 (bI (fun c=>[.cells (pid (c 7)) [none,none,none,none,none,some 288,some 295]]) (l1 aP))] func162 ntmps162 (fun a=>adG b a.1 a.2.1 a.2.2) (fun a h=>⟨avD b a.1 a.2.1 a.2.2 h,rfl⟩) (lJ (n:=86) rfl),
   GU [KT,Vy,⟨162,_,d⟩,⟨238,_,f⟩,⟨317,_,g⟩] [jS 5 (bI (fun c=>[s0 21, .cells (pid (c 7)) [none,none,none,some 78,none,none,none]]) (aB cI (l1 aP))),jS 13 (bI (fun c=>[s0 43, .cells (pid (c 10)) [none,none,none,none,some 355,none,none]]) (aB cI (l1 aP))),jS 800003 (bI (fun c=>[.cells (pid (c 7)) [none,none,none,some 78,none,none,none]]) (l1 aP)),jS 800011 (bI (fun c=>[.cells (pid (c 10)) [none,none,none,none,some 355,none,none]]) (l1 aP))] func238 ntmps238 (fun a=>WI b a.1 a.2.1 a.2.2) (fun a h=>⟨ao6 b a.1 a.2.1 a.2.2 h,rfl⟩) (lJ (n:=67) rfl),
   GU [KT,⟨162,_,d⟩,⟨238,_,f⟩,⟨317,_,g⟩] [] func317 ntmps317 (fun a=>Wu b a.1 a.2.1 a.2.2) (fun a h=>⟨aq9 b a.1 a.2.1 a.2.2 h,rfl⟩) (lJ (n:=17) rfl)⟩
def aow:aZ Z:=⟨162,qj (args (ak (aJ eX) (ak (bC cI) (a1 (aJ aP))))) (shr [.slot 0 true (nn 7)] (l1 aP)) 1 [] (fun a=>some (gV (a.2.2))) (fun a=>Yx (a.1) (a.2.1) (a.2.2)),kQ (fun n=>((aEX n).1)) _ _ (fun a h=>⟨3*tV (a.2.2),⟨h,nO _⟩,rfl⟩)⟩
theorem aCq (s:Str):m_ (E8 s).1:=by
 unfold E8 agk;simp only[bf,aI,qC];cases decide ((s.length:Int) < 8)with
 | true=>exact u0
 | false=>exact GY (Q:=fun(r:Int×Int)=>m_ r.1) (fun _ y=>m_ y) 8 _ 0 0 rfl u0 (fun i y _ _=>by simp only[eU,cZ,bY,aI];exact aiN _) (fun i y _ h=>h)
theorem ahB {c:aS}:m_ (Aa c).1:=by
 have k:=aCq (sZ c 8);unfold Aa YU;simp only[bY,cZ,bf,aI];cases(E8 (sZ c 8)).2 !=0 with
 | true=>exact u0
 | false=>exact k
theorem XO {f:Raw}(e:1<=f.Num/\f.Num<=65535)(h:0<=f.iy/\f.iy<=6)(a:m_ f.Bits)(b:f.iy<=2->f.Data=[])(c:3<=f.iy->f.Bits=0):Ov f:=by
 refine⟨a,?_⟩;have d:(CV f.Num f.iy).2=0:=by
  unfold CV ag9;simp only[bf,cZ,bY,aI]
  grind
 have g:anJ f.iy=decide (f.iy<=2):=by
  unfold anJ aGg;simp only[bf,aI]
  grind
 unfold Md aeg;simp only[bf,aI]
 grind
theorem afE {c:aS}(h:n_ c){f:Raw}(l:0<=f.iy/\f.iy<=6)(b:f.Bits=0)(d:f.Data=[]):(jr c f).2.2.Num=f.Num/\(jr c f).2.2.iy=f.iy/\m_ (jr c f).2.2.Bits/\(f.iy<=2->(jr c f).2.2.Data=[])/\(3<=f.iy->(jr c f).2.2.Bits=0):=by
 have j:∀K:Bool->aS×Int×Raw,(thenS (bif f.iy==0 then(Sum.inl (f.iy==0):Bool⊕(aS×Int×Raw))else Sum.inl (f.iy==1)) K)=K (bif f.iy==0 then true else f.iy==1):=fun K=>by cases e:f.iy==0<;>rfl
 unfold jr Bg;simp only[bY,cZ,bf,aI,jk];rw[j];cases m:(bif f.iy==0 then true else f.iy==1)with
 | true=>
  have a:f.iy<=2:=by
   grind
  exact⟨rfl,rfl,(mV h).1,fun _=>d,fun i=>absurd a au⟩
 | false=>
  cases k:f.iy==2 with
  | true=>
   have a:=eq_of_beq k;exact⟨rfl,rfl,ahB,fun _=>d,fun i=>absurd a au⟩
  | false=>
   have g:¬f.iy<=2:=fun a=>by
    grind
   exact⟨rfl,rfl,by show m_ f.Bits;rw[b];exact u0,fun a=>absurd a g,fun _=>b⟩
theorem awV {c:aS}(a:(vg c).2.2.2=0)(h:n_ c):(1<=(vg c).1/\(vg c).1<=65535)/\0<=(vg c).2.1/\(vg c).2.1<=6:=by
 obtain⟨⟨b,u2⟩,k⟩:=mV h;unfold vg aBi at a⊢;simp only[bY,cZ,bf,aI]at a⊢;cases e:(dw c).2.2 !=0 with
 | true=>
  grind
 | false=>
  rw[e]at a;simp only[mX]at a⊢;have g:(dw c).1.tmod 8=(dw c).1 % 8:=Int.tmod_eq_emod_of_nonneg b;have d8:(dw c).1.tdiv 8=(dw c).1 / 8:=Int.tdiv_eq_ediv_of_nonneg b;rw[g,d8]at a⊢;have f:dA .u64 ((dw c).1 / 8)=(dw c).1 / 8:=dU (k:= .u64) tZ;rw[f]at a⊢;by_cases l:(dw c).1 % 8=7
  ·grind
  have d:((dw c).1 % 8==7)=false:=beq_false_of_ne l;rw[d]at a⊢;simp only[mX]at a⊢;by_cases i:(dw c).1 / 8 < 1
  ·grind
  rw[qM i]at a⊢;by_cases j:65535 < (dw c).1 / 8
  ·grind
  rw[qM j];have m:dA .i64 ((dw c).1 / 8)=(dw c).1 / 8:=dU (k:= .i64) tZ;have n:dA .i64 ((dw c).1 % 8)=(dw c).1 % 8:=dU (k:= .i64) tZ
  grind
theorem aDe {c:aS}(h:n_ c)(b:(wS c).2.2=0):Ov (wS c).1:=by
 have k:=BQ h;have kr:=fun b=>awV (c:=c) b h
 unfold wS abu at b⊢;simp only[bY,cZ,bf,aI]at b⊢;generalize vg c=a at*;cases e:a.2.2.2 !=0 with
 | true=>
  grind
 | false=>
  obtain⟨o,r⟩:=k (lM.1 e);obtain⟨p,l⟩:=kr (lM.1 e);rw[e]at b;simp only[mX]at b⊢;have s:=yg o.1 (n:=1);generalize sU a.2.2.1 1=g at*;cases i:g.2 !=0 with
  | true=>
   grind
  | false=>
   obtain⟨m,_⟩:=s (lM.1 i);rw[i]at b;simp only[mX]at b⊢;obtain⟨t1,t2,t3,t4,t5⟩:=afE m.1 (f:=Raw.mk a.1 a.2.1 0 []) l rfl rfl;generalize jr g.1 (Raw.mk a.1 a.2.1 0 [])=d at*;cases q:d.2.1 !=0 with
   | true=>
    grind
   | false=>
    have t1:d.2.2.Num=a.1:=t1;have t2:d.2.2.iy=a.2.1:=t2;have t4:a.2.1<=2->d.2.2.Data=[]:=t4;have t5:3<=a.2.1->d.2.2.Bits=0:=t5;show Ov d.2.2
    exact XO au au t3 (fun j=>t4 au) (fun j=>t5 au)
theorem RJ {wire:Int}{r:ae}(h:n_ r.c):m_ (jd wire r).1.Bits:=by
 unfold jd Ba;simp only[bY,cZ,bf,aI];cases wire==3 with
 | true=>
  simp only[uu];cases(kZ r).2.1 !=0<;>exact u0
 | false=>
  simp only[mX];cases wire==2 with
  | true=>exact ahB
  | false=>exact(mV h).1
theorem ao_ {c:aS}(h:n_ c){a:Int}(b:(CW c a).2.2=0):((CW c a).1.length:Int)+1<=(CW c a).2.1.At - c.At:=by
 obtain⟨l,k⟩:=mV h;unfold CW agq at b⊢;simp only[bY,cZ,bf,aI,jk]at b⊢;cases e:(dw c).2.2 !=0 with
 | true=>
  grind
 | false=>
  obtain⟨f,t⟩:=k (lM.1 e);have d:=f.1;have j:=su d;have i:thenS (bif a==3 then(Sum.inl c.Text:Int⊕(Str×aS×Int))else Sum.inl 65536)=thenS (.inl (bif a==3 then c.Text else 65536)):=by grind
  rw[e]at b;simp only[mX]at b⊢;rw[i]at b⊢;simp only[jc]at b⊢;obtain⟨⟨u,p,x,o⟩,v⟩:=d;obtain⟨w,u2⟩:=l;rw[j,dU (k:= .u64) tZ]at b⊢;by_cases m:(dw c).2.1.End - (dw c).2.1.At < (dw c).1
  ·grind
  rw[qM m]at b⊢;rw[dU (k:= .i64) tZ]at b⊢;by_cases g:(bif a==3 then c.Text else 65536) < (dw c).1
  ·grind
  rw[qM g];simp only[mX];rw[dU (k:= .i64) tZ];obtain⟨_,q,s,n,z,r,y⟩:=f
  grind
theorem ZB {c:aS}(h:n_ c){f:Raw}(j:f.Data=[])(a:(jr c f).2.1=0):((jr c f).2.2.Data.length:Int)+1<=(jr c f).1.At - c.At:=by
 have d:=I4 h a;have g:∀K:Bool->aS×Int×Raw,(thenS (bif f.iy==0 then(Sum.inl (f.iy==0):Bool⊕(aS×Int×Raw))else Sum.inl (f.iy==1)) K)=K (bif f.iy==0 then true else f.iy==1):=fun K=>by cases e:f.iy==0<;>rfl
 have b:=d.1.2.2.2.2.2.2;unfold jr Bg at a b⊢;simp only[bY,cZ,bf,aI,jk]at a b⊢;rw[g]at a b⊢;cases e:(bif f.iy==0 then true else f.iy==1)with
 | true=>
  grind
 | false=>
  rw[e]at a b;cases i:f.iy==2 with
  | true=>
   grind
  | false=>rw[i]at a;exact ao_ h a
theorem apf {c:aS}(h:n_ c)(b:(wS c).2.2=0):((wS c).1.Data.length:Int)+1<=(wS c).2.1.At - c.At:=by
 have k:=BQ h;unfold wS abu at b⊢;simp only[bY,cZ,bf,aI]at b⊢;generalize vg c=a at*;cases e:a.2.2.2 !=0 with
 | true=>
  grind
 | false=>
  obtain⟨i,r⟩:=k (lM.1 e);rw[e]at b;simp only[mX]at b⊢;have s:=yg i.1 (n:=1);generalize sU a.2.2.1 1=d at*;cases g:d.2 !=0 with
  | true=>
   grind
  | false=>
   obtain⟨l,o,q,_⟩:=s (lM.1 g);rw[g]at b;simp only[mX]at b⊢;have t:=ZB l.1 (f:=Raw.mk a.1 a.2.1 0 []) rfl;generalize jr d.1 (Raw.mk a.1 a.2.1 0 [])=m at*;cases j:m.2.1 !=0 with
   | true=>
    grind
   | false=>
    have t:=t (lM.1 j);have p:=i.2.2.2.2.2.2
    grind
theorem ap9 {c:aS}{n:Int}:(F_ c n).1.length<=n.toNat:=by
 unfold F_ afF;simp only[bY,cZ,bf,aI,Qa6];(repeat' split)<;>first | grind | skip
 show(txU (ae5 c n)).length<=_
 rw[G9];unfold ae5 acW;simp only[bY,cZ,aI,QA];omega
theorem IY {a:Int}{r:ae}(h:n_ r.c)(b:(jd a r).2.1=0):Ez 1 r.c (jd a r).2.2.c/\(jd a r).2.2.p=r.p/\((jd a r).1.Data.length:Int)+1<=(jd a r).2.2.c.At - r.c.At/\(jd a r).1.Data.length<=1048576/\(jd a r).2.2.c.Nodes=r.c.Nodes:=by
 have i:Ez 1 r.c (jd a r).2.2.c/\(jd a r).2.2.p=r.p/\((jd a r).1.Data.length:Int)+1<=(jd a r).2.2.c.At - r.c.At/\(jd a r).2.2.c.Nodes=r.c.Nodes:=by
  unfold jd Ba at b⊢;simp only[bY,cZ,bf,aI]at b⊢;cases j:a==3 with
  | true=>
   rw[j]at b;simp only[uu]at b⊢;have k:=wP h;generalize kZ r=f at*;cases e:f.2.1 !=0 with
   | true=>
    grind
   | false=>
    rw[e]at b;simp only[mX]at b⊢;obtain⟨d,g,m,s,o⟩:=k (lM.1 e);obtain⟨t1,t2,t3,t4⟩:=aqp d.1 (n:=f.1) b;have t5:=ap9 (c:=f.2.2.c) (n:=f.1);have l:=d.2.2.2.2.2.2;exact⟨lI (lq d t1) mi,m,by omega,t2.trans g⟩
  | false=>
   rw[j]at b;simp only[mX]at b⊢;cases e:a==2 with
   | true=>
    rw[e]at b;simp only[uu]at b⊢;obtain⟨d,g⟩:=WE h b;have l:=d.2.2.2.2.2.2
    grind
   | false=>
    rw[e]at b;simp only[mX]at b⊢;obtain⟨d,g⟩:=(mV h).2 b;have l:=d.2.2.2.2.2.2
    grind
 obtain⟨f1,f2,f3,f4⟩:=i;refine⟨f1,f2,f3,?_,f4⟩;obtain⟨⟨t,q,u,p⟩,_⟩:=f1.1;obtain⟨⟨v,_⟩,_⟩:=h;omega
theorem KE (v:ah)(a:Int):((iq v a).2=true/\∃s∈v.Slots,s.Num=a/\s.Val=(iq v a).1)\/((iq v a).2=false/\(iq v a).1=ah.mk 0 0 [] [] [] [] []):=by
 unfold iq aua;simp only[iG,jD];refine Ig (d:=cO) (Q:=fun(r:ah×Bool)=>(r.2=true/\∃s∈v.Slots,s.Num=a/\s.Val=r.1)\/(r.2=false/\r.1=ah.mk 0 0 [] [] [] [] [])) (fun _ _=>True) v.Slots 0 () trivial (fun j y b _=> ?_) (fun y _=> ?_)
 ·simp only[eU,bf,aI,Dw];cases e:(v.Slots.getD j cO).Num==a with
  | true=>exact .inl ⟨rfl,_,getD_mem b,eq_of_beq e,by rw[ah.dR]⟩
  | false=>trivial
 simp_all
theorem aqb {A:Type}{f:A->Nat}(p:A->Bool)(l:List A):kG f l=kG f (l.filter p)+kG f (l.filter fun a=> !p a):=by
 induction l with
 | nil=>rfl
 | cons a l b=>
  simp only[Qb7];cases p a<;>simp[kG,b]<;>omega
theorem afU (g:bK)(v:ah)(o:Op)(x:ah)(h:v.Slots.length<=1048576):∃l,l.Sublist (v.Slots.filter fun s=> !(s.Num==o.Num))/\yT g v o x=ah.mk 10 0 [] [] [] (l++[Slot.mk o.Num x]) v.bM:=(afO g v o x h).2
theorem JC {g:bK}{v:ah}{o:Op}{x:ah}(h:v.Slots.length<=1048576):tV (yT g v o x)+(bif (iq v o.Num).2 then 1+tV (iq v o.Num).1 else 0)<=tV v+1+tV x:=by
 obtain⟨l,d,i⟩:=afU g v o x h;have q:=iZ v;have n:kG tS l<=kG tS (v.Slots.filter fun s=> !(s.Num==o.Num)):=wu d;have p:=aqb (f:=tS) (fun s:Slot=> !(s.Num==o.Num)) v.Slots;have r:=xe v.Slots;have e:tV (yT g v o x)=1+(kG tS l+(1+tV x))+Vq v.bM:=by
  rw[i,iZ];simp only[ah.Text,ah.List,ah.Pairs,ah.Slots,ah.bM,tVs,ZY,CJ];rw[xe,pI];rfl
 rw[e];rcases KE v o.Num with⟨b,s,j,k,c⟩ | ⟨b,_⟩
 ·have b:(iq v o.Num).2=true:=b;have c:s.Val=(iq v o.Num).1:=c;rw[b,<-c];have m:tS s<=kG tS (v.Slots.filter fun a=> !!(a.Num==o.Num)):=GN (Qbj.2 ⟨j,by simp[k]⟩);rw[zD]at m
  grind
 grind
theorem Jl {g:bK}{v:ah}{o:Op}{x:ah}(h:v.Slots.length<=1048576)(c:kV v)(b:kV x):kV (yT g v o x):=by
 obtain⟨l,f,d⟩:=afU g v o x h;have e:=((iV v).1 c).1.2;have i:=((iV v).1 c).2.2.2;rw[d,iV];refine⟨⟨u0,e⟩,fun x b=>absurd b (Zc),fun x b=>absurd b (Zc),fun y a=> ?_⟩;have a:y∈l++[Slot.mk o.Num x]:=a;rcases yH.1 a with a | a
 ·grind
 ·rw[Ko.1 a];exact b
theorem GR {v:ah}{a:Int}(d:kV v):kV (iq v a).1:=by
 rcases KE v a with⟨e,s,b,f,c⟩ | ⟨e,b⟩
 ·have c:s.Val=(iq v a).1:=c;rw[<-c];exact((iV v).1 d).2.2.2 s b
 ·have b:(iq v a).1=_:=b;rw[b];exact(lC 0 0 [] u0).1
theorem UL {v:ah}{num:Int}:tV (iq v num).1<=tV v/\((iq v num).2=false->tV (iq v num).1=1):=by
 rcases KE v num with⟨b,s,a,d,c⟩ | ⟨b,a⟩
 ·have c:s.Val=(iq v num).1:=c;have b:(iq v num).2=true:=b;refine⟨?_,fun h=>by grind⟩;have:=adg a;have:=iZ v
  grind
 ·have a:(iq v num).1=_:=a;have e:tV (iq v num).1=1:=by rw[a];rfl
  exact⟨by have:=nI v;omega,fun _=>e⟩
theorem QG (l x:ah):rW l x=ah.mk 11 0 [] (l.List++[x]) [] [] []:=by
 unfold rW TA;simp_all
theorem Pe {l x:ah}:tV (rW l x)<=tV l+1+tV x:=by
 rw[QG,iZ,iZ l];simp only[ah.Text,ah.List,ah.Pairs,ah.Slots,ah.bM,ZY,tSs,Vq,CJ];rw[vI,vI,pI];simp only[kG];omega
theorem OZ {l x:ah}(c:kV l)(b:kV x):kV (rW l x):=by
 have d:=((iV l).1 c).2.1;rw[QG,iV];refine⟨⟨u0,fun x b=>absurd b (Zc)⟩,fun y a=> ?_,fun x b=>absurd b (Zc),fun y a=>absurd a (Zc)⟩;have a:y∈l.List++[x]:=a
 grind
theorem VN (v:ah)(f:Raw):zF v f=ah.mk v.Kind v.Bits v.Text v.List v.Pairs v.Slots (v.bM++[f]):=by
 unfold zF aeN;simp_all
theorem afP {v:ah}{f:Raw}:tV (zF v f)=tV v+1+f.Data.length:=by
 rw[VN,iZ,iZ v];simp only[ah.Text,ah.List,ah.Pairs,ah.Slots,ah.bM];rw[FD,FD,pI];simp only[kG];omega
theorem ag3 {v:ah}{f:Raw}(a:kV v)(c:Ov f):kV (zF v f):=by
 have h:=(iV v).1 a;rw[VN,iV];exact⟨⟨h.1.1,fun r b=>(yH.1 b).elim (h.1.2 r) fun e=>by grind⟩,h.2⟩
theorem YG {p:dO}{o:Op}{f:Raw}(e:m_ f.Bits)(d:(wL p o f).2=0):tV (wL p o f).1<=1+f.Data.length/\kV (wL p o f).1/\(wL p o f).1.Kind=o.Kind/\kM o.Kind=true:=by
 unfold wL ab9 at d⊢;simp only[bY,cZ,bf,aI,jk,ah.dR]at d⊢;cases j:kM o.Kind with
 | false=>grind
 | true=>
  rw[j]at d;simp only[Qbm,mX]at d⊢;cases m:f.iy !=Fv o with
  | true=>grind
  | false=>
   rw[m]at d;simp only[mX]at d⊢;cases g:f.iy==3 with
   | true=>
    rw[g]at d;simp only[uu]at d⊢;have k:=lC o.Kind 0 f.Data u0;cases l:o.Kind==7 with
    | true=>
     rw[l]at d;simp only[uu]at d⊢;cases s:Ae f.Data with
     | false=>grind
     | true=>exact⟨Qdf k.2,k.1,by trivial,by trivial⟩
    | false=>exact⟨Qdf k.2,k.1,by trivial,by trivial⟩
   | false=>
    rw[g]at d;simp only[mX]at d⊢;have h:∀(c:Bool) (K:ah->ah×Int) (a b:ah),thenS (bif c then(Sum.inl a:ah⊕(ah×Int))else Sum.inl b) K=K (bif c then a else b):=fun c K a b=>by cases c<;>rfl
    rw[h]at d⊢;have e:∃bits,(bif f.iy==1 then ah.mk o.Kind (dA .u64 (aEc f.Bits)) [] [] [] [] []else ah.mk o.Kind f.Bits [] [] [] [] [])=ah.mk o.Kind bits [] [] [] [] []/\m_ bits:=by cases f.iy==1<;>first | grind | exact⟨_,rfl,QS _⟩
    obtain⟨bits,e,i⟩:=e;rw[e]at d⊢;obtain⟨n,r⟩:=lC o.Kind bits [] i;have q:tV (nK (ah.mk o.Kind bits [] [] [] [] []))<=1+f.Data.length/\kV (nK (ah.mk o.Kind bits [] [] [] [] []))/\(nK (ah.mk o.Kind bits [] [] [] [] [])).Kind=o.Kind/\True:=
     ⟨by rw[acB,r];simp,TR n,(z_ _).1,trivial⟩
    grind
def Vk (p:dO)(o:Op):Prop:=(o.Kind=10->0<=o.Target/\o.Target < p.bD.length)/\(o.Card=5->kM o.Key=true)/\1<=o.Num/\o.Num<=65535
def ig (p:dO):Prop:=∀g∈p.bD,g.Ops.length<=1048576/\∀o∈g.Ops,Vk p o
def Kt (v:ah)(r:ae):Prop:=n_ r.c/\ig r.p/\kV v/\(tV v:Int)+8*(r.c.End - r.c.At)<=1048576
def Iu (k s:Int)(v:ah)(r:ae)(x:ah×Int×ae):Prop:=x.2.1=0->x.2.2.p=r.p/\Ez k r.c x.2.2.c/\kV x.1/\(tV x.1:Int)+s<=tV v+8*(x.2.2.c.At - r.c.At)
theorem aEF {v:ah}{r:ae}(h:Kt v r):gV v:=⟨h.2.2.1,by obtain⟨⟨⟨d,e,c,a⟩,_⟩,_,_,b⟩:=h;omega⟩
theorem NY {v:ah}{r:ae}(h:Kt v r):v.bM.length<=1048576/\v.Slots.length<=1048576/\v.List.length<=1048576/\pJ v.Pairs:=qm (aEF h)
theorem aAY {k s:Int}{v w:ah}{r a:ae}(h:Kt v r)(m:0<=s)(e:a.p=r.p)(b:Ez k r.c a.c)(c:kV w)(j:(tV w:Int)+s<=tV v+8*(a.c.At - r.c.At)):Kt w a:=by
 obtain⟨i,d,g,f⟩:=h;have l:=b.2.2.1;exact⟨b.1,by rw[e];exact d,c,by omega⟩
theorem iP {k s:Int}{v:ah}{r:ae}{x:ah×Int×ae}(h:¬x.2.1=0):Iu k s v r x:=fun e=>absurd e h
theorem XM {v:ah}{r:ae}(h:Kt v r)(num:Int):(iq v num).1.List.length<=1048576/\pJ (iq v num).1.Pairs:=by
 have b:=aEF h;have a:gV (iq v num).1:=⟨GR b.1,by have:=(UL (v:=v) (num:=num)).1;have:=b.2;omega⟩;exact⟨(qm a).2.2.1,(qm a).2.2.2⟩
theorem xU {r:ae}{n:Int}(h:n_ r.c)(a:(nS n r).1=0):(nS n r).2.p=r.p/\Ez 0 r.c (nS n r).2.c/\(nS n r).2.c.At=r.c.At:=by
 unfold nS aj1 at a⊢;simp only[cZ,aI]at a⊢;obtain⟨b,d,c,_⟩:=yg h a;exact⟨by trivial,b,c⟩
theorem aqg {c:aS}(h:n_ c)(a:(Js c).2.2=0):Ez 1 c (Js c).2.1/\(Js c).2.1.Nodes=c.Nodes/\(Js c).2.1.At=c.At+1:=by
 have d:=su h;unfold Js aoa at a⊢;simp only[eU,cZ,bf,aI]at a⊢;rw[d]at a⊢;by_cases b:c.End - c.At < 1
 ·rw[rY b]at a;cases a
 rw[qM b];refine⟨Ha h mi au mi,?_,?_⟩
 ·show(sK c 1).Nodes=_;rw[(Ho h (n:=1) au au).1]
 ·show(sK c 1).At=_;rw[(Ho h (n:=1) au au).1]
def xu (c:aS)(n:Int):aS:=aS.mk c.Data c.At (c.At+n) c.Depth c.Nodes c.Text
theorem ahA {c:aS}{n:Int}(h:n_ c)(f:0<=n)(g:n<=c.End - c.At):n_ (xu c n):=by
 obtain⟨⟨a,i,e,b⟩,d⟩:=h;exact⟨⟨a,by show c.At<=c.At+n;omega,by show c.At+n<=c.Data.length;omega,b⟩,d⟩
theorem agA {r:ae}{n:Int}(h:n_ r.c)(b:0<=n)(c:n<=r.c.End - r.c.At):VE n r=(r.c,ae.mk r.p (xu r.c n)):=by
 obtain⟨⟨d,f,a,e⟩,g⟩:=h;unfold VE atZ xu;simp only[aI];rw[dU (k:= .i64) tZ]
theorem YP {c d:aS}{n:Int}(h:n_ c)(j:0<=n)(t:n<=c.End - c.At)(e:Ez 0 (xu c n) d):Ez n c (aS.mk c.Data d.End c.End c.Depth d.Nodes c.Text):=by
 obtain⟨⟨⟨p,u,m,q⟩,o,a,k⟩,d2,d3,d4,d5,d6,d7⟩:=e;obtain⟨⟨r,l,g,b⟩,f,s,i⟩:=h;have d3:d.End=c.At+n:=d3;have d6:d.Nodes<=c.Nodes:=d6;exact⟨⟨⟨by show 0<=d.End;omega,by show d.End<=c.End;omega,g,b⟩,f,⟨a.1,a.2⟩,i⟩,rfl,rfl,rfl,rfl,d6,by show c.At+n<=d.End;omega⟩
theorem at_end {c:aS}(h:n_ c)(a:¬0 < vz c):c.At=c.End:=by
 rw[su h]at a;obtain⟨⟨d,f,b,e⟩,_⟩:=h;omega
theorem av4 {c d:aS}(h:n_ c)(e:c.At<=d.End)(f:d.End<=c.End)(b:0<=d.Nodes)(a:d.Nodes<=c.Nodes):G6 c d=aS.mk c.Data d.End c.End c.Depth d.Nodes c.Text:=by
 unfold G6 akB;simp only[bf,aI];rw[O3 h,qM (show ¬d.End < c.At by omega),qM (show ¬c.End < d.End by omega),qM (show ¬d.Nodes < 0 by omega),qM (show ¬c.Nodes < d.Nodes by omega)];rfl
theorem ajM {c:aS}(h:n_ c){n:Int}(a:(TY c n).2=0):TY c n=(aS.mk c.Data c.At (c.At+n) (c.Depth - 1) c.Nodes c.Text,0)/\0<=n/\n<=c.End - c.At/\1<=c.Depth:=by
 have f:=su h;obtain⟨⟨j,m,g,l⟩,⟨o,p⟩,i⟩:=h;unfold TY ajn at a⊢;simp only[cZ,bf,aI]at a⊢;rw[f]at a⊢;by_cases d:n < 0
 ·rw[rY d]at a;cases a
 rw[qM d]at a⊢;by_cases e:c.End - c.At < n
 ·rw[rY e]at a;cases a
 rw[qM e]at a⊢;by_cases b:c.Depth < 1
 ·rw[rY b]at a;cases a
 rw[qM b];rw[dU (k:= .i64) (show CO .i64 (c.At+n) by simp only[CO];omega),dU (k:= .i64) (show CO .i64 (c.Depth - 1) by simp only[CO];omega)];exact⟨rfl,by omega,by omega,by omega⟩
def aCi (g:bK)(v:ah)(o:Op)(r:ae):Pg (ah×Int×ae):=.lt (nS 1 r) fun c=> .br (c.1 !=0) (.ret (v.re,c)) (.ob (n_ c.2.c) (.lt (jd (Fv o) c.2) fun a=> .br (a.2.1 !=0) (.ret (v.re,a.2)) (.ob (List.length a.1.Data<=1048576) (.lt (wL a.2.2.p o a.1) fun b=> .br (b.2==16) (.ob (v.re.bM.length<=1048576) (.ret ((zF v.re (Raw.mk o.Num 0 a.1.Bits [])).re,0,a.2.2))) (.br (b.2 !=0) (.ret (v.re,b.2,a.2.2)) (.br (o.Card !=4) (.ob (v.re.Slots.length<=1048576) (.ret ((yT g v.re o b.1.re).re,0,a.2.2))) (.lt (yT g v.re o (rW (iq v.re o.Num).1.re b.1.re).re) fun f=> .lt (iq v.re o.Num) fun e=> .br (!e.2) (.lt (nS 1 a.2.2) fun d=> .br (d.1 !=0) (.ret (v.re,d)) (.ob (e.1.re.List.length<=1048576) (.ob (v.re.Slots.length<=1048576) (.ret (f.re,0,d.2))))) (.ob (e.1.re.List.length<=1048576) (.ob (v.re.Slots.length<=1048576) (.ret (f.re,0,a.2.2)))))))))))
def Em (g:bK)(v:ah)(o:Op)(r:ae):=(aCi g v o r).val
theorem Wq (g:bK)(v:ah)(o:Op)(r:ae)(h:Kt v r/\1<=o.Num/\o.Num<=65535):j_ (aCi g v o r) (Iu 1 0 v r):=
 by
 obtain⟨h,O⟩:=h;have c:=NY h;have y:=XM h o.Num;have z:=h.1;unfold aCi;simp only[ah.dR];refine az fun X C=>dM (fun a=>af (iP a)) fun E=> ?_;rw[C]at E⊢;obtain⟨J,m,s3⟩:=xU z E;generalize nS 1 r=G at*;refine ai m.1 (az fun v2 w=>dM (fun a=>af (iP a)) fun F=> ?_);rw[w]at F⊢;obtain⟨M,L,c3,K,_⟩:=IY m.1 F;have D:=RJ (wire:=Fv o) m.1;generalize jd (Fv o) G.2=b at*;have n:b.2.2.p=r.p:=L.trans J;have d:Ez 1 r.c b.2.2.c:=lI (lq m M) mi;have P:=d.2.2.1;have S:=d.2.2.2.2.2.2;refine ai K (az fun Q B=>dK (fun q=>ai c.1 (af fun _=>⟨n,d,ag3 h.2.2.1 (XO (f:=Raw.mk o.Num 0 b.1.Bits []) O ⟨MS 0,(by decide:(0:Int)<=6)⟩ D (fun _=>rfl) (fun q=>absurd q (by decide:¬(3:Int)<=0))),?_⟩)) fun q=>dM (fun a=>af (iP a)) fun A=> ?_)
 ·show(tV (zF v (Raw.mk o.Num 0 b.1.Bits [])):Int)+0<=tV v+8*(b.2.2.c.At - r.c.At)
  rw[afP];simp only[CJ];omega
 rw[B]at A⊢;obtain⟨R,s,Y,U⟩:=YG D A;generalize wL b.2.2.p o b.1=i at*;have t1:=JC (g:=g) (v:=v) (o:=o) (x:=i.1) c.2.1;refine dM (fun a=>ai c.2.1 (af fun _=>⟨n,d,Jl c.2.1 h.2.2.1 s,?_⟩)) fun Z=>az fun u e=>az fun V k=>dJ (fun j=>az fun T t=>dM (fun a=>af (iP a)) fun p=> ?_) (fun j=> ?_)
 ·show(tV (yT g v o i.1):Int)+0<=tV v+8*(b.2.2.c.At - r.c.At)
  omega
 ·rw[t]at p⊢;obtain⟨H,N,W⟩:=xU d.1 p;rw[k];refine ai y.1 (ai c.2.1 (af fun _=>⟨H.trans n,lI (lq d N) mi,by rw[e];exact Jl c.2.1 h.2.2.1 (OZ (GR h.2.2.1) s),?_⟩));show(tV u:Int)+0<=tV v+8*((nS 1 b.2.2).2.c.At - r.c.At)
  have t2:=JC (g:=g) (v:=v) (o:=o) (x:=rW (iq v o.Num).1 i.1) c.2.1;have t3:=Pe (l:=(iq v o.Num).1) (x:=i.1);have t4:=(UL (v:=v) (num:=o.Num)).2 (by rw[k]at j;simpa using j);rw[<-e]at t2;omega
 ·rw[k]at j⊢;refine ai y.1 (ai c.2.1 (af fun _=>⟨n,d,by rw[e];exact Jl c.2.1 h.2.2.1 (OZ (GR h.2.2.1) s),?_⟩));show(tV u:Int)+0<=tV v+8*(b.2.2.c.At - r.c.At)
  have t2:=JC (g:=g) (v:=v) (o:=o) (x:=rW (iq v o.Num).1 i.1) c.2.1;have t3:=Pe (l:=(iq v o.Num).1) (x:=i.1);have I:(iq v o.Num).2=true:=by simpa using j
  rw[<-e,I]at t2;simp only[uu]at t2;omega
def atz:aZ Z:=H7 [FM,KA,agI,NP,aeT,Z4,RG,abW] [] (ak (jf 0) (ak (aJ jg) (ak (aJ aP) (a1 (aJ jF))))) (b1 (aV bn)) (shr [.slot 0 true (nn 7), s0 1, .cells 0 (nn 8)] (aB aP (aB cI (l1 bn)))) [] func310 2 (fun a=>aCi a.1.2.1 a.1.2.2.1 a.1.2.2.2 a.2) (fun a=>Kt a.1.2.2.1 a.2/\1<=a.1.2.2.2.Num/\a.1.2.2.2.Num<=65535) fun a h=>(Wq a.1.2.1 a.1.2.2.1 a.1.2.2.2 a.2 h).1
def an2 (g:bK)(v:ah)(o:Op)(r:ae):Pg (ah×Int×ae):=.ob (n_ r.c) (.lt (kZ r) fun e=> .br (e.2.1 !=0) (.ret (v.re,e.2)) (.lt (VE e.1 e.2.2) fun b=> .ob (n_ b.2.c) (.lt (Js b.2.c) fun c=> .br (c.2.2 !=0) (.ret (v.re,c.2.2,b.2)) (.lt (dA .i64 c.1) fun i=> .br (i !=Fv o) (.ret (v.re,13,ae.mk b.2.p c.2.1)) (.cut (fun(h:ae×ah)=> .wh ((r.c.End - r.c.At).toNat+1) default (fun(a:ae×ah)=> .lt (vz a.1.c) fun j=> .br (decide (0 < j)) (.ob (Kt a.2.re a.1/\1<=o.Num/\o.Num<=65535) (.lt (Em g a.2.re o a.1) fun d=> .br (d.2.1 !=0) (.ret (.inr (d.1.re,d.2))) (rl (d.2.2,d.1.re)))) (.ret (.inr (a.2.re,0,afX b.1 a.1)))) (h.1,h.2.re)) (.br (!(iq v.re o.Num).2) (.lt (nS 1 (ae.mk b.2.p c.2.1)) fun f=> .br (f.1 !=0) (.ret (.inr (v.re,f))) (.ob (v.re.Slots.length<=1048576) (rl (f.2,(yT g v.re o (ah.mk 11 0 [] [] [] [] [])).re)))) (rl (ae.mk b.2.p c.2.1,v.re))))))))
def aFL (g:bK)(v:ah)(o:Op)(r:ae):=(an2 g v o r).val
theorem ZU (g:bK)(v:ah)(o:Op)(r:ae)(h:Kt v r/\1<=o.Num/\o.Num<=65535):j_ (an2 g v o r) (Iu 0 0 v r):=
 by
 obtain⟨h,O⟩:=h;have s:=NY h;have e:=h.1;unfold an2;simp only[ah.dR];refine ai e (az fun v3 K=>dM (fun b=>af (iP b)) fun M=> ?_);rw[K]at M⊢;obtain⟨l1,l2,z,q,p⟩:=wP e M;generalize kZ r=a at*;have l7:=l1.2.2.2.2.2.2;have le:=l1.2.2.1;have P:=ahA l1.1 q p;rw[agA l1.1 q p];refine az fun v4 H=> ?_;subst H;refine ai P (az fun v5 J=>dM (fun b=>af (iP b)) fun L=>az fun v6 ab=>dM (fun b=>af (iP qcr)) fun h6=> ?_);rw[J]at L⊢;obtain⟨b1,X,F⟩:=aqg P L;show j_ (Pg.cut _ _) _
 dsimp only at b1 X F⊢;generalize Js (xu a.2.2.c a.1)=i at*;have j:(xu a.2.2.c a.1).At=a.2.2.c.At:=rfl;have n:(xu a.2.2.c a.1).End=a.2.2.c.At+a.1:=rfl;rw[j]at F;refine bP (fun y=>y.1.p=r.p/\Ez 0 (xu a.2.2.c a.1) y.1.c/\kV y.2/\(tV y.2:Int)<=tV v+8*(y.1.c.At - a.2.2.c.At)) ?_ (fun y N=>qo (fun x=>x.1.p=r.p/\Ez 0 (xu a.2.2.c a.1) x.1.c/\kV x.2/\(tV x.2:Int)<=tV v+8*(x.1.c.At - a.2.2.c.At)) (fun x=>(x.1.c.End - x.1.c.At).toNat) N ?_ fun x Y=> ?_)
 ·refine dJ (fun S=>az fun v9 D=>dM (fun b=>af (iP b)) fun t=> ?_) (fun S=>af ⟨z,lI b1 mi,h.2.2.1,by show(tV v:Int)<=tV v+8*(i.2.1.At - a.2.2.c.At);omega⟩);rw[D]at t⊢;obtain⟨d,c,f⟩:=xU (r:=ae.mk a.2.2.p i.2.1) b1.1 t;refine ai s.2.1 (af ⟨d.trans z,lI (lq b1 c) mi,Jl s.2.1 h.2.2.1 (lC 11 0 [] u0).1,?_⟩);have t2:=JC (g:=g) (v:=v) (o:=o) (x:=ah.mk 11 0 [] [] [] [] []) s.2.1;have t3:=(lC 11 0 [] u0).2;have f:(nS 1 (ae.mk a.2.2.p i.2.1)).2.c.At=i.2.1.At:=f;simp only[CJ]at t3;show(tV (yT g v o (ah.mk 11 0 [] [] [] [] [])):Int)<=tV v+8*((nS 1 (ae.mk a.2.2.p i.2.1)).2.c.At - a.2.2.c.At)
  omega
 ·obtain⟨y1,⟨⟨⟨q1,q2,q3,q4⟩,_⟩,ag,E,ac,aa,al,I⟩,y3,y4⟩:=N;rw[n]at E;rw[j]at I;have:=e.1.1;show(y.1.c.End - y.1.c.At).toNat < (r.c.End - r.c.At).toNat+1
  omega
 ·obtain⟨d,c,f,x4⟩:=Y;have Z:=c.2.2.1;have R:=c.2.2.2.2.2.2;rw[n]at Z;rw[j]at R;have l:Kt x.2 x.1:=⟨c.1,by rw[d];exact h.2.1,f,by have:=h.2.2.2;omega⟩;refine az fun v7 G=>bG (fun ad=> ?_) (fun m=>af ?_)
  ·refine ai ⟨l,O⟩ (az fun v8 T=>dM (fun b=>af (iP b)) fun C=>af ?_);rw[T]at C⊢;obtain⟨Q,k,W,B⟩:=(Wq g x.2 o x.1 ⟨l,O⟩).2 C;have A:=k.2.2.2.2.2.2;have u:=k.2.2.1;have w:=k.1.1.2.1;refine⟨⟨Q.trans d,lI (lq c k) mi,W,?_⟩,?_⟩
   ·show(tV (Em g x.2 o x.1).1:Int)<=tV v+8*((Em g x.2 o x.1).2.2.c.At - a.2.2.c.At)
    have B:(tV (Em g x.2 o x.1).1:Int)+0<=tV x.2+8*((Em g x.2 o x.1).2.2.c.At - x.1.c.At):=B;omega
   ·show((Em g x.2 o x.1).2.2.c.End - (Em g x.2 o x.1).2.2.c.At).toNat < (x.1.c.End - x.1.c.At).toNat
    have A:x.1.c.At+1<=(Em g x.2 o x.1).2.2.c.At:=A;have u:(Em g x.2 o x.1).2.2.c.End=x.1.c.End:=u;have w:(Em g x.2 o x.1).2.2.c.At<=(Em g x.2 o x.1).2.2.c.End:=w;omega
  ·rw[G]at m;have U:=at_end c.1 m;have V:=YP l1.1 q p c;refine fun _=>⟨d,lI (lq l1 V) au,f,?_⟩;show(tV x.2:Int)+0<=tV v+8*(x.1.c.End - r.c.At)
   omega
def aDg:aZ Z:=H7 [FM,KA,Ad,NP,atz,Ib,anp,aae,aeT,aBo] [jS 17 (bI (fun b=>[.cells (pid (b 0)) (nn 8), .cells (pid (b 6)) (nn 7)]) (aB bn (l1 aP))),jS 100017 (bI (fun b=>[.cells (pid (b 0)) (nn 8), .cells (pid (b 6)) (nn 7)]) (aB bn (l1 aP)))] (ak (jf 0) (ak (aJ jg) (ak (aJ aP) (a1 (aJ jF))))) (b1 (aV bn)) (shr [.slot 0 true (nn 7), s0 1, .cells 0 (nn 8)] (aB aP (aB cI (l1 bn)))) [] func307 2 (fun a=>an2 a.1.2.1 a.1.2.2.1 a.1.2.2.2 a.2) (fun a=>Kt a.1.2.2.1 a.2/\1<=a.1.2.2.2.Num/\a.1.2.2.2.Num<=65535) fun a h=>(ZU a.1.2.1 a.1.2.2.1 a.1.2.2.2 a.2 h).1
end
end Go.Proofs.YtgdmjfkdbfafjaaGreatDoor
