/- Frames, the reference: heads. -/
import Derived.Test.YtenjnekcoapajaaGreatDoorP7
namespace Go.Proofs.YtenjnekcoapajaaGreatDoor
noncomputable section
open Go.RowKit Go.Vc
open Tryz
set_option linter.unusedVariables false
set_option linter.unusedSimpArgs false
set_option maxRecDepth 100000
def rtext (s:Str):Pg (List UInt8):=.lt (aQ .u64 (↑(List.length s):Int)) fun a=> .ob (isU64 a) (.lt (GG a) fun b=> .ob (List.length b+List.length s<=9223372036854775807) (.as (List.length s<=9223372036854775807) (.ret (b++s))))
def NT (s:Str):=(rtext s).val
theorem asH (s:Str)(h:s.length<=4294967296):Is (rtext s):=
 is_lt fun c a=>is_ob (by rw[a];exact aAA _ h) (is_lt fun d b=>is_ob (by grind [avh,aAA]) (is_as fun _=>is_ret))
def ayk:bi Z:=E1 [UF] [] hh1 Dp [] func138 1 rtext (fun a=>a.length<=4294967296) fun a h=>asH a h
def aDm:bi Z:=⟨206,qQ (args hh1) hh2 1 [] (fun _=>some False) (fun _=>false),iy func206 dM (fun _ h=>h)⟩
def rheaded (a:Head):Pg Int:=.br (!yX a.bz) (.ret 8) (.br (!uz a.Method) (.ret 8) (.br (decide (a.oD < 0)) (.ret 6) (.br (decide (1099511627776 < a.oD)) (.ret 6) (.br (decide (16 < (↑a.jO.length:Int))) (.ret 3) (.Ov [] (some (a.jO.length<=9223372036854775807)) yc 0 (↑a.jO.length:Int) (fun b (c:Unit)=> .ix b a.jO.length (.ob False (.ret (.inr 8)))) (fun b (c:Unit)=> .ret 0) ())))))
def Ui (a:Head):=(rheaded a).val
theorem ahJ (hd:Head)(h:okHead hd):Is (rheaded hd):=
 is_br iR (fun _=>is_br iR (fun _=>is_brd iR (fun _=>is_brd iR (fun _=>is_brd iR (fun _=>JB trivial aj (fun h=>by omega) (fun a b _ _ _=>is_ix aj aj (is_ob qbk (is_ret))) (fun a b _ _=>is_ret))))))
def anN:bi Z:=E1 [TE,J5,D8,aDm] [jS 8 (bD (fun b=>[s0 3]) iL)] akB jE [] func137 1 rheaded (fun a=>okHead a) fun a h=>ahJ a h
def rhead (a:Head):Pg (List UInt8×Int):=.ob (okHead a) (.lt (Ui a) fun l=> .br (l !=0) (.ret ([],l)) (.ob (List.length a.bz<=4294967296) (.ob (List.length a.Method<=4294967296) (.lt (NT a.bz) fun k=> .lt (NT a.Method) fun m=> .ob (List.length k+List.length m<=9223372036854775807) (.lt (aQ .u64 a.oD) fun p=> .ob (isU64 p) (.lt (k++m) fun(o:List UInt8)=> .lt (GG p) fun n=> .ob (o.length+List.length n<=9223372036854775807) (.lt (aQ .u64 (↑a.jO.length:Int)) fun h=> .ob (isU64 h) (.lt (o++n) fun(i:List UInt8)=> .lt (GG h) fun e=> .ob (i.length+List.length e<=9223372036854775807) (aL a.jO (.each true mg a.jO akj (fun j b (c:List UInt8)=> .ix j a.jO.length (.ob (List.length b.Key<=4294967296) (.ix j a.jO.length (.ob (List.length b.Val<=4294967296) (.lt (NT b.Key) fun g=> .lt (NT b.Val) fun f=> .ob (List.length g+List.length f<=9223372036854775807) (.lt (g++f) fun(d:List UInt8)=> .ob (c.length+d.length<=9223372036854775807) (rl (c++d)))))))) (fun j (c:List UInt8)=> .ret (c,0)) (i++e)))))))))))
def ava (a:Head):=(rhead a).val
def rtake44 (s:Str):Pg (List UInt8×List UInt8×Int):=.lt (w_ s) fun a=> .br (a.2.2 !=0) (.ret ([],[],a.2.2)) (.ob (0<=a.2.1/\a.2.1<=(↑(List.length s):Int)/\(↑(List.length s):Int)<=(↑(List.length s):Int)) (.lt (List.drop a.2.1.toNat (List.take (List.length s) s)) fun b=> aL b (.lt (aQ .u64 (↑b.length:Int)) fun c=> .br (decide (c < a.1)) (.ret ([],[],4)) (.ob ((0:Int)<=0/\0<=a.1/\a.1<=(↑b.length:Int)) (.ob (0<=a.1/\a.1<=(↑b.length:Int)/\(↑b.length:Int)<=(↑b.length:Int)) (.ret (List.take a.1.toNat b,List.drop a.1.toNat (List.take b.length b),0)))))))
def zT (s:Str):=(rtake44 s).val
theorem afh {s:Str}(h:s.length<=4294967296):NT s=jI s:=by
 rw[xK h];unfold NT rtext;simp only[aV,aT,dW,ay,wl _ h,vS (vX h)]
theorem aiO {a:Head}(h:okHead a):Ui a=uw a:=by
 unfold uw headed Ui rheaded;simp only[dn,aF,aV,dW,dN,di,aT,ay,VU,Ee,zV,h.2.2.1,h.2.2.2];cases yX a.bz<;>cases GK a.Method<;>rfl
theorem ZO {a b:Str}(v:a.length<=1048576)(x:b.length<=1048576)(B:uw (Head.mk a b 0 [])=0):gU (rhead (Head.mk a b 0 [])) (fun r=>r=(headB a b,0)):=by
 have l:okHead (Head.mk a b 0 []):=⟨v,x,rfl,rfl⟩;have l1:=qV (s:=a) aj;have H:=qV (s:=b) aj;have E:=iI _ QE;unfold rhead;refine ah l (au fun F p=>bu (fun c=>absurd (p.trans ((aiO l).trans B)) c) fun _=>ah dm (ah dm (au fun w i=>au fun q g=> ?_)));have i:w=jI a:=i.trans (afh (s:=a) aj);have g:q=jI b:=g.trans (afh (s:=b) aj);subst i g;refine ah aj (au fun u h=> ?_);have h:u=0:=h.trans (show aQ .u64 0=0 by decide);subst h;refine ah QE (au fun o G=>au fun A f=> ?_);have f:A=cZ 0:=f.trans (vS QE);subst f;have k8:o.length=(jI a).length+(jI b).length:=by grind
 refine ah aj (au fun m e=> ?_);have e:m=0:=e.trans (show aQ .u64 ((0:Nat):Int)=0 by decide);subst e;refine ah QE (au fun j C=>au fun n d=> ?_);have d:n=cZ 0:=d.trans (vS QE);subst d;have D:j.length=o.length+(cZ 0).length:=by grind
 refine ah aj (bZ (bC (fun _ y=>y=headB a b) (by unfold headB;grind) (Gw _) (fun k y z _=>absurd z (Nat.not_lt_zero _)) (fun y t=>af (by rw[t]))))
theorem alE {a r:Str}(i:a.length<=1048576)(m:r.length<=4293918720):gU (rtake44 (jI a++r)) (fun x=>x=(a,r,0)):=by
 have j:(a++r).length=a.length+r.length:=uX;have k:(jI a++r).length=(cZ (a.length:Int)).length+(a++r).length:=by grind [xK]
 have l:=iI _ (vX (n:=a.length) aj);unfold rtake44;refine au fun f e=> ?_;have e:f=((a.length:Int),((cZ (a.length:Int)).length:Int),0):=by grind [vX,xK,Jh,ve]
 subst e;dsimp only;refine bu (fun c=>absurd rfl c) fun _=>ah ⟨by omega,by omega,by omega⟩ (au fun h b=>bZ (au fun g d=> ?_));have b:h=a++r:=by
  rw[b,Gv,qA,xK aj,Yt]
  grind
 subst b;have d:g=((a++r).length:Int):=d.trans (wl _ aj);subst d;refine aU (fun c=>absurd c (show ¬((a++r).length:Int) < (a.length:Int) by omega)) fun _=>ah ⟨by decide,by omega,by omega⟩ (ah ⟨by omega,by omega,by omega⟩ (af ?_));rw[Gv,qA,Qde,Qc1]
theorem ar6 (a:Head)(h:Is (rhead a)):Is (rhead a):=
 h
def alx:bi Z:=E1 [UF,anN,ayk] [jS 6 (bD (fun b=>[s0 6, s0 5]) aoz)] akB ac3 [] func86 2 rhead (fun a=>Is (rhead a)) fun a h=>ar6 a h
theorem ahb (s:Str)(h:Is (rtake44 s)):Is (rtake44 s):=
 h
def aor:bi Z:=E1 [Lj] [] hh1 (shr [s0 0, s0 1, s0 2] (aJ cStr (aJ cStr iL))) [] func139 3 rtake44 (fun a=>Is (rtake44 a)) fun a h=>ahb a h
def rhread (f:Str):Pg (Head×Int):=.ob (Is (rtake44 f)) (.lt (zT f) fun h=> .br (h.2.2 !=0) (.ret (Head.mk [] [] 0 [],h.2.2)) (.ob (Is (rtake44 h.2.1)) (.lt (zT h.2.1) fun a=> .br (a.2.2 !=0) (.ret (Head.mk [] [] 0 [],a.2.2)) (.lt (w_ a.2.1) fun e=> .br (e.2.2 !=0) (.ret (Head.mk [] [] 0 [],e.2.2)) (.ob (0<=e.2.1/\e.2.1<=(↑a.2.1.length:Int)/\(↑a.2.1.length:Int)<=(↑a.2.1.length:Int)) (.lt (w_ (List.drop e.2.1.toNat (List.take a.2.1.length a.2.1))) fun j=> .br (j.2.2 !=0) (.ret (Head.mk [] [] 0 [],j.2.2)) (.br (decide (16 < j.1)) (.ret (Head.mk [] [] 0 [],3)) (.lt (aQ .i64 (e.2.1+j.2.1)) fun l=> .ob (0<=l/\l<=(↑a.2.1.length:Int)/\(↑a.2.1.length:Int)<=(↑a.2.1.length:Int)) (.cut (fun(b:List UInt8×Head)=> .br (b.1 !=[]) (.ret (Head.mk [] [] 0 [],18)) (.br (decide (1099511627776 < e.1)) (.ret (Head.mk [] [] 0 [],6)) (.lt (aQ .i64 e.1) fun k=> .ob (Is (rhead (Head.mk b.2.bz b.2.Method k b.2.jO))) (.lt (ava (Head.mk b.2.bz b.2.Method k b.2.jO)) fun i=> .br (i.2 !=0) (.ret (Head.mk [] [] 0 [],i.2)) (.br (i.1 !=f) (.ret (Head.mk [] [] 0 [],5)) (.ret (Head.mk b.2.bz b.2.Method k b.2.jO,0))))))) (.lt (aQ .i64 j.1) fun m=> .cnt mg 0 m (fun n (c:List UInt8×Head)=> .ob (Is (rtake44 c.1)) (.lt (zT c.1) fun d=> .br (d.2.2 !=0) (.ret (.inr (.inr (Head.mk [] [] 0 [],d.2.2)))) (.ob (Is (rtake44 d.2.1)) (.lt (zT d.2.1) fun g=> .br (g.2.2 !=0) (.ret (.inr (.inr (Head.mk [] [] 0 [],g.2.2)))) (.ob (bG (c.2.jO.length+1) 32) (rl (g.2.1,Head.mk c.2.bz c.2.Method c.2.oD (c.2.jO++[sH.mk d.1 g.1])))))))) (fun n (c:List UInt8×Head)=> rl c) (List.drop l.toNat (List.take a.2.1.length a.2.1),Head.mk h.1 a.1 0 [])))))))))))
def abd (a:Str):=(rhread a).val
theorem UJ {d a b:Str}(h:aoY d a b):gU (rhread d) (fun r=>r=(Head.mk a b 0 [],0)):=by
 obtain⟨rfl,q,u,D⟩:=h;have R:=qV (s:=b) aj;have J:=iI _ QE;have t1:=alE (a:=a) (r:=jI b++(cZ 0++cZ 0)) q dm;have t2:=alE (a:=b) (r:=cZ 0++cZ 0) u dm;have B:w_ (cZ 0++cZ 0)=(0,((cZ 0).length:Int),0):=by rfl
 have z:w_ (cZ 0)=(0,((cZ 0).length:Int),0):=by rfl
 have G:zT (headB a b)=_:=t1.2;have E:zT (jI b++(cZ 0++cZ 0))=_:=t2.2;have N:(cZ 0++cZ 0).length=(cZ 0).length+(cZ 0).length:=uX;unfold rhread;refine ah t1.is (au fun M j=> ?_);have j:=j.trans G;subst j;refine bu (fun c=>absurd rfl c) fun _=>ah t2.is (au fun L o=> ?_);have o:=o.trans E;subst o;refine bu (fun c=>absurd rfl c) fun _=>au fun I m=> ?_;have m:=m.trans B;subst m;dsimp only;have x:List.drop ((cZ 0).length:Int).toNat (List.take (cZ 0++cZ 0).length (cZ 0++cZ 0))=cZ 0:=by rfl
 refine bu (fun c=>absurd rfl c) fun _=>ah ⟨by omega,by omega,by omega⟩ (au fun K n=> ?_);have n:=(n.trans (II w_ x)).trans z;subst n;dsimp only;refine bu (fun c=>absurd rfl c) fun _=>aU (fun c=>absurd c dH) fun _=>au fun F l=> ?_;have l:F=(((cZ 0).length+(cZ 0).length:Nat):Int):=l.trans ((bn (k:= .i64) kM).trans aj);subst l;have w:List.drop (((cZ 0).length+(cZ 0).length:Nat):Int).toNat (List.take (cZ 0++cZ 0).length (cZ 0++cZ 0))=[]:=by rfl
 refine ah ⟨by omega,by omega,by omega⟩ (bg (fun y=>y=([],Head.mk a b 0 [])) (au fun p e=> ?_) (fun Q v=> ?_))
 ·have e:p=0:=e.trans dH;subst e;exact rO (fun i y=>y=([],Head.mk a b 0 [])) (by rw[w]) dH dH (fun i y P O _=>by omega) (fun i y _ _ A=>af A)
 ·subst v;have t:=ZO q u D;refine bu (fun c=>absurd rfl c) fun _=>aU (fun c=>absurd c dH) fun _=>au fun C g=> ?_;have g:C=0:=g.trans dH;subst g;refine ah t.is (au fun H f=> ?_);have f:=f.trans t.2;subst f;exact bu (fun c=>absurd rfl c) fun _=>bu (fun c=>absurd rfl c) fun _=>af rfl
theorem ao1 (a:Str)(h:Is (rhread a)):Is (rhread a):=
 h
def awq:bi Z:=E1 [alx,aor,Lj] [jS 20 (bD (fun b=>[s0 13, s0 6, .cells (pid (b 4)) [none,none,none,some 155]]) (aJ cI (aJ cStr (l1 cd_Head)))),jS 100030 (bD (fun b=>[s0 6, .cells (pid (b 4)) (nn 4)]) (aJ cStr (l1 cd_Head)))] hh1 aGF [] func90 2 rhread (fun a=>Is (rhread a)) fun a h=>ao1 a h
def rstream (f:Frame):Pg Bool:=.cut (fun(a:Bool)=> .br a (.ret (f.Stream==0)) (.br (f.Kind==6) (.ret (decide (0<=f.Stream))) (.ret (decide (1<=f.Stream))))) (.br (f.Kind==7) (rl (f.Kind==7)) (.br (f.Kind==8) (rl (f.Kind==8)) (rl (f.Kind==9))))
def VB (f:Frame):=(rstream f).val
def anx:bi Z:=E0 [] [jS 100005 (bD (fun b=>Ap) oK)] TY hh2 [] func88 1 rstream
def rnum (f:Frame):Pg Bool:=.br (f.Kind==1) (.br (decide (1<=f.Num)) (.ret (decide (f.Num<=4))) (.ret false)) (.br (f.Kind==5) (.br (decide (1<=f.Num)) (.ret (decide (f.Num<=13))) (.ret false)) (.br (f.Kind==6) (.br (decide (1<=f.Num)) (.ret (decide (f.Num<=1048576))) (.ret false)) (.cut (fun(a:Bool)=> .br a (.br (decide (0<=f.Num)) (.ret (decide (f.Num < 4294967296))) (.ret false)) (.br (f.Kind==9) (.br (decide (0<=f.Num)) (.ret (decide (f.Num < 2147483648))) (.ret false)) (.ret (f.Num==0)))) (.br (f.Kind==7) (rl (f.Kind==7)) (rl (f.Kind==8))))))
def akI (f:Frame):=(rnum f).val
def aEk:bi Z:=E0 [] [jS 100010 (bD (fun b=>[s0 35]) oK)] TY hh2 [] func89 1 rnum
def rfcheck (f:Frame):Pg Int:=.cut (fun(c:Bool)=> .br (decide (f.Kind < 1)) (.ret 1) (.br (decide (9 < f.Kind)) (.ret 1) (.br (!VB f) (.ret 1) (.br (!akI f) (.ret 1) (.lt (abd f.Data) fun a=> .lt (IG f.Data) fun b=> .br (f.Data !=[]) (.br (!c) (.ret 1) (.br (decide (16384 < (↑(List.length f.Data):Int))) (.ret 3) (.br (decide (2147483648<=f.Stream)) (.ret 3) (.br (f.Kind==1) (.ob (Is (rhread f.Data)) (.ret a.2)) (.br (f.Kind==4) (.ob (Is (r42Unpack f.Data)) (.ret b.2)) (.ret 0)))))) (.br (decide (16384 < (↑(List.length f.Data):Int))) (.ret 3) (.br (decide (2147483648<=f.Stream)) (.ret 3) (.br (f.Kind==1) (.ob (Is (rhread f.Data)) (.ret a.2)) (.br (f.Kind==4) (.ob (Is (r42Unpack f.Data)) (.ret b.2)) (.ret 0)))))))))) (.br (f.Kind==1) (rl true) (.br (f.Kind==2) (rl true) (rl (f.Kind==4))))
def Vo (f:Frame):=(rfcheck f).val
theorem ahf (f:Frame)(h:okFr f):Is (rfcheck f):=
 is_cut (is_beq iR (fun _=>is_beq iR iR)) (fun i c=>is_brd iR (fun _=>is_brd iR (fun _=>is_br iR (fun _=>is_br iR (fun _=>is_lt fun k g=>is_lt fun j d=>is_br (fun _=>is_br iR (fun _=>is_brd iR (fun _=>is_brd iR (fun _=>is_beq (fun _=>is_ob qbm (is_ret)) (fun _=>is_beq (fun _=>is_ob qa9 (is_ret)) iR))))) (fun _=>is_brd iR (fun _=>is_brd iR (fun _=>is_beq (fun _=>is_ob qbm (is_ret)) (fun _=>is_beq (fun _=>is_ob qa9 (is_ret)) iR)))))))))
def ank:bi Z:=E1 [anx,aEk,awq,aeX] [jS 100002 (bD (fun b=>[s0 3]) oK)] TY jE [] func47 1 rfcheck (fun a=>okFr a) fun a h=>ahf a h
def rfbytes (f:Frame):Pg (List UInt8):=.ob (BQ (fun(i:Nat)=>true) 1=true) (.lt (aQ .u64 f.Stream) fun g=> .ob (isU64 g) (.lt (aQ .u8 f.Kind) fun l=> .lt (GG g) fun j=> .ob ((Jo [l]).length+List.length j<=9223372036854775807) (.lt (aQ .u64 f.Num) fun e=> .ob (isU64 e) (.lt (Jo [l]++j) fun d=> .lt (GG e) fun h=> .ob (d.length+List.length h<=9223372036854775807) (.lt (aQ .u64 (↑(List.length f.Data):Int)) fun n=> .ob (isU64 n) (.lt (d++h) fun(m:List UInt8)=> .lt (GG n) fun k=> .ob (m.length+List.length k<=9223372036854775807) (.lt (m++k) fun(a:List UInt8)=> .ob (a.length+List.length f.Data<=9223372036854775807) (.as (List.length f.Data<=9223372036854775807) (.lt (akC (a++f.Data)) fun c=> .lt (a++f.Data) fun(b:List UInt8)=> .ob (b.length+List.length c<=9223372036854775807) (.ret (b++c)))))))))))
def afP (f:Frame):=(rfbytes f).val
theorem aeP (s:Str):akC s=aaP (aeo s) 4:=(azB s).symm
theorem aok (n:Int):JC n=(decide (1<=n) && decide (n<=4)):=by
 by_cases a:1<=n
 ·by_cases b:n<=4
  ·obtain rfl | rfl | rfl | rfl:n=1\/n=2\/n=3\/n=4:=by omega
   all_goals rfl
  ·unfold JC fshape JO RF Vk Q7;simp only[ay,aF,aT,dn]
   grind
 ·unfold JC fshape JO RF Vk Q7;simp only[ay,aF,aT,dn]
  grind
theorem axR (f:Frame):sQ f=akI f:=by
 unfold sQ numbered akI rnum;simp only[aF,dn,ay,aok]
 grind
theorem ajr {f:Frame}(h:okFr f):Vo f=lS f:=by
 have z:f.Kind=1->abd f.Data=Oq f.Data:=fun k=>by
  obtain⟨a,b,d⟩:=h.2.1 k;exact(UJ d).2.trans (Gi d).2.symm
 have x:f.Kind=4->IG f.Data=tq f.Data:=fun k=>by
  obtain⟨B,c,e⟩:=h.2.2 k;rw[e,(Ar c).1];exact(Yk c).2.trans (arI c).symm
 unfold lS fcheck Vo rfcheck F5 filled;simp only[aF,dn,aV,aT,ay,axR,show wU f=VB f from rfl];have l:decide (2147483647 < f.Stream)=decide (2147483648<=f.Stream):=by rfl
 have s:(f.Data !=[])= !(f.Data==[]):=rfl;rw[l,s];generalize abd f.Data=A at*;generalize Oq f.Data=A' at*;generalize IG f.Data=C at*;generalize tq f.Data=o at*;have m:(bif f.Kind==1 then A.2 else bif f.Kind==4 then C.2 else 0)=bif f.Kind==1 then A'.2 else bif f.Kind==4 then o.2 else 0:=by
  grind
 rw[m];generalize decide (2147483648<=f.Stream)=b1;generalize decide (16384 < (f.Data.length:Int))=y;generalize (f.Data==[])=r;generalize VB f=j;generalize akI f=p;generalize decide (f.Kind < 1)=i;generalize decide (9 < f.Kind)=n;generalize v:(f.Kind==1)=t;generalize u:(f.Kind==2)=q;generalize w:(f.Kind==4)=g;cases i<;>cases n<;>cases j<;>cases p<;>cases t<;>cases q<;>cases g<;>cases r<;>rfl
theorem P8 {f:Frame}(h:goodF f):gU (rfbytes f) (fun y=>y=fQ f):=by
 have F:=FD h;obtain⟨_,_,_,u,A,M⟩:=h;obtain⟨c,w,_⟩:=DW u;obtain⟨u2,D,_⟩:=DW A;have u3:=vX (n:=f.Data.length) aj;have l1:=iI _ c;have N:=iI _ u2;have K:=iI _ u3;unfold rfbytes;refine ah (oL (fun _=>rfl) _) (au fun C d=> ?_);have d:C=f.Stream:=d.trans w;subst d;refine ah c (au fun H v=>au fun z g=> ?_);rw[vS c]at g;have O:(Jo [H]).length=1:=qp _;refine ah (by rw[g];omega) (au fun x b=> ?_);have b:x=f.Num:=b.trans D;subst b;refine ah u2 (au fun l G=>au fun s q=> ?_);rw[vS u2]at q;have L:l.length=1+z.length:=by grind
 refine ah dm (au fun t i=> ?_);have i:t=(f.Data.length:Int):=i.trans (wl _ aj);subst i;refine ah u3 (au fun r B=>au fun E j=> ?_);rw[vS u3]at j;have k8:r.length=l.length+s.length:=by grind
 refine ah dm (au fun m p=> ?_);have J:m.length=r.length+E.length:=by grind
 refine ah dm (bZ (au fun I k=>au fun o a=>ah ?_ (af ?_)))
 ·grind [aeP,aay]
 ·have e:o=fH f:=by
   rw[a,p,j,B,q,G,g,v];unfold fH
   grind
  rw[k,<-a,e,F,IZ,aeP]
theorem aih (f:Frame)(h:goodF f):Is (rfbytes f):=
 (P8 h).is
def apF:bi Z:=E1 [UF,aDb] [] TY Dp [] func48 1 rfbytes (fun a=>goodF a) fun a h=>aih a h
def rfwrite (f:Frame):Pg (List UInt8×Int):=.ob (okFr f) (.lt (Vo f) fun a=> .br (a !=0) (.ret ([],a)) (.ob (goodF f) (.ret (afP f,0))))
def arB (f:Frame):=(rfwrite f).val
theorem OO {f:Frame}(h:goodF f):gU (rfwrite f) (fun y=>y=(fQ f,0)):=by
 unfold rfwrite;refine ah h.1 (au fun b a=>bu (fun c=>absurd (a.trans ((ajr h.1).trans h.2.1)) c) fun _=>ah h (af ?_));rw[show afP f=fQ f from(P8 h).2]
theorem ahG (f:Frame)(h:goodF f):Is (rfwrite f):=
 (OO h).is
def apw:bi Z:=E1 [ank,apF] [] TY ac3 [] func20 2 rfwrite (fun a=>goodF a) fun a h=>ahG a h
def r56head (path:Str):Pg (List UInt8):=.each true yc path 0 (fun a d (c:Unit)=> .ix a (List.length path) (.br ((↑d.toNat:Int)==47) (.ob ((0:Int)<=0/\0<=a/\a<=(↑(List.length path):Int)) (.lt (aQ .i64 (a+1)) fun b=> .ob (0<=b/\b<=(↑(List.length path):Int)/\(↑(List.length path):Int)<=(↑(List.length path):Int)) (.ob (Is (rhead (Head.mk (List.take a.toNat path) (List.drop b.toNat (List.take (List.length path) path)) 0 []))) (.ret (.inr (ava (Head.mk (List.take a.toNat path) (List.drop b.toNat (List.take (List.length path) path)) 0 [])).1))))) (rl ()))) (fun a (c:Unit)=> .ret []) ()
def agq (path:Str):=(r56head path).val
theorem ahi (path:Str)(h:Is (r56head path)):Is (r56head path):=
 h
def an7:bi Z:=E1 [alx] [jS 2 (bD (fun b=>[s0 3]) iL)] hh1 Dp [] func45 1 r56head (fun a=>Is (r56head a)) fun a h=>ahi a h
def r56frames (t:Tape)(id:Int)(shape:Int):Pg (List Frame):=.ob (Is (r56head t.Method)) (.cut (fun(d:List Frame)=> .ob (bG (d.length+1) 40) (.each true mg t.Out [] (fun c g (a:List Frame)=> .ix c t.Out.length (.ob (bG (a.length+1) 40) (rl (a++[Frame.mk 2 id 0 g])))) (fun c (a:List Frame)=> .ob (List.length t.Status.Text<=1048576) (.ob (bG (a.length+1) 40) (.ret (a++[Frame.mk 4 id 0 (afk t.Status)])))) (d++[Frame.mk 3 id 0 []]))) (.each true mg t.In [] (fun e f (b:List Frame)=> .ix e t.In.length (.ob (bG (b.length+1) 40) (rl (b++[Frame.mk 2 id 0 f])))) (fun e (b:List Frame)=> rl b) [Frame.mk 1 id shape (agq t.Method)]))
def ahl (t:Tape)(id:Int)(shape:Int):=(r56frames t id shape).val
theorem aaW (t:Tape)(id:Int)(shape:Int)(h:Is (r56frames t id shape)):Is (r56frames t id shape):=
 h
def aeA:bi Z:=E1 [an7,ant] [jS 3 (bD (fun b=>[s0 8, .slot 7 false [some 52]]) al4),jS 8 (bD (fun b=>[s0 9, .slot 7 false [some 52]]) al4),jS 100006 (bD (fun b=>[.slot 7 false [some 52]]) aA2)] (aCons (aAgg cd_Tape) abf) (R1 cd_LFrame) [] func19 1 (u3 r56frames) (fun a=>Is (r56frames a.1 a.2.1 a.2.2)) fun a h=>aaW a.1 a.2.1 a.2.2 h
def r56Write (s:ax)(l:List Tape):Pg (List UInt8×Int):=.br (decide (1024 < (↑l.length:Int))) (.ret ([],3)) (.cut (fun(p:Unit)=> .each true mg l iE (fun c b (i:List UInt8)=> .ix c l.length (.ob (List.length b.Method<=1048576) (.ix c l.length (.lt (aQ .i64 (c+1)) fun h=> .lt (Ld s b.Method) fun f=> .ob (Is (r56frames b h f.1.Shape)) (.lt (ahl b h f.1.Shape) fun g=> .each true mg g jV (fun n k (d:List UInt8)=> .ix n g.length (.ob (goodF k) (.lt (arB k) fun a=> .br (a.2 !=0) (.ret (.inr (.inr ([],a.2)))) (.ob (d.length+a.1.length<=9223372036854775807) (rl (d++a.1)))))) (fun n (d:List UInt8)=> rl d) i))))) (fun c (i:List UInt8)=> .ret (i,0)) []) (.each true yc l iE (fun m j (o:Unit)=> .ix m l.length (.ob (ckQ s j/\okS2 s/\noteQ s) (.lt (aqy s j) fun e=> .br (e !=0) (.ret (.inr (.inr ([],e)))) (rl ())))) (fun m (o:Unit)=> rl ()) ()))
def Zr (s:ax)(l:List Tape):=(r56Write s l).val
theorem adX {p a b d:Str}(n:p=a++47::b)(o:aoY d a b)(s:∀x∈a,(x==47)=false):gU (r56head p) (fun r=>r=d):=by
 have v:p.length=a.length+(b.length+1):=by grind
 obtain⟨e,l,q,t⟩:=o;unfold r56head;refine bC (fun k _=>k<=a.length) (Gw _) aj (fun k y w h=> ?_) (fun y h=>absurd h aj);rcases Qdu k a.length with g | u
 ·have j:p.getD k 0=a.getD k 0:=by grind
  have z:(((a.getD k 0).toNat:Int)==47)=false:=(ahq _ 47).trans (s _ (getD_mem g))
  grind [bH,aH,af]
 ·obtain rfl:k=a.length:=by omega
  have j:p.getD a.length 0=47:=by grind
  have t1:p.take a.length=a:=by grind
  have t2:(p.take p.length).drop (a.length+1)=b:=by rw[Gv,n];simp
  have i:=ZO l q t;rw[j];refine aH aj aj (bH (fun _=>ah ⟨by decide,by omega,by omega⟩ (au fun m f=> ?_)) (fun c=>absurd c dH));have f:m=((a.length+1:Nat):Int):=f.trans (h_ aj);subst f;rw[qA,qA,t1,t2];exact ah ⟨by omega,by omega,by omega⟩ (ah i.is (af ((II Prod.fst i.2).trans e.symm)))
theorem XX {s:ax}{t:Tape}(id:Int)(h:Ig s t):gU (r56frames t id (Oh s t)) (fun r=>r=Ph s t id):=by
 have c:gU (r56head t.Method) (fun r=>r=frH t):=adX (UU h).2.1 (UU h).1 (Uz h.1 h.2.2.1).2.2.2;have n:=(N9 h.2.1).2.2;have a:=(PO (s:=t.Status) aj).2;obtain⟨g,q,o,j,i,m,_⟩:=h;have f:∀{l:List Str} {k:Nat},k < l.length->(l.take k).map (fun d=>Frame.mk 2 id 0 d)++[Frame.mk 2 id 0 (l.getD k [])]=(l.take (k+1)).map (fun d=>Frame.mk 2 id 0 d):=fun{l k} a=>by
  rw[Qcg,Qct]
  grind
 unfold r56frames;refine ah c.is (bg (fun y=>y=Frame.mk 1 id (Oh s t) (frH t)::t.In.map (fun d=>Frame.mk 2 id 0 d)) (bC (fun k y=>y=Frame.mk 1 id (Oh s t) (frH t)::(t.In.take k).map (fun d=>Frame.mk 2 id 0 d)) (by rw[show agq t.Method=frH t from c.2];rfl) aj (fun k y a b=> ?_) (fun y b=>af dm)) (fun p e=> ?_))
 ·grind [aH,ah,af,room_of]
 ·subst e;refine ah (room_of dm dm) (bC (fun k y=>y=(Frame.mk 1 id (Oh s t) (frH t)::t.In.map (fun d=>Frame.mk 2 id 0 d))++[Frame.mk 3 id 0 []]++(t.Out.take k).map (fun d=>Frame.mk 2 id 0 d)) jQ aj (fun k y a b=> ?_) (fun y b=> ?_))
  ·grind [aH,ah,af,room_of]
  ·subst b;refine ah aj (ah (room_of dm dm) (af ?_));rw[show afk t.Status=oV t.Status from a];unfold Ph;simp
theorem LW {s:ax}{l:List Tape}(h:wrQ s l)(x:okS2 s)(C:noteQ s):gU (r56Write s l) (fun r=>r=wrV s l):=by
 obtain⟨W,B⟩:=h;unfold r56Write;refine aU (fun c=>absurd c aj) fun _=>bg (fun _=>ckL s l=0) (bC (fun k _=>ckL s (l.drop k)=ckL s l) rfl aj (fun k y p b=> ?_) (fun y b=>af (by rw[Qc]at b;exact b.symm))) (fun X G=> ?_)
 ·rw[atA s p]at b;have N:=(B _ (getD_mem (d:=iE) p)).1;refine aH aj aj (ah ⟨N,x,C⟩ (au fun A e=> ?_));have e:A=rH s (l.getD k iE):=e.trans (Y2 N x C).2;refine bH (fun c=>af ?_) fun c=>af ?_
  ·rw[<-e,c,cond_true]at b;show([],A)=wrV s l
   unfold wrV
   grind
  grind
 have L:=L_ s G;have D:∀t∈l,Ig s t:=fun t i=>arO (B t i).1.2.1 (B t i).2 (L t i)
 have z:∀k,∀t∈l.take k,Ig s t:=fun k t i=>D t (Qcw i)
 have M:∀k,∀f∈ji s 0 (l.take k),goodF f:=fun k=>Lr (z k) dm
 refine bC (fun k y=>y=BF (ji s 0 (l.take k))) rfl aj (fun k y p b=> ?_) (fun y b=>af ?_)
 ·subst b;have Q:=M k;have J:=TP s p;have P:=(wF (k:=0) (z k)).1;rw[Iq]at P;have U:=(yL Q).1;have i:=D _ (getD_mem (d:=iE) p);generalize l.getD k iE=t at*;have K:aQ .i64 ((k:Int)+1)=((k+1:Nat):Int):=h_ aj;have q:=ahV i (id:=((k+1:Nat):Int)) ⟨by omega,by omega⟩;have w:=XX ((k+1:Nat):Int) i;obtain⟨t1,_,_,_,t5,t6,_⟩:=id i;refine aH aj aj (ah t1 (aH aj aj (au fun V u=>au fun I o=> ?_)));have u:=u.trans K;have o:I=qZ s t.Method:=o.trans (amB s t.Method t1).symm;subst u;subst o;refine ah w.is (au fun a m=> ?_);have m:a=Ph s t ((k+1:Nat):Int):=m.trans w.2;have C:a.length<=63:=by rw[m,KO];omega
  rw[<-m]at J q;refine bC (fun j y=>y=BF (ji s 0 (l.take k))++BF (a.take j)) (by rw[Qds];simp only[BF,Qa5]) aj (fun j y R E=> ?_) (fun y E=>af ?_)
  ·subst E;have v:=q _ (getD_mem (d:=jV) R);have S:a.take (j+1)=a.take j++[a.getD j jV]:=by
    rw[Qcg]
    grind
   have F:=(yL (l:=a.take j) fun g H=>q g (Qcw H)).1;rw[Iq]at F;generalize a.getD j jV=f at*;have O:=(OO v).2;have:=TI v;have:=Vf v;refine aH aj aj (ah v (au fun T n=> ?_));have n:=n.trans O;subst n;refine bu (fun c=>absurd rfl c) fun _=>ah dm (af ?_);show BF (ji s 0 (l.take k))++BF (a.take j)++fQ f=_
   rw[S,JY,<-Yt];simp only[BF,Qa5]
  grind [JY]
 ·rw[Gv]at b;subst b;unfold wrV;rw[G];rfl
theorem agz (s:ax)(l:List Tape)(h:wrQ s l/\okS2 s/\noteQ s):Is (r56Write s l):=
 (LW h.1 h.2.1 h.2.2).is
def aii:bi Z:=E1 [ajg,Y4,aeA,apw] [jS 4 (bD (fun b=>[s0 6]) iL),jS 11 (bD (fun b=>[s0 9, s0 8]) aoz),jS 16 (bD (fun b=>[s0 13, s0 8]) aoz),jS 100009 (bD (fun b=>[]) l0)] aub ac3 [] func7 2 (u2 r56Write) (fun a=>wrQ a.1 a.2/\okS2 a.1/\noteQ a.1) fun a h=>agz a.1 a.2 h
def okB (s:ax):Prop:=(∀m∈s.Messages,okM m)/\(∀e∈s.Enums,okE e)/\∀v∈s.bK,okSv v
theorem aGx {s:ax}(h:okB s)(f:arG s=true):okS s:=by
 have k:VP (lwFew s) (fun r=>r=true->s.Messages.length<=8/\s.Enums.length<=8/\s.bK.length<=8):=by
  unfold lwFew;have b:∀{p:Prop},(false=true->p):=fun e=>by cases e
  refine dI (fun a=>dI (fun c=>aI fun d=> ?_) fun _=>aI b) fun _=>aI b;have a:=Dt a;have c:=Dt c;have d:=Dt d;omega
 obtain⟨j,i,g⟩:=k f;exact⟨by omega,by omega,by omega,h.1,h.2.1,h.2.2⟩
def aHy (s:ax):Prop:=(∀m∈s.Messages,aAG m)/\(∀e∈s.Enums,aEw e)/\∀v∈s.bK,avj v
def okT (t:Tape):Prop:=t.Method.length<=1048576/\t.Status.Text.length<=1048576/\t.In.length<=1048576/\t.Out.length<=1048576
def okP (s:ax)(l:List Tape):Prop:=okB s/\aHy s/\noteQ s/\∀t∈l,okT t
noncomputable def law (s:ax)(l:List Tape):Pg Bool:=.br (!arG s) (.ret true) (.br (!aeL l) (.ret true) (.ob (wrQ s l) (.ob (wrQ s l/\okS2 s/\noteQ s) (.lt (aDS s l) fun a=> .lt (Zr s l) fun c=> .br (a.1 !=c.1) (.ret false) (.br (a.2 !=c.2) (.ret false) (.br (a.2 !=0) (.ret true) (.ob (okRd1 a.1) (.lt (au_ a.1) fun b=> .br (b.2==0) (.ob (tpL b.1 l) (.br (aHL b.1 l) (.ret true) (.ret false))) (.ret false)))))))))
theorem aFP {s:ax}{l:List Tape}(h:wrQ s l)(b:(wrV s l).2=0):wrV s l=(BF (ji s 0 l),0)/\aDG s l:=by
 obtain⟨g,f⟩:=h;have e:ckL s l=0:=by
  cases d:ckL s l !=0 with
  | false=>simpa using d
  | true=>unfold wrV at b;rw[d,cond_true]at b;exact b
 have c:∀t∈l,Ig s t:=fun t a=>arO (f t a).1.2.1 (f t a).2 (L_ s e t a)
 exact⟨by unfold wrV;rw[e];rfl,g,c,Lr c aj⟩
theorem ame (s:ax)(l:List Tape)(h:okP s l):gU (law s l) (fun r=>r=true):=by
 obtain⟨q,m,k,p⟩:=h;unfold law;refine bH (fun _=>af rfl) fun f1=>bH (fun _=>af rfl) fun f2=> ?_;have g:okS s:=aGx q (by simpa using f1);have b:=(OT l).2 (show aeL l=true by simpa using f2);have a:wrQ s l:=⟨b.1,fun t h=>⟨⟨g,p t h⟩,b.2 t h⟩⟩;have i:okS2 s:=⟨g,m⟩;have u:Zr s l=wrV s l:=(LW a i k).2;refine ah a (ah ⟨a,i,k⟩ (au fun o d=>au fun v f2=> ?_));have d:o=wrV s l:=d.trans (aDY a);have f2:v=wrV s l:=f2.trans u;subst f2;subst d;refine bu (fun c=>absurd rfl c) fun _=>bu (fun c=>absurd rfl c) fun _=>bu (fun _=>af rfl) fun c=> ?_;obtain⟨e,rl⟩:=aFP a c;have n:au_ (BF (ji s 0 l))=(l,0):=(Zb rl).2;have j:tpL l l:=⟨rfl,by omega,fun t h=>⟨by have:=(b.2 t h).1;omega,by have:=(b.2 t h).2.2.1;omega⟩⟩;rw[e];refine ah ⟨s,l,rl,rfl⟩ (au fun w f=> ?_);have f:=f.trans n;subst f;exact bI (fun _=>ah j (bH (fun _=>af rfl) fun c=>absurd (c.symm.trans (ags j).2) dH)) fun c=>absurd rfl c
theorem aEA (s:ax)(l:List Tape)(h:okP s l):Is (law s l):=
 (ame s l h).1
noncomputable def aIa:bi Z:=E2 [azL,anV,aG8,aii,az2,axJ,aEc] [] aub hh2 [] func3 1 (u2 law) (fun a=>some (okP a.1 a.2)) (fun a=>true) fun a h=>⟨aEA a.1 a.2 h,(fun s l h=>(ame s l h).2) a.1 a.2 h⟩
end
end Go.Proofs.YtenjnekcoapajaaGreatDoor
