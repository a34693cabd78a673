/- Frames: heads, read; frames, written. -/
import Derived.Test.YtjojefbphdmnjaaGreatDoorP6
namespace Go.Proofs.YtjojefbphdmnjaaGreatDoor
noncomputable section
open Go.RowKit Go.Vc
open Tryz
set_option linter.unusedVariables false
set_option linter.unusedSimpArgs false
set_option maxRecDepth 100000
instance:Inhabited aU:=⟨aU.mk [] 0⟩
instance:Inhabited Head:=⟨Head.mk [] [] 0 []⟩
def hread (c:Str):Pg (Head×Int):=.ob (amh (aU.mk c 0)) (.lt (EE (aU.mk c 0)) fun h=> .ob (amh h.2) (.lt (F5 (F5 (EE h.2).2).2) fun d=> .cut (fun(l:aU)=> .lt (EE h.2) fun j=> .cut (fun(a:aU×Head)=> .br (a.1.errno !=0) (.ret (Head.mk [] [] 0 [],a.1.errno)) (.br (a.1.s !=[]) (.ret (Head.mk [] [] 0 [],18)) (.lt (F5 j.2) fun k=> .br (decide (1099511627776 < k.1)) (.ret (Head.mk [] [] 0 [],6)) (.lt (wrp .i64 k.1) fun e=> .ob (uM (Head.mk a.2.bK a.2.Method e a.2.oO)) (.lt (Tn (Head.mk a.2.bK a.2.Method e a.2.oO)) fun g=> .br (g.2 !=0) (.ret (Head.mk [] [] 0 [],g.2)) (.br (g.1 !=c) (.ret (Head.mk [] [] 0 [],5)) (.ret (Head.mk a.2.bK a.2.Method e a.2.oO,0)))))))) (.wh (20) default (fun(b:Int×aU×Head)=> .br (decide (b.1 < d.1)) (.br (b.2.1.errno==0) (.ob (amh b.2.1) (.lt (EE b.2.1) fun f=> .ob (amh f.2) (.ob (bM (b.2.2.oO.length+1) 32) (.lt (EE f.2) fun i=> rl (wrp .u64 (b.1+1),i.2, Head.mk b.2.2.bK b.2.2.Method b.2.2.qH (b.2.2.oO++[qU.mk f.1 i.1])))))) (.ret (.inr (.inl b.2)))) (.ret (.inr (.inl b.2)))) (0,l,Head.mk h.1 j.1 0 []))) (.br (d.2.errno==0) (.br (decide (16 < d.1)) (rl (aU.mk d.2.s 3)) (rl d.2)) (rl d.2))))
def hreadP (a:Str):=(hread a).val
def axu (d a b:Str):Prop:=d=headB a b/\a.length<=1048576/\b.length<=1048576/\zJ (Head.mk a b 0 [])=0
def an7 (d:Str):Prop:=∃p q,axu d p q
theorem hread_isP {d a b:Str}(h:axu d a b):IsP (hread d) (fun r=>r=(Head.mk a b 0 [],0)):=by
 obtain⟨rfl,v,k,B⟩:=h;have I:=x_ (s:=b) ah;have G:=put_len _ zX;have t:axS (aU.mk (headB a b) 0) a (ou b++(vputP 0++vputP 0)):=⟨rfl,v,by simp only[kG];omega⟩;have u:axS (aU.mk (ou b++(vputP 0++vputP 0)) 0) b (vputP 0++vputP 0):=⟨rfl,k,by simp only[kG];omega⟩;have A:EE _=_:=(Jj t).2;have w:EE _=_:=(Jj u).2;have g:F5 (aU.mk (vputP 0++vputP 0) 0)=(0,aU.mk (vputP 0) 0):=OU zX _;have D:F5 (aU.mk (vputP 0) 0)=(0,aU.mk [] 0):=by have:=OU zX [];rwa [Qbx]at this
 unfold hread;refine isP_ob ⟨_,_,t⟩ (isP_lt fun M z=> ?_);rw[A]at z;subst z;refine isP_ob ⟨_,_,u⟩ (isP_lt fun K q=> ?_);simp only[w,g,D]at q;subst q;refine isP_cut (fun y=>y=aU.mk [] 0) (isP_beq (fun _=>isP_brd (fun c=>absurd c h_) (fun _=>isP_ret rfl)) (fun c=>absurd rfl c)) (fun F n=> ?_);subst n;refine isP_lt fun H l=> ?_;simp only[w]at l;subst l;refine isP_cut (fun y=>y=(aU.mk [] 0,Head.mk a b 0 [])) (isP_wh (fun x=>x=(0,aU.mk [] 0,Head.mk a b 0 [])) (fun _=>0) rfl h_ (fun x C=> ?_)) (fun J m=> ?_)
 ·subst C;exact isP_brd (fun c=>absurd c (Qds 0)) (fun _=>isP_ret rfl)
 ·subst m;dsimp only;refine isP_bne (fun c=>absurd rfl c) fun _=>isP_bne (fun c=>absurd rfl c) fun _=>isP_lt fun L p=> ?_;rw[g]at p;subst p;refine isP_brd (fun c=>absurd c h_) fun _=>isP_lt fun i e=> ?_;have e:i=0:=e.trans h_;subst e;have o:uM (Head.mk a b 0 []):=⟨v,k,rfl,rfl⟩;have j:Tn (Head.mk a b 0 [])=_:=(JG _ o).2;rw[B]at j;refine isP_ob o (isP_lt fun E f=> ?_);rw[j]at f;subst f;exact isP_bne (fun c=>absurd rfl c) fun _=>isP_bne (fun c=>absurd rfl c) fun _=>isP_ret rfl
def okF (f:Frame):Prop:=f.Data.length<=1048576/\(f.Kind=1->an7 f.Data)
theorem aqd (a:Str)(h:an7 a):Is (hread a):=
 by obtain⟨_,_,h⟩:=h;exact(hread_isP h).is
def aib:Ent Z:=E1 [aiw,awH,ar6] [jS 7 (aT (fun b=>[s0 8, .cells (pid (b 13)) [none,none], .cells (pid (b 5)) [none,none,none,some 232]]) (lCons (cInt .u64) (lCons iO (l1 BN)))),jS 100006 (aT (fun b=>[.cells (pid (b 13)) [none,none]]) (l1 iO)),jS 100010 (aT (fun b=>[.cells (pid (b 13)) [none,none], .cells (pid (b 5)) (nn 4)]) (lCons iO (l1 BN)))] (a1 (aLf cStr)) (shr [.slot 0 true (nn 4), s0 1] (lCons BN (l1 cI))) [] func64 2 hread (fun a=>an7 a) fun a h=>aqd a h
def agV (n:Int):Pg Bool:=.ret ((aaX n).2.1 !=0)
def ahu (n:Int):=(agV n).val
theorem al3 (n:Int):Is (agV n):=
 is_ret
def aqY:Ent Z:=E0 [W_] [] (a1 (aLf cI)) (R1 aj) [] func192 1 agV fun a=>al3 a
def uI (f:Frame):Pg Bool:=.cut (fun(a:Bool)=> .br a (.ret (f.Stream==0)) (.br (f.Kind==6) (.ret (decide (0<=f.Stream))) (.ret (decide (1<=f.Stream))))) (.br (f.Kind==7) (rl (f.Kind==7)) (.br (f.Kind==8) (rl (f.Kind==8)) (rl (f.Kind==9))))
def yA (f:Frame):=(uI f).val
theorem acG (f:Frame):Is (uI f):=
 gG (bu iR (fun _=>bu iR iR)) (fun b a=>is_br iR (fun _=>bu iR iR))
def adW:Ent Z:=E0 [] [jS 100005 (aT (fun b=>[s0 5]) (l1 aj))] (a1 (aAgg qy)) (R1 aj) [] func123 1 uI fun a=>acG a
def numbered (f:Frame):Pg Bool:=.br (f.Kind==1) (.ret (ahu f.Num)) (.br (f.Kind==5) (.br (decide (1<=f.Num)) (.ret (decide (f.Num<=13))) (.ret false)) (.br (f.Kind==6) (.br (decide (1<=f.Num)) (.ret (decide (f.Num<=1048576))) (.ret false)) (.cut (fun(a:Bool)=> .br a (.br (decide (0<=f.Num)) (.ret (decide (f.Num<=4294967295))) (.ret false)) (.br (f.Kind==9) (.br (decide (0<=f.Num)) (.ret (decide (f.Num<=2147483647))) (.ret false)) (.ret (f.Num==0)))) (.br (f.Kind==7) (rl (f.Kind==7)) (rl (f.Kind==8))))))
def xW (f:Frame):=(numbered f).val
theorem abA (f:Frame):Is (numbered f):=
 bu iR (fun _=>bu (fun _=>aQ iR iR) (fun _=>bu (fun _=>aQ iR iR) (fun _=>gG (bu iR iR) (fun b a=>is_br (fun _=>aQ iR iR) (fun _=>bu (fun _=>aQ iR iR) iR)))))
def afa:Ent Z:=E0 [aqY] [jS 100011 (aT (fun b=>[s0 28]) (l1 aj))] (a1 (aAgg qy)) (R1 aj) [] func124 1 numbered fun a=>abA a
def filled (f:Frame):Pg Bool:=.br (f.Kind==1) (.ret true) (.br (f.Kind==2) (.ret true) (.br (f.Kind==4) (.ret true) (.ret (f.Data==[]))))
def GR (f:Frame):=(filled f).val
theorem alP (f:Frame):Is (filled f):=
 bu iR (fun _=>bu iR (fun _=>bu iR iR))
def ao7:Ent Z:=E0 [] [] (a1 (aAgg qy)) (R1 aj) [] func125 1 filled fun a=>alP a
def Eh (f:Frame):Pg Int:=.br (decide (f.Kind < 1)) (.ret 1) (.br (decide (9 < f.Kind)) (.ret 1) (.br (!yA f) (.ret 1) (.br (!xW f) (.ret 1) (.br (!GR f) (.ret 1) (.br (decide (16384 < (↑(List.length f.Data):Int))) (.ret 3) (.br (decide (2147483647 < f.Stream)) (.ret 3) (.br (f.Kind==1) (.ob (an7 f.Data) (.ret (hreadP f.Data).2)) (.br (f.Kind==4) (.ob (List.length f.Data<=4294967296) (.ret (stUnpackP f.Data).2)) (.ret 0)))))))))
def fcheckP (f:Frame):=(Eh f).val
theorem akL (f:Frame)(h:okF f):Is (Eh f):=
 aQ iR (fun _=>aQ iR (fun _=>is_br iR (fun _=>is_br iR (fun _=>is_br iR (fun _=>aQ iR (fun _=>aQ iR (fun _=>bu (fun _=>az ((h.2 (by assumption))) (is_ret)) (fun _=>bu (fun _=>az (by have:=h.1;omega) (is_ret)) iR))))))))
def aaA:Ent Z:=E1 [aib,Td,adW,afa,ao7] [] (a1 (aAgg qy)) (R1 cI) [] func60 1 Eh (fun a=>okF a) fun a h=>akL a h
def fbytes (f:Frame):Pg (List UInt8):=.ob (zy (fun(i:Nat)=>true) 1=true) (.lt (wrp .u64 f.Stream) fun g=> .ob (isU64 g) (.lt (wrp .u8 f.Kind) fun l=> .lt (vputP g) fun d=> .ob ((txU [l]).length+List.length d<=9223372036854775807) (.lt (wrp .u64 f.Num) fun k=> .ob (isU64 k) (.lt (txU [l]++d) fun j=> .lt (vputP k) fun m=> .ob (j.length+List.length m<=9223372036854775807) (.lt (wrp .u64 (↑(List.length f.Data):Int)) fun e=> .ob (isU64 e) (.lt (j++m) fun(c:List UInt8)=> .lt (vputP e) fun h=> .ob (c.length+List.length h<=9223372036854775807) (.lt (c++h) fun(a:List UInt8)=> .ob (a.length+List.length f.Data<=9223372036854775807) (.lt (a++f.Data) fun(b:List UInt8)=> .ob (b.length<=4294967296) (.as (List.length f.Data<=9223372036854775807) (.ret (dsealP b)))))))))))
def fbytesP (f:Frame):=(fbytes f).val
theorem alm (f:Frame)(h:f.Data.length<=1073741824):Is (fbytes f):=
 by
 refine az (mW (fun _=>rfl) _) (bg fun l g=> ?_);have p:isU64 l:=by rw[g];exact Gy _
 refine az p (bg fun A D=>bg fun t k=> ?_);have s:=put_len l p;rw[<-k]at s;have y:(txU [A]).length=1:=txU_len _;refine az ah (bg fun m d=> ?_);have u4:isU64 m:=by rw[d];exact Gy _
 refine az u4 (bg fun e b=>bg fun B n=> ?_);have x:=put_len m u4;rw[<-n]at x;have G:e.length=1+t.length:=by rw[b,kG,y]
 refine az ah (bg fun o c=> ?_);have a:isU64 o:=by rw[c];exact Gy _
 refine az a (bg fun j r=>bg fun z w=> ?_);have q:=put_len o a;rw[<-w]at q;have F:j.length=e.length+B.length:=by rw[r,kG]
 refine az ah (bg fun i u=> ?_);have C:i.length=j.length+z.length:=by rw[u,kG]
 exact az ah (bg fun E v=>az (by rw[v,kG];omega) (bW fun _=>is_ret))
def abT:Ent Z:=E1 [A_,ajh] [] (a1 (aAgg qy)) (R1 cStr) [] func61 1 fbytes (fun a=>a.Data.length<=1073741824) fun a h=>alm a h
def Yy (f:Frame):Pg (List UInt8×Int):=.ob (okF f) (.lt (fcheckP f) fun a=> .br (a !=0) (.ret ([],a)) (.ob (List.length f.Data<=1073741824) (.ret (fbytesP f,0))))
def ZU (f:Frame):=(Yy f).val
theorem alW (f:Frame)(h:okF f):Is (Yy f):=
 az (h) (bg fun b a=>dm iR (fun _=>az (by have:=h.1;omega) (is_ret)))
def aco:Ent Z:=E1 [aaA,abT] [] (a1 (aAgg qy)) (shr [s0 0, s0 1] (lCons cStr (l1 cI))) [] func26 2 Yy (fun a=>okF a) fun a h=>alW a h
def fread (a:Str):Pg (Frame×Int×Int):=.br (a==[]) (.ret (Frame.mk 0 0 0 [],0,4)) (.cut (fun(b:Int×List Int)=> .ob ((0:Int)<=2/\(2:Int) < 3) (.ob (2 < b.2.length) (.br (decide (16384 < b.2.getD 2 0)) (.ret (Frame.mk 0 0 0 [],0,3)) (.ob ((0:Int)<=2/\(2:Int) < 3) (.ob (2 < b.2.length) (.lt (wrp .i64 (b.1+wrp .i64 (b.2.getD 2 0))) fun h=> .lt (wrp .i64 ((↑(List.length a):Int) - 4)) fun m=> .br (decide (m < h)) (.ret (Frame.mk 0 0 0 [],0,4)) (.lt (wrp .i64 (h+4)) fun e=> .ob ((0:Int)<=0/\0<=e/\e<=(↑(List.length a):Int)) (.ob ((List.take e.toNat a).length<=4294967296) (.br ((aeG (List.take e.toNat a)).2 !=0) (.ret (Frame.mk 0 0 0 [],0,25)) (.ob ((0:Int)<=0/\(0:Int) < 3) (.ob (0 < b.2.length) (.br (decide (4294967295 < b.2.getD 0 0)) (.ret (Frame.mk 0 0 0 [],0,6)) (.ob ((0:Int)<=1/\(1:Int) < 3) (.ob (1 < b.2.length) (.br (decide (4294967295 < b.2.getD 1 0)) (.ret (Frame.mk 0 0 0 [],0,6)) (.ix 0 (List.length a) (.ob ((0:Int)<=0/\(0:Int) < 3) (.ob (0 < b.2.length) (.ob ((0:Int)<=1/\(1:Int) < 3) (.ob (1 < b.2.length) (.ob (0<=b.1/\b.1<=h/\h<=(↑(List.length a):Int)) (.lt (wrp .i64 (↑(List.getD a 0 0).toNat:Int)) fun k=> .lt (wrp .i64 (b.2.getD 0 0)) fun j=> .lt (wrp .i64 (b.2.getD 1 0)) fun l=> .lt (List.drop b.1.toNat (List.take h.toNat a)) fun c=> .ob (okF (Frame.mk k j l c)) (.lt (fcheckP (Frame.mk k j l c)) fun i=> .br (i==0) (.ob (c.length<=1073741824) (.ob ((0:Int)<=0/\0<=e/\e<=(↑(List.length a):Int)) (.br (fbytesP (Frame.mk k j l c) !=List.take e.toNat a) (.ret (Frame.mk 0 0 0 [],0,5)) (.ret (Frame.mk k j l c,e,0))))) (.br (i==4) (.ret (Frame.mk 0 0 0 [],0,5)) (.ret (Frame.mk 0 0 0 [],0,i)))))))))))))))))))))))))) (.cnt lF 0 3 (fun g (d:Int×List Int)=> .ob (0<=d.1/\d.1<=(↑(List.length a):Int)/\(↑(List.length a):Int)<=(↑(List.length a):Int)) (.lt (vtakeP (List.drop d.1.toNat (List.take (List.length a) a))) fun f=> .br (f.2.2 !=0) (.ret (.inr (.inr (Frame.mk 0 0 0 [],0,f.2.2)))) (.ob (0<=g/\g < 3) (.ob (g.toNat < d.2.length) (rl (wrp .i64 (d.1+f.2.1),d.2.set g.toNat f.1)))))) (fun g (d:Int×List Int)=> rl d) (1,[0,0,0])))
def freadP (a:Str):=(fread a).val
def fH (f:Frame):Str:=txU [wrp .u8 f.Kind]++(vputP f.Stream++(vputP f.Num++(vputP (f.Data.length:Int)++f.Data)))
def goodF (f:Frame):Prop:=okF f/\fcheckP f=0/\(0<=f.Kind/\f.Kind < 256)/\(0<=f.Stream/\f.Stream<=4294967295)/\(0<=f.Num/\f.Num<=4294967295)/\f.Data.length<=16384
theorem u32_64 {n:Int}(h:0<=n/\n<=4294967295):isU64 n/\wrp .u64 n=n/\wrp .i64 n=n:=⟨⟨h.1,by omega⟩,wrp_in (k:= .u64) oC,wrp_in (k:= .i64) oC⟩
theorem fbytes_eq {f:Frame}(h:goodF f):fbytesP f=dsealP (fH f):=by
 obtain⟨_,_,_,b,a,c⟩:=h;unfold fbytesP fbytes fH;simp only[val_ob,val_lt,val_as,val_ret,(u32_64 b).2.1,(u32_64 a).2.1,wl f.Data.length ah,UA]
theorem fH_len {f:Frame}(h:goodF f):(fH f).length<=16415/\1<=(fH f).length:=by
 obtain⟨_,_,_,b,a,c⟩:=h;have l1:=put_len _ (u32_64 b).1;have e:=put_len _ (u32_64 a).1;have d:=put_len _ (len_u64 (n:=f.Data.length) ah);unfold fH;simp only[kG,txU_len,Qbe];omega
theorem fB_len {f:Frame}(h:goodF f):(fbytesP f).length=(fH f).length+4:=by rw[fbytes_eq h,dseal_len]
theorem drop_cat {a b:Str}{n:Nat}(h:n=a.length):(a++b).drop n=b:=by subst h;exact Qcr
theorem take_cat {a b:Str}{n:Nat}(h:n=a.length):(a++b).take n=a:=by subst h;exact Qch
def wrF:List Frame->Str
 | []=>[]
 | f::l=>fbytesP f++wrF l
theorem wrF_app:∀a b:List Frame,wrF (a++b)=wrF a++wrF b
 | [],_=>rfl
 | f::a,b=>by simp only[Qbo,wrF,wrF_app a b,UA]
theorem wrF_len:∀{l:List Frame},(∀f∈l,goodF f)->(wrF l).length<=16419*l.length/\l.length<=(wrF l).length
 | [],_=>⟨lH _,lH _⟩
 | f::l,h=>by
  have a:=h f oG;have:=fH_len a;have:=fB_len a;have:=wrF_len fun g b=>h g (Qb _ b)
  simp only[wrF,kG,uU];omega
theorem k8 {k:Int}(h:0<=k/\k < 256):wrp .i64 ((UInt8.ofNat (wrp .u8 k).toNat).toNat:Int)=k:=by
 have w:wrp .u8 k=k:=wrp_in (k:= .u8) oC;have e:(UInt8.ofNat k.toNat).toNat=k.toNat:=by simp[Qdp,Qbv (show k.toNat < 256 by omega)]
 rw[w,e,wrp_in (k:= .i64) oC];omega
theorem fread_isP {f:Frame}(h:goodF f){r:Str}(hr:r.length<=70368744177664):IsP (fread (fbytesP f++r)) (fun x=>x=(f,((fbytesP f).length:Int),0)):=by
 have hb:=fB_len h;have hH:=fH_len h;have g:=dopen_seal (x:=fH f) ah;rw[<-fbytes_eq h]at g;obtain⟨O,J,R,Q,L,h3⟩:=id h;obtain⟨G,_,V⟩:=u32_64 Q;obtain⟨u2,_,S⟩:=u32_64 L;have u3:=len_u64 (n:=f.Data.length) ah;have l1:=put_len _ G;have l2:=put_len _ u2;have l3:=put_len _ u3;have l:(fbytesP f++r).length=(fbytesP f).length+r.length:=kG;have a:fbytesP f++r=txU [wrp .u8 f.Kind]++(vputP f.Stream++(vputP f.Num++(vputP (f.Data.length:Int)++(f.Data++(lowP (crcP (fH f)) 4++r))))):=by
  rw[fbytes_eq h,dseal_eq];unfold fH;simp only[UA]
 have eH:(fH f).length=1+(vputP f.Stream).length+(vputP f.Num).length+(vputP (f.Data.length:Int)).length+f.Data.length:=by
  unfold fH;simp only[kG,txU_len,Qbe];omega
 have E:=fun r=>take_put G r
 have z:=fun r=>take_put u2 r
 have u:=fun r=>take_put u3 r
 generalize H:f.Data++(lowP (crcP (fH f)) 4++r)=T at a;generalize hA:vputP f.Stream=A at*;generalize hB:vputP f.Num=B at*;generalize hC:vputP (f.Data.length:Int)=C at*;have I:(fbytesP f++r)≠[]:=fun e=>by rw[e,uF]at l;omega
 have d0:(fbytesP f++r).drop 1=A++(B++(C++T)):=by rw[a];exact drop_cat (by rw[txU_len];rfl)
 have d1:(fbytesP f++r).drop (1+A.length)=B++(C++T):=by
  rw[a,<-UA];exact drop_cat (by rw[kG,txU_len];rfl)
 have d2:(fbytesP f++r).drop (1+A.length+B.length)=C++T:=by
  rw[a,<-UA,<-UA];exact drop_cat (by rw[kG,kG,txU_len];rfl)
 have d3:((fbytesP f++r).take (1+A.length+B.length+C.length+f.Data.length)).drop (1+A.length+B.length+C.length)=f.Data:=by
  rw[List.drop_take,a,<-UA,<-UA,<-UA,drop_cat (by simp only[kG,txU_len];rfl),<-H];exact take_cat ah
 have d4:(fbytesP f++r).getD 0 0=UInt8.ofNat (wrp .u8 f.Kind).toNat:=by rw[a,txU_eq];rfl
 unfold fread;refine isP_br (fun c=>absurd (by simpa using c) I) fun _=>isP_cut (fun y=>y=(((1+A.length+B.length+C.length:Nat):Int),[f.Stream,f.Num,(f.Data.length:Int)])) (isP_cnt (fun i y=>(i=0/\y=(1,[0,0,0]))\/(i=1/\y=(((1+A.length:Nat):Int),[f.Stream,0,0]))\/(i=2/\y=(((1+A.length+B.length:Nat):Int),[f.Stream,f.Num,0]))\/(i=3/\y=(((1+A.length+B.length+C.length:Nat):Int),[f.Stream,f.Num,(f.Data.length:Int)]))) (.inl ⟨rfl,rfl⟩) h_ h_ (fun i y Z N p=> ?_) (fun i y _ q p=>isP_ret ?_)) (fun y3 j=> ?_)
 ·rcases p with⟨rfl,rfl⟩ | ⟨rfl,rfl⟩ | ⟨rfl,rfl⟩ | ⟨rfl,rfl⟩
  ·refine isP_ob ⟨by decide,by omega,AA _⟩ (isP_lt fun v e=> ?_);rw[yS,show((1:Int)).toNat=1 from rfl,d0,E]at e;subst e;exact isP_bne (fun c=>absurd rfl c) fun _=>isP_ob ⟨by decide,by decide⟩ (isP_ob (show 0 < 3 by decide) (isP_ret (.inr (.inl ⟨rfl,Prod.ext (show wrp .i64 (1+(A.length:Int))=((1+A.length:Nat):Int)from(wrp_in (k:= .i64) oC).trans ah) rfl⟩))))
  ·refine isP_ob ⟨by omega,by omega,AA _⟩ (isP_lt fun v e=> ?_);rw[yS,u_,d1,z]at e;subst e;exact isP_bne (fun c=>absurd rfl c) fun _=>isP_ob ⟨by decide,by decide⟩ (isP_ob (show 1 < 3 by decide) (isP_ret (.inr (.inr (.inl ⟨rfl,Prod.ext (show wrp .i64 (((1+A.length:Nat):Int)+(B.length:Int))=((1+A.length+B.length:Nat):Int)from(wrp_in (k:= .i64) oC).trans ah) rfl⟩)))))
  ·refine isP_ob ⟨by omega,by omega,AA _⟩ (isP_lt fun v e=> ?_);rw[yS,u_,d2,u]at e;subst e;exact isP_bne (fun c=>absurd rfl c) fun _=>isP_ob ⟨by decide,by decide⟩ (isP_ob (show 2 < 3 by decide) (isP_ret (.inr (.inr (.inr ⟨rfl,Prod.ext (show wrp .i64 (((1+A.length+B.length:Nat):Int)+(C.length:Int))=((1+A.length+B.length+C.length:Nat):Int)from(wrp_in (k:= .i64) oC).trans ah) rfl⟩)))))
  ·exact absurd N h_
 ·rcases p with⟨rfl,_⟩ | ⟨rfl,_⟩ | ⟨rfl,_⟩ | ⟨_,j⟩
  ·exact absurd q h_
  ·exact absurd q h_
  ·exact absurd q h_
  ·exact j
 ·subst j;have b:∀n:Nat,n < 3->n < [f.Stream,f.Num,(f.Data.length:Int)].length:=fun n h=>h
  refine isP_ob ⟨by decide,by decide⟩ (isP_ob (b 2 h_) (isP_brd (fun c=>absurd c (show ¬(16384:Int) < (f.Data.length:Int) by omega)) fun _=>isP_ob ⟨by decide,by decide⟩ (isP_ob (b 2 h_) (isP_lt fun P t=>isP_lt fun K w=> ?_))));have t:P=((1+A.length+B.length+C.length+f.Data.length:Nat):Int):=by
   rw[t];show wrp .i64 (((1+A.length+B.length+C.length:Nat):Int)+wrp .i64 (f.Data.length:Int))=_
   rw[wrp_in (k:= .i64) (n:=(f.Data.length:Int)) oC,wrp_in (k:= .i64) oC];omega
  have w:K=((fbytesP f++r).length:Int) - 4:=w.trans (wrp_in (k:= .i64) oC);refine isP_brd (fun c=>absurd c ah) fun _=>isP_lt fun W s=> ?_;have s:W=((fbytesP f).length:Int):=s.trans ((wrp_in (k:= .i64) oC).trans ah);subst s;rw[u_,take_cat rfl];refine isP_ob ⟨by decide,by omega,by omega⟩ (isP_ob ah (isP_bne (fun c=>absurd g c) fun _=>isP_ob ⟨by decide,by decide⟩ (isP_ob (b 0 h_) ?_)));refine isP_brd (fun c=>absurd c (show ¬4294967295 < f.Stream by omega)) fun _=>isP_ob ⟨by decide,by decide⟩ (isP_ob (b 1 h_) ?_);refine isP_brd (fun c=>absurd c (show ¬4294967295 < f.Num by omega)) fun _=>isP_ix h_ ah (isP_ob ⟨by decide,by decide⟩ (isP_ob (b 0 h_) ?_));refine isP_ob ⟨by decide,by decide⟩ (isP_ob (b 1 h_) (isP_ob ⟨by omega,by omega,by omega⟩ (isP_lt fun v7 D=>isP_lt fun M m=>isP_lt fun U o=>isP_lt fun X d=> ?_)));rw[d4,k8 R]at D;have m:M=f.Stream:=m.trans V;have o:U=f.Num:=o.trans S;rw[t,u_,u_,d3]at d;subst D m o d;exact isP_ob O (isP_lt fun Y F=>isP_beq (fun _=>isP_ob ah (isP_ob ⟨by decide,by omega,by omega⟩ (isP_bne (fun c=>absurd rfl c) fun _=>isP_ret rfl))) (fun c=>absurd (F.trans J) c))
def okRd (d:Str):Prop:=d=[]\/∃f r,goodF f/\d=fbytesP f++r/\r.length<=70368744177664
theorem fread_is0 {d:Str}(h:okRd d):Is (fread d):=by
 rcases h with rfl | ⟨f,r,b,rfl,a⟩
 ·unfold fread;exact is_br iR (fun c=>absurd c h_)
 ·exact(fread_isP b a).is
theorem fread_nil:freadP []=(Frame.mk 0 0 0 [],0,4):=rfl
theorem apY (a:Str)(h:okRd a):Is (fread a):=
 fread_is0 h
def avn:Ent Z:=E1 [aaA,abT,OE,ayi] [jS 6 (aT (fun b=>[s0 19, s0 6, .row (pid (b 5)) 236]) (lCons cI (lCons cI (l1 YA)))),jS 100014 (aT (fun b=>[s0 6, .row (pid (b 5)) 236]) (lCons cI (l1 YA)))] (a1 (aLf cStr)) (shr [.slot 0 true (nn 4), s0 1, s0 2] (lCons qy (lCons cI (l1 cI)))) [] func63 3 fread (fun a=>okRd a) fun a h=>apY a h
noncomputable def fsplit (c:Str):Pg (List Frame×List UInt8×Int):=.wh (c.length+1) default (fun(a:List UInt8×List Frame)=> .ob (okRd a.1) (.lt (freadP a.1) fun b=> .br (b.2.2==0) (.ob (bM (a.2.length+1) 40) (.ob (0<=b.2.1/\b.2.1<=(↑a.1.length:Int)/\(↑a.1.length:Int)<=(↑a.1.length:Int)) (rl (List.drop b.2.1.toNat (List.take a.1.length a.1),a.2++[b.1])))) (.br (b.2.2==4) (.ret (.inr (a.2,a.1,0))) (.ret (.inr ([],[],b.2.2)))))) (c,[])
noncomputable def fsplitP (a:Str):(List Frame)×Str×Int:=(fsplit a).val
def okFs (l:List Frame):Prop:=l.length<=2147483648/\∀f∈l,goodF f
theorem fsplit_isP {d:List Frame}(h:okFs d):IsP (fsplit (wrF d)) (fun r=>r=(d,[],0)):=by
 obtain⟨n,j⟩:=h;unfold fsplit;refine isP_wh (fun x=>∃a b,d=a++b/\x=(wrF b,a)) (fun x=>x.1.length) ⟨[],d,rfl,rfl⟩ (Qcv _) (fun x o=> ?_);obtain⟨a,b,rfl,rfl⟩:=o;rw[kG]at n;cases b with
 | nil=>
  refine isP_ob (.inl rfl) (isP_lt fun v e=> ?_);have e:=e.trans fread_nil;subst e;exact isP_beq (fun c=>absurd c h_) fun _=>isP_beq (fun _=>isP_ret (by rw[Qbx];rfl)) (fun c=>absurd rfl c)
 | cons f b=>
  have i:=j f oG;have q:=wrF_len (l:=b) fun g p=>j g (by simp[p])
  rw[uU]at n;have k:freadP (fbytesP f++wrF b)=_:=(fread_isP i (r:=wrF b) ah).2;refine isP_ob (.inr ⟨f,wrF b,i,rfl,by omega⟩) (isP_lt fun v e=> ?_);have e:=e.trans k;subst e;have:=fH_len i;have:=fB_len i;have s:(wrF (f::b)).length=(fbytesP f).length+(wrF b).length:=kG;have m:List.drop ((fbytesP f).length:Int).toNat (List.take (wrF (f::b)).length (wrF (f::b)))=wrF b:=by rw[yS,u_];exact drop_cat rfl
  dsimp only;refine isP_beq (fun _=>isP_ob (room_of ah ah) (isP_ob ⟨by omega,by omega,by omega⟩ (isP_ret ⟨⟨a++[f],b,by simp,Prod.ext m rfl⟩,?_⟩))) (fun c=>absurd rfl c);show(List.drop _ _).length < _
  rw[m];omega
def okSp (d:Str):Prop:=∃l,okFs l/\d=wrF l
theorem akU (a:Str)(h:okSp a):Is (fsplit a):=
 by obtain⟨l,h,rfl⟩:=h;exact(fsplit_isP h).is
noncomputable def aoP:Ent Z:=E1 [avn] [jS 2 (aT (fun b=>[s0 0, .slot 5 false [some 106]]) (lCons cStr (l1 nP)))] (a1 (aLf cStr)) (shr [s0 0, s0 1, s0 2] (lCons nP (lCons cStr (l1 cI)))) [] func29 3 fsplit (fun a=>okSp a) fun a h=>akU a h
def avL:Ent Z:=⟨160,ctN (args (a1 (aAgg Gj))) (R1 aj) 1 [] (fun _=>some False) (fun _=>false),dH func160 dE (fun _ h=>h)⟩
def axW:Ent Z:=⟨161,ctN (args (aCons (aLf cStr) (a1 (aLf cStr)))) (R1 cI) 1 [] (fun _=>some False) (fun _=>(0:Int)),dH func161 dE (fun _ h=>h)⟩
def ay9:Ent Z:=⟨36,ctN (args (a1 (aAgg Gj))) (R1 aj) 1 [] (fun _=>some False) (fun _=>false),dH func36 dE (fun _ h=>h)⟩
def ayC:Ent Z:=⟨37,ctN (args (aCons (aLf cStr) (a1 (aLf cStr)))) (R1 cI) 1 [] (fun _=>some False) (fun _=>(0:Int)),dH func37 dE (fun _ h=>h)⟩
def asK (l:List kH):Pg Int:=.br (decide (8 < (↑l.length:Int))) (.ret 3) (aL l (.cnt m_ 0 (↑l.length:Int) (fun a (b:Unit)=> .ix a l.length (.ob False (.ret (.inr 1)))) (fun a (b:Unit)=> .ret 0) ()))
def aB6 (l:List kH):=(asK l).val
theorem arF (l:List kH)(h:l=[]):Is (asK l):=
 aQ iR (fun _=>bW fun _=>EX ah ah (fun b a _ _=>aW ah ah (az qcb (is_ret))) (fun b a _ _=>is_ret))
def axE:Ent Z:=E1 [avL,axW] [jS 4 (aT (fun b=>[s0 11]) (l1 cI))] (a1 (aLf ui)) (R1 cI) [] func93 1 asK (fun a=>a=[]) fun a h=>arF a h
def af0 (l:List kH):Pg Int:=.br (decide (8 < (↑l.length:Int))) (.ret 3) (.II [] (some (l.length<=9223372036854775807)) m_ 0 (↑l.length:Int) (fun a (b:Unit)=> .ix a l.length (.ob False (.ret (.inr 1)))) (fun a (b:Unit)=> .ret 0) ())
def azg (l:List kH):=(af0 l).val
theorem am2 (l:List kH)(h:l=[]):Is (af0 l):=
 aQ iR (fun _=>tu trivial ah (fun h=>by simp only[nG]at h;omega) (fun b a _ _ _=>aW ah ah (az qcb (is_ret))) (fun b a _ _=>is_ret))
def aqb:Ent Z:=E1 [ay9,ayC] [jS 4 (aT (fun b=>[s0 3]) (l1 cI))] (a1 (aLf ui)) (R1 cI) [] func17 1 af0 (fun a=>a=[]) fun a h=>am2 a h
def okNew (s:Schema)(a:List Handler)(l:List kH):Prop:=okS s/\(∀x∈a,x.Method.length<=1048576)/\l=[]/\a.length<=1048576
def aB8 (d:Str)(s:Schema)(a:List Handler)(l:List kH)(b:Int):Pg (Server×Int):=.br (!awP d) (.ret (Server.mk [] (Schema.mk [] [] []) [] [] [] [] 0 false,8)) (.ob (okS s) (.br (!oQ s) (.ret (Server.mk [] (Schema.mk [] [] []) [] [] [] [] 0 false,1)) (.br (decide (b < 1)) (.ret (Server.mk [] (Schema.mk [] [] []) [] [] [] [] 0 false,1)) (.br (decide (64 < b)) (.ret (Server.mk [] (Schema.mk [] [] []) [] [] [] [] 0 false,1)) (.cut (fun(x:Unit)=> .cut (fun(v:Unit)=> .cut (fun(w:Unit)=> .ob (l=[]) (.lt (aB6 l) fun g=> .br (g !=0) (.ret (Server.mk [] (Schema.mk [] [] []) [] [] [] [] 0 false,g)) (aL a (.each false m_ a d_Handler (fun f e (j:Unit)=> .ix f a.length (.ob (List.length e.Method<=1048576) (.br (!fitsP s e) (.ret (.inr (Server.mk [] (Schema.mk [] [] []) [] [] [] [] 0 false,12))) (rl ())))) (fun f (j:Unit)=> .ob (bM (0+a.length) 40) (.ob (bM (0+l.length) 56) (.ret (Server.mk d s a l [] [] b false,0)))) ())))) (aL a (.each false m_ a d_Handler (fun c o (u:Unit)=> .ix c a.length (.ob ((0:Int)<=0/\0<=c/\c<=(↑a.length:Int)) (.as ((List.take c.toNat a).length<=9223372036854775807) (.each false m_ (List.take c.toNat a) d_Handler (fun h p (n:Unit)=> .ix h (List.take c.toNat a).length (.br (o.Method==p.Method) (.ret (.inr (.inr (.inr (Server.mk [] (Schema.mk [] [] []) [] [] [] [] 0 false,9))))) (rl ()))) (fun h (n:Unit)=> rl ()) ())))) (fun c (u:Unit)=> rl ()) ()))) (aL a (.each false m_ a d_Handler (fun k m (r:Unit)=> .ix k a.length (.ob (List.length m.Method<=1048576) (.br ((kZ s m.Method).2 !=0) (.ret (.inr (.inr (Server.mk [] (Schema.mk [] [] []) [] [] [] [] 0 false,10)))) (rl ())))) (fun k (r:Unit)=> rl ()) ()))) (aL a (.each false m_ a d_Handler (fun i t (q:Unit)=> .ix i a.length (.br (!Nj t) (.ret (.inr (.inr (Server.mk [] (Schema.mk [] [] []) [] [] [] [] 0 false,1)))) (rl ()))) (fun i (q:Unit)=> rl ()) ())))))))
def aFr (a:Str)(s:Schema)(c:List Handler)(l:List kH)(b:Int):=(aB8 a s c l b).val
theorem awQ (b:Str)(s:Schema)(g:List Handler)(l:List kH)(a:Int)(h:okNew s g l):Is (aB8 b s g l a):=
 is_br iR (fun _=>az (h.1) (is_br iR (fun _=>aQ iR (fun _=>aQ iR (fun _=>gG (bW fun _=>dh (.inr ah) (fun v i _ _=>aW ah ah (is_br iR iR)) (fun i _=>is_ret)) (fun y n=>gG (bW fun _=>dh (.inr ah) (fun z j _ _=>aW ah ah (az ((h.2.1 _ (getD_mem (d:=d_Handler) ah))) (dm iR iR))) (fun j _=>is_ret)) (fun w o=>gG (bW fun _=>dh (.inr ah) (fun u k _ _=>aW ah ah (az ah (bW fun _=>dh (.inr ah) (fun t f _ _=>aW ah ah (is_br iR iR)) (fun f _=>is_ret)))) (fun k _=>is_ret)) (fun x q=>az (h.2.2.1) (bg fun r p=>dm iR (fun _=>bW fun _=>dh (.inr ah) (fun m c _ _=>aW ah ah (az ((h.2.1 _ (getD_mem (d:=d_Handler) ah))) (is_br iR iR))) (fun c _=>az qbu (az qbu (is_ret)))))))))))))
def aBy:Ent Z:=E1 [SY,O_,tC,aug,acy,axE] [jS 6 (aT (fun b=>[s0 43]) (l1 cI)),jS 12 (aT (fun b=>[s0 54]) (l1 cI)),jS 19 (aT (fun b=>[s0 71]) (l1 cI)),jS 22 (aT (fun b=>[s0 80]) (l1 cI)),jS 32 (aT (fun b=>[s0 100]) (l1 cI)),jS 100011 (aT (fun b=>[]) l0),jS 100018 (aT (fun b=>[]) l0),jS 100028 (aT (fun b=>[]) l0)] (aCons (aLf cStr) (aCons (aAgg cd_Schema) (aCons (aLf jT) (aCons (aLf ui) (a1 (aLf cI)))))) (shr [.slot 0 true (nn 10), s0 1] (lCons IV (l1 cI))) [] func41 2 (fun a=>aB8 a.1 a.2.1 a.2.2.1 a.2.2.2.1 a.2.2.2.2) (fun a=>okNew a.2.1 a.2.2.1 a.2.2.2.1) fun a h=>awQ a.1 a.2.1 a.2.2.1 a.2.2.2.1 a.2.2.2.2 h
def OV (e:Str)(s:Schema)(a:List Handler)(l:List kH)(b:Int):Pg (Server×Int):=.br (!amM e) (.ret (Server.mk [] (Schema.mk [] [] []) [] [] [] [] 0 false,8)) (.cut (fun(q:Bool)=> .cut (fun(v:Bool)=> .br (!v) (.ret (Server.mk [] (Schema.mk [] [] []) [] [] [] [] 0 false,1)) (.cut (fun(x:Unit)=> .cut (fun(w:Unit)=> .ob (l=[]) (.lt (azg l) fun h=> .br (h !=0) (.ret (Server.mk [] (Schema.mk [] [] []) [] [] [] [] 0 false,h)) (.each true m_ a d_Handler (fun g f (j:Unit)=> .ix g a.length (.ob (List.length f.Method<=1048576) (.br (!ao_ s f) (.ret (.inr (Server.mk [] (Schema.mk [] [] []) [] [] [] [] 0 false,12))) (rl ())))) (fun g (j:Unit)=> .ret (Server.mk e s a l [] [] b false,0)) ()))) (.each true m_ a d_Handler (fun d k (t:Unit)=> .cnt m_ 0 d (fun c (n:Unit)=> .ix d a.length (.ix c a.length (.br (k.Method==(a.getD c.toNat d_Handler).Method) (.ret (.inr (.inr (.inr (Server.mk [] (Schema.mk [] [] []) [] [] [] [] 0 false,9))))) (rl ())))) (fun c (n:Unit)=> rl ()) ()) (fun d (t:Unit)=> rl ()) ())) (.each true m_ a d_Handler (fun p m (u:Unit)=> .ix p a.length (.ob (List.length m.Method<=1048576) (.br ((acD s m.Method).2 !=0) (.ret (.inr (.inr (Server.mk [] (Schema.mk [] [] []) [] [] [] [] 0 false,10)))) (rl ())))) (fun p (u:Unit)=> rl ()) ()))) (.each true lF a d_Handler (fun o r (i:Bool)=> .br i (.ix o a.length (rl (QC r))) (rl false)) (fun o (i:Bool)=> rl i) q)) (.ob (okS s) (.br (anb s) (.br (decide (1<=b)) (rl (decide (b<=64))) (rl false)) (rl false))))
def aw2 (a:Str)(s:Schema)(c:List Handler)(l:List kH)(b:Int):=(OV a s c l b).val
def distH (c:List Handler):Prop:=∀a b,b < a->a < c.length->(c.getD a d_Handler).Method≠(c.getD b d_Handler).Method
theorem r52New_isP (t:Str)(s:Schema)(d:List Handler)(l:List kH)(m:Int)(h:okNew s d l):IsP (OV t s d l m) (fun r=>r.2=0->distH d):=by
 obtain⟨C,v,A,G⟩:=h;have f:∀{n:Int} {p:Prop},n≠0->n=0->p:=fun a b=>absurd b a
 unfold OV;refine isP_br (fun _=>isP_ret (f h_)) fun _=>isP_cut (fun _=>True) (isP_ob C (isP_br (fun _=>isP_brd (fun _=>isP_ret trivial) (fun _=>isP_ret trivial)) (fun _=>isP_ret trivial))) fun E _=>isP_cut (fun _=>True) (isP_each (fun _ _=>True) trivial ah (fun k y g _=>isP_br (fun _=>isP_ix ah ah (isP_ret trivial)) (fun _=>isP_ret trivial)) (fun y _=>isP_ret trivial)) fun J _=> ?_;refine isP_br (fun _=>isP_ret (f h_)) fun _=>isP_cut (fun _=>True) (isP_each (fun _ _=>True) trivial ah (fun k y g _=>isP_ix ah ah (isP_ob (v _ (getD_mem g)) (isP_br (fun _=>isP_ret (f h_)) (fun _=>isP_ret trivial)))) (fun y _=>isP_ret trivial)) fun I _=> ?_;refine isP_cut (fun _=>distH d) (isP_each (fun i _=>∀a b,b < a->a < i->(d.getD a d_Handler).Method≠(d.getD b d_Handler).Method) (fun a b _ q=>absurd q (Nat.not_lt_zero _)) ah (fun k y g o=>isP_cnt (fun i _=>0<=i/\∀b:Nat,(b:Int) < i->b < k->(d.getD k d_Handler).Method≠(d.getD b d_Handler).Method) ⟨by decide,fun b q _=>absurd q ah⟩ h_ ah (fun i z F B u=>isP_ix ah ah (isP_ix ah ah (isP_beq (fun c=>isP_ret (f h_)) (fun c=>isP_ret ⟨by omega,fun b j w=> ?_⟩)))) (fun i z _ B u=>isP_ret fun a b j w=> ?_)) (fun y o=>isP_ret o)) fun H x=> ?_
 ·by_cases e:(b:Int)=i
  ·rw[<-e,u_]at c;exact c
  ·exact u.2 b ah w
 ·by_cases e:a=k
  ·rw[e]at j⊢;exact u.2 b ah j
  ·exact o a b j ah
 ·exact isP_ob A (isP_lt fun D _=>isP_bne (fun c=>isP_ret (f c)) fun _=>isP_each (fun _ _=>True) trivial ah (fun k y g _=>isP_ix ah ah (isP_ob (v _ (getD_mem g)) (isP_br (fun _=>isP_ret (f h_)) (fun _=>isP_ret trivial)))) (fun y _=>isP_ret fun _=>x))
theorem al1 (a:Str)(s:Schema)(c:List Handler)(l:List kH)(b:Int)(h:okNew s c l):Is (OV a s c l b):=
 (r52New_isP a s c l b h).is
def as8:Ent Z:=E1 [agO,aeI,L_,Wu,aqb,anf] [jS 5 (aT (fun b=>[s0 13, s0 12]) (lCons cI (l1 aj))),jS 11 (aT (fun b=>[s0 14]) (l1 cI)),jS 17 (aT (fun b=>[s0 17]) (l1 cI)),jS 20 (aT (fun b=>[s0 18]) (l1 cI)),jS 28 (aT (fun b=>[s0 20]) (l1 cI)),jS 100004 (aT (fun b=>[s0 12]) (l1 aj)),jS 100008 (aT (fun b=>[s0 12]) (l1 aj)),jS 100016 (aT (fun b=>[]) l0),jS 100024 (aT (fun b=>[]) l0)] (aCons (aLf cStr) (aCons (aAgg cd_Schema) (aCons (aLf jT) (aCons (aLf ui) (a1 (aLf cI)))))) (shr [.slot 0 true (nn 10), s0 1] (lCons IV (l1 cI))) [] func5 2 (fun a=>OV a.1 a.2.1 a.2.2.1 a.2.2.2.1 a.2.2.2.2) (fun a=>okNew a.2.1 a.2.2.1 a.2.2.2.1) fun a h=>al1 a.1 a.2.1 a.2.2.1 a.2.2.2.1 a.2.2.2.2 h
def aei (n:Int)(b:Int)(c:Int)(a:Bool):Pg Bool:=.br (decide (c < 0)) (.br (!a) (.ret true) (.ret (decide (b<=n)))) (.br (decide (n<=c)) (.br (!a) (.ret true) (.ret (decide (b<=n)))) (.ret false))
def ah5 (n:Int)(b:Int)(c:Int)(a:Bool):=(aei n b c a).val
theorem alA (n:Int)(b:Int)(c:Int)(a:Bool):Is (aei n b c a):=
 aQ (fun _=>is_br iR iR) (fun _=>aQ (fun _=>is_br iR iR) iR)
def anQ:Ent Z:=E0 [] [] (aCons (aLf cI) (aCons (aLf cI) (aCons (aLf cI) (a1 (aLf aj))))) (R1 aj) [] func52 1 (u4 aei) fun a=>alA a.1 a.2.1 a.2.2.1 a.2.2.2
def G_ (s:Schema)(t:Tape):Pg Int:=.ob (okS s) (.lt (iP s) fun a=> .br (a.2 !=0) (.ret 1) (.ob (List.length t.Method<=1048576) (.lt (kZ s t.Method) fun b=> .br (b.2 !=0) (.ret 10) (.ob (List.length t.Status.Text<=9223372036854775700) (.lt (mG t.Status) fun d=> .br (d !=0) (.ret d) (.ob (bZ a.1/\t.In.length<=67108864) (.lt (NY a.1 b.1.In t.In) fun f=> .br (f.2 !=0) (.ret f.2) (.ob (bZ a.1/\t.Out.length<=67108864) (.lt (NY a.1 b.1.Out t.Out) fun e=> .br (e.2 !=0) (.ret e.2) (.lt (aaX b.1.Shape) fun c=> .br (!ah5 (↑t.In.length:Int) c.1 c.2.1 (t.Status.Code==0)) (aL t.In (.ret 11)) (aL t.In (aL t.Out (.br (!ah5 (↑t.Out.length:Int) c.2.2.1 c.2.2.2 (t.Status.Code==0)) (.ret 11) (.ret 0))))))))))))))
def xR (s:Schema)(t:Tape):=(G_ s t).val
def ZI (s:Schema)(x:Handler):Pg Bool:=.ob (okNew s [Handler.mk x.Method x.Kind x.Num 0] []) (.ret ((aFr [97] s [Handler.mk x.Method x.Kind x.Num 0] [] 1).2==0))
def aws (s:Schema)(x:Handler):=(ZI s x).val
def XI (s:Schema)(t:Tape):Prop:=okS s/\t.Method.length<=1048576/\t.Status.Text.length<=1048576/\t.In.length<=67108864/\t.Out.length<=67108864
def ckd (s:Schema)(t:Tape):Prop:=(iP s).2=0/\(kZ s t.Method).2=0/\mG t.Status=0/\(∀d∈t.In,(kU (iP s).1 (kZ s t.Method).1.In d jy).2=0)/\∀d∈t.Out,(kU (iP s).1 (kZ s t.Method).1.Out d jy).2=0
theorem LC {s:Schema}{t:Tape}(h:XI s t):IsP (G_ s t) (fun e=>e=0->ckd s t):=by
 obtain⟨w,z,E,m,u⟩:=h;have d:∀{n:Int} {p:Prop},n≠0->n=0->p:=fun a b=>absurd b a
 unfold G_;refine isP_ob w (isP_lt fun A i=>isP_bne (fun _=>isP_ret (d h_)) fun g=> ?_);rw[i]at g;have f:bZ A.1:=by rw[i];exact Y6 w g
 refine isP_ob z (isP_lt fun H x=>isP_bne (fun _=>isP_ret (d h_)) fun l=>isP_ob ah (isP_lt fun F y=>isP_bne (fun c=>isP_ret (d c)) fun j=> ?_));refine isP_ob ⟨f,m⟩ (isP_lt fun G C=>isP_bne (fun c=>isP_ret (d c)) fun k=>isP_ob ⟨f,u⟩ (isP_lt fun D B=>isP_bne (fun c=>isP_ret (d c)) fun o=>isP_lt fun I _=> ?_));rw[x]at l;rw[y]at j;rw[C]at k;rw[B]at o;have v:=(Ei _ _ _ ⟨f,m⟩).2 k;have r:=(Ei _ _ _ ⟨f,u⟩).2 o;rw[i,x]at v r;have q:ckd s t:=⟨g,l,j,v,r⟩;exact isP_br (fun _=>isP_as (isP_ret (d h_))) fun _=>isP_as (isP_as (isP_br (fun _=>isP_ret (d h_)) fun _=>isP_ret fun _=>q))
theorem afr {s:Schema}{x:Handler}(h:okS s/\x.Method.length<=1048576):Is (ZI s x):=az ⟨h.1,fun y a=>by rw[Be.1 a];exact h.2,rfl,by simp⟩ is_ret
theorem Dk {c:Handler->Prop}{q:server_work->Prop}{W:server_work->List AVal}{s:Schema}{x:Handler}{l:List Str}:VP (ansG c q W s x l) (fun r=>r.2.Text=[]):=by
 unfold ansG;exact vp_ob (vp_lt fun f _=>vp_br (fun _=>vp_ret rfl) fun _=>vp_ob (vp_br (fun _=>vp_ret rfl) fun _=>vp_br (fun _=>vp_ret rfl) fun _=>vp_ob (vp_lt fun g _=>vp_cut (fun _=>True) (vp_as (vp_each (fun _ _=>True) trivial (fun k y a _=>vp_ix (vp_ob (vp_lt fun d _=>vp_br (fun _=>vp_ret rfl) fun _=>vp_ob (vp_ret trivial)))) fun y _=>vp_ret trivial)) fun h _=>vp_ob (vp_ob (vp_lt fun b _=>vp_as (vp_each (fun _ _=>True) trivial (fun k y a _=>vp_ix (vp_ob (vp_lt fun e _=>vp_br (fun _=>vp_ret rfl) fun _=>vp_ob (vp_ret trivial)))) fun y _=>vp_ret rfl))))))
theorem DJ (s:Schema)(x:Handler)(l:List Str):(svAnswerP s x l).2.Text=[]:=by
 unfold svAnswerP;cases x.Kind==1 with
 | true=>exact Dk
 | false=>
  cases x.Kind==2 with
  | true=>exact Dk
  | false=>
   cases x.Kind==3 with
   | true=>exact Dk
   | false=>exact Dk
theorem aeu (s:Schema)(t:Tape)(h:XI s t):Is (G_ s t):=
 (LC h).is
def JW:Ent Z:=E1 [BQ,tC,Jn,acJ,W_,anQ] [] (aCons (aAgg cd_Schema) (a1 (aAgg rO))) (R1 cI) [] func22 1 (u2 G_) (fun a=>XI a.1 a.2) fun a h=>aeu a.1 a.2 h
theorem akD (s:Schema)(x:Handler)(h:okS s/\x.Method.length<=1048576):Is (ZI s x):=
 afr h
def aoI:Ent Z:=E1 [aBy] [] (aCons (aAgg cd_Schema) (a1 (aAgg eP))) (R1 aj) [] func20 1 (u2 ZI) (fun a=>okS a.1/\a.2.Method.length<=1048576) fun a h=>akD a.1 a.2 h
noncomputable def Au (s:Schema)(x:Handler)(l:List Str):Pg (Tape×Int):=.ob (okS s) (.br (!oQ s) (.ret (Tape.mk [] [] [] (Status.mk 0 []),1)) (.ob (okS s/\List.length x.Method<=1048576) (.br (!aws s x) (.ret (Tape.mk [] [] [] (Status.mk 0 []),1)) (.ob (bM (0+l.length) 16) (.ob (anP s x l) (.lt (svAnswerP s x l) fun a=> .ob (XI s (Tape.mk x.Method l a.1 a.2)) (.lt (xR s (Tape.mk x.Method l a.1 a.2)) fun b=> .br (b !=0) (.ret (Tape.mk [] [] [] (Status.mk 0 []),b)) (.ret (Tape.mk x.Method l a.1 a.2,0)))))))))
noncomputable def pV (s:Schema)(x:Handler)(l:List Str):Tape×Int:=(Au s x l).val
theorem Iq {s:Schema}{x:Handler}{l:List Str}(h:anP s x l):IsP (Au s x l) (fun r=>r.2=0->r.1=Tape.mk x.Method l (svAnswerP s x l).1 (svAnswerP s x l).2/\xR s r.1=0/\oQ s=true):=by
 obtain⟨d,u,f,j⟩:=id h;have e:∀{n:Int} {p:Prop},n≠0->n=0->p:=fun a b=>absurd b a
 have t:=aic j;have o:=DD h;have i:=DJ s x l;have m:XI s (Tape.mk x.Method l (svAnswerP s x l).1 (svAnswerP s x l).2):=⟨d,f,by show(svAnswerP s x l).2.Text.length<=_;rw[i];decide,by show l.length<=_;omega,o.2.2.2⟩;unfold Au;refine isP_ob d (isP_br (fun _=>isP_ret (e h_)) fun g=>isP_ob ⟨d,f⟩ (isP_br (fun _=>isP_ret (e h_)) fun _=>isP_ob (room_of ah ah) (isP_ob h (isP_lt fun v k=> ?_))));subst k;exact isP_ob m (isP_lt fun w q=>isP_bne (fun c=>isP_ret (e c)) fun c=>isP_ret fun _=>⟨rfl,q.symm.trans c,by simpa using g⟩)
theorem ansG_len {c:Handler->Prop}{q:server_work->Prop}{W:server_work->List AVal}{s:Schema}{x:Handler}{l:List Str}(e:fitsP s x=true->¬x.Kind=5->∀y:server_work,y.h=x->y.in_.length=l.length->(W y).length<=64*l.length+1):VP (ansG c q W s x l) (fun r=>r.1.length<=64*l.length+1):=by
 unfold ansG;refine vp_ob (vp_lt fun o _=>vp_br (fun _=>vp_ret (qR _)) fun _=>vp_ob (vp_br (fun _=>vp_ret (qR _)) fun f=>vp_br (fun _=>vp_ret (qR _)) fun h=>vp_ob (vp_lt fun p _=>vp_cut (fun(y:server_work)=>y.h=x/\y.in_.length=l.length) (vp_as (vp_each (fun k (y:server_work)=>y.h=x/\y.in_.length=k) ⟨rfl,rfl⟩ (fun k y i a=>vp_ix (vp_ob (vp_lt fun j _=>vp_br (fun _=>vp_ret (qR _)) fun _=>vp_ob (vp_ret ⟨a.1,?_⟩)))) fun y a=>vp_ret a)) fun g d=>vp_ob (vp_ob (vp_lt fun m b=>vp_as (vp_each (fun k (z:List Str)=>z.length<=k) (lH _) (fun k z i a=>vp_ix (vp_ob (vp_lt fun n _=>vp_br (fun _=>vp_ret (qR _)) fun _=>vp_ob (vp_ret ?_)))) fun z a=>vp_ret (zW a ?_)))))))
 ·show(y.in_++[_]).length=k+1
  rw[kG,a.2];rfl
 ·show(z++[_]).length<=k+1
  rw[kG];exact Qdd a
 ·rw[b];exact e (by simpa using f) (by simpa using h) g d.1 d.2
theorem wEcho_len (y:server_work):(wEchoP y).length<=y.in_.length+1:=by
 have k:VP (wEcho y) (fun r=>r.length<=y.in_.length+1):=by
  unfold wEcho;exact vp_br (fun _=>vp_ret (Nat.le_succ _)) fun _=>vp_as (vp_br (fun _=>vp_lt fun a _=>vp_ob (vp_ret (by rw[Qa9,zU];omega))) fun _=>vp_ret (Qdd (qR _)))
 exact k
theorem wRepeat_len {y:server_work}(h:y.h.Num<=64):(wRepeatP y).length<=64*y.in_.length:=by
 have k:VP (wRepeat y) (fun r=>r.length<=64*y.in_.length):=by
  unfold wRepeat;exact vp_as (vp_each (fun k z=>z.length<=64*k) (lH _) (fun k z d a=>vp_ix (vp_cnt (fun i (u:List AVal)=>(u.length:Int)<=64*k+i/\i<=64) ⟨by omega,by decide⟩ (fun i u _ c b=>vp_ob (vp_ret ⟨by show((u++[_]).length:Int)<=_;rw[kG,Qbe];omega,by omega⟩)) (fun i u _ _ b=>vp_ret (by show u.length<=64*(k+1);omega)))) fun z a=>vp_ret a)
 exact k
theorem svAnswer_len (s:Schema)(x:Handler)(l:List Str):(svAnswerP s x l).1.length<=64*l.length+1:=by
 unfold svAnswerP;cases b:x.Kind==1 with
 | true=>exact ansG_len fun _ _ y _ h=>by have:=wEcho_len y;omega
 | false=>
  cases c:x.Kind==2 with
  | true=>exact ansG_len fun _ _ y _ h=>by show 1<=_;omega
  | false=>
   cases d:x.Kind==3 with
   | true=>exact ansG_len fun _ _ y _ h=>by show 1<=_;omega
   | false=>
    refine ansG_len fun a f y e h=> ?_;have k:=(fits_kind a).2.2;have b:=beq_eq_false_iff_ne.1 b;have c:=beq_eq_false_iff_ne.1 c;have d:=beq_eq_false_iff_ne.1 d;have:=wRepeat_len (y:=y) (by rw[e];exact((fits_kind a).2.1 ah).1);omega
theorem aay (s:Schema)(x:Handler)(l:List Str)(h:anP s x l):Is (Au s x l):=
 (Iq h).is
noncomputable def TG:Ent Z:=E1 [SY,aoI,Qn,JW] [] (aCons (aAgg cd_Schema) (aCons (aAgg eP) (a1 (aLf aV)))) (shr [.slot 0 true (nn 5), s0 1] (lCons rO (l1 cI))) [] func8 2 (u3 Au) (fun a=>anP a.1 a.2.1 a.2.2) fun a h=>aay a.1 a.2.1 a.2.2 h
def AC (s:Schema)(t:Tape)(id:Int):Pg (List Frame):=.ob (List.length t.Method<=1048576) (.ob ([47]=kL/\List.length t.Method<=1048576) (.lt (sZ t.Method) fun b=> .ob (uM (Head.mk b.1 b.2.1 0 [])) (.cut (fun(f:List Frame)=> .ob (bM (f.length+1) 40) (aL t.Out (.each false lF t.Out [] (fun e h (a:List Frame)=> .ix e t.Out.length (.ob (bM (a.length+1) 40) (rl (a++[Frame.mk 2 id 0 h])))) (fun e (a:List Frame)=> .ob (List.length t.Status.Text<=1048576) (.ob (bM (a.length+1) 40) (.ret (a++[Frame.mk 4 id 0 (stPackP t.Status)])))) (f++[Frame.mk 3 id 0 []])))) (aL t.In (.each false lF t.In [] (fun d g (c:List Frame)=> .ix d t.In.length (.ob (bM (c.length+1) 40) (rl (c++[Frame.mk 2 id 0 g])))) (fun d (c:List Frame)=> rl c) [Frame.mk 1 id (kZ s t.Method).1.Shape (Tn (Head.mk b.1 b.2.1 0 [])).1])))))
def alT (s:Schema)(t:Tape)(id:Int):=(AC s t id).val
theorem avV {s:Schema}{v:bK}(h:Vp s v=[]){i:Nat}(f:i < v.Methods.length):1<=(v.Methods.getD i fD).Shape/\(v.Methods.getD i fD).Shape<=4:=by
 have k:VP (auB s v) (fun r=>r=[]->∀i,i < v.Methods.length->1<=(v.Methods.getD i fD).Shape/\(v.Methods.getD i fD).Shape<=4):=by
  unfold auB;refine vp_ob (vp_ob (vp_lt fun q _=>vp_ob (vp_as (vp_each (fun n y=>y.out=[]->∀j,j < n->1<=(v.Methods.getD j fD).Shape/\(v.Methods.getD j fD).Shape<=4) (fun _ j d=>absurd d ah) (fun k y t a=> ?_) (fun y a=>vp_ob (vp_ret fun h=>a (show(ai.mk y.vI (-1) y.out).out=[]from CP h)))))));have c:y.out=[]->(1<=(v.Methods.getD k fD).Shape/\(v.Methods.getD k fD).Shape<=4)->∀j,j < k+1->1<=(v.Methods.getD j fD).Shape/\(v.Methods.getD j fD).Shape<=4:=fun m l j d=>by
   rcases Qb8 j k with e | o
   ·exact a m j e
   ·rw[show j=k by omega];exact l
  repeat' first
   | refine vp_ob ?_
   | refine vp_ix ?_
   | refine vp_lt fun _ p=> ?_
   | refine vp_br (fun g=> ?_) (fun g=> ?_)
   | refine vp_ret fun h=> ?_
  all_goals (subst_vars;have b:=fU (CP h))
  all_goals first
   | exact absurd b.1 h_
   | exact c (fU (fU (fU b.2).2).2).2 ⟨xe (by assumption),xe b.1⟩
 exact k h i f
theorem ar_ {s:Schema}(h:QJ s=[]){v:bK}(b:v∈s.Services):Vp s v=[]:=by
 have k:VP (aes s) (fun r=>r=[]->∀i,i < s.Services.length->Vp s (s.Services.getD i kM)=[]):=by
  unfold aes;refine vp_ob (vp_lt fun o _=>vp_cut (fun _=>True) ?_ fun w _=>vp_cut (fun _=>True) (vp_ob (vp_ret trivial)) fun u _=>vp_ob (vp_cut (fun _=>True) ?_ fun m _=>vp_cut (fun _=>True) ?_ fun p _=> ?_))
  ·repeat' first
    | exact vp_ret trivial
    | refine vp_ob ?_
    | refine vp_lt fun _ _=> ?_
    | refine vp_cut (fun _=>True) ?_ fun _ _=> ?_
  ·exact vp_as (vp_each (fun _ _=>True) trivial (fun k y f a=>vp_ix (vp_ob (vp_lt fun v b=>vp_ob (vp_ret trivial)))) (fun y a=>vp_ret trivial))
  ·exact vp_as (vp_each (fun _ _=>True) trivial (fun k y f a=>vp_ix (vp_ob (vp_lt fun v b=>vp_ob (vp_ret trivial)))) (fun y a=>vp_ret trivial))
  ·refine vp_as (vp_each (fun n y=>y.out=[]->∀i,i < n->Vp s (s.Services.getD i kM)=[]) (fun _ i c=>absurd c ah) (fun k y f a=>vp_ix (vp_ob (vp_lt fun q b=>vp_ob (vp_ret fun h=> ?_)))) (fun y a=>vp_ret a));intro i c;obtain⟨j,l⟩:=Qcj.1 h;rcases Qb8 i k with g | t
   ·exact a j i g
   ·rw[show i=k by omega,<-b];exact l
 obtain⟨i,c,e⟩:=NM (d:=kM) b;rw[<-e];exact k h i c
theorem amm {s:Schema}(h:oQ s=true){v:bK}(g:v∈s.Services){m:bP}(j:m∈v.Methods):1<=m.Shape/\m.Shape<=4:=by
 have e:QJ s=[]:=by
  unfold oQ YT at h;simp only[val_ob,val_lt,val_as,val_ret]at h;cases b:QJ s with
  | nil=>rfl
  | cons a l=>rw[b]at h;simp at h;omega
 obtain⟨i,f,c⟩:=NM (d:=fD) j;rw[<-c];exact avV (ar_ e g) f
theorem aBA {l:List bK}{n:Str}(h:(aww l n).2=true):(aww l n).1∈l:=by
 have k:VP (fsS l n) (fun r=>r.2=true->r.1∈l):=by
  unfold fsS;exact vp_as (vp_each (fun _ _=>True) trivial (fun k y a _=>vp_ix (vp_br (fun _=>vp_ret fun _=>getD_mem a) fun _=>vp_ret trivial)) fun y _=>vp_ret fun e=>by cases e)
 exact k h
theorem aBR {l:List bP}{n:Str}(h:(aDj l n).2=true):(aDj l n).1∈l:=by
 have k:VP (fsW l n) (fun r=>r.2=true->r.1∈l):=by
  unfold fsW;exact vp_as (vp_each (fun _ _=>True) trivial (fun k y a _=>vp_ix (vp_br (fun _=>vp_ret fun _=>getD_mem a) fun _=>vp_ret trivial)) fun y _=>vp_ret fun e=>by cases e)
 exact k h
theorem afl {s:Schema}{p:Str}(l:oQ s=true)(h:(kZ s p).2=0):1<=(kZ s p).1.Shape/\(kZ s p).1.Shape<=4:=by
 have d:VP (NE s p) (fun r=>r.2=true->1<=r.1.Shape/\r.1.Shape<=4):=by
  unfold NE;refine vp_ob (vp_lt fun g _=>vp_br (fun _=>vp_ret fun e=>by cases e) fun _=>vp_lt fun i f=>vp_br (fun _=>vp_ret fun e=>by cases e) fun a=>vp_ret fun e=> ?_);have j:WU s g.1=aww s.Services g.1:=rfl;rw[f,j]at a e⊢;exact amm l (aBA (by simpa using a)) (aBR e)
 have k:VP (PL s p) (fun r=>r.2=0->1<=r.1.Shape/\r.1.Shape<=4):=by
  unfold PL;have b:∀(c:Int) {p:Prop},c≠0->(c=0->p):=fun c _ h e=>absurd e h
  refine vp_ob (vp_lt fun g _=>vp_br (fun _=>vp_ret (b 2 h_)) fun _=>vp_ob (vp_br (fun _=>vp_ret (b 2 h_)) fun _=>vp_br (fun _=>vp_ret (b 2 h_)) fun _=>vp_ob (vp_lt fun i f=>vp_br (fun _=>vp_ret (b 10 h_)) fun a=>vp_ret fun _=> ?_)));show 1<=i.1.Shape/\i.1.Shape<=4
  rw[f]at a⊢;exact d (show(adp s p).2=true by simpa using a)
 exact k h
def frSh (s:Schema)(t:Tape):Int:=(kZ s t.Method).1.Shape
def frA (t:Tape):Str:=(sZ t.Method).1
def frB (t:Tape):Str:=(sZ t.Method).2.1
def frH (t:Tape):Str:=(Tn (Head.mk (frA t) (frB t) 0 [])).1
def frT (s:Schema)(t:Tape)(id:Int):List Frame:=
 Frame.mk 1 id (frSh s t) (frH t)::(t.In.map (fun d=>Frame.mk 2 id 0 d)++(Frame.mk 3 id 0 []::(t.Out.map (fun d=>Frame.mk 2 id 0 d)++[Frame.mk 4 id 0 (stPackP t.Status)])))
def aAA (t:Tape):Prop:=t.Method.length<=1048576/\t.Status.Text.length<=1048576/\t.In.length<=67108864/\t.Out.length<=67108864
theorem ags {s:Schema}{p:Str}(h:p.length<=1048576)(q:(kZ s p).2=0):BH (sZ p).1=true/\uO (sZ p).2.1=true/\p=(sZ p).1++47::(sZ p).2.1:=by
 have k:VP (PL s p) (fun r=>r.2=0->BH (sZ p).1=true/\uO (sZ p).2.1=true/\(sZ p).2.2=true):=by
  have c:∀{n:Int} {p:Prop},n≠0->n=0->p:=fun a b=>absurd b a
  unfold PL;exact vp_ob (vp_lt fun t f=>vp_br (fun _=>vp_ret (c h_)) fun l=>vp_ob (vp_br (fun _=>vp_ret (c h_)) fun j=>vp_br (fun _=>vp_ret (c h_)) fun i=>vp_ob (vp_lt fun w _=>vp_br (fun _=>vp_ret (c h_)) fun _=>vp_ret fun _=>⟨by rw[<-f];simpa using j,by rw[<-f];simpa using i,by rw[<-f];simpa using l⟩)))
 obtain⟨m,o,d⟩:=k q;refine⟨m,o,?_⟩;rw[ah4 p h]at d⊢;rcases ug (fun(x:UInt8)=>x==47) p with⟨e,_⟩ | ⟨u,a,v,rfl,g,_,e⟩
 ·rw[e]at d;cases d
 ·have g:a=47:=by simpa using g
  subst g;rw[e,pY (show(0:Int)<=(u.length:Int) by omega),xU,u_];simp
theorem aoo {a:Str}(h:BH a=true):a.length<=120:=by
 have k:VP (ajM a) (fun r=>r=true->a.length<=120):=by
  unfold ajM;exact vp_ob (vp_as (vp_each (fun _ _=>True) trivial (fun k y b _=>vp_ix (vp_br (fun _=>vp_ret fun e=>by cases e) fun _=>vp_ret trivial)) fun y _=>vp_ret fun e=>by have:=xe e;omega))
 exact k h
theorem anz {b:Str}(h:uO b=true):b.length<=40:=by
 rw[aoU]at h;unfold asl at h;rw[iW,Um]at h;exact h.1
theorem alz {a b:Str}(d:BH a=true)(c:uO b=true):zJ (Head.mk a b 0 [])=0:=by
 unfold zJ Y2;simp only[jv,val_ob,a_,val_as,tJ,val_ret,d,c];rfl
def wtOk (s:Schema)(t:Tape):Prop:=t.Method.length<=1048576/\mG t.Status=0/\(kZ s t.Method).2=0/\(1<=frSh s t/\frSh s t<=4)/\t.In.length<=1000/\t.Out.length<=2000/\(∀d∈t.In,d.length<=1048576)/\∀d∈t.Out,d.length<=1048576
theorem frH_ok {s:Schema}{t:Tape}(h:wtOk s t):axu (frH t) (frA t) (frB t)/\t.Method=frA t++47::frB t/\(frH t).length<=200/\(frA t).length<=120/\(frB t).length<=40:=by
 obtain⟨g,l,i,_⟩:=h;obtain⟨c,d,k⟩:=ags g i;have l1:(frA t).length<=120:=aoo c;have j:(frB t).length<=40:=anz d;have f:zJ (Head.mk (frA t) (frB t) 0 [])=0:=alz c d;have e:Tn (Head.mk (frA t) (frB t) 0 [])=_:=(JG _ ⟨show(frA t).length<=1048576 by omega,show(frB t).length<=1048576 by omega,rfl,rfl⟩).2;rw[f]at e;have e:frH t=headB (frA t) (frB t):=Qb3 Prod.fst e;have m:=alN (a:=frA t) (b:=frB t) ah ah;exact⟨⟨e,by omega,by omega,f⟩,k,by rw[e];omega,l1,j⟩
theorem aBI {n:Int}(h:1<=n/\n<=4):ahu n=true:=by
 obtain rfl | rfl | rfl | rfl:n=1\/n=2\/n=3\/n=4:=by omega
 all_goals rfl
theorem ayT {id n:Int}{d a b:Str}(h:1<=id/\id<=2147483647)(e:1<=n/\n<=4)(c:axu d a b)(f:d.length<=200):fcheckP (Frame.mk 1 id n d)=0:=by
 have k:hreadP d=_:=(hread_isP c).2;unfold fcheckP Eh yA uI xW numbered GR filled;simp only[a_,jv,val_ob,val_ret,k,aBI e,pY h.1,nU (show ¬2147483647 < id by omega),nU (show ¬(16384:Int) < (d.length:Int) by omega)];rfl
theorem awo {id:Int}{d:Str}(h:1<=id/\id<=2147483647):fcheckP (Frame.mk 2 id 0 d)=bif decide ((16384:Int) < (d.length:Int))then 3 else 0:=by
 unfold fcheckP Eh yA uI xW numbered GR filled;simp only[a_,jv,val_ob,val_ret,pY h.1,nU (show ¬2147483647 < id by omega)];cases decide ((16384:Int) < (d.length:Int))<;>rfl
theorem aBg {id:Int}(h:1<=id/\id<=2147483647):fcheckP (Frame.mk 3 id 0 [])=0:=by
 unfold fcheckP Eh yA uI xW numbered GR filled;simp only[a_,jv,val_ob,val_ret,pY h.1,nU (show ¬2147483647 < id by omega)];rfl
theorem stPack_ok {a:Status}(h:mG a=0):stPackP a=vputP a.Code++a.Text/\(stPackP a).length<=4200:=by
 obtain⟨_,_,b⟩:=Y5 h;have e:=(O4 a ah).2 h;have e:stPackP a=vputP a.Code++a.Text:=e;have:=put_len _ (ae_ h).1;exact⟨e,by rw[e,kG];omega⟩
theorem amy {id:Int}{a:Status}(h:1<=id/\id<=2147483647)(b:mG a=0):fcheckP (Frame.mk 4 id 0 (stPackP a))=0:=by
 obtain⟨e,c⟩:=stPack_ok b;have k:=st_rt b;rw[<-e]at k;unfold fcheckP Eh yA uI xW numbered GR filled;simp only[a_,jv,val_ob,val_ret,k,pY h.1,nU (show ¬2147483647 < id by omega),nU (show ¬(16384:Int) < ((stPackP a).length:Int) by omega)];rfl
def aHV (f:Frame):Prop:=okF f/\(fcheckP f=0\/fcheckP f=3)/\(fcheckP f=0->goodF f)
theorem aDl {s:Schema}{t:Tape}{id:Int}(h:wtOk s t)(c:1<=id/\id<=2147483647):∀f∈frT s t id,aHV f:=by
 obtain⟨k,r,l,_⟩:=frH_ok h;obtain⟨x,j,v,m,w,u,p,n⟩:=h;have g:∀d:Str,d.length<=1048576->aHV (Frame.mk 2 id 0 d):=fun d i=>by
  have e:=awo (d:=d) c;have o:okF (Frame.mk 2 id 0 d):=⟨i,fun q=>absurd (show(2:Int)=1 from q) h_⟩;by_cases q:(16384:Int) < (d.length:Int)
  ·rw[pY q]at e;exact⟨o, .inr e,fun z=>absurd (e.symm.trans z) h_⟩
  ·rw[nU q]at e;exact⟨o, .inl e,fun _=>⟨o,e,⟨show(0:Int)<=2 by decide,show(2:Int) < 256 by decide⟩,⟨show 0<=id by omega,show id<=4294967295 by omega⟩,⟨AA 0,show(0:Int)<=4294967295 by decide⟩,show d.length<=16384 by omega⟩⟩
 intro f a;unfold frT at a;rcases IP.1 a with rfl | a
 ·have e:=ayT (d:=frH t) c m k l;have o:okF (Frame.mk 1 id (frSh s t) (frH t)):=⟨show(frH t).length<=1048576 by omega,fun _=>⟨_,_,k⟩⟩;exact⟨o, .inl e,fun _=>⟨o,e,⟨show(0:Int)<=1 by decide,show(1:Int) < 256 by decide⟩,⟨show 0<=id by omega,show id<=4294967295 by omega⟩,⟨show 0<=frSh s t by omega,show frSh s t<=4294967295 by omega⟩,show(frH t).length<=16384 by omega⟩⟩
 rcases xN.1 a with a | a
 ·obtain⟨d,b,rfl⟩:=Qbf.1 a;exact g d (p d b)
 rcases IP.1 a with rfl | a
 ·have e:=aBg c;have o:okF (Frame.mk 3 id 0 []):=⟨qR _,fun q=>absurd (show(3:Int)=1 from q) h_⟩;exact⟨o, .inl e,fun _=>⟨o,e,⟨show(0:Int)<=3 by decide,show(3:Int) < 256 by decide⟩,⟨show 0<=id by omega,show id<=4294967295 by omega⟩,⟨AA 0,show(0:Int)<=4294967295 by decide⟩,qR _⟩⟩
 rcases xN.1 a with a | a
 ·obtain⟨d,b,rfl⟩:=Qbf.1 a;exact g d (n d b)
 ·rw[Be.1 a];have e:=amy c j;have i:=(stPack_ok j).2;have o:okF (Frame.mk 4 id 0 (stPackP t.Status)):=⟨show(stPackP t.Status).length<=1048576 by omega,fun q=>absurd (show(4:Int)=1 from q) h_⟩;exact⟨o, .inl e,fun _=>⟨o,e,⟨show(0:Int)<=4 by decide,show(4:Int) < 256 by decide⟩,⟨show 0<=id by omega,show id<=4294967295 by omega⟩,⟨AA 0,show(0:Int)<=4294967295 by decide⟩,show(stPackP t.Status).length<=16384 by omega⟩⟩
theorem frT_len (s:Schema)(t:Tape)(id:Int):(frT s t id).length=t.In.length+t.Out.length+3:=by
 unfold frT;simp only[uU,kG,Na,uF];omega
theorem FK {s:Schema}{t:Tape}(id:Int)(h:aAA t)(e:uM (Head.mk (frA t) (frB t) 0 [])):IsP (AC s t id) (fun r=>r=frT s t id):=by
 obtain⟨c,f,m,o⟩:=h;have b:∀{l:List Str} {k:Nat},k < l.length->(l.take k).map (fun d=>Frame.mk 2 id 0 d)++[Frame.mk 2 id 0 (l.getD k [])]=(l.take (k+1)).map (fun d=>Frame.mk 2 id 0 d):=fun{l k} a=>by
  rw[Qbj,Qdl];congr 1;simp[List.getD,a]
 unfold AC;refine isP_ob c (isP_ob ⟨rfl,c⟩ (isP_lt fun j g=> ?_));subst g;refine isP_ob e (isP_cut (fun y=>y=Frame.mk 1 id (frSh s t) (frH t)::t.In.map (fun d=>Frame.mk 2 id 0 d)) (isP_as (isP_each (fun k y=>y=Frame.mk 1 id (frSh s t) (frH t)::(t.In.take k).map (fun d=>Frame.mk 2 id 0 d)) rfl ah (fun k y a hI=> ?_) (fun y hI=>isP_ret qbp))) (fun n i=> ?_))
 ·subst hI;exact isP_ix ah ah (isP_ob (room_of qcc qcc) (isP_ret (Qb3 (List.cons _) (b a))))
 ·subst i;refine isP_ob (room_of (by simp only[uU,Na];omega) (by simp only[uU,Na];omega)) (isP_as (isP_each (fun k y=>y=(Frame.mk 1 id (frSh s t) (frH t)::t.In.map (fun d=>Frame.mk 2 id 0 d))++[Frame.mk 3 id 0 []]++(t.Out.take k).map (fun d=>Frame.mk 2 id 0 d)) oG ah (fun k y a hI=> ?_) (fun y hI=> ?_)))
  ·subst hI;exact isP_ix ah ah (isP_ob (room_of qbg qbg) (isP_ret (by show _++_++_++[_]=_++_++_;rw[UA _ _ [_],b a])))
  ·subst hI;refine isP_ob f (isP_ob (room_of qbg qbg) (isP_ret ?_));unfold frT;simp
def frQ (t:Tape):Prop:=aAA t/\uM (Head.mk (frA t) (frB t) 0 [])
theorem anV {s:Schema}{t:Tape}(h:wtOk s t):frQ t:=by
 have a:=frH_ok h;have g:=Y5 h.2.1;obtain⟨b,c,f,i,e,d,_⟩:=h;exact⟨⟨b,by omega,by omega,by omega⟩,a.1.2.1,a.1.2.2.1,rfl,rfl⟩
def frAll (s:Schema):Nat->List Tape->List Frame
 | _,[]=>[]
 | k,t::l=>frT s t ((k+1:Nat):Int)++frAll s (k+1) l
theorem abh (s:Schema)(t:Tape)(id:Int)(h:frQ t):Is (AC s t id):=
 (FK id h.1 h.2).is
def OX:Ent Z:=E1 [tC,aeY,aiw,anY] [jS 6 (aT (fun b=>[s0 49, .slot 14 false [some 106]]) (lCons cI (l1 nP))),jS 12 (aT (fun b=>[s0 68, .slot 14 false [some 106]]) (lCons cI (l1 nP))),jS 100010 (aT (fun b=>[.slot 14 false [some 106]]) (l1 nP))] (aCons (aAgg cd_Schema) (aCons (aAgg rO) (a1 (aLf cI)))) (R1 nP) [] func25 1 (u3 AC) (fun a=>frQ a.2.1) fun a h=>abh a.1 a.2.1 a.2.2 h
theorem ac8:∀s:Str,Op.bytesLess s s=false
 | []=>rfl
 | c::s=>by
  unfold Op.bytesLess;simp[ac8 s]
theorem IW (x:Int):sF x x=0:=by
 unfold sF aBk;simp only[val_lt,a_,val_ret];cases Y4 x<;>simp
theorem Vr (x:Int):adA x x=0:=by
 unfold adA aBV;simp only[val_lt,a_,val_ret];cases aae x<;>simp
theorem We (x:Str):ahw x x=0:=by
 unfold ahw aBF;simp only[val_lt,a_,val_ret];cases Zm x<;>simp[ac8]
theorem alL (v:AVal):ahQ v v=0:=by
 unfold ahQ aCM;simp only[val_lt,a_,val_ret,IW,Vr,We,Qa2];(repeat' split)<;>rfl
theorem SL:QB [0,0]=0:=rfl
theorem arx (l:List Raw):aFx l l=0:=by
 have h:∀r:Raw,TM r r=0:=fun r=>by
  unfold TM NS;simp only[val_ret,IW,Vr,We];rfl
 have k:VP (cfR l l) (fun r=>r=0):=by
  unfold cfR;exact vp_cut (fun _=>True) (vp_as (vp_each (fun _ _=>True) trivial (fun k y a _=>vp_ix (vp_as (vp_br (fun c=>absurd (xe c) ah) fun _=>vp_ix (vp_lt fun v e=>vp_br (fun c=>absurd c (by rw[e.trans (h (l.getD k lD))];decide)) fun _=>vp_ret trivial)))) fun y _=>vp_ret trivial)) fun y _=>vp_as (vp_as (vp_br (fun c=>absurd (xe c) ah) fun _=>vp_ret rfl))
 exact k
theorem aji:∀a,(∀v,(gY a).1 v v=0)/\(∀l,(gY a).2.1 l l=0)/\(∀l,(gY a).2.2.1 l l=0)/\(∀l,(gY a).2.2.2.1 l l=0)/\(∀v,(gY a).2.2.2.2.1 v v=0)/\∀v,(gY a).2.2.2.2.2 v v=0
 | 0=>⟨fun _=>rfl,fun _=>rfl,fun _=>rfl,fun _=>rfl,fun _=>rfl,fun _=>rfl⟩
 | a+1=>by
  obtain⟨b,g,e,h,i,f⟩:=aji a;unfold gY;refine⟨fun v=> ?_,fun l=> ?_,fun l=> ?_,fun l=> ?_,fun v=> ?_,fun v=> ?_⟩
  ·show(bif fA v.Kind then _ else bif v.Kind==11 then _ else bif v.Kind==12 then _ else bif v.Kind==10 then _ else _)=(0:Int)
   unfold auv arp ad6 atI aqH;simp only[a_,val_ob,val_ret,bne_self_eq_false,og,alL,g,e,h,arx,SL];cases fA v.Kind<;>cases v.Kind==11<;>cases v.Kind==12<;>cases v.Kind==10<;>rfl
  ·show VP (cfL _ _ _ _ _ _ _ _ _ _ _ _ l l) (fun r=>r=0)
   unfold cfL;exact vp_cut (fun _=>True) (vp_as (vp_each (fun _ _=>True) trivial (fun k y d _=>vp_ix (vp_as (vp_br (fun c=>absurd (xe c) ah) fun _=>vp_ix (vp_ob (vp_br (fun c=>absurd c (by show ¬((gY a).1 (l.getD k dK).re (l.getD k dK).re !=0)=true;rw[b];decide)) fun _=>vp_ret trivial))))) fun y _=>vp_ret trivial)) fun y _=>vp_as (vp_as (vp_br (fun c=>absurd (xe c) ah) fun _=>vp_ret rfl))
  ·show VP (cfP _ _ _ _ _ _ _ _ _ _ _ _ l l) (fun r=>r=0)
   unfold cfP;exact vp_cut (fun _=>True) (vp_as (vp_each (fun _ _=>True) trivial (fun k y d _=>vp_ix (vp_as (vp_br (fun c=>absurd (xe c) ah) fun _=>vp_ix (vp_ob (vp_br (fun c=>absurd c (by show ¬((gY a).2.2.2.2.1 (Pair.mk (l.getD k dJ).Key.re (l.getD k dJ).Val.re) (Pair.mk (l.getD k dJ).Key.re (l.getD k dJ).Val.re) !=0)=true;rw[i];decide)) fun _=>vp_ret trivial))))) fun y _=>vp_ret trivial)) fun y _=>vp_as (vp_as (vp_br (fun c=>absurd (xe c) ah) fun _=>vp_ret rfl))
  ·show VP (cfS _ _ _ _ _ _ _ _ _ _ _ _ l l) (fun r=>r=0)
   unfold cfS;exact vp_cut (fun _=>True) (vp_as (vp_each (fun _ _=>True) trivial (fun k y d _=>vp_ix (vp_as (vp_br (fun c=>absurd (xe c) ah) fun _=>vp_ix (vp_ob (vp_br (fun c=>absurd c (by show ¬((gY a).2.2.2.2.2 (Slot.mk (l.getD k bn).Num (l.getD k bn).Val.re) (Slot.mk (l.getD k bn).Num (l.getD k bn).Val.re) !=0)=true;rw[f];decide)) fun _=>vp_ret trivial))))) fun y _=>vp_ret trivial)) fun y _=>vp_as (vp_as (vp_br (fun c=>absurd (xe c) ah) fun _=>vp_ret rfl))
  ·unfold aph;simp only[val_ob,val_ret,b,SL]
  ·unfold auj;simp only[val_ob,val_ret,b,IW,SL]
theorem apd (v:AVal):an0 v v=true:=by
 unfold an0 ayQ;simp only[val_ob,val_ret];have:afu v.re v.re=0:=(aji _).1 _;rw[this];rfl
theorem apP {p:bJ}{a:Str}{l:List Str}(h:∀d∈l,(kU p a d jy).2=0):(NY p a l).2=0:=by
 have k:VP (Jp p a l) (fun r=>r.2=0):=by
  unfold Jp;exact vp_as (vp_each (fun _ _=>True) trivial (fun k y b _=>vp_ix (vp_ob (vp_lt fun v e=>vp_br (fun c=>absurd c (by rw[e,h _ (getD_mem b)];decide)) fun _=>vp_ob (vp_ret trivial)))) fun y _=>vp_ret rfl)
 exact k
theorem aq7 {p:bJ}{a d:Str}{b:Int}(h:(kU p a d jy).2=0):aDt d d p a b=(true,b):=by
 unfold aDt anC;simp only[val_ob,val_lt,a_,val_ret,h,apd];rfl
theorem aoE {p:bJ}{a:Str}{l:List Str}(h:∀d∈l,(kU p a d jy).2=0):(afG p a l l).2=false:=by
 have k:VP (abk l l p a 0) (fun r=>r.1= -1):=by
  unfold abk;exact vp_as (vp_each (fun _ _=>True) trivial (fun k y b _=>vp_ix (vp_ix (vp_ob (vp_lt fun v e=>vp_br (fun c=>absurd c (by rw[e.trans (aq7 (h _ (getD_mem b)))];simp)) fun _=>vp_ret trivial)))) fun y _=>vp_ret rfl)
 have k:(aoF l l p a 0).1= -1:=k;unfold afG ajO;simp only[val_as,a_,val_ob,val_lt,val_ret,k,bne_self_eq_false,og];rfl
theorem aqZ {s:Schema}{d:List Handler}{t:Tape}{x:Handler}(j:ckd s t)(h:Xv d t.Method=(x,true))(l:svAnswerP s x t.In=(t.Out,t.Status)):(zI s s (iP s).1 d t).2=false:=by
 obtain⟨p,e,o,i,m⟩:=j;have k:VP (acj s s (iP s).1 d t) (fun r=>r.2=false):=by
  unfold acj;refine vp_ob (vp_ob (vp_ob (vp_lt fun v f=>vp_br (fun c=>absurd c (by rw[f,e];decide)) fun _=>vp_lt fun y b=>vp_br (fun c=>absurd c (by rw[b,e];decide)) fun _=>vp_br (fun c=>absurd c (by rw[f,b];simp)) fun _=>vp_lt fun u g=>vp_br (fun c=>absurd c (by rw[g,h];simp)) fun _=>vp_ob (vp_lt fun w n=>vp_br (fun c=>absurd c (by rw[n,b,apP i];decide)) fun _=>vp_ob (vp_lt fun q a=> ?_)))));rw[g,h]at a;have a:=a.trans l;subst a;refine vp_br (fun c=>absurd c oG) fun _=>vp_ob (vp_ret ?_);rw[b];exact aoE m
 exact k
theorem runL_none {f:Tape->dn×Bool}:∀(l:List Tape) (k:Nat),(∀t∈l,(f t).2=false)->Ey f k l=[]
 | [],_,_=>rfl
 | t::l,k,h=>by
  unfold Ey;rw[h t oG,runL_none l (k+1) fun u a=>h u (Qb _ a)];rfl
theorem am7 {a:List Handler}{i:Nat}(d:distH a)(e:i < a.length):Xv a (a.getD i d_Handler).Method=(a.getD i d_Handler,true):=by
 have k:VP (I5 a (a.getD i d_Handler).Method) (fun r=>r=(a.getD i d_Handler,true)):=by
  unfold I5;refine vp_as (vp_each (fun k _=>k<=i) (qR _) (fun k y f b=>vp_ix (vp_br (fun c=>vp_ret ?_) (fun c=>vp_ret ?_))) (fun y b=>absurd b ah))
  ·have c:(a.getD k d_Handler).Method=(a.getD i d_Handler).Method:=by simpa using c
   rcases Qb8 k i with q | q
   ·exact absurd c.symm (d i k q e)
   ·obtain rfl:k=i:=by omega
    rfl
  ·rcases Qb8 k i with q | q
   ·exact q
   ·rw[show k=i by omega]at c;simp at c
 exact k
def aI5 (s:Schema)(a:List Handler)(t:Tape):Prop:=ckd s t/\∃i,i < a.length/\t.Method=(a.getD i d_Handler).Method/\svAnswerP s (a.getD i d_Handler) t.In=(t.Out,t.Status)
theorem recd_one {s:Schema}{a:List Handler}{t:Tape}(b:distH a)(h:aI5 s a t):(zI s s (iP s).1 a t).2=false:=by
 obtain⟨c,i,d,e,f⟩:=h;exact aqZ c (by rw[e];exact am7 b d) f
def Gq (s:Schema)(l:List Tape):Pg (List UInt8×Int):=.br (decide (1024 < (↑l.length:Int))) (.ret ([],3)) (.cut (fun(n:Unit)=> aL l (.each false lF l jO (fun g e (a:List Int)=> .ix g l.length (.ob (frQ e) (.lt (alT s e (wrp .i64 (g+1))) fun c=> aL c (.each false lF c d_Frame (fun i k (d:List Int)=> .ix i c.length (.ob (okF k) (.lt (ZU k) fun b=> .br (b.2 !=0) (.ret (.inr (.inr ([],b.2)))) (.ob ((dp (bM (d.length+b.1.length) 1)).p/\True) (rl (d++BG b.1)))))) (fun i (d:List Int)=> rl d) a)))) (fun g (a:List Int)=> .ob ((dp (0 < a.length)).p/\(dp ((↑a.length:Int)=(↑a.length:Int)/\0 < (↑a.length:Int)/\zy (wV a) a.length=true)).p/\True) (.ret (txU a,0))) [])) (aL l (.each false m_ l jO (fun j h (m:Unit)=> .ix j l.length (.ob (XI s h) (.lt (xR s h) fun f=> .br (f !=0) (.ret (.inr (.inr ([],f)))) (rl ())))) (fun j (m:Unit)=> rl ()) ())))
def rpWriteP (s:Schema)(l:List Tape):=(Gq s l).val
def acZ (s:Schema):Pg (List UInt8×Int):=.cut (fun(a:Unit)=> .as (0<=9223372036854775807) (.ob ((dp ((0:Int)=0)).p/\True) (.ret ([],0)))) (.as (0<=9223372036854775807) (rl ()))
def rpWr0P (s:Schema):=(acZ s).val
theorem Vx (s:Schema):∀(a b:List Tape) (k:Nat),frAll s k (a++b)=frAll s k a++frAll s (k+a.length) b
 | [],b,k=>rfl
 | t::a,b,k=>by
  simp only[Qbo,frAll,Vx s a b (k+1),UA,uU];rw[show k+1+a.length=k+(a.length+1) by omega]
theorem aeE (s:Schema){l:List Tape}{k:Nat}(h:k < l.length):frAll s 0 (l.take (k+1))=frAll s 0 (l.take k)++frT s (l.getD k jO) ((k+1:Nat):Int):=by
 have e:l.take (k+1)=l.take k++[l.getD k jO]:=by
  rw[Qbj];congr 1;simp[List.getD,h]
 rw[e,Vx,zU,Nat.min_eq_left ah,JH];simp only[frAll,Qbx]
theorem frAll_len {s:Schema}:∀{l:List Tape} {k:Nat},(∀t∈l,wtOk s t)->(frAll s k l).length<=3003*l.length/\3*l.length<=(frAll s k l).length
 | [],_,_=>⟨lH _,lH _⟩
 | t::l,k,h=>by
  obtain⟨_,_,_,_,c,b,_⟩:=h t oG;have:=frAll_len (l:=l) (k:=k+1) fun u a=>h u (Qb _ a)
  have:=frT_len s t ((k+1:Nat):Int);simp only[frAll,kG,uU];omega
theorem amP (f:Frame):ZU f=bif fcheckP f !=0 then([],fcheckP f)else(fbytesP f,0):=by
 unfold ZU Yy;simp only[val_ob,val_lt,a_,val_ret]
def wrQ (s:Schema)(l:List Tape):Prop:=l.length<=20/\∀t∈l,XI s t/\xR s t=0/\wtOk s t
def wrR (s:Schema)(l:List Tape)(r:Str×Int):Prop:=(r=(wrF (frAll s 0 l),0)/\∀f∈frAll s 0 l,goodF f)\/r.2=3
theorem rpWrite_isP {s:Schema}{l:List Tape}(h:wrQ s l)(P:l≠[]):IsP (Gq s l) (wrR s l):=by
 obtain⟨T,v⟩:=h;have K:∀k,∀t∈l.take k,wtOk s t:=fun k t m=>(v t (List.mem_of_mem_take m)).2.2
 unfold Gq;refine isP_brd (fun c=>absurd c ah) fun _=>isP_cut (fun _=>True) (isP_as (isP_each (fun _ _=>True) trivial ah (fun k y x _=> ?_) (fun y _=>isP_ret trivial))) (fun S _=>isP_as (isP_each (fun k y=>y=BG (wrF (frAll s 0 (l.take k)))/\∀f∈frAll s 0 (l.take k),goodF f) ⟨rfl,fun f i=>by rw[Qb2]at i;cases i⟩ ah (fun k y x w=> ?_) (fun y w=> ?_)))
 ·obtain⟨N,L,_⟩:=v _ (getD_mem (d:=jO) x);exact isP_ix ah ah (isP_ob N (isP_lt fun Q e=>isP_bne (fun c=>absurd (e.trans L) c) fun _=>isP_ret trivial))
 ·obtain⟨rfl,u⟩:=w;have p:=aeE s x;have D:=(frAll_len (k:=0) (K k)).1;rw[zU]at D;have I:=(wrF_len u).1;obtain⟨_,_,m⟩:=v _ (getD_mem (d:=jO) x);obtain⟨_,_,_,_,t5,t6,_⟩:=id m;generalize l.getD k jO=t at*;have H:wrp .i64 ((k:Int)+1)=((k+1:Nat):Int):=wrp_next ah;have C:=aDl m (id:=((k+1:Nat):Int)) ⟨by omega,by omega⟩;refine isP_ix ah ah (isP_ob (anV m) (isP_lt fun b n=> ?_));rw[H]at n;have n:b=frT s t ((k+1:Nat):Int):=n.trans (FK _ (anV m).1 (anV m).2).2;have R:b.length<=3003:=by rw[n,frT_len];omega
  rw[<-n]at p C;refine isP_as (isP_each (fun j y=>y=BG (wrF (frAll s 0 (l.take k))++wrF (b.take j))/\∀f∈b.take j,goodF f) ⟨by rw[Qb2];simp only[wrF,Qbx],fun f i=>by rw[Qb2]at i;cases i⟩ ah (fun j y G r=> ?_) (fun y r=>isP_ret ?_))
  ·obtain⟨rfl,A⟩:=r;obtain⟨J,o,O⟩:=C _ (getD_mem (d:=d_Frame) G);have F:b.take (j+1)=b.take j++[b.getD j d_Frame]:=by
    rw[Qbj];congr 1;simp[List.getD,G]
   have E:=(wrF_len A).1;rw[zU]at E;generalize b.getD j d_Frame=f at*;refine isP_ix ah ah (isP_ob J (isP_lt fun B a=> ?_));rw[amP]at a;rcases o with o | o
   ·rw[o]at a;have a:B=(fbytesP f,0):=a;subst a;have i:=O o;have:=fB_len i;have:=fH_len i;refine isP_bne (fun c=>absurd rfl c) fun _=>isP_ob ⟨room_of (by rw[ng,kG];show _+(fbytesP f).length<=_;omega) (by rw[ng,kG];show(_+(fbytesP f).length)*1<=_;omega),trivial⟩ (isP_ret ⟨?_,fun g z=> ?_⟩)
    ·show BG (wrF (frAll s 0 (l.take k))++wrF (b.take j))++BG (fbytesP f)=_
     rw[F,wrF_app,<-UA];simp only[wrF,Qbx,BG,Qdl]
    ·rw[F]at z;rcases xN.1 z with q | q
     ·exact A g q
     ·rw[Be.1 q];exact i
   ·rw[o]at a;have a:B=([],3):=a;subst a;exact isP_bne (fun _=>isP_ret (.inr rfl)) (fun c=>absurd c h_)
  ·rw[yS]at r;refine⟨by rw[p,wrF_app];exact r.1,fun f i=> ?_⟩;rw[p]at i;rcases xN.1 i with q | q
   ·exact u f q
   ·exact r.2 f q
 ·rw[yS]at w;obtain⟨rfl,u⟩:=w;have D:=(frAll_len (l:=l) (k:=0) fun t m=>(v t m).2.2).2;have I:=(wrF_len u).2;have M:0 < l.length:=List.length_pos_iff.2 P;exact isP_ob ⟨by show 0 < (BG _).length;rw[ng];omega,⟨rfl,by rw[ng];omega,mW (uT _) _⟩,trivial⟩ (isP_ret (.inl ⟨by rw[aht],u⟩))
theorem al5 (s:Schema):Is (acZ s):=by
 unfold acZ;exact gG (bW fun _=>is_ret) (fun _ _=>bW fun _=>az ⟨rfl,trivial⟩ is_ret)
theorem agT (s:Schema)(l:List Tape)(h:wrQ s l/\l≠[]):Is (Gq s l):=
 (rpWrite_isP h.1 h.2).is
def e_rpWrite:Ent Z:=E1 [JW,OX,aco,oK,yz] [jS 4 (aT (fun b=>[s0 21]) (l1 cI)),jS 12 (aT (fun b=>[s0 34, .tcs (pid (b 9)) 102 [some 5]]) (lCons cI (l1 uG))),jS 15 (aT (fun b=>[s0 45, .tcs (pid (b 9)) 102 [some 5]]) (lCons cI (l1 uG))),jS 100010 (aT (fun b=>[]) l0)] (aCons (aAgg cd_Schema) (a1 (aLf cd_LTape))) (shr [s0 0, s0 1] (lCons cStr (l1 cI))) [] func10 2 (u2 Gq) (fun a=>wrQ a.1 a.2/\a.2≠[]) fun a h=>agT a.1 a.2 h
theorem asC (s:Schema):Is (acZ s):=
 al5 s
def e_rpWr0:Ent Z:=rE Z [JW,OX,aco,oK,yz] [jS 600004 (aT (fun _=>List.replicate 2 (.iter 0)) l0),jS 600012 (aT (fun _=>List.replicate 2 (.iter 0)) l0),jS 15 (aT (fun c=>[s0 45, .tcs (pid (c 9)) 102 [some 5]]) (lCons cI (l1 uG))),jS 100010 (aT (fun c=>[]) l0)] (args (aCons (aAgg cd_Schema) (a1 (aLf cd_LTape)))) (iE (n:=62) rfl) (shr [s0 0, s0 1] (lCons cStr (l1 cI))) [] func10 ntmps10 dE 2 rfl (fun a=>acZ (a.1)) (fun a=>some (a.2=([]:List Tape))) (fun⟨s,l⟩ e h=>by have b:l=([]:List Tape):=h;subst b;show _=_;kernel_rfl) (fun a=>rpWr0P (a.1)) (fun a h=>⟨asC (a.1),rfl⟩)
noncomputable def tape1 (l:List Frame)(id:Int):Pg (Tape×Int×Bool):=aL l (.each false lF l d_Frame (fun d b (a:Bool×Tape)=> .ix d l.length (.br (b.Stream !=id) (.ret (.inr (a.2,0,false))) (.br ((d==0) !=(b.Kind==1)) (.ret (.inr (a.2,0,false))) (.br (b.Kind==1) (.ob (an7 b.Data) (.lt (hreadP b.Data) fun c=> .br (c.2 !=0) (.ret (.inr (a.2,0,false))) (.br (c.1.qH !=0) (.ret (.inr (a.2,0,false))) (.br (decide (0 < (↑c.1.oO.length:Int))) (.ret (.inr (a.2,0,false))) (.ob (List.length c.1.bK+List.length c.1.Method<=1000000) (rl (a.1,Tape.mk (pathP c.1.bK c.1.Method) a.2.In a.2.Out a.2.Status))))))) (.br (b.Kind==2) (.br a.1 (.ob (bM (a.2.Out.length+1) 16) (rl (a.1,Tape.mk a.2.Method a.2.In (a.2.Out++[b.Data]) a.2.Status))) (.ob (bM (a.2.In.length+1) 16) (rl (a.1,Tape.mk a.2.Method (a.2.In++[b.Data]) a.2.Out a.2.Status)))) (.br (b.Kind==3) (.br a.1 (.ret (.inr (a.2,0,false))) (rl (true,a.2))) (.br (b.Kind==4) (.ob (List.length b.Data<=4294967296) (.lt (wrp .i64 (d+1)) fun f=> .lt (stUnpackP b.Data) fun e=> .br a.1 (.ret (.inr (Tape.mk a.2.Method a.2.In a.2.Out e.1,f,e.2==0))) (.ret (.inr (Tape.mk a.2.Method a.2.In a.2.Out e.1,f,false))))) (.ret (.inr (a.2,0,false)))))))))) (fun d (a:Bool×Tape)=> .ret (a.2,0,false)) (false,Tape.mk [] [] [] (Status.mk 0 [])))
noncomputable def tape1P (l:List Frame)(id:Int):Tape×Int×Bool:=(tape1 l id).val
theorem gd_l {A:Type}{a b:List A}{d:A}{k:Nat}(h:k < a.length):(a++b).getD k d=a.getD k d:=by simp[List.getD,Qca h]
theorem gd_r {A:Type}{a b:List A}{d:A}{k n:Nat}(h:n=a.length+k):(a++b).getD n d=b.getD k d:=by
 subst h;simp[List.getD,Qa6]
theorem gd_m {id:Int}{l:List Str}{j:Nat}(h:j < l.length):(l.map (fun d=>Frame.mk 2 id 0 d)).getD j d_Frame=Frame.mk 2 id 0 (l.getD j []):=by simp[List.getD,h]
def tpI (t:Tape)(k:Nat)(y:Bool×Tape):Prop:=
 (k=0/\y=(false,Tape.mk [] [] [] (Status.mk 0 [])))\/(∃j,j<=t.In.length/\k=j+1/\y=(false,Tape.mk t.Method (t.In.take j) [] (Status.mk 0 [])))\/∃j,j<=t.Out.length/\k=t.In.length+2+j/\y=(true,Tape.mk t.Method t.In (t.Out.take j) (Status.mk 0 []))
theorem nz {n:Nat}(h:0 < n):((n:Int)==0)=false:=by rw[Qbr];omega
theorem tape1_isP {s:Schema}{t:Tape}{id:Int}{r:List Frame}(h:wtOk s t)(G:1<=id/\id<=2147483647)(M:r.length<=2147483648):IsP (tape1 (frT s t id++r) id) (fun x=>x=(t,((frT s t id).length:Int),true)):=by
 obtain⟨p,u,D,J,E⟩:=frH_ok h;have hread:hreadP (frH t)=_:=(hread_isP p).2;obtain⟨_,o,_,H,O,K,_⟩:=h;obtain⟨w,I⟩:=stPack_ok o;have m:stUnpackP (stPackP t.Status)=(t.Status,0):=by rw[w];exact st_rt o
 have A:=frT_len s t id;have F:(frT s t id++r).length=(frT s t id).length+r.length:=kG;have g0:(frT s t id++r).getD 0 d_Frame=Frame.mk 1 id (frSh s t) (frH t):=rfl;have z:∀j,j < t.In.length->(frT s t id++r).getD (j+1) d_Frame=Frame.mk 2 id 0 (t.In.getD j []):=fun j a=>by
  rw[gd_l ah];show(_++_:List Frame).getD j d_Frame=_
  rw[gd_l (by rw[Na];exact a),gd_m a]
 have C:(frT s t id++r).getD (t.In.length+1) d_Frame=Frame.mk 3 id 0 []:=by
  rw[gd_l ah];show(_++_:List Frame).getD t.In.length d_Frame=_
  rw[gd_r (k:=0) (by rw[Na];rfl)];rfl
 have B:∀j,j < t.Out.length->(frT s t id++r).getD (t.In.length+2+j) d_Frame=Frame.mk 2 id 0 (t.Out.getD j []):=fun j a=>by
  rw[gd_l ah,show t.In.length+2+j=(t.In.length+(j+1))+1 by omega];show(_++_:List Frame).getD (t.In.length+(j+1)) d_Frame=_
  rw[gd_r (k:=j+1) (by rw[Na])];show(_++_:List Frame).getD j d_Frame=_
  rw[gd_l (by rw[Na];exact a),gd_m a]
 have v:(frT s t id++r).getD (t.In.length+2+t.Out.length) d_Frame=Frame.mk 4 id 0 (stPackP t.Status):=by
  rw[gd_l ah,show t.In.length+2+t.Out.length=(t.In.length+(t.Out.length+1))+1 by omega];show(_++_:List Frame).getD (t.In.length+(t.Out.length+1)) d_Frame=_
  rw[gd_r (k:=t.Out.length+1) (by rw[Na])];show(_++_:List Frame).getD t.Out.length d_Frame=_
  rw[gd_r (k:=0) (by rw[Na];rfl)];rfl
 have i:∀{l:List Str} {j:Nat},j < l.length->l.take j++[l.getD j []]=l.take (j+1):=fun{l j} a=>by
  rw[Qbj];congr 1;simp[List.getD,a]
 unfold tape1;generalize frT s t id++r=L at*;refine isP_as (isP_each (tpI t) (.inl ⟨rfl,rfl⟩) ah (fun k y P d=> ?_) (fun y d=> ?_))
 ·rcases d with⟨rfl,rfl⟩ | ⟨j,a,rfl,rfl⟩ | ⟨j,a,rfl,rfl⟩
  ·rw[g0];refine isP_ix ah ah (isP_bne (fun c=>absurd rfl c) fun _=>isP_br (fun c=>absurd c (show ¬(((0:Int)==0) !=((1:Int)==1))=true by decide)) fun _=>isP_beq (fun _=>isP_ob ⟨_,_,p⟩ (isP_lt fun N g=> ?_)) (fun c=>absurd rfl c));have g:=g.trans hread;subst g;refine isP_bne (fun c=>absurd rfl c) fun _=>isP_bne (fun c=>absurd rfl c) fun _=>isP_brd (fun c=>absurd c (Qds 0)) fun _=>isP_ob (show(frA t).length+(frB t).length<=1000000 by omega) (isP_ret (.inr (.inl ⟨0,qR _,rfl,?_⟩)));have e:pathP (frA t) (frB t)=t.Method:=by
    rw[u];unfold pathP path;simp only[val_ob,val_lt,val_ret,UA];rfl
   show(false,Tape.mk (pathP (frA t) (frB t)) [] [] (Status.mk 0 []))=_
   rw[e];rfl
  ·rcases Qb8 j t.In.length with q | q
   ·rw[z j q];refine isP_ix ah ah (isP_bne (fun c=>absurd rfl c) fun _=>isP_br (fun c=>absurd c (by rw[nz (Nat.succ_pos j)];exact Qb9)) fun _=>isP_beq (fun c=>absurd (show(2:Int)=1 from c) h_) fun _=>isP_beq (fun _=>isP_br (fun c=>absurd c Qb9) fun _=>isP_ob (room_of (by show(t.In.take j).length+1<=_;rw[zU];omega) (by show((t.In.take j).length+1)*16<=_;rw[zU];omega)) (isP_ret (.inr (.inl ⟨j+1,q,rfl,?_⟩)))) (fun c=>absurd rfl c));show(false,Tape.mk t.Method (t.In.take j++[t.In.getD j []]) [] (Status.mk 0 []))=_
    rw[i q]
   ·obtain rfl:j=t.In.length:=by omega
    rw[C];refine isP_ix ah ah (isP_bne (fun c=>absurd rfl c) fun _=>isP_br (fun c=>absurd c (by rw[nz (Nat.succ_pos _)];exact Qb9)) fun _=>isP_beq (fun c=>absurd (show(3:Int)=1 from c) h_) fun _=>isP_beq (fun c=>absurd (show(3:Int)=2 from c) h_) fun _=>isP_beq (fun _=>isP_br (fun c=>absurd c Qb9) fun _=>isP_ret (.inr (.inr ⟨0,qR _,rfl,?_⟩))) (fun c=>absurd rfl c));show(true,Tape.mk t.Method (t.In.take t.In.length) [] (Status.mk 0 []))=_
    rw[yS];rfl
  ·rcases Qb8 j t.Out.length with q | q
   ·rw[B j q];refine isP_ix ah ah (isP_bne (fun c=>absurd rfl c) fun _=>isP_br (fun c=>absurd c (by rw[nz ah];exact Qb9)) fun _=>isP_beq (fun c=>absurd (show(2:Int)=1 from c) h_) fun _=>isP_beq (fun _=>isP_br (fun _=>isP_ob (room_of (by show(t.Out.take j).length+1<=_;rw[zU];omega) (by show((t.Out.take j).length+1)*16<=_;rw[zU];omega)) (isP_ret (.inr (.inr ⟨j+1,q,rfl,?_⟩)))) fun c=>absurd c (show ¬true=false by decide)) (fun c=>absurd rfl c));show(true,Tape.mk t.Method t.In (t.Out.take j++[t.Out.getD j []]) (Status.mk 0 []))=_
    rw[i q]
   ·obtain rfl:j=t.Out.length:=by omega
    rw[v];refine isP_ix ah ah (isP_bne (fun c=>absurd rfl c) fun _=>isP_br (fun c=>absurd c (by rw[nz ah];exact Qb9)) fun _=>isP_beq (fun c=>absurd (show(4:Int)=1 from c) h_) fun _=>isP_beq (fun c=>absurd (show(4:Int)=2 from c) h_) fun _=>isP_beq (fun c=>absurd (show(4:Int)=3 from c) h_) fun _=>isP_beq (fun _=>isP_ob (show(stPackP t.Status).length<=4294967296 by omega) (isP_lt fun n b=>isP_lt fun Q f=>isP_br (fun _=>isP_ret ?_) fun c=>absurd c (show ¬true=false by decide))) (fun c=>absurd rfl c));have f:=f.trans m;subst f;have b:n=((frT s t id).length:Int):=by
     rw[b,wrp_next ah,A];congr 1;omega
    show(Tape.mk t.Method t.In (t.Out.take t.Out.length) t.Status,n,true)=_
    rw[yS,b]
 ·rcases d with⟨e,_⟩ | ⟨j,a,e,_⟩ | ⟨j,a,e,_⟩<;>omega
def av8 (l:List Frame)(id:Int):Prop:=∃s t r,wtOk s t/\(1<=id/\id<=2147483647)/\r.length<=2147483648/\l=frT s t id++r
theorem als {l:List Frame}{id:Int}(h:av8 l id):Is (tape1 l id):=by
 obtain⟨s,t,r,b,a,c,rfl⟩:=h;exact(tape1_isP b a c).is
theorem anX (l:List Frame)(id:Int)(h:av8 l id):Is (tape1 l id):=
 als h
noncomputable def awI:Ent Z:=E1 [aib,aEo,Td] [jS 4 (aT (fun b=>[s0 17, s0 8, .cells (pid (b 7)) [none,some 9,some 9,none,none]]) (lCons cI (lCons aj (l1 rO))))] (aCons (aLf nP) (a1 (aLf cI))) (shr [.slot 0 true (nn 5), s0 1, s0 2] (lCons rO (lCons cI (l1 aj)))) [] func30 3 (u2 tape1) (fun a=>av8 a.1 a.2) fun a h=>anX a.1 a.2 h
def texts (a:List Str)(b:List Str):Pg Bool:=aL a (aL b (.wh (a.length+1) default (fun(c:Int×Bool)=> .br c.2 (aL a (.br (decide (c.1 < (↑a.length:Int))) (.ix c.1 a.length (.ix c.1 b.length (rl (wrp .i64 (c.1+1),a.getD c.1.toNat []==b.getD c.1.toNat [])))) (.ret (.inr c.2)))) (.ret (.inr c.2))) (0,(↑a.length:Int)==(↑b.length:Int))))
def auI (a:List Str)(b:List Str):=(texts a b).val
theorem texts_isP {a b:List Str}(h:a=b/\a.length<=67108864):IsP (texts a b) (fun r=>r=true):=by
 obtain⟨rfl,j⟩:=h;unfold texts;refine isP_as (isP_as (isP_wh (fun x=>0<=x.1/\x.1<=a.length/\x.2=true) (fun x=>(a.length - x.1).toNat) ⟨AA _,by show(0:Int)<=_;omega,by simp⟩ (by show((a.length:Int) - 0).toNat < _;omega) (fun x g=> ?_)));obtain⟨i,b⟩:=x;obtain⟨f,e,d⟩:=g;dsimp only at f e d⊢;subst d;refine isP_br (fun _=>isP_as (isP_brd (fun q=>isP_ix ah ah (isP_ix ah ah (isP_ret ?_))) fun _=>isP_ret rfl)) (fun c=>absurd c h_);have w:wrp .i64 (i+1)=i+1:=wrp_in (k:= .i64) oC;exact⟨⟨by show 0<=wrp .i64 (i+1);omega,by show wrp .i64 (i+1)<=_;omega,by simp⟩,by show((a.length:Int) - wrp .i64 (i+1)).toNat < ((a.length:Int) - i).toNat;omega⟩
def tpS (t:Tape):Prop:=t.In.length<=67108864/\t.Out.length<=67108864
theorem ar1 (a:List Str)(b:List Str)(h:a=b/\a.length<=67108864):Is (texts a b):=
 (texts_isP h).is
def ayF:Ent Z:=E1 [] [jS 3 (aT (fun b=>[s0 6, s0 5]) (lCons cI (l1 aj)))] (aCons (aLf aV) (a1 (aLf aV))) (R1 aj) [] func67 1 (u2 texts) (fun a=>a.1=a.2/\a.1.length<=67108864) fun a h=>ar1 a.1 a.2 h
def Ak (a:Tape)(b:Tape):Pg Bool:=.br (a.Method==b.Method) (.br (a.Status.Code==b.Status.Code && (a.Status.Text==b.Status.Text && true)) (.ob (a.In=b.In/\a.In.length<=67108864) (.br (auI a.In b.In) (.ob (a.Out=b.Out/\a.Out.length<=67108864) (.ret (auI a.Out b.Out))) (.ret false))) (.ret false)) (.ret false)
def amd (a:Tape)(b:Tape):=(Ak a b).val
theorem FW {a b:Tape}(h:a=b/\tpS a):IsP (Ak a b) (fun r=>r=true):=by
 obtain⟨rfl,e,d⟩:=h;unfold Ak;exact isP_beq (fun _=>isP_br (fun _=>isP_ob ⟨rfl,e⟩ (isP_br (fun _=>isP_ob ⟨rfl,d⟩ (isP_ret (texts_isP ⟨rfl,d⟩).2)) (fun c=>absurd (c.symm.trans (texts_isP ⟨rfl,e⟩).2) h_))) (fun c=>absurd c oG)) (fun c=>absurd rfl c)
theorem aaJ (a:Tape)(b:Tape)(h:a=b/\tpS a):Is (Ak a b):=
 (FW h).is
def ae5:Ent Z:=E1 [ayF] [] (aCons (aAgg rO) (a1 (aAgg rO))) (R1 aj) [] func31 1 (u2 Ak) (fun a=>a.1=a.2/\tpS a.1) fun a h=>aaJ a.1 a.2 h
def same (a:List Tape)(b:List Tape):Pg Bool:=aL a (aL b (.wh (a.length+1) default (fun(c:Int×Bool)=> .br c.2 (aL a (.br (decide (c.1 < (↑a.length:Int))) (.ix c.1 a.length (.ix c.1 b.length (.ob (a.getD c.1.toNat jO=b.getD c.1.toNat jO/\tpS (a.getD c.1.toNat jO)) (rl (wrp .i64 (c.1+1),amd (a.getD c.1.toNat jO) (b.getD c.1.toNat jO)))))) (.ret (.inr c.2)))) (.ret (.inr c.2))) (0,(↑a.length:Int)==(↑b.length:Int))))
def aFo (a:List Tape)(b:List Tape):=(same a b).val
def tpL (a b:List Tape):Prop:=a=b/\a.length<=67108864/\∀t∈a,tpS t
theorem same_isP {a b:List Tape}(h:tpL a b):IsP (same a b) (fun r=>r=true):=by
 obtain⟨rfl,m,l⟩:=h;unfold same;refine isP_as (isP_as (isP_wh (fun x=>0<=x.1/\x.1<=a.length/\x.2=true) (fun x=>(a.length - x.1).toNat) ⟨AA _,by show(0:Int)<=_;omega,by simp⟩ (by show((a.length:Int) - 0).toNat < _;omega) (fun x j=> ?_)));obtain⟨i,b⟩:=x;obtain⟨g,f,d⟩:=j;dsimp only at g f d⊢;subst d;refine isP_br (fun _=>isP_as (isP_brd (fun q=> ?_) fun _=>isP_ret rfl)) (fun c=>absurd c h_);have e:a.getD i.toNat jO=a.getD i.toNat jO/\tpS (a.getD i.toNat jO):=⟨rfl,l _ (getD_mem ah)⟩;have w:wrp .i64 (i+1)=i+1:=wrp_in (k:= .i64) oC;exact isP_ix ah ah (isP_ix ah ah (isP_ob e (isP_ret ⟨⟨by show 0<=wrp .i64 (i+1);omega,by show wrp .i64 (i+1)<=_;omega,(FW e).2⟩,by show((a.length:Int) - wrp .i64 (i+1)).toNat < ((a.length:Int) - i).toNat;omega⟩)))
theorem azf (a:List Tape)(b:List Tape)(h:tpL a b):Is (same a b):=
 (same_isP h).is
def aD4:Ent Z:=E1 [ae5] [jS 3 (aT (fun b=>[s0 6, s0 5]) (lCons cI (l1 aj)))] (aCons (aLf cd_LTape) (a1 (aLf cd_LTape))) (R1 aj) [] func12 1 (u2 same) (fun a=>tpL a.1 a.2) fun a h=>azf a.1 a.2 h
def tread (b:Str):Pg (List Tape×Int):=.ob (okSp b) (.lt (fsplitP b) fun d=> .br (d.2.2 !=0) (.ret ([],d.2.2)) (.br (d.2.1 !=[]) (.ret ([],18)) (.cut (fun(e:List Tape)=> .br (decide (1024 < (↑e.length:Int))) (.ret ([],3)) (.ret (e,0))) (.wh (b.length+1) default (fun(a:List Frame×List Tape)=> .br (decide (0 < (↑a.1.length:Int))) (.lt (wrp .i64 ((↑a.2.length:Int)+1)) fun f=> .ob (av8 a.1 f) (.lt (tape1P a.1 f) fun c=> .br (!c.2.2) (.ret (.inr (.inr ([],11)))) (.ob (bM (a.2.length+1) 88) (.ob (0<=c.2.1/\c.2.1<=(↑a.1.length:Int)/\(↑a.1.length:Int)<=(↑a.1.length:Int)) (rl (List.drop c.2.1.toNat (List.take a.1.length a.1),a.2++[c.1])))))) (.ret (.inr (.inl a.2)))) (d.1,[])))))
def treadP (a:Str):=(tread a).val
def okRL (s:Schema)(l:List Tape):Prop:=l.length<=20/\(∀t∈l,wtOk s t)/\∀f∈frAll s 0 l,goodF f
theorem tread_isP {s:Schema}{l:List Tape}(h:okRL s l):IsP (tread (wrF (frAll s 0 l))) (fun r=>r=(l,0)):=by
 obtain⟨B,g,v⟩:=h;have E:=(frAll_len (k:=0) g).1;have d:okFs (frAll s 0 l):=⟨by omega,v⟩;have o:fsplitP (wrF (frAll s 0 l))=(frAll s 0 l,[],0):=(fsplit_isP d).2;have w:=(wrF_len v).2;unfold tread;refine isP_ob ⟨_,d,rfl⟩ (isP_lt fun H f=> ?_);have f:=f.trans o;subst f;refine isP_bne (fun c=>absurd rfl c) fun _=>isP_bne (fun c=>absurd rfl c) fun _=>isP_cut (fun y=>y=l) (isP_wh (fun x=>∃a b,l=a++b/\x=(frAll s a.length b,a)) (fun x=>x.1.length) ⟨[],l,rfl,rfl⟩ (Nat.lt_succ_of_le w) (fun x C=> ?_)) (fun y p=>isP_brd (fun c=>absurd c (by rw[p];omega)) fun _=>isP_ret (by rw[p]));obtain⟨a,b,rfl,rfl⟩:=C;cases b with
 | nil=>exact isP_brd (fun c=>absurd c (Qds 0)) fun _=>isP_ret (Qbx a).symm
 | cons t b=>
  have n:=g t oG;have F:=(frAll_len (s:=s) (l:=b) (k:=a.length+1) fun u z=>g u (by simp[z])).1;rw[kG,uU]at B;have I:=frT_len s t ((a.length+1:Nat):Int);have D:(frAll s a.length (t::b)).length=(frT s t ((a.length+1:Nat):Int)).length+(frAll s (a.length+1) b).length:=kG;refine isP_brd (fun _=>isP_lt fun A j=> ?_) (fun c=>absurd (show(0:Int) < ((frAll s a.length (t::b)).length:Int) by omega) c);have j:A=((a.length+1:Nat):Int):=j.trans (wrp_next (k:=a.length) ah);subst j;have e:1<=((a.length+1:Nat):Int)/\((a.length+1:Nat):Int)<=2147483647:=⟨by omega,by omega⟩;have q:tape1P (frAll s a.length (t::b)) _=_:=(tape1_isP n e (r:=frAll s (a.length+1) b) ah).2;refine isP_ob ⟨s,t,_,n,e,by omega,rfl⟩ (isP_lt fun G i=> ?_);have i:=i.trans q;subst i;have m:List.drop ((frT s t ((a.length+1:Nat):Int)).length:Int).toNat (List.take (frAll s a.length (t::b)).length (frAll s a.length (t::b)))=frAll s (a.length+1) b:=by
   rw[yS,u_];exact Qcr
  dsimp only;refine isP_br (fun c=>absurd c (show ¬(!true)=true by decide)) fun _=>isP_ob (room_of ah ah) (isP_ob ⟨by omega,by omega,by omega⟩ (isP_ret ⟨⟨a++[t],b,by simp,Prod.ext ?_ rfl⟩,?_⟩))
  ·rw[kG];exact m
  ·show(List.drop _ _).length < _
   rw[m];omega
def okRd1 (d:Str):Prop:=∃s l,okRL s l/\d=wrF (frAll s 0 l)
theorem tread_is0 {d:Str}(h:okRd1 d):Is (tread d):=by
 obtain⟨s,l,h,rfl⟩:=h;exact(tread_isP h).is
def wrJP (s:Schema)(l:List Tape):Str×Int:=bif l.isEmpty then rpWr0P s else rpWriteP s l
def e_wrJ:Ent Z:=⟨10,ctN (args (aCons (aAgg cd_Schema) (a1 (aLf cd_LTape)))) (shr [s0 0, s0 1] (lCons cStr (l1 cI))) 2 [] (fun a=>some (wrQ a.1 a.2)) (fun a=>wrJP a.1 a.2),by
  have c:CtOk Z.P Z.S 10 (ctN (args (aCons (aAgg cd_Schema) (a1 (aLf cd_LTape)))) (shr [s0 0, s0 1] (lCons cStr (l1 cI))) 2 [] (fun a=>some (a.2.isEmpty=true/\wrQ a.1 a.2)) (fun a=>rpWr0P a.1)):=ctFam_ok (fun _=>e_rpWr0.ok) _ _ (fun a h=>⟨0,List.isEmpty_iff.1 h.1,rfl⟩);have b:CtOk Z.P Z.S 10 (ctN (args (aCons (aAgg cd_Schema) (a1 (aLf cd_LTape)))) (shr [s0 0, s0 1] (lCons cStr (l1 cI))) 2 [] (fun a=>some (a.2.isEmpty=false/\wrQ a.1 a.2)) (fun a=>rpWriteP a.1 a.2)):=ctFam_ok (fun _=>e_rpWrite.ok) _ _ (fun a h=>⟨0,⟨h.2,fun e=>absurd h.1 (by rw[e];decide)⟩,rfl⟩);exact ctN_if c b⟩
theorem wrJ_post {s:Schema}{l:List Tape}(h:wrQ s l):wrR s l (wrJP s l):=by
 cases l with
 | nil=>exact .inl ⟨rfl,fun f a=>by cases a⟩
 | cons t l=>exact(rpWrite_isP h oG).2
theorem aqh (a:Str)(h:okRd1 a):Is (tread a):=
 tread_is0 h
def axo:Ent Z:=E1 [aoP,awI] [jS 7 (aT (fun b=>[s0 4, .slot 7 false [some 47]]) (lCons nP (l1 cd_LTape))),jS 100013 (aT (fun b=>[.slot 7 false [some 47]]) (l1 cd_LTape))] (a1 (aLf cStr)) (shr [s0 0, s0 1] (lCons cd_LTape (l1 cI))) [] func11 2 tread (fun a=>okRd1 a) fun a h=>aqh a h
noncomputable def awake:Pg Bool:=.ob (anP (Schema.mk [aH.mk [77] [aB.mk 1 [120] 3 0 (oN.mk 4 []) [] false (AVal.mk 0 0 [] [] [] [] []) []] [] [] []] [] [bK.mk [83] [bP.mk [71,101,116] [77] [77] 1 []] []]) (Handler.mk [83,47,71,101,116] 1 0 0) [[8,5]]) (.lt (pV (Schema.mk [aH.mk [77] [aB.mk 1 [120] 3 0 (oN.mk 4 []) [] false (AVal.mk 0 0 [] [] [] [] []) []] [] [] []] [] [bK.mk [83] [bP.mk [71,101,116] [77] [77] 1 []] []]) (Handler.mk [83,47,71,101,116] 1 0 0) [[8,5]]) fun a=> .ob (wrQ (Schema.mk [aH.mk [77] [aB.mk 1 [120] 3 0 (oN.mk 4 []) [] false (AVal.mk 0 0 [] [] [] [] []) []] [] [] []] [] [bK.mk [83] [bP.mk [71,101,116] [77] [77] 1 []] []]) [a.1]) (.ob (okS (Schema.mk [aH.mk [77] [aB.mk 1 [120] 3 0 (oN.mk 4 []) [] false (AVal.mk 0 0 [] [] [] [] []) []] [] [] []] [] [bK.mk [83] [bP.mk [71,101,116] [77] [77] 1 []] []])/\ okN (Schema.mk [aH.mk [77] [aB.mk 1 [120] 3 0 (oN.mk 4 []) [] false (AVal.mk 0 0 [] [] [] [] []) []] [] [] []] [] [bK.mk [83] [bP.mk [71,101,116] [77] [77] 1 []] []])/\ (1<=1048576/\ ∀(x:Handler), x∈[Handler.mk [83,47,71,101,116] 1 0 0]-> List.length x.Method<=1048576)/\ (∀(t:Tape),t∈[a.1]->tapeOk t)/\1<=1048576) (.ret true)))
def recT (s:Schema)(x:Handler)(t:Tape):Prop:=(XI s t/\xR s t=0/\wtOk s t)/\tapeOk t/\ckd s t/\svAnswerP s x t.In=(t.Out,t.Status)/\t.Method=x.Method/\tpS t
theorem rec_ok {s:Schema}{x:Handler}{l:List Str}(h:anP s x l)(j:l.length<=30/\∀d∈l,d.length<=3000)(r:(pV s x l).2=0):recT s x (pV s x l).1:=by
 obtain⟨e,a,p⟩:=(Iq h).2 r;have o:=DD h;have m:=DJ s x l;have w:=svAnswer_len s x l;obtain⟨q,v,c,n⟩:=h;have e:(pV s x l).1=Tape.mk x.Method l (svAnswerP s x l).1 (svAnswerP s x l).2:=e;have a:xR s (pV s x l).1=0:=a;rw[e]at a⊢;have i:XI s (Tape.mk x.Method l (svAnswerP s x l).1 (svAnswerP s x l).2):=⟨q,c,by show(svAnswerP s x l).2.Text.length<=_;rw[m];decide,by show l.length<=_;omega,by show(svAnswerP s x l).1.length<=_;omega⟩;have f:=(LC i).2 a;obtain⟨u,g,k,t,y⟩:=id f;exact⟨⟨i,a,c,k,g,afl p g,by show l.length<=1000;omega,by show(svAnswerP s x l).1.length<=2000;omega,fun d b=>by have:=j.2 d b;omega,fun d b=>by have:=o.1 d b;omega⟩,⟨c,n,by show l.length<=_;omega⟩,f,rfl,rfl,by show l.length<=_;omega,by show(svAnswerP s x l).1.length<=_;omega⟩
theorem aFs {s:Schema}{x:Handler}{l:List Str}(a:anP s x l)(f:l.length<=30/\∀d∈l,d.length<=3000)(h:(pV s x l).2=0):Is (.ob (anP s x l) (.lt (pV s x l) fun(b:Tape×Int)=> .ob (wrQ s [b.1]) (.ob (okS s/\okN s/\(1<=1048576/\∀y:Handler,y∈[x]->y.Method.length<=1048576)/\(∀t:Tape,t∈[b.1]->tapeOk t)/\1<=1048576) (.ret true))):Pg Bool):=by
 have k:=rec_ok a f h;refine az a (bg fun b e=> ?_);rw[<-e]at k;exact az ⟨show 1<=20 by decide,fun t c=>by rw[Be.1 c];exact k.1⟩ (az ⟨a.1,a.2.1,⟨by decide,fun y g=>by rw[Be.1 g];exact a.2.2.1⟩,fun t c=>by rw[Be.1 c];exact k.2.1,by decide⟩ is_ret)
theorem asN:Is (awake):=
 aFs (by simp[anP,okS,okM,okE,okSv,okN,inQ,smL]) oG dE
noncomputable def avk:Ent Z:=E2 [TG,ajk,e_wrJ] [] a0 (R1 aj) [] func6 1 (fun a=>awake) (fun a=>none) (fun a=>true) fun a h=>⟨asN,dE⟩
def lwFew (s:Schema):Pg Bool:=.br (decide ((↑s.Messages.length:Int)<=8)) (.br (decide ((↑s.Enums.length:Int)<=8)) (.ret (decide ((↑s.Services.length:Int)<=8))) (.ret false)) (.ret false)
def lwFewP (s:Schema):=(lwFew s).val
theorem ath (s:Schema):Is (lwFew s):=
 aQ (fun _=>aQ iR iR) iR
def ayN:Ent Z:=E0 [] [] (a1 (aAgg cd_Schema)) (R1 aj) [] func4 1 lwFew fun a=>ath a
def H_ (l:List Str):Pg Bool:=.wh (l.length+1) default (fun(a:Int×Bool)=> .br a.2 (aL l (.br (decide (a.1 < (↑l.length:Int))) (.ix a.1 l.length (rl (wrp .i64 (a.1+1),decide ((↑(List.length (l.getD a.1.toNat [])):Int)<=3000)))) (.ret (.inr a.2)))) (.ret (.inr a.2))) (0,decide ((↑l.length:Int)<=30))
def lwShortP (l:List Str):=(H_ l).val
theorem lwShort_isP (l:List Str):IsP (H_ l) (fun r=>r=true->l.length<=30/\∀x∈l,x.length<=3000):=
 by
 unfold H_;refine isP_wh (fun x=>0<=x.1/\x.1<=l.length/\(x.2=true->l.length<=30/\∀j:Nat,(j:Int) < x.1->(l.getD j []).length<=3000)) (fun x=>((l.length:Int) - x.1).toNat) ⟨by omega,by omega,fun e=>⟨by have:=xe e;omega,fun j a=>absurd a ah⟩⟩ (by simp only[Int.sub_zero,u_];omega) fun x g=>isP_br (fun e=>isP_as (isP_brd (fun h=>isP_ix ah ah (isP_ret ?_)) (fun h=>isP_ret ?_))) (fun e=>isP_ret fun d=>absurd d (by rw[e];decide))
 ·obtain⟨p,o,m⟩:=g;obtain⟨f,c⟩:=m e;have b:wrp .i64 (x.1+1)=x.1+1:=wrp_in (k:= .i64) oC;refine⟨⟨by show 0<=wrp .i64 (x.1+1);rw[b];omega,by show wrp .i64 (x.1+1)<=_;rw[b];omega,fun d=>⟨f,fun j a=> ?_⟩⟩,by show((l.length:Int) - wrp .i64 (x.1+1)).toNat < _;rw[b];omega⟩;have a:(j:Int) < wrp .i64 (x.1+1):=a;rw[b]at a;by_cases i:(j:Int) < x.1
  ·exact c j i
  ·have k:=xe (show decide (((l.getD x.1.toNat []).length:Int)<=3000)=true from d);rw[show x.1.toNat=j by omega]at k;omega
 ·intro _;obtain⟨f,c⟩:=g.2.2 e;refine⟨f,fun y n=> ?_⟩;obtain⟨j,a,rfl⟩:=List.mem_iff_getElem.1 n;have k:=c j ah;rwa [List.getD,Qa4 a]at k
theorem ae9 (l:List Str):Is (H_ l):=(lwShort_isP l).1
def alr:Ent Z:=E0 [] [jS 3 (aT (fun b=>[s0 4, s0 3]) (lCons cI (l1 aj)))] (a1 (aLf aV)) (R1 aj) [] func7 1 H_ fun a=>ae9 a
noncomputable def law (s:Schema)(a:List Handler)(cs:List law56_Call):Pg Bool:=.br (!lwFewP s) (.ret true) (.br (decide (8 < (↑a.length:Int))) (.ret true) (.br (decide (20 < (↑cs.length:Int))) (.ret true) (.ob (okNew s a []) (.br ((aw2 [97] s a [] 1).2 !=0) (.ret true) (.cut (fun(d:List Tape)=> .ob (okS s/\ okN s/\ (a.length<=1048576/\∀(x:Handler),x∈a->List.length x.Method<=1048576)/\ (∀(t:Tape),t∈d->tapeOk t)/\d.length<=1048576) (.br ((↑(rpRunP s s a d).length:Int) !=0) (.ret false) (.ob (wrQ s d) (.lt (wrJP s d) fun g=> .br (g.2 !=0) (.br (g.2==3) (.ret true) (.ret false)) (.ob (okRd1 g.1) (.lt (treadP g.1) fun f=> .br (f.2==0) (.ob (tpL d f.1) (.br (aFo d f.1) (.ob (okS s/\ okN s/\ (a.length<=1048576/\∀(x:Handler),x∈a->List.length x.Method<=1048576)/\ (∀(t:Tape),t∈f.1->tapeOk t)/\f.1.length<=1048576) (.br ((↑(rpRunP s s a f.1).length:Int)==0) (.ret true) (.ret false))) (.ret false))) (.ret false))))))) (.each true lF cs d_law56_Call (fun e b (c:List Tape)=> .ix e cs.length (.br (!lwShortP b.In) (.ret (.inr (.inr true))) (.ix e cs.length (.br (decide (b.H < 0)) (rl c) (.ix e cs.length (aL a (.br (decide ((↑a.length:Int)<=b.H)) (rl c) (.ix e cs.length (.ix b.H a.length (.ix e cs.length (.ob (anP s (a.getD b.H.toNat d_Handler) b.In) (.lt (pV s (a.getD b.H.toNat d_Handler) b.In) fun h=> .br (h.2==0) (.ob (bM (c.length+1) 88) (rl (c++[h.1]))) (rl c))))))))))))) (fun e (c:List Tape)=> rl c) []))))))
def okB (s:Schema):Prop:=(∀m∈s.Messages,okM m)/\(∀e∈s.Enums,okE e)/\∀v∈s.Services,okSv v
def okP (s:Schema)(a:List Handler)(cs:List law56_Call):Prop:=okB s/\okN s/\∀x∈a,x.Method.length<=1048576
theorem few_S {s:Schema}(h:okB s)(f:lwFewP s=true):okS s:=by
 have k:VP (lwFew s) (fun r=>r=true->s.Messages.length<=8/\s.Enums.length<=8/\s.Services.length<=8):=by
  unfold lwFew;have d:∀{p:Prop},(false=true->p):=fun e=>by cases e
  refine vp_br (fun b=>vp_br (fun a=>vp_ret fun c=> ?_) fun _=>vp_ret d) fun _=>vp_ret d;have b:=xe b;have a:=xe a;have c:=xe c;omega
 obtain⟨g,i,j⟩:=k f;exact⟨by omega,by omega,by omega,h.1,h.2.1,h.2.2⟩
theorem smL_le {A:Type}{f:A->Nat}{c:Nat}{l:List A}(h:∀x∈l,f x<=c):smL f l<=c*l.length:=by
 induction l with
 | nil=>exact qR _
 | cons a l b=>
  have g:=h a oG;have e:=b fun x d=>h x (by simp[d])
  simp only[smL,uU,Nat.mul_add,Qdk];omega
theorem short_Q {l:List Str}(h:l.length<=30/\∀d∈l,d.length<=3000):inQ l:=by
 obtain⟨c,a⟩:=h;have q:smL (fun d:Str=>2+8*d.length) l<=24002*l.length:=smL_le fun d b=>by have:=a d b;omega
 unfold inQ;omega
theorem law_isP (s:Schema)(a:List Handler)(cs:List law56_Call)(h:okP s a cs):IsP (law s a cs) (fun r=>r=true):=by
 obtain⟨K,C,n⟩:=h;unfold law;refine isP_br (fun _=>isP_ret rfl) fun f1=>isP_brd (fun _=>isP_ret rfl) fun f2=>isP_brd (fun _=>isP_ret rfl) fun f3=> ?_;have p:okS s:=few_S K (by simpa using f1);have E:okNew s a []:=⟨p,n,rfl,by omega⟩;refine isP_ob E (isP_bne (fun _=>isP_ret rfl) fun I=> ?_);have G:distH a:=(r52New_isP [97] s a [] 1 E).2 I;refine isP_cut (fun(y:List Tape)=>y.length<=20/\∀t∈y,∃i,i < a.length/\recT s (a.getD i d_Handler) t) (isP_each (fun k (y:List Tape)=>y.length<=k/\∀t∈y,∃i,i < a.length/\recT s (a.getD i d_Handler) t) ⟨lH _,fun t b=>by cases b⟩ ah (fun k y T f=> ?_) (fun y f=>isP_ret ⟨by have:=f.1;omega,f.2⟩)) (fun d L=> ?_)
 ·have j:y.length<=k+1/\∀t∈y,∃i,i < a.length/\recT s (a.getD i d_Handler) t:=⟨by have:=f.1;omega,f.2⟩;generalize cs.getD k d_law56_Call=c at*;refine isP_ix ah ah (isP_br (fun _=>isP_ret rfl) fun J=>isP_ix ah ah (isP_brd (fun _=>isP_ret j) fun Q=>isP_ix ah ah (isP_as (isP_brd (fun _=>isP_ret j) fun P=>isP_ix ah ah (isP_ix ah ah (isP_ix ah ah ?_))))));have m:=(lwShort_isP c.In).2 (show lwShortP c.In=true by simpa using J);have B:anP s (a.getD c.H.toNat d_Handler) c.In:=⟨p,C,n _ (getD_mem ah),short_Q m⟩;refine isP_ob B (isP_lt fun S D=>isP_beq (fun z=>isP_ob (room_of ah ah) (isP_ret ⟨by show(y++[_]).length<=_;rw[kG];exact Qdd f.1,fun t b=> ?_⟩)) fun _=>isP_ret j);rw[D]at z;rcases xN.1 b with q | q
  ·exact f.2 t q
  ·rw[Be.1 q,D];exact⟨c.H.toNat,by omega,rec_ok B m z⟩
 ·obtain⟨w,l⟩:=L;have F:∀t∈d,tapeOk t:=fun t b=>by obtain⟨i,_,h⟩:=l t b;exact h.2.1
  have o:=And.intro p (And.intro C (And.intro (And.intro (show a.length<=1048576 by omega) n) (And.intro F (show d.length<=1048576 by omega))));have g:rpRunP s s a d=[]:=(rpRun_isP s s a d o).2.trans (runL_none d 0 fun t b=>by obtain⟨i,H,h⟩:=l t b;exact recd_one G ⟨h.2.2.1,i,H,h.2.2.2.2.1,h.2.2.2.1⟩);refine isP_ob o (isP_bne (fun c=>absurd (by rw[g];rfl) c) fun _=> ?_);have v:wrQ s d:=⟨w,fun t b=>by obtain⟨i,_,h⟩:=l t b;exact h.1⟩;have A:=wrJ_post v;refine isP_ob v (isP_lt fun R M=> ?_);rw[<-M]at A;rcases A with⟨e,O⟩ | e
  ·subst e;have rl:okRL s d:=⟨w,fun t b=>(v.2 t b).2.2,O⟩;have N:treadP (wrF (frAll s 0 d))=(d,0):=(tread_isP rl).2;have x:tpL d d:=⟨rfl,by omega,fun t b=>by obtain⟨i,_,h⟩:=l t b;exact h.2.2.2.2.2⟩;refine isP_bne (fun c=>absurd rfl c) fun _=>isP_ob ⟨s,d,rl,rfl⟩ (isP_lt fun U u=> ?_);have u:=u.trans N;subst u;exact isP_beq (fun _=>isP_ob x (isP_br (fun _=>isP_ob o (isP_beq (fun _=>isP_ret rfl) fun c=>absurd (by rw[g];rfl) c)) fun c=>absurd (c.symm.trans (same_isP x).2) h_)) fun c=>absurd rfl c
  ·exact isP_bne (fun _=>isP_beq (fun _=>isP_ret rfl) fun c=>absurd e c) fun c=>absurd (c.symm.trans e) h_
theorem aEt (s:Schema)(a:List Handler)(cs:List law56_Call)(h:okP s a cs):Is (law s a cs):=
 (law_isP s a cs h).1
noncomputable def aId:Ent Z:=E2 [ayN,as8,avk,alr,TG,ajk,e_wrJ,axo,aD4] [jS 8 (aT (fun b=>[s0 10, .slot 9 false [some 47]]) (lCons cI (l1 cd_LTape))),jS 100016 (aT (fun b=>[.slot 9 false [some 47]]) (l1 cd_LTape))] (aCons (aAgg cd_Schema) (aCons (aLf jT) (a1 (aLf qC)))) (R1 aj) [] func3 1 (u3 law) (fun a=>some (okP a.1 a.2.1 a.2.2)) (fun a=>true) fun a h=>⟨aEt a.1 a.2.1 a.2.2 h,(fun s c cs h=>(law_isP s c cs h).2) a.1 a.2.1 a.2.2 h⟩
end
end Go.Proofs.YtjojefbphdmnjaaGreatDoor
