/- Frames: heads, read; frames, written. -/
import Derived.Test.YtenjnekcoapajaaGreatDoorP6
import Derived.Test.YtenjnekcoapajaaGreatDoorP5
namespace Go.Proofs.YtenjnekcoapajaaGreatDoor
noncomputable section
open Go.RowKit Go.Vc
open Tryz
set_option linter.unusedVariables false
set_option linter.unusedSimpArgs false
set_option maxRecDepth 100000
def hread (c:Str):Pg (Head×Int):=.ob (okTx (a_.mk c 0)) (.lt (Iz (a_.mk c 0)) fun h=> .ob (okTx h.2) (.lt (Jn (Jn (Iz h.2).2).2) fun d=> .cut (fun(l:a_)=> .lt (Iz h.2) fun k=> .cut (fun(a:a_×Head)=> .br (a.1.errno !=0) (.ret (Head.mk [] [] 0 [],a.1.errno)) (.br (a.1.s !=[]) (.ret (Head.mk [] [] 0 [],18)) (.lt (Jn k.2) fun j=> .br (decide (1099511627776 < j.1)) (.ret (Head.mk [] [] 0 [],6)) (.lt (aQ .i64 j.1) fun f=> .ob (okHead (Head.mk a.2.bz a.2.Method f a.2.jO)) (.lt (Wv (Head.mk a.2.bz a.2.Method f a.2.jO)) fun g=> .br (g.2 !=0) (.ret (Head.mk [] [] 0 [],g.2)) (.br (g.1 !=c) (.ret (Head.mk [] [] 0 [],5)) (.ret (Head.mk a.2.bz a.2.Method f a.2.jO,0)))))))) (.wh (20) default (fun(b:Int×a_×Head)=> .br (decide (b.1 < d.1)) (.br (b.2.1.errno==0) (.ob (okTx b.2.1) (.lt (Iz b.2.1) fun e=> .ob (okTx e.2) (.ob (bG (b.2.2.jO.length+1) 32) (.lt (Iz e.2) fun i=> rl (aQ .u64 (b.1+1),i.2, Head.mk b.2.2.bz b.2.2.Method b.2.2.oD (b.2.2.jO++[sH.mk e.1 i.1])))))) (.ret (.inr (.inl b.2)))) (.ret (.inr (.inl b.2)))) (0,l,Head.mk h.1 k.1 0 []))) (.br (d.2.errno==0) (.br (decide (16 < d.1)) (rl (a_.mk d.2.s 3)) (rl d.2)) (rl d.2))))
def Oq (a:Str):=(hread a).val
def aoY (d a b:Str):Prop:=d=headB a b/\a.length<=1048576/\b.length<=1048576/\uw (Head.mk a b 0 [])=0
def okHB (d:Str):Prop:=∃p q,aoY d p q
theorem Gi {d a b:Str}(h:aoY d a b):gU (hread d) (fun r=>r=(Head.mk a b 0 [],0)):=by
 obtain⟨rfl,i,n,C⟩:=h;have L:=qV (s:=b) aj;have G:=iI _ QE;have z:azc (a_.mk (headB a b) 0) a (jI b++(cZ 0++cZ 0)):=⟨rfl,i,by grind⟩;have u:azc (a_.mk (jI b++(cZ 0++cZ 0)) 0) b (cZ 0++cZ 0):=⟨rfl,n,by grind⟩;have B:Iz _=_:=(MW z).2;have k:Iz _=_:=(MW u).2;have m:Jn (a_.mk (cZ 0++cZ 0) 0)=(0,a_.mk (cZ 0) 0):=agd QE _;have A:Jn (a_.mk (cZ 0) 0)=(0,a_.mk [] 0):=by rfl
 unfold hread;refine ah ⟨_,_,z⟩ (au fun F t=> ?_);rw[B]at t;subst t;refine ah ⟨_,_,u⟩ (au fun I w=> ?_);simp only[k,m,A]at w;subst w;refine bg (fun y=>y=a_.mk [] 0) (bI (fun _=>aU (fun c=>absurd c dH) (fun _=>af rfl)) (fun c=>absurd rfl c)) (fun E v=> ?_);subst v;refine au fun M o=> ?_;simp only[k]at o;subst o;refine bg (fun y=>y=(a_.mk [] 0,Head.mk a b 0 [])) (kQ (fun x=>x=(0,a_.mk [] 0,Head.mk a b 0 [])) (fun _=>0) rfl dH (fun x J=> ?_)) (fun H q=> ?_)
 ·grind [aU,af]
 ·subst q;dsimp only;refine bu (fun c=>absurd rfl c) fun _=>bu (fun c=>absurd rfl c) fun _=>au fun K g=> ?_;rw[m]at g;subst g;refine aU (fun c=>absurd c dH) fun _=>au fun l e=> ?_;have e:l=0:=e.trans dH;subst e;have j:okHead (Head.mk a b 0 []):=⟨i,n,rfl,rfl⟩;have p:Wv (Head.mk a b 0 [])=_:=(Oi _ j).2;rw[C]at p;refine ah j (au fun D f=> ?_);rw[p]at f;subst f;exact bu (fun c=>absurd rfl c) fun _=>bu (fun c=>absurd rfl c) fun _=>af rfl
def aHc (d:Str):Prop:=∃a,kz a=0/\d=oV a
def okFr (f:Frame):Prop:=f.Data.length<=1048576/\(f.Kind=1->okHB f.Data)/\(f.Kind=4->aHc f.Data)
theorem asx (a:Str)(h:okHB a):Is (hread a):=
 by obtain⟨_,_,h⟩:=h;exact(Gi h).is
def am4:bi Z:=E1 [ak3,aAp,atl] [jS 7 (bD (fun b=>[s0 8, .cells (pid (b 13)) [none,none], .cells (pid (b 5)) [none,none,none,some 155]]) (aJ (cInt .u64) (aJ cd_frame_taker (l1 cd_Head)))),jS 100006 (bD (fun b=>[.cells (pid (b 13)) [none,none]]) al2),jS 100010 (bD (fun b=>[.cells (pid (b 13)) [none,none], .cells (pid (b 5)) (nn 4)]) (aJ cd_frame_taker (l1 cd_Head)))] hh1 aGF [] func54 2 hread (fun a=>okHB a) fun a h=>asx a h
def Q7 (shape:Int):Pg Bool:=.br (decide (1<=shape)) (.ret (decide (shape<=4))) (.ret false)
def Vk (shape:Int):=(Q7 shape).val
def anF:bi Z:=E0 [] [] hh5 hh2 [] func66 1 Q7
def RF (shape:Int):Pg (Int×Int×Int×Int):=.br (!Vk shape) (.ret (0,0,0,0)) (.lt (aaf shape) fun b=> .cut (fun(a:Int×Int)=> .br b.2 (.ret (a.1,a.2,0,(-1))) (.ret (a.1,a.2,1,1))) (.br b.1 (rl (0,(-1))) (rl (1,1))))
def JO (shape:Int):=(RF shape).val
def YH:bi Z:=E0 [anF,aj2] [jS 100007 (bD (fun b=>[s0 8, s0 9]) agH)] hh5 aHa [] func30 4 RF
def fshape (n:Int):Pg Bool:=.ret ((JO n).2.1 !=0)
def JC (n:Int):=(fshape n).val
def at7:bi Z:=E0 [YH] [] hh5 hh2 [] func122 1 fshape
def streamed (f:Frame):Pg Bool:=.cut (fun(a:Bool)=> .br a (.ret (f.Stream==0)) (.br (f.Kind==6) (.ret (decide (0<=f.Stream))) (.ret (decide (1<=f.Stream))))) (.br (f.Kind==7) (rl (f.Kind==7)) (.br (f.Kind==8) (rl (f.Kind==8)) (rl (f.Kind==9))))
def wU (f:Frame):=(streamed f).val
def aiZ:bi Z:=E0 [] [jS 100005 (bD (fun b=>Ap) oK)] TY hh2 [] func72 1 streamed
def numbered (f:Frame):Pg Bool:=.br (f.Kind==1) (.ret (JC f.Num)) (.br (f.Kind==5) (.br (decide (1<=f.Num)) (.ret (decide (f.Num<=13))) (.ret false)) (.br (f.Kind==6) (.br (decide (1<=f.Num)) (.ret (decide (f.Num<=1048576))) (.ret false)) (.cut (fun(a:Bool)=> .br a (.br (decide (0<=f.Num)) (.ret (decide (f.Num<=4294967295))) (.ret false)) (.br (f.Kind==9) (.br (decide (0<=f.Num)) (.ret (decide (f.Num<=2147483647))) (.ret false)) (.ret (f.Num==0)))) (.br (f.Kind==7) (rl (f.Kind==7)) (rl (f.Kind==8))))))
def sQ (f:Frame):=(numbered f).val
def aje:bi Z:=E0 [at7] [jS 100011 (bD (fun b=>[s0 28]) oK)] TY hh2 [] func73 1 numbered
def filled (f:Frame):Pg Bool:=.br (f.Kind==1) (.ret true) (.br (f.Kind==2) (.ret true) (.br (f.Kind==4) (.ret true) (.ret (f.Data==[]))))
def F5 (f:Frame):=(filled f).val
def avs:bi Z:=E0 [] [] TY hh2 [] func74 1 filled
def fcheck (f:Frame):Pg Int:=.br (decide (f.Kind < 1)) (.ret 1) (.br (decide (9 < f.Kind)) (.ret 1) (.br (!wU f) (.ret 1) (.br (!sQ f) (.ret 1) (.br (!F5 f) (.ret 1) (.br (decide (16384 < (↑(List.length f.Data):Int))) (.ret 3) (.br (decide (2147483647 < f.Stream)) (.ret 3) (.br (f.Kind==1) (.ob (okHB f.Data) (.ret (Oq f.Data).2)) (.br (f.Kind==4) (.ob (List.length f.Data<=4294967296) (.ret (tq f.Data).2)) (.ret 0)))))))))
def lS (f:Frame):=(fcheck f).val
theorem aom (f:Frame)(h:okFr f):Is (fcheck f):=
 is_brd iR (fun _=>is_brd iR (fun _=>is_br iR (fun _=>is_br iR (fun _=>is_br iR (fun _=>is_brd iR (fun _=>is_brd iR (fun _=>is_beq (fun _=>is_ob ((h.2.1 qbw)) (is_ret)) (fun _=>is_beq (fun _=>is_ob aj (is_ret)) iR))))))))
def aet:bi Z:=E1 [am4,Ub,aiZ,aje,avs] [] TY jE [] func35 1 fcheck (fun a=>okFr a) fun a h=>aom a h
def fbytes (f:Frame):Pg (List UInt8):=.ob (BQ (fun(i:Nat)=>true) 1=true) (.lt (aQ .u64 f.Stream) fun e=> .ob (isU64 e) (.lt (aQ .u8 f.Kind) fun k=> .lt (cZ e) fun h=> .ob ((Jo [k]).length+List.length h<=9223372036854775807) (.lt (aQ .u64 f.Num) fun d=> .ob (isU64 d) (.lt (Jo [k]++h) fun c=> .lt (cZ d) fun g=> .ob (c.length+List.length g<=9223372036854775807) (.lt (aQ .u64 (↑(List.length f.Data):Int)) fun m=> .ob (isU64 m) (.lt (c++g) fun(l:List UInt8)=> .lt (cZ m) fun j=> .ob (l.length+List.length j<=9223372036854775807) (.lt (l++j) fun(a:List UInt8)=> .ob (a.length+List.length f.Data<=9223372036854775807) (.lt (a++f.Data) fun(b:List UInt8)=> .ob (b.length<=4294967296) (.as (List.length f.Data<=9223372036854775807) (.ret (zB b)))))))))))
def fQ (f:Frame):=(fbytes f).val
theorem ap4 (f:Frame)(h:f.Data.length<=1073741824):Is (fbytes f):=
 by
 refine is_ob (oL (fun _=>rfl) _) (is_lt fun j a=> ?_);have b:isU64 j:=by rw[a];exact Fv _
 refine is_ob b (is_lt fun q r=>is_lt fun o g=> ?_);have m:=iI j b;rw[<-g]at m;have y:(Jo [q]).length=1:=qp _;refine is_ob aj (is_lt fun e c=> ?_);have u4:isU64 e:=by rw[c];exact Fv _
 refine is_ob u4 (is_lt fun n s=>is_lt fun u k=> ?_);have p:=iI e u4;rw[<-k]at p;have z:n.length=1+o.length:=by grind
 refine is_ob aj (is_lt fun d l=> ?_);have i:isU64 d:=by rw[l];exact Fv _
 refine is_ob i (is_lt fun A w=>is_lt fun x t=> ?_);have v:=iI d i
 grind [is_as,is_lt,is_ob,is_ret]
def afW:bi Z:=E1 [aav,alD] [] TY Dp [] func36 1 fbytes (fun a=>a.Data.length<=1073741824) fun a h=>ap4 a h
def fwrite (f:Frame):Pg (List UInt8×Int):=.ob (okFr f) (.lt (lS f) fun a=> .br (a !=0) (.ret ([],a)) (.ob (List.length f.Data<=1073741824) (.ret (fQ f,0))))
def akA (f:Frame):=(fwrite f).val
theorem ao2 (f:Frame)(h:okFr f):Is (fwrite f):=
 is_ob (h) (is_lt fun b a=>is_bne iR (fun _=>is_ob (by have:=h.1;omega) (is_ret)))
def afX:bi Z:=E1 [aet,afW] [] TY ac3 [] func14 2 fwrite (fun a=>okFr a) fun a h=>ao2 a h
def fread (a:Str):Pg (Frame×Int×Int):=.br (a==[]) (.ret (Frame.mk 0 0 0 [],0,4)) (.cut (fun(b:Int×List Int)=> .ob ((0:Int)<=2/\(2:Int) < 3) (.ob (2 < b.2.length) (.br (decide (16384 < b.2.getD 2 0)) (.ret (Frame.mk 0 0 0 [],0,3)) (.ob ((0:Int)<=2/\(2:Int) < 3) (.ob (2 < b.2.length) (.lt (aQ .i64 (b.1+aQ .i64 (b.2.getD 2 0))) fun g=> .lt (aQ .i64 ((↑(List.length a):Int) - 4)) fun m=> .br (decide (m < g)) (.ret (Frame.mk 0 0 0 [],0,4)) (.lt (aQ .i64 (g+4)) fun c=> .ob ((0:Int)<=0/\0<=c/\c<=(↑(List.length a):Int)) (.ob ((List.take c.toNat a).length<=4294967296) (.br ((ain (List.take c.toNat a)).2 !=0) (.ret (Frame.mk 0 0 0 [],0,25)) (.ob ((0:Int)<=0/\(0:Int) < 3) (.ob (0 < b.2.length) (.br (decide (4294967295 < b.2.getD 0 0)) (.ret (Frame.mk 0 0 0 [],0,6)) (.ob ((0:Int)<=1/\(1:Int) < 3) (.ob (1 < b.2.length) (.br (decide (4294967295 < b.2.getD 1 0)) (.ret (Frame.mk 0 0 0 [],0,6)) (.ix 0 (List.length a) (.ob ((0:Int)<=0/\(0:Int) < 3) (.ob (0 < b.2.length) (.ob ((0:Int)<=1/\(1:Int) < 3) (.ob (1 < b.2.length) (.ob (0<=b.1/\b.1<=g/\g<=(↑(List.length a):Int)) (.lt (aQ .i64 (↑(List.getD a 0 0).toNat:Int)) fun l=> .lt (aQ .i64 (b.2.getD 0 0)) fun k=> .lt (aQ .i64 (b.2.getD 1 0)) fun j=> .lt (List.drop b.1.toNat (List.take g.toNat a)) fun d=> .ob (okFr (Frame.mk l k j d)) (.lt (lS (Frame.mk l k j d)) fun i=> .br (i==0) (.ob (d.length<=1073741824) (.ob ((0:Int)<=0/\0<=c/\c<=(↑(List.length a):Int)) (.br (fQ (Frame.mk l k j d) !=List.take c.toNat a) (.ret (Frame.mk 0 0 0 [],0,5)) (.ret (Frame.mk l k j d,c,0))))) (.br (i==4) (.ret (Frame.mk 0 0 0 [],0,5)) (.ret (Frame.mk 0 0 0 [],0,i)))))))))))))))))))))))))) (.cnt mg 0 3 (fun h (e:Int×List Int)=> .ob (0<=e.1/\e.1<=(↑(List.length a):Int)/\(↑(List.length a):Int)<=(↑(List.length a):Int)) (.lt (nI (List.drop e.1.toNat (List.take (List.length a) a))) fun f=> .br (f.2.2 !=0) (.ret (.inr (.inr (Frame.mk 0 0 0 [],0,f.2.2)))) (.ob (0<=h/\h < 3) (.ob (h.toNat < e.2.length) (rl (aQ .i64 (e.1+f.2.1),e.2.set h.toNat f.1)))))) (fun h (e:Int×List Int)=> rl e) (1,[0,0,0])))
def ahA (a:Str):=(fread a).val
def fH (f:Frame):Str:=Jo [aQ .u8 f.Kind]++(cZ f.Stream++(cZ f.Num++(cZ (f.Data.length:Int)++f.Data)))
def goodF (f:Frame):Prop:=okFr f/\lS f=0/\(0<=f.Kind/\f.Kind < 256)/\(0<=f.Stream/\f.Stream<=4294967295)/\(0<=f.Num/\f.Num<=4294967295)/\f.Data.length<=16384
theorem DW {n:Int}(h:0<=n/\n<=4294967295):isU64 n/\aQ .u64 n=n/\aQ .i64 n=n:=⟨⟨h.1,by omega⟩,bn (k:= .u64) kM,bn (k:= .i64) kM⟩
theorem FD {f:Frame}(h:goodF f):fQ f=zB (fH f):=by
 obtain⟨_,_,_,a,b,c⟩:=h;unfold fQ fbytes fH;simp only[aV,aT,dW,ay,(DW a).2.1,(DW b).2.1,wl f.Data.length aj,Yt]
theorem Vf {f:Frame}(h:goodF f):(fH f).length<=16415/\1<=(fH f).length:=by
 obtain⟨_,_,_,a,b,e⟩:=h;have l1:=iI _ (DW a).1;have c:=iI _ (DW b).1;have d:=iI _ (vX (n:=f.Data.length) aj);unfold fH
 grind [qp]
theorem TI {f:Frame}(h:goodF f):(fQ f).length=(fH f).length+4:=by rw[FD h,ZR]
theorem Jm {a b:Str}{n:Nat}(h:n=a.length):(a++b).drop n=b:=by grind
theorem agG {a b:Str}{n:Nat}(h:n=a.length):(a++b).take n=a:=by grind
def BF:List Frame->Str
 | []=>[]
 | f::l=>fQ f++BF l
theorem JY:∀a b:List Frame,BF (a++b)=BF a++BF b
 | [],_=>rfl
 | f::a,b=>by simp only[Qbn,BF,JY a b,Yt]
theorem yL:∀{l:List Frame},(∀f∈l,goodF f)->(BF l).length<=16419*l.length/\l.length<=(BF l).length
 | [],_=>⟨pJ _,pJ _⟩
 | f::l,h=>by
  have a:=h f jQ;have:=Vf a;have:=TI a;have:=yL fun g b=>h g (Qax _ b)
  simp only[BF,uX,JV];omega
theorem k8 {k:Int}(h:0<=k/\k < 256):aQ .i64 ((UInt8.ofNat (aQ .u8 k).toNat).toNat:Int)=k:=by
 have w:aQ .u8 k=k:=bn (k:= .u8) kM;have e:(UInt8.ofNat k.toNat).toNat=k.toNat:=by simp_all
 rw[w,e,bn (k:= .i64) kM];omega
theorem Y5 {f:Frame}(h:goodF f){r:Str}(hr:r.length<=70368744177664):gU (fread (fQ f++r)) (fun x=>x=(f,((fQ f).length:Int),0)):=by
 have hb:=TI h;have hH:=Vf h;have d:=ajH (x:=fH f) aj;rw[<-FD h]at d;obtain⟨I,U,Q,H,P,h3⟩:=id h;obtain⟨t,_,L⟩:=DW H;obtain⟨u2,_,R⟩:=DW P;have u3:=vX (n:=f.Data.length) aj;have l1:=iI _ t;have l2:=iI _ u2;have Z:=iI _ u3;have N:(fQ f++r).length=(fQ f).length+r.length:=uX;have b:fQ f++r=Jo [aQ .u8 f.Kind]++(cZ f.Stream++(cZ f.Num++(cZ (f.Data.length:Int)++(f.Data++(aaP (aeo (fH f)) 4++r))))):=by
  rw[FD h,IZ];unfold fH
  grind
 have eH:(fH f).length=1+(cZ f.Stream).length+(cZ f.Num).length+(cZ (f.Data.length:Int)).length+f.Data.length:=by
  unfold fH
  grind [qp]
 have w:=fun r=>ve t r
 have D:=fun r=>ve u2 r
 have z:=fun r=>ve u3 r
 generalize O:f.Data++(aaP (aeo (fH f)) 4++r)=T at b;generalize Y:cZ f.Stream=A at*;generalize hB:cZ f.Num=B at*;generalize hC:cZ (f.Data.length:Int)=C at*;have J:(fQ f++r)≠[]:=fun e=>by grind
 have d0:(fQ f++r).drop 1=A++(B++(C++T)):=by rw[b];rfl
 have d1:(fQ f++r).drop (1+A.length)=B++(C++T):=by
  grind [Jm,qp]
 have d2:(fQ f++r).drop (1+A.length+B.length)=C++T:=by
  grind [Jm,qp]
 have d3:((fQ f++r).take (1+A.length+B.length+C.length+f.Data.length)).drop (1+A.length+B.length+C.length)=f.Data:=by
  rw[List.drop_take,b,<-Yt,<-Yt,<-Yt,Jm dm,<-O];exact agG aj
 have d4:(fQ f++r).getD 0 0=UInt8.ofNat (aQ .u8 f.Kind).toNat:=by rfl
 unfold fread;refine bH (fun c=>absurd (by simpa using c) J) fun _=>bg (fun y=>y=(((1+A.length+B.length+C.length:Nat):Int),[f.Stream,f.Num,(f.Data.length:Int)])) (rO (fun i y=>(i=0/\y=(1,[0,0,0]))\/(i=1/\y=(((1+A.length:Nat):Int),[f.Stream,0,0]))\/(i=2/\y=(((1+A.length+B.length:Nat):Int),[f.Stream,f.Num,0]))\/(i=3/\y=(((1+A.length+B.length+C.length:Nat):Int),[f.Stream,f.Num,(f.Data.length:Int)]))) (.inl ⟨rfl,rfl⟩) dH dH (fun i y q1 q2 o=> ?_) (fun i y _ q o=>af ?_)) (fun y3 m=> ?_)
 ·rcases o with⟨rfl,rfl⟩ | ⟨rfl,rfl⟩ | ⟨rfl,rfl⟩ | ⟨rfl,rfl⟩
  ·refine ah ⟨by decide,by omega,N8 _⟩ (au fun v e=> ?_);rw[Gv,show((1:Int)).toNat=1 from rfl,d0,w]at e;subst e;exact bu (fun c=>absurd rfl c) fun _=>ah ⟨by decide,by decide⟩ (ah (show 0 < 3 by decide) (af (.inr (.inl ⟨rfl,Qcr (show aQ .i64 (1+(A.length:Int))=((1+A.length:Nat):Int)from(bn (k:= .i64) kM).trans aj) rfl⟩))))
  ·refine ah ⟨by omega,by omega,N8 _⟩ (au fun v e=> ?_);rw[Gv,qA,d1,D]at e;subst e;exact bu (fun c=>absurd rfl c) fun _=>ah ⟨by decide,by decide⟩ (ah (show 1 < 3 by decide) (af (.inr (.inr (.inl ⟨rfl,Qcr (show aQ .i64 (((1+A.length:Nat):Int)+(B.length:Int))=((1+A.length+B.length:Nat):Int)from(bn (k:= .i64) kM).trans aj) rfl⟩)))))
  ·refine ah ⟨by omega,by omega,N8 _⟩ (au fun v e=> ?_);rw[Gv,qA,d2,z]at e;subst e;exact bu (fun c=>absurd rfl c) fun _=>ah ⟨by decide,by decide⟩ (ah (show 2 < 3 by decide) (af (.inr (.inr (.inr ⟨rfl,Qcr (show aQ .i64 (((1+A.length+B.length:Nat):Int)+(C.length:Int))=((1+A.length+B.length+C.length:Nat):Int)from(bn (k:= .i64) kM).trans aj) rfl⟩)))))
  omega
 ·rcases o with⟨rfl,_⟩ | ⟨rfl,_⟩ | ⟨rfl,_⟩ | ⟨_,m⟩
  ·exact absurd q dH
  ·exact absurd q dH
  ·exact absurd q dH
  ·exact m
 ·subst m;have a:∀n:Nat,n < 3->n < [f.Stream,f.Num,(f.Data.length:Int)].length:=fun n h=>h
  refine ah ⟨by decide,by decide⟩ (ah (a 2 dH) (aU (fun c=>absurd c (show ¬(16384:Int) < (f.Data.length:Int) by omega)) fun _=>ah ⟨by decide,by decide⟩ (ah (a 2 dH) (au fun M l=>au fun K F=> ?_))));have l:M=((1+A.length+B.length+C.length+f.Data.length:Nat):Int):=by
   rw[l];show aQ .i64 (((1+A.length+B.length+C.length:Nat):Int)+aQ .i64 (f.Data.length:Int))=_
   rw[bn (k:= .i64) (n:=(f.Data.length:Int)) kM,bn (k:= .i64) kM];omega
  have F:K=((fQ f++r).length:Int) - 4:=F.trans (bn (k:= .i64) kM);refine aU (fun c=>absurd c aj) fun _=>au fun G s=> ?_;have s:G=((fQ f).length:Int):=s.trans ((bn (k:= .i64) kM).trans aj);subst s;rw[qA,agG rfl];refine ah ⟨by decide,by omega,by omega⟩ (ah aj (bu (fun c=>absurd d c) fun _=>ah ⟨by decide,by decide⟩ (ah (a 0 dH) ?_)));refine aU (fun c=>absurd c (show ¬4294967295 < f.Stream by omega)) fun _=>ah ⟨by decide,by decide⟩ (ah (a 1 dH) ?_);refine aU (fun c=>absurd c (show ¬4294967295 < f.Num by omega)) fun _=>aH dH aj (ah ⟨by decide,by decide⟩ (ah (a 0 dH) ?_));refine ah ⟨by decide,by decide⟩ (ah (a 1 dH) (ah ⟨by omega,by omega,by omega⟩ (au fun v7 E=>au fun V p=>au fun S j=>au fun X g=> ?_)));rw[d4,k8 Q]at E;have p:V=f.Stream:=p.trans L;have j:S=f.Num:=j.trans R;rw[l,qA,qA,d3]at g;subst E p j g;exact ah I (au fun W u=>bI (fun _=>ah aj (ah ⟨by decide,by omega,by omega⟩ (bu (fun c=>absurd rfl c) fun _=>af rfl))) (fun c=>absurd (u.trans U) c))
def okRd (d:Str):Prop:=d=[]\/∃f r,goodF f/\d=fQ f++r/\r.length<=70368744177664
theorem aqE {d:Str}(h:okRd d):Is (fread d):=by
 rcases h with rfl | ⟨f,r,a,rfl,b⟩
 ·unfold fread
  grind [is_br,is_ret]
 ·exact(Y5 a b).is
theorem aoT:ahA []=(Frame.mk 0 0 0 [],0,4):=rfl
theorem aw0 (a:Str)(h:okRd a):Is (fread a):=
 aqE h
def azs:bi Z:=E1 [aet,afW,SC,ax9] [jS 6 (bD (fun b=>[s0 19, s0 6, .row (pid (b 5)) 181]) (aJ cI (aJ cI (l1 acf)))),jS 100014 (bD (fun b=>[s0 6, .row (pid (b 5)) 181]) (aJ cI (l1 acf)))] hh1 (shr [.slot 0 true (nn 4), s0 1, s0 2] (aJ cd_Frame agH)) [] func53 3 fread (fun a=>okRd a) fun a h=>aw0 a h
noncomputable def fsplit (c:Str):Pg (List Frame×List UInt8×Int):=.wh (c.length+1) default (fun(a:List UInt8×List Frame)=> .ob (okRd a.1) (.lt (ahA a.1) fun b=> .br (b.2.2==0) (.ob (bG (a.2.length+1) 40) (.ob (0<=b.2.1/\b.2.1<=(↑a.1.length:Int)/\(↑a.1.length:Int)<=(↑a.1.length:Int)) (rl (List.drop b.2.1.toNat (List.take a.1.length a.1),a.2++[b.1])))) (.br (b.2.2==4) (.ret (.inr (a.2,a.1,0))) (.ret (.inr ([],[],b.2.2)))))) (c,[])
noncomputable def ak9 (a:Str):(List Frame)×Str×Int:=(fsplit a).val
def aDl (l:List Frame):Prop:=l.length<=2147483648/\∀f∈l,goodF f
theorem Uw {d:List Frame}(h:aDl d):gU (fsplit (BF d)) (fun r=>r=(d,[],0)):=by
 obtain⟨j,n⟩:=h;unfold fsplit;refine kQ (fun x=>∃a b,d=a++b/\x=(BF b,a)) (fun x=>x.1.length) ⟨[],d,rfl,rfl⟩ (Qcn _) (fun x p=> ?_);obtain⟨a,b,rfl,rfl⟩:=p;rw[uX]at j;cases b with
 | nil=>
  refine ah (.inl rfl) (au fun v e=> ?_);have e:=e.trans aoT;subst e;exact bI (fun c=>absurd c dH) fun _=>bI (fun _=>af (by rw[Qa5];rfl)) (fun c=>absurd rfl c)
 | cons f b=>
  have i:=n f jQ;have q:=yL (l:=b) fun g o=>n g (by simp[o])
  rw[JV]at j;have k:ahA (fQ f++BF b)=_:=(Y5 i (r:=BF b) aj).2;refine ah (.inr ⟨f,BF b,i,rfl,by omega⟩) (au fun v e=> ?_);have e:=e.trans k;subst e;have:=Vf i;have:=TI i;have s:(BF (f::b)).length=(fQ f).length+(BF b).length:=uX;have m:List.drop ((fQ f).length:Int).toNat (List.take (BF (f::b)).length (BF (f::b)))=BF b:=by rw[Gv,qA];exact Jm rfl
  dsimp only;refine bI (fun _=>ah (room_of aj aj) (ah ⟨by omega,by omega,by omega⟩ (af ⟨⟨a++[f],b,by simp,Qcr m rfl⟩,?_⟩))) (fun c=>absurd rfl c);show(List.drop _ _).length < _
  rw[m];omega
def okSp (d:Str):Prop:=∃l,aDl l/\d=BF l
theorem aox (a:Str)(h:okSp a):Is (fsplit a):=
 by obtain⟨l,h,rfl⟩:=h;exact(Uw h).is
noncomputable def avt:bi Z:=E1 [azs] [jS 2 (bD (fun b=>[s0 0, .slot 5 false [some 52]]) (aJ cStr aA2))] hh1 (shr [s0 0, s0 1, s0 2] (aJ cd_LFrame (aJ cStr iL))) [] func23 3 fsplit (fun a=>okSp a) fun a h=>aox a h
theorem auS (s:Str)(h:s.length<=1048576):Nv s 47=o6 s:=by
 rw[R_ s h];unfold Nv r14split;simp only[dN,di,aF,aV,aT,ay];refine F8 (p:=fun x=>x==47) (g:=fun k=>(s.take k,s.drop (k+1),true)) s 0 (fun j a b=> ?_) rfl;have c:j < s.length:=(Qbc.1 b).1;simp only[Bc,qA,Gv];rw[show(((a.toNat:Int))==47)=(a==47)from ahq a 47,h_ aj,qA]
theorem aiG (s:ax)(n:Str):yD s n=bif decide (0<=dO (fun(x:bz)=>x.Name==n) s.bK)then(s.bK.getD (dO (fun(x:bz)=>x.Name==n) s.bK).toNat iC,true)else(⟨[],[],[]⟩,false):=by
 unfold yD r14Service;simp only[dN,di,aF,ay];refine F8 (p:=fun(x:bz)=>x.Name==n) (g:=fun k=>(s.bK.getD k iC,true)) s.bK 0 (fun j a b=> ?_) rfl
 grind
theorem apo (s:ax)(path:Str)(h:path.length<=1048576):KQ s path=Ih s path:=by
 unfold KQ KY Ih r14Method;simp only[aV,aT,aF,ay,dN,di,auS path h];cases(o6 path).2.2 with
 | false=>rfl
 | true=>
  simp only[Qbv,lL];have b:Om s (o6 path).1=yD s (o6 path).1:=rfl;rw[b,aiG];by_cases a:0<=dO (fun(x:bz)=>x.Name==(o6 path).1) s.bK
  ·rw[wz a];rfl
  ·rw[pO a];rfl
theorem amB (s:ax)(path:Str)(h:path.length<=1048576):qZ s path=Ld s path:=by
 have a:=jy (fun(x:UInt8)=>x==47) path;unfold qZ mFind Ld r43Find;simp only[dn,aV,aT,aF,ay,qx,di];rw[amS (F:=fun(y:Int)=>(Sum.inl y:Int⊕(dh×Int))) h (fun x=>rfl),eP,R_ path h,apo s path h];by_cases b:0<=dO (fun x=>x==47) path
 ·have w:aQ .i64 (dO (fun x=>x==47) path+1)=dO (fun x=>x==47) path+1:=bn (k:= .i64) kM
  grind [VU,Ee,zV]
 grind
def itR (x:Item):Prop:=0<=x.Num/\x.Num<=2147483647
theorem awH {e:eu}(h:uI e=[]){i:Nat}(d:i < e.Items.length):itR (e.Items.getD i gQ):=by
 have k:VP (enumPr e) (fun r=>r=[]->∀i,i < e.Items.length->itR (e.Items.getD i gQ)):=by
  unfold enumPr;refine dQ (fun _=>True) (bf (bf (aI trivial))) fun t _=>dQ (fun _=>True) ?_ fun C _=>dQ (fun _=>True) ?_ fun D _=>iG (gB (fun n y=>y.out=[]->∀i,i < n->itR (e.Items.getD i gQ)) (fun _ i d=>absurd d aj) (fun k y w j=>iY (dQ (fun z=>z.out=[]->y.out=[]/\itR (e.Items.getD k gQ)) ?_ fun E B=>dQ (fun z=>z.out=[]->y.out=[]/\itR (e.Items.getD k gQ)) ?_ fun v u=>bf (iY (dG fun A s=>bf (dG fun o p=>bf (dG fun l m=>bf (aI fun h=> ?_))))))) (fun y j=>bf (dG fun q g=>bf (aI fun h=> ?_))))
  ·grind [dI,dG,bf,aI]
  ·grind [dI,iY,bf,aI]
  ·refine dI (fun c=>bf (aI fun h=> ?_)) (fun c=>bf (aI fun h=> ?_))
   ·obtain⟨a,b⟩:=fD h;exact⟨b,Dt c,Dt a⟩
   ·exact absurd (fD h).1 dH
  ·grind [fD,dI,iY,dG,bf,aI]
  ·grind [qI,fD]
  ·have f:=qI h;subst g;exact j (ML (x:=ak.mk y.oZ (-1) y.out) f)
 exact k h i d
theorem aoy {s:ax}(h:GU s=[]){e:eu}(l:e∈s.Enums):uI e=[]:=by
 have k:VP (cAll s) (fun r=>r=[]->∀i,i < s.Enums.length->uI (s.Enums.getD i dR)=[]):=by
  unfold cAll;refine bf (dG fun o _=>dQ (fun _=>True) ?_ fun w _=>dQ (fun _=>True) (bf (aI trivial)) fun t _=>bf (dQ (fun _=>True) ?_ fun p _=>dQ (fun y=>y.out=[]->∀i,i < s.Enums.length->uI (s.Enums.getD i dR)=[]) ?_ fun m c=> ?_))
  ·repeat' first
    | exact aI trivial
    | refine bf ?_
    | refine dG fun _ _=> ?_
    | refine dQ (fun _=>True) ?_ fun _ _=> ?_
  ·exact iG (gB (fun _ _=>True) trivial (fun k y f _=>iY (bf (dG fun j g=>bf (aI trivial)))) (fun y _=>aI trivial))
  ·refine iG (gB (fun n y=>y.out=[]->∀i,i < n->uI (s.Enums.getD i dR)=[]) (fun _ i b=>absurd b aj) (fun k y f a=>iY (bf (dG fun j g=>bf (aI fun h=> ?_)))) (fun y a=>aI a));intro i b;obtain⟨u,x⟩:=Qb0.1 h
   grind
  ·exact iG (gB (fun _ y=>y.out=[]->∀i,i < s.Enums.length->uI (s.Enums.getD i dR)=[]) c (fun k y f a=>iY (bf (dG fun v g=>bf (aI fun h=>a (Qb0.1 h).1)))) (fun y a=>aI a))
 obtain⟨i,b,q⟩:=uH (d:=dR) l;rw[<-q];exact k h i b
theorem ag2 {s:ax}(h:jT s=true){e:eu}(c:e∈s.Enums){x:Item}(f:x∈e.Items):itR x:=by
 have q:GU s=[]:=by
  unfold jT H9 at h;simp_all
 obtain⟨i,a,b⟩:=uH (d:=gQ) f;rw[<-b];exact awH (aoy q c) a
def r22alias (l:List Note):Pg (List Note):=.each true mg l ou (fun c b (a:List Note)=> .ix c l.length (.br (b.Name==[97,108,105,97,115]) (.ix c l.length (.ob (bG (a.length+1) 144) (rl (a++[Note.mk b.Name b.Val.re])))) (rl a))) (fun c (a:List Note)=> .ret a) []
def NY (l:List Note):=(r22alias l).val
def r13has (l:List Str)(s:Str):Pg Bool:=.each true yc l [] (fun a c (b:Unit)=> .ix a l.length (.br (c==s) (.ret (.inr true)) (rl ()))) (fun a (b:Unit)=> .ret false) ()
def alU (l:List Str)(s:Str):=(r13has l s).val
def auZ:bi Z:=E0 [] [jS 2 (bD (fun b=>Ap) iL)] aAZ hh2 [] func263 1 (u2 r13has)
def r13Enm (s:ax)(b:Str):Pg (eu×Int):=.each true yc s.Enums dR (fun a c (d:Unit)=> .ix a s.Enums.length (.br (c.Name==b) (.ix a s.Enums.length (.ret (.inr (c,a)))) (rl ()))) (fun a (d:Unit)=> .ret (eu.mk [] false [] [] [],(-1))) ()
def Q3 (s:ax)(a:Str):=(r13Enm s a).val
def auQ:bi Z:=E0 [] [jS 2 (bD (fun b=>[s0 6]) iL)] QB (shr ajE (aJ cd_Enum iL)) [] func266 2 (u2 r13Enm)
def AV (l:List aN):Pg (List Str):=.each true mg l aB (fun b c (a:List Str)=> .ix b l.length (.br (c.Union !=[]) (.ix b l.length (.br (!alU a c.Union) (.ix b l.length (.ob (bG (a.length+1) 16) (rl (a++[c.Union])))) (rl a))) (rl a))) (fun b (a:List Str)=> .ret a) []
def aik (l:List aN):=(AV l).val
theorem abp {l:List Note}(h:l.length<=1048576):gU (r22alias l) (fun y=>y.length<=l.length):=by
 unfold r22alias;simp only[ae.bJ];refine bC (fun i y=>y.length<=i) (Gw _) aj (fun i y b a=>aH aj aj (bH (fun _=>aH aj aj (ah (room_of aj aj) (af ?_))) (fun _=>af dm))) (fun y a=>af a)
 grind
theorem adB (l:List Str)(s:Str):alU l s=decide (s∈l):=by
 have k:VP (r13has l s) (fun b=>b=decide (s∈l)):=by
  unfold r13has;refine gB (fun i _=>s∉l.take i) jQ (fun i y e a=>iY (dI (fun c=>aI ?_) (fun c=>aI ?_))) (fun y a=>aI ?_)
  ·show true=_
   rw[<-eq_of_beq c,wz (getD_mem e)]
  ·show s∉_
   rw[take_snoc (d:=[]) e,vO,QZ];rintro(q | q)
   ·exact a q
   ·rw[q]at c;simp at c
  ·rw[Gv]at a;show false=_
   rw[pO a]
 exact k
def KU:List aN->List Str
 | []=>dC []
 | a::l=>dC (a::l)
theorem IP (l:List aN):KU l=dC l:=by cases l<;>rfl
theorem OB (l:List aN):(dC l).length<=l.length:=by
 have b:∀(l:List aN) (u:List Str),(l.foldl pF u).length<=u.length+l.length:=by
  intro l;induction l with
  | nil=>grind
  | cons a l c=>
   intro u;have d:=c (pF u a);have e:(pF u a).length<=u.length+1:=by
    unfold pF
    grind
   grind
 have:=b l [];simpa[dC]using this
theorem GV {l:List aN}(h:l.length<=1048576):gU (AV l) (fun y=>y=dC l):=by
 unfold AV;refine bC (fun i y=>y=dC (l.take i)) rfl aj (fun i y g e=> ?_) (fun y e=>af dm);have j:dC (l.take (i+1))=pF (dC (l.take i)) (l.getD i aB):=by
  rw[take_snoc (d:=aB) g];unfold dC;grind
 have b:=OB (l.take i);rw[Iq]at b;rw[j,<-e];rw[<-e]at b;generalize l.getD i aB=f;refine aH aj aj (bu (fun c=>aH aj aj (bH (fun a=>aH aj aj (ah (room_of aj aj) (af ?_))) (fun a=>af ?_))) (fun c=>af ?_));all_goals show _=pF y f;unfold pF
 ·rw[adB]at a;rw[uU c,uU (by simpa using a)]
 ·rw[adB]at a;rw[uU c,vJ (by simpa using a)]
 ·rw[vJ c]
theorem abI (l:List aN)(h:l.length<=1048576):aik l=KU l:=(GV h).2.trans (IP l).symm
theorem aec (l:List Note)(h:l.length<=1048576):Is (r22alias l):=
 (abp h).1
def ahB:bi Z:=E1 [] [jS 3 (bD (fun b=>[s0 4, .slot 3 false [some 204]]) (aJ cI (l1 cd_LNote)))] (a1 (aLf cd_LNote)) (shr [.slot 0 false [some 204]] (l1 cd_LNote)) [] func202 1 r22alias (fun a=>a.length<=1048576) fun a h=>aec a h
theorem abU (l:List aN)(h:l.length<=1048576):Is (AV l):=
 (GV h).1
def O7:bi Z:=E2 [auZ] [jS 3 (bD (fun b=>[s0 4, .slot 3 false [some 9]]) ao6)] (a1 (aLf cd_LAField)) (shr [.slot 0 false [some 9]] (l1 cd_Lstr)) [] func200 1 AV (fun a=>some (a.length<=1048576)) (fun a=>KU a) fun a h=>⟨abU a h,abI a h⟩
noncomputable def r22op (s:ax)(l:List aN)(i:Int):Pg Op:=.ix i l.length (.cut (fun(b:Op)=> .cut (fun(c:Op)=> .cut (fun(f:Op)=> .br ((l.getD i.toNat aB).Union !=[]) (.ob (l.length<=1048576) (.lt (KU l) fun e=> .each true mg e [] (fun d h (a:Op)=> .ix d e.length (.ob (d.toNat < e.length) (.br (h==(l.getD i.toNat aB).Union) (rl (Op.mk a.Num a.Name a.Alias a.Card a.Key a.Kind a.Target d)) (rl a)))) (fun d (a:Op)=> .ret a) f)) (.ret f)) (.br ((l.getD i.toNat aB).bV.Kind==9) (rl (Op.mk c.Num c.Name c.Alias c.Card c.Key c.Kind (Q3 s (l.getD i.toNat aB).bV.Name).2 c.Union)) (rl c))) (.br ((l.getD i.toNat aB).bV.Kind==10) (rl (Op.mk b.Num b.Name b.Alias b.Card b.Key b.Kind (yE s (l.getD i.toNat aB).bV.Name).2 b.Union)) (rl b))) (.lt (aa8 (l.getD i.toNat aB).Notes [97,108,105,97,115]) fun g=> .br g.2 (rl (Op.mk (l.getD i.toNat aB).Num (l.getD i.toNat aB).Name g.1.Text (l.getD i.toNat aB).Card (l.getD i.toNat aB).Key (l.getD i.toNat aB).bV.Kind (-1) (-1))) (rl (Op.mk (l.getD i.toNat aB).Num (l.getD i.toNat aB).Name [] (l.getD i.toNat aB).Card (l.getD i.toNat aB).Key (l.getD i.toNat aB).bV.Kind (-1) (-1)))))
noncomputable def avV (s:ax)(l:List aN)(i:Int):Op:=(r22op s l i).val
theorem aga (l:List Note)(n:Str):aa8 l n=abC l n:=rfl
theorem awk (s:ax)(n:Str):(yE s n).2=dO (fun x:aG=>x.Name==n) s.Messages:=by
 have h:=jy (fun x:aG=>x.Name==n) s.Messages;have e:yE s n=bif decide (0<=dO (fun x:aG=>x.Name==n) s.Messages)then(s.Messages.getD (dO (fun x:aG=>x.Name==n) s.Messages).toNat bT,(((dO (fun x:aG=>x.Name==n) s.Messages).toNat:Nat):Int))else(aG.mk [] [] [] [] [],-1):=by
  unfold yE r13Message;simp only[dN,di,aF,ay];refine F8 (p:=fun x:aG=>x.Name==n) (g:=fun k=>(s.Messages.getD k bT,(k:Int))) s.Messages 0 (fun j a b=> ?_) rfl
  grind
 grind
theorem auW (s:ax)(n:Str):(Q3 s n).2=dO (fun x:eu=>x.Name==n) s.Enums:=by
 have h:=jy (fun x:eu=>x.Name==n) s.Enums;have e:Q3 s n=bif decide (0<=dO (fun x:eu=>x.Name==n) s.Enums)then(s.Enums.getD (dO (fun x:eu=>x.Name==n) s.Enums).toNat dR,(((dO (fun x:eu=>x.Name==n) s.Enums).toNat:Nat):Int))else(eu.mk [] false [] [] [],-1):=by
  unfold Q3 r13Enm;simp only[dN,di,aF,ay];refine F8 (p:=fun x:eu=>x.Name==n) (g:=fun k=>(s.Enums.getD k dR,(k:Int))) s.Enums 0 (fun j a b=> ?_) rfl
  grind
 grind
theorem P9:∀(l:List aN) (u:List Str) (x:Str),x∈u->x∈l.foldl pF u
 | [],_,_,h=>h
 | f::l,u,x,h=>P9 l (pF u f) x (by unfold pF;grind)
theorem WB:∀(l:List aN) (u:List Str) (f:aN),f∈l->f.Union≠[]->f.Union∈l.foldl pF u
 | a::l,u,f,h,b=>by
  rcases yw.1 h with e | e
  ·subst e;refine P9 l _ _ ?_;unfold pF
   grind
  ·exact WB l (pF u a) f e b
theorem JQ:∀(l:List aN) (u:List Str),u.Nodup->(l.foldl pF u).Nodup
 | [],_,h=>h
 | f::l,u,h=>JQ l (pF u f) (by
  unfold pF
  grind)
theorem ap7 {s:ax}{l:List aN}{i:Int}(v:l.length<=1048576)(q:0<=i/\i < l.length):gU (r22op s l i) (fun o=>o=opF s (dC l) (l.getD i.toNat aB)):=by
 have D:l.getD i.toNat aB∈l:=getD_mem aj;have b:=WB l [] _ D;have d:=JQ l [] Qdr;have p:=OB l;unfold r22op;refine aH q.1 q.2 ?_;generalize l.getD i.toNat aB=f at*;have J:oz s f.bV=bif f.bV.Kind==10 then dO (fun x:aG=>x.Name==f.bV.Name) s.Messages else bif f.bV.Kind==9 then dO (fun x:eu=>x.Name==f.bV.Name) s.Enums else -1:=by
  rfl
 have r:vW f.Notes=(abC f.Notes [97,108,105,97,115]).1.Text:=rfl;refine bg (fun y=>y=Op.mk f.Num f.Name (vW f.Notes) f.Card f.Key f.bV.Kind (-1) (-1)) (au fun C m=>bH (fun c=>af ?_) (fun c=>af ?_)) fun E u=> ?_
 ·show _=_
  rw[r,<-aga,<-m]
 ·show _=_
  have:C.1.Text=[]:=by
   rw[m]at c⊢;unfold aa8 r8find at c⊢;simp only[aT,aF,di,ay]at c⊢;cases k:decide (dO (fun(n:Note)=>n.Name==[97,108,105,97,115]) f.Notes < 0)with
   | true=>rfl
   | false=>grind
  rw[r,<-aga,<-m,this]
 subst u;refine bg (fun y=>y=Op.mk f.Num f.Name (vW f.Notes) f.Card f.Key f.bV.Kind (bif f.bV.Kind==10 then dO (fun x:aG=>x.Name==f.bV.Name) s.Messages else -1) (-1)) (bH (fun c=>af ?_) (fun c=>af ?_)) fun K z=> ?_
 ·show _=_;rw[c,awk];rfl
 ·grind
 subst z;refine bg (fun y=>y=Op.mk f.Num f.Name (vW f.Notes) f.Card f.Key f.bV.Kind (oz s f.bV) (-1)) (bH (fun c=>af ?_) (fun c=>af ?_)) fun L A=> ?_
 ·grind [auW]
 ·grind
 subst A;unfold opF;refine bu (fun c=>ah v (au fun a h=> ?_)) (fun c=>af (by rw[vJ c]));rw[IP]at h;rw[uU c,<-h];have b:f.Union∈a:=by rw[h];exact b c
 have d:a.Nodup:=by rw[h];exact d
 have p:a.length<=l.length:=by grind
 have H:=jy (fun x=>f.Union==x) a;have t:0<=dO (fun x=>f.Union==x) a:=by
  grind [oN]
 have j:=ak1 (fun x=>f.Union==x) a [] t;generalize dO (fun x=>f.Union==x) a=g at*;have j:f.Union=a.getD g.toNat []:=eq_of_beq j;refine bC (fun k y=>y=Op.mk f.Num f.Name (vW f.Notes) f.Card f.Key f.bV.Kind (oz s f.bV) (if g < k then g else -1)) dm aj (fun k y I w=>aH aj aj (ah aj (bI (fun B=>af ?_) (fun B=>af ?_)))) (fun y w=>af dm)
 ·have G:k=g.toNat:=by
   have e:a[k]=a[g.toNat]' aj:=by
    grind
   have F:=Qb6.1 d
   grind
  grind
 grind
noncomputable def ayy:bi Z:=E1 [O7,atu,abP,auQ] [jS 13 (bD (fun b=>[s0 12, .cells (pid (b 8)) (nn 8)]) (aJ cI (l1 cd_Op))),jS 100006 (bD (fun b=>[.cells (pid (b 8)) (nn 8)]) (l1 cd_Op)),jS 100008 (bD (fun b=>[.cells (pid (b 8)) (nn 8)]) (l1 cd_Op)),jS 100010 (bD (fun b=>[.cells (pid (b 8)) (nn 8)]) (l1 cd_Op))] (aCons (aAgg cd_Schema) (aCons (aLf cd_LAField) hh5)) aB8 [] func201 1 (u3 r22op) fun a=>a.2.1.length<=1048576/\(0<=a.2.2/\a.2.2 < a.2.1.length)
noncomputable def r22Make (s:ax):Pg (aC×Int):=.ob (okS s) (.br (!oO s) (.ret (aC.mk [] [],1)) (.cut (fun(m:aC)=> .each true mg s.Enums dR (fun d a (g:aC)=> .ix d s.Enums.length (.ix d s.Enums.length (.ix d s.Enums.length (.ob (bG (0+a.Reserved.length) 16) (.EK [0<=d/\d < (↑s.Enums.length:Int)] true mg a.Items gQ (fun l e (b:eu)=> .ix d s.Enums.length (.ix l a.Items.length (.ob (e.Notes.length<=1048576) (.ob (bG (b.Items.length+1) 48) (rl (eu.mk b.Name b.Open (b.Items++[Item.mk e.Name e.Num (NY e.Notes)]) b.Reserved b.Notes)))))) (fun l (b:eu)=> .ob (bG (g.Enums.length+1) 96) (rl (aC.mk g.Progs (g.Enums++[b])))) (eu.mk a.Name a.Open [] a.Reserved [])))))) (fun d (g:aC)=> .ret (g,0)) m) (.each true mg s.Messages bT (fun k c (h:aC)=> .ix k s.Messages.length (.ix k s.Messages.length (.ob (c.Fields.length<=1048576) (.lt (KU c.Fields) fun j=> aL j (.Ov [] (some (c.Fields.length<=9223372036854775807)) mg 0 (↑c.Fields.length:Int) (fun i (f:aX)=> .ob (c.Fields.length<=1048576/\0<=i/\i < (↑c.Fields.length:Int)) (.ob (bG (f.Ops.length+1) 80) (rl (aX.mk f.Name (f.Ops++[avV s c.Fields i]) f.Xj)))) (fun i (f:aX)=> .ob (bG (h.Progs.length+1) 48) (rl (aC.mk (h.Progs++[f]) h.Enums))) (aX.mk c.Name [] (↑j.length:Int))))))) (fun k (h:aC)=> rl h) (aC.mk [] []))))
noncomputable def EC (s:ax):aC×Int:=(r22Make s).val
noncomputable def xI (e:eu):eu:=eu.mk e.Name e.Open (e.Items.map fun x=>Item.mk x.Name x.Num (NY x.Notes)) e.Reserved []
def noteQ (s:ax):Prop:=∀e∈s.Enums,∀x∈e.Items,x.Notes.length<=1048576
theorem OE {s:ax}(h:okS s)(C:noteQ s):gU (r22Make s) (fun r=>r=bif oO s then(aC.mk (s.Messages.map (kN s)) (s.Enums.map xI),0)else(aC.mk [] [],1)):=by
 have I:s.Messages.length<=150:=h.1;have L:s.Enums.length<=150:=h.2.1;unfold r22Make;refine ah h (bH (fun c=>af ?_) (fun c=> ?_))
 ·grind
 have A:oO s=true:=by simpa using c
 rw[A,cond_true];refine bg (fun y=>y=aC.mk (s.Messages.map (kN s)) []) (bC (fun i y=>y=aC.mk ((s.Messages.take i).map (kN s)) []) rfl aj (fun i y b a=> ?_) (fun y a=>af ?_)) fun N D=>bC (fun i y=>y=aC.mk (s.Messages.map (kN s)) ((s.Enums.take i).map xI)) D aj (fun i y b a=> ?_) (fun y a=>af ?_)
 ·have n:=(h.2.2.2.1 _ (getD_mem (d:=bT) b)).1;have t:(s.Messages.take (i+1)).map (kN s)=(s.Messages.take i).map (kN s)++[kN s (s.Messages.getD i bT)]:=fZ b;rw[t];have z:((s.Messages.take i).map (kN s)).length<=i:=by grind
  generalize s.Messages.getD i bT=m at*;generalize (s.Messages.take i).map (kN s)=u at*;subst a;refine aH aj aj (aH aj aj (ah n (au fun G f=>bZ ?_)));rw[IP]at f;refine aes (fun j g=>g=aX.mk m.Name ((m.Fields.take j.toNat).map (opF s (dC m.Fields))) (dC m.Fields).length) (by rw[f];rfl) trivial aj aj (fun j g o p l=> ?_) (fun j g o p l=>ah (room_of dm dm) (af ?_))
  ·have E:j.toNat < m.Fields.length:=by omega
   have w:avV s m.Fields j=opF s (dC m.Fields) (m.Fields.getD j.toNat aB):=(ap7 (s:=s) n ⟨o,p⟩).2;have F:((m.Fields.take j.toNat).map (opF s (dC m.Fields))).length<=j.toNat:=by grind
   subst l;refine ah ⟨n,o,p⟩ (ah (room_of dm dm) (af ?_));show _=_
   rw[w,show(j+1).toNat=j.toNat+1 by omega,fZ (d:=aB) E]
  ·show _=_
   rw[l,Qb2 aj,Yz]
 ·grind
 ·have v:=getD_mem (d:=dR) b;have B:=h.2.2.2.2.1 _ v;have H:=C _ v;have t:(s.Enums.take (i+1)).map xI=(s.Enums.take i).map xI++[xI (s.Enums.getD i dR)]:=fZ b;rw[t];have z:((s.Enums.take i).map xI).length<=i:=by grind
  generalize s.Enums.getD i dR=e at*;generalize (s.Enums.take i).map xI=u at*;subst a;obtain⟨J,O,K⟩:=B;refine aH aj aj (aH aj aj (aH aj aj (ah (room_of aj aj) ?_)));refine Na (fun k g=>g=eu.mk e.Name e.Open ((e.Items.take k).map fun x=>Item.mk x.Name x.Num (NY x.Notes)) e.Reserved []) rfl ⟨⟨by omega,by omega⟩,trivial⟩ aj (fun k g M q=> ?_) (fun g q=>ah (room_of dm dm) (af ?_))
  ·grind [fZ,getD_mem,aH,ah,af,room_of]
  ·show _=_
   rw[Gv]at q;rw[q];rfl
 grind
theorem ahh (e:eu):(sJ e).Open=e.Open/\(sJ e).Items.map Item.Num=e.Items.map Item.Num:=by
 have k:VP (pEnum e) (fun r=>r.Open=e.Open/\r.Items.map Item.Num=e.Items.map Item.Num):=by
  unfold pEnum;refine bf (iG (gB (fun i y=>y.Open=e.Open/\y.Items.map Item.Num=(e.Items.take i).map Item.Num) ⟨rfl,rfl⟩ (fun i y b a=>iY (dG fun g f=>dI (fun c=>bf (aI ?_)) (fun c=>bf (aI ?_)))) (fun y a=>aI dm)));all_goals
   refine⟨a.1,?_⟩;show List.map Item.Num (y.Items++[_])=_
   rw[fZ (d:=gQ) b,Qct,a.2];rfl
 exact k
theorem adu (p:aC)(e n:Int):Dc p e n=bif decide (e < 0)then false else bif decide ((p.Enums.length:Int)<=e)then false else bif decide (2147483647 < n)then false else bif (p.Enums.getD e.toNat dR).Open then true else((p.Enums.getD e.toNat dR).Items.map Item.Num).any fun x=>aQ .u64 x==n:=by
 have a:∀x:Item,Ns x n=(aQ .u64 x.Num==n):=fun x=>rfl
 unfold Dc axQ;simp only[aF,dW,di,ay,List.any_map,Function.comp_def];rfl
theorem V6 {s:ax}(h:jT s=true):(nU s).2=0:=by
 have k:VP (pMake s) (fun r=>r.2=0):=by
  unfold pMake;refine bf (dI (fun c=>absurd h dm) fun _=>dQ (fun _=>True) (iG (gB (fun _ _=>True) trivial (fun k y a _=>iY (bf (bf (aI trivial)))) fun y _=>aI trivial)) fun y _=>iG (gB (fun _ _=>True) trivial (fun k y a _=>iY (bf (bf (aI trivial)))) fun y _=>aI rfl))
 exact k
theorem atQ {s:ax}(h:okS s)(F:noteQ s)(a:jT s=true)(l:oO s=true):rp (EC s).1 (nU s).1/\pG (EC s).1:=by
 have D:EC s=(aC.mk (s.Messages.map (kN s)) (s.Enums.map xI),0):=by
  have:=(OE h F).2;rw[l]at this;exact this
 have j:=V6 a;have v:=(afb h j).2;have b:=abb h j;rw[v]at b⊢;rw[D];refine⟨⟨rfl,fun e n=> ?_⟩,?_,?_,?_⟩
 ·rw[adu,adu];show(bif decide (e < 0)then false else bif decide (((s.Enums.map xI).length:Int)<=e)then false else bif decide (2147483647 < n)then false else bif ((s.Enums.map xI).getD e.toNat dR).Open then true else(((s.Enums.map xI).getD e.toNat dR).Items.map Item.Num).any fun x=>aQ .u64 x==n)=(bif decide (e < 0)then false else bif decide (((s.Enums.map sJ).length:Int)<=e)then false else bif decide (2147483647 < n)then false else bif ((s.Enums.map sJ).getD e.toNat dR).Open then true else(((s.Enums.map sJ).getD e.toNat dR).Items.map Item.Num).any fun x=>aQ .u64 x==n)
  rw[Qbx,Qbx];by_cases I:e < 0
  ·grind
  by_cases H:(s.Enums.length:Int)<=e
  ·grind
  have p:e.toNat < s.Enums.length:=by omega
  have E:(s.Enums.map xI).getD e.toNat dR=xI (s.Enums[e.toNat]):=by grind
  have y:(s.Enums.map sJ).getD e.toNat dR=sJ (s.Enums[e.toNat]):=by grind
  obtain⟨B,u⟩:=ahh (s.Enums[e.toNat]);have t:(xI (s.Enums[e.toNat])).Items.map Item.Num=(s.Enums[e.toNat]).Items.map Item.Num:=by
   unfold xI;simp_all
  rw[E,y,B,u,t];rfl
 ·intro g d;obtain⟨a1,a2⟩:=b g d;refine⟨a1,fun o c=> ?_⟩;obtain⟨b1,A⟩:=a2 o c;exact⟨b1,A⟩
 ·intro e w J p;obtain⟨G,r,rfl⟩:=QH.1 w;obtain⟨x,C,rfl⟩:=QH.1 p;have q:itR x:=ag2 a r C;exact⟨q.1,q.2⟩
 ·intro g d;obtain⟨m,i,rfl⟩:=QH.1 d;rw[Yz];constructor
  ·exact List.pairwise_map.2 (aqB a i (h.2.2.2.1 m i).1)
  ·intro o c;obtain⟨f,z,rfl⟩:=QH.1 c;have k:=ZL a i z;refine⟨?_,k.2.1.1,k.2.1.2.1⟩;show(if f.Union=[]then(-1:Int)else _)= -1\/0<=(if f.Union=[]then(-1:Int)else _)
   have:=(jy (fun x=>f.Union==x) (dC m.Fields)).2;omega
theorem ajY (s:ax)(h:okS s/\noteQ s):Is (r22Make s):=
 (OE h.1 h.2).1
noncomputable def aot:bi Z:=E1 [WR,O7,ayy,ahB] [jS 5 (bD (fun b=>[s0 5, .cells (pid (b 4)) aeS]) amr),jS 10 (bD (fun b=>[s0 8, .cells (pid (b 7)) ams]) (aJ cI adY)),jS 15 (bD (fun b=>[s0 9, .cells (pid (b 4)) aeS]) amr),jS 19 (bD (fun b=>[s0 11, .cells (pid (b 10)) ayw]) (aJ cI agv)),jS 100014 (bD (fun b=>[.cells (pid (b 4)) aeS]) awR),jS 800003 (bD (fun b=>[.cells (pid (b 4)) aeS]) awR),jS 800008 (bD (fun b=>[.cells (pid (b 7)) ams]) adY),jS 800017 (bD (fun b=>[.cells (pid (b 10)) ayw]) agv)] XI (shr ayZ (aJ cd_Plan iL)) [] func134 2 r22Make (fun a=>okS a/\noteQ a) fun a h=>ajY a h
def r25usual:Pg jf:=.ret (jf.mk 65536 16 4096 4096)
def YE:jf:=(r25usual).val
def ah0:bi Z:=E0 [] [] a0 aBD [] func136 1 fun a=>r25usual
def r25Onto (p:aC)(g:Str)(a:ae)(f:Str)(l:jf):Pg (ae×Int):=.lt (Dx p g) fun b=> .br (!b.2) (.ret (ae.mk 0 0 [] [] [] [] [],10)) (.br (a.Kind !=10) (.ret (ae.mk 0 0 [] [] [] [] [],12)) (.lt (ayv f l) fun c=> .br (c.2 !=0) (.ret (ae.mk 0 0 [] [] [] [] [],c.2)) (.br (decide (c.1.Depth < 1)) (.ret (ae.mk 0 0 [] [] [] [] [],17)) (.lt (uZ (ai.mk c.1.Data c.1.At c.1.End (aQ .i64 (c.1.Depth - 1)) c.1.Nodes c.1.Text) 1) fun e=> .br (e.2 !=0) (.ret (ae.mk 0 0 [] [] [] [] [],e.2)) (.ob (pG p/\inD a.re (tagdec_reader.mk p e.1)/\(0<=b.1/\b.1 < (↑p.Progs.length:Int))/\wV p a.re (p.Progs.getD b.1.toNat aO)) (.lt (arn p b.1 a.re e.1) fun d=> .br (d.2.2 !=0) (.ret (ae.mk 0 0 [] [] [] [] [],d.2.2)) (.ob (pG p/\(0<=b.1/\b.1 < (↑p.Progs.length:Int))/\wV p d.1.re (p.Progs.getD b.1.toNat aO)/\gV d.1.re) (.ret ((ab5 p b.1 d.1.re).re,0)))))))))
def aum (p:aC)(b:Str)(c:ae)(a:Str)(l:jf):=(r25Onto p b c a l).val
theorem ape {p q:aC}(h:planOk p)(e:rp p q):planOk q:=by
 intro g a;rw[e.1]at a;obtain⟨b,j⟩:=h g a;refine⟨b,fun o c=> ?_⟩;obtain⟨i,f⟩:=j o c;refine⟨fun d=> ?_,f⟩;rw[e.1];exact i d
theorem Gf (p:aC)(n:Str):Dx p n=mF p n:=by
 have h:=jy (fun g:aX=>g.Name==n) p.Progs;have e:Dx p n=bif decide (0<=dO (fun g:aX=>g.Name==n) p.Progs)then((((dO (fun g:aX=>g.Name==n) p.Progs).toNat:Nat):Int),true)else(0,false):=by
  unfold Dx r22Find;simp only[dN,di,aF,ay];exact F8 (p:=fun g:aX=>g.Name==n) (g:=fun k=>((k:Int),true)) p.Progs 0 (fun j a c=>rfl) rfl
 have b:mF p n=(max (dO (fun g:aX=>g.Name==n) p.Progs) 0,decide (0<=dO (fun g:aX=>g.Name==n) p.Progs)):=by
  rfl
 grind
theorem aau {p q:aC}(e:rp p q)(n:Str):mF q n=mF p n:=by
 unfold mF ala;rw[e.1]
def ontoQ (p:aC)(a:Str)(b:ae):Prop:=(mF p a).2=true->wV p b (p.Progs.getD (mF p a).1.toNat aO)
theorem afI {p q:aC}{name data:Str}{a:ae}{l:jf}(r:pG p)(h:rp p q)(Q:okL l)(hb:kV a)(hb2:tV a<=1024)(N:ontoQ p name a):jK (tOnto q name a data l) (r25Onto p name a data l) (fun x y=>y.2=x.2/\(x.2=0->y.1=x.1/\wV p x.1 (p.Progs.getD (mF p name).1.toNat aO))):=by
 have i:∀{e:Int} {z:ae},(e !=0)=true->(fun x y:ae×Int=>y.2=x.2/\(x.2=0->y.1=x.1/\wV p x.1 (p.Progs.getD (mF p name).1.toNat aO))) (z,e) (z,e):=fun c=>⟨rfl,fun k=>absurd k dm⟩
 unfold tOnto r25Onto;simp only[ae.bJ];refine dP fun W D=>dL fun b f1=> ?_;have k1:b=W:=by rw[f1,D,Gf,aau h]
 subst k1;rw[Gf]at f1;clear D;refine fG rfl (fun _=>bF (i rfl)) fun Z=>fG rfl (fun _=>bF (i rfl)) fun c2=>dP fun Y u=>dL fun d f2=> ?_;have k2:d=Y:=by rw[f2,u];rfl
 subst k2;clear f2;refine fG rfl (fun c=>bF (i c)) fun c3=>fG rfl (fun _=>bF (i rfl)) fun H=>dP fun R T=>dL fun g f3=> ?_;have K:R=(g.2,tagdec_reader.mk q g.1):=by rw[T,f3,gK];rfl
 subst K;refine fG rfl (fun c=>bF (i c)) fun c5=> ?_;have v:b.2=true:=by simpa using Z
 have j:=Jw (p:=p) (name:=name) dm;have w:=N dm;rw[<-f1]at j w⊢;obtain⟨C,L,J,o4⟩:=afJ Q (by rw[<-u];grind);rw[<-u]at C L J;have H:=Qbr H;have hc:okC (ai.mk d.1.Data d.1.At d.1.End (aQ .i64 (d.1.Depth - 1)) d.1.Nodes d.1.Text):=by
  obtain⟨X,⟨q2,q3⟩,M⟩:=C;rw[bn (k:= .i64) kM];exact⟨X,⟨by grind,by grind⟩,M⟩
 have s:=jJ hc (n:=1) (by rw[<-gK,<-f3];grind);rw[<-gK,<-f3]at s;have sE:g.1.End=d.1.End:=s.1.2.2.1;have sA:g.1.At=d.1.At:=s.2.2.1;have o:inD a (tagdec_reader.mk p g.1):=⟨s.1.1,r.1,hb,by grind⟩;have A:pG p/\inD a (tagdec_reader.mk p g.1)/\(0<=b.1/\b.1 < (p.Progs.length:Int))/\wV p a (p.Progs.getD b.1.toNat aO):=⟨r,o,j,w⟩;refine dB (cO A (dP fun f B=>dL fun O f4=> ?_));have k:xH p (p.Progs.getD b.1.toNat aO) f O:=by rw[B,f4];exact ajU p b.1 a g.1 A q h
 have I:=(G_ b.1 a (tagdec_reader.mk q g.1) ⟨Ep o h,by show 0<=b.1/\b.1 < (q.Progs.length:Int);rw[h.1];exact j⟩).1;rw[<-B]at I;obtain⟨⟨S,P⟩,U⟩:=k;refine fG (by rw[S]) (fun c=>bF dm) fun t=> ?_;obtain⟨a1,a2⟩:=P (bU.1 t);obtain⟨f1',m,G,f4'⟩:=I (bU.1 t);have fE:=m.2.2.1;have fL:=m.1.1.2.1;have V:gV f.1:=⟨G,by grind⟩;have F:pG p/\(0<=b.1/\b.1 < (p.Progs.length:Int))/\wV p f.1 (p.Progs.getD b.1.toNat aO)/\gV f.1:=⟨r,j,U (bU.1 t),V⟩;rw[a1];obtain⟨E,n2⟩:=adH p b.1 f.1 F;refine dB (cO F (bF ⟨rfl,fun _=>⟨E q h,?_⟩⟩));show wV p (VW q b.1 f.1) _
 have e:ab5 p b.1 f.1=VW q b.1 f.1:=E q h
 grind
theorem ah6 (p:aC)(b:Str)(a:ae)(c:Str)(l:jf)(h:pG p/\okL l/\(kV a/\tV a<=1024)/\ontoQ p b a):Is (r25Onto p b a c l):=
 (afI h.1 (HY p) h.2.1 h.2.2.1.1 h.2.2.1.2 h.2.2.2).1
def apd:bi Z:=E1 [ZP,auq,wK,aEd,ax1] [] aGO aiI [] func203 2 (fun a=>r25Onto a.1 a.2.1 a.2.2.1 a.2.2.2.1 a.2.2.2.2) (fun a=>pG a.1/\okL a.2.2.2.2/\(kV a.2.2.1/\tV a.2.2.1<=1024)/\ontoQ a.1 a.2.1 a.2.2.1) fun a h=>ah6 a.1 a.2.1 a.2.2.1 a.2.2.2.1 a.2.2.2.2 h
noncomputable def r25Decode (p:aC)(a:Str)(d:Str)(l:jf):Pg (ae×Int):=.ob (pG p/\ okL l/\ (kV (ae.mk 10 0 [] [] [] [] [])/\tV (ae.mk 10 0 [] [] [] [] [])<=1024)/\ ontoQ p a (ae.mk 10 0 [] [] [] [] [])) (.lt (aum p a (ae.mk 10 0 [] [] [] [] []) d l) fun b=> .br (b.2 !=0) (.ret (ae.mk 0 0 [] [] [] [] [],b.2)) (.lt (Dx p a) fun c=> .ob (pG p/\(0<=c.1/\c.1 < (↑p.Progs.length:Int))/\wV p b.1.re (p.Progs.getD c.1.toNat aO)/\gV b.1.re) (.br (Rf p c.1 b.1.re) (.ret (ae.mk 0 0 [] [] [] [] [],14)) (.ret (b.1.re,0)))))
noncomputable def U4 (p:aC)(b:Str)(a:Str)(l:jf):ae×Int:=(r25Decode p b a l).val
theorem akz {p q:aC}{name data:Str}{l:jf}(f:pG p)(b:rp p q)(i:okL l):jK (tDecode q name data l) (r25Decode p name data l) (fun x y=>y=x):=by
 have d:pG p/\okL l/\(kV (ae.mk 10 0 [] [] [] [] [])/\tV (ae.mk 10 0 [] [] [] [] [])<=1024)/\ontoQ p name (ae.mk 10 0 [] [] [] [] []):=⟨f,i,⟨(jb 10 0 [] u0).1,by rw[GL];decide⟩,fun _=>SQ⟩;have k:=(afI (name:=name) (data:=data) f b i d.2.2.1.1 d.2.2.1.2 d.2.2.2).2;have h:=(NU q name (ae.mk 10 0 [] [] [] [] []) data l ⟨ape f.1 b,i,d.2.2.1⟩).2;unfold tDecode r25Decode;simp only[ae.bJ];refine dB (cO d (dP fun a o=>dL fun n f1=> ?_));have k:n.2=a.2/\(a.2=0->n.1=a.1/\wV p a.1 (p.Progs.getD (mF p name).1.toNat aO)):=by rw[o,f1];exact k
 have h:a.2=0->kV a.1/\tV a.1<=tV (ae.mk 10 0 [] [] [] [] [])+8*data.length/\(mF q name).2=true/\data.length<=65536:=by rw[o];exact h
 obtain⟨k1,u⟩:=k;refine fG qb1 (fun c=>bF qb1) fun c=>dP fun z w=>dL fun g f2=> ?_;have s:g=z:=by rw[f2,w,Gf,aau b]
 subst s;rw[Gf]at f2;obtain⟨a1,a2⟩:=u (bU.1 c);obtain⟨v,t,m,A⟩:=h (bU.1 c);rw[aau b]at m;have j:=Jw m;rw[<-f2]at j a2;rw[GL]at t;have r:gV a.1:=⟨v,by omega⟩;rw[a1];refine dB (cO ⟨f,j,a2,r⟩ ?_);have e:Rf p g.1 a.1= !Hm q g.1 a.1:=abO p g.1 a.1 ⟨f,j,⟨a2,r⟩⟩ q (tV a.1) b (pJ _);rw[e];exact fG rfl (fun _=>bF rfl) (fun _=>bF rfl)
theorem acO (p:aC)(b:Str)(a:Str)(l:jf)(h:pG p/\okL l):Is (r25Decode p b a l):=
 (akz h.1 (HY p) h.2).1
noncomputable def aft:bi Z:=E1 [apd,ZP,avZ] [] aCj aiI [] func135 2 (u4 r25Decode) (fun a=>pG a.1/\okL a.2.2.2) fun a h=>acO a.1 a.2.1 a.2.2.1 a.2.2.2 h
def rstCheck (s:Status):Pg Int:=.br (decide (s.Code < 0)) (.ret 1) (.br (decide (13 < s.Code)) (.ret 1) (.ob (List.length s.Text<=9223372036854775700) (.br (!FX s.Text) (.ret 7) (.br (decide (4096 < (↑(List.length s.Text):Int))) (.ret 3) (.br (s.Code==0) (.br (s.Text !=[]) (.ret 1) (.ret 0)) (.ret 0))))))
def MX (s:Status):=(rstCheck s).val
def H5:bi Z:=E1 [D8] [] aAd jE [] func39 1 rstCheck fun a=>a.Text.length<=9223372036854775700
def r43Is (shape:Int):Pg Bool:=.br (decide (1<=shape)) (.ret (decide (shape<=4))) (.ret false)
def aE6 (shape:Int):=(r43Is shape).val
def ay0:bi Z:=E0 [] [] hh5 hh2 [] func80 1 r43Is
def r43Counts (shape:Int):Pg (Int×Int×Int×Int):=.br (!aE6 shape) (.ret (0,0,0,0)) (.lt (adK shape) fun b=> .cut (fun(a:Int×Int)=> .br b.2 (.ret (a.1,a.2,0,(-1))) (.ret (a.1,a.2,1,1))) (.br b.1 (rl (0,(-1))) (rl (1,1))))
def aip (shape:Int):=(r43Counts shape).val
def aep:bi Z:=E0 [ay0,aaw] [jS 100007 (bD (fun b=>[s0 8, s0 9]) agH)] hh5 aHa [] func41 4 r43Counts
def rpPerm (n:Int)(b:Int)(c:Int)(a:Bool):Pg Bool:=.br (decide (c < 0)) (.br (!a) (.ret true) (.ret (decide (b<=n)))) (.br (decide (n<=c)) (.br (!a) (.ret true) (.ret (decide (b<=n)))) (.ret false))
def QS (n:Int)(b:Int)(c:Int)(a:Bool):=(rpPerm n b c a).val
def asN:bi Z:=E0 [] [] (aCons (aLf cI) (aCons (aLf cI) (aCons (aLf cI) (a1 (aLf cBool))))) hh2 [] func31 1 (u4 rpPerm)
def rpRead (p:aC)(c:Str)(l:List Str):Pg (List ae×Int):=aL l (.each false mg l [] (fun d e (a:List ae)=> .ix d l.length (.ob (planOk p/\okL oU) (.lt (pW p c e oU) fun b=> .br (b.2 !=0) (.ret (.inr ([],b.2))) (.ob (bG (a.length+1) 128) (rl (a++[b.1.re])))))) (fun d (a:List ae)=> .ret (a,0)) [])
def QX (p:aC)(a:Str)(l:List Str):=(rpRead p a l).val
def r56rd (s:ax)(b:Str)(a:Str):Pg (ae×Int):=.ob (okS s/\noteQ s) (.lt (EC s) fun c=> .ob (pG c.1/\okL YE) (.lt (U4 c.1 b a YE) fun d=> .ret (d.1.re,d.2)))
def aDO (s:ax)(b:Str)(a:Str):=(r56rd s b a).val
def BH (f:Str->Int):List Str->Int
 | []=>0
 | d::l=>bif f d !=0 then f d else BH f l
theorem Ol (f:Str->Int){l:List Str}{i:Nat}(a:i < l.length):BH f (l.drop i)=bif f (l.getD i []) !=0 then f (l.getD i [])else BH f (l.drop (i+1)):=by
 have e:l.drop i=l.getD i []::l.drop (i+1):=by rw[Qbq a];simp[List.getD,a]
 rw[e];rfl
theorem Iy {p:aC}{a:Str}{l:List Str}(g:planOk p)(j:l.length<=1048576):gU (rpRead p a l) (fun r=>r.2=BH (fun d=>(pW p a d oU).2) l):=by
 unfold rpRead;simp only[ae.bJ];refine bZ (bC (fun i y=>y.length<=i/\BH (fun d=>(pW p a d oU).2) (l.drop i)=BH (fun d=>(pW p a d oU).2) l) ⟨Gw _,rfl⟩ aj (fun i y e b=>aH aj aj (ah ⟨g,UM⟩ (au fun h f=>bH (fun c=>af ?_) (fun c=>ah (room_of aj aj) (af ⟨by rw[uX,Qb8];omega,?_⟩))))) (fun y b=>af ?_))
 ·have k:=b.2;rw[Ol _ e,<-f,c,cond_true]at k;exact k
 ·have k:=b.2;rw[Ol _ e,<-f,c,lL]at k;exact k
 ·have k:=b.2;rw[Qc]at k;exact k
def rdQ (s:ax):Prop:=okS s/\noteQ s/\jT s=true/\oO s=true
theorem ary {s:ax}{b a:Str}(h:rdQ s):gU (r56rd s b a) (fun r=>r.2=(pW (nU s).1 b a oU).2):=by
 obtain⟨e,c⟩:=atQ h.1 h.2.1 h.2.2.1 h.2.2.2;unfold r56rd;simp only[ae.bJ];refine ah ⟨h.1,h.2.1⟩ (au fun i d=>ah ⟨by rw[d];exact c,UM⟩ (au fun g f=>af ?_));have k:U4 (EC s).1 b a oU=pW (nU s).1 b a oU:=(akz c e UM).2;show g.2=_
 rw[f,d];exact II Prod.snd k
theorem aoU (p:aC)(a:Str)(l:List Str)(h:planOk p/\l.length<=1048576):Is (rpRead p a l):=
 (Iy h.1 h.2).1
def arV:bi Z:=E1 [apt,avi] [jS 3 (bD (fun b=>[s0 15, .slot 8 false [some 73]]) (aJ cI (l1 zL)))] (aCons (aAgg cd_Plan) (aCons (aLf cStr) aib)) (shr aeR (aJ zL iL)) [] func29 2 (u3 rpRead) (fun a=>planOk a.1/\a.2.2.length<=1048576) fun a h=>aoU a.1 a.2.1 a.2.2 h
theorem arN (s:ax)(b:Str)(a:Str)(h:rdQ s):Is (r56rd s b a):=
 (ary h).1
def aAT:bi Z:=E1 [aot,aft,ah0] [] (aCons (aAgg cd_Schema) U7) aiI [] func79 2 (u3 r56rd) (fun a=>rdQ a.1) fun a h=>arN a.1 a.2.1 a.2.2 h
def r56rdb (s:ax)(a:Str)(l:List Str):Pg Int:=.each true yc l [] (fun c d (e:Unit)=> .ix c l.length (.ob (rdQ s) (.lt (aDO s a d) fun b=> .br (b.2 !=0) (.ret (.inr b.2)) (rl ())))) (fun c (e:Unit)=> .ret 0) ()
def Rw (s:ax)(a:Str)(l:List Str):=(r56rdb s a l).val
def rpCheck (s:ax)(t:Tape):Pg Int:=.ob (okS s) (.lt (nU s) fun a=> .br (a.2 !=0) (.ret 1) (.ob (List.length t.Method<=1048576) (.lt (qZ s t.Method) fun c=> .br (c.2 !=0) (.ret 10) (.ob (List.length t.Status.Text<=9223372036854775700) (.lt (kz t.Status) fun f=> .br (f !=0) (.ret f) (.ob (planOk a.1/\t.In.length<=1048576) (.lt (QX a.1 c.1.In t.In) fun e=> .br (e.2 !=0) (.ret e.2) (.ob (planOk a.1/\t.Out.length<=1048576) (.lt (QX a.1 c.1.Out t.Out) fun d=> .br (d.2 !=0) (.ret d.2) (.lt (JO c.1.Shape) fun b=> .br (!QS (↑t.In.length:Int) b.1 b.2.1 (t.Status.Code==0)) (aL t.In (.ret 11)) (aL t.In (aL t.Out (.br (!QS (↑t.Out.length:Int) b.2.2.1 b.2.2.2 (t.Status.Code==0)) (.ret 11) (.ret 0))))))))))))))
def rH (s:ax)(t:Tape):=(rpCheck s t).val
def ckQ (s:ax)(t:Tape):Prop:=okS s/\t.Method.length<=1048576/\t.Status.Text.length<=1048576/\t.In.length<=1048576/\t.Out.length<=1048576
theorem amx {s:ax}{a:Str}{l:List Str}(h:rdQ s)(m:l.length<=1048576):gU (r56rdb s a l) (fun e=>e=BH (fun d=>(pW (nU s).1 a d oU).2) l):=by
 unfold r56rdb;refine bC (fun i _=>BH (fun d=>(pW (nU s).1 a d oU).2) (l.drop i)=BH (fun d=>(pW (nU s).1 a d oU).2) l) rfl aj (fun i _ f b=>aH aj aj (ah h (au fun j g=> ?_))) (fun _ b=>af (by rw[Qc]at b;exact b));have k:j.2=(pW (nU s).1 a (l.getD i []) oU).2:=by rw[g];exact(ary h).2
 rw[Ol _ f,<-k]at b;refine bH (fun c=>af ?_) (fun c=>af ?_)
 ·rw[c,cond_true]at b;exact b
 ·rw[c,lL]at b;exact b
theorem abk {s:ax}{t:Tape}(h:ckQ s t):Is (rpCheck s t):=by
 obtain⟨a,g,p,e,d⟩:=h;unfold rpCheck;refine is_ob a (is_lt fun i f=>is_bne iR (fun c=> ?_));have b:planOk i.1:=by rw[f]at c⊢;exact abb a c
 exact is_ob g (is_lt fun v r=>is_bne iR (fun _=>is_ob aj (is_lt fun n o=>is_bne iR (fun _=>is_ob ⟨b,e⟩ (is_lt fun m j=>is_bne iR (fun _=>is_ob ⟨b,d⟩ (is_lt fun l u=>is_bne iR (fun _=>is_lt fun k q=>is_br (fun _=>is_as fun _=>is_ret) (fun _=>is_as fun _=>is_as fun _=>is_br iR iR)))))))))
def avP:bi Z:=E1 [aAT] [jS 2 (bD (fun b=>[s0 7]) iL)] (aCons (aAgg cd_Schema) (aCons (aLf cStr) aib)) jE [] func40 1 (u3 r56rdb) fun a=>rdQ a.1/\a.2.2.length<=1048576
theorem ahS (s:ax)(t:Tape)(h:ckQ s t):Is (rpCheck s t):=
 abk h
def Zp:bi Z:=E1 [ayt,am3,Oe,arV,YH,asN] [] aCx jE [] func12 1 (u2 rpCheck) (fun a=>ckQ a.1 a.2) fun a h=>ahS a.1 a.2 h
noncomputable def r56Check (s:ax)(t:Tape):Pg Int:=.ob (okS s) (.br (!oO s) (.ret 1) (.ob (List.length t.Method<=1048576) (.lt (Ld s t.Method) fun b=> .br (b.2 !=0) (.ret 10) (.ob (List.length t.Status.Text<=9223372036854775700) (.lt (MX t.Status) fun e=> .br (e !=0) (.ret e) (.ob (rdQ s/\t.In.length<=1048576) (.lt (Rw s b.1.In t.In) fun d=> .br (d !=0) (.ret d) (.ob (rdQ s/\t.Out.length<=1048576) (.lt (Rw s b.1.Out t.Out) fun c=> .br (c !=0) (.ret c) (aL t.In (aL t.Out (.lt (aip b.1.Shape) fun a=> .br (decide (0<=a.2.1)) (.br (decide (a.2.1 < (↑t.In.length:Int))) (.ret 11) (.br (decide (0<=a.2.2.2)) (.br (decide (a.2.2.2 < (↑t.Out.length:Int))) (.ret 11) (.br (t.Status.Code==0) (.br (decide ((↑t.In.length:Int) < a.1)) (.ret 11) (.br (decide ((↑t.Out.length:Int) < a.2.2.1)) (.ret 11) (.ret 0))) (.ret 0))) (.br (t.Status.Code==0) (.br (decide ((↑t.In.length:Int) < a.1)) (.ret 11) (.br (decide ((↑t.Out.length:Int) < a.2.2.1)) (.ret 11) (.ret 0))) (.ret 0)))) (.br (decide (0<=a.2.2.2)) (.br (decide (a.2.2.2 < (↑t.Out.length:Int))) (.ret 11) (.br (t.Status.Code==0) (.br (decide ((↑t.In.length:Int) < a.1)) (.ret 11) (.br (decide ((↑t.Out.length:Int) < a.2.2.1)) (.ret 11) (.ret 0))) (.ret 0))) (.br (t.Status.Code==0) (.br (decide ((↑t.In.length:Int) < a.1)) (.ret 11) (.br (decide ((↑t.Out.length:Int) < a.2.2.1)) (.ret 11) (.ret 0))) (.ret 0)))))))))))))))
noncomputable def aqy (s:ax)(t:Tape):Int:=(r56Check s t).val
theorem asF (n a b:Int)(c:Bool):QS n a b c=(decide (b < 0\/n<=b) && (!c || decide (a<=n))):=by
 unfold QS rpPerm;simp only[aF,ay];by_cases d:b < 0<;>by_cases e:n<=b<;>cases c<;>simp[d,e]
theorem afA {s:ax}(h:jT s=false):(nU s).2=1:=by
 unfold nU pMake;simp only[aV,aF,ay];rw[h];rfl
theorem Y2 {s:ax}{t:Tape}(h:ckQ s t)(B:okS2 s)(O:noteQ s):jK (rpCheck s t) (r56Check s t) (fun x y=>y=x):=by
 obtain⟨q,A,T,r,o⟩:=h;have j:=valid_eq s B;unfold rpCheck r56Check;refine dB (dP fun f e=>cO q ?_);cases i:oO s with
 | false=>
  have p:f.2=1:=by rw[e];exact afA (j.trans i)
  exact ik (fun _=>gJ (fun _=>bF rfl) (fun k=>absurd k dH)) (fun k=>absurd k (by rw[p];decide))
 | true=>
  have l:rdQ s:=⟨q,O,j.trans i,i⟩;have p:f.2=0:=by rw[e];exact V6 (j.trans i)
  have w:planOk f.1:=by rw[e];exact abb q (V6 (j.trans i))
  refine ik (fun k=>absurd k (by rw[p];decide)) fun _=>gJ (fun k=>absurd k dH) fun _=>dB (cO A (dP fun S D=>dL fun g f2=> ?_));have R:g=S:=by rw[f2,D,amB s t.Method A]
  subst R;refine fG rfl (fun _=>bF rfl) fun _=>dB (cO aj (dP fun L z=>dL fun P f3=> ?_));have G:P=L:=by rw[f3,z];rfl
  subst G;refine fG rfl (fun _=>bF rfl) fun _=>dB (cO ⟨l,r⟩ (dP fun J u=>dL fun K f4=> ?_));have F:K=J.2:=by
   have a:Rw s g.1.In t.In=_:=(amx l r).2;have b:(QX f.1 g.1.In t.In).2=_:=(Iy w r).2;rw[f4,a,u,b,e]
  subst F;refine fG rfl (fun _=>bF rfl) fun _=>dB (cO ⟨l,o⟩ (dP fun I E=>dL fun N f5=> ?_));have M:N=I.2:=by
   have a:Rw s g.1.Out t.Out=_:=(amx l o).2;have b:(QX f.1 g.1.Out t.Out).2=_:=(Iy w o).2;rw[f5,a,E,b,e]
  subst M;refine fG rfl (fun _=>bF rfl) fun _=>dP fun H C=>asa (asa (dL fun v f6=> ?_));have Q:v=H:=by rw[f6,C];rfl
  subst Q;clear e D f2 z f3 u f4 E f5 C f6;obtain⟨a,b,c,d⟩:=v;dsimp only;unfold jK;simp only[aF,dW,ay,asF];generalize (t.In.length:Int)=n;generalize (t.Out.length:Int)=m;repeat' first
   | refine aU (fun _=> ?_) (fun _=> ?_)
   | refine bI (fun _=> ?_) (fun _=> ?_)
   | refine af ?_
  all_goals
   first
    | (rw[Z8,Z8];simp only[Qbf,Qdb,Qcc,decide_eq_false_iff_not,Qcz,Bool.not_eq_false',Qbw];(repeat' split)<;>first | rfl | (exfalso;omega))
theorem adk (s:ax)(t:Tape)(h:ckQ s t/\okS2 s/\noteQ s):Is (r56Check s t):=
 (Y2 h.1 h.2.1 h.2.2).1
noncomputable def ajg:bi Z:=E1 [Y4,WR,H5,avP,aep] [] aCx jE [] func17 1 (u2 r56Check) (fun a=>ckQ a.1 a.2/\okS2 a.1/\noteQ a.1) fun a h=>adk a.1 a.2 h
def rpFrames (s:ax)(t:Tape)(id:Int):Pg (List Frame):=.ob (List.length t.Method<=1048576) (.ob ([47]=kR/\List.length t.Method<=1048576) (.lt (o6 t.Method) fun b=> .ob (okHead (Head.mk b.1 b.2.1 0 [])) (.cut (fun(e:List Frame)=> .ob (bG (e.length+1) 40) (aL t.Out (.each false mg t.Out [] (fun d h (a:List Frame)=> .ix d t.Out.length (.ob (bG (a.length+1) 40) (rl (a++[Frame.mk 2 id 0 h])))) (fun d (a:List Frame)=> .ob (List.length t.Status.Text<=1048576) (.ob (bG (a.length+1) 40) (.ret (a++[Frame.mk 4 id 0 (oV t.Status)])))) (e++[Frame.mk 3 id 0 []])))) (aL t.In (.each false mg t.In [] (fun f g (c:List Frame)=> .ix f t.In.length (.ob (bG (c.length+1) 40) (rl (c++[Frame.mk 2 id 0 g])))) (fun f (c:List Frame)=> rl c) [Frame.mk 1 id (qZ s t.Method).1.Shape (Wv (Head.mk b.1 b.2.1 0 [])).1])))))
def anA (s:ax)(t:Tape)(id:Int):=(rpFrames s t id).val
theorem az3 {s:ax}{v:bz}(h:PG s v=[]){i:Nat}(e:i < v.Methods.length):1<=(v.Methods.getD i dA).Shape/\(v.Methods.getD i dA).Shape<=4:=by
 have k:VP (cSvc s v) (fun r=>r=[]->∀i,i < v.Methods.length->1<=(v.Methods.getD i dA).Shape/\(v.Methods.getD i dA).Shape<=4):=by
  unfold cSvc;refine bf (bf (dG fun m _=>bf (iG (gB (fun n y=>y.out=[]->∀j,j < n->1<=(v.Methods.getD j dA).Shape/\(v.Methods.getD j dA).Shape<=4) (fun _ j d=>absurd d aj) (fun k y o b=> ?_) (fun y b=>bf (aI fun h=>b (show(ak.mk y.oZ (-1) y.out).out=[]from qI h)))))));have c:y.out=[]->(1<=(v.Methods.getD k dA).Shape/\(v.Methods.getD k dA).Shape<=4)->∀j,j < k+1->1<=(v.Methods.getD j dA).Shape/\(v.Methods.getD j dA).Shape<=4:=fun g l j d=>by
   grind
  repeat' first
   | refine bf ?_
   | refine iY ?_
   | refine dG fun _ p=> ?_
   | refine dI (fun f=> ?_) (fun f=> ?_)
   | refine aI fun h=> ?_
  all_goals (subst_vars;have a:=fD (qI h))
  all_goals first
   | exact absurd a.1 dH
   | exact c (fD (fD (fD a.2).2).2).2 ⟨Dt qbw,Dt a.1⟩
 exact k h i e
theorem aq8 {s:ax}(h:GU s=[]){v:bz}(b:v∈s.bK):PG s v=[]:=by
 have k:VP (cAll s) (fun r=>r=[]->∀i,i < s.bK.length->PG s (s.bK.getD i iC)=[]):=by
  unfold cAll;refine bf (dG fun j _=>dQ (fun _=>True) ?_ fun q _=>dQ (fun _=>True) (bf (aI trivial)) fun o _=>bf (dQ (fun _=>True) ?_ fun l _=>dQ (fun _=>True) ?_ fun g _=> ?_))
  ·repeat' first
    | exact aI trivial
    | refine bf ?_
    | refine dG fun _ _=> ?_
    | refine dQ (fun _=>True) ?_ fun _ _=> ?_
  ·exact iG (gB (fun _ _=>True) trivial (fun k y f a=>iY (bf (dG fun v b=>bf (aI trivial)))) (fun y a=>aI trivial))
  ·exact iG (gB (fun _ _=>True) trivial (fun k y f a=>iY (bf (dG fun v b=>bf (aI trivial)))) (fun y a=>aI trivial))
  ·refine iG (gB (fun n y=>y.out=[]->∀i,i < n->PG s (s.bK.getD i iC)=[]) (fun _ i c=>absurd c aj) (fun k y f a=>iY (bf (dG fun m b=>bf (aI fun h=> ?_)))) (fun y a=>aI a));intro i c;obtain⟨p,t⟩:=Qb0.1 h
   grind
 obtain⟨i,c,e⟩:=uH (d:=iC) b;rw[<-e];exact k h i c
theorem anP {s:ax}(h:jT s=true){v:bz}(b:v∈s.bK){m:dh}(f:m∈v.Methods):1<=m.Shape/\m.Shape<=4:=by
 have e:GU s=[]:=by
  unfold jT H9 at h;simp_all
 obtain⟨i,a,c⟩:=uH (d:=dA) f;rw[<-c];exact az3 (aq8 e b) a
theorem aFc {l:List bz}{n:Str}(h:(aye l n).2=true):(aye l n).1∈l:=by
 have k:VP (fsS l n) (fun r=>r.2=true->r.1∈l):=by
  unfold fsS;exact iG (gB (fun _ _=>True) trivial (fun k y a _=>iY (dI (fun _=>aI fun _=>getD_mem a) fun _=>aI trivial)) fun y _=>aI fun e=>by cases e)
 exact k h
theorem aEv {l:List dh}{n:Str}(h:(aFz l n).2=true):(aFz l n).1∈l:=by
 have k:VP (fsW l n) (fun r=>r.2=true->r.1∈l):=by
  unfold fsW;exact iG (gB (fun _ _=>True) trivial (fun k y a _=>iY (dI (fun _=>aI fun _=>getD_mem a) fun _=>aI trivial)) fun y _=>aI fun e=>by cases e)
 exact k h
theorem ahT {s:ax}{p:Str}(j:jT s=true)(h:(qZ s p).2=0):1<=(qZ s p).1.Shape/\(qZ s p).1.Shape<=4:=by
 have d:VP (KY s p) (fun r=>r.2=true->1<=r.1.Shape/\r.1.Shape<=4):=by
  unfold KY;refine bf (dG fun f _=>dI (fun _=>aI fun e=>by cases e) fun _=>dG fun g i=>dI (fun _=>aI fun e=>by cases e) fun a=>aI fun e=> ?_);have l:Om s f.1=aye s.bK f.1:=rfl;rw[i,l]at a e⊢;exact anP j (aFc (by simpa using a)) (aEv e)
 have k:VP (mFind s p) (fun r=>r.2=0->1<=r.1.Shape/\r.1.Shape<=4):=by
  unfold mFind;have b:∀(c:Int) {p:Prop},c≠0->(c=0->p):=fun c _ h e=>absurd e h
  refine bf (dG fun f _=>dI (fun _=>aI (b 2 dH)) fun _=>bf (dI (fun _=>aI (b 2 dH)) fun _=>dI (fun _=>aI (b 2 dH)) fun _=>bf (dG fun g i=>dI (fun _=>aI (b 10 dH)) fun a=>aI fun _=> ?_)));show 1<=g.1.Shape/\g.1.Shape<=4
  rw[i]at a⊢;exact d (show(KQ s p).2=true by simpa using a)
 exact k h
def Oh (s:ax)(t:Tape):Int:=(qZ s t.Method).1.Shape
def frA (t:Tape):Str:=(o6 t.Method).1
def frB (t:Tape):Str:=(o6 t.Method).2.1
def frH (t:Tape):Str:=(Wv (Head.mk (frA t) (frB t) 0 [])).1
def Ph (s:ax)(t:Tape)(id:Int):List Frame:=
 Frame.mk 1 id (Oh s t) (frH t)::(t.In.map (fun d=>Frame.mk 2 id 0 d)++(Frame.mk 3 id 0 []::(t.Out.map (fun d=>Frame.mk 2 id 0 d)++[Frame.mk 4 id 0 (oV t.Status)])))
def aCb (t:Tape):Prop:=t.Method.length<=1048576/\t.Status.Text.length<=1048576/\t.In.length<=67108864/\t.Out.length<=67108864
theorem Uz {s:ax}{p:Str}(i:p.length<=1048576)(g:(qZ s p).2=0):CQ (o6 p).1=true/\xO (o6 p).2.1=true/\p=(o6 p).1++47::(o6 p).2.1/\∀x∈(o6 p).1,(x==47)=false:=by
 have k:VP (mFind s p) (fun r=>r.2=0->CQ (o6 p).1=true/\xO (o6 p).2.1=true/\(o6 p).2.2=true):=by
  have c:∀{n:Int} {p:Prop},n≠0->n=0->p:=fun a b=>absurd b a
  unfold mFind;exact bf (dG fun q m=>dI (fun _=>aI (c dH)) fun w=>bf (dI (fun _=>aI (c dH)) fun t=>dI (fun _=>aI (c dH)) fun o=>bf (dG fun y _=>dI (fun _=>aI (c dH)) fun _=>aI fun _=>⟨by grind,by grind,by grind⟩)))
 obtain⟨l,j,d⟩:=k g;refine⟨l,j,?_⟩;rw[R_ p i]at d⊢;rcases oN (fun(x:UInt8)=>x==47) p with⟨e,_⟩ | ⟨u,a,v,rfl,f,h,e⟩
 ·rw[e]at d;cases d
 ·have f:a=47:=by simpa using f
  subst f;rw[e,wz (show(0:Int)<=(u.length:Int) by omega),cond_true,qA];simp only[Qde];exact⟨by simp,h⟩
theorem atf {a:Str}(h:CQ a=true):a.length<=120:=by
 have k:VP (adE a) (fun r=>r=true->a.length<=120):=by
  unfold adE;exact bf (iG (gB (fun _ _=>True) trivial (fun k y b _=>iY (dI (fun _=>aI fun e=>by cases e) fun _=>aI trivial)) fun y _=>aI fun e=>by grind))
 exact k h
theorem asJ {b:Str}(h:xO b=true):b.length<=40:=by
 rw[Ee]at h;unfold GK at h
 grind
theorem apu {a b:Str}(c:CQ a=true)(d:xO b=true):uw (Head.mk a b 0 [])=0:=by
 unfold uw headed;simp only[dn,aV,aF,dW,lQ,ay,c,d];rfl
def Ig (s:ax)(t:Tape):Prop:=t.Method.length<=1048576/\kz t.Status=0/\(qZ s t.Method).2=0/\(1<=Oh s t/\Oh s t<=4)/\t.In.length<=30/\t.Out.length<=30/\(∀d∈t.In,d.length<=3000)/\∀d∈t.Out,d.length<=3000
theorem UU {s:ax}{t:Tape}(h:Ig s t):aoY (frH t) (frA t) (frB t)/\t.Method=frA t++47::frB t/\(frH t).length<=200/\(frA t).length<=120/\(frB t).length<=40:=by
 obtain⟨g,l,k,_⟩:=h;obtain⟨f,c,j,_⟩:=Uz g k;have l1:(frA t).length<=120:=atf f;have i:(frB t).length<=40:=asJ c;have d:uw (Head.mk (frA t) (frB t) 0 [])=0:=apu f c;have e:Wv (Head.mk (frA t) (frB t) 0 [])=_:=(Oi _ ⟨show(frA t).length<=1048576 by omega,show(frB t).length<=1048576 by omega,rfl,rfl⟩).2;rw[d]at e;have e:frH t=headB (frA t) (frB t):=II Prod.fst e;have m:=aoA (a:=frA t) (b:=frB t) aj aj;exact⟨⟨e,by omega,by omega,d⟩,j,by rw[e];omega,l1,i⟩
theorem aFg {n:Int}(h:1<=n/\n<=4):JC n=true:=by
 obtain rfl | rfl | rfl | rfl:n=1\/n=2\/n=3\/n=4:=by omega
 all_goals rfl
theorem aAX {id n:Int}{d a b:Str}(h:1<=id/\id<=2147483647)(e:1<=n/\n<=4)(c:aoY d a b)(f:d.length<=200):lS (Frame.mk 1 id n d)=0:=by
 have k:Oq d=_:=(Gi c).2;unfold lS fcheck wU streamed sQ numbered F5 filled;simp only[aF,dn,aV,ay,k,aFg e,wz h.1,pO (show ¬2147483647 < id by omega),pO (show ¬(16384:Int) < (d.length:Int) by omega)];rfl
theorem ay7 {id:Int}{d:Str}(h:1<=id/\id<=2147483647):lS (Frame.mk 2 id 0 d)=bif decide ((16384:Int) < (d.length:Int))then 3 else 0:=by
 unfold lS fcheck wU streamed sQ numbered F5 filled;simp only[aF,dn,aV,ay,wz h.1,pO (show ¬2147483647 < id by omega)];rfl
theorem aDy {id:Int}(h:1<=id/\id<=2147483647):lS (Frame.mk 3 id 0 [])=0:=by
 unfold lS fcheck wU streamed sQ numbered F5 filled;simp only[aF,dn,aV,ay,wz h.1,pO (show ¬2147483647 < id by omega)];rfl
theorem Ar {a:Status}(h:kz a=0):oV a=cZ a.Code++a.Text/\(oV a).length<=4200:=by
 obtain⟨_,_,b⟩:=N9 h;have e:=(Vs a aj).2 h;have e:oV a=cZ a.Code++a.Text:=e
 grind [iI,acI]
theorem anm {id:Int}{a:Status}(h:1<=id/\id<=2147483647)(b:kz a=0):lS (Frame.mk 4 id 0 (oV a))=0:=by
 obtain⟨e,c⟩:=Ar b;have k:=arI b;rw[<-e]at k;unfold lS fcheck wU streamed sQ numbered F5 filled;simp only[aF,dn,aV,ay,k,wz h.1,pO (show ¬2147483647 < id by omega),pO (show ¬(16384:Int) < ((oV a).length:Int) by omega)];rfl
theorem ahV {s:ax}{t:Tape}{id:Int}(h:Ig s t)(i:1<=id/\id<=2147483647):∀f∈Ph s t id,goodF f:=by
 obtain⟨j,x,m,_⟩:=UU h;obtain⟨y,b,D,p,v,C,B,w⟩:=h;have g:∀f:Frame,f.Stream=id->(0<=f.Kind/\f.Kind < 256)->(0<=f.Num/\f.Num<=4294967295)->f.Data.length<=16384->(f.Kind=1->okHB f.Data)->(f.Kind=4->aHc f.Data)->lS f=0->goodF f:=fun f e k n l u o c=>⟨⟨by omega,u,o⟩,c,k,by rw[e];omega,n,l⟩
 have z:(0:Int)<=0/\(0:Int)<=4294967295:=by decide
 have A:∀d:Str,d.length<=3000->goodF (Frame.mk 2 id 0 d):=fun d r=>by
  grind [ay7]
 intro f a;unfold Ph at a;rcases yw.1 a with rfl | a
 ·exact g _ rfl (show(0:Int)<=1/\(1:Int) < 256 by decide) ⟨show 0<=Oh s t by omega,show Oh s t<=4294967295 by omega⟩ (show(frH t).length<=16384 by omega) (fun _=>⟨_,_,j⟩) (fun q=>absurd (show(1:Int)=4 from q) dH) (aAX i p j m)
 rcases vO.1 a with a | a
 ·grind
 rcases yw.1 a with rfl | a
 ·grind [aDy]
 rcases vO.1 a with a | a
 ·grind
 ·rw[QZ.1 a];have r:=(Ar b).2;exact g _ rfl (show(0:Int)<=4/\(4:Int) < 256 by decide) z (show(oV t.Status).length<=16384 by omega) (fun q=>absurd (show(4:Int)=1 from q) dH) (fun _=>⟨_,b,rfl⟩) (anm i b)
theorem KO (s:ax)(t:Tape)(id:Int):(Ph s t id).length=t.In.length+t.Out.length+3:=by
 unfold Ph
 grind
theorem Jj {s:ax}{t:Tape}(id:Int)(h:aCb t)(e:okHead (Head.mk (frA t) (frB t) 0 [])):gU (rpFrames s t id) (fun r=>r=Ph s t id):=by
 obtain⟨b,i,o,m⟩:=h;have j:∀{l:List Str} {k:Nat},k < l.length->(l.take k).map (fun d=>Frame.mk 2 id 0 d)++[Frame.mk 2 id 0 (l.getD k [])]=(l.take (k+1)).map (fun d=>Frame.mk 2 id 0 d):=fun{l k} c=>by
  rw[Qcg,Qct]
  grind
 unfold rpFrames;refine ah b (ah ⟨rfl,b⟩ (au fun n f=> ?_));subst f;refine ah e (bg (fun y=>y=Frame.mk 1 id (Oh s t) (frH t)::t.In.map (fun d=>Frame.mk 2 id 0 d)) (bZ (bC (fun k y=>y=Frame.mk 1 id (Oh s t) (frH t)::(t.In.take k).map (fun d=>Frame.mk 2 id 0 d)) rfl aj (fun k y c a=> ?_) (fun y a=>af dm))) (fun p g=> ?_))
 ·grind [aH,ah,af,room_of]
 ·subst g;refine ah (room_of dm dm) (bZ (bC (fun k y=>y=(Frame.mk 1 id (Oh s t) (frH t)::t.In.map (fun d=>Frame.mk 2 id 0 d))++[Frame.mk 3 id 0 []]++(t.Out.take k).map (fun d=>Frame.mk 2 id 0 d)) jQ aj (fun k y c a=> ?_) (fun y a=> ?_)))
  ·grind [aH,ah,af,room_of]
  ·subst a;refine ah i (ah (room_of dm dm) (af ?_));unfold Ph;simp
def frQ (t:Tape):Prop:=aCb t/\okHead (Head.mk (frA t) (frB t) 0 [])
theorem arA {s:ax}{t:Tape}(h:Ig s t):frQ t:=by
 have a:=UU h;have g:=N9 h.2.1;obtain⟨b,f,i,d,c,e,_⟩:=h;exact⟨⟨b,by omega,by omega,by omega⟩,a.1.2.1,a.1.2.2.1,rfl,rfl⟩
def ji (s:ax):Nat->List Tape->List Frame
 | _,[]=>[]
 | k,t::l=>Ph s t ((k+1:Nat):Int)++ji s (k+1) l
theorem afU (s:ax)(t:Tape)(id:Int)(h:frQ t):Is (rpFrames s t id):=
 (Jj id h.1 h.2).is
def UO:bi Z:=E1 [am3,ajn,ak3,awT] [jS 6 (bD (fun b=>[s0 49, .slot 14 false [some 52]]) al4),jS 12 (bD (fun b=>[s0 68, .slot 14 false [some 52]]) al4),jS 100010 (bD (fun b=>[.slot 14 false [some 52]]) aA2)] (aCons (aAgg cd_Schema) (aCons (aAgg cd_Tape) hh5)) (R1 cd_LFrame) [] func13 1 (u3 rpFrames) (fun a=>frQ a.2.1) fun a h=>afU a.1 a.2.1 a.2.2 h
def lwFew (s:ax):Pg Bool:=.br (decide ((↑s.Messages.length:Int)<=8)) (.br (decide ((↑s.Enums.length:Int)<=8)) (.ret (decide ((↑s.bK.length:Int)<=8))) (.ret false)) (.ret false)
def arG (s:ax):=(lwFew s).val
def azL:bi Z:=E0 [] [] XI hh2 [] func4 1 lwFew
def lwShort (l:List Str):Pg Bool:=.wh (l.length+1) default (fun(a:Int×Bool)=> .br a.2 (aL l (.br (decide (a.1 < (↑l.length:Int))) (.ix a.1 l.length (rl (aQ .i64 (a.1+1),decide ((↑(List.length (l.getD a.1.toNat [])):Int)<=3000)))) (.ret (.inr a.2)))) (.ret (.inr a.2))) (0,decide ((↑l.length:Int)<=30))
def aeK (l:List Str):=(lwShort l).val
theorem uY (l:List Str):gU (lwShort l) (fun r=>r=true->l.length<=30/\∀x∈l,x.length<=3000):=
 by
 unfold lwShort;refine kQ (fun x=>0<=x.1/\x.1<=l.length/\(x.2=true->l.length<=30/\∀j:Nat,(j:Int) < x.1->(l.getD j []).length<=3000)) (fun x=>((l.length:Int) - x.1).toNat) ⟨by omega,by omega,fun e=>⟨by have:=Dt e;omega,fun j a=>absurd a aj⟩⟩ (by simp only[Int.sub_zero,qA];omega) fun x g=>bH (fun e=>bZ (aU (fun h=>aH aj aj (af ?_)) (fun h=>af ?_))) (fun e=>af fun f=>absurd f (by rw[e];decide))
 ·obtain⟨o,p,m⟩:=g;obtain⟨d,c⟩:=m e;have b:aQ .i64 (x.1+1)=x.1+1:=bn (k:= .i64) kM;refine⟨⟨by show 0<=aQ .i64 (x.1+1);rw[b];omega,by show aQ .i64 (x.1+1)<=_;rw[b];omega,fun f=>⟨d,fun j a=> ?_⟩⟩,by show((l.length:Int) - aQ .i64 (x.1+1)).toNat < _;rw[b];omega⟩;have a:(j:Int) < aQ .i64 (x.1+1):=a;rw[b]at a;by_cases i:(j:Int) < x.1
  ·exact c j i
  ·have k:=Dt (show decide (((l.getD x.1.toNat []).length:Int)<=3000)=true from f);rw[show x.1.toNat=j by omega]at k;omega
 ·intro _;obtain⟨d,c⟩:=g.2.2 e;refine⟨d,fun y n=> ?_⟩;obtain⟨j,a,rfl⟩:=Qbu.1 n;have k:=c j aj;rwa [List.getD,Qas a]at k
theorem ajD (l:List Str):Is (lwShort l):=(uY l).1
def apT:bi Z:=E0 [] [jS 3 (bD (fun b=>[s0 4, s0 3]) QA)] aib hh2 [] func11 1 lwShort fun a=>ajD a
def tpB (t:Tape):Prop:=t.In.length<=30/\(∀d∈t.In,d.length<=3000)/\t.Out.length<=30/\∀d∈t.Out,d.length<=3000
def lwTapes (l:List Tape):Pg Bool:=.wh (l.length+1) default (fun(a:Int×Bool)=> .br a.2 (aL l (.br (decide (a.1 < (↑l.length:Int))) (.ix a.1 l.length (.lt (aQ .i64 (a.1+1)) fun b=> .br (aeK (l.getD a.1.toNat iE).In) (.ix a.1 l.length (.br (aeK (l.getD a.1.toNat iE).Out) (.ix a.1 l.length (rl (b,decide ((↑(List.length (l.getD a.1.toNat iE).Status.Text):Int)<=9000)))) (rl (b,false)))) (rl (b,false)))) (.ret (.inr a.2)))) (.ret (.inr a.2))) (0,decide ((↑l.length:Int)<=20))
def aeL (l:List Tape):=(lwTapes l).val
theorem OT (l:List Tape):gU (lwTapes l) (fun r=>r=true->l.length<=20/\∀t∈l,tpB t):=
 by
 unfold lwTapes;refine kQ (fun x=>0<=x.1/\x.1<=l.length/\(x.2=true->l.length<=20/\∀j:Nat,(j:Int) < x.1->tpB (l.getD j iE))) (fun x=>((l.length:Int) - x.1).toNat) ⟨by omega,by omega,fun e=>⟨by have:=Dt e;omega,fun j c=>absurd c aj⟩⟩ (by simp only[Int.sub_zero,qA];omega) fun x n=>bH (fun e=>bZ (aU (fun h=>aH aj aj (au fun a i=> ?_)) (fun h=>af ?_))) (fun e=>af fun g=>absurd g (by rw[e];decide))
 ·obtain⟨w,z,u⟩:=n;obtain⟨f,d⟩:=u e;have v:a=x.1+1:=i.trans (bn (k:= .i64) kM);have next:∀b:Bool,(b=true->tpB (l.getD x.1.toNat iE))->(0<=a/\a<=l.length/\(b=true->l.length<=20/\∀j:Nat,(j:Int) < a->tpB (l.getD j iE)))/\((l.length:Int) - a).toNat < ((l.length:Int) - x.1).toNat:=fun b s=>by
   refine⟨⟨by omega,by omega,fun g=>⟨f,fun j c=> ?_⟩⟩,by omega⟩;by_cases o:(j:Int) < x.1
   ·exact d j o
   ·have k:=s g;rwa [show x.1.toNat=j by omega]at k
  exact bH (fun p=>aH aj aj (bH (fun m=>aH aj aj (af (next _ fun _=>⟨((uY _).2 p).1,((uY _).2 p).2,((uY _).2 m).1,((uY _).2 m).2⟩))) (fun _=>af (next _ fun e=>by cases e)))) (fun _=>af (next _ fun e=>by cases e))
 ·intro _;obtain⟨f,d⟩:=n.2.2 e;refine⟨f,fun y q=> ?_⟩;obtain⟨j,c,rfl⟩:=Qbu.1 q;have k:=d j aj;rwa [List.getD,Qas c]at k
theorem ajZ (l:List Tape):Is (lwTapes l):=(OT l).1
def anV:bi Z:=E0 [apT] [jS 3 (bD (fun b=>[s0 4, s0 3]) QA)] (a1 (aLf cd_LTape)) hh2 [] func5 1 lwTapes fun a=>ajZ a
def rpWrite (s:ax)(l:List Tape):Pg (List UInt8×Int):=.br (decide (1024 < (↑l.length:Int))) (.ret ([],3)) (.cut (fun(n:Unit)=> aL l (.each false mg l iE (fun g e (a:List Int)=> .ix g l.length (.ob (frQ e) (.lt (anA s e (aQ .i64 (g+1))) fun c=> aL c (.each false mg c jV (fun k i (d:List Int)=> .ix k c.length (.ob (okFr i) (.lt (akA i) fun b=> .br (b.2 !=0) (.ret (.inr (.inr ([],b.2)))) (.ob ((dp (bG (d.length+b.1.length) 1)).p/\True) (rl (d++XD b.1)))))) (fun k (d:List Int)=> rl d) a)))) (fun g (a:List Int)=> .ob ((dp (0 < a.length)).p/\(dp ((↑a.length:Int)=(↑a.length:Int)/\0 < (↑a.length:Int)/\BQ (ab2 a) a.length=true)).p/\True) (.ret (Jo a,0))) [])) (aL l (.each false yc l iE (fun j h (m:Unit)=> .ix j l.length (.ob (ckQ s h) (.lt (rH s h) fun f=> .br (f !=0) (.ret (.inr (.inr ([],f)))) (rl ())))) (fun j (m:Unit)=> rl ()) ())))
def agn (s:ax)(l:List Tape):=(rpWrite s l).val
def af2 (s:ax):Pg (List UInt8×Int):=.cut (fun(a:Unit)=> .as (0<=9223372036854775807) (.ob ((dp ((0:Int)=0)).p/\True) (.ret ([],0)))) (.as (0<=9223372036854775807) (rl ()))
def ag3 (s:ax):=(af2 s).val
theorem Yg (s:ax):∀(a b:List Tape) (k:Nat),ji s k (a++b)=ji s k a++ji s (k+a.length) b
 | [],b,k=>rfl
 | t::a,b,k=>by
  simp only[Qbn,ji,Yg s a b (k+1),Yt,JV]
  grind
theorem TP (s:ax){l:List Tape}{k:Nat}(h:k < l.length):ji s 0 (l.take (k+1))=ji s 0 (l.take k)++Ph s (l.getD k iE) ((k+1:Nat):Int):=by
 have e:l.take (k+1)=l.take k++[l.getD k iE]:=by
  simp_all
 rw[e,Yg,Iq,Qdm aj,Bc];simp only[ji,Qa5]
theorem wF {s:ax}:∀{l:List Tape} {k:Nat},(∀t∈l,Ig s t)->(ji s k l).length<=63*l.length/\3*l.length<=(ji s k l).length
 | [],_,_=>⟨pJ _,pJ _⟩
 | t::l,k,h=>by
  obtain⟨_,_,_,_,b,c,_⟩:=h t jQ;have:=wF (l:=l) (k:=k+1) fun u a=>h u (Qax _ a)
  have:=KO s t ((k+1:Nat):Int);simp only[ji,uX,JV];omega
theorem Lr {s:ax}:∀{l:List Tape} {k:Nat},(∀t∈l,Ig s t)->k+l.length<=20->∀f∈ji s k l,goodF f
 | [],_,_,_,f,a=>by cases a
 | t::l,k,h,b,f,a=>by
  simp only[JV]at b;rcases vO.1 a with q | q
  ·exact ahV (h t jQ) ⟨by omega,by omega⟩ f q
  ·exact Lr (fun u c=>h u (Qax _ c)) aj f q
theorem aow (f:Frame):akA f=bif lS f !=0 then([],lS f)else(fQ f,0):=by
 rfl
def ckL (s:ax):List Tape->Int
 | []=>0
 | t::l=>bif rH s t !=0 then rH s t else ckL s l
theorem atA (s:ax){l:List Tape}{k:Nat}(h:k < l.length):ckL s (l.drop k)=bif rH s (l.getD k iE) !=0 then rH s (l.getD k iE)else ckL s (l.drop (k+1)):=by
 have e:l.drop k=l.getD k iE::l.drop (k+1):=by simp_all
 rw[e];rfl
theorem L_ (s:ax):∀{l:List Tape},ckL s l=0->∀t∈l,rH s t=0
 | t::l,h,u,a=>by
  unfold ckL at h;cases b:rH s t !=0 with
  | true=>grind
  | false=>
   rw[b,lL]at h;rcases yw.1 a with rfl | a
   ·simpa using b
   ·exact L_ s h u a
def wrV (s:ax)(l:List Tape):Str×Int:=bif ckL s l !=0 then([],ckL s l)else(BF (ji s 0 l),0)
theorem arO {s:ax}{t:Tape}(l:t.Method.length<=1048576)(d:tpB t)(h:rH s t=0):Ig s t:=by
 have k:VP (rpCheck s t) (fun e=>e=0->(nU s).2=0/\(qZ s t.Method).2=0/\kz t.Status=0):=by
  have f:∀{n:Int} {p:Prop},n≠0->n=0->p:=fun a b=>absurd b a
  unfold rpCheck;refine bf (dG fun y u=>dI (fun _=>aI (f dH)) fun A=>bf (dG fun C B=>dI (fun _=>aI (f dH)) fun z=>bf (dG fun v x=>dI (fun c=>aI (f (by simpa using c))) fun w=> ?_)));have q:(nU s).2=0/\(qZ s t.Method).2=0/\kz t.Status=0:=⟨by grind,by grind,by grind⟩;exact bf (dG fun r _=>dI (fun _=>aI fun _=>q) fun _=>bf (dG fun o _=>dI (fun _=>aI fun _=>q) fun _=>dG fun m _=>dI (fun _=>iG (aI fun _=>q)) fun _=>iG (iG (dI (fun _=>aI fun _=>q) fun _=>aI fun _=>q))))
 obtain⟨D,g,i⟩:=k h;have j:jT s=true:=by
  grind [afA]
 exact⟨l,i,g,ahT j g,d.1,d.2.2.1,d.2.1,d.2.2.2⟩
def wrQ (s:ax)(l:List Tape):Prop:=l.length<=20/\∀t∈l,ckQ s t/\tpB t
theorem P6 {s:ax}{l:List Tape}(h:wrQ s l)(L:l≠[]):gU (rpWrite s l) (fun r=>r=wrV s l):=by
 obtain⟨R,z⟩:=h;unfold rpWrite;refine aU (fun c=>absurd c aj) fun _=>bg (fun _=>ckL s l=0) (bZ (bC (fun k _=>ckL s (l.drop k)=ckL s l) rfl aj (fun k y o i=> ?_) (fun y i=>af (by rw[Qc]at i;exact i.symm)))) (fun S C=> ?_)
 ·rw[atA s o]at i;have N:=(z _ (getD_mem (d:=iE) o)).1;refine aH aj aj (ah N (au fun K e=>bH (fun c=>af ?_) fun c=>af ?_))
  ·rw[<-e,c,cond_true]at i;show([],K)=wrV s l
   unfold wrV
   grind
  grind
 have I:=L_ s C;have x:∀t∈l,Ig s t:=fun t b=>arO (z t b).1.2.1 (z t b).2 (I t b)
 have w:∀k,∀t∈l.take k,Ig s t:=fun k t b=>x t (Qcw b)
 have q:∀k,∀f∈ji s 0 (l.take k),goodF f:=fun k=>Lr (w k) dm
 refine bZ (bC (fun k y=>y=XD (BF (ji s 0 (l.take k)))) rfl aj (fun k y o i=> ?_) (fun y i=> ?_))
 ·subst i;have v:=q k;have Q:=q (k+1);have F:=TP s o;have H:=(wF (k:=0) (w k)).1;rw[Iq]at H;have E:=(yL v).1;have b:=x _ (getD_mem (d:=iE) o);obtain⟨_,_,_,_,t5,t6,_⟩:=id b;generalize l.getD k iE=t at*;have G:aQ .i64 ((k:Int)+1)=((k+1:Nat):Int):=h_ aj;have p:=ahV b (id:=((k+1:Nat):Int)) ⟨by omega,by omega⟩;refine aH aj aj (ah (arA b) (au fun a m=> ?_));rw[G]at m;have m:a=Ph s t ((k+1:Nat):Int):=m.trans (Jj _ (arA b).1 (arA b).2).2;have T:a.length<=63:=by rw[m,KO];omega
  rw[<-m]at F p;refine bZ (bC (fun j y=>y=XD (BF (ji s 0 (l.take k))++BF (a.take j))) (by rw[Qds];simp only[BF,Qa5]) aj (fun j y O A=> ?_) (fun y A=>af ?_))
  ·subst A;have u:=p _ (getD_mem (d:=jV) O);have P:a.take (j+1)=a.take j++[a.getD j jV]:=by
    simp_all
   have B:=(yL (l:=a.take j) fun g D=>p g (Qcw D)).1;rw[Iq]at B;generalize a.getD j jV=f at*;refine aH aj aj (ah u.1 (au fun J n=> ?_));rw[aow,u.2.1]at n;have n:J=(fQ f,0):=n;subst n;have:=TI u;have:=Vf u;refine bu (fun c=>absurd rfl c) fun _=>ah ⟨room_of (by grind [v_]) (by grind [v_]),trivial⟩ (af ?_);show XD (BF (ji s 0 (l.take k))++BF (a.take j))++XD (fQ f)=_
   rw[P,JY,<-Yt];simp only[BF,Qa5,XD,Qct]
  grind [JY]
 ·rw[Gv]at i;subst i;have v:=q l.length;rw[Gv]at v;have H:=(wF (l:=l) (k:=0) x).2;have E:=(yL v).2;have M:0 < l.length:=Qcj.2 L;refine ah ⟨by show 0 < (XD _).length;rw[v_];omega,⟨rfl,by rw[v_];omega,oL (Wx _) _⟩,trivial⟩ (af ?_);rw[abZ];unfold wrV;rw[C];rfl
theorem aqD (s:ax):Is (af2 s):=by
 unfold af2
 grind [is_as,is_cut,is_ob,is_ret]
theorem ai9 (s:ax)(l:List Tape)(h:wrQ s l/\l≠[]):Is (rpWrite s l):=
 (P6 h.1 h.2).is
def aqH:bi Z:=E1 [Zp,UO,afX,zq,Nb] [jS 4 (bD (fun b=>[s0 21]) iL),jS 12 (bD (fun b=>[s0 34, .tcs (pid (b 9)) 48 [some 5]]) aua),jS 15 (bD (fun b=>[s0 45, .tcs (pid (b 9)) 48 [some 5]]) aua),jS 100010 (bD (fun b=>[]) l0)] aub ac3 [] func6 2 (u2 rpWrite) (fun a=>wrQ a.1 a.2/\a.2≠[]) fun a h=>ai9 a.1 a.2 h
theorem au3 (s:ax):Is (af2 s):=
 aqD s
def aBd:bi Z:=vP Z [Zp,UO,afX,zq,Nb] [jS 600004 (bD (fun _=>List.replicate 2 (.iter 0)) l0),jS 600012 (bD (fun _=>List.replicate 2 (.iter 0)) l0),jS 15 (bD (fun b=>[s0 45, .tcs (pid (b 9)) 48 [some 5]]) aua),jS 100010 (bD (fun b=>[]) l0)] (args aub) (l_ (n:=62) rfl) ac3 [] func6 ntmps6 dM 2 rfl (fun a=>af2 (a.1)) (fun a=>some (a.2=([]:List Tape))) (fun⟨s,l⟩ e h=>by have c:l=([]:List Tape):=h;subst c;show _=_;kernel_rfl) (fun a=>ag3 (a.1)) (fun a h=>⟨au3 (a.1),rfl⟩)
noncomputable def tape1 (l:List Frame)(id:Int):Pg (Tape×Int×Bool):=aL l (.each false mg l jV (fun d b (a:Bool×Tape)=> .ix d l.length (.br (b.Stream !=id) (.ret (.inr (a.2,0,false))) (.br ((d==0) !=(b.Kind==1)) (.ret (.inr (a.2,0,false))) (.br (b.Kind==1) (.ob (okHB b.Data) (.lt (Oq b.Data) fun c=> .br (c.2 !=0) (.ret (.inr (a.2,0,false))) (.br (c.1.oD !=0) (.ret (.inr (a.2,0,false))) (.br (decide (0 < (↑c.1.jO.length:Int))) (.ret (.inr (a.2,0,false))) (.ob (List.length c.1.bz+List.length c.1.Method<=1000000) (rl (a.1,Tape.mk (asA c.1.bz c.1.Method) a.2.In a.2.Out a.2.Status))))))) (.br (b.Kind==2) (.br a.1 (.ob (bG (a.2.Out.length+1) 16) (rl (a.1,Tape.mk a.2.Method a.2.In (a.2.Out++[b.Data]) a.2.Status))) (.ob (bG (a.2.In.length+1) 16) (rl (a.1,Tape.mk a.2.Method (a.2.In++[b.Data]) a.2.Out a.2.Status)))) (.br (b.Kind==3) (.br a.1 (.ret (.inr (a.2,0,false))) (rl (true,a.2))) (.br (b.Kind==4) (.ob (List.length b.Data<=4294967296) (.lt (aQ .i64 (d+1)) fun f=> .lt (tq b.Data) fun e=> .br a.1 (.ret (.inr (Tape.mk a.2.Method a.2.In a.2.Out e.1,f,e.2==0))) (.ret (.inr (Tape.mk a.2.Method a.2.In a.2.Out e.1,f,false))))) (.ret (.inr (a.2,0,false)))))))))) (fun d (a:Bool×Tape)=> .ret (a.2,0,false)) (false,Tape.mk [] [] [] (Status.mk 0 [])))
noncomputable def avX (l:List Frame)(id:Int):Tape×Int×Bool:=(tape1 l id).val
theorem azx {A:Type}{a b:List A}{d:A}{k:Nat}(h:k < a.length):(a++b).getD k d=a.getD k d:=by grind
def tpI (t:Tape)(k:Nat)(y:Bool×Tape):Prop:=
 (k=0/\y=(false,Tape.mk [] [] [] (Status.mk 0 [])))\/(∃j,j<=t.In.length/\k=j+1/\y=(false,Tape.mk t.Method (t.In.take j) [] (Status.mk 0 [])))\/∃j,j<=t.Out.length/\k=t.In.length+2+j/\y=(true,Tape.mk t.Method t.In (t.Out.take j) (Status.mk 0 []))
theorem Ze {s:ax}{t:Tape}{id:Int}{r:List Frame}(h:Ig s t)(O:1<=id/\id<=2147483647)(K:r.length<=2147483648):gU (tape1 (Ph s t id++r) id) (fun x=>x=(t,((Ph s t id).length:Int),true)):=by
 obtain⟨o,p,C,P,I⟩:=UU h;have hread:Oq (frH t)=_:=(Gi o).2;obtain⟨_,m,_,G,D,N,_⟩:=h;obtain⟨B,J⟩:=Ar m;have n:tq (oV t.Status)=(t.Status,0):=by rw[B];exact arI m
 have A:=KO s t id;have H:(Ph s t id++r).length=(Ph s t id).length+r.length:=uX;have g0:(Ph s t id++r).getD 0 jV=Frame.mk 1 id (Oh s t) (frH t):=rfl;have v:∀j,j < t.In.length->(Ph s t id++r).getD (j+1) jV=Frame.mk 2 id 0 (t.In.getD j []):=fun j a=>by
  rw[azx aj];show(_++_:List Frame).getD j jV=_
  grind
 have z:(Ph s t id++r).getD (t.In.length+1) jV=Frame.mk 3 id 0 []:=by
  rw[azx aj];show(_++_:List Frame).getD t.In.length jV=_
  grind
 have w:∀j,j < t.Out.length->(Ph s t id++r).getD (t.In.length+2+j) jV=Frame.mk 2 id 0 (t.Out.getD j []):=fun j a=>by
  rw[azx aj,show t.In.length+2+j=(t.In.length+(j+1))+1 by omega];show(_++_:List Frame).getD (t.In.length+(j+1)) jV=_
  grind
 have u:(Ph s t id++r).getD (t.In.length+2+t.Out.length) jV=Frame.mk 4 id 0 (oV t.Status):=by
  rw[azx aj,show t.In.length+2+t.Out.length=(t.In.length+(t.Out.length+1))+1 by omega];show(_++_:List Frame).getD (t.In.length+(t.Out.length+1)) jV=_
  simp_all
 have Q:∀{l:List Str} {j:Nat},j < l.length->l.take j++[l.getD j []]=l.take (j+1):=fun{l j} a=>by
  simp_all
 unfold tape1;generalize Ph s t id++r=L at*;refine bZ (bC (tpI t) (.inl ⟨rfl,rfl⟩) aj (fun k y M d=> ?_) (fun y d=> ?_))
 ·rcases d with⟨rfl,rfl⟩ | ⟨j,a,rfl,rfl⟩ | ⟨j,a,rfl,rfl⟩
  ·rw[g0];refine aH aj aj (bu (fun c=>absurd rfl c) fun _=>bH (fun c=>absurd c (show ¬(((0:Int)==0) !=((1:Int)==1))=true by decide)) fun _=>bI (fun _=>ah ⟨_,_,o⟩ (au fun F b=> ?_)) (fun c=>absurd rfl c));have b:=b.trans hread;subst b;refine bu (fun c=>absurd rfl c) fun _=>bu (fun c=>absurd rfl c) fun _=>aU (fun c=>absurd c (Int.lt_irrefl 0)) fun _=>ah (show(frA t).length+(frB t).length<=1000000 by omega) (af (.inr (.inl ⟨0,Gw _,rfl,?_⟩)));have e:asA (frA t) (frB t)=t.Method:=by
    rw[p];unfold asA path;simp_all
   grind
  ·rcases Qdu j t.In.length with q | q
   ·rw[v j q];refine aH aj aj (bu (fun c=>absurd rfl c) fun _=>bH (fun c=>absurd c dm) fun _=>bI (fun c=>absurd (show(2:Int)=1 from c) dH) fun _=>bI (fun _=>bH (fun c=>absurd c Bool.false_ne_true) fun _=>ah (room_of dm dm) (af (.inr (.inl ⟨j+1,q,rfl,?_⟩)))) (fun c=>absurd rfl c))
    grind
   ·obtain rfl:j=t.In.length:=by omega
    rw[z];refine aH aj aj (bu (fun c=>absurd rfl c) fun _=>bH (fun c=>absurd c dm) fun _=>bI (fun c=>absurd (show(3:Int)=1 from c) dH) fun _=>bI (fun c=>absurd (show(3:Int)=2 from c) dH) fun _=>bI (fun _=>bH (fun c=>absurd c Bool.false_ne_true) fun _=>af (.inr (.inr ⟨0,Gw _,rfl,?_⟩))) (fun c=>absurd rfl c))
    grind
  ·rcases Qdu j t.Out.length with q | q
   ·rw[w j q];refine aH aj aj (bu (fun c=>absurd rfl c) fun _=>bH (fun c=>absurd c dm) fun _=>bI (fun c=>absurd (show(2:Int)=1 from c) dH) fun _=>bI (fun _=>bH (fun _=>ah (room_of dm dm) (af (.inr (.inr ⟨j+1,q,rfl,?_⟩)))) fun c=>absurd c (show ¬true=false by decide)) (fun c=>absurd rfl c))
    grind
   ·obtain rfl:j=t.Out.length:=by omega
    rw[u];refine aH aj aj (bu (fun c=>absurd rfl c) fun _=>bH (fun c=>absurd c dm) fun _=>bI (fun c=>absurd (show(4:Int)=1 from c) dH) fun _=>bI (fun c=>absurd (show(4:Int)=2 from c) dH) fun _=>bI (fun c=>absurd (show(4:Int)=3 from c) dH) fun _=>bI (fun _=>ah (show(oV t.Status).length<=4294967296 by omega) (au fun i g=>au fun E f=>bH (fun _=>af ?_) fun c=>absurd c (show ¬true=false by decide))) (fun c=>absurd rfl c));have f:=f.trans n;subst f;have g:i=((Ph s t id).length:Int):=by
     rw[g,h_ aj,A];omega
    show(Tape.mk t.Method t.In (t.Out.take t.Out.length) t.Status,i,true)=_
    rw[Gv,g]
 ·rcases d with⟨e,_⟩ | ⟨j,a,e,_⟩ | ⟨j,a,e,_⟩<;>omega
def okTp (l:List Frame)(id:Int):Prop:=∃s t r,Ig s t/\(1<=id/\id<=2147483647)/\r.length<=2147483648/\l=Ph s t id++r
theorem an_ {l:List Frame}{id:Int}(h:okTp l id):Is (tape1 l id):=by
 obtain⟨s,t,r,a,b,c,rfl⟩:=h;exact(Ze a b c).is
theorem auY (l:List Frame)(id:Int)(h:okTp l id):Is (tape1 l id):=
 an_ h
noncomputable def ay5:bi Z:=E1 [am4,aDa,Ub] [jS 4 (bD (fun b=>[s0 17, s0 8, .cells (pid (b 7)) [none,some 9,some 9,none,none]]) (aJ cI (aJ cBool (l1 cd_Tape))))] (aCons (aLf cd_LFrame) hh5) (shr [.slot 0 true (nn 5), s0 1, s0 2] (aJ cd_Tape QA)) [] func24 3 (u2 tape1) (fun a=>okTp a.1 a.2) fun a h=>auY a.1 a.2 h
def texts (a:List Str)(b:List Str):Pg Bool:=aL a (aL b (.wh (a.length+1) default (fun(c:Int×Bool)=> .br c.2 (aL a (.br (decide (c.1 < (↑a.length:Int))) (.ix c.1 a.length (.ix c.1 b.length (rl (aQ .i64 (c.1+1),a.getD c.1.toNat []==b.getD c.1.toNat [])))) (.ret (.inr c.2)))) (.ret (.inr c.2))) (0,(↑a.length:Int)==(↑b.length:Int))))
def avY (a:List Str)(b:List Str):=(texts a b).val
theorem NZ {a b:List Str}(h:a=b/\a.length<=67108864):gU (texts a b) (fun r=>r=true):=by
 obtain⟨rfl,j⟩:=h;unfold texts;refine bZ (bZ (kQ (fun x=>0<=x.1/\x.1<=a.length/\x.2=true) (fun x=>(a.length - x.1).toNat) ⟨N8 _,by show(0:Int)<=_;omega,by simp⟩ (by show((a.length:Int) - 0).toNat < _;omega) (fun x f=> ?_)));obtain⟨i,b⟩:=x;obtain⟨e,g,d⟩:=f;dsimp only at e g d⊢;subst d;refine bH (fun _=>bZ (aU (fun q=>aH aj aj (aH aj aj (af ?_))) fun _=>af rfl)) (fun c=>absurd c dH);have w:aQ .i64 (i+1)=i+1:=bn (k:= .i64) kM;exact⟨⟨by show 0<=aQ .i64 (i+1);omega,by show aQ .i64 (i+1)<=_;omega,by simp⟩,by show((a.length:Int) - aQ .i64 (i+1)).toNat < ((a.length:Int) - i).toNat;omega⟩
def tpS (t:Tape):Prop:=t.In.length<=67108864/\t.Out.length<=67108864
theorem as5 (a:List Str)(b:List Str)(h:a=b/\a.length<=67108864):Is (texts a b):=
 (NZ h).is
def aA1:bi Z:=E1 [] [jS 3 (bD (fun b=>[s0 6, s0 5]) QA)] (aCons (aLf cd_Lstr) aib) hh2 [] func57 1 (u2 texts) (fun a=>a.1=a.2/\a.1.length<=67108864) fun a h=>as5 a.1 a.2 h
def sameTape (a:Tape)(b:Tape):Pg Bool:=.br (a.Method==b.Method) (.br (a.Status.Code==b.Status.Code && (a.Status.Text==b.Status.Text && true)) (.ob (a.In=b.In/\a.In.length<=67108864) (.br (avY a.In b.In) (.ob (a.Out=b.Out/\a.Out.length<=67108864) (.ret (avY a.Out b.Out))) (.ret false))) (.ret false)) (.ret false)
def anK (a:Tape)(b:Tape):=(sameTape a b).val
theorem KI {a b:Tape}(h:a=b/\tpS a):gU (sameTape a b) (fun r=>r=true):=by
 obtain⟨rfl,d,e⟩:=h;unfold sameTape;exact bI (fun _=>bH (fun _=>ah ⟨rfl,d⟩ (bH (fun _=>ah ⟨rfl,e⟩ (af (NZ ⟨rfl,e⟩).2)) (fun c=>absurd (c.symm.trans (NZ ⟨rfl,d⟩).2) dH))) (fun c=>absurd c jQ)) (fun c=>absurd rfl c)
theorem agf (a:Tape)(b:Tape)(h:a=b/\tpS a):Is (sameTape a b):=
 (KI h).is
def ah7:bi Z:=E1 [aA1] [] (aCons (aAgg cd_Tape) (a1 (aAgg cd_Tape))) hh2 [] func25 1 (u2 sameTape) (fun a=>a.1=a.2/\tpS a.1) fun a h=>agf a.1 a.2 h
def same (a:List Tape)(b:List Tape):Pg Bool:=aL a (aL b (.wh (a.length+1) default (fun(c:Int×Bool)=> .br c.2 (aL a (.br (decide (c.1 < (↑a.length:Int))) (.ix c.1 a.length (.ix c.1 b.length (.ob (a.getD c.1.toNat iE=b.getD c.1.toNat iE/\tpS (a.getD c.1.toNat iE)) (rl (aQ .i64 (c.1+1),anK (a.getD c.1.toNat iE) (b.getD c.1.toNat iE)))))) (.ret (.inr c.2)))) (.ret (.inr c.2))) (0,(↑a.length:Int)==(↑b.length:Int))))
def aHL (a:List Tape)(b:List Tape):=(same a b).val
def tpL (a b:List Tape):Prop:=a=b/\a.length<=67108864/\∀t∈a,tpS t
theorem ags {a b:List Tape}(h:tpL a b):gU (same a b) (fun r=>r=true):=by
 obtain⟨rfl,m,g⟩:=h;unfold same;refine bZ (bZ (kQ (fun x=>0<=x.1/\x.1<=a.length/\x.2=true) (fun x=>(a.length - x.1).toNat) ⟨N8 _,by show(0:Int)<=_;omega,by simp⟩ (by show((a.length:Int) - 0).toNat < _;omega) (fun x j=> ?_)));obtain⟨i,b⟩:=x;obtain⟨f,l,e⟩:=j;dsimp only at f l e⊢;subst e;refine bH (fun _=>bZ (aU (fun q=> ?_) fun _=>af rfl)) (fun c=>absurd c dH);have d:a.getD i.toNat iE=a.getD i.toNat iE/\tpS (a.getD i.toNat iE):=⟨rfl,g _ (getD_mem aj)⟩;have w:aQ .i64 (i+1)=i+1:=bn (k:= .i64) kM;exact aH aj aj (aH aj aj (ah d (af ⟨⟨by show 0<=aQ .i64 (i+1);omega,by show aQ .i64 (i+1)<=_;omega,(KI d).2⟩,by show((a.length:Int) - aQ .i64 (i+1)).toNat < ((a.length:Int) - i).toNat;omega⟩)))
theorem azf (a:List Tape)(b:List Tape)(h:tpL a b):Is (same a b):=
 (ags h).is
def aEc:bi Z:=E1 [ah7] [jS 3 (bD (fun b=>[s0 6, s0 5]) QA)] (aCons (aLf cd_LTape) (a1 (aLf cd_LTape))) hh2 [] func10 1 (u2 same) (fun a=>tpL a.1 a.2) fun a h=>azf a.1 a.2 h
def tread (b:Str):Pg (List Tape×Int):=.ob (okSp b) (.lt (ak9 b) fun d=> .br (d.2.2 !=0) (.ret ([],d.2.2)) (.br (d.2.1 !=[]) (.ret ([],18)) (.cut (fun(f:List Tape)=> .br (decide (1024 < (↑f.length:Int))) (.ret ([],3)) (.ret (f,0))) (.wh (b.length+1) default (fun(a:List Frame×List Tape)=> .br (decide (0 < (↑a.1.length:Int))) (.lt (aQ .i64 ((↑a.2.length:Int)+1)) fun e=> .ob (okTp a.1 e) (.lt (avX a.1 e) fun c=> .br (!c.2.2) (.ret (.inr (.inr ([],11)))) (.ob (bG (a.2.length+1) 88) (.ob (0<=c.2.1/\c.2.1<=(↑a.1.length:Int)/\(↑a.1.length:Int)<=(↑a.1.length:Int)) (rl (List.drop c.2.1.toNat (List.take a.1.length a.1),a.2++[c.1])))))) (.ret (.inr (.inl a.2)))) (d.1,[])))))
def au_ (a:Str):=(tread a).val
def aDG (s:ax)(l:List Tape):Prop:=l.length<=20/\(∀t∈l,Ig s t)/\∀f∈ji s 0 l,goodF f
theorem Zb {s:ax}{l:List Tape}(h:aDG s l):gU (tread (BF (ji s 0 l))) (fun r=>r=(l,0)):=by
 obtain⟨z,i,q⟩:=h;have F:=(wF (k:=0) i).1;have e:aDl (ji s 0 l):=⟨by omega,q⟩;have v:ak9 (BF (ji s 0 l))=(ji s 0 l,[],0):=(Uw e).2;have w:=(yL q).2;unfold tread;refine ah ⟨_,e,rfl⟩ (au fun G g=> ?_);have g:=g.trans v;subst g;refine bu (fun c=>absurd rfl c) fun _=>bu (fun c=>absurd rfl c) fun _=>bg (fun y=>y=l) (kQ (fun x=>∃a b,l=a++b/\x=(ji s a.length b,a)) (fun x=>x.1.length) ⟨[],l,rfl,rfl⟩ (Nat.lt_succ_of_le w) (fun x C=> ?_)) (fun y m=>aU (fun c=>absurd c (by rw[m];omega)) fun _=>af (by rw[m]));obtain⟨a,b,rfl,rfl⟩:=C;cases b with
 | nil=>exact aU (fun c=>absurd c (Int.lt_irrefl 0)) fun _=>af (Qa5 a).symm
 | cons t b=>
  have p:=i t jQ;have I:=(wF (s:=s) (l:=b) (k:=a.length+1) fun u B=>i u (by simp[B])).1;rw[uX,JV]at z;have H:=KO s t ((a.length+1:Nat):Int);have D:(ji s a.length (t::b)).length=(Ph s t ((a.length+1:Nat):Int)).length+(ji s (a.length+1) b).length:=uX;refine aU (fun _=>au fun A f=> ?_) (fun c=>absurd (show(0:Int) < ((ji s a.length (t::b)).length:Int) by omega) c);have f:A=((a.length+1:Nat):Int):=f.trans (h_ (k:=a.length) aj);subst f;have d:1<=((a.length+1:Nat):Int)/\((a.length+1:Nat):Int)<=2147483647:=⟨by omega,by omega⟩;have n:avX (ji s a.length (t::b)) _=_:=(Ze p d (r:=ji s (a.length+1) b) aj).2;refine ah ⟨s,t,_,p,d,by omega,rfl⟩ (au fun E j=> ?_);have j:=j.trans n;subst j;have o:List.drop ((Ph s t ((a.length+1:Nat):Int)).length:Int).toNat (List.take (ji s a.length (t::b)).length (ji s a.length (t::b)))=ji s (a.length+1) b:=by
   rw[Gv,qA];exact Qc1
  dsimp only;refine bH (fun c=>absurd c (show ¬(!true)=true by decide)) fun _=>ah (room_of aj aj) (ah ⟨by omega,by omega,by omega⟩ (af ⟨⟨a++[t],b,by simp,Qcr ?_ rfl⟩,?_⟩))
  ·rw[uX];exact o
  ·show(List.drop _ _).length < _
   rw[o];omega
def okRd1 (d:Str):Prop:=∃s l,aDG s l/\d=BF (ji s 0 l)
theorem apO {d:Str}(h:okRd1 d):Is (tread d):=by
 obtain⟨s,l,h,rfl⟩:=h;exact(Zb h).is
def aDS (s:ax)(l:List Tape):Str×Int:=bif l.isEmpty then ag3 s else agn s l
def aG8:bi Z:=⟨6,qQ (args aub) ac3 2 [] (fun a=>some (wrQ a.1 a.2)) (fun a=>aDS a.1 a.2),by
  have c:CtOk Z.P Z.S 6 (qQ (args (aCons (aAgg cd_Schema) (a1 (aLf cd_LTape)))) (shr [s0 0, s0 1] (aJ cStr (l1 cI))) 2 [] (fun a=>some (a.2.isEmpty=true/\wrQ a.1 a.2)) (fun a=>ag3 a.1)):=oh (fun _=>aBd.ok) _ _ (fun a h=>⟨0,List.isEmpty_iff.1 h.1,rfl⟩);have b:CtOk Z.P Z.S 6 (qQ (args (aCons (aAgg cd_Schema) (a1 (aLf cd_LTape)))) (shr [s0 0, s0 1] (aJ cStr (l1 cI))) 2 [] (fun a=>some (a.2.isEmpty=false/\wrQ a.1 a.2)) (fun a=>agn a.1 a.2)):=oh (fun _=>aqH.ok) _ _ (fun a h=>⟨0,⟨h.2,fun e=>absurd h.1 (by rw[e];decide)⟩,rfl⟩);exact aDo c b⟩
theorem aDY {s:ax}{l:List Tape}(h:wrQ s l):aDS s l=wrV s l:=by
 cases l with
 | nil=>rfl
 | cons t l=>exact(P6 h jQ).2
theorem asl (a:Str)(h:okRd1 a):Is (tread a):=
 apO h
def axJ:bi Z:=E1 [avt,ay5] [jS 7 (bD (fun b=>[s0 4, .slot 7 false [some 43]]) (aJ cd_LFrame (l1 cd_LTape))),jS 100013 (bD (fun b=>[.slot 7 false [some 43]]) (l1 cd_LTape))] hh1 (shr aeR (aJ cd_LTape iL)) [] func9 2 tread (fun a=>okRd1 a) fun a h=>asl a h
def rput (u:Int):Pg (List UInt8):=.wh (u.toNat+1) default (fun(a:Int×List Int)=> .br (decide (128<=a.1)) (.ob ((128:Int)≠0) (.ob (bG (a.2.length+1) 1) (.ob ((128:Int)≠0) (rl (aQ .u64 (a.1.tdiv 128),a.2++[aQ .u8 (aQ .u64 (a.1.tmod 128+128))]))))) (.ob (bG (a.2.length+1) 1) (.lt (a.2++[aQ .u8 a.1]) fun(b:List Int)=> .ob (BQ (fun(i:Nat)=>true) b.length=true) (.ret (.inr (Jo b)))))) (u,[])
def GG (u:Int):=(rput u).val
theorem agk {u:Int}(h:isU64 u):jK (vput u) (rput u) (fun x y=>y=x):=by
 have h:0<=u/\u < 18446744073709551616:=h;obtain⟨x,rfl⟩:∃x:Nat,u=(x:Int):=⟨u.toNat,by omega⟩;have k:x < 18446744073709551616:=by omega
 unfold vput rput;refine al8 (fun X Y=>X=Y/\avQ Y) (fun X=>X.1.toNat) ⟨rfl,x,rfl,Gw _,k⟩ aj aj (fun X Y c=> ?_);obtain⟨rfl,c⟩:=c;obtain⟨i,b⟩:=X;obtain⟨x,rfl,d,a⟩:=c;dsimp only at d a⊢;rw[ry,VA x (azX a),aql x (azX a),anu x (azX a)];refine fG rfl (fun e=>dB (dB (cO aj (cO (room_of aj aj) (cO aj (bF ?_)))))) (fun _=>dB (dP fun f g=>dB (cO (room_of aj aj) (dL fun j f4=>cO (oL (fun _=>rfl) _) (bF (by show Jo j=Jo f;rw[f4,g]))))));have e:=Dt e;exact⟨⟨rfl,WX d a aj⟩,by omega⟩
theorem aAh (u:Int)(h:isU64 u):Is (rput u):=
 (agk h).1
def UF:bi Z:=E1 [] [jS 2 (bD (fun b=>[s0 0, .slot 3 false [some 5]]) (aJ (cInt .u64) (l1 Ul)))] Qw Dp [] func87 1 rput (fun a=>isU64 a) fun a h=>aAh a h
theorem vS {u:Int}(h:isU64 u):GG u=cZ u:=(agk h).2
theorem avh {u:Int}(h:isU64 u):(GG u).length<=10:=by rw[vS h];exact iI _ h
theorem uT (x:Nat)(a:x < 4294967296):GH (x:Int)=((x_.getD (x % 16) 0:Nat):Int):=by
 unfold GH half;rw[aV,ay];have e:nT .u32 (x:Int) 15=((x &&& 15:Nat):Int):=Am (k:= .u32) rfl (y:=15) a dH;rw[e,show x &&& 15=x % 16 from Qc3 x 4,qA];have b:∀i,i < 16->([0,498536548,997073096,651767980,1994146192,1802195444,1303535960,1342533948,3988292384,
      4027552580,3604390888,3412177804,2607071920,2262029012,2685067896,3183342108]:List Int).getD i 0=((x_.getD i 0:Nat):Int):=by decide
 grind
theorem ahP (i:Nat):x_.getD (i % 16) 0 < 4294967296:=by
 have a:∀i,i < 16->x_.getD i 0 < 4294967296:=by decide
 grind
def UV (r:Nat)(c:UInt8):Nat:=rf 3988292384 (rf 3988292384 r c.toNat) (c.toNat / 16)
theorem Ko {p r c:Nat}(a:p < 4294967296)(b:r < 4294967296):QD p r c < 4294967296:=by
 unfold QD;cases r % 2 !=c % 2
 ·grind
 ·simp only[cond_true];exact Qdo (n:=32) aj a
theorem afN {p r c:Nat}(a:p < 4294967296)(b:r < 4294967296):rf p r c < 4294967296:=Ko a (Ko a (Ko a (Ko a b)))
theorem adr {r:Nat}{c:UInt8}(a:r < 4294967296):UV r c < 4294967296:=afN dH (afN dH a)
theorem alT {x y:Nat}(b:x < 4294967296)(a:y < 4294967296):mJ .u32 (x:Int) (y:Int)=((x ^^^ y:Nat):Int):=Tu (k:= .u32) rfl b a
theorem aG6 (x:Nat):lN .u32 (x:Int) 4=((x / 16:Nat):Int):=EJ (k:= .u32) x 4 dH
theorem aJg (r c:Nat)(b:c < 256):(((r ^^^ c) / 16 ^^^ x_.getD ((r ^^^ c) % 16) 0) / 16) ^^^ x_.getD (((r ^^^ c) / 16 ^^^ x_.getD ((r ^^^ c) % 16) 0) % 16) 0=rf 3988292384 (rf 3988292384 r c) (c / 16):=by
 have a:(r ^^^ c) / 16 ^^^ x_.getD ((r ^^^ c) % 16) 0=rf 3988292384 r c ^^^ (c / 16):=by
  rw[nib];have:(r ^^^ c) / 16=r / 16 ^^^ c / 16:=Nat.xor_div_two_pow (n:=4)
  grind
 rw[a,nib (rf 3988292384 r c) (c / 16)];have:(rf 3988292384 r c ^^^ c / 16) / 16=rf 3988292384 r c / 16 ^^^ c / 16 / 16:=Nat.xor_div_two_pow (n:=4);rw[this,show c / 16 / 16=0 by omega,Nat.xor_zero]
def rcrc (s:Str):Pg Int:=.each true mg s 0 (fun c f (b:Int)=> .ix c (List.length s) (.lt (aQ .u64 (↑f.toNat:Int)) fun e=> .cnt mg 0 8 (fun d (a:Int×Int)=> .ob ((2:Int)≠0) (.ob ((2:Int)≠0) (.ob ((2:Int)≠0) (.ob ((2:Int)≠0) (.br (a.1.tmod 2 !=a.2.tmod 2) (rl (mJ .u64 (aQ .u64 (a.1.tdiv 2)) 3988292384,aQ .u64 (a.2.tdiv 2))) (rl (aQ .u64 (a.1.tdiv 2),aQ .u64 (a.2.tdiv 2)))))))) (fun d (a:Int×Int)=> rl a.1) (b,e))) (fun(c b:Int)=> .ret (aQ .u64 (4294967295 - b))) 4294967295
def adl (s:Str):=(rcrc s).val
def aFI:bi Z:=E0 [] [jS 3 (bD (fun b=>[s0 4, s0 3]) (aJ cI (l1 (cInt .u64)))),jS 7 (bD (fun b=>[s0 6, s0 3, s0 5]) aBE)] hh1 aky [] func142 1 rcrc
theorem auL (r:Nat)(c:UInt8)(d:r < 4294967296):mJ .u32 (lN .u32 (mJ .u32 (lN .u32 (mJ .u32 (r:Int) (aQ .u32 (c.toNat:Int))) 4) (GH (mJ .u32 (r:Int) (aQ .u32 (c.toNat:Int))))) 4) (GH (mJ .u32 (lN .u32 (mJ .u32 (r:Int) (aQ .u32 (c.toNat:Int))) 4) (GH (mJ .u32 (r:Int) (aQ .u32 (c.toNat:Int))))))=((UV r c:Nat):Int):=by
 have a:=c.toNat_lt;have w:aQ .u32 (c.toNat:Int)=(c.toNat:Int):=kE (k:= .u32) rfl (Qdv a dH);have e:r ^^^ c.toNat < 4294967296:=Qdo (n:=32) d aj;have b:(r ^^^ c.toNat) / 16 ^^^ x_.getD ((r ^^^ c.toNat) % 16) 0 < 4294967296:=Qdo (n:=32) aj (ahP _);rw[w,alT d aj,aG6,uT _ e,alT aj (ahP _),aG6,uT _ b,alT aj (ahP _),aJg r c.toNat a];rfl
def aER (s:Str):Nat:=s.foldl UV 4294967295
theorem awC (x:Nat)(h:x < 4294967296):4294967295 ^^^ x=4294967295 - x:=by
 have e:(BitVec.allOnes 32 ^^^ BitVec.ofNat 32 x).toNat=(~~~ (BitVec.ofNat 32 x)).toNat:=by rfl
 grind
theorem axP (s:Str):aeo s=((4294967295 - aER s:Nat):Int):=by
 have d:∀(s:Str) (k r:Nat),r < 4294967296->iH (fun(i:Nat) (b:UInt8) (a:Int)=>(Sum.inl (mJ .u32 (lN .u32 (mJ .u32 (lN .u32 (mJ .u32 a (aQ .u32 (b.toNat:Int))) 4) (GH (mJ .u32 a (aQ .u32 (b.toNat:Int))))) 4) (GH (mJ .u32 (lN .u32 (mJ .u32 a (aQ .u32 (b.toNat:Int))) 4) (GH (mJ .u32 a (aQ .u32 (b.toNat:Int))))))):Int⊕Int))
   (fun(_:Nat) (a:Int)=>aQ .u64 (mJ .u32 (if IntKind.u32.signed=true then(-1)else IntKind.u32.max) a)) s k (r:Int)=((4294967295 - s.foldl UV r:Nat):Int):=by
  intro s;induction s with
  | nil=>
   intro k r e;show aQ .u64 (mJ .u32 ((4294967295:Nat):Int) (r:Int))=_
   rw[alT dH e,awC r e];exact kE (k:= .u64) rfl (Qcq (Nat.sub_le _ _) dH)
  | cons c s f=>
   grind [auL,adr,iH]
 exact d s 0 4294967295 dH
def ao9 (x:Nat×Nat):Nat×Nat:=(QD 3988292384 x.1 x.2,x.2 / 2)
def itN:Nat->Nat×Nat->Nat×Nat
 | 0,x=>x
 | n+1,x=>itN n (ao9 x)
theorem arb (r c:Nat)(h:r < 4294967296)(g:c < 256):(bif (r:Int).tmod 2 !=(c:Int).tmod 2 then(Sum.inl (mJ .u64 (aQ .u64 ((r:Int).tdiv 2)) 3988292384,aQ .u64 ((c:Int).tdiv 2)):(Int×Int)⊕(Int⊕Int))else .inl (aQ .u64 ((r:Int).tdiv 2),aQ .u64 ((c:Int).tdiv 2)))= .inl (((ao9 (r,c)).1:Int),((ao9 (r,c)).2:Int)):=by
 have b:(r:Int).tmod 2=((r % 2:Nat):Int):=KF r 2;have d:(c:Int).tmod 2=((c % 2:Nat):Int):=KF c 2;have f:aQ .u64 ((r:Int).tdiv 2)=((r / 2:Nat):Int):=kE (k:= .u64) rfl (n:=r / 2) (by show r / 2 < 2 ^ 64;omega);have a:aQ .u64 ((c:Int).tdiv 2)=((c / 2:Nat):Int):=kE (k:= .u64) rfl (n:=c / 2) (by show c / 2 < 2 ^ 64;omega);have e:mJ .u64 ((r / 2:Nat):Int) 3988292384=(((r / 2) ^^^ 3988292384:Nat):Int):=Tu (k:= .u64) rfl (y:=3988292384) (by show r / 2 < 2 ^ 64;omega) dH;rw[b,d,f,a,e];unfold ao9 QD
 grind
theorem aeh (s:Str):adl s=((4294967295 - aER s:Nat):Int):=by
 have h:∀(n:Nat) (i:Int) (r c:Nat),r < 4294967296->c < 256->∃b f:Nat,b < 4294967296/\f < 256/\itN n (r,c)=(b,f)/\
   lu (fun(_:Int) (a:Int×Int)=>(bif a.1.tmod 2 !=a.2.tmod 2 then(Sum.inl (mJ .u64 (aQ .u64 (a.1.tdiv 2)) 3988292384,aQ .u64 (a.2.tdiv 2)):(Int×Int)⊕(Int⊕Int))else .inl (aQ .u64 (a.1.tdiv 2),aQ .u64 (a.2.tdiv 2)))) (fun(_:Int) (a:Int×Int)=>(Sum.inl a.1:Int⊕Int)) n i ((r:Int),(c:Int))= .inl (b:Int):=by
  intro n;induction n with
  | zero=>intro i r c d g;exact⟨r,c,d,g,rfl,rfl⟩
  | succ n o=>
   intro i r c d g;obtain⟨b,f,m,p,l,t⟩:=o (i+1) (ao9 (r,c)).1 (ao9 (r,c)).2 (Ko dH d) (by show c / 2 < 256;omega);refine⟨b,f,m,p,l,?_⟩
   grind [arb,lu]
 have q:∀(s:Str) (k r:Nat),r < 4294967296->iH (fun(_:Nat) (u:UInt8) (j:Int)=>lu (fun(_:Int) (a:Int×Int)=>(bif a.1.tmod 2 !=a.2.tmod 2 then(Sum.inl (mJ .u64 (aQ .u64 (a.1.tdiv 2)) 3988292384,aQ .u64 (a.2.tdiv 2)):(Int×Int)⊕(Int⊕Int))else .inl (aQ .u64 (a.1.tdiv 2),aQ .u64 (a.2.tdiv 2)))) (fun(_:Int) (a:Int×Int)=>(Sum.inl a.1:Int⊕Int)) ((8:Int) - 0).toNat 0 (j,aQ .u64 (u.toNat:Int)))
   (fun(_:Nat) (j:Int)=>aQ .u64 (4294967295 - j)) s k (r:Int)=((4294967295 - s.foldl UV r:Nat):Int):=by
  intro s;induction s with
  | nil=>
   intro k r d;show aQ .u64 (4294967295 - (r:Int))=((4294967295 - r:Nat):Int)
   have:(4294967295:Int) - (r:Int)=((4294967295 - r:Nat):Int):=by omega
   rw[this];exact kE (k:= .u64) rfl (Qcq (Nat.sub_le _ _) dH)
  | cons c s o=>
   intro k r d;have g:=c.toNat_lt;obtain⟨b,f,m,p,l,t⟩:=h 8 0 r c.toNat d aj;have w:aQ .u64 (c.toNat:Int)=(c.toNat:Int):=kE (k:= .u64) rfl (Qdv g dH);have v:b=UV r c:=by
    have e:(itN 8 (r,c.toNat)).1=rf 3988292384 (rf 3988292384 r c.toNat) (c.toNat / 2 / 2 / 2 / 2):=rfl;rw[l]at e;unfold UV
    grind
   grind [adr,iH]
 exact q s 0 4294967295 dH
theorem aFe (s:Str):aeo s=adl s:=by rw[axP,aeh]
def four (s:Str):Pg (List UInt8):=.ob ((0:Int)<=8) (.ob ((0:Int)<=16) (.ob ((0:Int)<=24) (.ob (BQ (fun(i:Nat)=>true) 4=true) (.lt (adl s) fun a=> .ret (Jo [aQ .u8 a,aQ .u8 (lN .u64 a 8),aQ .u8 (lN .u64 a 16), aQ .u8 (lN .u64 a 24)])))))
def akC (s:Str):=(four s).val
def aDb:bi Z:=E0 [aFI] [] hh1 Dp [] func92 1 four
theorem azB (s:Str):aaP (aeo s) 4=akC s:=by
 rw[low4,aFe];unfold akC four;simp only[aV,aT,ay];have:lN .u64 (adl s) 0=adl s:=by
  rw[aeh];have:=EJ (k:= .u64) (4294967295 - aER s) 0 dH
  grind
 rw[this]
def rshort (s:Str):Pg Bool:=.lt (w_ s) fun a=> .br (a.2.2==0) (.br (a.2.1==(↑(List.length s):Int)) (.ob (isU64 a.1) (.as (List.length s<=9223372036854775807) (.ret (GG a.1==s)))) (.as (List.length s<=9223372036854775807) (.ret false))) (.ret false)
def acr (s:Str):=(rshort s).val
theorem aoQ (s:Str):Is (rshort s):=
 is_lt fun b a=>is_beq (fun _=>is_beq (fun _=>is_ob (by rw[a,<-Jh];exact(Es s).1) (is_as fun _=>is_ret)) (fun _=>is_as fun _=>is_ret)) iR
def ars:bi Z:=E0 [UF,Lj] [] hh1 hh2 [] func141 1 rshort fun a=>aoQ a
def r42Pack (s:Status):Pg (List UInt8):=.ob (List.length s.Text<=9223372036854775700) (.br (MX s !=0) (.ret []) (.lt (aQ .u64 s.Code) fun a=> .ob (isU64 a) (.lt (GG a) fun b=> .ob (List.length b+List.length s.Text<=9223372036854775807) (.ret (b++s.Text)))))
def afk (s:Status):=(r42Pack s).val
def r42Unpack (a:Str):Pg (Status×Int):=.lt (w_ a) fun b=> .br (b.2.2 !=0) (.ret (Status.mk 0 [],b.2.2)) (.ob ((0:Int)<=0/\0<=b.2.1/\b.2.1<=(↑(List.length a):Int)) (.br (!acr (List.take b.2.1.toNat a)) (.ret (Status.mk 0 [],5)) (.br (decide (13 < b.1)) (.ret (Status.mk 0 [],6)) (.ob (0<=b.2.1/\b.2.1<=(↑(List.length a):Int)/\(↑(List.length a):Int)<=(↑(List.length a):Int)) (.lt (List.drop b.2.1.toNat (List.take (List.length a) a)) fun c=> .ob (c.length<=9223372036854775700) (.lt (MX (Status.mk (aQ .i64 b.1) c)) fun d=> .br (d !=0) (.ret (Status.mk 0 [],d)) (.ret (Status.mk (aQ .i64 b.1) c,0))))))))
def IG (a:Str):=(r42Unpack a).val
theorem PO {s:Status}(h:s.Text.length<=1048576):jK (stPack s) (r42Pack s) (fun x y=>y=x):=by
 unfold stPack r42Pack;refine dB (cO aj (fG rfl (fun _=>bF rfl) fun _=>dP fun a b=>dL fun d f1=> ?_));have u:isU64 a:=by rw[b];exact Fv _
 have i:d=a:=f1.trans b.symm;subst i;refine dB (cO u (dP fun g c=>dL fun f f2=> ?_));have e:f=g:=by rw[f2,c,vS u]
 subst e;exact dB (cO (by have:=iI _ u;rw[c];omega) (bF rfl))
theorem ajS {u:Int}(h:isU64 u):acr (cZ u)=true:=by
 have e:=ve h [];rw[Qa5]at e;unfold acr rshort;simp only[aT,aF,aV,dW,ay,<-Jh,e,vS h,beq_self_eq_true,cond_true]
theorem Yk {s:Status}(h:kz s=0):gU (r42Unpack (cZ s.Code++s.Text)) (fun r=>r=(s,0)):=by
 obtain⟨u,_,w⟩:=acI h;have l:=N9 h;have g:=iI _ u;have f:(cZ s.Code++s.Text).length=(cZ s.Code).length+s.Text.length:=uX;unfold r42Unpack;refine au fun i a=> ?_;rw[<-Jh,ve u]at a;subst a;dsimp only;refine bu (fun c=>absurd rfl c) fun _=>ah ⟨by decide,by omega,by omega⟩ ?_;rw[qA,Qde];refine bH (fun c=>absurd c (by rw[ajS u];decide)) fun _=>aU (fun c=>absurd c aj) fun _=>ah ⟨by omega,by omega,by omega⟩ (au fun k b=> ?_);rw[Gv,Qc1]at b;subst b;have e:Status.mk (aQ .i64 s.Code) s.Text=s:=by rw[w]
 rw[e];exact ah aj (au fun j d=>bu (fun c=>absurd (d.trans h) c) fun _=>af rfl)
theorem aiu (s:Status)(h:s.Text.length<=1048576):Is (r42Pack s):=
 (PO h).1
def ant:bi Z:=E1 [H5,UF] [] aAd Dp [] func46 1 r42Pack (fun a=>a.Text.length<=1048576) fun a h=>aiu a h
theorem aca (a:Str)(h:Is (r42Unpack a)):Is (r42Unpack a):=
 h
def aeX:bi Z:=E1 [H5,Lj,ars] [] hh1 (shr ayZ (aJ cd_Status iL)) [] func91 2 r42Unpack (fun a=>Is (r42Unpack a)) fun a h=>aca a h
end
end Go.Proofs.YtenjnekcoapajaaGreatDoor
