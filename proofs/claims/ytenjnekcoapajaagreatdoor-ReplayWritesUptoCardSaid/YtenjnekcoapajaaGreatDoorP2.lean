/- Codecs, the reference: cursors. -/
import Derived.Test.YtenjnekcoapajaaGreatDoorP1
import Derived.Test.YtenjnekcoapajaaGreatDoorEng18
namespace Go.Proofs.YtenjnekcoapajaaGreatDoor
noncomputable section
open Go.RowKit Go.Vc
open Tryz
set_option linter.unusedVariables false
set_option linter.unusedSimpArgs false
set_option maxRecDepth 100000
def rtake (s:Str):Pg (Int×Int×Int):=.cnt mg 0 10 (fun a (b:Int×Int)=> .as (List.length s<=9223372036854775807) (.br (decide ((↑(List.length s):Int)<=a)) (.ret (.inr (0,0,4))) (.ix a (List.length s) (.lt (aQ .u64 (↑(List.getD s a.toNat 0).toNat:Int)) fun c=> .cut (fun(e:Unit)=> .ob ((128:Int)≠0) (.lt (aQ .u64 (b.1+aQ .u64 (c.tmod 128*b.2))) fun d=> .br (decide (c < 128)) (.ret (.inr (d,aQ .i64 (a+1),0))) (rl (d,aQ .u64 (b.2*128))))) (.br (a==9) (.br (decide (1 < c)) (.ret (.inr (.inr (0,0,6)))) (rl ())) (rl ())))))) (fun a (b:Int×Int)=> .ret (0,0,6)) (0,1)
def w_ (s:Str):=(rtake s).val
def Lj:bi Z:=E0 [] [jS 3 (bD (fun b=>[s0 7, s0 5, s0 6]) aBE),jS 100010 (bD (fun b=>[]) l0)] hh1 aBo [] func140 3 rtake
theorem auP (s:Str):w_ s=Nj 0 0 (jB 0 s):=by
 have j:∀(k i u:Nat),i+k=10->i<=9->u < 2 ^ (7*i)->lu (fun(a:Int) (b:Int×Int)=>bif decide ((s.length:Int)<=a)then(Sum.inr (0,0,4):(Int×Int)⊕(Int×Int×Int))else thenS (bif a==9 then(bif decide (1 < aQ .u64 ((s.getD a.toNat 0).toNat:Int))then(Sum.inr (.inr (0,0,6)):Unit⊕((Int×Int)⊕(Int×Int×Int)))else .inl ())else .inl ()) fun _=>bif decide (aQ .u64 ((s.getD a.toNat 0).toNat:Int) < 128)then Sum.inr (aQ .u64 (b.1+aQ .u64 ((aQ .u64 ((s.getD a.toNat 0).toNat:Int)).tmod 128*b.2)),aQ .i64 (a+1),0)else .inl (aQ .u64 (b.1+aQ .u64 ((aQ .u64 ((s.getD a.toNat 0).toNat:Int)).tmod 128*b.2)),aQ .u64 (b.2*128))) (fun(_:Int) (_:Int×Int)=>((0:Int),(0:Int),(6:Int))) k (i:Int) ((u:Int),((2 ^ (7*i):Nat):Int))=Nj u i (jB i (s.drop i)):=by
  intro k;induction k with
  | zero=>intro i u h n;omega
  | succ k t=>
   intro i u E n l;unfold lu;dsimp only;by_cases v:s.length<=i
   ·rw[wz (show(s.length:Int)<=(i:Int) by omega),List.drop_eq_nil_of_le v,akS];rfl
   ·rw[pO (show ¬(s.length:Int)<=(i:Int) by omega),lL,qA,drop_at aj];generalize s.getD i 0=c;have A:=c.toNat_lt;have m:aQ .u64 (c.toNat:Int)=(c.toNat:Int):=kE (k:= .u64) rfl (Qdv A dH);rw[m];by_cases d:i=9/\1 < c.toNat
    ·rw[ak6 _ _ _ _ d];have g:((i:Int)==9)=true:=by rw[d.1];rfl
     have f:decide ((1:Int) < (c.toNat:Int))=true:=wz aj;rw[g,f];rfl
    ·have q:(bif (i:Int)==9 then(bif decide ((1:Int) < (c.toNat:Int))then(Sum.inr (.inr (0,0,6)):Unit⊕((Int×Int)⊕(Int×Int×Int)))else .inl ())else .inl ())= .inl ():=by
      by_cases e:i=9
      ·have f:decide ((1:Int) < (c.toNat:Int))=false:=pO aj;rw[f];cases(i:Int)==9<;>rfl
      ·have g:((i:Int)==9)=false:=by rw[Qcz];omega
       rw[g];rfl
     have B:c.toNat % 128 < 128:=Qc7 _ dH;have z:i<=8\/i=9/\c.toNat<=1:=by omega
     obtain⟨o,D,y⟩:=atY l (z.imp id fun h=>⟨h.1,by omega⟩) B;have p:aQ .i64 ((i:Int)+1)=((i+1:Nat):Int):=h_ aj;have w:aQ .u64 ((c.toNat:Int).tmod 128*((2 ^ (7*i):Nat):Int))=((c.toNat % 128*2 ^ (7*i):Nat):Int):=by
      have:(c.toNat:Int).tmod 128=((c.toNat % 128:Nat):Int):=KF _ 128;rw[this,<-Int.natCast_mul];exact kE (k:= .u64) rfl o
     have x:aQ .u64 ((u:Int)+((c.toNat % 128*2 ^ (7*i):Nat):Int))=((u+2 ^ (7*i)*(c.toNat % 128):Nat):Int):=by
      rw[<-Int.natCast_add,Qby (c.toNat % 128)];exact kE (k:= .u64) rfl y
     rw[q,eP,w,x,p];by_cases e:c.toNat < 128
     ·rw[alJ _ _ _ _ d e,wz (show(c.toNat:Int) < 128 by omega)];rfl
     ·rw[afj _ _ _ _ d e,pO (show ¬(c.toNat:Int) < 128 by omega)];have C:i<=8:=by omega
      have r:aQ .u64 (((2 ^ (7*i):Nat):Int)*128)=((2 ^ (7*(i+1)):Nat):Int):=by
       have:((2 ^ (7*i):Nat):Int)*128=((2 ^ (7*(i+1)):Nat):Int):=by
        rw[show 7*(i+1)=7*i+7 by omega,Nat.pow_add,Int.natCast_mul];rfl
       rw[this];exact kE (k:= .u64) rfl (Nat.pow_lt_pow_right dH (show 7*(i+1) < 64 by omega))
      rw[r];exact t (i+1) _ aj aj (aGw l)
 exact j 10 0 0 dH dH dH
theorem Jh (s:Str):nI s=w_ s:=by rw[DY,auP]
theorem YQ:∀(s:Str) (i:Nat),i<=9->jB i (s.take (10 - i))=jB i s
 | [],i,_=>by rw[List.take_nil]
 | c::r,i,h=>by
  rw[show 10 - i=(9 - i)+1 by omega,Qck];unfold jB;by_cases a:i=9/\1 < c.toNat
  ·rw[vJ a,vJ a]
  ·rw[uU a,uU a];by_cases b:c.toNat < 128
   ·rw[vJ b,vJ b]
   ·rw[uU b,uU b,show 9 - i=10 - (i+1) by omega,YQ r (i+1) aj]
theorem ap6 (s:Str):nI (s.take 10)=nI s:=by
 rw[DY,DY];exact II _ (YQ s 0 dH)
def r2Sound (c:ai):Pg Bool:=.br (decide (0<=c.At)) (.br (decide (c.At<=c.End)) (.as (List.length c.Data<=9223372036854775807) (.ret (decide (c.End<=(↑(List.length c.Data):Int))))) (.ret false)) (.ret false)
def Wq (c:ai):=(r2Sound c).val
def ZB:bi Z:=E0 [] [] XC hh2 [] func519 1 r2Sound
theorem akl (c:ai):Wq c=FP c:=rfl
def r2rest (c:ai):Pg (List UInt8):=.br (!Wq c) (.ret []) (.ob (0<=c.At/\c.At<=c.End/\c.End<=(↑(List.length c.Data):Int)) (.ret (List.drop c.At.toNat (List.take c.End.toNat c.Data))))
def Be (c:ai):=(r2rest c).val
theorem apm (c:ai)(h:okC c):Is (r2rest c):=
 is_br iR (fun _=>is_ob (by obtain⟨⟨a,d,e,b⟩,_⟩:=h;omega) (is_ret))
def Eg:bi Z:=E1 [ZB] [] XC Dp [] func461 1 r2rest (fun a=>okC a) fun a h=>apm a h
def r2Left (c:ai):Pg Int:=.ob (okC c) (.lt (Be c) fun a=> .as (List.length a<=9223372036854775807) (.ret (↑(List.length a):Int)))
def yP (c:ai):=(r2Left c).val
def zS:bi Z:=E1 [Eg] [] XC jE [] func357 1 r2Left fun a=>okC a
def r2behind (c:ai)(n:Int):Pg ai:=.ret (ai.mk c.Data (aQ .i64 (c.At+n)) c.End c.Depth c.Nodes c.Text)
def t_ (c:ai)(n:Int):=(r2behind c n).val
def CE:bi Z:=E0 [] [] Qq apX [] func556 1 (u2 r2behind)
def r2Byte (c:ai):Pg (Int×ai×Int):=.ob (okC c) (.lt (Be c) fun a=> .br (a==[]) (.ret (0,c,4)) (.ix 0 (List.length a) (.ret ((↑(List.getD a 0 0).toNat:Int),t_ c 1,0))))
def abA (c:ai):=(r2Byte c).val
theorem anp (c:ai)(h:okC c):Is (r2Byte c):=
 is_ob h (is_lt fun a d=>is_br iR (fun b=>is_ix aj (by have:a≠[]:=(by simpa using b);have:=Qcj.2 this;omega) is_ret))
def awn:bi Z:=E1 [Eg,CE] [] XC (shr atw (aJ (cInt .u8) hh6)) [] func528 3 r2Byte (fun a=>okC a) fun a h=>anp a h
def r2Varint (c:ai):Pg (Int×ai×Int):=.ob (okC c) (.lt (w_ (Be c)) fun a=> .br (a.2.2 !=0) (.ret (0,c,a.2.2)) (.ret (a.1,t_ c a.2.1,0)))
def sZ (c:ai):=(r2Varint c).val
def Ci:bi Z:=E1 [Lj,Eg,CE] [] XC aAs [] func520 3 r2Varint fun a=>okC a
theorem AC {c:ai}(h:okC c):Be c=rC c:=by
 have a:=F_ h;unfold Be r2rest rC;simp only[aF,aV,ay,<-akl]at a⊢;rw[a];rfl
theorem uh {c:ai}(h:okC c):yP c=m_ c:=by
 have a:=wG h;rw[kZ h,<-a];unfold yP r2Left;simp only[aT,aV,dW,ay];rw[AC h]
theorem qO {c:ai}(h:okC c):sZ c=bP c:=by
 unfold sZ r2Varint bP cVarint;simp only[aT,aV,aF,ay];have a:vz c 10=(rC c).take 10:=JE h (n:=10) dH;rw[AC h,<-Jh,a,ap6];rfl
theorem aqk {c:ai}(h:okC c):abA c=BL c:=by
 have b:=wG h;unfold abA r2Byte BL cByte;simp only[aT,aV,di,aF,ay];rw[AC h,kZ h];obtain⟨⟨f,i,j,g⟩,_⟩:=h;cases e:rC c with
 | nil=>
  rw[e]at b;have b:(0:Int)=c.End - c.At:=b;rw[wz aj];rfl
 | cons a l=>
  rw[e]at b;have b:((l.length+1:Nat):Int)=c.End - c.At:=b;rw[pO aj];have k:List.getD c.Data c.At.toNat 0=a:=by
   have d:(rC c).getD 0 0=a:=by rw[e];rfl
   rw[<-d];unfold rC;simp only[List.getD,Qd5,Qd6,XE];rw[vJ aj]
  rw[k];rfl
def r2Fixed (c:ai):Pg (Int×ai×Int):=.ob (okC c) (.lt (Be c) fun b=> .br (decide ((↑(List.length b):Int) < 8)) (.ret (0,c,4)) (.wh (9) default (fun(a:Int×Int)=> .br (decide (0<=a.2)) (.ix a.2 (List.length b) (rl (aQ .u64 (aQ .u64 (a.1*256)+aQ .u64 (↑(List.getD b a.2.toNat 0).toNat:Int)), aQ .i64 (a.2 - 1)))) (.ret (.inr (a.1,t_ c 8,0)))) (0,7)))
def KH (c:ai):=(r2Fixed c).val
theorem ah2 (c:ai)(h:okC c):Is (r2Fixed c):=
 is_ob h (is_lt fun d b=>is_brd iR (fun f=>DL (fun x=> -1<=x.2/\x.2<=7) (fun x=>(x.2+1).toNat) dH dH (fun x i=>⟨is_brd (fun j=>is_ix aj aj is_ret) iR,fun g a=>by
  revert a;simp only[aF,di,ay,Z8,Xh];split
  ·intro e;injection e with e
   subst e;have w:aQ .i64 (x.2 - 1)=x.2 - 1:=bn (k:= .i64) kM;exact⟨⟨by show -1<=aQ .i64 (x.2 - 1);omega,by show aQ .i64 (x.2 - 1)<=7;omega⟩,by show(aQ .i64 (x.2 - 1)+1).toNat < (x.2+1).toNat;omega⟩
  ·intro e;cases e⟩)))
def ZG:bi Z:=E1 [Eg,CE] [jS 6 (bD (fun b=>[s0 6, s0 7]) aAH)] XC aAs [] func557 3 r2Fixed (fun a=>okC a) fun a h=>ah2 a h
def r2Text (c:ai)(n:Int):Pg (List UInt8×ai×Int):=.ob (okC c) (.br (decide (n < 0)) (.ret ([],c,1)) (.lt (Be c) fun a=> .as (List.length a<=9223372036854775807) (.br (decide ((↑(List.length a):Int) < n)) (.ret ([],c,4)) (.br (decide (c.Text < n)) (.ret ([],c,3)) (.ob ((0:Int)<=0/\0<=n/\n<=(↑(List.length a):Int)) (.ret (List.take n.toNat a,t_ c n,0)))))))
def acV (c:ai)(n:Int):=(r2Text c n).val
def asO:bi Z:=E1 [Eg,CE] [] Qq arE [] func561 3 (u2 r2Text) fun a=>okC a.1
def r2Spend (c:ai)(n:Int):Pg (ai×Int):=.br (decide (n < 0)) (.ret (c,1)) (.br (decide (c.Nodes < n)) (.ret (c,3)) (.ret (ai.mk c.Data c.At c.End c.Depth (aQ .i64 (c.Nodes - n)) c.Text,0)))
def uZ (c:ai)(n:Int):=(r2Spend c n).val
def wK:bi Z:=E0 [] [] Qq apC [] func268 2 (u2 r2Spend)
def r2Enter (c:ai)(n:Int):Pg (ai×Int):=.br (decide (n < 0)) (.ret (c,1)) (.ob (okC c) (.lt (yP c) fun a=> .br (decide (a < n)) (.ret (c,4)) (.br (decide (c.Depth < 1)) (.ret (c,17)) (.ret (ai.mk c.Data c.At (aQ .i64 (c.At+n)) (aQ .i64 (c.Depth - 1)) c.Nodes c.Text,0)))))
def SX (c:ai)(n:Int):=(r2Enter c n).val
def anC:bi Z:=E1 [zS] [] Qq apC [] func559 2 (u2 r2Enter) fun a=>okC a.1
def r2Leave (c:ai)(a:ai):Pg ai:=.br (!Wq c) (.ret c) (.br (decide (a.End < c.At)) (.ret c) (.br (decide (c.End < a.End)) (.ret c) (.br (decide (a.Nodes < 0)) (.ret c) (.br (decide (c.Nodes < a.Nodes)) (.ret c) (.ret (ai.mk c.Data a.End c.End c.Depth a.Nodes c.Text))))))
def afM (c:ai)(a:ai):=(r2Leave c a).val
def api:bi Z:=E0 [ZB] [] awD apX [] func560 1 (u2 r2Leave)
def r2Open (a:Str)(l:jf):Pg (ai×Int):=.br (decide (l.Bytes < 0)) (.ret (ai.mk [] 0 0 0 0 0,1)) (.br (decide (l.Depth < 0)) (.ret (ai.mk [] 0 0 0 0 0,1)) (.br (decide (l.Nodes < 0)) (.ret (ai.mk [] 0 0 0 0 0,1)) (.br (decide (l.Text < 0)) (.ret (ai.mk [] 0 0 0 0 0,1)) (.as (List.length a<=9223372036854775807) (.br (decide (l.Bytes < (↑(List.length a):Int))) (.ret (ai.mk [] 0 0 0 0 0,3)) (.as (List.length a<=9223372036854775807) (.ret (ai.mk a 0 (↑(List.length a):Int) l.Depth l.Nodes l.Text,0))))))))
def ayv (a:Str)(l:jf):=(r2Open a l).val
def auq:bi Z:=E0 [] [] ayi apC [] func267 2 (u2 r2Open)
def leV:Str->Nat
 | []=>0
 | c::r=>c.toNat+256*leV r
theorem ari:∀s:Str,leV s < 256 ^ s.length
 | []=>by decide
 | c::r=>by
  have h:=ari r;have a:=c.toNat_lt;rw[leV,JV,Qc8];omega
theorem agc:∀(s:Str) (c:UInt8),leV (s++[c])=leV s+256 ^ s.length*c.toNat
 | [],c=>by simp[leV]
 | a::s,c=>by
  rw[Qbn,leV,leV,agc s c,JV,Qc8];rw[Nat.mul_add,Qby (256 ^ s.length) 256,Nat.mul_assoc];omega
theorem aFa (u i:Nat)(c:UInt8)(f:u < 256 ^ i)(l:i < 8):orI .u64 (u:Int) (Tv .u64 (aQ .u64 (c.toNat:Int)) (aQ .i64 (8*(i:Int))))=((u+256 ^ i*c.toNat:Nat):Int):=by
 have g:=c.toNat_lt;have e:(256:Nat) ^ i=2 ^ (8*i):=by rw[show(256:Nat)=2 ^ 8 from rfl,<-Nat.pow_mul]
 have h:256 ^ i*256<=2 ^ 64:=by
  rw[<-Qc8,show(2:Nat) ^ 64=256 ^ 8 by decide];exact Qcx dH aj
 have a:256 ^ i*c.toNat < 2 ^ 64:=Qbg (Nat.mul_lt_mul_of_pos_left g (Nat.pow_pos dH)) h;have w:aQ .i64 (8*(i:Int))=((8*i:Nat):Int):=by rw[bn (k:= .i64) kM];omega
 have j:aQ .u64 (c.toNat:Int)=(c.toNat:Int):=kE (k:= .u64) rfl (Qdv g dH);have b:u < 2 ^ 64:=Qbg f (Du (Nat.le_mul_of_pos_right _ dH) h);have d:u < 2 ^ (8*i):=by rw[<-e];exact f
 rw[e]at a⊢;rw[j,w,adq (k:= .u64) rfl (show 8*i<=64 by omega) (by rw[Qby];exact a),Ry (k:= .u64) rfl b (by rw[Qby];exact a),Qby c.toNat,Nat.or_comm,<-Qcl d,Qdt]
theorem apP {s:Str}(h:8<=s.length):zx s=((leV (s.take 8):Int),0):=by
 have d:∀(k i u:Nat),i+k=8->u < 256 ^ i->lu (fun(a b:Int)=>(Sum.inl (orI .u64 b (Tv .u64 (aQ .u64 (↑(List.getD s a.toNat 0).toNat:Int)) (aQ .i64 (8*a)))):Int⊕(Int×Int))) (fun(a b:Int)=>(b,(0:Int))) k (i:Int) (u:Int)=(((u+256 ^ i*leV ((s.drop i).take k):Nat):Int),0):=by
  intro k;induction k with
  | zero=>intro i u _ _;simp[lu,leV]
  | succ k g=>
   intro i u j f;unfold lu;dsimp only;rw[qA,aFa u i _ f aj];have l:=(s.getD i 0).toNat_lt;have c:u+256 ^ i*(s.getD i 0).toNat < 256 ^ (i+1):=by
    rw[Qc8];have:256 ^ i*(s.getD i 0).toNat<=256 ^ i*255:=Qcy _ aj;omega
   have q:=g (i+1) _ aj c;rw[show((i:Int)+1)=((i+1:Nat):Int) by omega];refine q.trans ?_;have e:s.drop i=s.getD i 0::s.drop (i+1):=by
    rw[Qbq aj];simp[List.getD,show i < s.length by omega]
   rw[e,Qck,leV,Qc8];congr 2;rw[Nat.mul_add,Nat.mul_assoc,Nat.mul_left_comm];omega
 unfold zx vtfix;simp only[aF,lQ,di,aT,aV,ay];rw[pO aj,lL];have q:=d 8 0 0 rfl dH;simpa using q
theorem UN {c:ai}(h:okC c):KH c=uG c:=by
 have A:=wG h;have r:vz c 8=(rC c).take 8:=JE h (n:=8) dH;unfold KH r2Fixed uG cFixed;simp only[aT,aV,di,aF,qx,ay];rw[AC h,r];by_cases g:8<=(rC c).length
 ·rw[apP (by rw[Iq];omega),List.take_take,pO aj,lL];have d:=ari ((rC c).take 8);rw[Iq,Qdm g,show(256:Nat) ^ 8=18446744073709551616 by decide]at d;generalize rC c=s at*;have e:∀(m n u:Nat),m < n->m<=8->u*256 ^ m+leV (s.take m) < 18446744073709551616->Dy (fun(a:Int×Int)=>bif decide (0<=a.2)then(Sum.inl (aQ .u64 (aQ .u64 (a.1*256)+aQ .u64 (↑(List.getD s a.2.toNat 0).toNat:Int)),aQ .i64 (a.2 - 1)):(Int×Int)⊕(Int×ai×Int))else Sum.inr (a.1,t_ c 8,0)) default n ((u:Int),(m:Int) - 1)=(((u*256 ^ m+leV (s.take m):Nat):Int),t_ c 8,0):=by
   intro m;induction m with
   | zero=>
    intro n u v _ _;obtain⟨n,rfl⟩:∃k,n=k+1:=⟨n - 1,by omega⟩;unfold Dy;simp[leV]
   | succ m l=>
    intro n u v C b;obtain⟨n,rfl⟩:∃k,n=k+1:=⟨n - 1,by omega⟩;have t:((m+1:Nat):Int) - 1=(m:Int):=by omega
    have x:s.take (m+1)=s.take m++[s.getD m 0]:=by
     rw[Qcg];congr 1;simp[List.getD,show m < s.length by omega]
    have B:=(s.getD m 0).toNat_lt;rw[x,agc,Iq,Qdm aj]at b⊢;have o:u*256 ^ (m+1)+(leV (s.take m)+256 ^ m*(s.getD m 0).toNat)=(u*256+(s.getD m 0).toNat)*256 ^ m+leV (s.take m):=by
     rw[Qc8,Nat.add_mul,Qby (256 ^ m) (s.getD m 0).toNat,Nat.mul_assoc,Qby 256 (256 ^ m)];omega
    rw[o]at b⊢;have p:0 < 256 ^ m:=Nat.pow_pos dH;have z:u*256+(s.getD m 0).toNat < 18446744073709551616:=Qcq (Du (Nat.le_mul_of_pos_right _ p) (Nat.le_add_right _ _)) b;unfold Dy;dsimp only;rw[t,wz aj,cond_true,qA];have i:aQ .u64 ((u:Int)*256)=((u*256:Nat):Int):=by rw[bn (k:= .u64) kM];omega
    have w:aQ .u64 (((s.getD m 0).toNat:Nat):Int)=(((s.getD m 0).toNat:Nat):Int):=bn (k:= .u64) kM;have y:aQ .u64 (((u*256:Nat):Int)+(((s.getD m 0).toNat:Nat):Int))=((u*256+(s.getD m 0).toNat:Nat):Int):=by rw[bn (k:= .u64) kM];omega
    have j:aQ .i64 ((m:Int) - 1)=(m:Int) - 1:=bn (k:= .i64) kM;rw[i,w,y,j];exact l n _ aj aj b
  have q:=e 8 9 0 dH dH (by rw[Nat.zero_mul,Bc];exact d);rw[Nat.zero_mul,Bc]at q;exact q
 ·have f:zx ((rC c).take 8)=(0,4):=by
   unfold zx vtfix;simp only[aF,ay];rw[wz (by rw[Iq];omega)];rfl
  rw[f,wz aj];rfl
theorem gK (c:ai)(n:Int):uZ c n=nO c n:=rfl
theorem aiQ {c:ai}(h:okC c)(n:Int):SX c n=FI c n:=by
 unfold SX r2Enter FI acM;simp only[aT,aV,aF,ay];rw[uh h]
theorem apH {c:ai}(h:okC c)(n:Int):acV c n=zn c n:=by
 have f:=wG h;unfold acV r2Text zn cText;simp only[aT,aV,dW,aF,ay];rw[AC h,kZ h,f];by_cases a:n < 0
 ·rw[wz a];rfl
 rw[pO a];by_cases d:c.End - c.At < n
 ·rw[wz d];rfl
 rw[pO d];by_cases b:c.Text < n
 ·rw[wz b];rfl
 rw[pO b];have l:=FW h (n:=n) aj aj;have j:t_ c n=uC c n:=rfl;rw[j];cases g:n==0 with
 | true=>
  have e:=eq_of_beq g;subst e;rw[l.1,Int.add_zero];rfl
 | false=>
  obtain⟨⟨p,o,m,q⟩,_⟩:=h;have e:Jo (Ja c n)=(rC c).take n.toNat:=by
   unfold Ja cPiece rC;simp only[aT,aV,ay];rw[bn (k:= .i64) (show Dw .i64 (c.At+n) by simp only[Dw];omega)];have i:List.take n.toNat (XD (List.drop c.At.toNat (List.take (c.At+n).toNat c.Data)))=XD (List.drop c.At.toNat (List.take (c.At+n).toNat c.Data)):=Qb2 (by rw[v_,Qca,Iq];omega);rw[i,abZ,List.take_drop];congr 1;rw[List.take_take];congr 1;omega
  rw[e];rfl
def r23Tag (c:ai):Pg (Int×Int×ai×Int):=.ob (okC c) (.lt (sZ c) fun a=> .br (a.2.2 !=0) (.ret (0,0,c,a.2.2)) (.ob ((8:Int)≠0) (.br (a.1.tmod (8:Int)==7) (.ret (0,0,c,5)) (.ob ((8:Int)≠0) (.lt (aQ .u64 (a.1.tdiv 8)) fun b=> .br (decide (b < 1)) (.ret (0,0,c,6)) (.ob ((8:Int)≠0) (.br (decide (65535 < b)) (.ret (0,0,c,6)) (.ob ((8:Int)≠0) (.ob ((8:Int)≠0) (.ret (aQ .i64 b,aQ .i64 (a.1.tmod 8),a.2.1,0)))))))))))
def Lc (c:ai):=(r23Tag c).val
def VZ:bi Z:=E1 [Ci] [] XC aHn [] func462 4 r23Tag fun a=>okC a
theorem zJ {c:ai}(h:okC c):Lc c=dJ c:=by
 unfold Lc r23Tag dJ aq4
 grind [qO]
theorem vC {c:ai}(h:okC c){v:Int×ai×Int}(a:v=sZ c)(b:v.2.2=0):okC v.2.1:=by
 rw[qO h]at a;subst a;exact((iw h).2 b).1.1
def r23num (a:Int):Pg Bool:=.br (a==0) (.ret true) (.br (a==1) (.ret true) (.ret (a==2)))
def amj (a:Int):=(r23num a).val
def arf:bi Z:=E0 [] [] hh5 hh2 [] func558 1 r23num
def r23Cont (f:Raw)(c:ai):Pg (Raw×ai×Int):=.br (f.fB==2) (.ob (okC c) (.lt (KH c) fun d=> .ret (Raw.mk f.Num f.fB d.1 f.Data,d.2))) (.ob (okC c) (.lt (sZ c) fun a=> .br (a.2.2 !=0) (.ret (Raw.mk f.Num f.fB a.1 f.Data,a.2)) (.br (amj f.fB) (.ret (Raw.mk f.Num f.fB a.1 f.Data,a.2)) (.ob (okC a.2.1) (.lt (aQ .u64 (yP a.2.1)) fun e=> .br (decide (e < a.1)) (.ret (f,c,4)) (.cut (fun(h:Unit)=> .lt (aQ .i64 (a.2.1.At+aQ .i64 a.1)) fun b=> .ob (0<=a.2.1.At/\a.2.1.At<=b/\b<=(↑(List.length a.2.1.Data):Int)) (.ret (Raw.mk f.Num f.fB f.Bits (List.drop a.2.1.At.toNat (List.take b.toNat a.2.1.Data)), ai.mk a.2.1.Data b a.2.1.End a.2.1.Depth a.2.1.Nodes a.2.1.Text,0))) (.br (f.fB==3) (.lt (aQ .i64 a.1) fun g=> .br (decide (a.2.1.Text < g)) (.ret (.inr (f,c,3))) (.br (f.fB !=3) (.br (decide (65536 < a.1)) (.ret (.inr (f,c,3))) (rl ())) (rl ()))) (.br (f.fB !=3) (.br (decide (65536 < a.1)) (.ret (.inr (f,c,3))) (rl ())) (rl ())))))))))
def Dz (f:Raw)(c:ai):=(r23Cont f c).val
theorem aiS (f:Raw)(c:ai)(h:okC c):Is (r23Cont f c):=
 is_beq (fun _=>is_ob (h) (is_lt fun v2 g=>is_ret)) (fun _=>is_ob (h) (is_lt fun e a=>is_bne iR (fun _=>is_br iR (fun _=>is_ob ((vC h a aj)) (is_lt fun l b=>is_brd iR (fun _=>is_cut (is_beq (fun _=>is_ltw fun n j _=>is_brd iR (fun _=>is_bne (fun _=>is_brd iR iR) iR)) (fun _=>is_bne (fun _=>is_brd iR iR) iR)) (fun m i=>is_ltw fun k d _=>is_ob ((adm h (v2:=e) (a.trans (qO h)) aj (b.trans (by rw[uh (vC h a aj)])) rfl d aj)) (is_ret))))))))
def apB:bi Z:=E1 [zS,Ci,ZG,arf] [jS 100013 (bD (fun b=>[]) l0)] (aCons (aAgg cd_Raw) XC) ayJ [] func521 3 (u2 r23Cont) (fun a=>okC a.2) fun a h=>aiS a.1 a.2 h
theorem ahe {c:ai}(h:okC c)(f:Raw):(Dz f c).2.2=(dU c f).2.1/\((dU c f).2.1=0->(Dz f c).1=(dU c f).2.2/\(Dz f c).2.1=(dU c f).1):=by
 have l:∀K:Bool->ai×Int×Raw,(thenS (bif f.fB==0 then(Sum.inl (f.fB==0):Bool⊕(ai×Int×Raw))else Sum.inl (f.fB==1)) K)=K (bif f.fB==0 then true else f.fB==1):=fun K=>by cases e:f.fB==0<;>rfl
 have m:=(iw h).2;unfold Dz r23Cont dU wM amj r23num;simp only[aV,aT,aF,ay,dn];rw[UN h,qO h,l];cases p:f.fB==2 with
 | true=>grind
 | false=>
  cases w0:f.fB==0 with
  | true=>grind
  | false=>cases o:f.fB==1 with
   | true=>grind
   | false=>
    unfold zA uData;simp only[aV,aT,aF,ay,dn,lL];cases e:(bP c).2.2 !=0 with
    | true=>grind
    | false=>
     have i:∀K:Int->Str×ai×Int,thenS (bif f.fB==3 then(Sum.inl c.Text:Int⊕(Str×ai×Int))else Sum.inl 65536) K=K (bif f.fB==3 then c.Text else 65536):=fun K=>by cases f.fB==3<;>rfl
     have b:=m (bU.1 e);have j:(bP c).2.1.Text=c.Text:=b.1.2.2.2.2.1;rw[uh b.1.1,i];simp only[lL];cases d:decide (aQ .u64 (m_ (bP c).2.1) < (bP c).1)with
     | true=>grind
     | false=>
      rw[j];cases g:f.fB==3 with
      | true=>
       have a:(f.fB !=3)=false:=by simp[bne,g]
       rw[a];simp only[cond_true,lL];cases decide (c.Text < aQ .i64 (bP c).1)with
       | true=>simp_all
       | false=>simp_all
      | false=>
       have a:(f.fB !=3)=true:=by simp[bne,g]
       have n:=(iw h).1;have kl:=kZ b.1.1;have r:=b.1.1.1;have d:=Qbr d;rw[kl,bn (k:= .u64) kM]at d;have w:aQ .i64 (bP c).1=(bP c).1:=bn (k:= .i64) (by simp only[Dw];obtain⟨q,u2⟩:=n;omega);rw[a,w];simp only[cond_true,lL];cases decide (65536 < (bP c).1)with
       | true=>simp_all
       | false=>simp_all
def r23Next (c:ai):Pg (Raw×ai×Int):=.ob (okC c) (.lt (Lc c) fun a=> .br (a.2.2.2 !=0) (.ret (Raw.mk 0 0 0 [],c,a.2.2.2)) (.lt (uZ a.2.2.1 1) fun b=> .br (b.2 !=0) (.ret (Raw.mk 0 0 0 [],c,b.2)) (.ob (okC b.1) (.lt (Dz (Raw.mk a.1 a.2.1 0 []) b.1) fun d=> .br (d.2.2 !=0) (.ret (Raw.mk 0 0 0 [],c,d.2.2)) (.ret (d.1,d.2.1,0))))))
def Ur (c:ai):=(r23Next c).val
theorem ahM (c:ai)(h:okC c):Is (r23Next c):=
 is_ob (h) (is_lt fun f a=>is_bne iR (fun _=>is_lt fun i b=>is_bne iR (fun _=>is_ob (by have k:=(nV h (by rw[<-zJ h,<-a];omega)).1.1;rw[<-zJ h,<-a]at k;have d:=(jJ k (n:=1) (by rw[<-gK,<-b];omega)).1.1;rw[<-gK,<-b]at d;exact d) (is_lt fun g e=>is_bne iR iR))))
def apz:bi Z:=E1 [wK,VZ,apB] [] XC ayJ [] func464 3 r23Next (fun a=>okC a) fun a h=>ahM a h
theorem aiM {c:ai}(h:okC c):Ur c=j_ c:=by
 have k:=nV h;unfold Ur r23Next j_ uNext;simp only[aV,aT,aF,ay];rw[zJ h];cases e:(dJ c).2.2.2 !=0 with
 | true=>rfl
 | false=>
  obtain⟨d,_⟩:=k (bU.1 e);have s:=jJ d.1 (n:=1);rw[gK];cases b:(nO (dJ c).2.2.1 1).2 !=0 with
  | true=>rfl
  | false=>
   obtain⟨a,_⟩:=s (bU.1 b);obtain⟨g,f⟩:=ahe a.1 (Raw.mk (dJ c).1 (dJ c).2.1 0 [])
   grind
def awU (g:aX)(a:Str):Pg Bool:=.ret (g.Name==a)
def acR (g:aX)(a:Str):=(awU g a).val
def aeM:bi Z:=QF [] [] (aCons (aAgg cd_Prog) Dn) Qr hh2 [0] func179 1 (u11 awU)
def auN:bi Z:=EIB [aeM] Uo 179 [0] Qr func178 aO fun x b=>acR x b
def ala (p:aC)(a:Str):Pg (Int×Bool):=.lt (dO (fun(x:aX)=>acR x a) p.Progs) fun b=> .ret (max b 0,decide (0<=b))
def mF (p:aC)(a:Str):=(ala p a).val
def amG:bi Z:=E0 [auN,aeM] [] (aCons (aAgg cd_Plan) hh1) (shr aeR QA) [] func118 2 (u2 ala)
def aGz (o:Op)(a:Int):Pg Bool:=.ret (o.Num==a)
def alL (o:Op)(a:Int):=(aGz o a).val
def ajl:bi Z:=QF [] [] (aCons (aAgg cd_Op) Dn) QG hh2 [0] func341 1 (u11 aGz)
def aEz:bi Z:=EIB [ajl] aiP 341 [0] QG func453 Gt fun x b=>alL x b
def pOpIn (g:aX)(b:Int):Pg (Op×Bool):=.lt (dO (fun(x:Op)=>alL x b) g.Ops) fun a=> .br (decide (a < 0)) (.ret (Op.mk 0 [] [] 0 0 0 0 0,false)) (.ix a g.Ops.length (.ret (g.Ops.getD a.toNat Gt,true)))
def avG (g:aX)(a:Int):=(pOpIn g a).val
theorem asP (g:aX)(a:Int):Is (pOpIn g a):=
 is_lt fun c b=>is_brd iR (fun _=>is_ix aj (by rw[b];exact(jy (fun(x:Op)=>alL x a) g.Ops).1) is_ret)
def aym:bi Z:=QF [ajl,aEz] [] (aCons (aFnA 341 [0]) (a1 (aAgg cd_Prog))) QG aCZ [0] func342 2 (fun a=>pOpIn a.1.2 a.2) fun a=>asP a.1.2 a.2
def pOp (g:aX)(a:Int):Pg (Op×Bool):=.ret (avG g a)
def pz (g:aX)(a:Int):=(pOp g a).val
def aBs:bi Z:=E0 [ajl,aym] [] (aCons (aAgg cd_Prog) hh5) aCZ [] func246 2 (u2 pOp)
def aCG (b:Item)(a:Int):Pg Bool:=.ret (aQ .u64 b.Num==a)
def Ns (b:Item)(a:Int):=(aCG b a).val
def ach:bi Z:=QF [] [] (aCons (aAgg CG) Dn) av8 hh2 [0] func504 1 (u11 aCG)
def ax6:bi Z:=EIB [ach] nD 504 [0] av8 func371 gQ fun x b=>Ns x b
def aAn:bi Z:=EAB [ax6,ach] nD 504 [0] av8 func284 fun x b=>Ns x b
def axQ (p:aC)(a:Int)(b:Int):Pg Bool:=.br (decide (a < 0)) (.ret false) (.br (decide ((↑p.Enums.length:Int)<=a)) (aL p.Enums (.ret false)) (aL p.Enums (.br (decide (2147483647 < b)) (.ret false) (.ix a p.Enums.length (.br (p.Enums.getD a.toNat dR).Open (.ret true) (.ret ((p.Enums.getD a.toNat dR).Items.any fun(x:Item)=>Ns x b)))))))
def Dc (p:aC)(a:Int)(b:Int):=(axQ p a b).val
def aEO:bi Z:=E0 [aAn,ach] [] aBL hh2 [] func425 1 (u3 axQ)
def acG (o:Op):Pg Bool:=.br (o.Card==4) (.br (decide (1<=o.Kind)) (.br (decide (o.Kind<=6)) (.ret true) (.ret (o.Kind==9))) (.ret (o.Kind==9))) (.ret false)
def Eu (o:Op):=(acG o).val
def ZE:bi Z:=E0 [] [] aaz hh2 [] func332 1 acG
def aCE (o:Op):Pg Int:=.br (o.Card==5) (.ret 6) (.br (Eu o) (.ret 5) (.cut (fun(a:Bool)=> .br a (.ret 0) (.cut (fun(b:Bool)=> .br b (.ret 1) (.br (o.Kind==6) (.ret 2) (.br (o.Kind==7) (.br (o.Kind==7) (.ret 3) (.br (o.Kind==10) (.ret 4) (.ret (-1)))) (.br (o.Kind==8) (.ret 3) (.br (o.Kind==10) (.ret 4) (.ret (-1))))))) (.br (o.Kind==2) (rl (o.Kind==2)) (rl (o.Kind==3))))) (.br (o.Kind==1) (rl (o.Kind==1)) (.br (o.Kind==4) (rl (o.Kind==4)) (.br (o.Kind==5) (rl (o.Kind==5)) (rl (o.Kind==9)))))))
def aFy (o:Op):=(aCE o).val
def az4:bi Z:=E0 [ZE] [jS 100010 (bD (fun b=>[s0 12]) oK),jS 100013 (bD (fun b=>[s0 17]) oK)] aaz jE [] func445 1 aCE
def aBR (o:Op):Pg Int:=.ret (aFy (Op.mk o.Num o.Name o.Alias 2 o.Key o.Kind o.Target o.Union))
def pg (o:Op):=(aBR o).val
def I_:bi Z:=E0 [az4] [] aaz jE [] func334 1 aBR
def att (v:ae)(a:Int):Pg (ae×Bool):=aL v.Slots (.each false yc v.Slots gZ (fun c b (d:Unit)=> .ix c v.Slots.length (.br (b.Num==a) (.ret (.inr (b.Val.re,true))) (rl ()))) (fun c (d:Unit)=> .ret (ae.mk 0 0 [] [] [] [] [],false)) ())
def tFindP (v:ae)(a:Int):=(att v a).val
def LZ:bi Z:=E0 [] [jS 2 (bD (fun b=>[s0 11]) iL)] (aCons (aAgg cd_AVal) hh5) aAm [] func180 2 (u2 att)
def tElems (x:ae):Pg (List ae):=.br (x.Kind==11) (.ret x.List) (.br (x.Kind==12) (aL x.Pairs (.each false mg x.Pairs dV (fun b c (a:List ae)=> .ix b x.Pairs.length (.ob (bG (a.length+1) 128) (rl (a++[c.Val.re])))) (fun b (a:List ae)=> .ret a) [])) (.ret [x.re]))
def uB (x:ae):=(tElems x).val
theorem WP (x:ae)(h:x.Pairs.length<=1048576):gU (tElems x) (fun r=>∀y∈r,y∈x.List\/(∃p∈x.Pairs,y=p.Val)\/y=x):=
 bI (fun _=>af dm) (fun _=>bI (fun _=>bZ <| bC (fun(b:Nat) a=>a.length<=b/\∀z∈a,∃p∈x.Pairs,z=p.Val) dm aj (fun b a e d=>have c:a.length<=b/\∀z∈a,∃p∈x.Pairs,z=p.Val:=d;aH aj aj (ah (qa6) (af (by grind [ae.bJ,getD_mem])))) (fun a c=>have c:a.length<=x.Pairs.length/\∀z∈a,∃p∈x.Pairs,z=p.Val:=c;af dm)) (fun _=>af qbx))
def atZ:bi Z:=E1 [] [jS 7 (bD (fun b=>[s0 17, .slot 3 false [some 73]]) (aJ cI (l1 zL)))] hh9 (R1 zL) [] func181 1 tElems (fun a=>a.Pairs.length<=1048576) fun a h=>(WP a h).1

def pcB (c:UInt8):Bool:=(decide (97<=c.toNat) && decide (c.toNat<=122)) || (decide (65<=c.toNat) && decide (c.toNat<=90))
def pnB (c:UInt8):Bool:=pcB c || (decide (48<=c.toNat) && decide (c.toNat<=57)) || decide (c.toNat=95)
def GK (s:Str):Bool:=decide (s.length<=40) && match s with
 | []=>false
 | c::r=>pcB c && r.all pnB
theorem akF (c:UInt8):pcB c=true ↔ (97<=c.toNat/\c.toNat<=122)\/(65<=c.toNat/\c.toNat<=90):=by
 unfold pcB
 grind
theorem akY (c:UInt8):pnB c=true ↔ ((97<=c.toNat/\c.toNat<=122)\/(65<=c.toNat/\c.toNat<=90))\/(48<=c.toNat/\c.toNat<=57)\/c.toNat=95:=by
 unfold pnB;simp only[Qbi,iZ,Xh,akF,or_assoc]
theorem aln {s:Str}{p:Nat}(h:byteAt s p < 128):Ak s p=(byteAt s p:Int)/\BG s p=1:=by
 unfold Ak BG;rw[QR];unfold dcN
 grind
theorem arW {s:Str}{p:Nat}(h:128<=byteAt s p):128<=Ak s p:=by
 unfold Ak;rw[QR];unfold dcN
 grind
def cls (c:Int):Pg Int:=.br (decide (97<=c)) (.br (decide (c<=122)) (.ret 1) (.br (decide (65<=c)) (.br (decide (c<=90)) (.ret 2) (.br (decide (48<=c)) (.br (decide (c<=57)) (.ret 3) (.br (c==95) (.ret 4) (.ret 0))) (.br (c==95) (.ret 4) (.ret 0)))) (.br (decide (48<=c)) (.br (decide (c<=57)) (.ret 3) (.br (c==95) (.ret 4) (.ret 0))) (.br (c==95) (.ret 4) (.ret 0))))) (.br (decide (65<=c)) (.br (decide (c<=90)) (.ret 2) (.br (decide (48<=c)) (.br (decide (c<=57)) (.ret 3) (.br (c==95) (.ret 4) (.ret 0))) (.br (c==95) (.ret 4) (.ret 0)))) (.br (decide (48<=c)) (.br (decide (c<=57)) (.ret 3) (.br (c==95) (.ret 4) (.ret 0))) (.br (c==95) (.ret 4) (.ret 0))))
def XJ (c:Int):=(cls c).val
def aHU:bi Z:=E0 [] [] (a1 (aLf (cInt .i32))) jE [] func112 1 cls
theorem aAg (c:Int):XJ c=if 97<=c/\c<=122 then 1 else if 65<=c/\c<=90 then 2 else if 48<=c/\c<=57 then 3 else if c=95 then 4 else 0:=by
 unfold XJ cls;simp only[aF,ay,Z8,Xh,Qbw];omega
theorem KA (s:Str)(p:Nat):(XJ (Ak s p)=0 ↔ pnB (s.getD p 0)=false)/\((XJ (Ak s p)=1\/XJ (Ak s p)=2) ↔ pcB (s.getD p 0)=true):=by
 have a:=akF (s.getD p 0);have b:=akY (s.getD p 0);rw[aAg,Bool.eq_false_iff,ne_eq,a,b];have c:byteAt s p=(s.getD p 0).toNat:=rfl;by_cases h:byteAt s p < 128
 ·grind [aln]
 ·have:=arW (s:=s) (p:=p) aj;omega
theorem U9 {s:Str}{p:Nat}(h:pnB (s.getD p 0)=true):BG s p=1:=by
 have:=(akY _).1 h;exact(aln (s:=s) (p:=p) (by show(s.getD p 0).toNat < 128;omega)).2
theorem aGt {c:UInt8}(h:pcB c=true):pnB c=true:=by unfold pnB;rw[h];rfl
theorem awj {s:Str}{p:Nat}(h:p < s.length):s.drop p=s.getD p 0::s.drop (p+1):=by
 simp_all
def ipart (s:Str):Pg Bool:=.wh (s.length+1) default (fun(a:List UInt8×Int)=> .br (decide (a.2.toNat < a.1.length)) (.lt (XJ (Ak a.1 a.2.toNat)) fun b=> .br (b==0) (.ret (.inr false)) (.br ((↑a.2.toNat:Int)==0) (.br (b !=1) (.br (b !=2) (.ret (.inr false)) (rl (a.1,(↑(a.2.toNat+BG a.1 a.2.toNat):Int)))) (rl (a.1,(↑(a.2.toNat+BG a.1 a.2.toNat):Int)))) (rl (a.1,(↑(a.2.toNat+BG a.1 a.2.toNat):Int))))) (.br (decide (1<=(↑(List.length s):Int))) (.ret (.inr (decide ((↑(List.length s):Int)<=40)))) (.ret (.inr false)))) (s,0)
def xO (s:Str):=(ipart s).val
theorem auD (s:Str):Is (ipart s):=
 by
 refine DL (fun x=>x.1=s/\0<=x.2) (fun x=>s.length - x.2.toNat) ⟨rfl,by omega⟩ jQ (fun x b=>⟨is_brd (fun _=>is_lt fun f d=>is_beq iR (fun _=>is_beq (fun _=>is_bne (fun _=>is_bne iR iR) iR) iR)) (fun _=>is_brd iR iR),fun e a=> ?_⟩);obtain⟨t,x⟩:=x;obtain⟨rfl,c⟩:=b;dsimp only at c a⊢;revert a;simp only[aF,aT,ay]
 grind [KA,U9]
def RH:bi Z:=E0 [aHU] [jS 2 (bD (fun b=>[.iter (pid (b 7))]) (l1 (df cStr cI)))] hh1 hh2 [] func61 1 ipart fun a=>auD a
theorem Ee (s:Str):xO s=GK s:=by
 have e:∀(m p:Nat),1<=p->p<=s.length->s.length - p < m->Dy (fun(a:List UInt8×Int)=>bif decide (a.2.toNat < a.1.length)then(bif XJ (Ak a.1 a.2.toNat)==0 then(Sum.inr false:(List UInt8×Int)⊕Bool)else(bif ((a.2.toNat:Nat):Int)==0 then(bif XJ (Ak a.1 a.2.toNat) !=1 then(bif XJ (Ak a.1 a.2.toNat) !=2 then .inr false else .inl (a.1,((a.2.toNat+BG a.1 a.2.toNat:Nat):Int)))else .inl (a.1,((a.2.toNat+BG a.1 a.2.toNat:Nat):Int)))else .inl (a.1,((a.2.toNat+BG a.1 a.2.toNat:Nat):Int))))else(bif decide (1<=((s.length:Nat):Int))then .inr (decide (((s.length:Nat):Int)<=40))else .inr false)) default m (s,(p:Int))=((s.drop p).all pnB && decide (s.length<=40)):=by
  intro m;induction m with
  | zero=>omega
  | succ m c=>
   intro p f g i;unfold Dy;simp only[qA];by_cases h:p < s.length
   ·rw[wz h,cond_true,awj h,Qcm];cases b:pnB (s.getD p 0)with
    | false=>
     rw[(KA s p).1.2 b];rfl
    | true=>
     have:(XJ (Ak s p)==0)=false:=by
      grind [KA]
     have d:((p:Int)==0)=false:=by grind
     rw[this,d,U9 b];simp only[lL];rw[c (p+1) aj aj aj,Bool.true_and]
   ·have:p=s.length:=by omega
    subst this
    grind
 unfold xO ipart;rw[qx];simp only[aF,aT,ay];unfold GK
 grind [KA,aGt,U9,Dy]
def r6small (b:Int):Pg Bool:=.br (decide (97<=b)) (.ret (decide (b<=122))) (.ret false)
def xu (b:Int):=(r6small b).val
def aqi:bi Z:=E0 [] [] azK hh2 [] func82 1 r6small
def r6cap (b:Int):Pg Bool:=.br (decide (65<=b)) (.ret (decide (b<=90))) (.ret false)
def IR (b:Int):=(r6cap b).val
def aAj:bi Z:=E0 [] [] azK hh2 [] func83 1 r6cap
def r6part (s:Str):Pg Bool:=.br ((↑(List.length s):Int)==0) (.ret false) (.br (decide (40 < (↑(List.length s):Int))) (.ret false) (.ix 0 (List.length s) (.br (!xu (↑(List.getD s 0 0).toNat:Int)) (.ix 0 (List.length s) (.br (!IR (↑(List.getD s 0 0).toNat:Int)) (.ret false) (.Ov [] (some (List.length s<=9223372036854775807)) yc 1 (↑(List.length s):Int) (fun b (c:Unit)=> .ix b (List.length s) (.br (!xu (↑(List.getD s b.toNat 0).toNat:Int)) (.ix b (List.length s) (.br (!IR (↑(List.getD s b.toNat 0).toNat:Int)) (.ix b (List.length s) (.br ((↑(List.getD s b.toNat 0).toNat:Int) !=95) (.ix b (List.length s) (.br (decide ((↑(List.getD s b.toNat 0).toNat:Int) < 48)) (.ret (.inr false)) (.ix b (List.length s) (.br (decide (57 < (↑(List.getD s b.toNat 0).toNat:Int))) (.ret (.inr false)) (rl ()))))) (rl ()))) (rl ()))) (rl ()))) (fun b (c:Unit)=> .ret true) ()))) (.Ov [] (some (List.length s<=9223372036854775807)) yc 1 (↑(List.length s):Int) (fun a (d:Unit)=> .ix a (List.length s) (.br (!xu (↑(List.getD s a.toNat 0).toNat:Int)) (.ix a (List.length s) (.br (!IR (↑(List.getD s a.toNat 0).toNat:Int)) (.ix a (List.length s) (.br ((↑(List.getD s a.toNat 0).toNat:Int) !=95) (.ix a (List.length s) (.br (decide ((↑(List.getD s a.toNat 0).toNat:Int) < 48)) (.ret (.inr false)) (.ix a (List.length s) (.br (decide (57 < (↑(List.getD s a.toNat 0).toNat:Int))) (.ret (.inr false)) (rl ()))))) (rl ()))) (rl ()))) (rl ()))) (fun a (d:Unit)=> .ret true) ()))))
def uz (s:Str):=(r6part s).val
theorem aon (s:Str):Is (r6part s):=
 is_beq iR (fun _=>is_brd iR (fun _=>is_ix aj aj (is_br (fun _=>is_ix aj aj (is_br iR (fun _=>JB trivial aj (fun h=>by omega) (fun b c _ _ _=>is_ix aj aj (is_br (fun _=>is_ix aj aj (is_br (fun _=>is_ix aj aj (is_bne (fun _=>is_ix aj aj (is_brd iR (fun _=>is_ix aj aj (is_brd iR iR)))) iR)) iR)) iR)) (fun b c _ _=>is_ret)))) (fun _=>JB trivial aj (fun h=>by omega) (fun a d _ _ _=>is_ix aj aj (is_br (fun _=>is_ix aj aj (is_br (fun _=>is_ix aj aj (is_bne (fun _=>is_ix aj aj (is_brd iR (fun _=>is_ix aj aj (is_brd iR iR)))) iR)) iR)) iR)) (fun a d _ _=>is_ret)))))
def J5:bi Z:=E0 [aqi,aAj] [jS 4 (bD (fun b=>[s0 3]) iL)] hh1 hh2 [] func43 1 r6part fun a=>aon a
theorem aBC (c:UInt8):(xu (c.toNat:Int) || IR (c.toNat:Int))=pcB c:=by
 unfold xu r6small IR r6cap pcB;simp only[aF,ay]
 grind
theorem zV (s:Str):uz s=GK s:=by
 have f:∀(r:Str) (a:List UInt8),lu (fun(b:Int) (t:Unit)=>bif !xu (((a++r).getD b.toNat 0).toNat:Int)then(bif !IR (((a++r).getD b.toNat 0).toNat:Int)then(bif (((a++r).getD b.toNat 0).toNat:Int) !=95 then(bif decide ((((a++r).getD b.toNat 0).toNat:Int) < 48)then(Sum.inr false:Unit⊕Bool)else(bif decide (57 < (((a++r).getD b.toNat 0).toNat:Int))then .inr false else .inl ()))else .inl ())else .inl ())else .inl ()) (fun(_:Int) (_:Unit)=>true) r.length (a.length:Int) ()=r.all pnB:=by
  intro r;induction r with
  | nil=>intro a;rfl
  | cons c r j=>
   intro a;rw[JV,ET,Qcm];have e:(a++c::r).getD ((a.length:Int)).toNat 0=c:=by grind
   rw[e];have d:=j (a++[c]);rw[Yt,uX]at d;have l:(((a.length+[c].length:Nat)):Int)=(a.length:Int)+1:=rfl;rw[l]at d;have h:pnB c=(pcB c || (decide (48<=c.toNat) && decide (c.toNat<=57)) || decide (c.toNat=95)):=rfl;have g:=aBC c;rw[<-g]at h;have n:((c.toNat:Int) !=95)= !decide (c.toNat=95):=by grind
   have m:decide ((c.toNat:Int) < 48)= !decide (48<=c.toNat):=by grind
   have i:decide (57 < (c.toNat:Int))= !decide (c.toNat<=57):=by grind
   rw[h,n,m,i];have o:lu _ _ r.length ((a.length:Int)+1) ()=r.all pnB:=d;cases xu (c.toNat:Int)<;>cases IR (c.toNat:Int)<;>cases decide (c.toNat=95)<;>cases decide (48<=c.toNat)<;>cases decide (c.toNat<=57)<;>first | rfl | simp_all
 unfold uz r6part GK;simp only[aF,di,awX,ay];cases s with
 | nil=>rfl
 | cons c r=>
  have p:(((c::r).length:Int)==0)=false:=by rfl
  have q:(c::r).getD 0 0=c:=rfl;have k:(((c::r).length:Int) - 1).toNat=r.length:=by grind
  have g:=f r [c]
  grind [aBC]
def r6full (s:Str):Pg Bool:=.br (decide (120 < (↑(List.length s):Int))) (.ret false) (.each true mg s 0 (fun a d (b:List UInt8)=> .ix a (List.length s) (.br ((↑d.toNat:Int) !=46) (.lt (aQ .i64 (a+1)) fun c=> .ob (0<=a/\a<=c/\c<=(↑(List.length s):Int)) (.ob (b.length+(List.drop a.toNat (List.take c.toNat s)).length<=9223372036854775807) (rl (b++List.drop a.toNat (List.take c.toNat s))))) (.br (!uz b) (.ret (.inr false)) (.ret (.inl []))))) (fun a (b:List UInt8)=> .ret (uz b)) [])
def yX (s:Str):=(r6full s).val
theorem aqu (s:Str):Is (r6full s):=
 by
 refine is_brd iR fun j=>zO (fun k y=>y.length<=k) (pJ _) (.inl rfl) (fun a d f l c=> ?_) (fun d _ _=>is_ret);have c:d.length<=a:=c;have w:aQ .i64 ((a:Int)+1)=((a+1:Nat):Int):=h_ aj;rw[w];have i:(List.drop a (List.take (a+1) s)).length=1:=by grind
 refine⟨is_ix aj aj (is_bne (fun _=>is_lt fun h e=>is_ob aj (is_ob dm is_ret)) (fun _=>is_br iR iR)),fun g b=> ?_⟩;revert b;simp only[di,aF,aT,aV,ay,qA]
 grind
def TE:bi Z:=E0 [J5] [jS 5 (bD (fun b=>[s0 4, s0 3]) aoz)] hh1 hh2 [] func42 1 r6full fun a=>aqu a
theorem ZC (s:Str):yX s=(decide (s.length<=120) && (fJ 46 s).all GK):=by
 have i:∀(r a:Str) (y:List UInt8),(a++r).length<=9223372036854775000->iH (fun(k:Nat) (m:UInt8) (b:List UInt8)=>bif (m.toNat:Int) !=46 then(Sum.inl (b++List.drop k (List.take (aQ .i64 ((k:Int)+1)).toNat (a++r))):List UInt8⊕Bool)else(bif !uz b then .inr false else .inl [])) (fun _ b=>uz b) r a.length y=(headB y (fJ 46 r)).all GK:=by
  intro r;induction r with
  | nil=>
   intro a y _;show uz y=_
   rw[zV];simp[fJ,headB]
  | cons c r o=>
   intro a y q;unfold iH;have f:a.length < 9223372036854775807:=by grind
   have u:(aQ .i64 ((a.length:Int)+1)).toNat=a.length+1:=by rw[h_ f];rfl
   have n:List.drop a.length (List.take (aQ .i64 ((a.length:Int)+1)).toNat (a++c::r))=[c]:=by
    grind
   have g:=fun y=>o (a++[c]) y (by simpa using q)
   simp only[Yt,Qbn,Qd]at g;have p:(a++[c]).length=a.length+1:=by simp
   rw[p]at g;rw[n];cases l:c==46 with
   | false=>
    have d:((c.toNat:Int) !=46)=true:=by
     rw[Qdp];intro e;have:c=46:=Qb5.1 dm
     grind
    grind [aht]
   | true=>
    have t:=eq_of_beq l;subst t;have d:(((46:UInt8).toNat:Int) !=46)=false:=rfl;rw[d,lL,Cf l,zV];cases j:GK y with
    | false=>simp[headB,j]
    | true=>
     have:=g [];rw[ZW (MN 46 r)]at this;simp only[Qbv,lL];rw[this];simp[headB,j]
 unfold yX r6full;simp only[aF,dN,di,aT,aV,ay,qA];by_cases h:s.length<=120
 ·rw[wz h,pO (show ¬(120:Int) < (s.length:Int) by omega),lL,Bool.true_and];have:=i s [] [] dm;rw[ZW (MN 46 s)]at this;exact this
 grind
def vI:Str:=[46]
def al_ (s:Str):Pg Int:=.as (List.length vI<=9223372036854775807) (.br (vI==s) (.ret 0) (.ix 0 (List.length vI) (.ret (Lib.indexByte s (List.getD vI 0 0).toNat.toUInt8))))
def ab_ (s:Str):=(al_ s).val
theorem awy (s:Str):Is (al_ s):=
 is_as fun _=>is_br iR (fun _=>is_ix dH dH is_ret)
def alG:bi Z:=vP Z [PY] [jS 15 (bD (fun c=>[s0 8, s0 10]) agH)] (args U7) (l_ (n:=143) rfl) jE [] func120 ntmps120 dM 1 rfl (fun a=>al_ (a.1)) (fun a=>some (a.2=vI)) (fun⟨s,p⟩ e h=>by have b:p=vI:=h;subst b;show _=_;kernel_rfl) (fun a=>ab_ (a.1)) (fun a h=>⟨awy (a.1),rfl⟩)
theorem avf (s:Str):ab_ s=Lib.indexByte s 46:=by
 unfold ab_ al_;simp only[dW,dn,aF,aV,ay];by_cases h:vI=s
 ·subst h;rfl
 ·have:(vI==s)=false:=by simpa using h
  rw[this];rfl
theorem ab9:((List.length vI:Nat):Int)=1:=rfl
def aHE (s:Str):Pg Int:=.ob (vI=vI) (.ret (ab_ s))
theorem azg (s:Str):Is (aHE s):=
 is_ob rfl is_ret
def aEq:bi Z:=vP Z [alG] [] (args U7) (l_ (n:=8) rfl) jE [] func236 ntmps236 dM 1 rfl (fun a=>aHE (a.1)) (fun a=>some (a.2=vI)) (fun⟨s,p⟩ e h=>by have b:p=vI:=h;subst b;show _=_;kernel_rfl) (fun a=>Lib.indexByte (a.1) 46) (fun a h=>⟨azg (a.1),avf (a.1)⟩)
def abq (i:Int)(y:List UInt8×List Str):(List UInt8×List Str)⊕((List UInt8×Int×List Str)⊕List Str):=
 bif decide (Lib.indexByte y.1 46 < 0)then .inr (.inl (y.1,i,y.2))else .inl (List.drop (aQ .i64 (Lib.indexByte y.1 46+1)).toNat (List.take y.1.length y.1),y.2.set i.toNat (List.take (aQ .i64 (Lib.indexByte y.1 46+0)).toNat y.1))
def aB1 (i:Int)(y:List UInt8×List Str):(List UInt8×Int×List Str)⊕List Str:= .inl (y.1,i,y.2)
theorem Zq {r:Str}(g:r.length<=4294967296)(h:0 < Lib.countByte r 46):∃m:Nat,Lib.indexByte r 46=(m:Int)/\m < r.length/\fJ 46 r=r.take m::fJ 46 (r.drop (m+1))/\Lib.countByte r 46=Lib.countByte (r.drop (m+1)) 46+1:=by
 have c:=Lib.indexByte_ge r 46;by_cases a:Lib.indexByte r 46= -1
 ·have:=(Ij a).2;omega
 ·obtain⟨m,b⟩:∃m:Nat,Lib.indexByte r 46=(m:Int):=⟨(Lib.indexByte r 46).toNat,by omega⟩;obtain⟨f,e,d⟩:=Ht b
  grind
theorem azE {r:Str}{a:List Str}{i:Nat}(d:r.length<=4294967296)(h:0 < Lib.countByte r 46):∃m:Nat,abq (i:Int) (r,a)= .inl (r.drop (m+1),a.set i (r.take m))/\fJ 46 r=r.take m::fJ 46 (r.drop (m+1))/\Lib.countByte r 46=Lib.countByte (r.drop (m+1)) 46+1:=by
 obtain⟨m,j,g,c,b⟩:=Zq d h;refine⟨m,?_,c,b⟩;unfold abq;have e:aQ .i64 ((m:Int)+1)=((m+1:Nat):Int):=h_ aj;have f:aQ .i64 ((m:Int)+0)=((m:Nat):Int):=by rw[Int.add_zero,bn (k:= .i64) kM]
 grind
theorem abh:∀(n i:Nat) (r:Str) (a:List Str),Lib.countByte r 46=n->a.length=i+n+1->r.length<=4294967296->∃e b,lu abq aB1 n (i:Int) (r,a)= .inl (e,((i+n:Nat):Int),b)/\b.length=i+n+1/\b.take (i+n)++[e]=a.take i++fJ 46 r
 | 0,i,r,a,o,g,j=>by
  have d:Lib.indexByte r 46= -1:=by
   have q:=Lib.indexByte_ge r 46;by_cases d:Lib.indexByte r 46= -1
   ·exact d
   ·obtain⟨_,_,k⟩:=Ht (s:=r) (c:=46) (m:=(Lib.indexByte r 46).toNat) aj;omega
  exact⟨r,a,rfl,g,by rw[(Ij d).1];rfl⟩
 | n+1,i,r,a,o,g,j=>by
  obtain⟨m,t,l,k⟩:=azE (a:=a) (i:=i) j aj;have f:(r.drop (m+1)).length<=4294967296:=by grind
  obtain⟨e,b,d,u,p⟩:=abh n (i+1) (r.drop (m+1)) (a.set i (r.take m)) aj dm f;refine⟨e,b,?_,by omega,?_⟩
  ·grind [lu]
  ·rw[show i+(n+1)=i+1+n by omega,p,l];have:(a.set i (r.take m)).take (i+1)=a.take i++[r.take m]:=by
    rw[Qd9,Qcg,Qas aj];have h:(a.take i).length=i:=by grind
    simp only[Qd7];rw[List.set_append_right _ _ aj,h,Nat.sub_self];rfl
   grind
theorem aHe (s:Str)(h:s.length<=4294967296):min (aQ .i64 ((Lib.countByte s 46:Int)+1)) (aQ .i64 ((s.length:Int)+1))=((Lib.countByte s 46+1:Nat):Int)/\aQ .i64 (((Lib.countByte s 46+1:Nat):Int) - 1)=((Lib.countByte s 46:Nat):Int):=by
 have c:=count_le 46 s;have a:aQ .i64 ((Lib.countByte s 46:Int)+1)=((Lib.countByte s 46+1:Nat):Int):=h_ aj;have b:aQ .i64 ((s.length:Int)+1)=((s.length+1:Nat):Int):=h_ aj;rw[a,b,bn (k:= .i64) kM];omega
def aa2 (s:Str):Pg (List Str):=.cut (fun(d:Int)=> .lt (aQ .i64 ((↑(List.length s):Int)+1)) fun c=> .ob (min d c=min d c/\0<=min d c/\min d c*(16:Int)<=281474976710656/\min d c<=1099511627776) (.cut (fun(b:List UInt8×Int×List Str)=> .ix b.2.1 b.2.2.length (.ob (b.2.1.toNat < b.2.2.length) (.lt (b.2.2.set b.2.1.toNat b.1) fun i=> .lt (aQ .i64 (b.2.1+1)) fun h=> .ob ((0:Int)<=0/\0<=h/\h<=(↑i.length:Int)) (.ret (List.take h.toNat i))))) (.lt (aQ .i64 (min d c - 1)) fun j=> .cnt mg 0 j (fun e (a:List UInt8×List Str)=> .ob (vI=vI) (.br (decide (Lib.indexByte a.1 46 < 0)) (.ret (.inr (.inl (a.1,e,a.2)))) (.lt (aQ .i64 (Lib.indexByte a.1 46+0)) fun g=> .ob ((0:Int)<=0/\0<=g/\g<=(↑a.1.length:Int)) (.ix e a.2.length (.ob (e.toNat < a.2.length) (.lt (aQ .i64 (Lib.indexByte a.1 46+(↑(List.length vI):Int))) fun f=> .ob (0<=f/\f<=(↑a.1.length:Int)/\(↑a.1.length:Int)<=(↑a.1.length:Int)) (.as (List.length vI<=9223372036854775807) (rl (List.drop f.toNat (List.take a.1.length a.1),a.2.set e.toNat (List.take g.toNat a.1)))))))))) (fun e (a:List UInt8×List Str)=> rl (a.1,e,a.2)) (s,List.replicate (min d c).toNat [])))) (rl (aQ .i64 ((↑(Lib.countByte s 46):Int)+1)))
def Q_ (s:Str):=(aa2 s).val
theorem aoE (s:Str)(h:s.length<=4294967296):Is (aa2 s):=
 by
 obtain⟨A,l⟩:=aHe s h;have F:=count_le 46 s;refine is_cut is_ret (fun n a=> ?_);have a:aQ .i64 ((Lib.countByte s 46:Int)+1)=n:=by injection a
 subst a;refine is_lt fun K c=> ?_;subst c;rw[A];refine is_ob ⟨rfl,by omega,by omega,by omega⟩ (is_cut (is_lt fun R z=> ?_) fun w b=> ?_)
 ·subst z;rw[l];refine FO (fun i y=>0<=i/\y.2.length=Lib.countByte s 46+1/\(Lib.countByte y.1 46:Int)=(Lib.countByte s 46:Int) - i/\y.1.length<=s.length) ⟨by omega,by grind,by rfl,pJ _⟩ aj aj (fun o g d x u=> ?_) (fun o g _ _ _=>is_ret);obtain⟨O,M,L,J⟩:=u;obtain⟨m,C,S,Q,H⟩:=Zq (r:=g.1) aj aj;have p:aQ .i64 ((m:Int)+1)=((m+1:Nat):Int):=h_ aj;have B:aQ .i64 ((m:Int)+0)=((m:Nat):Int):=by rw[Int.add_zero,bn (k:= .i64) kM]
  rw[C];rw[ab9,p,B];refine⟨is_ob rfl (is_brd iR (fun _=>is_lt fun E I=>is_ob aj (is_ix aj aj (is_ob aj (is_lt fun D P=>is_ob aj (is_as fun _=>is_ret)))))),fun G f=> ?_⟩
  ·revert f;simp only[aV,aT,aF,di,dW,ay]
   grind
 ·obtain⟨t,v,d,x,N⟩:=abh (Lib.countByte s 46) 0 s (List.replicate (((Lib.countByte s 46+1:Nat):Int)).toNat []) rfl dm h;have e:w=(t,((0+Lib.countByte s 46:Nat):Int),v):=by
   have:=b;simp only[aT,lQ,aV,aF,di,dW,ay,l,ab9]at this;have j:=d;rw[show(((Lib.countByte s 46:Nat):Int) - 0).toNat=Lib.countByte s 46 by omega]at this;have q:=this.symm.trans j;injection q
  grind [is_ix,is_lt,is_ob,is_ret,h_]
def ar2:bi Z:=vP Z [azD,aEq] [jS 11 (bD (fun b=>[s0 10, s0 0, .row (pid (b 9)) 9]) (aJ cI (aJ cStr (l1 cd_Lstr)))),jS 100007 (bD (fun b=>[s0 3]) iL),jS 100017 (bD (fun b=>[s0 0, s0 10, .row (pid (b 9)) 9]) (aJ cStr ao6))] (args (aCons (aLf cStr) (aCons (aLf cStr) abf))) (l_ (n:=66) rfl) (R1 cd_Lstr) [] func170 ntmps170 dM 1 rfl (fun a=>aa2 (a.1)) (fun a=>some ((a.2.1=vI/\a.2.2.1=0/\a.2.2.2=(-1))/\((a.1).length<=4294967296))) (fun⟨s,p,c,n⟩ e h=>by have f:p=vI:=h.1.1;subst f;have d:c=0:=h.1.2.1;subst d;have g:n=(-1):=h.1.2.2;subst g;show _=_;kernel_rfl) (fun a=>Q_ (a.1)) (fun a h=>⟨aoE (a.1) h.2,rfl⟩)
theorem aqo (s:Str)(h:s.length<=4294967296):Q_ s=fJ 46 s:=by
 obtain⟨i,f⟩:=aHe s h;have j:=count_le 46 s;obtain⟨g,c,e,k,d⟩:=abh (Lib.countByte s 46) 0 s (List.replicate (((Lib.countByte s 46+1:Nat):Int)).toNat []) rfl dm h;unfold Q_ aa2;simp only[dn,aT,lQ,aV,aF,di,dW,ay,eP,i,f,ab9];rw[show(((Lib.countByte s 46:Nat):Int) - 0).toNat=Lib.countByte s 46 by omega];have a:(lu abq aB1 (Lib.countByte s 46) 0 (s,List.replicate (((Lib.countByte s 46+1:Nat):Int)).toNat []):(List UInt8×Int×List Str)⊕List Str)= .inl (g,((0+Lib.countByte s 46:Nat):Int),c):=e;refine(II (fun x:(List UInt8×Int×List Str)⊕List Str=>thenS x _) a).trans ?_;rw[eP];have w:aQ .i64 (((0+Lib.countByte s 46:Nat):Int)+1)=((0+Lib.countByte s 46+1:Nat):Int):=h_ aj;dsimp only;rw[w,qA,qA];rw[Bc]at*;rw[Qds,Qd]at d;rw[<-d,Qd9,Qcg,Qas aj];have b:(c.take (Lib.countByte s 46)).length=Lib.countByte s 46:=by grind
 simp only[Qd7];rw[List.set_append_right _ _ aj,b,Nat.sub_self];rfl
def avM (s:Str):Pg (List Str):=.ob ((vI=vI/\(0:Int)=0/\(-1)=(-1))/\List.length s<=4294967296) (.ret (Q_ s))
theorem aqA (s:Str)(h:s.length<=4294967296):Is (avM s):=
 is_ob ⟨⟨rfl,rfl,rfl⟩,h⟩ is_ret
def agI:bi Z:=vP Z [ar2] [] (args U7) (l_ (n:=8) rfl) (R1 cd_Lstr) [] func111 ntmps111 dM 1 rfl (fun a=>avM (a.1)) (fun a=>some ((a.2=vI)/\((a.1).length<=4294967296))) (fun⟨s,p⟩ e h=>by have b:p=vI:=h.1;subst b;show _=_;kernel_rfl) (fun a=>fJ 46 (a.1)) (fun a h=>⟨aqA (a.1) h.2,aqo (a.1) h.2⟩)
def adE (s:Str):Pg Bool:=.ob ([46]=vI/\List.length s<=4294967296) (.as ((fJ 46 s).length<=9223372036854775807) (.each false yc (fJ 46 s) [] (fun a b (c:Unit)=> .ix a (fJ 46 s).length (.br (!xO b) (.ret (.inr false)) (rl ()))) (fun a (c:Unit)=> .ret (decide ((↑(List.length s):Int)<=120))) ()))
def CQ (s:Str):=(adE s).val
def aa_:bi Z:=E1 [RH,agI] [jS 2 (bD (fun b=>[s0 8]) iL)] hh1 hh2 [] func60 1 adE fun a=>a.length<=4294967296
theorem VU (s:Str):CQ s=yX s:=by
 unfold CQ adE;simp only[aV,aT,dW,dN,di,aF,ay];rw[ZC];have b:∀(l:List Str) (k:Nat),iH (fun(_:Nat) (c:Str) (_:Unit)=>bif !xO c then(Sum.inr false:Unit⊕Bool)else .inl ()) (fun(_:Nat) (_:Unit)=>decide ((s.length:Int)<=120)) l k ()=(decide (s.length<=120) && l.all GK):=by
  intro l;induction l with
  | nil=>intro k;show decide ((s.length:Int)<=120)=_;grind
  | cons a l d=>
   grind [Ee,iH]
 exact b _ 0
def r6word (s:Str):Pg Bool:=.br (s==[109,101,115,115,97,103,101]) (.br (s==[109,101,115,115,97,103,101]) (.ret true) (.ret false)) (.br (s==[101,110,117,109]) (.br (s==[101,110,117,109]) (.ret true) (.ret false)) (.br (s==[115,101,114,118,105,99,101]) (.br (s==[115,101,114,118,105,99,101]) (.ret true) (.ret false)) (.br (s==[117,110,105,111,110]) (.br (s==[117,110,105,111,110]) (.ret true) (.ret false)) (.br (s==[109,97,112]) (.br (s==[109,97,112]) (.ret true) (.ret false)) (.br (s==[108,105,115,116]) (.br (s==[108,105,115,116]) (.ret true) (.ret false)) (.br (s==[114,101,113,117,105,114,101,100]) (.br (s==[114,101,113,117,105,114,101,100]) (.ret true) (.ret false)) (.br (s==[111,112,116,105,111,110,97,108]) (.br (s==[111,112,116,105,111,110,97,108]) (.ret true) (.ret false)) (.br (s==[112,108,97,105,110]) (.br (s==[112,108,97,105,110]) (.ret true) (.ret false)) (.br (s==[100,101,102,97,117,108,116]) (.br (s==[100,101,102,97,117,108,116]) (.ret true) (.ret false)) (.br (s==[114,101,115,101,114,118,101,100]) (.br (s==[114,101,115,101,114,118,101,100]) (.ret true) (.ret false)) (.br (s==[105,109,112,111,114,116]) (.br (s==[105,109,112,111,114,116]) (.ret true) (.ret false)) (.br (s==[115,112,97,99,101]) (.br (s==[115,112,97,99,101]) (.ret true) (.ret false)) (.br (s==[114,112,99]) (.br (s==[114,112,99]) (.ret true) (.ret false)) (.br (s==[115,116,114,101,97,109]) (.br (s==[115,116,114,101,97,109]) (.ret true) (.ret false)) (.br (s==[114,101,116,117,114,110,115]) (.br (s==[114,101,116,117,114,110,115]) (.ret true) (.ret false)) (.br (s==[111,112,101,110]) (.br (s==[111,112,101,110]) (.ret true) (.ret false)) (.br (s==[116,114,117,101]) (.br (s==[116,114,117,101]) (.ret true) (.ret false)) (.br (s==[102,97,108,115,101]) (.br (s==[102,97,108,115,101]) (.ret true) (.ret false)) (.br (s==[110,97,110]) (.br (s==[110,97,110]) (.ret true) (.ret false)) (.br (s==[105,110,102]) (.ret true) (.ret false)))))))))))))))))))))
def Fb (s:Str):=(r6word s).val
def afs:bi Z:=E0 [] [] hh1 hh2 [] func255 1 r6word
def r6split (a:Str):Pg (List UInt8×List UInt8):=.lt (aQ .i64 ((↑(List.length a):Int) - 1)) fun d=> .wh (a.length+1) default (fun(b:Int)=> .br (decide (0<=b)) (.ix b (List.length a) (.br ((↑(List.getD a b.toNat 0).toNat:Int)==46) (.ob ((0:Int)<=0/\0<=b/\b<=(↑(List.length a):Int)) (.lt (aQ .i64 (b+1)) fun c=> .ob (0<=c/\c<=(↑(List.length a):Int)/\(↑(List.length a):Int)<=(↑(List.length a):Int)) (.ret (.inr (List.take b.toNat a,List.drop c.toNat (List.take (List.length a) a)))))) (rl (aQ .i64 (b - 1))))) (.ret (.inr ([],a)))) d
def zZ (a:Str):=(r6split a).val
theorem aj6 (a:Str)(h:a.length<=9223372036854775807):Is (r6split a):=
 by
 refine is_ltw fun g c i=>DL (fun x=> -1<=x/\x < a.length) (fun x=>(x+1).toNat) aj aj (fun x l=>⟨is_brd (fun _=>is_ix aj aj (is_beq (fun _=>is_ob aj (is_ltw fun e d f=>is_ob aj (is_ret))) iR)) iR,fun j b=> ?_⟩);revert b;simp only[di,aF,aT,aV,ay,Z8,Xh];have w:0<=x->aQ .i64 (x - 1)=x - 1:=fun _=>bn (k:= .i64) kM
 grind
def an8:bi Z:=E1 [] [jS 2 (bD (fun b=>[s0 4]) iL)] hh1 (shr aeR (aJ cStr (l1 cStr))) [] func254 2 r6split (fun a=>a.length<=9223372036854775807) fun a h=>aj6 a h
def r6has (l:List Str)(s:Str):Pg Bool:=.each true yc l [] (fun a c (b:Unit)=> .ix a l.length (.br (c==s) (.ret (.inr true)) (rl ()))) (fun a (b:Unit)=> .ret false) ()
def IB (l:List Str)(s:Str):=(r6has l s).val
def amJ:bi Z:=E0 [] [jS 2 (bD (fun b=>Ap) iL)] aAZ hh2 [] func187 1 (u2 r6has)
def r4is (k:Int):Pg Bool:=.br (decide (1<=k)) (.ret (decide (k<=9))) (.ret false)
def G6 (k:Int):=(r4is k).val
def acU:bi Z:=E0 [] [] hh5 hh2 [] func349 1 r4is
def r4texts (k:Int):Pg Bool:=.br (k==7) (.ret true) (.ret (k==8))
def xC (k:Int):=(r4texts k).val
def Zl:bi Z:=E0 [] [] hh5 hh2 [] func351 1 r4texts
def r4lone (v:ae):Pg Bool:=.br ((↑v.List.length:Int)==0) (.br ((↑v.Pairs.length:Int)==0) (.br ((↑v.Slots.length:Int)==0) (.ret ((↑v.Raws.length:Int)==0)) (.ret false)) (.ret false)) (.ret false)
def vY (v:ae):=(r4lone v).val
def af0:bi Z:=E0 [] [] hh9 hh2 [] func350 1 r4lone
def r4fits (k:Int)(v:ae):Pg Bool:=.br (!G6 k) (.ret false) (.br (v.Kind !=k) (.ret false) (.br (!vY v.re) (.ret false) (.br (xC k) (.br (v.Bits==0) (.br (decide ((↑(List.length v.Text):Int)<=4096)) (.br (k==8) (.ret true) (.ob (List.length v.Text<=9223372036854775700) (.ret (FX v.Text)))) (.ret false)) (.ret false)) (.br (v.Text !=[]) (.ret false) (.br (k==1) (.ret (decide (v.Bits<=1))) (.br (k==2) (.lt (aQ .i64 v.Bits) fun a=> .br (decide ((-2147483648)<=a)) (.ret (decide (a<=2147483647))) (.ret false)) (.br (k==4) (.ret (decide (v.Bits < 4294967296))) (.br (k==9) (.ret (decide (v.Bits < 2147483648))) (.ret true)))))))))
def ut (k:Int)(v:ae):=(r4fits k v).val
def WJ:bi Z:=E0 [D8,acU,af0,Zl] [] (aCons (aLf cI) hh9) hh2 [] func258 1 (u2 r4fits)
def r4class (b:Int):Pg Int:=.ob ((9223372036854775808:Int)≠0) (.br (decide (9218868437227405312 < b.tmod 9223372036854775808)) (.ret 0) (.br (b.tmod (9223372036854775808:Int)==9218868437227405312) (.ret 1) (.br (b.tmod (9223372036854775808:Int)==0) (.ret 2) (.br (decide (b.tmod (9223372036854775808:Int) < 4503599627370496)) (.ret 3) (.ret 4)))))
def Aw (b:Int):=(r4class b).val
def Zi:bi Z:=E0 [] [] Qw jE [] func352 1 r4class
def r4norm (v:ae):Pg ae:=.br (v.Kind==6) (.br (Aw v.Bits==0) (.ret (ae.mk v.Kind 9221120237041090560 v.Text v.List v.Pairs v.Slots v.Raws)) (.ret v.re)) (.ret v.re)
def jU (v:ae):=(r4norm v).val
def JS:bi Z:=E0 [Zi] [] hh9 hh12 [] func259 1 r4norm
def r8kind (a:Str):Pg Int:=.cut (fun(c:Bool)=> .br c (.ret 1) (.cut (fun(d:Bool)=> .br d (.ret 7) (.cut (fun(b:Bool)=> .br b (.ret 4) (.br (a==[109,105,110]) (.br (a==[109,105,110]) (.ret 3) (.ret 0)) (.br (a==[109,97,120]) (.ret 3) (.ret 0)))) (.br (a==[115,105,110,99,101]) (rl (a==[115,105,110,99,101])) (.br (a==[117,110,116,105,108]) (rl (a==[117,110,116,105,108])) (.br (a==[108,101,110,103,116,104]) (rl (a==[108,101,110,103,116,104])) (rl (a==[116,105,109,101,111,117,116]))))))) (.br (a==[100,111,99]) (rl (a==[100,111,99])) (.br (a==[97,108,105,97,115]) (rl (a==[97,108,105,97,115])) (.br (a==[114,111,117,116,101]) (rl (a==[114,111,117,116,101])) (rl (a==[111,119,110,101,114]))))))) (.br (a==[100,101,112,114,101,99,97,116,101,100]) (rl (a==[100,101,112,114,101,99,97,116,101,100])) (.br (a==[115,101,99,114,101,116]) (rl (a==[115,101,99,114,101,116])) (rl (a==[105,100,101,109,112,111,116,101,110,116]))))
def nP (a:Str):=(r8kind a).val
def agD:bi Z:=E0 [] [jS 100005 (bD (fun b=>[s0 4]) oK),jS 100010 (bD (fun b=>[s0 8]) oK),jS 100015 (bD (fun b=>[s0 13]) oK)] hh1 jE [] func353 1 r8kind
def r8fits (b:Str)(a:Int):Pg Bool:=.cut (fun(d:Bool)=> .br d (.br (decide (1<=a)) (.ret (decide (a<=6))) (.ret false)) (.cut (fun(e:Bool)=> .br e (.br (a==2) (.ret true) (.br (a==4) (.ret true) (.ret (a==6)))) (.cut (fun(c:Bool)=> .br c (.ret (a==2)) (.br (b==[105,100,101,109,112,111,116,101,110,116]) (.br (b== [105,100,101,109,112,111,116,101,110,116]) (.ret (a==6)) (.br (a==1) (.ret true) (.ret (a==5)))) (.br (b==[116,105,109,101,111,117,116]) (.br (b==[116,105,109,101,111,117,116]) (.ret (a==6)) (.br (a==1) (.ret true) (.ret (a==5)))) (.br (b==[114,111,117,116,101]) (.ret (a==6)) (.br (a==1) (.ret true) (.ret (a==5))))))) (.br (b==[109,105,110]) (rl (b==[109,105,110])) (.br (b==[109,97,120]) (rl (b==[109,97,120])) (.br (b==[108,101,110,103,116,104]) (rl (b==[108,101,110,103,116,104])) (rl (b==[115,101,99,114,101,116]))))))) (.br (b==[97,108,105,97,115]) (rl (b==[97,108,105,97,115])) (.br (b==[115,105,110,99,101]) (rl (b==[115,105,110,99,101])) (rl (b==[117,110,116,105,108])))))) (.br (b==[100,101,112,114,101,99,97,116,101,100]) (rl (b==[100,101,112,114,101,99,97,116,101,100])) (rl (b==[100,111,99])))
def EQ (b:Str)(a:Int):=(r8fits b a).val
def arH:bi Z:=E0 [] [jS 100004 (bD (fun b=>[s0 6]) oK),jS 100008 (bD (fun b=>[s0 15]) oK),jS 100013 (bD (fun b=>[s0 29]) oK)] (aCons (aLf cStr) hh5) hh2 [] func354 1 (u2 r8fits)
def r8right (n:Note):Pg Bool:=.lt (nP n.Name) fun a=> .br (a !=0) (.br (n.Val.Kind==a) (.ret (ut a n.Val.re)) (.ret false)) (.ret false)
def uV (n:Note):=(r8right n).val
def aqw:bi Z:=E0 [WJ,agD] [] (a1 (aAgg cd_Note)) hh2 [] func355 1 r8right
def r8check (l:List Note)(c:Int):Pg Int:=.br (decide (8 < (↑l.length:Int))) (.ret 3) (.each true yc l ou (fun a b (e:Unit)=> .ix a l.length (.br (nP b.Name==0) (.ret (.inr 8)) (.ix a l.length (.br (!EQ b.Name c) (.ret (.inr 1)) (.ix a l.length (.br (!uV (Note.mk b.Name b.Val.re)) (.ret (.inr 12)) (.lt (aQ .i64 (a - 1)) fun d=> .cut (fun(f:Unit)=> .br (decide (0 < a)) (.ix a l.length (.ix d l.length (.br (b.Name==(l.getD d.toNat ou).Name) (.ret (.inr 9)) (rl ())))) (rl ())) (.br (decide (0 < a)) (.ix a l.length (.ix d l.length (.br (Op.bytesLess b.Name (l.getD d.toNat ou).Name) (.ret (.inr (.inr 11))) (rl ())))) (rl ()))))))))) (fun a (e:Unit)=> .ret 0) ())
def Xg (l:List Note)(a:Int):=(r8check l a).val
def aqg:bi Z:=E0 [agD,arH,aqw] [jS 4 (bD (fun b=>Ap) iL),jS 100014 (bD (fun b=>[]) l0)] atp jE [] func260 1 (u2 r8check)
def alA (l:List Note)(a:Str):Pg Int:=.each true yc l ou (fun b c (d:Unit)=> .ix b l.length (.br (c.Name==a) (.ret (.inr b)) (rl ()))) (fun b (d:Unit)=> .ret (-1)) ()
theorem akb (l:List Note)(a:Str):Is (alA l a):=
 is_each (.inl rfl) (fun c b _ _=>is_ix aj aj (is_br iR iR)) (fun b _=>is_ret)
def apE:bi Z:=E2 [] [jS 2 (bD (fun c=>Ap) iL)] ayY jE [] func356 1 (u2 alA) (fun a=>none) (fun a=>dO (fun(n:Note)=>n.Name==a.2) a.1) fun a h=>⟨akb a.1 a.2,(fun l b=>vV (fun(n:Note)=>n.Name==b) l 0) a.1 a.2⟩
def r8find (l:List Note)(b:Str):Pg (ae×Bool):=.lt (dO (fun(n:Note)=>n.Name==b) l) fun a=> .br (decide (a < 0)) (.ret (ae.mk 0 0 [] [] [] [] [],false)) (.ix a l.length (.ret ((l.getD a.toNat ou).Val.re,true)))
def aa8 (l:List Note)(a:Str):=(r8find l a).val
theorem anU (l:List Note)(a:Str):Is (r8find l a):=
 is_lt fun c b=>is_brd iR (fun _=>is_ix aj (by have:=jy (fun(n:Note)=>n.Name==a) l;omega) (is_ret))
def atu:bi Z:=E0 [apE] [] ayY aAm [] func264 2 (u2 r8find) fun a=>anU a.1 a.2
theorem afT (s:Str)(h:s.length<=9223372036854775807):(zZ s).1.length<=s.length:=by
 unfold zZ r6split;simp only[aT,qx,aF,di,aV,ay];have w0:aQ .i64 ((s.length:Int) - 1)=(s.length:Int) - 1:=bn (k:= .i64) kM;rw[w0];refine JF (fun(x:Int)=> -1<=x/\x < s.length) (fun(x:Int)=>(x+1).toNat) (fun(r:Str×Str)=>r.1.length<=s.length) (fun x b=> ?_) _ _ aj aj;by_cases a:0<=x
 ·simp only[a,decide_true,cond_true];cases((s.getD x.toNat 0).toNat:Int)==46 with
  | true=>grind
  | false=>exact .inl ⟨_,rfl,by rw[bn (k:= .i64) kM];omega,by rw[bn (k:= .i64) kM];omega⟩
 grind
def r9usable (s:Str):Pg Bool:=.br (!yX s) (.ret false) (.cnt mg 0 120 (fun c (a:List UInt8)=> .br (a !=[]) (.ob (a.length<=9223372036854775807) (.lt (zZ a) fun b=> .br (Fb b.2) (.ret (.inr false)) (rl b.1))) (.ret (.inr true))) (fun c (a:List UInt8)=> .ret true) s)
def zK (s:Str):=(r9usable s).val
theorem adR (s:Str)(h:s.length<=9223372036854775807):Is (r9usable s):=
 by
 refine is_br iR (fun _=>FO (fun _ y=>y.length<=9223372036854775807) h aj aj (fun c d _ _ b=>⟨is_br (fun _=>is_ob b (is_lt fun g e=>is_br iR iR)) iR,fun f a=> ?_⟩) (fun c d _ _ _=>is_ret));revert a;simp only[aF,aV,aT,ay,Z8]
 grind [afT]
def IQ:bi Z:=E1 [TE,an8,afs] [jS 4 (bD (fun b=>[s0 3, s0 0]) aoz)] hh1 hh2 [] func189 1 r9usable (fun a=>a.length<=9223372036854775807) fun a h=>adR a h
def r9part (s:Str):Pg Bool:=.br (uz s) (.ret !Fb s) (.ret false)
def rJ (s:Str):=(r9part s).val
def KZ:bi Z:=E0 [J5,afs] [] hh1 hh2 [] func190 1 r9part
def r9same (a:ae)(b:ae):Pg Bool:=.br (a.Kind==b.Kind) (.br (a.Bits==b.Bits) (.br (a.Text==b.Text) (aL a.List (aL a.Pairs (aL a.Slots (aL a.Raws (aL b.List (aL b.Pairs (aL b.Slots (aL b.Raws (.ret (aQ .i64 (aQ .i64 (aQ .i64 (aQ .i64 (aQ .i64 (aQ .i64 (aQ .i64 ((↑a.List.length:Int)+(↑a.Pairs.length:Int))+(↑a.Slots.length:Int))+ (↑a.Raws.length:Int))+ (↑b.List.length:Int))+ (↑b.Pairs.length:Int))+ (↑b.Slots.length:Int))+ (↑b.Raws.length:Int))== 0)))))))))) (.ret false)) (.ret false)) (.ret false)
def Bh (a:ae)(b:ae):=(r9same a b).val
def asc:bi Z:=E0 [] [] aiT hh2 [] func257 1 (u2 r9same)
def sIs (k:Int):Pg Bool:=.br (decide (1<=k)) (.ret (decide (k<=9))) (.ret false)
def sIsP (k:Int):=(sIs k).val
def aeF:bi Z:=E0 [] [] hh5 hh2 [] func431 1 sIs
def awI (k:Int):Pg Bool:=.br (k==7) (.ret true) (.ret (k==8))
def EZ (k:Int):=(awI k).val
def aff:bi Z:=E0 [] [] hh5 hh2 [] func432 1 awI
def atK (v:ae):Pg Bool:=aL v.List (aL v.Pairs (aL v.Slots (aL v.Raws (.lt (aQ .i64 (aQ .i64 (aQ .i64 ((↑v.List.length:Int)+(↑v.Pairs.length:Int))+(↑v.Slots.length:Int))+(↑v.Raws.length:Int))) fun a=> .br (decide (0 < a)) (.ret false) (.br (EZ v.Kind) (.ret (v.Bits==0)) (.ret (v.Text==[])))))))
def acl (v:ae):=(atK v).val
def amg:bi Z:=E0 [aff] [] hh9 hh2 [] func458 1 atK
def abH (k:Int)(b:Int):Pg Bool:=.br (k==1) (.ret (decide (b<=1))) (.br (k==2) (.lt (aQ .i64 b) fun a=> .br (decide ((-2147483648)<=a)) (.ret (decide (a<=2147483647))) (.ret false)) (.br (k==9) (.ret (decide (b<=2147483647))) (.br (k==4) (.ret (decide (b<=4294967295))) (.ret true))))
def afG (k:Int)(b:Int):=(abH k b).val
def anJ:bi Z:=E0 [] [] (aCons (aLf cI) Qw) hh2 [] func477 1 (u2 abH)
def auA (k:Int)(v:ae):Pg Bool:=.br (!sIsP k) (.ret false) (.br (v.Kind !=k) (.ret false) (.br (!acl v.re) (.ret false) (.br (!afG k v.Bits) (.ret false) (.br (decide (4096 < (↑(List.length v.Text):Int))) (.ret false) (.br (k !=7) (.ret true) (.ob (List.length v.Text<=9223372036854775700) (.ret (EX v.Text))))))))
def NK (k:Int)(v:ae):=(auA k v).val
def acP:bi Z:=E0 [DF,aeF,amg,anJ] [] (aCons (aLf cI) hh9) hh2 [] func368 1 (u2 auA)
def ah5 (b:Int):Pg Int:=.br (nT .u64 b (9218868437227405312:Int)==9218868437227405312) (.br (nT .u64 b (4503599627370495:Int) !=0) (.ret 0) (.br (nT .u64 b (9218868437227405312:Int)==9218868437227405312) (.ret 1) (.br (nT .u64 b (9218868437227405312:Int)==0) (.br (nT .u64 b (4503599627370495:Int)==0) (.ret 2) (.br (nT .u64 b (9218868437227405312:Int)==0) (.ret 3) (.ret 4))) (.br (nT .u64 b (9218868437227405312:Int)==0) (.ret 3) (.ret 4))))) (.br (nT .u64 b (9218868437227405312:Int)==9218868437227405312) (.ret 1) (.br (nT .u64 b (9218868437227405312:Int)==0) (.br (nT .u64 b (4503599627370495:Int)==0) (.ret 2) (.br (nT .u64 b (9218868437227405312:Int)==0) (.ret 3) (.ret 4))) (.br (nT .u64 b (9218868437227405312:Int)==0) (.ret 3) (.ret 4))))
def EY (b:Int):=(ah5 b).val
def aeQ:bi Z:=E0 [] [] Qw jE [] func457 1 ah5
def aev (v:ae):Pg ae:=.br (v.Kind==6) (.br (EY v.Bits==0) (.ret (ae.mk v.Kind 9221120237041090560 v.Text v.List v.Pairs v.Slots v.Raws)) (.ret v.re)) (.ret v.re)
def jo (v:ae):=(aev v).val
def RU:bi Z:=E0 [aeQ] [] hh9 hh12 [] func345 1 aev
def arp:Pg (List (Str×eU)):=.ret (nS (nS (nS (nS (nS (nS (nS (nS (nS (nS (nS (nS (nS [] [100,101,112,114,101,99,97,116,101,100] (eU.mk 1 126)) [100,111,99] (eU.mk 7 126)) [97,108,105,97,115] (eU.mk 7 84)) [115,105,110,99,101] (eU.mk 4 84)) [117,110,116,105,108] (eU.mk 4 84)) [109,105,110] (eU.mk 3 4)) [109,97,120] (eU.mk 3 4)) [108,101,110,103,116,104] (eU.mk 4 4)) [115,101,99,114,101,116] (eU.mk 1 4)) [105,100,101,109,112,111,116,101,110,116] (eU.mk 1 64)) [116,105,109,101,111,117,116] (eU.mk 4 64)) [114,111,117,116,101] (eU.mk 7 64)) [111,119,110,101,114] (eU.mk 7 34))
def kL:List (Str×eU):=(arp).val
def afK:bi Z:=E0 [] [] a0 (R1 zi) [] func478 1 fun a=>arp
def awo (a:Str):Pg Int:=.ret (kX jh.z kL a).kind
def Nh (a:Str):=(awo a).val
def azb:bi Z:=E0 [afK] [] hh1 jE [] func536 1 awo
def aie (n:Note):Pg Bool:=.lt (Nh n.Name) fun a=> .br (a !=0) (.ret (NK a n.Val.re)) (.ret false)
def abX (n:Note):=(aie n).val
def as3:bi Z:=E0 [acP,azb] [] (a1 (aAgg cd_Note)) hh2 [] func479 1 aie
def aEM (n:Note)(a:Int)(b:Str)(c:Bool):Pg Int:=.br (!(Qy jh D.jg kL).has (Pv.str n.Name)) (.ret 8) (.cut (fun(d:Bool)=> .br d (.ret 1) (.br (!abX (Note.mk n.Name n.Val.re)) (.ret 12) (.br c (.br (Op.bytesLess n.Name b) (.ret 11) (.br c (.br (n.Name==b) (.ret 9) (.ret 0)) (.ret 0))) (.br c (.br (n.Name==b) (.ret 9) (.ret 0)) (.ret 0))))) (.br (decide (a < 1)) (rl true) (.br (decide (6 < a)) (rl true) (.ob (0<=a) (rl (nT .i64 (lN .i64 (kX jh.z kL n.Name).targets a) (1:Int)==0))))))
def atX (n:Note)(a:Int)(b:Str)(c:Bool):=(aEM n a b c).val
def aDQ:bi Z:=E0 [afK,as3] [jS 100005 (bD (fun b=>[s0 21]) oK)] (aCons (aAgg cd_Note) (aCons (aLf cI) (aCons (aLf cStr) (a1 (aLf cBool))))) jE [] func370 1 (u4 aEM)
def ahg (l:List Note)(a:Int):Pg Int:=.br (decide (8 < (↑l.length:Int))) (.ret 3) (aL l (.each false mg l ou (fun c b (e:List UInt8)=> .ix c l.length (.lt (atX (Note.mk b.Name b.Val.re) a e (decide (0 < c))) fun d=> .br (d !=0) (.ret (.inr d)) (rl b.Name))) (fun c (e:List UInt8)=> .ret 0) []))
def abG (l:List Note)(a:Int):=(ahg l a).val
def asj:bi Z:=E0 [aDQ] [jS 5 (bD (fun b=>[s0 14, s0 5]) aoz)] atp jE [] func282 1 (u2 ahg)
theorem take_snoc {A:Type}{l:List A}{i:Nat}{d:A}(a:i < l.length):l.take (i+1)=l.take i++[l.getD i d]:=by
 simp_all
theorem aeJ {A:Type}{y l:List A}{i:Nat}{d a:A}(h:y.Sublist (l.take i))(b:i < l.length)(e:a=l.getD i d):(y++[a]).Sublist (l.take (i+1)):=by
 grind [take_snoc]
theorem agm {A:Type}{y l:List A}{i:Nat}(h:y.Sublist (l.take i)):y.Sublist (l.take (i+1)):=h.trans (Qdd aj)
theorem aeV {p:Slot->Bool}{y l:List Slot}{i:Nat}(h:y.Sublist ((l.take i).filter p))(a:i < l.length)(b:p (l.getD i gZ)=true):(y++[Slot.mk (l.getD i gZ).Num (l.getD i gZ).Val.re]).Sublist ((l.take (i+1)).filter p):=by
 grind [ae.bJ,Slot.eta,take_snoc]
theorem JU {p:Slot->Bool}{y l:List Slot}{i:Nat}(h:y.Sublist ((l.take i).filter p)):y.Sublist ((l.take (i+1)).filter p):=h.trans ((Qdd aj).filter p)
theorem ay1 {p:Slot->Bool}{y l:List Slot}{i:Nat}(h:y.Sublist ((l.take i).filter p)):y.length<=l.length:=Du h.length_le (Du (List.length_filter_le _ _) dm)
def QY (p:aC)(o:Op)(f:Raw):Pg (ae×Int):=.br (!sIsP o.Kind) (.ret (ae.mk 0 0 [] [] [] [] [],12)) (.br (f.fB !=pg o) (.ret (ae.mk 0 0 [] [] [] [] [],13)) (.br (f.fB==3) (.br (o.Kind==7) (.ob (List.length f.Data<=9223372036854775700) (.br (!EX f.Data) (.ret (ae.mk 0 0 [] [] [] [] [],7)) (.ret (ae.mk o.Kind 0 f.Data [] [] [] [],0)))) (.ret (ae.mk o.Kind 0 f.Data [] [] [] [],0))) (.cut (fun(a:ae)=> .br (!NK o.Kind a.re) (.ret (ae.mk 0 0 [] [] [] [] [],6)) (.lt (jo a.re) fun b=> .br (o.Kind==9) (.br (!Dc p o.Target a.Bits) (.ret (ae.mk 0 0 [] [] [] [] [],16)) (.ret (b.re,0))) (.ret (b.re,0)))) (.br (f.fB==1) (rl (ae.mk o.Kind (aQ .u64 (alv f.Bits)) [] [] [] [] [])) (rl (ae.mk o.Kind f.Bits [] [] [] [] []))))))
def p_ (p:aC)(o:Op)(f:Raw):=(QY p o f).val
def YB:bi Z:=E1 [DF,I_,RU,acP,aEO,aeF,aFR] [jS 100012 (bD (fun b=>[.cells (pid (b 8)) (nn 7)]) aaJ)] aCs aiI [] func449 2 (u3 QY) fun a=>a.2.2.Data.length<=1048576
def tSet (g:aX)(v:ae)(o:Op)(x:ae):Pg ae:=aL v.Slots (.each false mg v.Slots gZ (fun f c (b:ae)=> .ix f v.Slots.length (.br (c.Num==o.Num) (rl b.re) (.lt (b.Slots++[Slot.mk c.Num c.Val.re]) fun(d:List Slot)=> .lt (pz g c.Num) fun e=> .br e.2 (.br (decide (0<=o.Union)) (.br (e.1.Union==o.Union) (rl b.re) (.ob (bG (b.Slots.length+1) 136) (rl (ae.mk b.Kind b.Bits b.Text b.List b.Pairs d b.Raws)))) (.ob (bG (b.Slots.length+1) 136) (rl (ae.mk b.Kind b.Bits b.Text b.List b.Pairs d b.Raws)))) (.ob (bG (b.Slots.length+1) 136) (rl (ae.mk b.Kind b.Bits b.Text b.List b.Pairs d b.Raws)))))) (fun f (b:ae)=> .ob (bG (b.Slots.length+1) 136) (.ret (ae.mk b.Kind b.Bits b.Text b.List b.Pairs (b.Slots++[Slot.mk o.Num x.re]) b.Raws))) (ae.mk (Int.ofNat (nat_lit 10)) (Int.ofNat (nat_lit 0)) [] [] [] [] (match v with | ae.mk h m j i l k a=>a)))
def u_ (g:aX)(v:ae)(o:Op)(x:ae):=(tSet g v o x).val
theorem adt (g:aX)(v:ae)(o:Op)(x:ae)(h:v.Slots.length<=1048576):gU (tSet g v o x) (fun r=>∃l,l.Sublist (v.Slots.filter fun s=> !(s.Num==o.Num))/\r=ae.mk 10 0 [] [] [] (l++[Slot.mk o.Num x]) v.Raws):=
 bZ <| bC (fun(a:Nat) y2=>y2.Slots.Sublist ((v.Slots.take a).filter fun s=> !(s.Num==o.Num))/\y2=ae.mk 10 0 [] [] [] y2.Slots v.Raws) (by exact⟨List.nil_sublist _,rfl⟩) aj (fun a y2 i c=>have hI:y2.Slots.Sublist ((v.Slots.take a).filter fun s=> !(s.Num==o.Num))/\y2=ae.mk 10 0 [] [] [] y2.Slots v.Raws:=c;aH aj aj (bI (fun _=>af (by grind [ae.bJ,JU])) (fun _=>au fun v4 b=>au fun f d=>bH (fun _=>aU (fun _=>bI (fun _=>af (by grind [ae.bJ,JU])) (fun _=>ah (qbr) (af qap))) (fun _=>ah (qbr) (af qap))) (fun _=>ah (qbr) (af qap))))) (fun y2 hI=>have hI:y2.Slots.Sublist ((v.Slots.take v.Slots.length).filter fun s=> !(s.Num==o.Num))/\y2=ae.mk 10 0 [] [] [] y2.Slots v.Raws:=hI;ah (qbr) (af (by(try simp only[Sum.elim_inl,Sum.elim_inr])<;>(first | (rw[ae.bJ];exact⟨JU hI.1,hI.2⟩) | (refine⟨?_,by have e:=hI.2;rw[e];rfl⟩;show v4.Sublist _;rw[b];exact aeV hI.1 aj (by rw[Qbf];exact beq_false_of_ne aj)) | (exact⟨y2.Slots,by grind,by rw[ae.bJ];have e:=hI.2;rw[e];rfl⟩)))))
def acC:bi Z:=E1 [aBs] [jS 3 (bD (fun b=>[s0 20, .cells (pid (b 9)) az1]) (aJ cI aaJ)),jS 800001 (bD (fun b=>[.cells (pid (b 9)) az1]) aaJ)] aFU hh12 [] func443 1 (u4 tSet) (fun a=>a.2.1.Slots.length<=1048576) fun a h=>(adt a.1 a.2.1 a.2.2.1 a.2.2.2 h).1
def tAside (v:ae)(f:Raw):Pg ae:=aL v.Raws (.ob (0<=(↑v.Raws.length:Int)/\(↑v.Raws.length:Int)=(↑v.Raws.length:Int)/\(↑v.Raws.length:Int)<=(↑v.Raws.length:Int)) (.ob (0 < 1/\bG ((List.take v.Raws.length v.Raws).length+1) 40) (.ret (ae.mk v.Kind v.Bits v.Text v.List v.Pairs v.Slots (List.take v.Raws.length v.Raws++[f])))))
def uy (v:ae)(f:Raw):=(tAside v f).val
theorem ao_ (v:ae)(f:Raw)(h:v.Raws.length<=1048576):Is (tAside v f):=
 is_as fun _=>is_ob aj (is_ob ((⟨by decide,room_of vH vH⟩)) (is_ret))
def agJ:bi Z:=E1 [] [] (aCons (aAgg cd_AVal) aAK) hh12 [] func243 1 (u2 tAside) (fun a=>a.1.Raws.length<=1048576) fun a h=>ao_ a.1 a.2 h
def tLonger (l:ae)(x:ae):Pg ae:=aL l.List (.ob (0<=(↑l.List.length:Int)/\(↑l.List.length:Int)=(↑l.List.length:Int)/\(↑l.List.length:Int)<=(↑l.List.length:Int)) (.ob (0 < 1/\bG ((List.take l.List.length l.List).length+1) 128) (.ret (ae.mk 11 0 [] (List.take l.List.length l.List++[x.re]) [] [] []))))
def nH (l:ae)(x:ae):=(tLonger l x).val
theorem ajL (l:ae)(x:ae)(h:l.List.length<=1048576):Is (tLonger l x):=
 is_as fun _=>is_ob aj (is_ob ((⟨by decide,room_of vH vH⟩)) (is_ret))
def ZJ:bi Z:=E1 [] [] aiT hh12 [] func447 1 (u2 tLonger) (fun a=>a.1.List.length<=1048576) fun a h=>ajL a.1 a.2 h
def aiv (n:Int)(r:tagdec_reader):Pg (Int×tagdec_reader):=.lt (nO r.c n) fun a=> .ret (a.2,tagdec_reader.mk r.p a.1)
def mX (n:Int)(r:tagdec_reader):=(aiv n r).val
def D9:bi Z:=QF [agC] [] (aCons (aPtr 0) hh5) afL (shr [s0 0, .cells 0 (nn 8)] (aJ cI avE)) [] func175 1 fun a=>aiv a.1.2 a.2
def Rx (r:tagdec_reader):Pg (Int×Int×tagdec_reader):=.ob (okC r.c) (.lt (bP r.c) fun a=> .br (a.2.2 !=0) (.ret (0,a.2.2,r)) (.lt (aQ .u64 (m_ a.2.1)) fun b=> .br (decide (b < a.1)) (.ret (0,4,r)) (.ret (aQ .i64 a.1,0,tagdec_reader.mk r.p a.2.1))))
def ig (r:tagdec_reader):=(Rx r).val
def FV:bi Z:=ZY [yT,zQ] [] Dn afL (shr [s0 0, s0 1, .cells 0 (nn 8)] (aJ cI (aJ cI avE))) [] func439 2 (fun a=>Rx a.2) fun a=>okC a.2.c
theorem jW {r:tagdec_reader}(h:okC r.c)(a:(ig r).2.1=0):yu 1 r.c (ig r).2.2.c/\(ig r).2.2.c.Nodes=r.c.Nodes/\(ig r).2.2.p=r.p/\0<=(ig r).1/\(ig r).1<=(ig r).2.2.c.End - (ig r).2.2.c.At:=by
 obtain⟨f,k⟩:=iw h;unfold ig Rx at a⊢;simp only[aV,aT,aF,ay]at a⊢;cases e:(bP r.c).2.2 !=0 with
 | true=>
  grind
 | false=>
  obtain⟨c,l⟩:=k (bU.1 e);have b:=c.1;have kl:=kZ b;rw[e]at a;simp only[lL]at a⊢;obtain⟨⟨j,i,g,m⟩,n⟩:=b;obtain⟨o,u2⟩:=f;rw[kl,bn (k:= .u64) kM]at a⊢;by_cases d:(bP r.c).2.1.End - (bP r.c).2.1.At < (bP r.c).1
  ·grind
  rw[pO d];rw[bn (k:= .i64) kM]
  grind
def tContents (a:Int)(r:tagdec_reader):Pg (Raw×Int×tagdec_reader):=.br (a==3) (.ob (okC r.c) (.lt (ig r) fun b=> .br (b.2.1 !=0) (.ret (Raw.mk 0 a 0 [],b.2)) (.ob (okC b.2.2.c) (.lt (zn b.2.2.c b.1) fun e=> .ret (Raw.mk 0 a 0 e.1,e.2.2,tagdec_reader.mk b.2.2.p e.2.1))))) (.br (a==2) (.ob (okC r.c) (.lt (uG r.c) fun d=> .ret (Raw.mk 0 a d.1 [],d.2.2,tagdec_reader.mk r.p d.2.1))) (.ob (okC r.c) (.lt (bP r.c) fun c=> .ret (Raw.mk 0 a c.1 [],c.2.2,tagdec_reader.mk r.p c.2.1))))
def eQ (a:Int)(r:tagdec_reader):=(tContents a r).val
theorem aa9 (a:Int)(r:tagdec_reader)(h:okC r.c):Is (tContents a r):=
 is_beq (fun _=>is_ob (h) (is_lt fun g c=>is_bne iR (fun _=>is_ob (by have k:=(jW h dm).1.1;grind) (is_lt fun j b=>is_ret)))) (fun _=>is_beq (fun _=>is_ob (h) (is_lt fun i d=>is_ret)) (fun _=>is_ob (h) (is_lt fun f e=>is_ret)))
def PV:bi Z:=ZY [zQ,FV,aek,azp] [] (aCons (aPtr 0) hh5) afL (shr [.slot 0 true (nn 4), s0 1, .cells 0 (nn 8)] (aJ cd_Raw (aJ cI avE))) [] func448 2 (fun a=>tContents a.1.2 a.2) (fun a=>okC a.2.c) fun a h=>aa9 a.1.2 a.2 h
def atW (n:Int)(r:tagdec_reader):Pg (ai×tagdec_reader):=.ret (r.c,tagdec_reader.mk r.p (ai.mk r.c.Data r.c.At (aQ .i64 (r.c.At+n)) r.c.Depth r.c.Nodes r.c.Text))
def SI (n:Int)(r:tagdec_reader):=(atW n r).val
def alg:bi Z:=QF [] [] (aCons (aPtr 0) hh5) afL (shr [.slot 0 true (nn 6), .cells 0 (nn 8)] (aJ cd_Cursor avE)) [] func440 1 fun a=>atW a.1.2 a.2
def alK (a:ai)(r:tagdec_reader):Pg tagdec_reader:=.ret (tagdec_reader.mk r.p (ai.mk a.Data r.c.End a.End a.Depth r.c.Nodes a.Text))
def ae8 (a:ai)(r:tagdec_reader):=(alK a r).val
def YN:bi Z:=QF [] [] (aCons (aPtr 0) XC) afL (shr [.cells 0 (nn 8)] avE) [] func442 0 fun a=>alK a.1.2 a.2
def clS (l:List Slot):Pg (List Slot):=.unk false (fun(b:Bool)=>b=true->l.length=0) (.ret []) (.ob (bG (0+l.length) 136) (.ret l))
theorem aDq (l:List Slot)(h:l.length<=1048576):Is (clS l):=
 is_clone (room_of aj aj)
def aGK:bi Z:=E2 [] [] (a1 (aLf cd_LSlot)) (shr [.slot 0 false [some 309]] (l1 cd_LSlot)) [] func338 1 clS (fun a=>some (a.length<=1048576)) (fun a=>a) fun a h=>⟨aDq a h,rfl⟩
def clP (l:List Pair):Pg (List Pair):=.unk false (fun(b:Bool)=>b=true->l.length=0) (.ret []) (.ob (bG (0+l.length) 256) (.ret l))
theorem aFN (l:List Pair)(h:l.length<=1048576):Is (clP l):=
 is_clone (room_of aj aj)
def aH1:bi Z:=E2 [] [] (a1 (aLf cd_LPair)) (shr [.slot 0 false [some 341]] (l1 cd_LPair)) [] func454 1 clP (fun a=>some (a.length<=1048576)) (fun a=>a) fun a h=>⟨aFN a h,rfl⟩
def clR (l:List Raw):Pg (List Raw):=.unk false (fun(b:Bool)=>b=true->l.length=0) (.ret []) (.ob (bG (0+l.length) 40) (.ret l))
theorem aFv (l:List Raw)(h:l.length<=1048576):Is (clR l):=
 is_clone (room_of aj aj)
def aG3:bi Z:=E2 [] [] (a1 (aLf mQ)) aCf [] func244 1 clR (fun a=>some (a.length<=1048576)) (fun a=>a) fun a h=>⟨aFv a h,rfl⟩
def osC (a:Slot)(b:Slot):Pg Int:=.ret (GI a.Num b.Num)
def Gu (a:Slot)(b:Slot):=(osC a b).val
def Xi:bi Z:=E1 [aaS] [] (aCons (aAgg JD) (a1 (aAgg JD))) jE [] func340 1 (u2 osC) fun a=>True
theorem Ez:yg (ltOf Gu):=amn (fun a=>a.Num) fun a b=>I5 a.Num b.Num
def IM (a:Slot):Slot:=Slot.mk a.Num a.Val.re
theorem ui (a:Slot):IM a=a:=by
 unfold IM;rw[ae.bJ,Slot.eta]
def osSw (a:Int)(b:Int)(n:Int)(l:List Slot):Pg (List Slot):=af_ IM gZ a b n l
theorem azo (a:Int)(b:Int)(n:Int)(l:List Slot)(h:swQ a b n l.length):Is (osSw a b n l):=
 auM ui h
def aEy:bi Z:=ZY [Xi] [jS 1 (bD (fun b=>[s0 10, .row (pid (b 0)) 309]) XK)] aCT aos anG [] func574 0 (fun a=>osSw a.1.2.1 a.1.2.2.1 a.1.2.2.2.1 a.2) (fun a=>swQ a.1.2.1 a.1.2.2.1 a.1.2.2.2.1 a.2.length) fun a h=>azo a.1.2.1 a.1.2.2.1 a.1.2.2.2.1 a.2 h
def osRo (a:Int)(m:Int)(b:Int)(l:List Slot):Pg (List Slot):=afF IM gZ a m b l
theorem azn (a:Int)(m:Int)(b:Int)(l:List Slot)(h:roQ a m b l.length):Is (osRo a m b l):=
 atq ui h
def aEC:bi Z:=ZY [Xi,aEy] [jS 2 (bD (fun b=>[s0 10, s0 11, .row (pid (b 0)) 309]) (aJ cI XK))] aCT aos anG [] func552 0 (fun a=>osRo a.1.2.1 a.1.2.2.1 a.1.2.2.2.1 a.2) (fun a=>roQ a.1.2.1 a.1.2.2.1 a.1.2.2.2.1 a.2.length) fun a h=>azn a.1.2.1 a.1.2.2.1 a.1.2.2.2.1 a.2 h
def osIn (a:Int)(b:Int)(l:List Slot):Pg (List Slot):=aeT IM Gu (fun _ _=>True) gZ a b l
def aH6 (a:Int)(b:Int)(l:List Slot):=(osIn a b l).val
theorem aAt (a:Int)(b:Int)(l:List Slot)(h:inQ (fun _ _=>True) a b l):Is (osIn a b l):=
 as8 ui Ez h
def aCU:bi Z:=vP Z [Xi] [jS 1 (bD (fun b=>[s0 8, .row (pid (b 0)) 309]) XK),jS 4 (bD (fun b=>[s0 9, .row (pid (b 0)) 309]) XK)] (jG (aCons (aOwn 0) (aCons (aLf cI) (aCons (aLf cI) (a1 (aFn 340 []))))) aos) (qw (n:=53) rfl) anG [] func515 ntmps515 dM 0 rfl (fun a=>osIn (a.1.2.1) (a.1.2.2.1) (a.2)) (fun a=>some (inQ (fun _ _=>True) (a.1.2.1) (a.1.2.2.1) (a.2))) (fun a e _=>by kernel_rfl) (fun a=>aH6 (a.1.2.1) (a.1.2.2.1) (a.2)) (fun a h=>⟨aAt (a.1.2.1) (a.1.2.2.1) (a.2) h,rfl⟩)
def aGR (c:Int->Int->Int->List Slot->List Slot)(PM:Int->Int->Int->List Slot->Prop)(a:Int)(m:Int)(b:Int)(l:List Slot):Pg (List Slot):=alQ IM Gu (fun _ _=>True) gZ c PM a m b l
def PM (c:Nat)(a:Int)(m:Int)(b:Int)(l:List Slot):Prop:=XH Gu (fun _ _=>True) c a m b l
def apy:Nat->(Int->Int->Int->(List Slot)->(List Slot))
 | 0=>(fun _ _ _ _=>default)
 | c+1=>(fun a m b l=>(aGR ((apy c)) (PM c) a m b l).val)
def amo (a:Int)(m:Int)(b:Int)(l:List Slot):List Slot:=(apy ((b - a).toNat+1)) a m b l
theorem Jy:∀(c:Nat) (a m b:Int) (l:List Slot),PM c a m b l->mrg Gu a b l (apy c a m b l)
 | 0,_,_,_,_,h=>Y8 h
 | c+1,_,_,_,_,h=>(QT ui (IW:=apy c) (MJ:=PM c) (d:=gZ) Ez (fun _ _ _ _ h=>h) (Jy c) h).2
abbrev avl (a:Nat):=aGR ((apy a)) (PM a)
theorem aya (c:Nat)(a:Int)(m:Int)(b:Int)(l:List Slot)(h:PM (c+1) a m b l):Is (avl c a m b l):=
 (QT ui Ez (fun _ _ _ _ h=>h) (Jy c) h).1
theorem aw3:∀c,CtOk Z.P Z.S 516 (qQ (jG (aCons (aOwn 0) (aCons (aLf cI) (aCons (aLf cI) (aCons (aLf cI) (a1 (aFn 340 [])))))) (b1 (bRow 309 D.Slot prj_Slot))) (shr [.row 0 309] (l1 cd_LSlot)) 0 [] (fun a=>some (PM c (a.1.2.1) (a.1.2.2.1) (a.1.2.2.2.1) (a.2))) (fun a=>(apy c) (a.1.2.1) (a.1.2.2.1) (a.1.2.2.2.1) (a.2)))
 | 0=>iy func516 dM (fun a h=>Y8 h)
 | c+1=>by
  have d:=aw3 c;exact Rk [Xi,aEC,⟨516,_,d⟩] [jS 3 (bD (fun b=>[s0 10, s0 11]) (aJ cI (l1 cI))),jS 9 (bD (fun b=>[s0 13, .row (pid (b 0)) 309]) (aJ cI (l1 cd_LSlot))),jS 15 (bD (fun b=>[s0 14, s0 15]) (aJ cI (l1 cI))),jS 21 (bD (fun b=>[s0 17, .row (pid (b 0)) 309]) (aJ cI (l1 cd_LSlot))),jS 33 (bD (fun b=>[s0 20, s0 21]) (aJ cI (l1 cI))),jS 100008 (bD (fun b=>[s0 10]) (l1 cI)),jS 100012 (bD (fun b=>[.row (pid (b 0)) 309]) (l1 cd_LSlot)),jS 100020 (bD (fun b=>[s0 14]) (l1 cI)),jS 100024 (bD (fun b=>[.row (pid (b 0)) 309]) (l1 cd_LSlot)),jS 100032 (bD (fun b=>[s0 20, s0 21]) (aJ cI (l1 cI))),jS 100038 (bD (fun b=>[s0 20]) (l1 cI)),jS 100041 (bD (fun b=>[.row (pid (b 0)) 309]) (l1 cd_LSlot)),jS 100043 (bD (fun b=>[.row (pid (b 0)) 309]) (l1 cd_LSlot))] func516 ntmps516 (fun a=>avl c a.1.2.1 a.1.2.2.1 a.1.2.2.2.1 a.2) (fun a h=>⟨aya c a.1.2.1 a.1.2.2.1 a.1.2.2.2.1 a.2 h,rfl⟩) (qw (n:=220) rfl)
def aEm:bi Z:=⟨516,qQ (jG aCT aos) anG 0 [] (fun a=>some (XH Gu (fun _ _=>True) (((a.1.2.2.2.1) - (a.1.2.1)).toNat+1) (a.1.2.1) (a.1.2.2.1) (a.1.2.2.2.1) (a.2))) (fun a=>amo (a.1.2.1) (a.1.2.2.1) (a.1.2.2.2.1) (a.2)),oh (fun n=>((aw3 n))) _ _ (fun a h=>⟨((a.1.2.2.2.1) - (a.1.2.1)).toNat+1,h,rfl⟩)⟩
def osSt (n:Int)(l:List Slot):Pg (List Slot):=amM IM Gu (fun _ _=>True) gZ amo n l
def aHt (n:Int)(l:List Slot):=(osSt n l).val
theorem axC (n:Int)(l:List Slot)(h:stQ (fun _ _=>True) n l):Is (osSt n l):=
 (QP ui (IW:=amo) Ez (fun a m b l h=>Jy _ a m b l h) h).1
def aEZ:bi Z:=ZY [Xi,aCU,aEm] [jS 2 (bD (fun b=>[s0 7, s0 8, .row (pid (b 0)) 309]) (aJ cI XK)),jS 7 (bD (fun b=>[s0 6, .row (pid (b 0)) 309]) XK),jS 9 (bD (fun b=>[s0 7, s0 8, .row (pid (b 0)) 309]) (aJ cI XK)),jS 100006 (bD (fun b=>[s0 7, .row (pid (b 0)) 309]) XK),jS 100013 (bD (fun b=>[s0 7, .row (pid (b 0)) 309]) XK)] (aCons (aOwn 0) (aCons (aLf cI) (a1 (aFn 340 [])))) aos anG [] func452 0 (fun a=>osSt a.1.2.1 a.2) (fun a=>stQ (fun _ _=>True) a.1.2.1 a.2) fun a h=>axC a.1.2.1 a.2 h
def osSo (l:List Slot):Pg (List Slot):=.ob (stQ (fun(x b:Slot)=>True) (↑l.length:Int) l) (.lt (aHt (↑l.length:Int) l) fun a=> aL a (.ret a))
def J3 (l:List Slot):=(osSo l).val
theorem azJ (l:List Slot)(h:srtQ (fun _ _=>True) l):Is (osSo l):=
 is_ob ((⟨h,rfl⟩)) (is_lt fun b a=>is_as fun _=>is_ret)
def aE8:bi Z:=ZY [Xi,aEZ] [] (aCons (aOwn 0) (a1 (aFn 340 []))) aos anG [] func339 0 (fun a=>osSo a.2) (fun a=>srtQ (fun _ _=>True) a.2) fun a h=>azJ a.2 h
theorem OZ (l:List Slot)(h:srtQ (fun _ _=>True) l):Sorted Gu l (J3 l):=
 (QP ui (q:=(fun _ _=>True)) (d:=gZ) (IW:=amo) Ez (fun a m b l h=>Jy _ a m b l h) ⟨h,rfl⟩).2
theorem aqm {l:List Slot}(h:srtQ (fun _ _=>True) l):(J3 l).Perm l:=(S9 Ez (OZ l h).2.1).symm
theorem IY {l:List Slot}(h:l.length<=1048576):(J3 l).Perm l:=aqm ⟨by omega,fun _ _ _ _=>trivial⟩
theorem LU {l v:List Slot}(h:l.length<=1048576)(e:v=J3 l):v.length=l.length:=by
 rw[e];exact(IY h).length_eq
noncomputable def oSlots (l:List Slot):Pg (List Slot):=.ob (l.length<=1048576) (.ob (srtQ (fun(x g:Slot)=>True) l) (.lt (J3 l) fun a=> aL a (.each false mg a gZ (fun d e (b:List Slot)=> .ix d a.length (.ob (d.toNat < a.length) (.lt (b++[Slot.mk e.Num e.Val.re]) fun(f:List Slot)=> .lt (aQ .i64 (d+1)) fun c=> .br (c==(↑a.length:Int)) (aL a (.ob (bG (b.length+1) 136) (rl f))) (.ix c a.length (.ob (c.toNat < a.length) (aL a (.br (e.Num !=(a.getD c.toNat gZ).Num) (.ob (bG (b.length+1) 136) (rl f)) (rl b)))))))) (fun d (b:List Slot)=> .ret b) [])))
noncomputable def oQ (l:List Slot):List Slot:=(oSlots l).val
theorem Bv (l:List Slot)(h:l.length<=1048576):gU (oSlots l) (fun r=>r.Sublist (J3 l)):=
 ah (h) (ah ((⟨by omega,fun _ _ _ _=>trivial⟩)) (au fun a hv4=>bZ <| bC (fun(c:Nat) b=>b.Sublist (a.take c)/\a.length=l.length) (by exact⟨List.nil_sublist _,LU h hv4⟩) (by(have:=LU h hv4;omega)) (fun c b i d=>have hI:b.Sublist (a.take c)/\a.length=l.length:=d;aH aj aj (ah (qaq) (au fun f hv5=>qo fun g e _=>bI (fun _=>bZ <| ah (qaq) (af qao)) (fun _=>aH aj aj (ah (qaq) (bZ <| bu (fun _=>ah (qaq) (af qao)) (fun _=>af qao))))))) (fun b hI=>have hI:b.Sublist (a.take a.length)/\a.length=l.length:=hI;af qao)))
theorem apS (l:List Slot)(h:l.length<=1048576):Is (oSlots l):=(Bv l h).1
noncomputable def atx:bi Z:=E1 [aGK,aE8,Xi] [jS 5 (bD (fun b=>[s0 13, .slot 4 false [some 309]]) XK)] (a1 (aLf cd_LSlot)) (R1 cd_LSlot) [] func245 1 oSlots (fun a=>a.length<=1048576) fun a h=>apS a h
def abt (x:Str):Pg Bool:=.ret (x !=x)
def Sj (x:Str):=(abt x).val
def aud:bi Z:=E0 [] [] hh1 hh2 [] func508 1 abt
def ayV (x:Str)(y:Str):Pg Int:=.lt (Sj y) fun a=> .br (Sj x) (.br a (.ret 0) (.ret (-1))) (.br a (.ret 1) (.br (Op.bytesLess x y) (.ret (-1)) (.br (!(Op.bytesLess x y || x==y)) (.ret 1) (.ret 0))))
def Yw (x:Str)(y:Str):=(ayV x y).val
def aE0:bi Z:=E0 [aud] [] U7 jE [] func433 1 (u2 ayV)
def akf (x:Int):Pg Bool:=.ret (x !=x)
def acb (x:Int):=(akf x).val
def awr:bi Z:=E0 [] [] Qw hh2 [] func509 1 akf
def aDz (x:Int)(y:Int):Pg Int:=.lt (acb y) fun a=> .br (acb x) (.br a (.ret 0) (.ret (-1))) (.br a (.ret 1) (.br (decide (x < y)) (.ret (-1)) (.br (decide (y < x)) (.ret 1) (.ret 0))))
def Y0 (x:Int)(y:Int):=(aDz x y).val
def aES:bi Z:=E0 [awr] [] (aCons (aLf (cInt .u64)) Qw) jE [] func434 1 (u2 aDz)
def aiC (b:Int):Pg Int:=.br (EY b==0) (.ret 18446744073709551615) (.br (nT .u64 b (9223372036854775808:Int) !=0) (.ret (mJ .u64 (if IntKind.u64.signed=true then(-1)else IntKind.u64.max) b)) (.ret (orI .u64 b 9223372036854775808)))
def A8 (b:Int):=(aiC b).val
def au5:bi Z:=E0 [aeQ] [] Qw aky [] func435 1 aiC
def aiH (a:ae)(b:ae):Pg Int:=.br (a.Kind !=b.Kind) (.ret (GI a.Kind b.Kind)) (.br (!sIsP a.Kind) (.ret 0) (.br (EZ a.Kind) (.ret (Yw a.Text b.Text)) (.lt (GI (aQ .i64 a.Bits) (aQ .i64 b.Bits)) fun c=> .br (a.Kind==2) (.ret c) (.br (a.Kind==3) (.ret c) (.br (a.Kind==6) (.ret (Y0 (A8 a.Bits) (A8 b.Bits))) (.ret (Y0 a.Bits b.Bits)))))))
def qR (a:ae)(b:ae):=(aiH a b).val
def aDM:bi Z:=E0 [aaS,aeF,aff,aE0,aES,au5] [] aiT jE [] func316 1 (u2 aiH)
def azY:bi Z:=aHd Z [aeF] 315 [true] func315 dM
def oCmp (a:ae)(b:ae):Pg Int:=.br (a.Kind !=b.Kind) (.ret (GI a.Kind b.Kind)) (.ob (sIsP b.Kind=true/\True) (.ob (sIsP a.Kind=true/\True) (.ret (qR a.re b.re))))
def Tq (a:ae)(b:ae):=(oCmp a b).val
def auo:bi Z:=E1 [aaS,azY,aDM] [] aiT jE [] func231 1 (u2 oCmp) fun a=>sIsP a.1.Kind=true/\sIsP a.2.Kind=true
theorem atE:∀a b c:Str,Op.bytesLess b a=false->Op.bytesLess c b=false->Op.bytesLess c a=false
 | [],_,[],_,_=>rfl
 | [],_,_::_,_,_=>rfl
 | _::_,[],_,h,_=>absurd h qbz
 | _::_,_::_,[],_,h=>absurd h qbz
 | x::a,y::b,z::c,d,f=>by
  have g:=atE a b c;simp only[Op.bytesLess,Qcc,Qdb,decide_eq_false_iff_not,Qcz,Qdz]at d f⊢;refine⟨by omega,?_⟩;by_cases e:z=x
  ·subst e;have i:y=z:=Qb5.1 aj
   grind
  ·exact .inl e
theorem aao:∀a b:Str,Op.bytesLess a b=true->Op.bytesLess b a=false
 | _,[],h=>absurd h (by cases ‹Str›<;>simp[Op.bytesLess])
 | [],_::_,_=>rfl
 | x::a,y::b,h=>by
  have c:=aao a b;simp only[Op.bytesLess,Qbi,iZ,Xh,Qbw,Qcc,Qdb,decide_eq_false_iff_not,Qcz,Qdz]at h⊢
  grind
theorem alk {A:Type}{l:A->A->Bool}(k:A->Int)(L:Int->A->A->Bool)(m:∀n,yg (L n))(h:∀a b,l a b=if k a=k b then L (k a) a b else decide (k a < k b)):yg l:=by
 constructor
 ·intro a b d;rw[h]at d⊢;by_cases e:k a=k b
  ·rw[vJ e]at d;rw[vJ e.symm,<-e];exact(m _).asym d
  grind
 ·intro a b c g j;rw[h]at g j⊢;by_cases f:k b=k a
  ·rw[vJ f]at g;by_cases i:k c=k b
   ·rw[vJ i]at j;rw[vJ (i.trans f)];rw[f]at g;rw[i,f]at j;rw[i,f];exact(m _).trn g j
   grind
  grind
theorem aj0 {A:Type}{c:A->A->Bool}(k:A->Int)(h:∀a b,c a b=decide (k a < k b)):yg c:=
 alk k (fun _ _ _=>false) (fun _=>⟨fun _=>rfl,fun _ _=>rfl⟩) fun a b=>by
  grind
theorem aEK {A:Type}{d:A->A->Bool}(k:A->Str)(h:∀a b,d a b=Op.bytesLess (k a) (k b)):yg d:=
 ⟨fun{a b} e=>by rw[h]at e⊢;exact aao _ _ e,fun{a b c} f g=>by rw[h]at f g⊢;exact atE _ _ _ f g⟩
theorem LK (x y:Int):Y0 x y=if x < y then -1 else if y < x then 1 else 0:=by
 unfold Y0 aDz acb akf;simp only[aT,aF,ay,bne_self_eq_false,Z8,Xh,Qbt,if_false]
theorem ay6 (x y:Int):decide (Y0 x y < 0)=decide (x < y):=by
 grind [LK]
theorem azI (x y:Str):decide (Yw x y < 0)=Op.bytesLess x y:=by
 unfold Yw ayV Sj abt;simp only[aT,aF,ay,bne_self_eq_false,lL]
 grind
def afn (n:Int)(a b:ae):Bool:=
 if sIsP n=false then false else if EZ n=true then Op.bytesLess a.Text b.Text else if n=2\/n=3 then decide (aQ .i64 a.Bits < aQ .i64 b.Bits)else if n=6 then decide (A8 a.Bits < A8 b.Bits)else decide (a.Bits < b.Bits)
theorem aqZ (n:Int):yg (afn n):=by
 by_cases d:sIsP n=false
 ·exact⟨fun{a b} _=>vJ d,fun{a b c} _ _=>vJ d⟩
 by_cases f:EZ n=true
 ·exact aEK (fun a=>a.Text) fun a b=>by unfold afn;grind
 by_cases e:n=2\/n=3
 ·exact aj0 (fun a=>aQ .i64 a.Bits) fun a b=>by unfold afn;grind
 by_cases g:n=6
 ·exact aj0 (fun a=>A8 a.Bits) fun a b=>by unfold afn;grind
 ·exact aj0 (fun a=>a.Bits) fun a b=>by unfold afn;grind
theorem azZ (a b:ae):ltOf qR a b=if a.Kind=b.Kind then afn a.Kind a b else decide (a.Kind < b.Kind):=by
 unfold ltOf qR aiH afn;simp only[aT,aF,ay]
 grind [I5,azI,ay6]
theorem awd:yg (ltOf qR):=alk (fun a=>a.Kind) afn aqZ azZ
theorem aaU (a b:ae):Tq a b=qR a b:=by
 unfold Tq oCmp;simp only[aF,aV,ay,ae.bJ];by_cases e:a.Kind=b.Kind
 ·grind
 ·rw[show(a.Kind !=b.Kind)=true from bne_iff_ne.2 e];unfold qR aiH;simp only[aF,ay]
  grind
theorem atv:yg (ltOf Tq):=by
 rw[show Tq=qR from funext fun a=>funext fun b=>aaU a b];exact awd
theorem aoJ {A B:Type}{d:A->A->Bool}(h:yg d)(f:B->A):yg (fun a b=>d (f a) (f b)):=⟨fun{a b} e=>h.asym e,fun{a b c} g i=>h.trn g i⟩
def opQ (a b:Pair):Prop:=sIsP a.Key.Kind=true/\sIsP b.Key.Kind=true
def opC (a:Pair)(b:Pair):Pg Int:=.ob (sIsP a.Key.re.Kind=true/\sIsP b.Key.re.Kind=true) (.ret (Tq a.Key.re b.Key.re))
def oP (a:Pair)(b:Pair):=(opC a b).val
def Uc:bi Z:=E1 [auo] [] (aCons (aAgg vZ) (a1 (aAgg vZ))) jE [] func456 1 (u2 opC) fun a=>opQ a.1 a.2
theorem Ip:yg (ltOf oP):=by
 rw[show ltOf oP=fun a b=>ltOf Tq a.Key b.Key from funext fun a=>funext fun b=>by
  rfl]
 exact aoJ atv fun p:Pair=>p.Key
def Io (a:Pair):Pair:=Pair.mk a.Key.re a.Val.re
theorem tZ (a:Pair):Io a=a:=by
 unfold Io;rw[ae.bJ,ae.bJ,Pair.eta]
def opSw (a:Int)(b:Int)(n:Int)(l:List Pair):Pg (List Pair):=af_ Io dV a b n l
theorem aAM (a:Int)(b:Int)(n:Int)(l:List Pair)(h:swQ a b n l.length):Is (opSw a b n l):=
 auM tZ h
def aDE:bi Z:=ZY [Uc] [jS 1 (bD (fun b=>[s0 10, .row (pid (b 0)) 341]) WV)] aE1 apU apD [] func580 0 (fun a=>opSw a.1.2.1 a.1.2.2.1 a.1.2.2.2.1 a.2) (fun a=>swQ a.1.2.1 a.1.2.2.1 a.1.2.2.2.1 a.2.length) fun a h=>aAM a.1.2.1 a.1.2.2.1 a.1.2.2.2.1 a.2 h
def opRo (a:Int)(m:Int)(b:Int)(l:List Pair):Pg (List Pair):=afF Io dV a m b l
theorem ayP (a:Int)(m:Int)(b:Int)(l:List Pair)(h:roQ a m b l.length):Is (opRo a m b l):=
 atq tZ h
def aDf:bi Z:=ZY [Uc,aDE] [jS 2 (bD (fun b=>[s0 10, s0 11, .row (pid (b 0)) 341]) (aJ cI WV))] aE1 apU apD [] func575 0 (fun a=>opRo a.1.2.1 a.1.2.2.1 a.1.2.2.2.1 a.2) (fun a=>roQ a.1.2.1 a.1.2.2.1 a.1.2.2.2.1 a.2.length) fun a h=>ayP a.1.2.1 a.1.2.2.1 a.1.2.2.2.1 a.2 h
def opIn (a:Int)(b:Int)(l:List Pair):Pg (List Pair):=aeT Io oP opQ dV a b l
def aHS (a:Int)(b:Int)(l:List Pair):=(opIn a b l).val
theorem aAw (a:Int)(b:Int)(l:List Pair)(h:inQ opQ a b l):Is (opIn a b l):=
 as8 tZ Ip h
def aEX:bi Z:=vP Z [Uc] [jS 1 (bD (fun b=>[s0 8, .row (pid (b 0)) 341]) WV),jS 4 (bD (fun b=>[s0 9, .row (pid (b 0)) 341]) WV)] (jG (aCons (aOwn 0) (aCons (aLf cI) (aCons (aLf cI) (a1 (aFn 456 []))))) apU) (qw (n:=53) rfl) apD [] func553 ntmps553 dM 0 rfl (fun a=>opIn (a.1.2.1) (a.1.2.2.1) (a.2)) (fun a=>some (inQ opQ (a.1.2.1) (a.1.2.2.1) (a.2))) (fun a e _=>by kernel_rfl) (fun a=>aHS (a.1.2.1) (a.1.2.2.1) (a.2)) (fun a h=>⟨aAw (a.1.2.1) (a.1.2.2.1) (a.2) h,rfl⟩)
def aH0 (c:Int->Int->Int->List Pair->List Pair)(PW:Int->Int->Int->List Pair->Prop)(a:Int)(m:Int)(b:Int)(l:List Pair):Pg (List Pair):=alQ Io oP opQ dV c PW a m b l
def PW (c:Nat)(a:Int)(m:Int)(b:Int)(l:List Pair):Prop:=XH oP opQ c a m b l
def anW:Nat->(Int->Int->Int->(List Pair)->(List Pair))
 | 0=>(fun _ _ _ _=>default)
 | c+1=>(fun a m b l=>(aH0 ((anW c)) (PW c) a m b l).val)
def amH (a:Int)(m:Int)(b:Int)(l:List Pair):List Pair:=(anW ((b - a).toNat+1)) a m b l
theorem Ju:∀(c:Nat) (a m b:Int) (l:List Pair),PW c a m b l->mrg oP a b l (anW c a m b l)
 | 0,_,_,_,_,h=>Y8 h
 | c+1,_,_,_,_,h=>(QT tZ (IW:=anW c) (MJ:=PW c) (d:=dV) Ip (fun _ _ _ _ h=>h) (Ju c) h).2
abbrev awQ (a:Nat):=aH0 ((anW a)) (PW a)
theorem aAN (c:Nat)(a:Int)(m:Int)(b:Int)(l:List Pair)(h:PW (c+1) a m b l):Is (awQ c a m b l):=
 (QT tZ Ip (fun _ _ _ _ h=>h) (Ju c) h).1
theorem aq3:∀c,CtOk Z.P Z.S 554 (qQ (jG (aCons (aOwn 0) (aCons (aLf cI) (aCons (aLf cI) (aCons (aLf cI) (a1 (aFn 456 [])))))) (b1 (bRow 341 D.Pair prj_Pair))) (shr [.row 0 341] (l1 cd_LPair)) 0 [] (fun a=>some (PW c (a.1.2.1) (a.1.2.2.1) (a.1.2.2.2.1) (a.2))) (fun a=>(anW c) (a.1.2.1) (a.1.2.2.1) (a.1.2.2.2.1) (a.2)))
 | 0=>iy func554 dM (fun a h=>Y8 h)
 | c+1=>by
  have d:=aq3 c;exact Rk [Uc,aDf,⟨554,_,d⟩] [jS 3 (bD (fun b=>[s0 10, s0 11]) (aJ cI (l1 cI))),jS 9 (bD (fun b=>[s0 13, .row (pid (b 0)) 341]) (aJ cI (l1 cd_LPair))),jS 15 (bD (fun b=>[s0 14, s0 15]) (aJ cI (l1 cI))),jS 21 (bD (fun b=>[s0 17, .row (pid (b 0)) 341]) (aJ cI (l1 cd_LPair))),jS 33 (bD (fun b=>[s0 20, s0 21]) (aJ cI (l1 cI))),jS 100008 (bD (fun b=>[s0 10]) (l1 cI)),jS 100012 (bD (fun b=>[.row (pid (b 0)) 341]) (l1 cd_LPair)),jS 100020 (bD (fun b=>[s0 14]) (l1 cI)),jS 100024 (bD (fun b=>[.row (pid (b 0)) 341]) (l1 cd_LPair)),jS 100032 (bD (fun b=>[s0 20, s0 21]) (aJ cI (l1 cI))),jS 100038 (bD (fun b=>[s0 20]) (l1 cI)),jS 100041 (bD (fun b=>[.row (pid (b 0)) 341]) (l1 cd_LPair)),jS 100043 (bD (fun b=>[.row (pid (b 0)) 341]) (l1 cd_LPair))] func554 ntmps554 (fun a=>awQ c a.1.2.1 a.1.2.2.1 a.1.2.2.2.1 a.2) (fun a h=>⟨aAN c a.1.2.1 a.1.2.2.1 a.1.2.2.2.1 a.2 h,rfl⟩) (qw (n:=220) rfl)
def aDh:bi Z:=⟨554,qQ (jG aE1 apU) apD 0 [] (fun a=>some (XH oP opQ (((a.1.2.2.2.1) - (a.1.2.1)).toNat+1) (a.1.2.1) (a.1.2.2.1) (a.1.2.2.2.1) (a.2))) (fun a=>amH (a.1.2.1) (a.1.2.2.1) (a.1.2.2.2.1) (a.2)),oh (fun n=>((aq3 n))) _ _ (fun a h=>⟨((a.1.2.2.2.1) - (a.1.2.1)).toNat+1,h,rfl⟩)⟩
def opSt (n:Int)(l:List Pair):Pg (List Pair):=amM Io oP opQ dV amH n l
def aGy (n:Int)(l:List Pair):=(opSt n l).val
theorem ayQ (n:Int)(l:List Pair)(h:stQ opQ n l):Is (opSt n l):=
 (QP tZ (IW:=amH) Ip (fun a m b l h=>Ju _ a m b l h) h).1
def aFu:bi Z:=ZY [Uc,aEX,aDh] [jS 2 (bD (fun b=>[s0 7, s0 8, .row (pid (b 0)) 341]) (aJ cI WV)),jS 7 (bD (fun b=>[s0 6, .row (pid (b 0)) 341]) WV),jS 9 (bD (fun b=>[s0 7, s0 8, .row (pid (b 0)) 341]) (aJ cI WV)),jS 100006 (bD (fun b=>[s0 7, .row (pid (b 0)) 341]) WV),jS 100013 (bD (fun b=>[s0 7, .row (pid (b 0)) 341]) WV)] (aCons (aOwn 0) (aCons (aLf cI) (a1 (aFn 456 [])))) apU apD [] func517 0 (fun a=>opSt a.1.2.1 a.2) (fun a=>stQ opQ a.1.2.1 a.2) fun a h=>ayQ a.1.2.1 a.2 h
def opSo (l:List Pair):Pg (List Pair):=.ob (stQ opQ (↑l.length:Int) l) (.lt (aGy (↑l.length:Int) l) fun a=> aL a (.ret a))
def KP (l:List Pair):=(opSo l).val
theorem ayq (l:List Pair)(h:srtQ opQ l):Is (opSo l):=
 is_ob ((⟨h,rfl⟩)) (is_lt fun b a=>is_as fun _=>is_ret)
def aEh:bi Z:=ZY [Uc,aFu] [] (aCons (aOwn 0) (a1 (aFn 456 []))) apU apD [] func455 0 (fun a=>opSo a.2) (fun a=>srtQ opQ a.2) fun a h=>ayq a.2 h
theorem Pe (l:List Pair)(h:srtQ opQ l):Sorted oP l (KP l):=
 (QP tZ (q:=opQ) (d:=dV) (IW:=amH) Ip (fun a m b l h=>Ju _ a m b l h) ⟨h,rfl⟩).2
theorem wJ {l:List Pair}(h:srtQ opQ l):(KP l).Perm l:=(S9 Ip (Pe l h).2.1).symm
def aiX (a:ae)(b:ae):Pg Bool:=.ob (sIsP a.re.Kind=true/\sIsP b.re.Kind=true) (.ret (Tq a.re b.re==0))
def aat (a:ae)(b:ae):=(aiX a b).val
def awg:bi Z:=E1 [auo] [] aiT hh2 [] func164 1 (u2 aiX) fun a=>sIsP a.1.Kind=true/\sIsP a.2.Kind=true
def pairsQ (l:List Pair):Prop:=l.length<=1048576/\∀x∈l,sIsP x.Key.Kind=true
theorem kD {l:List Pair}(h:pairsQ l):srtQ opQ l:=⟨by have:=h.1;omega,fun x b y a=>⟨h.2 x b,h.2 y a⟩⟩
theorem aw2 {l v:List Pair}(h:pairsQ l)(e:v=KP l):pairsQ v:=by
 have k:=wJ (kD h);rw[e];exact⟨by rw[k.length_eq];exact h.1,fun x a=>h.2 x (k.mem_iff.1 a)⟩
theorem YW {v:List Pair}(h:pairsQ v){i:Nat}(a:i < v.length):sIsP (v.getD i dV).Key.Kind=true:=h.2 _ (getD_mem a)
theorem LJ {l v:List Pair}(h:srtQ opQ l)(e:v=KP l):v.length=l.length:=by
 rw[e];exact(wJ h).length_eq
def oPairs (l:List Pair):Pg (List Pair):=.ob (l.length<=1048576) (.ob (srtQ opQ l) (.lt (KP l) fun a=> aL a (.each false mg a dV (fun e d (b:List Pair)=> .ix e a.length (.ob (e.toNat < a.length) (.lt (b++[Pair.mk d.Key.re d.Val.re]) fun(f:List Pair)=> .lt (aQ .i64 (e+1)) fun c=> .br (c==(↑a.length:Int)) (aL a (.ob (bG (b.length+1) 256) (rl f))) (.ix c a.length (.ob (c.toNat < a.length) (.ob (sIsP d.Key.re.Kind=true/\sIsP (a.getD c.toNat dV).Key.re.Kind=true) (aL a (.br (!aat d.Key.re (a.getD c.toNat dV).Key.re) (.ob (bG (b.length+1) 256) (rl f)) (rl b))))))))) (fun e (b:List Pair)=> .ret b) [])))
def jl (l:List Pair):=(oPairs l).val
theorem Bo (l:List Pair)(h:pairsQ l):gU (oPairs l) (fun r=>r.Sublist (KP l)):=
 ah (h.1) (ah ((kD h)) (au fun a hv4=>bZ <| bC (fun(c:Nat) b=>b.Sublist (a.take c)/\a.length=l.length/\l.length<=1048576) (by exact⟨List.nil_sublist _,LJ (kD h) hv4,h.1⟩) (by(have:=LJ (kD h) hv4;have:=h.1;omega)) (fun c b i d=>have hI:b.Sublist (a.take c)/\a.length=l.length/\l.length<=1048576:=d;aH aj aj (ah (qaj) (au fun f hv5=>qo fun g e _=>bI (fun _=>bZ <| ah (qaj) (af qal)) (fun _=>aH aj aj (ah (qaj) (ah (qaj) (bZ <| bH (fun _=>ah (qaj) (af qal)) (fun _=>af qal)))))))) (fun b hI=>have hI:b.Sublist (a.take a.length)/\a.length=l.length/\l.length<=1048576:=hI;af qal)))
def ad3:bi Z:=E1 [awg,aH1,aEh,Uc] [jS 5 (bD (fun b=>[s0 13, .slot 4 false [some 341]]) WV)] (a1 (aLf cd_LPair)) (R1 cd_LPair) [] func344 1 oPairs (fun a=>pairsQ a) fun a h=>(Bo a h).1
def aaT (v:ae):Pg Bool:=.br (sIsP v.Kind) (.br (acl v.re) (.br (v.Bits==0) (.ret (v.Text==[])) (.ret false)) (.ret false)) (.ret false)
def Vm (v:ae):=(aaT v).val
def ao5:bi Z:=E0 [aeF,amg] [] hh9 hh2 [] func346 1 aaT
def aj1 (v:ae):Pg Bool:=.lt (Vm v.re) fun a=> .br (v.Kind==11) (.br ((↑v.List.length:Int)==0) (.ret true) (.br (v.Kind==12) (.br ((↑v.Pairs.length:Int)==0) (.ret true) (.ret a)) (.ret a))) (.br (v.Kind==12) (.br ((↑v.Pairs.length:Int)==0) (.ret true) (.ret a)) (.ret a))
def Gg (v:ae):=(aj1 v).val
def avJ:bi Z:=E0 [ao5] [] hh9 hh2 [] func248 1 aj1
theorem ar0 (n:Int):isU64 (IntKind.wrap .u64 n):=by
 have e:IntKind.wrap .u64 n=n % 18446744073709551616:=by
  unfold IntKind.wrap;rfl
 rw[e];exact⟨by omega,by omega⟩
theorem aBp (n:Int):isU64 (aQ .u64 n):=ar0 n
theorem u0:isU64 0:=⟨by decide,by decide⟩
def aHN (a:Int):Pg Bool:=.br (a==0) (.ret true) (.br (a==1) (.ret true) (.ret (a==2)))
def avT (a:Int):=(aHN a).val
def uTagW (b:Int)(a:Int):Pg (List UInt8×Int):=.br (decide (b < 1)) (.ret ([],6)) (.br (decide (65535 < b)) (.ret ([],6)) (.br (decide (a < 0)) (.ret ([],6)) (.br (decide (6 < a)) (.ret ([],6)) (.lt (aQ .u64 (aQ .i64 (aQ .i64 (b*8)+a))) fun c=> .ob (isU64 c) (.ret (cZ c,0))))))
def aiw (b:Int)(a:Int):=(uTagW b a).val
def au6 (f:Raw):Pg Bool:=.br ((aiw f.Num f.fB).2 !=0) (.ret false) (.br (avT f.fB) (.ret (f.Data==[])) (.ret (f.Bits==0)))
def amV (f:Raw):=(au6 f).val
def tRs:List Raw->Nat
 | []=>0
 | x::l=>1+x.Data.length+tRs l
mutual
def tV:ae->Nat
 | .mk _ _ t l p s r=>1+t.length+tVs l+tPs p+tSs s+tRs r
def tVs:List ae->Nat
 | []=>0
 | x::l=>1+tV x+tVs l
def tP:Pair->Nat
 | .mk k v=>1+tV k+tV v
def tPs:List Pair->Nat
 | []=>0
 | x::l=>tP x+tPs l
def tS:Slot->Nat
 | .mk _ v=>1+tV v
def tSs:List Slot->Nat
 | []=>0
 | x::l=>tS x+tSs l
end
def rOk (x:Raw):Prop:=isU64 x.Bits/\amV x=true
def kRs:List Raw->Prop
 | []=>True
 | x::l=>rOk x/\kRs l
mutual
def kV:ae->Prop
 | .mk _ b _ l p s r=>(isU64 b/\kRs r)/\kVs l/\kPs p/\kSs s
def kVs:List ae->Prop
 | []=>True
 | x::l=>kV x/\kVs l
def kP:Pair->Prop
 | .mk k v=>(sIsP k.Kind=true/\kV k)/\kV v
def kPs:List Pair->Prop
 | []=>True
 | x::l=>kP x/\kPs l
def kS:Slot->Prop
 | .mk _ v=>kV v
def kSs:List Slot->Prop
 | []=>True
 | x::l=>kS x/\kSs l
end
theorem lh (v:ae):tV v=1+v.Text.length+tVs v.List+tPs v.Pairs+tSs v.Slots+tRs v.Raws:=by cases v;rfl
theorem ady (x:Pair):tP x=1+tV x.Key+tV x.Val:=by cases x;rfl
theorem aee (x:Slot):tS x=1+tV x.Val:=by cases x;rfl
theorem BD (v:ae):1<=tV v:=by rw[lh];omega
def vM {A:Type}(f:A->Nat):List A->Nat
 | []=>0
 | x::l=>f x+vM f l
section
variable {A:Type}{f:A->Nat}
theorem yQ (l m:List A):vM f (l++m)=vM f l+vM f m:=by
 induction l with
 | nil=>simp[vM]
 | cons a l b=>simp only[Qbn,vM,b];omega
theorem QO {l:List A}{x:A}(h:x∈l):f x<=vM f l:=by
 induction l with
 | nil=>cases h
 | cons a l b=>
  simp only[vM]
  grind
theorem RI {l:List A}(h:∀x,1<=f x):l.length<=vM f l:=by
 induction l with
 | nil=>simp
 | cons a l b=>have:=h a;simp only[vM,JV];omega
theorem Ro {l m:List A}(h:l.Sublist m):vM f l<=vM f m:=by
 induction h with
 | slnil=>omega
 | cons a _ b=>simp only[vM];omega
 | cons_cons a _ b=>simp only[vM];omega
theorem WN {l m:List A}(h:l.Perm m):vM f l=vM f m:=by
 induction h with
 | nil=>rfl
 | cons a _ c=>simp only[vM,c]
 | swap a b l=>simp only[vM];omega
 | trans _ _ e d=>omega
theorem UQ {l:List A}{i:Nat}{d:A}(a:i < l.length):vM f (l.take (i+1))=vM f (l.take i)+f (l.getD i d):=by
 rw[take_snoc (d:=d) a,yQ];simp[vM]
end
theorem N7 (l:List ae):tVs l=vM (fun x=>1+tV x) l:=by
 induction l with
 | nil=>rfl
 | cons a l b=>simp only[tVs,vM,b]
theorem NV (l:List Pair):tPs l=vM tP l:=by
 induction l with
 | nil=>rfl
 | cons a l b=>simp only[tPs,vM,b]
theorem M_ (l:List Slot):tSs l=vM tS l:=by
 induction l with
 | nil=>rfl
 | cons a l b=>simp only[tSs,vM,b]
theorem UR (l:List Raw):tRs l=vM (fun x=>1+x.Data.length) l:=by
 induction l with
 | nil=>rfl
 | cons a l b=>simp only[tRs,vM,b]
theorem ays {l:List ae}{x:ae}(h:x∈l):1+tV x<=tVs l:=by rw[N7];exact QO (f:=fun x=>1+tV x) h
theorem ax4 {l:List Pair}{x:Pair}(h:x∈l):1+tV x.Key+tV x.Val<=tPs l:=by rw[NV,<-ady];exact QO h
theorem ali {l:List Slot}{x:Slot}(h:x∈l):1+tV x.Val<=tSs l:=by rw[M_,<-aee];exact QO h
theorem ax8 (l:List ae):l.length<=tVs l:=by rw[N7];exact RI fun x=>by omega
theorem acY (l:List Pair):l.length<=tPs l:=by rw[NV];exact RI fun x=>by rw[ady];omega
theorem azS (l:List Slot):l.length<=tSs l:=by rw[M_];exact RI fun x=>by rw[aee];omega
theorem ayC (l:List Raw):l.length<=tRs l:=by rw[UR];exact RI fun x=>by omega
theorem axE (l:List ae):kVs l ↔ ∀x∈l,kV x:=by
 induction l with
 | nil=>simp[kVs]
 | cons a l b=>simp[kVs,b]
theorem amf (l:List Raw):kRs l ↔ ∀x∈l,rOk x:=by
 induction l with
 | nil=>simp[kRs]
 | cons a l b=>simp[kRs,b]
theorem aDj (x:Pair):kP x ↔ (sIsP x.Key.Kind=true/\kV x.Key)/\kV x.Val:=by cases x;rfl
theorem az9 (l:List Pair):kPs l ↔ ∀x∈l,(sIsP x.Key.Kind=true/\kV x.Key)/\kV x.Val:=by
 induction l with
 | nil=>simp[kPs]
 | cons a l b=>simp[kPs,b,aDj]
theorem aE_ (x:Slot):kS x ↔ kV x.Val:=by cases x;rfl
theorem ayz (l:List Slot):kSs l ↔ ∀x∈l,kV x.Val:=by
 induction l with
 | nil=>simp[kSs]
 | cons a l b=>simp[kSs,b,aE_]
theorem jm (v:ae):kV v ↔ (isU64 v.Bits/\∀r∈v.Raws,rOk r)/\(∀x∈v.List,kV x)/\(∀x∈v.Pairs,(sIsP x.Key.Kind=true/\kV x.Key)/\kV x.Val)/\∀x∈v.Slots,kV x.Val:=by
 cases v;simp[kV,axE,az9,ayz,amf,ae.Bits,ae.List,ae.Pairs,ae.Slots,ae.Raws]
def gV (v:ae):Prop:=kV v/\tV v<=1048576
def sF (k a:Nat)(v:ae):Prop:=gV v/\3*tV v+k<=a
theorem vF {k:Nat}{v:ae}(h:sF k 0 v):False:=by
 have:=BD v;have:=h.2;omega
theorem rU {v:ae}(h:gV v):v.Raws.length<=1048576/\v.Slots.length<=1048576/\v.List.length<=1048576/\pairsQ v.Pairs:=by
 have b:=lh v;have g:=ayC v.Raws;have f:=azS v.Slots;have d:=ax8 v.List;have c:=acY v.Pairs;have e:=h.2;exact⟨by omega,by omega,by omega,by omega,fun x a=>(((jm v).1 h.1).2.2.1 x a).1.1⟩
theorem Rz {v x:ae}(h:gV v)(a:x∈v.List):gV x/\tV x < tV v:=by
 have b:=lh v;have c:=ays a;have:=h.2;exact⟨⟨((jm v).1 h.1).2.1 x a,by omega⟩,by omega⟩
theorem FT {v:ae}{x:Pair}(h:gV v)(a:x∈v.Pairs):gV x.Val/\tV x.Val < tV v/\sIsP x.Key.Kind=true/\tV x.Key < tV v:=by
 have c:=lh v;have d:=ax4 a;have b:=((jm v).1 h.1).2.2.1 x a;have:=h.2;exact⟨⟨b.2,by omega⟩,by omega,b.1.1,by omega⟩
theorem aiF {v:ae}{x:Pair}(h:gV v)(a:x∈v.Pairs):kV x.Key:=(((jm v).1 h.1).2.2.1 x a).1.2
theorem RV {v:ae}{x:Slot}(h:gV v)(a:x∈v.Slots):gV x.Val/\tV x.Val < tV v:=by
 have b:=lh v;have c:=ali a;have:=h.2;exact⟨⟨((jm v).1 h.1).2.2.2 x a,by omega⟩,by omega⟩
theorem uO (v:ae):(jo v).Kind=v.Kind/\(jo v).Text=v.Text/\(jo v).List=v.List/\(jo v).Pairs=v.Pairs/\(jo v).Slots=v.Slots/\(jo v).Raws=v.Raws:=by
 unfold jo aev;simp only[aV,aT,aF,ay,dn,Z8];(repeat' split)<;>(cases v;exact⟨rfl,rfl,rfl,rfl,rfl,rfl⟩)
theorem Rj (v:ae):tV (jo v)=tV v:=by
 grind [uO,lh]
theorem ax2 (v:ae):(jo v).Bits=v.Bits\/(jo v).Bits=9221120237041090560:=by
 unfold jo aev;simp only[aV,aT,aF,ay,dn,Z8];(repeat' split)<;>(cases v;first | exact .inl rfl | exact .inr rfl)
theorem SB {v:ae}(h:kV v):kV (jo v):=by
 obtain⟨f,g,d,b,a,c⟩:=uO v;rw[jm]at h⊢;rw[d,b,a,c];refine⟨⟨?_,h.1.2⟩,h.2⟩;rcases ax2 v with e | e
 ·grind
 ·rw[e];exact⟨by decide,by decide⟩
theorem jb (k b:Int)(t:Str)(a:isU64 b):kV (ae.mk k b t [] [] [] [])/\tV (ae.mk k b t [] [] [] [])=1+t.length:=by
 simp[kV,kVs,kPs,kSs,kRs,tV,tVs,tPs,tSs,tRs,a]
end
end Go.Proofs.YtenjnekcoapajaaGreatDoor
