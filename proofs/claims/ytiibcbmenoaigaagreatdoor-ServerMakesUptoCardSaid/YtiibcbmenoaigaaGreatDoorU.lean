/- Server: UTF-8, plain. -/
import Derived.Test.YtiibcbmenoaigaaGreatDoorA
import Derived.Test.YtiibcbmenoaigaaGreatDoorEng11
namespace Go.Proofs.YtiibcbmenoaigaaGreatDoor
open Go.RowKit Go.Vc
set_option linter.unusedVariables false
set_option linter.unusedSimpArgs false
set_option maxRecDepth 100000
def byteAt (s:Str)(p:Nat):Nat:=(s.getD p 0).toNat
def isAt (s:Str)(p:Nat):Bool:=decide (p < s.length)
def onAt (s:Str)(p:Nat):Bool:=isAt s p && (decide (128<=byteAt s p) && decide (byteAt s p<=191))
def szN (b0 b1:Nat)(i1 c1 c2 c3:Bool):Int:=
 if b0 < 128 then 1 else if 194<=b0/\b0<=223/\c1=true then 2 else if b0=224/\i1=true/\160<=b1/\b1<=191/\c2=true then 3
 else if b0=237/\i1=true/\128<=b1/\b1<=159/\c2=true then 3 else if 225<=b0/\b0<=239/\b0≠237/\c1=true/\c2=true then 3
 else if b0=240/\i1=true/\144<=b1/\b1<=191/\c2=true/\c3=true then 4 else if 241<=b0/\b0<=243/\c1=true/\c2=true/\c3=true then 4
 else if b0=244/\i1=true/\128<=b1/\b1<=143/\c2=true/\c3=true then 4 else 0
def dcN (b0 b1 b2 b3:Nat)(c1 c2 c3:Bool):Nat×Nat:=
 if b0 < 0x80 then(b0,1)
 else if b0 / 32==6 && c1 then(if (b0 % 32)*64+b1 % 64≥0x80 then((b0 % 32)*64+b1 % 64,2)else(65533,1))
 else if b0 / 16==14 && c1 && c2 then(if (b0 % 16)*4096+(b1 % 64)*64+b2 % 64≥0x800 && Utf8.valid (((b0 % 16)*4096+(b1 % 64)*64+b2 % 64:Nat):Int)then((b0 % 16)*4096+(b1 % 64)*64+b2 % 64,3)else(65533,1))
 else if b0 / 8==30 && c1 && c2 && c3 then(if (b0 % 8)*262144+(b1 % 64)*4096+(b2 % 64)*64+b3 % 64≥0x10000 && Utf8.valid (((b0 % 8)*262144+(b1 % 64)*4096+(b2 % 64)*64+b3 % 64:Nat):Int)then((b0 % 8)*262144+(b1 % 64)*4096+(b2 % 64)*64+b3 % 64,4)else(65533,1))
 else(65533,1)
theorem dec_dcN (s:Str)(p:Nat):Utf8.decode ⟨s.toArray⟩ p=dcN (byteAt s p) (byteAt s (p+1)) (byteAt s (p+2)) (byteAt s (p+3)) (onAt s (p+1)) (onAt s (p+2)) (onAt s (p+3)):=by
 have hb:∀k,((ByteArray.mk s.toArray).get! (p+k)).toNat=byteAt s (p+k):=by
  intro k
  unfold byteAt
  have:(ByteArray.mk s.toArray).get! (p+k)=s.getD (p+k) 0:=by
   show s.toArray[p+k]! =_
   simp[List.getD,List.getElem!_eq_getElem?_getD]
   rfl
  rw[this]
 have hc:∀k,(decide (p+k < (ByteArray.mk s.toArray).size) && byteAt s (p+k) / 64==2)=onAt s (p+k):=by
  intro k
  unfold onAt isAt
  have hs:(ByteArray.mk s.toArray).size=s.length:=by show s.toArray.size=_;simp
  rw[hs]
  congr 1
  rw[Bool.eq_iff_iff]
  simp only[beq_iff_eq,Bool.and_eq_true,decide_eq_true_eq]
  omega
 have h0:=hb 0
 rw[Nat.add_zero]at h0
 unfold Utf8.decode dcN
 simp only[hb,hc,Utf8.runeError]
 simp only[Nat.add_zero]
theorem valid_iff (n:Nat):Utf8.valid (n:Int)=true ↔ n < 0xD800\/(0xE000<=n/\n<=0x10FFFF):=by
 unfold Utf8.valid
 simp only[Bool.or_eq_true,Bool.and_eq_true,decide_eq_true_eq]
 omega
set_option maxHeartbeats 4000000 in
theorem dc_sz (b0 b1 b2 b3:Nat)(i1 c1 c2 c3:Bool)(h1:c1=(i1 && (decide (128<=b1) && decide (b1<=191))))(h2:c2=true->128<=b2/\b2<=191)(h3:c3=true->128<=b3/\b3<=191)(h0:b0 < 256):
  (szN b0 b1 i1 c1 c2 c3=0->dcN b0 b1 b2 b3 c1 c2 c3=(65533,1)/\¬(b0=239/\b1=191/\b2=189/\c1=true/\c2=true))/\
  (szN b0 b1 i1 c1 c2 c3≠0->((dcN b0 b1 b2 b3 c1 c2 c3).1=65533->b0=239/\b1=191/\b2=189/\c1=true/\c2=true)/\((dcN b0 b1 b2 b3 c1 c2 c3).2:Int)=szN b0 b1 i1 c1 c2 c3):=by
 have q1:c1=true ↔ i1=true/\128<=b1/\b1<=191:=by
  rw[h1]
  simp only[Bool.and_eq_true,decide_eq_true_eq]
 clear h1
 unfold szN dcN
 cases c1<;>cases c2<;>cases c3<;>cases i1<;>simp only[Bool.and_true,Bool.and_false,Bool.false_eq_true,and_true,and_false,true_and,false_and,if_false,false_iff,true_iff,beq_iff_eq,ge_iff_le,Bool.and_eq_true,valid_iff,decide_eq_true_eq,forall_const,not_and,not_false_eq_true,implies_true,not_true_eq_false]at q1 h2 h3⊢<;>(repeat' split)<;>simp only[Prod.mk.injEq,ne_eq,and_true,true_and,and_false,false_and,not_false_eq_true]<;>first | trivial | omega | exact⟨fun _ h1 h2 h3=>by omega,fun h=>(h trivial).elim⟩
end Go.Proofs.YtiibcbmenoaigaaGreatDoor
