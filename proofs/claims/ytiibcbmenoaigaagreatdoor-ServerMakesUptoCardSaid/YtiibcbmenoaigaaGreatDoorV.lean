/- Server: texts, examined. -/
import Derived.Test.YtiibcbmenoaigaaGreatDoorD
namespace Go.Proofs.YtiibcbmenoaigaaGreatDoor
noncomputable section
open Go.RowKit Go.Vc
set_option linter.unusedVariables false
set_option linter.unusedSimpArgs false
set_option maxRecDepth 100000
theorem hasPre_eq (s:Str)(p:Nat)(hp:p<=s.length):hasPreP (List.drop p (List.take (List.length s) s)) [239,191,189]=true ↔ byteAt s p=239/\byteAt s (p+1)=191/\byteAt s (p+2)=189/\p+2 < s.length:=by
 unfold hasPreP hasPre hasPre0P hasPre0
 simp only[val_ret,val_br,val_ob,val_as,List.take_length]
 unfold byteAt
 have h0:∀k,s.getD (p+k) 0=(s.drop p).getD k 0:=fun k=>by simp[List.getD,List.getElem?_drop]
 have e0:=h0 0
 have e1:=h0 1
 have e2:=h0 2
 rw[Nat.add_zero]at e0
 rw[e0,e1,e2]
 have hl:(s.drop p).length=s.length - p:=List.length_drop
 generalize s.drop p=r at*
 have n239:∀b:UInt8,b.toNat=239 ↔ b=239:=fun b=>⟨fun h=>UInt8.toNat_inj.1 h,fun h=>by rw[h];rfl⟩
 have n191:∀b:UInt8,b.toNat=191 ↔ b=191:=fun b=>⟨fun h=>UInt8.toNat_inj.1 h,fun h=>by rw[h];rfl⟩
 have n189:∀b:UInt8,b.toNat=189 ↔ b=189:=fun b=>⟨fun h=>UInt8.toNat_inj.1 h,fun h=>by rw[h];rfl⟩
 rw[n239,n191,n189]
 rcases r with _ | ⟨x,_ | ⟨y,_ | ⟨z,r⟩⟩⟩
 ·simp[List.getD]at hl⊢
 ·simp[List.getD]at hl⊢
 ·simp[List.getD]at hl⊢
 ·have hlt:p+2 < s.length:=by simp at hl;omega
  simp only[List.length_cons,List.length_nil,List.take_succ_cons,List.take_zero,hlt,and_true,List.getD_cons_zero,List.getD_cons_succ]
  have hd2:decide (((0+1+1+1:Nat):Int)<=((r.length+1+1+1:Nat):Int))=true:=by simp;omega
  rw[hd2,cond_true,beq_iff_eq]
  simp
theorem wrong_eq (s:Str)(p:Nat)(hp:p < s.length)(hl:s.length<=9223372036854775700):
  (rsizeP s (p:Int)=0->wrongP s (p:Int) (decC s p)=true)/\(rsizeP s (p:Int)≠0->wrongP s (p:Int) (decC s p)=false/\(decW s p:Int)=rsizeP s (p:Int)/\1<=decW s p/\decW s p<=4):=by
 have hon:∀q,onAt s q=true->128<=byteAt s q/\byteAt s q<=191:=fun q hq=>by
  unfold onAt at hq
  simp only[Bool.and_eq_true,decide_eq_true_eq]at hq
  exact hq.2
 have key:=dc_sz (byteAt s p) (byteAt s (p+1)) (byteAt s (p+2)) (byteAt s (p+3)) (isAt s (p+1)) (onAt s (p+1)) (onAt s (p+2)) (onAt s (p+3)) rfl (hon _) (hon _) (UInt8.toNat_lt _)
 have hpre:=hasPre_eq s p (by omega)
 have hat:∀q,onAt s q=true->q < s.length:=fun q hq=>by
  unfold onAt isAt at hq
  simp only[Bool.and_eq_true,decide_eq_true_eq]at hq
  exact hq.1
 have hw:wrongP s (p:Int) (decC s p)=(decide ((dcN (byteAt s p) (byteAt s (p+1)) (byteAt s (p+2)) (byteAt s (p+3)) (onAt s (p+1)) (onAt s (p+2)) (onAt s (p+3))).1=65533) && !hasPreP (List.drop p (List.take (List.length s) s)) [239,191,189]):=by
  unfold wrongP wrong decC
  rw[dec_dcN]
  generalize (dcN _ _ _ _ _ _ _).1=n
  simp only[val_br,val_ob,val_ret,Int.toNat_natCast]
  by_cases h:n=65533
  ·subst h;rfl
  ·have:(((n:Nat):Int)==65533)=false:=by rw[beq_eq_false_iff_ne];omega
   rw[this,decide_eq_false h];rfl
 rw[rsize_eq s p (by omega),hw]
 refine⟨fun h=> ?_,fun h=> ?_⟩
 ·obtain⟨k1,k2⟩:=key.1 h
  rw[k1]
  have:¬hasPreP (List.drop p (List.take (List.length s) s)) [239,191,189]=true:=fun hh=>by
   obtain⟨q1,q2,q3,q4⟩:=hpre.1 hh
   refine k2 ⟨q1,q2,q3,?_,?_⟩
   ·unfold onAt isAt;rw[q2];simp;omega
   ·unfold onAt isAt;rw[q3];simp;omega
  rw[Bool.not_eq_true]at this
  rw[this]
  rfl
 ·obtain⟨k1,k2⟩:=key.2 h
  have hdw:(decW s p:Int)=szN (byteAt s p) (byteAt s (p+1)) (isAt s (p+1)) (onAt s (p+1)) (onAt s (p+2)) (onAt s (p+3)):=by
   unfold decW
   rw[dec_dcN]
   exact k2
  refine⟨?_,hdw,?_⟩
  ·by_cases h2:(dcN (byteAt s p) (byteAt s (p+1)) (byteAt s (p+2)) (byteAt s (p+3)) (onAt s (p+1)) (onAt s (p+2)) (onAt s (p+3))).1=65533
   ·obtain⟨q1,q2,q3,q4,q5⟩:=k1 h2
    rw[hpre.2 ⟨q1,q2,q3,hat _ q5⟩]
    simp
   ·rw[decide_eq_false h2];rfl
  ·have hr:szN (byteAt s p) (byteAt s (p+1)) (isAt s (p+1)) (onAt s (p+1)) (onAt s (p+2)) (onAt s (p+3))<=4/\0<=szN (byteAt s p) (byteAt s (p+1)) (isAt s (p+1)) (onAt s (p+1)) (onAt s (p+2)) (onAt s (p+3)):=by
    unfold szN
    (repeat' split)<;>omega
   rw[<-hdw]at hr h
   omega
def rbad (s:Str):Pg Int:=
 .wh (s.length+1) default
  (fun(x3:Int)=>
   .as (List.length s<=9223372036854775807)
    (.br (decide (x3 < (↑(List.length s):Int)))
     (.ob (0<=x3/\x3 < (↑(List.length s):Int)/\List.length s<=9223372036854775700)
      (.lt (rsizeP s x3) fun(v4:Int)=> .br (v4==0) (.ret (.inr x3)) (.ret (.inl (wrp .i64 (x3+v4))))))
     (.ret (.inr (-1)))))
  0
def rbadP (s:Str):Int:=(rbad s).val
theorem rbad_is (s:Str)(h:s.length<=9223372036854775700):Is (rbad s):=
 by
 refine is_wh (fun x=>0<=x/\x<=s.length+4) (fun x=>s.length - x.toNat) ⟨by omega,by omega⟩ (by omega) (fun x hx=>⟨is_as fun _=>is_brd (fun _=>is_ob (by omega) (is_lt fun v4 hv4=>is_beq (fun _=>is_ret) (fun _=>is_ret))) (fun _=>is_ret),fun x' hx'=> ?_⟩)
 revert hx'
 simp only[val_as,val_br,val_ob,val_lt,val_ret]
 by_cases h0:x < (s.length:Int)
 ·obtain⟨p,rfl⟩:∃p:Nat,x=p:=⟨x.toNat,by omega⟩
  have hw:=wrong_eq s p (by omega) h
  by_cases h1:rsizeP s (p:Int)=0
  ·simp[h0,h1]
  ·obtain⟨_,k1,k2,k3⟩:=hw.2 h1
   have h2:(rsizeP s (p:Int)==0)=false:=by simpa using h1
   simp only[h0,decide_true,cond_true,h2,cond_false]
   intro e
   injection e with e
   rw[<-k1,wrp_in (k:= .i64) (by simp only[InR];omega)]at e
   subst e
   omega
 ·simp[h0]
def e_rbad:Ent Z:=entN Z [e_rsize] [jS 2 (shp (fun sl=>[.slot 3 false [none]]) (l1 (cInt .i64)))] (args (a1 (aLf cStr))) (argsI (n:=18) rfl) (shr [.slot 0 false [none]] (l1 (cInt .i64))) [] Tryz.func138 Tryz.ntmps138 (by kernel_rfl) 1 rfl (fun a=>rbad a) (fun a=>some (a.length<=9223372036854775700)) (fun a e _=>by kernel_rfl) (fun a=>rbadP a) (fun a h=>⟨rbad_is a h,rfl⟩)
def bad (s:Str):Pg Int:=
 .wh (s.length+1) default
  (fun(x1:List UInt8×Int)=>
   .br (decide (x1.snd.toNat < x1.fst.length))
    (.ob (0<=(↑x1.snd.toNat:Int)/\(↑x1.snd.toNat:Int)<=(↑(List.length s):Int))
     (.br (wrongP s (↑x1.snd.toNat:Int) (decC x1.fst x1.snd.toNat)) (.ret (.inr (↑x1.snd.toNat:Int)))
      (.ret (.inl (x1.fst,(↑(x1.snd.toNat+decW x1.fst x1.snd.toNat):Int))))))
    (.ret (.inr (-1))))
  (s,0)
theorem bad_eq (s:Str)(h:s.length<=9223372036854775700):(bad s).val=rbadP s:=by
 unfold bad rbadP rbad
 rw[val_wh,val_wh]
 suffices key:∀(n p:Nat),whN _ default n (s,(p:Int))=whN _ default n (p:Int)from key (s.length+1) 0
 intro n
 induction n with
 | zero=>intro p;rfl
 | succ n ih=>
  intro p
  simp only[whN,val_as,val_br,val_ob,val_lt,val_ret,Int.toNat_natCast]
  by_cases h0:p < s.length
  ·have h1:(p:Int) < (s.length:Int):=by omega
   have hw:=wrong_eq s p h0 h
   simp only[h0,h1,decide_true,cond_true]
   by_cases h2:rsizeP s (p:Int)=0
   ·rw[hw.1 h2,h2];rfl
   ·obtain⟨k0,k1,k2,k3⟩:=hw.2 h2
    have h3:(rsizeP s (p:Int)==0)=false:=by simpa using h2
    rw[k0,h3]
    simp only[cond_false]
    rw[<-k1,wrp_in (k:= .i64) (by simp only[InR];omega)]
    exact ih (p+decW s p)
  ·have h1:¬(p:Int) < (s.length:Int):=by omega
   simp only[h0,h1,decide_false,cond_false]
theorem bad_is (s:Str)(h:s.length<=9223372036854775700):Is (bad s):=
 by
 refine is_wh (fun x=>x.1=s/\0<=x.2) (fun x=>s.length - x.2.toNat) ⟨rfl,by omega⟩ (by omega) (fun x hx=>⟨is_brd (fun hlt=>is_ob (by rw[hx.1]at*;omega) (is_br (fun _=>is_ret) (fun _=>is_ret))) (fun _=>is_ret),fun x' hx'=> ?_⟩)
 obtain⟨t,x⟩:=x
 obtain⟨rfl,h2⟩:=hx
 revert hx'
 simp only[val_br,val_ob,val_ret]
 by_cases h0:x.toNat < t.length
 ·have hw:=wrong_eq t x.toNat h0 h
  by_cases h1:rsizeP t (x.toNat:Int)=0
  ·rw[hw.1 h1];simp[h0]
  ·obtain⟨k0,k1,k2,k3⟩:=hw.2 h1
   rw[k0]
   simp only[h0,decide_true,cond_true,cond_false]
   intro e
   injection e with e
   subst e
   exact⟨⟨rfl,by omega⟩,by simp only[Int.toNat_natCast];omega⟩
 ·simp[h0]
def e_bad:Ent Z:=entN Z [e_wrong] [jS 2 (shp (fun sl=>[.iter (pid (sl 6))]) (l1 (cPair cStr (cInt .i64))))] (args (a1 (aLf cStr))) (argsI (n:=16) rfl) (shr [.slot 0 false [none]] (l1 (cInt .i64))) [] Tryz.func121 Tryz.ntmps121 (by kernel_rfl) 1 rfl (fun a=>bad a) (fun a=>some (a.length<=9223372036854775700)) (fun a e _=>by kernel_rfl) (fun a=>rbadP a) (fun a h=>⟨bad_is a h,bad_eq a h⟩)
def uvalid (s:Str):Pg Bool:=
 .ob (List.length s<=9223372036854775700) (.lt (rbadP s) fun(v1:Int)=> .ret (decide (v1 < 0)))
def uvalidP (s:Str):Bool:=(uvalid s).val
theorem uvalid_is (s:Str)(h:s.length<=9223372036854775700):Is (uvalid s):=
 is_ob h (is_lt fun _ _=>is_ret)
def e_uvalid:Ent Z:=entN Z [e_bad] [] (args (a1 (aLf cStr))) (argsI (n:=6) rfl) (shr [.slot 0 false [none]] (l1 cBool)) [] Tryz.func68 Tryz.ntmps68 (by kernel_rfl) 1 rfl (fun a=>uvalid a) (fun a=>some (a.length<=9223372036854775700)) (fun a e _=>by kernel_rfl) (fun a=>uvalidP a) (fun a h=>⟨uvalid_is a h,rfl⟩)
def rvalid (s:Str):Pg Bool:=
 .ob (List.length s<=9223372036854775700) (.lt (rbadP s) fun(v1:Int)=> .ret (decide (v1 < 0)))
def rvalidP (s:Str):Bool:=(rvalid s).val
theorem rvalid_is (s:Str)(h:s.length<=9223372036854775700):Is (rvalid s):=
 is_ob h (is_lt fun _ _=>is_ret)
def e_rvalid:Ent Z:=entN Z [e_rbad] [] (args (a1 (aLf cStr))) (argsI (n:=6) rfl) (shr [.slot 0 false [none]] (l1 cBool)) [] Tryz.func84 Tryz.ntmps84 (by kernel_rfl) 1 rfl (fun a=>rvalid a) (fun a=>some (a.length<=9223372036854775700)) (fun a e _=>by kernel_rfl) (fun a=>rvalidP a) (fun a h=>⟨rvalid_is a h,rfl⟩)
end
end Go.Proofs.YtiibcbmenoaigaaGreatDoor
