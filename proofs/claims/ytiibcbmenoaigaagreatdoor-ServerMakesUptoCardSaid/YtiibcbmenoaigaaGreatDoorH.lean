/- Server: names. -/
import Derived.Test.YtiibcbmenoaigaaGreatDoorG
import Derived.Test.YtiibcbmenoaigaaGreatDoorEng15
namespace Go.Proofs.YtiibcbmenoaigaaGreatDoor
noncomputable section
open Go.RowKit Go.Vc
set_option linter.unusedVariables false
set_option linter.unusedSimpArgs false
set_option maxRecDepth 100000
def pcB (c:UInt8):Bool:=(decide (97<=c.toNat) && decide (c.toNat<=122)) || (decide (65<=c.toNat) && decide (c.toNat<=90))
def pnB (c:UInt8):Bool:=pcB c || (decide (48<=c.toNat) && decide (c.toNat<=57)) || decide (c.toNat=95)
def partB (s:Str):Bool:=decide (s.length<=40) && match s with
 | []=>false
 | c::r=>pcB c && r.all pnB
theorem pcB_iff (c:UInt8):pcB c=true ↔ (97<=c.toNat/\c.toNat<=122)\/(65<=c.toNat/\c.toNat<=90):=by
 unfold pcB
 simp only[Bool.or_eq_true,Bool.and_eq_true,decide_eq_true_eq]
theorem pnB_iff (c:UInt8):pnB c=true ↔ ((97<=c.toNat/\c.toNat<=122)\/(65<=c.toNat/\c.toNat<=90))\/(48<=c.toNat/\c.toNat<=57)\/c.toNat=95:=by
 unfold pnB
 simp only[Bool.or_eq_true,Bool.and_eq_true,decide_eq_true_eq,pcB_iff,or_assoc]
theorem dec_low {s:Str}{p:Nat}(h:byteAt s p < 128):decC s p=(byteAt s p:Int)/\decW s p=1:=by
 unfold decC decW
 rw[dec_dcN]
 unfold dcN
 rw[if_pos h]
 exact⟨rfl,rfl⟩
theorem dec_high {s:Str}{p:Nat}(h:128<=byteAt s p):128<=decC s p:=by
 unfold decC
 rw[dec_dcN]
 unfold dcN
 rw[if_neg (by omega)]
 have key:∀(a b:Prop) [Decidable a] [Decidable b] (x y z:Nat×Nat),128<=x.1->128<=y.1->128<=z.1->True:=fun _ _ _ _ _ _ _ _ _ _=>trivial
 (repeat' split)<;>simp_all<;>omega
def cls (c:Int):Pg Int:=
 .br (decide (97<=c))
  (.br (decide (c<=122)) (.ret 1)
   (.br (decide (65<=c))
    (.br (decide (c<=90)) (.ret 2)
     (.br (decide (48<=c)) (.br (decide (c<=57)) (.ret 3) (.br (c==95) (.ret 4) (.ret 0)))
      (.br (c==95) (.ret 4) (.ret 0))))
    (.br (decide (48<=c)) (.br (decide (c<=57)) (.ret 3) (.br (c==95) (.ret 4) (.ret 0)))
     (.br (c==95) (.ret 4) (.ret 0)))))
  (.br (decide (65<=c))
   (.br (decide (c<=90)) (.ret 2)
    (.br (decide (48<=c)) (.br (decide (c<=57)) (.ret 3) (.br (c==95) (.ret 4) (.ret 0)))
     (.br (c==95) (.ret 4) (.ret 0))))
   (.br (decide (48<=c)) (.br (decide (c<=57)) (.ret 3) (.br (c==95) (.ret 4) (.ret 0)))
    (.br (c==95) (.ret 4) (.ret 0))))
def clsP (c:Int):Int:=(cls c).val
theorem cls_is (c:Int):Is (cls c):=
 is_brd (fun _=>is_brd (fun _=>is_ret) (fun _=>is_brd (fun _=>is_brd (fun _=>is_ret) (fun _=>is_brd (fun _=>is_brd (fun _=>is_ret) (fun _=>is_beq (fun _=>is_ret) (fun _=>is_ret))) (fun _=>is_beq (fun _=>is_ret) (fun _=>is_ret)))) (fun _=>is_brd (fun _=>is_brd (fun _=>is_ret) (fun _=>is_beq (fun _=>is_ret) (fun _=>is_ret))) (fun _=>is_beq (fun _=>is_ret) (fun _=>is_ret))))) (fun _=>is_brd (fun _=>is_brd (fun _=>is_ret) (fun _=>is_brd (fun _=>is_brd (fun _=>is_ret) (fun _=>is_beq (fun _=>is_ret) (fun _=>is_ret))) (fun _=>is_beq (fun _=>is_ret) (fun _=>is_ret)))) (fun _=>is_brd (fun _=>is_brd (fun _=>is_ret) (fun _=>is_beq (fun _=>is_ret) (fun _=>is_ret))) (fun _=>is_beq (fun _=>is_ret) (fun _=>is_ret))))
def e_cls:Ent Z:=entN Z [] [] (args (a1 (aLf (cInt .i32)))) (argsI (n:=27) rfl) (shr [.slot 0 false [none]] (l1 (cInt .i64))) [] Tryz.func60 Tryz.ntmps60 (by kernel_rfl) 1 rfl (fun a=>cls a) (fun a=>none) (fun a e _=>by kernel_rfl) (fun a=>clsP a) (fun a h=>⟨cls_is a,rfl⟩)
theorem cls_def (c:Int):clsP c=if 97<=c/\c<=122 then 1 else if 65<=c/\c<=90 then 2 else if 48<=c/\c<=57 then 3 else if c=95 then 4 else 0:=by
 unfold clsP cls
 simp only[val_br,val_ret,Bool.cond_eq_ite,decide_eq_true_eq,beq_iff_eq]
 (repeat' split)<;>first | rfl | omega
theorem cls_byte (s:Str)(p:Nat):(clsP (decC s p)=0 ↔ pnB (s.getD p 0)=false)/\((clsP (decC s p)=1\/clsP (decC s p)=2) ↔ pcB (s.getD p 0)=true):=by
 have hp:=pcB_iff (s.getD p 0)
 have hn:=pnB_iff (s.getD p 0)
 rw[cls_def,Bool.eq_false_iff,ne_eq,hp,hn]
 have hb:byteAt s p=(s.getD p 0).toNat:=rfl
 by_cases h:byteAt s p < 128
 ·rw[(dec_low h).1,hb]
  generalize (s.getD p 0).toNat=b
  (repeat' split)<;>omega
 ·have:=dec_high (s:=s) (p:=p) (by omega)
  rw[hb]at h
  generalize (s.getD p 0).toNat=b at*
  generalize decC s p=c at*
  (repeat' split)<;>omega
theorem pn_width {s:Str}{p:Nat}(h:pnB (s.getD p 0)=true):decW s p=1:=by
 have:=(pnB_iff _).1 h
 exact(dec_low (s:=s) (p:=p) (by show(s.getD p 0).toNat < 128;omega)).2
theorem pc_pn {c:UInt8}(h:pcB c=true):pnB c=true:=by unfold pnB;rw[h];rfl
theorem drop_get {s:Str}{p:Nat}(h:p < s.length):s.drop p=s.getD p 0::s.drop (p+1):=by
 rw[List.drop_eq_getElem_cons h]
 simp[List.getD,h]
def ipart (s:Str):Pg Bool:=
 .wh (s.length+1) default
  (fun(x1:List UInt8×Int)=>
   .br (decide (x1.snd.toNat < x1.fst.length))
    (.lt (clsP (decC x1.fst x1.snd.toNat)) fun(v2:Int)=>
     .br (v2==0) (.ret (.inr false))
      (.br ((↑x1.snd.toNat:Int)==0)
       (.br (v2 !=1) (.br (v2 !=2) (.ret (.inr false)) (.ret (.inl (x1.fst,(↑(x1.snd.toNat+decW x1.fst x1.snd.toNat):Int)))))
        (.ret (.inl (x1.fst,(↑(x1.snd.toNat+decW x1.fst x1.snd.toNat):Int)))))
       (.ret (.inl (x1.fst,(↑(x1.snd.toNat+decW x1.fst x1.snd.toNat):Int))))))
    (.br (decide (1<=(↑(List.length s):Int))) (.ret (.inr (decide ((↑(List.length s):Int)<=40)))) (.ret (.inr false))))
  (s,0)
def ipartP (s:Str):Bool:=(ipart s).val
theorem ipart_is (s:Str):Is (ipart s):=
 by
 refine is_wh (fun x=>x.1=s/\0<=x.2) (fun x=>s.length - x.2.toNat) ⟨rfl,by omega⟩ (by simp) (fun x hx=>⟨is_brd (fun _=>is_lt fun v2 hv2=>is_beq (fun _=>is_ret) (fun _=>is_beq (fun _=>is_bne (fun _=>is_bne (fun _=>is_ret) (fun _=>is_ret)) (fun _=>is_ret)) (fun _=>is_ret))) (fun _=>is_brd (fun _=>is_ret) (fun _=>is_ret)),fun x' hx'=> ?_⟩)
 obtain⟨t,x⟩:=x
 obtain⟨rfl,h2⟩:=hx
 dsimp only at h2 hx'⊢
 revert hx'
 simp only[val_br,val_lt,val_ret]
 by_cases h0:x.toNat < t.length
 ·rw[decide_eq_true h0,cond_true]
  by_cases h1:clsP (decC t x.toNat)=0
  ·rw[h1];intro e;cases e
  ·have hp:pnB (t.getD x.toNat 0)=true:=by
    rw[<-Bool.not_eq_false]
    exact fun e=>h1 ((cls_byte t x.toNat).1.2 e)
   have hw:=pn_width hp
   have:(clsP (decC t x.toNat)==0)=false:=by simpa using h1
   rw[this,cond_false,hw]
   intro e
   have e2:x'=(t,((x.toNat+1:Nat):Int)):=by
    revert e
    cases((x.toNat:Int)==0)<;>cases(clsP (decC t x.toNat) !=1)<;>cases(clsP (decC t x.toNat) !=2)<;>simp only[cond_true,cond_false]<;>intro e<;>first | (cases e;rfl) | (cases e;done)
   subst e2
   exact⟨⟨rfl,by omega⟩,by show t.length - (((x.toNat+1:Nat):Int)).toNat < _;omega⟩
 ·rw[decide_eq_false h0,cond_false]
  intro e
  revert e
  cases decide ((1:Int)<=(t.length:Int))<;>intro e<;>cases e
def e_ipart:Ent Z:=entN Z [e_cls] [jS 2 (shp (fun sl=>[.iter (pid (sl 7))]) (l1 (cPair cStr (cInt .i64))))] (args (a1 (aLf cStr))) (argsI (n:=36) rfl) (shr [.slot 0 false [none]] (l1 cBool)) [] Tryz.func29 Tryz.ntmps29 (by kernel_rfl) 1 rfl (fun a=>ipart a) (fun a=>none) (fun a e _=>by kernel_rfl) (fun a=>ipartP a) (fun a h=>⟨ipart_is a,rfl⟩)
theorem ipart_eq (s:Str):ipartP s=partB s:=by
 have key:∀(m p:Nat),1<=p->p<=s.length->s.length - p < m->whN (fun(x1:List UInt8×Int)=>bif decide (x1.snd.toNat < x1.fst.length)then(bif clsP (decC x1.fst x1.snd.toNat)==0 then(Sum.inr false:(List UInt8×Int)⊕Bool)else(bif ((x1.snd.toNat:Nat):Int)==0 then(bif clsP (decC x1.fst x1.snd.toNat) !=1 then(bif clsP (decC x1.fst x1.snd.toNat) !=2 then .inr false else .inl (x1.fst,((x1.snd.toNat+decW x1.fst x1.snd.toNat:Nat):Int)))else .inl (x1.fst,((x1.snd.toNat+decW x1.fst x1.snd.toNat:Nat):Int)))else .inl (x1.fst,((x1.snd.toNat+decW x1.fst x1.snd.toNat:Nat):Int))))else(bif decide (1<=((s.length:Nat):Int))then .inr (decide (((s.length:Nat):Int)<=40))else .inr false)) default m (s,(p:Int))=((s.drop p).all pnB && decide (s.length<=40)):=by
  intro m
  induction m with
  | zero=>intro p _ _ h;omega
  | succ m ih=>
   intro p h1 h2 h3
   unfold whN
   simp only[Int.toNat_natCast]
   by_cases h:p < s.length
   ·rw[decide_eq_true h,cond_true,drop_get h,List.all_cons]
    cases hp:pnB (s.getD p 0)with
    | false=>
     rw[(cls_byte s p).1.2 hp]
     rfl
    | true=>
     have:(clsP (decC s p)==0)=false:=by
      rw[beq_eq_false_iff_ne]
      exact fun e=>by rw[(cls_byte s p).1.1 e]at hp;cases hp
     have hz:((p:Int)==0)=false:=by rw[beq_eq_false_iff_ne];omega
     rw[this,hz,pn_width hp]
     simp only[cond_false]
     rw[ih (p+1) (by omega) (by omega) (by omega),Bool.true_and]
   ·have:p=s.length:=by omega
    subst this
    rw[decide_eq_false h,decide_eq_true (show(1:Int)<=(s.length:Int) by omega),List.drop_length]
    simp only[cond_false,cond_true,List.all_nil,Bool.true_and]
    congr 1
    rw[eq_iff_iff]
    omega
 unfold ipartP ipart
 rw[val_wh]
 simp only[val_br,val_lt,val_ret]
 unfold partB
 cases s with
 | nil=>rfl
 | cons c r=>
  unfold whN
  simp only[Int.toNat_zero]
  rw[decide_eq_true (show 0 < (c::r).length by simp),cond_true]
  have hk:=cls_byte (c::r) 0
  have e0:(c::r).getD 0 0=c:=rfl
  rw[e0]at hk
  cases hp:pcB c with
  | false=>
   rw[hp]at hk
   have h1:(clsP (decC (c::r) 0) !=1)=true:=by
    rw[bne_iff_ne];exact fun e=>by have:=hk.2.1 (.inl e);cases this
   have h2:(clsP (decC (c::r) 0) !=2)=true:=by
    rw[bne_iff_ne];exact fun e=>by have:=hk.2.1 (.inr e);cases this
   rw[h1,h2]
   cases clsP (decC (c::r) 0)==0<;>simp
  | true=>
   rw[hp]at hk
   have h12:=hk.2.2 rfl
   have h0:(clsP (decC (c::r) 0)==0)=false:=by rw[beq_eq_false_iff_ne];omega
   have hw:decW (c::r) 0=1:=pn_width (s:=c::r) (p:=0) (pc_pn hp)
   have:=key ((c::r).length) 1 (by omega) (by simp) (by simp)
   have hz:(((0:Nat):Int)==0)=true:=rfl
   rw[h0,hw,hz]
   have e:(bif clsP (decC (c::r) 0) !=1 then(bif clsP (decC (c::r) 0) !=2 then(Sum.inr false:(List UInt8×Int)⊕Bool)else .inl (c::r,((0+1:Nat):Int)))else .inl (c::r,((0+1:Nat):Int)))= .inl (c::r,((1:Nat):Int)):=by
    rcases h12 with h | h
    ·rw[h];rfl
    ·rw[h];rfl
   simp only[cond_false,cond_true]
   rw[e]
   refine this.trans ?_
   rw[Bool.true_and,Bool.and_comm]
   rfl
def r6small (b:Int):Pg Bool:=
 .br (decide (97<=b)) (.ret (decide (b<=122))) (.ret false)
def r6smallP (b:Int):Bool:=(r6small b).val
theorem r6small_is (b:Int):Is (r6small b):=
 is_brd (fun _=>is_ret) (fun _=>is_ret)
def e_r6small:Ent Z:=entN Z [] [] (args (a1 (aLf (cInt .u8)))) (argsI (n:=9) rfl) (shr [.slot 0 false [none]] (l1 cBool)) [] Tryz.func79 Tryz.ntmps79 (by kernel_rfl) 1 rfl (fun a=>r6small a) (fun a=>none) (fun a e _=>by kernel_rfl) (fun a=>r6smallP a) (fun a h=>⟨r6small_is a,rfl⟩)
def r6cap (b:Int):Pg Bool:=
 .br (decide (65<=b)) (.ret (decide (b<=90))) (.ret false)
def r6capP (b:Int):Bool:=(r6cap b).val
theorem r6cap_is (b:Int):Is (r6cap b):=
 is_brd (fun _=>is_ret) (fun _=>is_ret)
def e_r6cap:Ent Z:=entN Z [] [] (args (a1 (aLf (cInt .u8)))) (argsI (n:=9) rfl) (shr [.slot 0 false [none]] (l1 cBool)) [] Tryz.func80 Tryz.ntmps80 (by kernel_rfl) 1 rfl (fun a=>r6cap a) (fun a=>none) (fun a e _=>by kernel_rfl) (fun a=>r6capP a) (fun a h=>⟨r6cap_is a,rfl⟩)
def r6part (s:Str):Pg Bool:=
 .br ((↑(List.length s):Int)==0) (.ret false)
  (.br (decide (40 < (↑(List.length s):Int))) (.ret false)
   (.ix 0 (List.length s)
    (.br (!r6smallP (↑(List.getD s 0 0).toNat:Int))
     (.ix 0 (List.length s)
      (.br (!r6capP (↑(List.getD s 0 0).toNat:Int)) (.ret false)
       (.cntG [] (some (List.length s<=9223372036854775807)) ixI 1 (↑(List.length s):Int)
        (fun(i1:Int) (y2:Unit)=>
         .ix i1 (List.length s)
          (.br (!r6smallP (↑(List.getD s i1.toNat 0).toNat:Int))
           (.ix i1 (List.length s)
            (.br (!r6capP (↑(List.getD s i1.toNat 0).toNat:Int))
             (.ix i1 (List.length s)
              (.br ((↑(List.getD s i1.toNat 0).toNat:Int) !=95)
               (.ix i1 (List.length s)
                (.br (decide ((↑(List.getD s i1.toNat 0).toNat:Int) < 48)) (.ret (.inr false))
                 (.ix i1 (List.length s)
                  (.br (decide (57 < (↑(List.getD s i1.toNat 0).toNat:Int))) (.ret (.inr false)) (.ret (.inl ()))))))
               (.ret (.inl ()))))
             (.ret (.inl ()))))
           (.ret (.inl ()))))
        (fun(i1:Int) (y2:Unit)=> .ret true) ())))
     (.cntG [] (some (List.length s<=9223372036854775807)) ixI 1 (↑(List.length s):Int)
      (fun(i3:Int) (y4:Unit)=>
       .ix i3 (List.length s)
        (.br (!r6smallP (↑(List.getD s i3.toNat 0).toNat:Int))
         (.ix i3 (List.length s)
          (.br (!r6capP (↑(List.getD s i3.toNat 0).toNat:Int))
           (.ix i3 (List.length s)
            (.br ((↑(List.getD s i3.toNat 0).toNat:Int) !=95)
             (.ix i3 (List.length s)
              (.br (decide ((↑(List.getD s i3.toNat 0).toNat:Int) < 48)) (.ret (.inr false))
               (.ix i3 (List.length s)
                (.br (decide (57 < (↑(List.getD s i3.toNat 0).toNat:Int))) (.ret (.inr false)) (.ret (.inl ()))))))
             (.ret (.inl ()))))
           (.ret (.inl ()))))
         (.ret (.inl ()))))
      (fun(i3:Int) (y4:Unit)=> .ret true) ()))))
def r6partP (s:Str):Bool:=(r6part s).val
theorem r6part_is (s:Str):Is (r6part s):=
 is_beq (fun _=>is_ret) (fun _=>is_brd (fun _=>is_ret) (fun _=>is_ix (by omega) (by omega) (is_br (fun _=>is_ix (by omega) (by omega) (is_br (fun _=>is_ret) (fun _=>is_cntG trivial (by omega) (fun h=>by simp only[preP]at h;omega) (fun i1 y2 _ _ _=>is_ix (by omega) (by omega) (is_br (fun _=>is_ix (by omega) (by omega) (is_br (fun _=>is_ix (by omega) (by omega) (is_bne (fun _=>is_ix (by omega) (by omega) (is_brd (fun _=>is_ret) (fun _=>is_ix (by omega) (by omega) (is_brd (fun _=>is_ret) (fun _=>is_ret))))) (fun _=>is_ret))) (fun _=>is_ret))) (fun _=>is_ret))) (fun i1 y2 _ _=>is_ret)))) (fun _=>is_cntG trivial (by omega) (fun h=>by simp only[preP]at h;omega) (fun i3 y4 _ _ _=>is_ix (by omega) (by omega) (is_br (fun _=>is_ix (by omega) (by omega) (is_br (fun _=>is_ix (by omega) (by omega) (is_bne (fun _=>is_ix (by omega) (by omega) (is_brd (fun _=>is_ret) (fun _=>is_ix (by omega) (by omega) (is_brd (fun _=>is_ret) (fun _=>is_ret))))) (fun _=>is_ret))) (fun _=>is_ret))) (fun _=>is_ret))) (fun i3 y4 _ _=>is_ret)))))
def e_r6part:Ent Z:=entN Z [e_r6small,e_r6cap] [jS 4 (shp (fun sl=>[.slot 3 false [none]]) (l1 (cInt .i64)))] (args (a1 (aLf cStr))) (argsI (n:=60) rfl) (shr [.slot 0 false [none]] (l1 cBool)) [] Tryz.func37 Tryz.ntmps37 (by kernel_rfl) 1 rfl (fun a=>r6part a) (fun a=>none) (fun a e _=>by kernel_rfl) (fun a=>r6partP a) (fun a h=>⟨r6part_is a,rfl⟩)
theorem r6let (c:UInt8):(r6smallP (c.toNat:Int) || r6capP (c.toNat:Int))=pcB c:=by
 unfold r6smallP r6small r6capP r6cap pcB
 simp only[val_br,val_ret]
 rw[Bool.eq_iff_iff]
 simp only[Bool.cond_eq_ite,Bool.or_eq_true,Bool.and_eq_true,decide_eq_true_eq]
 (repeat' split)<;>simp<;>omega
theorem r6part_eq (s:Str):r6partP s=partB s:=by
 have loop:∀(r:Str) (c0:List UInt8),forN (fun(i1:Int) (y2:Unit)=>bif !r6smallP (((c0++r).getD i1.toNat 0).toNat:Int)then(bif !r6capP (((c0++r).getD i1.toNat 0).toNat:Int)then(bif (((c0++r).getD i1.toNat 0).toNat:Int) !=95 then(bif decide ((((c0++r).getD i1.toNat 0).toNat:Int) < 48)then(Sum.inr false:Unit⊕Bool)else(bif decide (57 < (((c0++r).getD i1.toNat 0).toNat:Int))then .inr false else .inl ()))else .inl ())else .inl ())else .inl ()) (fun(_:Int) (_:Unit)=>true) r.length (c0.length:Int) ()=r.all pnB:=by
  intro r
  induction r with
  | nil=>intro c0;rfl
  | cons c r ih=>
   intro c0
   rw[List.length_cons,forN_unit,List.all_cons]
   have e:(c0++c::r).getD ((c0.length:Int)).toNat 0=c:=by simp[List.getD]
   rw[e]
   have hi:=ih (c0++[c])
   rw[List.append_assoc,List.length_append]at hi
   have e1:(((c0.length+[c].length:Nat)):Int)=(c0.length:Int)+1:=rfl
   rw[e1]at hi
   have hc:pnB c=(pcB c || (decide (48<=c.toNat) && decide (c.toNat<=57)) || decide (c.toNat=95)):=rfl
   have hl:=r6let c
   rw[<-hl]at hc
   have k1:((c.toNat:Int) !=95)= !decide (c.toNat=95):=by rw[Bool.eq_iff_iff];simp;omega
   have k2:decide ((c.toNat:Int) < 48)= !decide (48<=c.toNat):=by rw[Bool.eq_iff_iff];simp;omega
   have k3:decide (57 < (c.toNat:Int))= !decide (c.toNat<=57):=by rw[Bool.eq_iff_iff];simp;omega
   rw[hc,k1,k2,k3]
   have hi':forN _ _ r.length ((c0.length:Int)+1) ()=r.all pnB:=hi
   cases r6smallP (c.toNat:Int)<;>cases r6capP (c.toNat:Int)<;>cases decide (c.toNat=95)<;>cases decide (48<=c.toNat)<;>cases decide (c.toNat<=57)<;>first | rfl | (refine Eq.trans hi' ?_;simp)
 unfold r6partP r6part partB
 simp only[val_br,val_ix,val_cntG,val_ret]
 cases s with
 | nil=>rfl
 | cons c r=>
  have hz:(((c::r).length:Int)==0)=false:=by rw[beq_eq_false_iff_ne];simp only[List.length_cons];omega
  have e0:(c::r).getD 0 0=c:=rfl
  have hlen:(((c::r).length:Int) - 1).toNat=r.length:=by simp only[List.length_cons];omega
  have hl:=loop r [c]
  have hk:=r6let c
  have h40:decide (40 < ((c::r).length:Int))= !decide ((c::r).length<=40):=by rw[Bool.eq_iff_iff];simp;omega
  rw[hz,e0,hlen,h40]
  have hl':forN _ _ r.length 1 ()=r.all pnB:=hl
  dsimp only
  cases decide ((c::r).length<=40)with
  | false=>rfl
  | true=>
   simp only[Bool.not_true,cond_false,Bool.true_and]
   rw[<-hk]
   cases r6smallP (c.toNat:Int)<;>cases r6capP (c.toNat:Int)<;>first | rfl | (refine Eq.trans hl' ?_;simp)
def r6full (s:Str):Pg Bool:=
 .br (decide (120 < (↑(List.length s):Int))) (.ret false)
  (.each true ixP s 0
   (fun(i1:Int) (a3:UInt8) (y2:List UInt8)=>
    .ix i1 (List.length s)
     (.br ((↑a3.toNat:Int) !=46)
      (.lt (wrp .i64 (i1+1)) fun(v4:Int)=>
       .ob (0<=i1/\i1<=v4/\v4<=(↑(List.length s):Int))
        (.ob (y2.length+(List.drop i1.toNat (List.take v4.toNat s)).length<=9223372036854775807)
         (.ret (.inl (y2++List.drop i1.toNat (List.take v4.toNat s))))))
      (.br (!r6partP y2) (.ret (.inr false)) (.ret (.inl [])))))
   (fun(i1:Int) (y2:List UInt8)=> .ret (r6partP y2)) [])
def r6fullP (s:Str):Bool:=(r6full s).val
theorem r6full_is (s:Str):Is (r6full s):=
 by
 refine is_brd (fun _=>is_ret) fun h0=>is_eachI (fun k y=>y.length<=k) (Nat.le_refl _) (.inl rfl) (fun i1 y2 h1 hm hI=> ?_) (fun y2 _ _=>is_ret)
 have hI:y2.length<=i1:=hI
 have w:wrp .i64 ((i1:Int)+1)=((i1+1:Nat):Int):=wrp_next (by omega)
 rw[w]
 have hl:(List.drop i1 (List.take (i1+1) s)).length=1:=by rw[List.length_drop,List.length_take];omega
 refine⟨is_ix (by omega) (by omega) (is_bne (fun _=>is_lt fun v4 hv4=>is_ob (by omega) (is_ob (by subst hv4;rw[Int.toNat_natCast,Int.toNat_natCast,hl];omega) is_ret)) (fun _=>is_br (fun _=>is_ret) (fun _=>is_ret))),fun y' hy'=> ?_⟩
 revert hy'
 simp only[val_ix,val_br,val_lt,val_ob,val_ret,Int.toNat_natCast]
 show _->y'.length<=i1+1
 cases((s.getD i1 0).toNat:Int) !=46<;>cases !r6partP y2<;>simp only[cond_true,cond_false]<;>intro e<;>first | (cases e;simp only[List.length_append,List.length_nil,hl];omega) | (cases e;done)
def e_r6full:Ent Z:=entN Z [e_r6part] [jS 5 (shp (fun sl=>[.slot 4 false [none], .slot 3 false [none]]) (lCons (cInt .i64) (l1 cStr)))] (args (a1 (aLf cStr))) (argsI (n:=30) rfl) (shr [.slot 0 false [none]] (l1 cBool)) [] Tryz.func36 Tryz.ntmps36 (by kernel_rfl) 1 rfl (fun a=>r6full a) (fun a=>none) (fun a e _=>by kernel_rfl) (fun a=>r6fullP a) (fun a h=>⟨r6full_is a,rfl⟩)
theorem r6full_eq (s:Str):r6fullP s=(decide (s.length<=120) && (partsB 46 s).all partB):=by
 have loop:∀(r c0:Str) (y:List UInt8),(c0++r).length<=9223372036854775000->forE (fun(k:Nat) (a3:UInt8) (y2:List UInt8)=>bif (a3.toNat:Int) !=46 then(Sum.inl (y2++List.drop k (List.take (wrp .i64 ((k:Int)+1)).toNat (c0++r))):List UInt8⊕Bool)else(bif !r6partP y2 then .inr false else .inl [])) (fun _ y2=>r6partP y2) r c0.length y=(headB y (partsB 46 r)).all partB:=by
  intro r
  induction r with
  | nil=>
   intro c0 y _
   show r6partP y=_
   rw[r6part_eq]
   simp[partsB,headB]
  | cons c r ih=>
   intro c0 y hb
   unfold forE
   have hlen:c0.length < 9223372036854775807:=by rw[List.length_append,List.length_cons]at hb;omega
   have hw:(wrp .i64 ((c0.length:Int)+1)).toNat=c0.length+1:=by rw[wrp_next hlen];rfl
   have hd:List.drop c0.length (List.take (wrp .i64 ((c0.length:Int)+1)).toNat (c0++c::r))=[c]:=by
    rw[hw,List.take_append]
    simp
   have hi:=fun y=>ih (c0++[c]) y (by simpa using hb)
   simp only[List.append_assoc,List.cons_append,List.nil_append]at hi
   have hl:(c0++[c]).length=c0.length+1:=by simp
   rw[hl]at hi
   rw[hd]
   cases hx:c==46 with
   | false=>
    have h46:((c.toNat:Int) !=46)=true:=by
     rw[bne_iff_ne]
     intro e
     have:c=46:=UInt8.toNat_inj.1 (by have:(46:UInt8).toNat=46:=rfl;omega)
     subst this
     simp at hx
    rw[h46,cond_true,headB_cons 46 c r y hx]
    exact hi (y++[c])
   | true=>
    have hc:=eq_of_beq hx
    subst hc
    have h46:(((46:UInt8).toNat:Int) !=46)=false:=rfl
    rw[h46,cond_false,partsB_yes hx,r6part_eq]
    cases hp:partB y with
    | false=>simp[headB,hp]
    | true=>
     have:=hi []
     rw[headB_nil (partsB_ne 46 r)]at this
     simp only[Bool.not_true,cond_false]
     rw[this]
     simp[headB,hp]
 unfold r6fullP r6full
 simp only[val_br,val_each,val_ix,val_lt,val_ob,val_ret,Int.toNat_natCast]
 by_cases h:s.length<=120
 ·rw[decide_eq_true h,decide_eq_false (show ¬(120:Int) < (s.length:Int) by omega),cond_false,Bool.true_and]
  have:=loop s [] [] (by rw[List.nil_append];omega)
  rw[headB_nil (partsB_ne 46 s)]at this
  exact this
 ·rw[decide_eq_false h,decide_eq_true (show(120:Int) < (s.length:Int) by omega)]
  rfl
end
end Go.Proofs.YtiibcbmenoaigaaGreatDoor
