/- Server: strings.Trim. -/
import Derived.Test.YtiibcbmenoaigaaGreatDoorB
namespace Go.Proofs.YtiibcbmenoaigaaGreatDoor
noncomputable section
open Go.RowKit Go.Vc
set_option linter.unusedVariables false
set_option linter.unusedSimpArgs false
set_option maxRecDepth 100000
def csK:Str:=[97,98,99,100,101,102,103,104,105,106,107,108,109,110,111,112,113,114,115,116,117,118,119,120,121,122,48,49,50,51,52,53,54,55,56,57,45]
def asContains (c:Int)(a:List Bool):Pg Bool:=
 .ob (0<=c/\c < 256) (.ob (c.toNat < a.length) (.ret (a.getD c.toNat false)))
theorem asContains_is (c:Int)(a:List Bool)(h:0<=c/\c < 256/\a.length=256):Is (asContains c a):=
 is_ob (by omega) (is_ob (by omega) (is_ret))
def e_asContains:Ent Z:=entN Z [] [] (argsB (aCons (aArr 0 1) (a1 (aLf (cInt .u8)))) (b1 (bRow 274 D.bool prj_bool))) (argsBI (n:=10) rfl) (shr [.slot 0 false [none]] (l1 cBool)) [0] Tryz.func259 Tryz.ntmps259 (by kernel_rfl) 1 rfl (fun a=>asContains (a.1.2) (a.2)) (fun a=>some (0<=(a.1.2)/\(a.1.2) < 256/\(a.2).length=256)) (fun a e _=>by kernel_rfl) (fun a=>(a.2).getD (a.1.2).toNat false) (fun a h=>⟨asContains_is (a.1.2) (a.2) h,rfl⟩)
def trimLA (s:Str)(a:List Bool):Pg (List UInt8):=
 .wh (s.length+1) default
  (fun(x1:List UInt8)=>
   .br (decide (0 < (↑x1.length:Int)))
    (.ix 0 x1.length
     (.ob (0<=(↑(x1.getD 0 0).toNat:Int)/\(↑(x1.getD 0 0).toNat:Int) < 256/\a.length=256)
      (.br (!a.getD (x1.getD 0 0).toNat false) (.ret (.inr x1))
       (.ob ((0:Int)<=1/\1<=(↑x1.length:Int)/\(↑x1.length:Int)<=(↑x1.length:Int))
        (.ret (.inl (List.drop 1 (List.take x1.length x1))))))))
    (.ret (.inr x1)))
  s
def trimRA (s:Str)(a:List Bool):Pg (List UInt8):=
 .wh (s.length+1) default
  (fun(x1:List UInt8)=>
   .br (decide (0 < (↑x1.length:Int)))
    (.lt (wrp .i64 ((↑x1.length:Int) - 1)) fun(v2:Int)=>
     .ix v2 x1.length
      (.ob (0<=(↑(x1.getD v2.toNat 0).toNat:Int)/\(↑(x1.getD v2.toNat 0).toNat:Int) < 256/\a.length=256)
       (.br (!a.getD (x1.getD v2.toNat 0).toNat false) (.ret (.inr x1))
        (.ob ((0:Int)<=0/\0<=v2/\v2<=(↑x1.length:Int)) (.ret (.inl (List.take v2.toNat x1)))))))
    (.ret (.inr x1)))
  s
theorem trimLA_eq (s:Str)(a:List Bool)(h:a.length=256):(trimLA s a).val=s.dropWhile fun c=>a.getD c.toNat false:=by
 unfold trimLA
 rw[val_wh]
 suffices key:∀(s:Str) (n:Nat),s.length < n->whN _ default n s=s.dropWhile fun c=>a.getD c.toNat false from key s _ (Nat.lt_succ_self _)
 intro s
 induction s with
 | nil=>
  intro n hn
  cases n with
  | zero=>simp at hn
  | succ n=>rfl
 | cons c s ih=>
  intro n hn
  cases n with
  | zero=>simp at hn
  | succ n=>
   have h0:(0:Int) < ((c::s).length:Int):=by simp only[List.length_cons];omega
   have hc:((c::s).getD 0 0).toNat=c.toNat:=rfl
   simp only[whN,val_br,val_ix,val_ob,val_ret,h0,decide_true,cond_true,hc,List.dropWhile_cons]
   cases hb:a.getD c.toNat false with
   | false=>simp[hb]
   | true=>
    simp only[hb,Bool.not_true,cond_false,if_true]
    have:List.drop 1 (List.take (c::s).length (c::s))=s:=by simp
    rw[this]
    exact ih n (by simpa using hn)
theorem trimRA_eq (s:Str)(a:List Bool)(hh:a.length=256/\s.length<=9223372036854775807):(trimRA s a).val=(s.reverse.dropWhile fun c=>a.getD c.toNat false).reverse:=by
 unfold trimRA
 rw[val_wh]
 suffices key:∀(r:Str) (n:Nat),r.length < n->r.length<=9223372036854775807->whN _ default n r.reverse=(r.dropWhile fun c=>a.getD c.toNat false).reverse by
  have:=key s.reverse (s.length+1) (by simp) (by simpa using hh.2)
  rwa [List.reverse_reverse]at this
 intro r
 induction r with
 | nil=>
  intro n hn _
  cases n with
  | zero=>simp at hn
  | succ n=>rfl
 | cons c r ih=>
  intro n hn hm
  cases n with
  | zero=>simp at hn
  | succ n=>
   have hlen:((c::r).reverse).length=r.length+1:=by simp
   have h0:(0:Int) < (((c::r).reverse).length:Int):=by rw[hlen];omega
   have hw:wrp .i64 ((((c::r).reverse).length:Int) - 1)=(r.length:Int):=by
    rw[hlen,wrp_in (k:= .i64) (by simp only[InR];simp at hm;omega)]
    omega
   have hc:((c::r).reverse).getD ((r.length:Int)).toNat 0=c:=by simp[List.getD]
   have h2:List.take r.length (c::r).reverse=r.reverse:=by simp
   simp only[whN,val_br,val_lt,val_ix,val_ob,val_ret,h0,decide_true,cond_true,hw,Int.toNat_natCast]at hc h2⊢
   simp only[hc,h2,List.dropWhile_cons]
   cases hb:a.getD c.toNat false with
   | false=>simp[hb]
   | true=>
    simp only[hb,Bool.not_true,cond_false,if_true]
    exact ih n (by simpa using hn) (by simp at hm;omega)
theorem trimLA_is (s:Str)(a:List Bool)(h:a.length=256):Is (trimLA s a):=
 by
 refine is_wh (fun _=>True) List.length trivial (Nat.lt_succ_self _) (fun x1 _=>⟨is_brd (fun _=>is_ix (by omega) (by omega) (is_ob ⟨by omega,by have:=UInt8.toNat_lt (x1.getD 0 0);omega,h⟩ (is_br (fun _=>is_ret) (fun _=>is_ob (by omega) (is_ret))))) (fun _=>is_ret),fun x' hx=>⟨trivial,?_⟩⟩)
 revert hx
 simp only[val_br,val_ix,val_ob,val_ret]
 by_cases h0:(0:Int) < (x1.length:Int)
 ·simp only[h0,decide_true,cond_true]
  generalize a.getD _ false=q
  cases q<;>intro e<;>cases e
  simp only[List.length_drop,List.length_take,Nat.min_self]
  omega
 ·simp only[h0,decide_false,cond_false]
  intro e;cases e
def e_trimLA:Ent Z:=entN Z [e_asContains] [jS 1 (shp (fun sl=>[.slot 0 false [none]]) (l1 cStr))] (argsB (aCons (aLf cStr) (a1 (aArr 0 1))) (b1 (bRow 274 D.bool prj_bool))) (argsBI (n:=16) rfl) (shr [.slot 0 false [none]] (l1 cStr)) [0] Tryz.func188 Tryz.ntmps188 (by kernel_rfl) 1 rfl (fun a=>trimLA (a.1.1) (a.2)) (fun a=>some ((a.2).length=256)) (fun a e _=>by kernel_rfl) (fun a=>(a.1.1).dropWhile fun c=>(a.2).getD c.toNat false) (fun a h=>⟨trimLA_is (a.1.1) (a.2) h,trimLA_eq (a.1.1) (a.2) h⟩)
theorem trimRA_is (s:Str)(a:List Bool)(h:a.length=256/\s.length<=9223372036854775807):Is (trimRA s a):=
 by
 refine is_wh (fun x=>x.length<=9223372036854775807) List.length h.2 (Nat.lt_succ_self _) (fun x1 hx1=>⟨is_brd (fun _=>is_ltw fun v2 hv2 _=>is_ix (by omega) (by omega) (is_ob ⟨by omega,by have:=UInt8.toNat_lt (x1.getD v2.toNat 0);omega,h.1⟩ (is_br (fun _=>is_ret) (fun _=>is_ob (by omega) (is_ret))))) (fun _=>is_ret),fun x' hx=> ?_⟩)
 revert hx
 simp only[val_br,val_lt,val_ix,val_ob,val_ret]
 by_cases h0:(0:Int) < (x1.length:Int)
 ·simp only[h0,decide_true,cond_true]
  generalize a.getD _ false=q
  cases q<;>intro e<;>cases e
  rw[wrp_in (k:= .i64) (by simp only[InR];omega)]
  simp only[List.length_take]
  omega
 ·simp only[h0,decide_false,cond_false]
  intro e;cases e
def e_trimRA:Ent Z:=entN Z [e_asContains] [jS 1 (shp (fun sl=>[.slot 0 false [none]]) (l1 cStr))] (argsB (aCons (aLf cStr) (a1 (aArr 0 1))) (b1 (bRow 274 D.bool prj_bool))) (argsBI (n:=22) rfl) (shr [.slot 0 false [none]] (l1 cStr)) [0] Tryz.func189 Tryz.ntmps189 (by kernel_rfl) 1 rfl (fun a=>trimRA (a.1.1) (a.2)) (fun a=>some ((a.2).length=256/\(a.1.1).length<=9223372036854775807)) (fun a e _=>by kernel_rfl) (fun a=>((a.1.1).reverse.dropWhile fun(c:UInt8)=>(a.2).getD c.toNat false).reverse) (fun a h=>⟨trimRA_is (a.1.1) (a.2) h,trimRA_eq (a.1.1) (a.2) h⟩)
def mkSet (s:Str):Pg (List Bool×Bool):=
 .each true ixP s 0
  (fun(i1:Int) (a3:UInt8) (y2:List Bool)=>
   .ix i1 (List.length s)
    (.br (decide (128<=(↑a3.toNat:Int)))
     (.ob (y2.length=256) (.ob (y2.length=256) (.ret (.inr (arrEta 256 false (arrEta 256 false y2),false)))))
     (.ob (0<=(↑a3.toNat:Int)/\(↑a3.toNat:Int) < 256) (.ob (a3.toNat < y2.length) (.ret (.inl (y2.set a3.toNat true)))))))
  (fun(i1:Int) (y2:List Bool)=> .ob (y2.length=256) (.ob (y2.length=256) (.ret (arrEta 256 false (arrEta 256 false y2),true))))
  (List.replicate 256 false)
def mkSetP (s:Str):(List Bool)×Bool:=(mkSet s).val
theorem mkSet_is (s:Str):Is (mkSet s):=
 by
 refine is_eachI (fun _ y=>y.length=256) List.length_replicate (.inl rfl) (fun i1 y2 _ _ hI=>⟨is_ix (by omega) (by omega) (is_brd (fun _=>is_ob hI (is_ob hI (is_ret))) (fun _=>is_ob (by have:=UInt8.toNat_lt (s.getD i1 0);omega) (is_ob (by have hI:y2.length=256:=hI;have:=UInt8.toNat_lt (s.getD i1 0);omega) (is_ret)))),fun y' hy=> ?_⟩) (fun y2 _ hI=>is_ob hI (is_ob hI (is_ret)))
 revert hy
 simp only[val_br,val_ix,val_ob,val_ret]
 by_cases h0:(128:Int)<=↑(s.getD i1 0).toNat
 ·simp only[h0,decide_true,cond_true]
  intro e;cases e
 ·simp only[h0,decide_false,cond_false]
  intro e;cases e
  rw[List.length_set]
  exact hI
def e_mkSet:Ent Z:=entN Z [] [jS 2 (shp (fun sl=>[.slot 4 false [none], .row (pid (sl 2)) 274]) (lCons (cInt .i64) (l1 cd_Lbool)))] (args (a1 (aLf cStr))) (argsI (n:=21) rfl) (shr [.slot 0 true [none,none,none,none,none,none,none,none,none,none,none,none,none,none,none,none,none,none,none,none,none,none,none,none,none,none,none,none,none,none,none,none,none,none,none,none,none,none,none,none,none,none,none,none,none,none,none,none,none,none,none,none,none,none,none,none,none,none,none,none,none,none,none,none,none,none,none,none,none,none,none,none,none,none,none,none,none,none,none,none,none,none,none,none,none,none,none,none,none,none,none,none,none,none,none,none,none,none,none,none,none,none,none,none,none,none,none,none,none,none,none,none,none,none,none,none,none,none,none,none,none,none,none,none,none,none,none,none,none,none,none,none,none,none,none,none,none,none,none,none,none,none,none,none,none,none,none,none,none,none,none,none,none,none,none,none,none,none,none,none,none,none,none,none,none,none,none,none,none,none,none,none,none,none,none,none,none,none,none,none,none,none,none,none,none,none,none,none,none,none,none,none,none,none,none,none,none,none,none,none,none,none,none,none,none,none,none,none,none,none,none,none,none,none,none,none,none,none,none,none,none,none,none,none,none,none,none,none,none,none,none,none,none,none,none,none,none,none,none,none,none,none,none,none,none,none,none,none,none,none,none,none,none,none,none,none], .slot 1 false [none]] (lCons (cArr 256 false cBool) (l1 cBool))) [] Tryz.func187 Tryz.ntmps187 (by kernel_rfl) 2 rfl (fun a=>mkSet a) (fun a=>none) (fun a e _=>by kernel_rfl) (fun a=>mkSetP a) (fun a h=>⟨mkSet_is a,rfl⟩)
theorem mkSet_2:(mkSetP csK).2=true:=by kernel_rfl
def keyB (c:UInt8):Bool:=(97<=c && c<=122) || (48<=c && c<=57) || c==45
theorem mkSet_all:((List.range 256).all fun i=>(arrEta 256 false (mkSetP csK).1).getD i false==keyB (UInt8.ofNat i))=true:=by kernel_rfl
theorem mkSet_1 (c:UInt8):(arrEta 256 false (mkSetP csK).1).getD c.toNat false=keyB c:=by
 have:=List.all_eq_true.1 mkSet_all c.toNat (List.mem_range.2 c.toNat_lt)
 have h:=eq_of_beq this
 rw[h]
 congr 1
 exact UInt8.ofNat_toNat
def strim (s:Str):Pg (List UInt8):=
 .br (s==[]) (.ret s)
  (.cut
   (fun(y1:Unit)=>
    .ob (256=256)
     (.lt (mkSetP csK) fun(v2:List Bool×Bool)=>
      .br v2.snd
       (.ob ((arrEta 256 false v2.fst).length=256/\List.length s<=9223372036854775807)
        (.ob ((arrEta 256 false v2.fst).length=256)
         (.ret
          (List.dropWhile (fun(c:UInt8)=>(arrEta 256 false v2.fst).getD c.toNat false)
           (List.dropWhile (fun(c:UInt8)=>(arrEta 256 false v2.fst).getD c.toNat false) (List.reverse s)).reverse))))
       (.no default)))
   (.ret (.inl ())))
theorem strim_eq (s:Str)(h:s.length<=9223372036854775807):(strim s).val=((s.reverse.dropWhile keyB).reverse).dropWhile keyB:=by
 unfold strim
 simp only[val_br,val_ret,val_cut,val_ob,val_lt,thenS_inl,mkSet_2,cond_true]
 cases s with
 | nil=>rfl
 | cons c s=>
  have:((c::s)==[])=false:=rfl
  simp only[this,cond_false,mkSet_1]
theorem strim_is (s:Str)(h:s.length<=9223372036854775807):Is (strim s):=
 is_br (fun _=>is_ret) (fun _=>is_cut (is_ret) (fun y1 hy1=>is_ob rfl (is_lt fun v2 hv2=>is_br (fun _=>is_ob ⟨by simp[arrEta],h⟩ (is_ob (by simp[arrEta]) (is_ret))) (fun hb=>by rw[hv2,mkSet_2]at hb;cases hb))))
def e_strim:Ent Z:=entN Z [e_mkSet,e_trimLA,e_trimRA] [jS 100005 (shp (fun sl=>[]) l0)] (args (aCons (aLf cStr) (a1 (aLf cStr)))) (argsI (n:=43) rfl) (shr [.slot 0 false [none]] (l1 cStr)) [] Tryz.func120 Tryz.ntmps120 (by kernel_rfl) 1 rfl (fun a=>strim (a.1)) (fun a=>some ((a.2=csK)/\((a.1).length<=9223372036854775807))) (fun⟨s,cs⟩ e h=>by have hf0:cs=csK:=h.1;subst hf0;show _=_;kernel_rfl) (fun a=>(((a.1).reverse.dropWhile keyB).reverse).dropWhile keyB) (fun a h=>⟨strim_is (a.1) h.2,strim_eq (a.1) h.2⟩)
theorem dropWhile_nil (p:UInt8->Bool):∀s:Str,s.dropWhile p=[] ↔ s.all p=true
 | []=>by simp
 | c::s=>by
  rw[List.dropWhile_cons,List.all_cons]
  cases p c with
  | true=>simpa using dropWhile_nil p s
  | false=>simp
theorem strim_nil (s:Str):((s.reverse.dropWhile keyB).reverse).dropWhile keyB=[] ↔ s.all keyB=true:=by
 rw[dropWhile_nil,List.all_reverse]
 have:∀r:Str,(r.dropWhile keyB).all keyB=r.all keyB:=by
  intro r
  induction r with
  | nil=>rfl
  | cons c r ih=>
   rw[List.dropWhile_cons]
   cases h:keyB c with
   | true=>simpa[h]using ih
   | false=>simp[h]
 rw[this,List.all_reverse]
end
end Go.Proofs.YtiibcbmenoaigaaGreatDoor
