/- Server: keys, entries, interceptors examined. -/
import Derived.Test.YtiibcbmenoaigaaGreatDoorV
namespace Go.Proofs.YtiibcbmenoaigaaGreatDoor
noncomputable section
open Go.RowKit Go.Vc
set_option linter.unusedVariables false
set_option linter.unusedSimpArgs false
set_option maxRecDepth 100000
theorem keyB_toNat (c:UInt8):keyB c=((decide (97<=c.toNat) && decide (c.toNat<=122)) || (decide (48<=c.toNat) && decide (c.toNat<=57)) || decide (c.toNat=45)):=by
 unfold keyB
 have e:(c==45)=decide (c.toNat=45):=by
  rw[Bool.eq_iff_iff,beq_iff_eq,decide_eq_true_eq]
  exact⟨fun h=>by rw[h];rfl,fun h=>UInt8.toNat_inj.1 h⟩
 rw[e]
 rfl
theorem rkey_val (s:Str):rkeyP s=(decide (1<=s.length) && (decide (s.length<=40) && s.all keyB)):=by
 unfold rkeyP rkey
 simp only[val_br,val_each,val_ix,val_ret]
 have hf:∀(l:Str) (k:Nat),forE (fun(_:Nat) (a:UInt8) (_:Unit)=>bif decide ((a.toNat:Int) < 97)then bif decide ((a.toNat:Int) < 48)then bif (a.toNat:Int) !=45 then(Sum.inr false:Unit⊕Bool)else .inl ()
     else bif decide (57 < (a.toNat:Int))then bif (a.toNat:Int) !=45 then .inr false else .inl ()else .inl ()
    else bif decide (122 < (a.toNat:Int))then bif decide ((a.toNat:Int) < 48)then bif (a.toNat:Int) !=45 then .inr false else .inl ()
     else bif decide (57 < (a.toNat:Int))then bif (a.toNat:Int) !=45 then .inr false else .inl ()else .inl ()else .inl ()) (fun _ _=>true) l k ()=l.all keyB:=by
  intro l k
  rw[<-forE_all keyB l k]
  congr 1
  funext _ a _
  rw[keyB_toNat]
  have h45:((a.toNat:Int) !=45)= !decide (a.toNat=45):=by
   rw[Bool.eq_iff_iff];simp only[bne_iff_ne,Bool.not_eq_true',decide_eq_false_iff_not];omega
  have h97:decide ((a.toNat:Int) < 97)= !decide (97<=a.toNat):=by rw[Bool.eq_iff_iff];simp only[decide_eq_true_eq,Bool.not_eq_true',decide_eq_false_iff_not];omega
  have h48:decide ((a.toNat:Int) < 48)= !decide (48<=a.toNat):=by rw[Bool.eq_iff_iff];simp only[decide_eq_true_eq,Bool.not_eq_true',decide_eq_false_iff_not];omega
  have h57:decide (57 < (a.toNat:Int))= !decide (a.toNat<=57):=by rw[Bool.eq_iff_iff];simp only[decide_eq_true_eq,Bool.not_eq_true',decide_eq_false_iff_not];omega
  have h122:decide (122 < (a.toNat:Int))= !decide (a.toNat<=122):=by rw[Bool.eq_iff_iff];simp only[decide_eq_true_eq,Bool.not_eq_true',decide_eq_false_iff_not];omega
  rw[h45,h97,h48,h57,h122]
  have k1:decide (97<=a.toNat)=true->decide (48<=a.toNat)=true:=by simp only[decide_eq_true_eq];omega
  have k2:decide (97<=a.toNat)=true->decide (a.toNat<=57)=false:=by simp only[decide_eq_true_eq,decide_eq_false_iff_not];omega
  cases h1:decide (97<=a.toNat)with
  | true=>
   rw[k1 h1,k2 h1]
   cases decide (a.toNat<=122)<;>cases decide (a.toNat=45)<;>rfl
  | false=>cases decide (48<=a.toNat)<;>cases decide (a.toNat<=57)<;>cases decide (a.toNat=45)<;>cases decide (a.toNat<=122)<;>rfl
 rw[hf]
 have e1:decide ((s.length:Int) < 1)= !decide (1<=s.length):=by rw[Bool.eq_iff_iff];simp only[decide_eq_true_eq,Bool.not_eq_true',decide_eq_false_iff_not];omega
 have e2:decide (40 < (s.length:Int))= !decide (s.length<=40):=by rw[Bool.eq_iff_iff];simp only[decide_eq_true_eq,Bool.not_eq_true',decide_eq_false_iff_not];omega
 rw[e1,e2]
 cases decide (1<=s.length)<;>cases decide (s.length<=40)<;>rfl
def isKey (s:Str):Pg Bool:=
 .br (s !=[])
  (.br (decide ((↑(List.length s):Int)<=40))
   (.ob
    ([97,98,99,100,101,102,103,104,105,106,107,
       108,109,110,111,112,113,114,115,116,117,118,
       119,120,121,122,48,49,50,51,52,53,54,
       55,56,57,45]=
      csK/\
     List.length s<=9223372036854775807)
    (.ret (List.dropWhile keyB (List.dropWhile keyB (List.reverse s)).reverse==[])))
   (.ret false))
  (.ret false)
theorem isKey_eq (s:Str)(h:s.length<=9223372036854775807):(isKey s).val=rkeyP s:=by
 unfold isKey
 rw[rkey_val]
 simp only[val_br,val_ob,val_as,val_ret]
 cases s with
 | nil=>rfl
 | cons c s=>
  have h0:((c::s) !=[])=true:=rfl
  have h1:decide (1<=(c::s).length)=true:=by simp
  have e2:decide (((c::s).length:Int)<=40)=decide ((c::s).length<=40):=by rw[Bool.eq_iff_iff];simp only[decide_eq_true_eq];omega
  have e3:((List.dropWhile keyB (List.dropWhile keyB (List.reverse (c::s))).reverse)==[])=(c::s).all keyB:=by
   rw[Bool.eq_iff_iff,beq_iff_eq]
   exact strim_nil (c::s)
  simp only[h0,h1,e2,e3,cond_true,Bool.true_and]
  cases decide ((c::s).length<=40)<;>rfl
theorem isKey_is (s:Str)(h:s.length<=9223372036854775700):Is (isKey s):=
 is_br (fun _=>is_brd (fun _=>is_ob ((⟨rfl,by omega⟩)) (is_ret)) (fun _=>is_ret)) (fun _=>is_ret)
def e_isKey:Ent Z:=entN Z [e_strim] [] (args (a1 (aLf cStr))) (argsI (n:=15) rfl) (shr [.slot 0 false [none]] (l1 cBool)) [] Tryz.func67 Tryz.ntmps67 (by kernel_rfl) 1 rfl (fun a=>isKey a) (fun a=>some (a.length<=9223372036854775700)) (fun a e _=>by kernel_rfl) (fun a=>rkeyP a) (fun a h=>⟨isKey_is a h,(fun(s:Str) (h:s.length<=9223372036854775700)=>isKey_eq s (by omega)) a h⟩)
def rentry (key:Str)(val:Str):Pg Int:=
 .br (!rkeyP key) (.ret 8)
  (.br (decide (200 < (↑(List.length val):Int))) (.ret 3)
   (.ob (List.length val<=9223372036854775700) (.br (!rvalidP val) (.ret 7) (.ret 0))))
def rentryP (key:Str)(val:Str):Int:=(rentry key val).val
theorem rentry_is (key:Str)(val:Str):Is (rentry key val):=
 is_br (fun _=>is_ret) (fun _=>is_brd (fun _=>is_ret) (fun _=>is_ob (by(try subst_vars);(try simp only[List.length_append,List.length_cons,List.length_nil]);omega) (is_br (fun _=>is_ret) (fun _=>is_ret))))
def e_rentry:Ent Z:=entN Z [e_rkey,e_rvalid] [] (args (aCons (aLf cStr) (a1 (aLf cStr)))) (argsI (n:=17) rfl) (shr [.slot 0 false [none]] (l1 (cInt .i64))) [] Tryz.func40 Tryz.ntmps40 (by kernel_rfl) 1 rfl (fun a=>rentry (a.1) (a.2)) (fun a=>none) (fun a e _=>by kernel_rfl) (fun a=>rentryP (a.1) (a.2)) (fun a h=>⟨rentry_is (a.1) (a.2),rfl⟩)
def entry (key:Str)(val:Str):Pg Int:=
 .ob (List.length key<=9223372036854775700)
  (.br (!rkeyP key) (.ret 8)
   (.br (decide (200 < (↑(List.length val):Int))) (.ret 3)
    (.ob (List.length val<=9223372036854775700) (.br (!uvalidP val) (.ret 7) (.ret 0)))))
theorem entry_is (key:Str)(val:Str)(h:key.length<=9223372036854775700):Is (entry key val):=
 is_ob (by(try subst_vars);(try simp only[List.length_append,List.length_cons,List.length_nil]);omega) (is_br (fun _=>is_ret) (fun _=>is_brd (fun _=>is_ret) (fun _=>is_ob (by(try subst_vars);(try simp only[List.length_append,List.length_cons,List.length_nil]);omega) (is_br (fun _=>is_ret) (fun _=>is_ret)))))
def e_entry:Ent Z:=entN Z [e_isKey,e_uvalid] [] (args (aCons (aLf cStr) (a1 (aLf cStr)))) (argsI (n:=17) rfl) (shr [.slot 0 false [none]] (l1 (cInt .i64))) [] Tryz.func32 Tryz.ntmps32 (by kernel_rfl) 1 rfl (fun a=>entry (a.1) (a.2)) (fun a=>some ((a.1).length<=9223372036854775700)) (fun a e _=>by kernel_rfl) (fun a=>rentryP (a.1) (a.2)) (fun a h=>⟨entry_is (a.1) (a.2) h,rfl⟩)
theorem formed_eq (x:Icept):formedP x=rfieldsP x:=by
 unfold formedP formed rfieldsP rfields bareP bare withinP within actionP action
 simp only[val_lt,val_br,val_ob,val_ret,val_cut]
 have d:∀i j:Int,i≠j->x.Kind=i->(x.Kind==j)=false:=fun i j h e=>by rw[beq_eq_false_iff_ne,e];exact h
 have s:∀i:Int,x.Kind=i->(x.Kind==i)=true:=fun i e=>by rw[e];exact beq_self_eq_true i
 by_cases k1:x.Kind=1
 ·simp only[s 1 k1,cond_true]
  cases x.Key==[]<;>rfl
 by_cases k2:x.Kind=2
 ·simp only[d 2 1 (by decide) k2,d 2 3 (by decide) k2,d 2 4 (by decide) k2,d 2 5 (by decide) k2,d 2 6 (by decide) k2,s 2 k2,cond_true,cond_false]
  cases x.Key==[]<;>cases x.Val==[]<;>cases x.Span==0<;>cases decide (0<=x.Num)<;>cases decide (x.Num<=65536)<;>rfl
 by_cases k3:x.Kind=3
 ·simp only[d 3 1 (by decide) k3,d 3 2 (by decide) k3,d 3 4 (by decide) k3,d 3 5 (by decide) k3,d 3 6 (by decide) k3,s 3 k3,cond_true,cond_false]
  cases x.Key==[]<;>cases x.Val==[]<;>cases decide (1<=x.Span)<;>cases decide (x.Span<=1099511627776)<;>cases decide (1<=x.Num)<;>cases decide (x.Num<=1000)<;>rfl
 by_cases k4:x.Kind=4
 ·simp only[d 4 1 (by decide) k4,d 4 2 (by decide) k4,d 4 3 (by decide) k4,d 4 5 (by decide) k4,d 4 6 (by decide) k4,s 4 k4,cond_true,cond_false]
  cases x.Key==[]<;>rfl
 by_cases k5:x.Kind=5
 ·simp only[d 5 1 (by decide) k5,d 5 2 (by decide) k5,d 5 3 (by decide) k5,d 5 4 (by decide) k5,d 5 6 (by decide) k5,s 5 k5,cond_true,cond_false]
  cases x.Key==[]<;>cases x.Val==[]<;>cases x.Span==0<;>cases decide (1<=x.Num)<;>cases decide (x.Num<=1099511627776)<;>rfl
 by_cases k6:x.Kind=6
 ·simp only[d 6 1 (by decide) k6,d 6 2 (by decide) k6,d 6 3 (by decide) k6,d 6 4 (by decide) k6,d 6 5 (by decide) k6,s 6 k6,cond_true,cond_false]
  cases x.Key==[]<;>cases x.Val==[]<;>cases x.Span==0<;>cases x.Num==0<;>rfl
 have n:∀i:Int,x.Kind≠i->(x.Kind==i)=false:=fun i h=>by rw[beq_eq_false_iff_ne];exact h
 simp only[n 1 k1,n 2 k2,n 3 k3,n 4 k4,n 5 k5,n 6 k6,cond_false]
 cases x.Key==[]<;>rfl
def check (l:List Icept):Pg Int:=
 .br (decide (8 < (↑l.length:Int))) (.ret 3)
  (.as (l.length<=9223372036854775807)
   (.each false ixI l d_Icept
    (fun(i1:Int) (a3:Icept) (y2:Unit)=>
     .ix i1 l.length
      (.br (!formedP a3) (.ret (.inr 1))
       (.lt (rentryP a3.Key a3.Val) fun(v4:Int)=>
        .br (a3.Kind==1) (.ob (List.length a3.Key<=9223372036854775700) (.br (v4 !=0) (.ret (.inr v4)) (.ret (.inl ()))))
         (.br (a3.Kind==4) (.ob (List.length a3.Key<=9223372036854775700) (.br (v4 !=0) (.ret (.inr v4)) (.ret (.inl ()))))
          (.ret (.inl ()))))))
    (fun(i1:Int) (y2:Unit)=> .ret 0) ()))
def rcheck (l:List Icept):Pg Int:=
 .br (decide (8 < (↑l.length:Int))) (.ret 3)
  (.each true ixI l d_Icept
   (fun(i1:Int) (a3:Icept) (y2:Unit)=>
    .ix i1 l.length
     (.br (!rfieldsP a3) (.ret (.inr 1))
      (.ix i1 l.length
       (.lt (rentryP a3.Key a3.Val) fun(v4:Int)=>
        .br (a3.Kind==1) (.ix i1 l.length (.ix i1 l.length (.br (v4 !=0) (.ret (.inr v4)) (.ret (.inl ())))))
         (.ix i1 l.length
          (.br (a3.Kind==4) (.ix i1 l.length (.ix i1 l.length (.br (v4 !=0) (.ret (.inr v4)) (.ret (.inl ())))))
           (.ret (.inl ()))))))))
   (fun(i1:Int) (y2:Unit)=> .ret 0) ())
def rcheckP (l:List Icept):Int:=(rcheck l).val
theorem rcheck_is (l:List Icept):Is (rcheck l):=
 is_brd (fun _=>is_ret) (fun _=>is_each (.inl rfl) (fun i1 y2 _ _=>is_ix (by omega) (by omega) (is_br (fun _=>is_ret) (fun _=>is_ix (by omega) (by omega) (is_lt fun v4 hv4=>is_beq (fun _=>is_ix (by omega) (by omega) (is_ix (by omega) (by omega) (is_bne (fun _=>is_ret) (fun _=>is_ret)))) (fun _=>is_ix (by omega) (by omega) (is_beq (fun _=>is_ix (by omega) (by omega) (is_ix (by omega) (by omega) (is_bne (fun _=>is_ret) (fun _=>is_ret)))) (fun _=>is_ret))))))) (fun y2 _=>is_ret))
def e_rcheck:Ent Z:=entN Z [e_rfields,e_rentry] [jS 4 (shp (fun sl=>[.slot 3 false [none]]) (l1 (cInt .i64)))] (args (a1 (aLf cd_LIcept))) (argsI (n:=48) rfl) (shr [.slot 0 false [none]] (l1 (cInt .i64))) [] Tryz.func19 Tryz.ntmps19 (by kernel_rfl) 1 rfl (fun a=>rcheck a) (fun a=>none) (fun a e _=>by kernel_rfl) (fun a=>rcheckP a) (fun a h=>⟨rcheck_is a,rfl⟩)
def okIs (l:List Icept):Prop:=∀x∈l,x.Key.length<=1048576
theorem check_eq (l:List Icept):(check l).val=rcheckP l:=by
 unfold check rcheckP rcheck
 simp only[val_br,val_as,val_each,val_ix,val_lt,val_ob,val_ret,formed_eq]
theorem check_is (l:List Icept)(h:okIs l):Is (check l):=
 is_brd (fun _=>is_ret) (fun _=>is_as fun _=>is_each (.inr (by omega)) (fun i1 y2 _ _=>is_ix (by omega) (by omega) (is_br (fun _=>is_ret) (fun _=>is_lt fun v4 hv4=>is_beq (fun _=>is_ob (by have:=h _ (getD_mem (d:=d_Icept) (show i1 < l.length by omega));omega) (is_bne (fun _=>is_ret) (fun _=>is_ret))) (fun _=>is_beq (fun _=>is_ob (by have:=h _ (getD_mem (d:=d_Icept) (show i1 < l.length by omega));omega) (is_bne (fun _=>is_ret) (fun _=>is_ret))) (fun _=>is_ret))))) (fun y2 _=>is_ret))
def e_check:Ent Z:=entN Z [e_formed,e_entry] [jS 4 (shp (fun sl=>[.slot 11 false [none]]) (l1 (cInt .i64)))] (args (a1 (aLf cd_LIcept))) (argsI (n:=35) rfl) (shr [.slot 0 false [none]] (l1 (cInt .i64))) [] Tryz.func13 Tryz.ntmps13 (by kernel_rfl) 1 rfl (fun a=>check a) (fun a=>some (okIs a)) (fun a e _=>by kernel_rfl) (fun a=>rcheckP a) (fun a h=>⟨check_is a h,(fun l _=>check_eq l) a h⟩)
end
end Go.Proofs.YtiibcbmenoaigaaGreatDoor
