/- Server: the reference's names, scalars, annotations. -/
import Derived.Test.YtiibcbmenoaigaaGreatDoorI
namespace Go.Proofs.YtiibcbmenoaigaaGreatDoor
noncomputable section
open Go.RowKit Go.Vc
set_option linter.unusedVariables false
set_option linter.unusedSimpArgs false
set_option maxRecDepth 100000
def r6word (s:Str):Pg Bool:=
 .br (s==[109,101,115,115,97,103,101])
  (.br (s==[109,101,115,115,97,103,101]) (.ret true) (.ret false))
  (.br (s==[101,110,117,109])
   (.br (s==[101,110,117,109]) (.ret true) (.ret false))
   (.br (s==[115,101,114,118,105,99,101])
    (.br (s==[115,101,114,118,105,99,101]) (.ret true) (.ret false))
    (.br (s==[117,110,105,111,110])
     (.br (s==[117,110,105,111,110]) (.ret true) (.ret false))
     (.br (s==[109,97,112]) (.br (s==[109,97,112]) (.ret true) (.ret false))
      (.br (s==[108,105,115,116])
       (.br (s==[108,105,115,116]) (.ret true) (.ret false))
       (.br (s==[114,101,113,117,105,114,101,100])
        (.br (s==[114,101,113,117,105,114,101,100]) (.ret true) (.ret false))
        (.br (s==[111,112,116,105,111,110,97,108])
         (.br (s==[111,112,116,105,111,110,97,108]) (.ret true) (.ret false))
         (.br (s==[112,108,97,105,110])
          (.br (s==[112,108,97,105,110]) (.ret true) (.ret false))
          (.br (s==[100,101,102,97,117,108,116])
           (.br (s==[100,101,102,97,117,108,116]) (.ret true) (.ret false))
           (.br (s==[114,101,115,101,114,118,101,100])
            (.br (s==[114,101,115,101,114,118,101,100]) (.ret true)
             (.ret false))
            (.br (s==[105,109,112,111,114,116])
             (.br (s==[105,109,112,111,114,116]) (.ret true) (.ret false))
             (.br (s==[115,112,97,99,101])
              (.br (s==[115,112,97,99,101]) (.ret true) (.ret false))
              (.br (s==[114,112,99]) (.br (s==[114,112,99]) (.ret true) (.ret false))
               (.br (s==[115,116,114,101,97,109])
                (.br (s==[115,116,114,101,97,109]) (.ret true) (.ret false))
                (.br (s==[114,101,116,117,114,110,115])
                 (.br (s==[114,101,116,117,114,110,115]) (.ret true)
                  (.ret false))
                 (.br (s==[111,112,101,110])
                  (.br (s==[111,112,101,110]) (.ret true) (.ret false))
                  (.br (s==[116,114,117,101])
                   (.br (s==[116,114,117,101]) (.ret true) (.ret false))
                   (.br (s==[102,97,108,115,101])
                    (.br (s==[102,97,108,115,101]) (.ret true) (.ret false))
                    (.br (s==[110,97,110])
                     (.br (s==[110,97,110]) (.ret true) (.ret false))
                     (.br (s==[105,110,102]) (.ret true) (.ret false)))))))))))))))))))))
def r6wordP (s:Str):Bool:=(r6word s).val
theorem r6word_is (s:Str):Is (r6word s):=
 is_br (fun _=>is_br (fun _=>is_ret) (fun _=>is_ret)) (fun _=>is_br (fun _=>is_br (fun _=>is_ret) (fun _=>is_ret)) (fun _=>is_br (fun _=>is_br (fun _=>is_ret) (fun _=>is_ret)) (fun _=>is_br (fun _=>is_br (fun _=>is_ret) (fun _=>is_ret)) (fun _=>is_br (fun _=>is_br (fun _=>is_ret) (fun _=>is_ret)) (fun _=>is_br (fun _=>is_br (fun _=>is_ret) (fun _=>is_ret)) (fun _=>is_br (fun _=>is_br (fun _=>is_ret) (fun _=>is_ret)) (fun _=>is_br (fun _=>is_br (fun _=>is_ret) (fun _=>is_ret)) (fun _=>is_br (fun _=>is_br (fun _=>is_ret) (fun _=>is_ret)) (fun _=>is_br (fun _=>is_br (fun _=>is_ret) (fun _=>is_ret)) (fun _=>is_br (fun _=>is_br (fun _=>is_ret) (fun _=>is_ret)) (fun _=>is_br (fun _=>is_br (fun _=>is_ret) (fun _=>is_ret)) (fun _=>is_br (fun _=>is_br (fun _=>is_ret) (fun _=>is_ret)) (fun _=>is_br (fun _=>is_br (fun _=>is_ret) (fun _=>is_ret)) (fun _=>is_br (fun _=>is_br (fun _=>is_ret) (fun _=>is_ret)) (fun _=>is_br (fun _=>is_br (fun _=>is_ret) (fun _=>is_ret)) (fun _=>is_br (fun _=>is_br (fun _=>is_ret) (fun _=>is_ret)) (fun _=>is_br (fun _=>is_br (fun _=>is_ret) (fun _=>is_ret)) (fun _=>is_br (fun _=>is_br (fun _=>is_ret) (fun _=>is_ret)) (fun _=>is_br (fun _=>is_br (fun _=>is_ret) (fun _=>is_ret)) (fun _=>is_br (fun _=>is_ret) (fun _=>is_ret)))))))))))))))))))))
def e_r6word:Ent Z:=entN Z [] [] (args (a1 (aLf cStr))) (argsI (n:=26) rfl) (shr [.slot 0 false [none]] (l1 cBool)) [] Tryz.func194 Tryz.ntmps194 (by kernel_rfl) 1 rfl (fun a=>r6word a) (fun a=>none) (fun a e _=>by kernel_rfl) (fun a=>r6wordP a) (fun a h=>⟨r6word_is a,rfl⟩)
def r6split (full:Str):Pg (List UInt8×List UInt8):=
 .lt (wrp .i64 ((↑(List.length full):Int) - 1)) fun(v4:Int)=>
  .wh (full.length+1) default
   (fun(x3:Int)=>
    .br (decide (0<=x3))
     (.ix x3 (List.length full)
      (.br ((↑(List.getD full x3.toNat 0).toNat:Int)==46)
       (.ob ((0:Int)<=0/\0<=x3/\x3<=(↑(List.length full):Int))
        (.lt (wrp .i64 (x3+1)) fun(v5:Int)=>
         .ob (0<=v5/\v5<=(↑(List.length full):Int)/\(↑(List.length full):Int)<=(↑(List.length full):Int))
          (.ret (.inr (List.take x3.toNat full,List.drop v5.toNat (List.take (List.length full) full))))))
       (.ret (.inl (wrp .i64 (x3 - 1))))))
     (.ret (.inr ([],full))))
   v4
def r6splitP (full:Str):Str×Str:=(r6split full).val
theorem r6split_is (full:Str)(h:full.length<=9223372036854775807):Is (r6split full):=
 by
 refine is_ltw fun v4 hv4 h4=>is_wh (fun x=> -1<=x/\x < full.length) (fun x=>(x+1).toNat) (by omega) (by omega) (fun x hx=>⟨is_brd (fun _=>is_ix (by omega) (by omega) (is_beq (fun _=>is_ob (by omega) (is_ltw fun v5 hv5 h5=>is_ob (by omega) (is_ret))) (fun _=>is_ret))) (fun _=>is_ret),fun x' hx'=> ?_⟩)
 revert hx'
 simp only[val_ix,val_br,val_lt,val_ob,val_ret,Bool.cond_eq_ite,decide_eq_true_eq]
 have w:0<=x->wrp .i64 (x - 1)=x - 1:=fun _=>wrp_in (k:= .i64) (by simp only[InR];omega)
 (repeat' split)<;>intro e<;>cases e<;>rw[w (by omega)]<;>omega
def e_r6split:Ent Z:=entN Z [] [jS 2 (shp (fun sl=>[.slot 4 false [none]]) (l1 (cInt .i64)))] (args (a1 (aLf cStr))) (argsI (n:=24) rfl) (shr [.slot 0 false [none], .slot 1 false [none]] (lCons cStr (l1 cStr))) [] Tryz.func193 Tryz.ntmps193 (by kernel_rfl) 2 rfl (fun a=>r6split a) (fun a=>some (a.length<=9223372036854775807)) (fun a e _=>by kernel_rfl) (fun a=>r6splitP a) (fun a h=>⟨r6split_is a h,rfl⟩)
def r6has (l:List Str)(s:Str):Pg Bool:=
 .each true ixI l [] (fun(i1:Int) (a3:Str) (y2:Unit)=> .ix i1 l.length (.br (a3==s) (.ret (.inr true)) (.ret (.inl ()))))
  (fun(i1:Int) (y2:Unit)=> .ret false) ()
def r6hasP (l:List Str)(s:Str):Bool:=(r6has l s).val
theorem r6has_is (l:List Str)(s:Str):Is (r6has l s):=
 is_each (.inl rfl) (fun i1 y2 _ _=>is_ix (by omega) (by omega) (is_br (fun _=>is_ret) (fun _=>is_ret))) (fun y2 _=>is_ret)
def e_r6has:Ent Z:=entN Z [] [jS 2 (shp (fun sl=>[.slot 5 false [none]]) (l1 (cInt .i64)))] (args (aCons (aLf cd_Lstr) (a1 (aLf cStr)))) (argsI (n:=18) rfl) (shr [.slot 0 false [none]] (l1 cBool)) [] Tryz.func126 Tryz.ntmps126 (by kernel_rfl) 1 rfl (fun a=>r6has (a.1) (a.2)) (fun a=>none) (fun a e _=>by kernel_rfl) (fun a=>r6hasP (a.1) (a.2)) (fun a h=>⟨r6has_is (a.1) (a.2),rfl⟩)
def r4is (k:Int):Pg Bool:=
 .br (decide (1<=k)) (.ret (decide (k<=9))) (.ret false)
def r4isP (k:Int):Bool:=(r4is k).val
theorem r4is_is (k:Int):Is (r4is k):=
 is_brd (fun _=>is_ret) (fun _=>is_ret)
def e_r4is:Ent Z:=entN Z [] [] (args (a1 (aLf (cInt .i64)))) (argsI (n:=9) rfl) (shr [.slot 0 false [none]] (l1 cBool)) [] Tryz.func263 Tryz.ntmps263 (by kernel_rfl) 1 rfl (fun a=>r4is a) (fun a=>none) (fun a e _=>by kernel_rfl) (fun a=>r4isP a) (fun a h=>⟨r4is_is a,rfl⟩)
def r4texts (k:Int):Pg Bool:=
 .br (k==7) (.ret true) (.ret (k==8))
def r4textsP (k:Int):Bool:=(r4texts k).val
theorem r4texts_is (k:Int):Is (r4texts k):=
 is_beq (fun _=>is_ret) (fun _=>is_ret)
def e_r4texts:Ent Z:=entN Z [] [] (args (a1 (aLf (cInt .i64)))) (argsI (n:=9) rfl) (shr [.slot 0 false [none]] (l1 cBool)) [] Tryz.func265 Tryz.ntmps265 (by kernel_rfl) 1 rfl (fun a=>r4texts a) (fun a=>none) (fun a e _=>by kernel_rfl) (fun a=>r4textsP a) (fun a h=>⟨r4texts_is a,rfl⟩)
def r4lone (v:AVal):Pg Bool:=
 .br ((↑v.List.length:Int)==0)
  (.br ((↑v.Pairs.length:Int)==0) (.br ((↑v.Slots.length:Int)==0) (.ret ((↑v.Raws.length:Int)==0)) (.ret false)) (.ret false))
  (.ret false)
def r4loneP (v:AVal):Bool:=(r4lone v).val
theorem r4lone_is (v:AVal):Is (r4lone v):=
 is_beq (fun _=>is_beq (fun _=>is_beq (fun _=>is_ret) (fun _=>is_ret)) (fun _=>is_ret)) (fun _=>is_ret)
def e_r4lone:Ent Z:=entN Z [] [] (args (a1 (aAgg cd_AVal))) (argsI (n:=25) rfl) (shr [.slot 0 false [none]] (l1 cBool)) [] Tryz.func264 Tryz.ntmps264 (by kernel_rfl) 1 rfl (fun a=>r4lone a) (fun a=>none) (fun a e _=>by kernel_rfl) (fun a=>r4loneP a) (fun a h=>⟨r4lone_is a,rfl⟩)
def r4fits (k:Int)(v:AVal):Pg Bool:=
 .br (!r4isP k) (.ret false)
  (.br (v.Kind !=k) (.ret false)
   (.br (!r4loneP v.re) (.ret false)
    (.br (r4textsP k)
     (.br (v.Bits==0)
      (.br (decide ((↑(List.length v.Text):Int)<=4096))
       (.br (k==8) (.ret true) (.ob (List.length v.Text<=9223372036854775700) (.ret (rvalidP v.Text)))) (.ret false))
      (.ret false))
     (.br (v.Text !=[]) (.ret false)
      (.br (k==1) (.ret (decide (v.Bits<=1)))
       (.br (k==2)
        (.lt (wrp .i64 v.Bits) fun(v1:Int)=> .br (decide ((-2147483648)<=v1)) (.ret (decide (v1<=2147483647))) (.ret false))
        (.br (k==4) (.ret (decide (v.Bits < 4294967296))) (.br (k==9) (.ret (decide (v.Bits < 2147483648))) (.ret true)))))))))
def r4fitsP (k:Int)(v:AVal):Bool:=(r4fits k v).val
theorem r4fits_is (k:Int)(v:AVal):Is (r4fits k v):=
 is_br (fun _=>is_ret) (fun _=>is_bne (fun _=>is_ret) (fun _=>is_br (fun _=>is_ret) (fun _=>is_br (fun _=>is_beq (fun _=>is_brd (fun _=>is_beq (fun _=>is_ret) (fun _=>is_ob (by(try subst_vars);(try simp only[List.length_append,List.length_cons,List.length_nil]);omega) (is_ret))) (fun _=>is_ret)) (fun _=>is_ret)) (fun _=>is_br (fun _=>is_ret) (fun _=>is_beq (fun _=>is_ret) (fun _=>is_beq (fun _=>is_ltw fun v1 hv1 _=>is_brd (fun _=>is_ret) (fun _=>is_ret)) (fun _=>is_beq (fun _=>is_ret) (fun _=>is_beq (fun _=>is_ret) (fun _=>is_ret)))))))))
def e_r4fits:Ent Z:=entN Z [e_rvalid,e_r4is,e_r4lone,e_r4texts] [] (args (aCons (aLf (cInt .i64)) (a1 (aAgg cd_AVal)))) (argsI (n:=70) rfl) (shr [.slot 0 false [none]] (l1 cBool)) [] Tryz.func197 Tryz.ntmps197 (by kernel_rfl) 1 rfl (fun a=>r4fits (a.1) (a.2)) (fun a=>none) (fun a e _=>by kernel_rfl) (fun a=>r4fitsP (a.1) (a.2)) (fun a h=>⟨r4fits_is (a.1) (a.2),rfl⟩)
def r4class (b:Int):Pg Int:=
 .ob ((9223372036854775808:Int)≠0)
  (.br (decide (9218868437227405312 < b.tmod 9223372036854775808)) (.ret 0)
   (.br (b.tmod (9223372036854775808:Int)==9218868437227405312) (.ret 1)
    (.br (b.tmod (9223372036854775808:Int)==0) (.ret 2)
     (.br (decide (b.tmod (9223372036854775808:Int) < 4503599627370496)) (.ret 3) (.ret 4)))))
def r4classP (b:Int):Int:=(r4class b).val
theorem r4class_is (b:Int):Is (r4class b):=
 is_ob (by omega) (is_brd (fun _=>is_ret) (fun _=>is_beq (fun _=>is_ret) (fun _=>is_beq (fun _=>is_ret) (fun _=>is_brd (fun _=>is_ret) (fun _=>is_ret)))))
def e_r4class:Ent Z:=entN Z [] [] (args (a1 (aLf (cInt .u64)))) (argsI (n:=18) rfl) (shr [.slot 0 false [none]] (l1 (cInt .i64))) [] Tryz.func266 Tryz.ntmps266 (by kernel_rfl) 1 rfl (fun a=>r4class a) (fun a=>none) (fun a e _=>by kernel_rfl) (fun a=>r4classP a) (fun a h=>⟨r4class_is a,rfl⟩)
def r4norm (v:AVal):Pg AVal:=
 .br (v.Kind==6) (.br (r4classP v.Bits==0) (.ret (AVal.mk v.Kind 9221120237041090560 v.Text v.List v.Pairs v.Slots v.Raws)) (.ret v.re))
  (.ret v.re)
def r4normP (v:AVal):AVal:=(r4norm v).val
theorem r4norm_is (v:AVal):Is (r4norm v):=
 is_beq (fun _=>is_beq (fun _=>is_ret) (fun _=>is_ret)) (fun _=>is_ret)
def e_r4norm:Ent Z:=entN Z [e_r4class] [] (args (a1 (aAgg cd_AVal))) (argsI (n:=14) rfl) (shr [.slot 0 true [none,none,none,none,none,none,none]] (l1 cd_AVal)) [] Tryz.func198 Tryz.ntmps198 (by kernel_rfl) 1 rfl (fun a=>r4norm a) (fun a=>none) (fun a e _=>by kernel_rfl) (fun a=>r4normP a) (fun a h=>⟨r4norm_is a,rfl⟩)
def r8kind (name:Str):Pg Int:=
 .cut
  (fun(y1:Bool)=>
   .br y1 (.ret 1)
    (.cut
     (fun(y2:Bool)=>
      .br y2 (.ret 7)
       (.cut
        (fun(y3:Bool)=>
         .br y3 (.ret 4)
          (.br (name==[109,105,110])
           (.br (name==[109,105,110]) (.ret 3) (.ret 0))
           (.br (name==[109,97,120]) (.ret 3) (.ret 0))))
        (.br (name==[115,105,110,99,101])
         (.ret (.inl (name==[115,105,110,99,101])))
         (.br (name==[117,110,116,105,108])
          (.ret (.inl (name==[117,110,116,105,108])))
          (.br (name==[108,101,110,103,116,104])
           (.ret (.inl (name==[108,101,110,103,116,104])))
           (.ret (.inl (name==[116,105,109,101,111,117,116]))))))))
     (.br (name==[100,111,99]) (.ret (.inl (name==[100,111,99])))
      (.br (name==[97,108,105,97,115])
       (.ret (.inl (name==[97,108,105,97,115])))
       (.br (name==[114,111,117,116,101])
        (.ret (.inl (name==[114,111,117,116,101])))
        (.ret (.inl (name==[111,119,110,101,114]))))))))
  (.br (name==[100,101,112,114,101,99,97,116,101,100])
   (.ret
    (.inl (name==[100,101,112,114,101,99,97,116,101,100])))
   (.br (name==[115,101,99,114,101,116])
    (.ret (.inl (name==[115,101,99,114,101,116])))
    (.ret
     (.inl
      (name==[105,100,101,109,112,111,116,101,110,116])))))
def r8kindP (name:Str):Int:=(r8kind name).val
theorem r8kind_is (name:Str):Is (r8kind name):=
 is_cut (is_br (fun _=>is_ret) (fun _=>is_br (fun _=>is_ret) (fun _=>is_ret))) (fun y1 hy1=>is_br (fun _=>is_ret) (fun _=>is_cut (is_br (fun _=>is_ret) (fun _=>is_br (fun _=>is_ret) (fun _=>is_br (fun _=>is_ret) (fun _=>is_ret)))) (fun y2 hy2=>is_br (fun _=>is_ret) (fun _=>is_cut (is_br (fun _=>is_ret) (fun _=>is_br (fun _=>is_ret) (fun _=>is_br (fun _=>is_ret) (fun _=>is_ret)))) (fun y3 hy3=>is_br (fun _=>is_ret) (fun _=>is_br (fun _=>is_br (fun _=>is_ret) (fun _=>is_ret)) (fun _=>is_br (fun _=>is_ret) (fun _=>is_ret))))))))
def e_r8kind:Ent Z:=entN Z [] [jS 100005 (shp (fun sl=>[.slot 4 false [none]]) (l1 cBool)),jS 100010 (shp (fun sl=>[.slot 8 false [none]]) (l1 cBool)),jS 100015 (shp (fun sl=>[.slot 13 false [none]]) (l1 cBool))] (args (a1 (aLf cStr))) (argsI (n:=21) rfl) (shr [.slot 0 false [none]] (l1 (cInt .i64))) [] Tryz.func267 Tryz.ntmps267 (by kernel_rfl) 1 rfl (fun a=>r8kind a) (fun a=>none) (fun a e _=>by kernel_rfl) (fun a=>r8kindP a) (fun a h=>⟨r8kind_is a,rfl⟩)
def r8fits (name:Str)(target:Int):Pg Bool:=
 .cut
  (fun(y1:Bool)=>
   .br y1 (.br (decide (1<=target)) (.ret (decide (target<=6))) (.ret false))
    (.cut
     (fun(y2:Bool)=>
      .br y2 (.br (target==2) (.ret true) (.br (target==4) (.ret true) (.ret (target==6))))
       (.cut
        (fun(y3:Bool)=>
         .br y3 (.ret (target==2))
          (.br
           (name==[105,100,101,109,112,111,116,101,110,116])
           (.br
            (name==
             [105,100,101,109,112,111,116,101,110,116])
            (.ret (target==6)) (.br (target==1) (.ret true) (.ret (target==5))))
           (.br (name==[116,105,109,101,111,117,116])
            (.br (name==[116,105,109,101,111,117,116]) (.ret (target==6))
             (.br (target==1) (.ret true) (.ret (target==5))))
            (.br (name==[114,111,117,116,101]) (.ret (target==6))
             (.br (target==1) (.ret true) (.ret (target==5)))))))
        (.br (name==[109,105,110]) (.ret (.inl (name==[109,105,110])))
         (.br (name==[109,97,120]) (.ret (.inl (name==[109,97,120])))
          (.br (name==[108,101,110,103,116,104])
           (.ret (.inl (name==[108,101,110,103,116,104])))
           (.ret (.inl (name==[115,101,99,114,101,116]))))))))
     (.br (name==[97,108,105,97,115])
      (.ret (.inl (name==[97,108,105,97,115])))
      (.br (name==[115,105,110,99,101])
       (.ret (.inl (name==[115,105,110,99,101])))
       (.ret (.inl (name==[117,110,116,105,108])))))))
  (.br (name==[100,101,112,114,101,99,97,116,101,100])
   (.ret
    (.inl (name==[100,101,112,114,101,99,97,116,101,100])))
   (.ret (.inl (name==[100,111,99]))))
def r8fitsP (name:Str)(target:Int):Bool:=(r8fits name target).val
theorem r8fits_is (name:Str)(target:Int):Is (r8fits name target):=
 is_cut (is_br (fun _=>is_ret) (fun _=>is_ret)) (fun y1 hy1=>is_br (fun _=>is_brd (fun _=>is_ret) (fun _=>is_ret)) (fun _=>is_cut (is_br (fun _=>is_ret) (fun _=>is_br (fun _=>is_ret) (fun _=>is_ret))) (fun y2 hy2=>is_br (fun _=>is_beq (fun _=>is_ret) (fun _=>is_beq (fun _=>is_ret) (fun _=>is_ret))) (fun _=>is_cut (is_br (fun _=>is_ret) (fun _=>is_br (fun _=>is_ret) (fun _=>is_br (fun _=>is_ret) (fun _=>is_ret)))) (fun y3 hy3=>is_br (fun _=>is_ret) (fun _=>is_br (fun _=>is_br (fun _=>is_ret) (fun _=>is_beq (fun _=>is_ret) (fun _=>is_ret))) (fun _=>is_br (fun _=>is_br (fun _=>is_ret) (fun _=>is_beq (fun _=>is_ret) (fun _=>is_ret))) (fun _=>is_br (fun _=>is_ret) (fun _=>is_beq (fun _=>is_ret) (fun _=>is_ret))))))))))
def e_r8fits:Ent Z:=entN Z [] [jS 100004 (shp (fun sl=>[.slot 6 false [none]]) (l1 cBool)),jS 100008 (shp (fun sl=>[.slot 15 false [none]]) (l1 cBool)),jS 100013 (shp (fun sl=>[.slot 29 false [none]]) (l1 cBool))] (args (aCons (aLf cStr) (a1 (aLf (cInt .i64))))) (argsI (n:=48) rfl) (shr [.slot 0 false [none]] (l1 cBool)) [] Tryz.func268 Tryz.ntmps268 (by kernel_rfl) 1 rfl (fun a=>r8fits (a.1) (a.2)) (fun a=>none) (fun a e _=>by kernel_rfl) (fun a=>r8fitsP (a.1) (a.2)) (fun a h=>⟨r8fits_is (a.1) (a.2),rfl⟩)
def r8right (n:Note):Pg Bool:=
 .lt (r8kindP n.Name) fun(v1:Int)=> .br (v1 !=0) (.br (n.Val.Kind==v1) (.ret (r4fitsP v1 n.Val.re)) (.ret false)) (.ret false)
def r8rightP (n:Note):Bool:=(r8right n).val
theorem r8right_is (n:Note):Is (r8right n):=
 is_lt fun v1 hv1=>is_bne (fun _=>is_beq (fun _=>is_ret) (fun _=>is_ret)) (fun _=>is_ret)
def e_r8right:Ent Z:=entN Z [e_r4fits,e_r8kind] [] (args (a1 (aAgg cd_Note))) (argsI (n:=22) rfl) (shr [.slot 0 false [none]] (l1 cBool)) [] Tryz.func269 Tryz.ntmps269 (by kernel_rfl) 1 rfl (fun a=>r8right a) (fun a=>none) (fun a e _=>by kernel_rfl) (fun a=>r8rightP a) (fun a h=>⟨r8right_is a,rfl⟩)
def r8check (l:List Note)(target:Int):Pg Int:=
 .br (decide (8 < (↑l.length:Int))) (.ret 3)
  (.each true ixI l d_Note
   (fun(i1:Int) (a4:Note) (y2:Unit)=>
    .ix i1 l.length
     (.br (r8kindP a4.Name==0) (.ret (.inr 8))
      (.ix i1 l.length
       (.br (!r8fitsP a4.Name target) (.ret (.inr 1))
        (.ix i1 l.length
         (.br (!r8rightP (Note.mk a4.Name a4.Val.re)) (.ret (.inr 12))
          (.lt (wrp .i64 (i1 - 1)) fun(v5:Int)=>
           .cut
            (fun(y3:Unit)=>
             .br (decide (0 < i1))
              (.ix i1 l.length (.ix v5 l.length (.br (a4.Name==(l.getD v5.toNat d_Note).Name) (.ret (.inr 9)) (.ret (.inl ())))))
              (.ret (.inl ())))
            (.br (decide (0 < i1))
             (.ix i1 l.length
              (.ix v5 l.length (.br (Op.bytesLess a4.Name (l.getD v5.toNat d_Note).Name) (.ret (.inr (.inr 11))) (.ret (.inl ())))))
             (.ret (.inl ()))))))))))
   (fun(i1:Int) (y2:Unit)=> .ret 0) ())
def r8checkP (l:List Note)(target:Int):Int:=(r8check l target).val
theorem r8check_is (l:List Note)(target:Int):Is (r8check l target):=
 is_brd (fun _=>is_ret) (fun _=>is_each (.inl rfl) (fun i1 y2 _ _=>is_ix (by omega) (by omega) (is_beq (fun _=>is_ret) (fun _=>is_ix (by omega) (by omega) (is_br (fun _=>is_ret) (fun _=>is_ix (by omega) (by omega) (is_br (fun _=>is_ret) (fun _=>is_ltw fun v5 hv5 _=>is_cut (is_brd (fun _=>is_ix (by omega) (by omega) (is_ix (by omega) (by omega) (is_br (fun _=>is_ret) (fun _=>is_ret)))) (fun _=>is_ret)) (fun y3 hy3=>is_brd (fun _=>is_ix (by omega) (by omega) (is_ix (by omega) (by omega) (is_br (fun _=>is_ret) (fun _=>is_ret)))) (fun _=>is_ret))))))))) (fun y2 _=>is_ret))
def e_r8check:Ent Z:=entN Z [e_r8kind,e_r8fits,e_r8right] [jS 4 (shp (fun sl=>[.slot 5 false [none]]) (l1 (cInt .i64))),jS 100014 (shp (fun sl=>[]) l0)] (args (aCons (aLf cd_LNote) (a1 (aLf (cInt .i64))))) (argsI (n:=68) rfl) (shr [.slot 0 false [none]] (l1 (cInt .i64))) [] Tryz.func199 Tryz.ntmps199 (by kernel_rfl) 1 rfl (fun a=>r8check (a.1) (a.2)) (fun a=>none) (fun a e _=>by kernel_rfl) (fun a=>r8checkP (a.1) (a.2)) (fun a h=>⟨r8check_is (a.1) (a.2),rfl⟩)
theorem r6split_len (s:Str)(h:s.length<=9223372036854775807):(r6splitP s).1.length<=s.length:=by
 unfold r6splitP r6split
 simp only[val_lt,val_wh,val_br,val_ix,val_ob,val_ret]
 have w0:wrp .i64 ((s.length:Int) - 1)=(s.length:Int) - 1:=wrp_in (k:= .i64) (by simp only[InR];omega)
 rw[w0]
 refine whN_post (fun(x:Int)=> -1<=x/\x < s.length) (fun(x:Int)=>(x+1).toNat) (fun(r:Str×Str)=>r.1.length<=s.length) (fun x hx=> ?_) _ _ (by omega) (by omega)
 by_cases h0:0<=x
 ·simp only[h0,decide_true,cond_true]
  cases((s.getD x.toNat 0).toNat:Int)==46 with
  | true=>exact .inr ⟨_,rfl,by simp[List.length_take];omega⟩
  | false=>exact .inl ⟨_,rfl,by rw[wrp_in (k:= .i64) (by simp only[InR];omega)];omega,by rw[wrp_in (k:= .i64) (by simp only[InR];omega)];omega⟩
 ·simp only[h0,decide_false,cond_false]
  exact .inr ⟨_,rfl,by simp⟩
def r9usable (s:Str):Pg Bool:=
 .br (!r6fullP s) (.ret false)
  (.cnt ixP 0 120
   (fun(i1:Int) (y2:List UInt8)=>
    .br (y2 !=[])
     (.ob (y2.length<=9223372036854775807) (.lt (r6splitP y2) fun(v3:Str×Str)=> .br (r6wordP v3.snd) (.ret (.inr false)) (.ret (.inl v3.fst))))
     (.ret (.inr true)))
   (fun(i1:Int) (y2:List UInt8)=> .ret true) s)
def r9usableP (s:Str):Bool:=(r9usable s).val
theorem r9usable_is (s:Str)(h:s.length<=9223372036854775807):Is (r9usable s):=
 by
 refine is_br (fun _=>is_ret) (fun _=>is_cntI (fun _ y=>y.length<=9223372036854775807) h (by omega) (by omega) (fun i1 y2 _ _ hI=>⟨is_br (fun _=>is_ob hI (is_lt fun v3 hv3=>is_br (fun _=>is_ret) (fun _=>is_ret))) (fun _=>is_ret),fun y' hy'=> ?_⟩) (fun i1 y2 _ _ _=>is_ret))
 revert hy'
 simp only[val_br,val_ob,val_lt,val_ret,Bool.cond_eq_ite]
 have:=r6split_len y2 hI
 (repeat' split)<;>intro e<;>cases e<;>omega
def e_r9usable:Ent Z:=entN Z [e_r6full,e_r6split,e_r6word] [jS 4 (shp (fun sl=>[.slot 3 false [none], .slot 0 false [none]]) (lCons (cInt .i64) (l1 cStr)))] (args (a1 (aLf cStr))) (argsI (n:=25) rfl) (shr [.slot 0 false [none]] (l1 cBool)) [] Tryz.func128 Tryz.ntmps128 (by kernel_rfl) 1 rfl (fun a=>r9usable a) (fun a=>some (a.length<=9223372036854775807)) (fun a e _=>by kernel_rfl) (fun a=>r9usableP a) (fun a h=>⟨r9usable_is a h,rfl⟩)
def r9part (s:Str):Pg Bool:=
 .br (r6partP s) (.ret !r6wordP s) (.ret false)
def r9partP (s:Str):Bool:=(r9part s).val
theorem r9part_is (s:Str):Is (r9part s):=
 is_br (fun _=>is_ret) (fun _=>is_ret)
def e_r9part:Ent Z:=entN Z [e_r6part,e_r6word] [] (args (a1 (aLf cStr))) (argsI (n:=10) rfl) (shr [.slot 0 false [none]] (l1 cBool)) [] Tryz.func129 Tryz.ntmps129 (by kernel_rfl) 1 rfl (fun a=>r9part a) (fun a=>none) (fun a e _=>by kernel_rfl) (fun a=>r9partP a) (fun a h=>⟨r9part_is a,rfl⟩)
def r9same (a:AVal)(b:AVal):Pg Bool:=
 .br (a.Kind==b.Kind)
  (.br (a.Bits==b.Bits)
   (.br (a.Text==b.Text)
    (.as (a.List.length<=9223372036854775807)
     (.as (a.Pairs.length<=9223372036854775807)
      (.as (a.Slots.length<=9223372036854775807)
       (.as (a.Raws.length<=9223372036854775807)
        (.as (b.List.length<=9223372036854775807)
         (.as (b.Pairs.length<=9223372036854775807)
          (.as (b.Slots.length<=9223372036854775807)
           (.as (b.Raws.length<=9223372036854775807)
            (.ret
             (wrp .i64
               (wrp .i64
                 (wrp .i64
                   (wrp .i64
                     (wrp .i64
                       (wrp .i64 (wrp .i64 ((↑a.List.length:Int)+(↑a.Pairs.length:Int))+(↑a.Slots.length:Int))+
                        (↑a.Raws.length:Int))+
                      (↑b.List.length:Int))+
                    (↑b.Pairs.length:Int))+
                  (↑b.Slots.length:Int))+
                (↑b.Raws.length:Int))==
              0))))))))))
    (.ret false))
   (.ret false))
  (.ret false)
def r9sameP (a:AVal)(b:AVal):Bool:=(r9same a b).val
theorem r9same_is (a:AVal)(b:AVal):Is (r9same a b):=
 is_beq (fun _=>is_beq (fun _=>is_br (fun _=>is_as fun _=>is_as fun _=>is_as fun _=>is_as fun _=>is_as fun _=>is_as fun _=>is_as fun _=>is_as fun _=>is_ret) (fun _=>is_ret)) (fun _=>is_ret)) (fun _=>is_ret)
def e_r9same:Ent Z:=entN Z [] [] (args (aCons (aAgg cd_AVal) (a1 (aAgg cd_AVal)))) (argsI (n:=58) rfl) (shr [.slot 0 false [none]] (l1 cBool)) [] Tryz.func196 Tryz.ntmps196 (by kernel_rfl) 1 rfl (fun a=>r9same (a.1) (a.2)) (fun a=>none) (fun a e _=>by kernel_rfl) (fun a=>r9sameP (a.1) (a.2)) (fun a h=>⟨r9same_is (a.1) (a.2),rfl⟩)
end
end Go.Proofs.YtiibcbmenoaigaaGreatDoor
