/- Server: scalars and annotations. -/
import Derived.Test.YtiibcbmenoaigaaGreatDoorK
namespace Go.Proofs.YtiibcbmenoaigaaGreatDoor
noncomputable section
open Go.RowKit Go.Vc
set_option linter.unusedVariables false
set_option linter.unusedSimpArgs false
set_option maxRecDepth 100000
def sIs (k:Int):Pg Bool:=
 .br (decide (1<=k)) (.ret (decide (k<=9))) (.ret false)
def sIsP (k:Int):Bool:=(sIs k).val
theorem sIs_is (k:Int):Is (sIs k):=
 is_brd (fun _=>is_ret) (fun _=>is_ret)
def e_sIs:Ent Z:=entN Z [] [] (args (a1 (aLf (cInt .i64)))) (argsI (n:=9) rfl) (shr [.slot 0 false [none]] (l1 cBool)) [] Tryz.func353 Tryz.ntmps353 (by kernel_rfl) 1 rfl (fun a=>sIs a) (fun a=>none) (fun a e _=>by kernel_rfl) (fun a=>sIsP a) (fun a h=>⟨sIs_is a,rfl⟩)
def sTexty (k:Int):Pg Bool:=
 .br (k==7) (.ret true) (.ret (k==8))
def sTextyP (k:Int):Bool:=(sTexty k).val
theorem sTexty_is (k:Int):Is (sTexty k):=
 is_beq (fun _=>is_ret) (fun _=>is_ret)
def e_sTexty:Ent Z:=entN Z [] [] (args (a1 (aLf (cInt .i64)))) (argsI (n:=9) rfl) (shr [.slot 0 false [none]] (l1 cBool)) [] Tryz.func410 Tryz.ntmps410 (by kernel_rfl) 1 rfl (fun a=>sTexty a) (fun a=>none) (fun a e _=>by kernel_rfl) (fun a=>sTextyP a) (fun a h=>⟨sTexty_is a,rfl⟩)
def sLean (v:AVal):Pg Bool:=
 .as (v.List.length<=9223372036854775807)
  (.as (v.Pairs.length<=9223372036854775807)
   (.as (v.Slots.length<=9223372036854775807)
    (.as (v.Raws.length<=9223372036854775807)
     (.lt (wrp .i64 (wrp .i64 (wrp .i64 ((↑v.List.length:Int)+(↑v.Pairs.length:Int))+(↑v.Slots.length:Int))+(↑v.Raws.length:Int)))
      fun(v1:Int)=> .br (decide (0 < v1)) (.ret false) (.br (sTextyP v.Kind) (.ret (v.Bits==0)) (.ret (v.Text==[])))))))
def sLeanP (v:AVal):Bool:=(sLean v).val
theorem sLean_is (v:AVal):Is (sLean v):=
 is_as fun _=>is_as fun _=>is_as fun _=>is_as fun _=>is_ltw fun v1 hv1 _=>is_brd (fun _=>is_ret) (fun _=>is_br (fun _=>is_ret) (fun _=>is_ret))
def e_sLean:Ent Z:=entN Z [e_sTexty] [] (args (a1 (aAgg cd_AVal))) (argsI (n:=28) rfl) (shr [.slot 0 false [none]] (l1 cBool)) [] Tryz.func354 Tryz.ntmps354 (by kernel_rfl) 1 rfl (fun a=>sLean a) (fun a=>none) (fun a e _=>by kernel_rfl) (fun a=>sLeanP a) (fun a h=>⟨sLean_is a,rfl⟩)
def sWithin (k:Int)(b:Int):Pg Bool:=
 .br (k==1) (.ret (decide (b<=1)))
  (.br (k==2) (.lt (wrp .i64 b) fun(v1:Int)=> .br (decide ((-2147483648)<=v1)) (.ret (decide (v1<=2147483647))) (.ret false))
   (.br (k==9) (.ret (decide (b<=2147483647))) (.br (k==4) (.ret (decide (b<=4294967295))) (.ret true))))
def sWithinP (k:Int)(b:Int):Bool:=(sWithin k b).val
theorem sWithin_is (k:Int)(b:Int):Is (sWithin k b):=
 is_beq (fun _=>is_ret) (fun _=>is_beq (fun _=>is_ltw fun v1 hv1 _=>is_brd (fun _=>is_ret) (fun _=>is_ret)) (fun _=>is_beq (fun _=>is_ret) (fun _=>is_beq (fun _=>is_ret) (fun _=>is_ret))))
def e_sWithin:Ent Z:=entN Z [] [] (args (aCons (aLf (cInt .i64)) (a1 (aLf (cInt .u64))))) (argsI (n:=28) rfl) (shr [.slot 0 false [none]] (l1 cBool)) [] Tryz.func355 Tryz.ntmps355 (by kernel_rfl) 1 rfl (fun a=>sWithin (a.1) (a.2)) (fun a=>none) (fun a e _=>by kernel_rfl) (fun a=>sWithinP (a.1) (a.2)) (fun a h=>⟨sWithin_is (a.1) (a.2),rfl⟩)
def sFits (k:Int)(v:AVal):Pg Bool:=
 .br (!sIsP k) (.ret false)
  (.br (v.Kind !=k) (.ret false)
   (.br (!sLeanP v.re) (.ret false)
    (.br (!sWithinP k v.Bits) (.ret false)
     (.br (decide (4096 < (↑(List.length v.Text):Int))) (.ret false)
      (.br (k !=7) (.ret true) (.ob (List.length v.Text<=9223372036854775700) (.ret (uvalidP v.Text))))))))
def sFitsP (k:Int)(v:AVal):Bool:=(sFits k v).val
theorem sFits_is (k:Int)(v:AVal):Is (sFits k v):=
 is_br (fun _=>is_ret) (fun _=>is_bne (fun _=>is_ret) (fun _=>is_br (fun _=>is_ret) (fun _=>is_br (fun _=>is_ret) (fun _=>is_brd (fun _=>is_ret) (fun _=>is_bne (fun _=>is_ret) (fun _=>is_ob (by(try subst_vars);(try simp only[List.length_append,List.length_cons,List.length_nil]);omega) (is_ret)))))))
def e_sFits:Ent Z:=entN Z [e_uvalid,e_sIs,e_sLean,e_sWithin] [] (args (aCons (aLf (cInt .i64)) (a1 (aAgg cd_AVal)))) (argsI (n:=39) rfl) (shr [.slot 0 false [none]] (l1 cBool)) [] Tryz.func248 Tryz.ntmps248 (by kernel_rfl) 1 rfl (fun a=>sFits (a.1) (a.2)) (fun a=>none) (fun a e _=>by kernel_rfl) (fun a=>sFitsP (a.1) (a.2)) (fun a h=>⟨sFits_is (a.1) (a.2),rfl⟩)
def sClass (b:Int):Pg Int:=
 .br (andI .u64 b (9218868437227405312:Int)==9218868437227405312)
  (.br (andI .u64 b (4503599627370495:Int) !=0) (.ret 0)
   (.br (andI .u64 b (9218868437227405312:Int)==9218868437227405312) (.ret 1)
    (.br (andI .u64 b (9218868437227405312:Int)==0)
     (.br (andI .u64 b (4503599627370495:Int)==0) (.ret 2)
      (.br (andI .u64 b (9218868437227405312:Int)==0) (.ret 3) (.ret 4)))
     (.br (andI .u64 b (9218868437227405312:Int)==0) (.ret 3) (.ret 4)))))
  (.br (andI .u64 b (9218868437227405312:Int)==9218868437227405312) (.ret 1)
   (.br (andI .u64 b (9218868437227405312:Int)==0)
    (.br (andI .u64 b (4503599627370495:Int)==0) (.ret 2)
     (.br (andI .u64 b (9218868437227405312:Int)==0) (.ret 3) (.ret 4)))
    (.br (andI .u64 b (9218868437227405312:Int)==0) (.ret 3) (.ret 4))))
def sClassP (b:Int):Int:=(sClass b).val
theorem sClass_is (b:Int):Is (sClass b):=
 is_beq (fun _=>is_bne (fun _=>is_ret) (fun _=>is_beq (fun _=>is_ret) (fun _=>is_beq (fun _=>is_beq (fun _=>is_ret) (fun _=>is_beq (fun _=>is_ret) (fun _=>is_ret))) (fun _=>is_beq (fun _=>is_ret) (fun _=>is_ret))))) (fun _=>is_beq (fun _=>is_ret) (fun _=>is_beq (fun _=>is_beq (fun _=>is_ret) (fun _=>is_beq (fun _=>is_ret) (fun _=>is_ret))) (fun _=>is_beq (fun _=>is_ret) (fun _=>is_ret))))
def e_sClass:Ent Z:=entN Z [] [] (args (a1 (aLf (cInt .u64)))) (argsI (n:=29) rfl) (shr [.slot 0 false [none]] (l1 (cInt .i64))) [] Tryz.func356 Tryz.ntmps356 (by kernel_rfl) 1 rfl (fun a=>sClass a) (fun a=>none) (fun a e _=>by kernel_rfl) (fun a=>sClassP a) (fun a h=>⟨sClass_is a,rfl⟩)
def sNorm (v:AVal):Pg AVal:=
 .br (v.Kind==6) (.br (sClassP v.Bits==0) (.ret (AVal.mk v.Kind 9221120237041090560 v.Text v.List v.Pairs v.Slots v.Raws)) (.ret v.re))
  (.ret v.re)
def sNormP (v:AVal):AVal:=(sNorm v).val
theorem sNorm_is (v:AVal):Is (sNorm v):=
 is_beq (fun _=>is_beq (fun _=>is_ret) (fun _=>is_ret)) (fun _=>is_ret)
def e_sNorm:Ent Z:=entN Z [e_sClass] [] (args (a1 (aAgg cd_AVal))) (argsI (n:=14) rfl) (shr [.slot 0 true [none,none,none,none,none,none,none]] (l1 cd_AVal)) [] Tryz.func249 Tryz.ntmps249 (by kernel_rfl) 1 rfl (fun a=>sNorm a) (fun a=>none) (fun a e _=>by kernel_rfl) (fun a=>sNormP a) (fun a h=>⟨sNorm_is a,rfl⟩)
def nKnown:Pg (List (Str×note_rule)):=
 .ret
  (kvPut
   (kvPut
    (kvPut
     (kvPut
      (kvPut
       (kvPut
        (kvPut
         (kvPut
          (kvPut
           (kvPut
            (kvPut
             (kvPut
              (kvPut []
               [100,101,112,114,101,99,97,116,101,100]
               (note_rule.mk 1 126))
              [100,111,99] (note_rule.mk 7 126))
             [97,108,105,97,115] (note_rule.mk 7 84))
            [115,105,110,99,101] (note_rule.mk 4 84))
           [117,110,116,105,108] (note_rule.mk 4 84))
          [109,105,110] (note_rule.mk 3 4))
         [109,97,120] (note_rule.mk 3 4))
        [108,101,110,103,116,104] (note_rule.mk 4 4))
       [115,101,99,114,101,116] (note_rule.mk 1 4))
      [105,100,101,109,112,111,116,101,110,116]
      (note_rule.mk 1 64))
     [116,105,109,101,111,117,116] (note_rule.mk 4 64))
    [114,111,117,116,101] (note_rule.mk 7 64))
   [111,119,110,101,114] (note_rule.mk 7 34))
def nKnownP:List (Str×note_rule):=(nKnown).val
theorem nKnown_is:Is (nKnown):=
 is_ret
def e_nKnown:Ent Z:=entN Z [] [] (args a0) (argsI (n:=16) rfl) (shr [.slot 0 false [none]] (l1 cd_Mstr_note_rule)) [] Tryz.func357 Tryz.ntmps357 (by kernel_rfl) 1 rfl (fun a=>nKnown) (fun a=>none) (fun a e _=>by kernel_rfl) (fun a=>nKnownP) (fun a h=>⟨nKnown_is,rfl⟩)
def nKind (name:Str):Pg Int:=
 .ret (kvGet kv_Mstr_note_rule.z nKnownP name).kind
def nKindP (name:Str):Int:=(nKind name).val
theorem nKind_is (name:Str):Is (nKind name):=
 is_ret
def e_nKind:Ent Z:=entN Z [e_nKnown] [] (args (a1 (aLf cStr))) (argsI (n:=7) rfl) (shr [.slot 0 false [none]] (l1 (cInt .i64))) [] Tryz.func411 Tryz.ntmps411 (by kernel_rfl) 1 rfl (fun a=>nKind a) (fun a=>none) (fun a e _=>by kernel_rfl) (fun a=>nKindP a) (fun a h=>⟨nKind_is a,rfl⟩)
def nRight (n:Note):Pg Bool:=
 .lt (nKindP n.Name) fun(v1:Int)=> .br (v1 !=0) (.ret (sFitsP v1 n.Val.re)) (.ret false)
def nRightP (n:Note):Bool:=(nRight n).val
theorem nRight_is (n:Note):Is (nRight n):=
 is_lt fun v1 hv1=>is_bne (fun _=>is_ret) (fun _=>is_ret)
def e_nRight:Ent Z:=entN Z [e_sFits,e_nKind] [] (args (a1 (aAgg cd_Note))) (argsI (n:=15) rfl) (shr [.slot 0 false [none]] (l1 cBool)) [] Tryz.func358 Tryz.ntmps358 (by kernel_rfl) 1 rfl (fun a=>nRight a) (fun a=>none) (fun a e _=>by kernel_rfl) (fun a=>nRightP a) (fun a h=>⟨nRight_is a,rfl⟩)
def nOne (n:Note)(target:Int)(last:Str)(ok:Bool):Pg Int:=
 .br (!(mpOf kv_Mstr_note_rule D.Mstr_note_rule nKnownP).has (Pv.str n.Name)) (.ret 8)
  (.cut
   (fun(y1:Bool)=>
    .br y1 (.ret 1)
     (.br (!nRightP (Note.mk n.Name n.Val.re)) (.ret 12)
      (.br ok (.br (Op.bytesLess n.Name last) (.ret 11) (.br ok (.br (n.Name==last) (.ret 9) (.ret 0)) (.ret 0)))
       (.br ok (.br (n.Name==last) (.ret 9) (.ret 0)) (.ret 0)))))
   (.br (decide (target < 1)) (.ret (.inl true))
    (.br (decide (6 < target)) (.ret (.inl true))
     (.ob (0<=target) (.ret (.inl (andI .i64 (shrI .i64 (kvGet kv_Mstr_note_rule.z nKnownP n.Name).targets target) (1:Int)==0)))))))
def nOneP (n:Note)(target:Int)(last:Str)(ok:Bool):Int:=(nOne n target last ok).val
theorem nOne_is (n:Note)(target:Int)(last:Str)(ok:Bool):Is (nOne n target last ok):=
 is_br (fun _=>is_ret) (fun _=>is_cut (is_brd (fun _=>is_ret) (fun _=>is_brd (fun _=>is_ret) (fun _=>is_ob (by omega) (is_ret)))) (fun y1 hy1=>is_br (fun _=>is_ret) (fun _=>is_br (fun _=>is_ret) (fun _=>is_br (fun _=>is_br (fun _=>is_ret) (fun _=>is_br (fun _=>is_br (fun _=>is_ret) (fun _=>is_ret)) (fun _=>is_ret))) (fun _=>is_br (fun _=>is_br (fun _=>is_ret) (fun _=>is_ret)) (fun _=>is_ret))))))
def e_nOne:Ent Z:=entN Z [e_nKnown,e_nRight] [jS 100005 (shp (fun sl=>[.slot 21 false [none]]) (l1 cBool))] (args (aCons (aAgg cd_Note) (aCons (aLf (cInt .i64)) (aCons (aLf cStr) (a1 (aLf cBool)))))) (argsI (n:=56) rfl) (shr [.slot 0 false [none]] (l1 (cInt .i64))) [] Tryz.func251 Tryz.ntmps251 (by kernel_rfl) 1 rfl (fun a=>nOne (a.1) (a.2.1) (a.2.2.1) (a.2.2.2)) (fun a=>none) (fun a e _=>by kernel_rfl) (fun a=>nOneP (a.1) (a.2.1) (a.2.2.1) (a.2.2.2)) (fun a h=>⟨nOne_is (a.1) (a.2.1) (a.2.2.1) (a.2.2.2),rfl⟩)
def nCheck (l:List Note)(target:Int):Pg Int:=
 .br (decide (8 < (↑l.length:Int))) (.ret 3)
  (.as (l.length<=9223372036854775807)
   (.each false ixP l d_Note
    (fun(i1:Int) (a3:Note) (y2:List UInt8)=>
     .ix i1 l.length
      (.lt (nOneP (Note.mk a3.Name a3.Val.re) target y2 (decide (0 < i1))) fun(v4:Int)=>
       .br (v4 !=0) (.ret (.inr v4)) (.ret (.inl a3.Name))))
    (fun(i1:Int) (y2:List UInt8)=> .ret 0) []))
def nCheckP (l:List Note)(target:Int):Int:=(nCheck l target).val
theorem nCheck_is (l:List Note)(target:Int):Is (nCheck l target):=
 is_brd (fun _=>is_ret) (fun _=>is_as fun _=>is_each (.inr (by omega)) (fun i1 y2 _ _=>is_ix (by omega) (by omega) (is_lt fun v4 hv4=>is_bne (fun _=>is_ret) (fun _=>is_ret))) (fun y2 _=>is_ret))
def e_nCheck:Ent Z:=entN Z [e_nOne] [jS 5 (shp (fun sl=>[.slot 14 false [none], .slot 5 false [none]]) (lCons (cInt .i64) (l1 cStr)))] (args (aCons (aLf cd_LNote) (a1 (aLf (cInt .i64))))) (argsI (n:=31) rfl) (shr [.slot 0 false [none]] (l1 (cInt .i64))) [] Tryz.func172 Tryz.ntmps172 (by kernel_rfl) 1 rfl (fun a=>nCheck (a.1) (a.2)) (fun a=>none) (fun a e _=>by kernel_rfl) (fun a=>nCheckP (a.1) (a.2)) (fun a h=>⟨nCheck_is (a.1) (a.2),rfl⟩)
end
end Go.Proofs.YtiibcbmenoaigaaGreatDoor
