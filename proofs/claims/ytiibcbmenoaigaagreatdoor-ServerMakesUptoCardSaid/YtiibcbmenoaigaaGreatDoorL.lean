/- Server: methods, fields, handlers. -/
import Derived.Test.YtiibcbmenoaigaaGreatDoorJb
import Derived.Test.YtiibcbmenoaigaaGreatDoorW
namespace Go.Proofs.YtiibcbmenoaigaaGreatDoor
noncomputable section
open Go.RowKit Go.Vc
set_option linter.unusedVariables false
set_option linter.unusedSimpArgs false
set_option maxRecDepth 100000
def fsMC (x:Message)(name:Str):Pg Bool:=
 .ret (x.Name==name)
def fsMCP (x:Message)(name:Str):Bool:=(fsMC x name).val
theorem fsMC_is (x:Message)(name:Str):Is (fsMC x name):=
 is_ret
def e_fsMC:Ent Z:=entN Z [] [] (argsB (aCons (aAgg cd_Message) (a1 (aPtr 0))) (b1 (bCells cStr))) (argsBI (n:=8) rfl) (shr [.slot 0 false [none]] (l1 cBool)) [0] Tryz.func123 Tryz.ntmps123 (by kernel_rfl) 1 rfl (fun a=>fsMC (a.1.1) (a.2)) (fun a=>none) (fun a e _=>by kernel_rfl) (fun a=>fsMCP (a.1.1) (a.2)) (fun a h=>⟨fsMC_is (a.1.1) (a.2),rfl⟩)
def fsM (l:List Message)(name:Str):Pg (Message×Bool):=
 .as (l.length<=9223372036854775807)
  (.each false ixI l d_Message (fun(i1:Int) (a3:Message) (y2:Unit)=> .ix i1 l.length (.br (fsMCP a3 name) (.ret (.inr (a3,true))) (.ret (.inl ()))))
   (fun(i1:Int) (y2:Unit)=> .ret (Message.mk [] [] [] [] [],false)) ())
def fsMP (l:List Message)(name:Str):Message×Bool:=(fsM l name).val
theorem fsM_is (l:List Message)(name:Str):Is (fsM l name):=
 is_as fun _=>is_each (.inr (by omega)) (fun i1 y2 _ _=>is_ix (by omega) (by omega) (is_br (fun _=>is_ret) (fun _=>is_ret))) (fun y2 _=>is_ret)
def e_fsM:Ent Z:=entN Z [e_fsMC] [jS 2 (shp (fun sl=>[.slot 11 false [none]]) (l1 (cInt .i64)))] (argsB (aCons (aLf cd_LMessage) (a1 (aFn 123 [0]))) (b1 (bCells cStr))) (argsBI (n:=21) rfl) (shr [.slot 0 true [none,none,none,none,none], .slot 1 false [none]] (lCons cd_Message (l1 cBool))) [0] Tryz.func122 Tryz.ntmps122 (by kernel_rfl) 2 rfl (fun a=>fsM (a.1.1) (a.2)) (fun a=>none) (fun a e _=>by kernel_rfl) (fun a=>fsMP (a.1.1) (a.2)) (fun a h=>⟨fsM_is (a.1.1) (a.2),rfl⟩)
def fsSC (x:Service)(name:Str):Pg Bool:=
 .ret (x.Name==name)
def fsSCP (x:Service)(name:Str):Bool:=(fsSC x name).val
theorem fsSC_is (x:Service)(name:Str):Is (fsSC x name):=
 is_ret
def e_fsSC:Ent Z:=entN Z [] [] (argsB (aCons (aAgg cd_Service) (a1 (aPtr 0))) (b1 (bCells cStr))) (argsBI (n:=8) rfl) (shr [.slot 0 false [none]] (l1 cBool)) [0] Tryz.func119 Tryz.ntmps119 (by kernel_rfl) 1 rfl (fun a=>fsSC (a.1.1) (a.2)) (fun a=>none) (fun a e _=>by kernel_rfl) (fun a=>fsSCP (a.1.1) (a.2)) (fun a h=>⟨fsSC_is (a.1.1) (a.2),rfl⟩)
def fsS (l:List Service)(name:Str):Pg (Service×Bool):=
 .as (l.length<=9223372036854775807)
  (.each false ixI l d_Service (fun(i1:Int) (a3:Service) (y2:Unit)=> .ix i1 l.length (.br (fsSCP a3 name) (.ret (.inr (a3,true))) (.ret (.inl ()))))
   (fun(i1:Int) (y2:Unit)=> .ret (Service.mk [] [] [],false)) ())
def fsSP (l:List Service)(name:Str):Service×Bool:=(fsS l name).val
theorem fsS_is (l:List Service)(name:Str):Is (fsS l name):=
 is_as fun _=>is_each (.inr (by omega)) (fun i1 y2 _ _=>is_ix (by omega) (by omega) (is_br (fun _=>is_ret) (fun _=>is_ret))) (fun y2 _=>is_ret)
def e_fsS:Ent Z:=entN Z [e_fsSC] [jS 2 (shp (fun sl=>[.slot 11 false [none]]) (l1 (cInt .i64)))] (argsB (aCons (aLf cd_LService) (a1 (aFn 119 [0]))) (b1 (bCells cStr))) (argsBI (n:=21) rfl) (shr [.slot 0 true [none,none,none], .slot 1 false [none]] (lCons cd_Service (l1 cBool))) [0] Tryz.func118 Tryz.ntmps118 (by kernel_rfl) 2 rfl (fun a=>fsS (a.1.1) (a.2)) (fun a=>none) (fun a e _=>by kernel_rfl) (fun a=>fsSP (a.1.1) (a.2)) (fun a h=>⟨fsS_is (a.1.1) (a.2),rfl⟩)
def fsWC (x:AMethod)(name:Str):Pg Bool:=
 .ret (x.Name==name)
def fsWCP (x:AMethod)(name:Str):Bool:=(fsWC x name).val
theorem fsWC_is (x:AMethod)(name:Str):Is (fsWC x name):=
 is_ret
def e_fsWC:Ent Z:=entN Z [] [] (argsB (aCons (aAgg cd_AMethod) (a1 (aPtr 0))) (b1 (bCells cStr))) (argsBI (n:=8) rfl) (shr [.slot 0 false [none]] (l1 cBool)) [0] Tryz.func63 Tryz.ntmps63 (by kernel_rfl) 1 rfl (fun a=>fsWC (a.1.1) (a.2)) (fun a=>none) (fun a e _=>by kernel_rfl) (fun a=>fsWCP (a.1.1) (a.2)) (fun a h=>⟨fsWC_is (a.1.1) (a.2),rfl⟩)
def fsW (l:List AMethod)(name:Str):Pg (AMethod×Bool):=
 .as (l.length<=9223372036854775807)
  (.each false ixI l d_AMethod (fun(i1:Int) (a3:AMethod) (y2:Unit)=> .ix i1 l.length (.br (fsWCP a3 name) (.ret (.inr (a3,true))) (.ret (.inl ()))))
   (fun(i1:Int) (y2:Unit)=> .ret (AMethod.mk [] [] [] 0 [],false)) ())
def fsWP (l:List AMethod)(name:Str):AMethod×Bool:=(fsW l name).val
theorem fsW_is (l:List AMethod)(name:Str):Is (fsW l name):=
 is_as fun _=>is_each (.inr (by omega)) (fun i1 y2 _ _=>is_ix (by omega) (by omega) (is_br (fun _=>is_ret) (fun _=>is_ret))) (fun y2 _=>is_ret)
def e_fsW:Ent Z:=entN Z [e_fsWC] [jS 2 (shp (fun sl=>[.slot 11 false [none]]) (l1 (cInt .i64)))] (argsB (aCons (aLf cd_LAMethod) (a1 (aFn 63 [0]))) (b1 (bCells cStr))) (argsBI (n:=21) rfl) (shr [.slot 0 true [none,none,none,none,none], .slot 1 false [none]] (lCons cd_AMethod (l1 cBool))) [0] Tryz.func62 Tryz.ntmps62 (by kernel_rfl) 2 rfl (fun a=>fsW (a.1.1) (a.2)) (fun a=>none) (fun a e _=>by kernel_rfl) (fun a=>fsWP (a.1.1) (a.2)) (fun a h=>⟨fsW_is (a.1.1) (a.2),rfl⟩)
def fsFC (x:AField)(num:Int):Pg Bool:=
 .ret (x.Num==num)
def fsFCP (x:AField)(num:Int):Bool:=(fsFC x num).val
theorem fsFC_is (x:AField)(num:Int):Is (fsFC x num):=
 is_ret
def e_fsFC:Ent Z:=entN Z [] [] (argsB (aCons (aAgg cd_AField) (a1 (aPtr 0))) (b1 (bCells (cInt .i64)))) (argsBI (n:=8) rfl) (shr [.slot 0 false [none]] (l1 cBool)) [0] Tryz.func125 Tryz.ntmps125 (by kernel_rfl) 1 rfl (fun a=>fsFC (a.1.1) (a.2)) (fun a=>none) (fun a e _=>by kernel_rfl) (fun a=>fsFCP (a.1.1) (a.2)) (fun a h=>⟨fsFC_is (a.1.1) (a.2),rfl⟩)
def fsF (l:List AField)(num:Int):Pg (AField×Bool):=
 .as (l.length<=9223372036854775807)
  (.each false ixI l d_AField
   (fun(i1:Int) (a3:AField) (y2:Unit)=>
    .ix i1 l.length
     (.br (fsFCP (AField.mk a3.Num a3.Name a3.Card a3.Key a3.Type_ a3.Union a3.HasDefault a3.Default.re a3.Notes) num)
      (.ret (.inr (AField.mk a3.Num a3.Name a3.Card a3.Key a3.Type_ a3.Union a3.HasDefault a3.Default.re a3.Notes,true))) (.ret (.inl ()))))
   (fun(i1:Int) (y2:Unit)=> .ret (AField.mk 0 [] 0 0 (AType.mk 0 []) [] false (AVal.mk 0 0 [] [] [] [] []) [],false)) ())
def fsFP (l:List AField)(num:Int):AField×Bool:=(fsF l num).val
theorem fsF_is (l:List AField)(num:Int):Is (fsF l num):=
 is_as fun _=>is_each (.inr (by omega)) (fun i1 y2 _ _=>is_ix (by omega) (by omega) (is_br (fun _=>is_ret) (fun _=>is_ret))) (fun y2 _=>is_ret)
def e_fsF:Ent Z:=entN Z [e_fsFC] [jS 2 (shp (fun sl=>[.slot 11 false [none]]) (l1 (cInt .i64)))] (argsB (aCons (aLf cd_LAField) (a1 (aFn 125 [0]))) (b1 (bCells (cInt .i64)))) (argsBI (n:=21) rfl) (shr [.slot 0 true [none,none,none,none,none,none,none,none,none,none,none,none,none,none,none,none], .slot 1 false [none]] (lCons cd_AField (l1 cBool))) [0] Tryz.func124 Tryz.ntmps124 (by kernel_rfl) 2 rfl (fun a=>fsF (a.1.1) (a.2)) (fun a=>none) (fun a e _=>by kernel_rfl) (fun a=>fsFP (a.1.1) (a.2)) (fun a h=>⟨fsF_is (a.1.1) (a.2),rfl⟩)
def dMessage (s:Schema)(name:Str):Pg (Message×Bool):=
 .ret (fsMP s.Messages name)
def dMessageP (s:Schema)(name:Str):Message×Bool:=(dMessage s name).val
theorem dMessage_is (s:Schema)(name:Str):Is (dMessage s name):=
 is_ret
def e_dMessage:Ent Z:=entN Z [e_fsM,e_fsMC] [] (args (aCons (aAgg cd_Schema) (a1 (aLf cStr)))) (argsI (n:=12) rfl) (shr [.slot 0 true [none,none,none,none,none], .slot 1 false [none]] (lCons cd_Message (l1 cBool))) [] Tryz.func69 Tryz.ntmps69 (by kernel_rfl) 2 rfl (fun a=>dMessage (a.1) (a.2)) (fun a=>none) (fun a e _=>by kernel_rfl) (fun a=>dMessageP (a.1) (a.2)) (fun a h=>⟨dMessage_is (a.1) (a.2),rfl⟩)
def dService (s:Schema)(name:Str):Pg (Service×Bool):=
 .ret (fsSP s.Services name)
def dServiceP (s:Schema)(name:Str):Service×Bool:=(dService s name).val
theorem dService_is (s:Schema)(name:Str):Is (dService s name):=
 is_ret
def e_dService:Ent Z:=entN Z [e_fsS,e_fsSC] [] (args (aCons (aAgg cd_Schema) (a1 (aLf cStr)))) (argsI (n:=12) rfl) (shr [.slot 0 true [none,none,none], .slot 1 false [none]] (lCons cd_Service (l1 cBool))) [] Tryz.func61 Tryz.ntmps61 (by kernel_rfl) 2 rfl (fun a=>dService (a.1) (a.2)) (fun a=>none) (fun a e _=>by kernel_rfl) (fun a=>dServiceP (a.1) (a.2)) (fun a h=>⟨dService_is (a.1) (a.2),rfl⟩)
def dField (m:Message)(num:Int):Pg (AField×Bool):=
 .lt (fsFP m.Fields num) fun(v1:AField×Bool)=>
  .ret (AField.mk v1.fst.Num v1.fst.Name v1.fst.Card v1.fst.Key v1.fst.Type_ v1.fst.Union v1.fst.HasDefault v1.fst.Default.re v1.fst.Notes,v1.snd)
def dFieldP (m:Message)(num:Int):AField×Bool:=(dField m num).val
theorem dField_is (m:Message)(num:Int):Is (dField m num):=
 is_lt fun v1 hv1=>is_ret
def e_dField:Ent Z:=entN Z [e_fsF,e_fsFC] [] (args (aCons (aAgg cd_Message) (a1 (aLf (cInt .i64))))) (argsI (n:=12) rfl) (shr [.slot 0 true [none,none,none,none,none,none,none,none,none,none,none,none,none,none,none,none], .slot 1 false [none]] (lCons cd_AField (l1 cBool))) [] Tryz.func70 Tryz.ntmps70 (by kernel_rfl) 2 rfl (fun a=>dField (a.1) (a.2)) (fun a=>none) (fun a e _=>by kernel_rfl) (fun a=>dFieldP (a.1) (a.2)) (fun a h=>⟨dField_is (a.1) (a.2),rfl⟩)
def slashS:Str:=[47]
def sidxS (s:Str):Pg Int:=
 .as (List.length slashS<=9223372036854775807)
  (.br (slashS==s) (.ret 0) (.ix 0 (List.length slashS) (.ret (Lib.indexByte s (List.getD slashS 0 0).toNat.toUInt8))))
def sidxSP (s:Str):Int:=(sidxS s).val
theorem sidxS_is (s:Str):Is (sidxS s):=
 is_as fun _=>is_br (fun _=>is_ret) (fun _=>is_ix (by decide) (by decide) is_ret)
def e_sidxS:Ent Z:=entN Z [e_indexByte] [jS 15 (shp (fun sl=>[.slot 8 false [none], .slot 10 false [none]]) (lCons (cInt .i64) (l1 (cInt .i64))))] (args (aCons (aLf cStr) (a1 (aLf cStr)))) (argsI (n:=143) rfl) (shr [.slot 0 false [none]] (l1 (cInt .i64))) [] Tryz.func116 Tryz.ntmps116 (by kernel_rfl) 1 rfl (fun a=>sidxS (a.1)) (fun a=>some (a.2=slashS)) (fun⟨s,p⟩ e h=>by have hf0:p=slashS:=h;subst hf0;show _=_;kernel_rfl) (fun a=>sidxSP (a.1)) (fun a h=>⟨sidxS_is (a.1),rfl⟩)
theorem indexByte_ix (c:UInt8):∀(s:List UInt8) (k:Nat),ixFrom (fun x=>x==c) s k=bif decide (Lib.indexByte s c= -1)then -1 else Lib.indexByte s c+k
 | [],k=>rfl
 | x::s,k=>by
  have ih:=indexByte_ix c s (k+1)
  have hge:=Lib.indexByte_ge s c
  unfold ixFrom Lib.indexByte
  cases hx:x==c with
  | true=>simp
  | false=>
   simp only[cond_false,Bool.false_eq_true,if_false]
   rw[ih]
   by_cases h:Lib.indexByte s c= -1
   ·simp[h]
   ·have hb:(Lib.indexByte s c== -1)=false:=beq_eq_false_iff_ne.2 h
    rw[hb]
    simp only[Bool.false_eq_true,if_false]
    rw[decide_eq_false h,decide_eq_false (by omega)]
    simp only[cond_false]
    omega
theorem sidx_eq (s:Str):sidxSP s=ixOf (fun x=>x==47) s:=by
 have e:Lib.indexByte s 47=ixOf (fun x=>x==47) s:=by
  unfold ixOf
  rw[indexByte_ix]
  by_cases h:Lib.indexByte s 47= -1
  ·simp[h]
  ·rw[decide_eq_false h];simp
 unfold sidxSP sidxS
 simp only[val_as,val_br,val_ix,val_ret]
 cases h:slashS==s with
 | true=>
  have:s=[47]:=(eq_of_beq h).symm
  rw[this]
  rfl
 | false=>exact e
def scut0 (s:Str):Pg (List UInt8×List UInt8×Bool):=
 .ob (slashS=slashS)
  (.lt (sidxSP s) fun(v1:Int)=>
   .br (decide (0<=v1))
    (.ob ((0:Int)<=0/\0<=v1/\v1<=(↑(List.length s):Int))
     (.lt (wrp .i64 (v1+(↑(List.length slashS):Int))) fun(v2:Int)=>
      .ob (0<=v2/\v2<=(↑(List.length s):Int)/\(↑(List.length s):Int)<=(↑(List.length s):Int))
       (.as (List.length slashS<=9223372036854775807) (.ret (List.take v1.toNat s,List.drop v2.toNat (List.take (List.length s) s),true)))))
    (.ret (s,[],false)))
def scut0P (s:Str):Str×Str×Bool:=(scut0 s).val
theorem scut0_is (s:Str)(h:s.length<=1048576):Is (scut0 s):=
 by
 refine is_ob rfl (is_lt fun v1 hv1=>is_brd (fun _=> ?_) (fun _=>is_ret))
 have h1:v1 < s.length:=by rw[hv1,sidx_eq];exact(ixOf_lt (fun(x:UInt8)=>x==47) s).1
 have e:(List.length slashS:Int)=1:=rfl
 refine is_ob ⟨by omega,by omega,by omega⟩ (is_lt fun v2 hv2=> ?_)
 rw[e,wrp_in (k:= .i64) (by simp only[InR];omega)]at hv2
 exact is_ob ⟨by omega,by omega,by omega⟩ (is_as fun _=>is_ret)
def e_scut0:Ent Z:=entN Z [e_sidxS,e_sidx0] [] (args (aCons (aLf cStr) (a1 (aLf cStr)))) (argsI (n:=23) rfl) (shr [.slot 0 false [none], .slot 1 false [none], .slot 2 false [none]] (lCons cStr (lCons cStr (l1 cBool)))) [] Tryz.func58 Tryz.ntmps58 (by kernel_rfl) 3 rfl (fun a=>scut0 (a.1)) (fun a=>some ((a.2=slashS)/\((a.1).length<=1048576))) (fun⟨s,p⟩ e h=>by have hf0:p=slashS:=h.1;subst hf0;show _=_;kernel_rfl) (fun a=>scut0P (a.1)) (fun a h=>⟨scut0_is (a.1) h.2,rfl⟩)
def scut (s:Str):Pg (List UInt8×List UInt8×Bool):=
 .ob (slashS=slashS/\List.length s<=1048576) (.ret (scut0P s))
def scutP (s:Str):Str×Str×Bool:=(scut s).val
theorem scut_is (s:Str)(h:s.length<=1048576):Is (scut s):=
 is_ob ((⟨rfl,h⟩)) (is_ret)
def e_scut:Ent Z:=entN Z [e_scut0] [] (args (aCons (aLf cStr) (a1 (aLf cStr)))) (argsI (n:=13) rfl) (shr [.slot 0 false [none], .slot 1 false [none], .slot 2 false [none]] (lCons cStr (lCons cStr (l1 cBool)))) [] Tryz.func27 Tryz.ntmps27 (by kernel_rfl) 3 rfl (fun a=>scut (a.1)) (fun a=>some ((a.2=slashS)/\((a.1).length<=1048576))) (fun⟨s,p⟩ e h=>by have hf0:p=slashS:=h.1;subst hf0;show _=_;kernel_rfl) (fun a=>scutP (a.1)) (fun a h=>⟨scut_is (a.1) h.2,rfl⟩)
theorem scut_as (s:Str)(h:s.length<=1048576):scutP s=bif decide (0<=ixOf (fun x=>x==47) s)then(s.take (ixOf (fun x=>x==47) s).toNat,s.drop ((ixOf (fun x=>x==47) s).toNat+1),true)else(s,[],false):=by
 have hl:=(ixOf_lt (fun(x:UInt8)=>x==47) s).1
 unfold scutP scut scut0P scut0
 simp only[val_ob,val_lt,val_br,val_as,val_ret,sidx_eq]
 by_cases h0:0<=ixOf (fun x=>x==47) s
 ·have e:(List.length slashS:Int)=1:=rfl
  rw[decide_eq_true h0,e,wrp_in (k:= .i64) (by simp only[InR];omega),List.take_length]
  rw[show(ixOf (fun x=>x==47) s+1).toNat=(ixOf (fun x=>x==47) s).toNat+1 by omega]
 ·rw[decide_eq_false h0]
  rfl
theorem scut_len (s:Str)(h:s.length<=1048576):(scutP s).1.length<=s.length:=by
 rw[scut_as s h]
 cases decide (0<=ixOf (fun x=>x==47) s)
 ·exact Nat.le_refl _
 ·simp only[cond_true,List.length_take];omega
def dMethod (s:Schema)(path:Str):Pg (AMethod×Bool):=
 .ob ([47]=slashS/\List.length path<=1048576)
  (.lt (scutP path) fun(v1:Str×Str×Bool)=>
   .br (!v1.snd.snd) (.ret (AMethod.mk [] [] [] 0 [],false))
    (.lt (dServiceP s v1.fst) fun(v2:Service×Bool)=> .br (!v2.snd) (.ret (AMethod.mk [] [] [] 0 [],false)) (.ret (fsWP v2.fst.Methods v1.snd.fst))))
def dMethodP (s:Schema)(path:Str):AMethod×Bool:=(dMethod s path).val
theorem dMethod_is (s:Schema)(path:Str)(h:path.length<=1048576):Is (dMethod s path):=
 is_ob ((⟨rfl,h⟩)) (is_lt fun v1 hv1=>is_br (fun _=>is_ret) (fun _=>is_lt fun v2 hv2=>is_br (fun _=>is_ret) (fun _=>is_ret)))
def e_dMethod:Ent Z:=entN Z [e_scut,e_dService,e_fsW,e_fsWC] [] (args (aCons (aAgg cd_Schema) (a1 (aLf cStr)))) (argsI (n:=36) rfl) (shr [.slot 0 true [none,none,none,none,none], .slot 1 false [none]] (lCons cd_AMethod (l1 cBool))) [] Tryz.func30 Tryz.ntmps30 (by kernel_rfl) 2 rfl (fun a=>dMethod (a.1) (a.2)) (fun a=>some ((a.2).length<=1048576)) (fun a e _=>by kernel_rfl) (fun a=>dMethodP (a.1) (a.2)) (fun a h=>⟨dMethod_is (a.1) (a.2) h,rfl⟩)
def mFind (s:Schema)(path:Str):Pg (AMethod×Int):=
 .ob ([47]=slashS/\List.length path<=1048576)
  (.lt (scutP path) fun(v1:Str×Str×Bool)=>
   .br (!v1.snd.snd) (.ret (AMethod.mk [] [] [] 0 [],2))
    (.ob (v1.fst.length<=4294967296)
     (.br (!ifullP v1.fst) (.ret (AMethod.mk [] [] [] 0 [],2))
      (.br (!ipartP v1.snd.fst) (.ret (AMethod.mk [] [] [] 0 [],2))
       (.ob (List.length path<=1048576)
        (.lt (dMethodP s path) fun(v2:AMethod×Bool)=> .br (!v2.snd) (.ret (AMethod.mk [] [] [] 0 [],10)) (.ret (v2.fst,0))))))))
def mFindP (s:Schema)(path:Str):AMethod×Int:=(mFind s path).val
theorem mFind_is (s:Schema)(path:Str)(h:path.length<=1048576):Is (mFind s path):=
 is_ob ((⟨rfl,h⟩)) (is_lt fun v1 hv1=>is_br (fun _=>is_ret) (fun _=>is_ob (by have:=scut_len path h;rw[hv1];omega) (is_br (fun _=>is_ret) (fun _=>is_br (fun _=>is_ret) (fun _=>is_ob (by(try subst_vars);(try simp only[List.length_append,List.length_cons,List.length_nil]);omega) (is_lt fun v2 hv2=>is_br (fun _=>is_ret) (fun _=>is_ret)))))))
def e_mFind:Ent Z:=entN Z [e_scut,e_ifull,e_ipart,e_dMethod] [] (args (aCons (aAgg cd_Schema) (a1 (aLf cStr)))) (argsI (n:=39) rfl) (shr [.slot 0 true [none,none,none,none,none], .slot 1 false [none]] (lCons cd_AMethod (l1 (cInt .i64)))) [] Tryz.func12 Tryz.ntmps12 (by kernel_rfl) 2 rfl (fun a=>mFind (a.1) (a.2)) (fun a=>some ((a.2).length<=1048576)) (fun a e _=>by kernel_rfl) (fun a=>mFindP (a.1) (a.2)) (fun a h=>⟨mFind_is (a.1) (a.2) h,rfl⟩)
def mStreams (shape:Int):Pg (Bool×Bool):=
 .br (shape==3) (.br (shape==2) (.ret (true,true)) (.ret (true,shape==4)))
  (.br (shape==2) (.ret (shape==4,true)) (.ret (shape==4,shape==4)))
def mStreamsP (shape:Int):Bool×Bool:=(mStreams shape).val
theorem mStreams_is (shape:Int):Is (mStreams shape):=
 is_beq (fun _=>is_beq (fun _=>is_ret) (fun _=>is_ret)) (fun _=>is_beq (fun _=>is_ret) (fun _=>is_ret))
def e_mStreams:Ent Z:=entN Z [] [] (args (a1 (aLf (cInt .i64)))) (argsI (n:=16) rfl) (shr [.slot 0 false [none], .slot 1 false [none]] (lCons cBool (l1 cBool))) [] Tryz.func33 Tryz.ntmps33 (by kernel_rfl) 2 rfl (fun a=>mStreams a) (fun a=>none) (fun a e _=>by kernel_rfl) (fun a=>mStreamsP a) (fun a h=>⟨mStreams_is a,rfl⟩)
def ranged (x:Handler):Pg Bool:=
 .br (decide (x.Cost < 0)) (.ret false)
  (.br (decide (1099511627776 < x.Cost)) (.ret false)
   (.cut
    (fun(y1:Bool)=>
     .br y1 (.ret (x.Num==0))
      (.br (x.Kind==3) (.br (decide (1<=x.Num)) (.ret (decide (x.Num<=65535))) (.ret false))
       (.br (x.Kind==4) (.br (decide (0<=x.Num)) (.ret (decide (x.Num<=64))) (.ret false))
        (.br (x.Kind==5) (.br (decide (1<=x.Num)) (.ret (decide (x.Num<=13))) (.ret false)) (.ret false)))))
    (.br (x.Kind==1) (.ret (.inl (x.Kind==1))) (.ret (.inl (x.Kind==2))))))
def rangedP (x:Handler):Bool:=(ranged x).val
theorem ranged_is (x:Handler):Is (ranged x):=
 is_brd (fun _=>is_ret) (fun _=>is_brd (fun _=>is_ret) (fun _=>is_cut (is_beq (fun _=>is_ret) (fun _=>is_ret)) (fun y1 hy1=>is_br (fun _=>is_ret) (fun _=>is_beq (fun _=>is_brd (fun _=>is_ret) (fun _=>is_ret)) (fun _=>is_beq (fun _=>is_brd (fun _=>is_ret) (fun _=>is_ret)) (fun _=>is_beq (fun _=>is_brd (fun _=>is_ret) (fun _=>is_ret)) (fun _=>is_ret)))))))
def e_ranged:Ent Z:=entN Z [] [jS 100006 (shp (fun sl=>[.slot 13 false [none]]) (l1 cBool))] (args (a1 (aAgg cd_Handler))) (argsI (n:=49) rfl) (shr [.slot 0 false [none]] (l1 cBool)) [] Tryz.func11 Tryz.ntmps11 (by kernel_rfl) 1 rfl (fun a=>ranged a) (fun a=>none) (fun a e _=>by kernel_rfl) (fun a=>rangedP a) (fun a h=>⟨ranged_is a,rfl⟩)
def counted (s:Schema)(name:Str)(num:Int):Pg (AField×Bool):=
 .lt (dFieldP (dMessageP s name).fst num) fun(v1:AField×Bool)=>
  .br (v1.fst.Type_.Kind==4)
   (.br v1.snd
    (.br (v1.fst.Card !=4)
     (.ret (AField.mk v1.fst.Num v1.fst.Name v1.fst.Card v1.fst.Key v1.fst.Type_ v1.fst.Union v1.fst.HasDefault v1.fst.Default.re v1.fst.Notes,v1.fst.Card !=5))
     (.ret (AField.mk v1.fst.Num v1.fst.Name v1.fst.Card v1.fst.Key v1.fst.Type_ v1.fst.Union v1.fst.HasDefault v1.fst.Default.re v1.fst.Notes,false)))
    (.ret (AField.mk v1.fst.Num v1.fst.Name v1.fst.Card v1.fst.Key v1.fst.Type_ v1.fst.Union v1.fst.HasDefault v1.fst.Default.re v1.fst.Notes,false)))
   (.br v1.snd
    (.br (v1.fst.Type_.Kind==5)
     (.br (v1.fst.Card !=4)
      (.ret (AField.mk v1.fst.Num v1.fst.Name v1.fst.Card v1.fst.Key v1.fst.Type_ v1.fst.Union v1.fst.HasDefault v1.fst.Default.re v1.fst.Notes,v1.fst.Card !=5))
      (.ret (AField.mk v1.fst.Num v1.fst.Name v1.fst.Card v1.fst.Key v1.fst.Type_ v1.fst.Union v1.fst.HasDefault v1.fst.Default.re v1.fst.Notes,false)))
     (.ret (AField.mk v1.fst.Num v1.fst.Name v1.fst.Card v1.fst.Key v1.fst.Type_ v1.fst.Union v1.fst.HasDefault v1.fst.Default.re v1.fst.Notes,false)))
    (.ret (AField.mk v1.fst.Num v1.fst.Name v1.fst.Card v1.fst.Key v1.fst.Type_ v1.fst.Union v1.fst.HasDefault v1.fst.Default.re v1.fst.Notes,false)))
def countedP (s:Schema)(name:Str)(num:Int):AField×Bool:=(counted s name num).val
theorem counted_is (s:Schema)(name:Str)(num:Int):Is (counted s name num):=
 is_lt fun v1 hv1=>is_beq (fun _=>is_br (fun _=>is_bne (fun _=>is_ret) (fun _=>is_ret)) (fun _=>is_ret)) (fun _=>is_br (fun _=>is_beq (fun _=>is_bne (fun _=>is_ret) (fun _=>is_ret)) (fun _=>is_ret)) (fun _=>is_ret))
def e_counted:Ent Z:=entN Z [e_dMessage,e_dField] [] (args (aCons (aAgg cd_Schema) (aCons (aLf cStr) (a1 (aLf (cInt .i64)))))) (argsI (n:=50) rfl) (shr [.slot 0 true [none,none,none,none,none,none,none,none,none,none,none,none,none,none,none,none], .slot 1 false [none]] (lCons cd_AField (l1 cBool))) [] Tryz.func34 Tryz.ntmps34 (by kernel_rfl) 2 rfl (fun a=>counted (a.1) (a.2.1) (a.2.2)) (fun a=>none) (fun a e _=>by kernel_rfl) (fun a=>countedP (a.1) (a.2.1) (a.2.2)) (fun a h=>⟨counted_is (a.1) (a.2.1) (a.2.2),rfl⟩)
def fits (s:Schema)(x:Handler):Pg Bool:=
 .ob (List.length x.Method<=1048576)
  (.lt (mFindP s x.Method) fun(v1:AMethod×Int)=>
   .br (v1.snd !=0) (.ret false)
    (.br (!rangedP (Handler.mk x.Method x.Kind x.Num 0)) (.ret false)
     (.lt (mStreamsP v1.fst.Shape) fun(v2:Bool×Bool)=>
      .br (x.Kind==2) (.ret !v2.snd)
       (.br (x.Kind==3) (.br (countedP s v1.fst.Out x.Num).snd (.ret !v2.snd) (.ret false))
        (.br (x.Kind==4) (.br v2.snd (.ret (v1.fst.In==v1.fst.Out)) (.ret false)) (.ret true))))))
def fitsP (s:Schema)(x:Handler):Bool:=(fits s x).val
theorem fits_is (s:Schema)(x:Handler)(h:x.Method.length<=1048576):Is (fits s x):=
 is_ob (by(try subst_vars);(try simp only[List.length_append,List.length_cons,List.length_nil]);omega) (is_lt fun v1 hv1=>is_bne (fun _=>is_ret) (fun _=>is_br (fun _=>is_ret) (fun _=>is_lt fun v2 hv2=>is_beq (fun _=>is_ret) (fun _=>is_beq (fun _=>is_br (fun _=>is_ret) (fun _=>is_ret)) (fun _=>is_beq (fun _=>is_br (fun _=>is_ret) (fun _=>is_ret)) (fun _=>is_ret))))))
def e_fits:Ent Z:=entN Z [e_ranged,e_mFind,e_mStreams,e_counted] [] (args (aCons (aAgg cd_Schema) (a1 (aAgg cd_Handler)))) (argsI (n:=64) rfl) (shr [.slot 0 false [none]] (l1 cBool)) [] Tryz.func14 Tryz.ntmps14 (by kernel_rfl) 1 rfl (fun a=>fits (a.1) (a.2)) (fun a=>some ((a.2).Method.length<=1048576)) (fun a e _=>by kernel_rfl) (fun a=>fitsP (a.1) (a.2)) (fun a h=>⟨fits_is (a.1) (a.2) h,rfl⟩)
def isName (s:Str):Pg Bool:=
 .br (decide ((↑(List.length s):Int) < 1)) (.ret false)
  (.br (decide (40 < (↑(List.length s):Int))) (.ret false)
   (.as (List.length s<=9223372036854775807)
    (.each false ixI s 0
     (fun(i1:Int) (a3:UInt8) (y2:Unit)=>
      .ix i1 (List.length s)
       (.br (decide ((↑a3.toNat:Int) < 97))
        (.ix i1 (List.length s)
         (.br (decide ((↑a3.toNat:Int) < 48)) (.ret (.inr false))
          (.ix i1 (List.length s) (.br (decide (57 < (↑a3.toNat:Int))) (.ret (.inr false)) (.ret (.inl ()))))))
        (.ix i1 (List.length s)
         (.br (decide (122 < (↑a3.toNat:Int)))
          (.ix i1 (List.length s)
           (.br (decide ((↑a3.toNat:Int) < 48)) (.ret (.inr false))
            (.ix i1 (List.length s) (.br (decide (57 < (↑a3.toNat:Int))) (.ret (.inr false)) (.ret (.inl ()))))))
          (.ret (.inl ()))))))
     (fun(i1:Int) (y2:Unit)=> .ret true) ())))
def isNameP (s:Str):Bool:=(isName s).val
theorem isName_is (s:Str):Is (isName s):=
 is_brd (fun _=>is_ret) (fun _=>is_brd (fun _=>is_ret) (fun _=>is_as fun _=>is_each (.inr (by omega)) (fun i1 y2 _ _=>is_ix (by omega) (by omega) (is_brd (fun _=>is_ix (by omega) (by omega) (is_brd (fun _=>is_ret) (fun _=>is_ix (by omega) (by omega) (is_brd (fun _=>is_ret) (fun _=>is_ret))))) (fun _=>is_ix (by omega) (by omega) (is_brd (fun _=>is_ix (by omega) (by omega) (is_brd (fun _=>is_ret) (fun _=>is_ix (by omega) (by omega) (is_brd (fun _=>is_ret) (fun _=>is_ret))))) (fun _=>is_ret))))) (fun y2 _=>is_ret)))
def e_isName:Ent Z:=entN Z [] [jS 4 (shp (fun sl=>[.slot 14 false [none]]) (l1 (cInt .i64)))] (args (a1 (aLf cStr))) (argsI (n:=40) rfl) (shr [.slot 0 false [none]] (l1 cBool)) [] Tryz.func9 Tryz.ntmps9 (by kernel_rfl) 1 rfl (fun a=>isName a) (fun a=>none) (fun a e _=>by kernel_rfl) (fun a=>isNameP a) (fun a h=>⟨isName_is a,rfl⟩)
end
end Go.Proofs.YtiibcbmenoaigaaGreatDoor
