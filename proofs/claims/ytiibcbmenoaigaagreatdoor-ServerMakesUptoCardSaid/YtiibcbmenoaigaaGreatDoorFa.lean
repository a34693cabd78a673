/- Server: what check asks of fields. -/
import Derived.Test.YtiibcbmenoaigaaGreatDoorF
import Derived.Test.YtiibcbmenoaigaaGreatDoorEng11
namespace Go.Proofs.YtiibcbmenoaigaaGreatDoor
noncomputable section
open Go.RowKit Go.Vc
set_option linter.unusedVariables false
set_option linter.unusedSimpArgs false
set_option maxRecDepth 100000
def sfdC (x:AField)(fl:List AField)(fi:Int):Pg Bool:=
 .ix fi fl.length
  (.ret
   (fnameP (AField.mk x.Num x.Name x.Card x.Key x.Type_ x.Union x.HasDefault x.Default.re x.Notes)==
    fnameP
     (AField.mk (fl.getD fi.toNat d_AField).Num (fl.getD fi.toNat d_AField).Name (fl.getD fi.toNat d_AField).Card (fl.getD fi.toNat d_AField).Key
      (fl.getD fi.toNat d_AField).Type_ (fl.getD fi.toNat d_AField).Union (fl.getD fi.toNat d_AField).HasDefault (fl.getD fi.toNat d_AField).Default.re
      (fl.getD fi.toNat d_AField).Notes)))
def sfdCP (x:AField)(fl:List AField)(fi:Int):Bool:=(sfdC x fl fi).val
theorem sfdC_is (x:AField)(fl:List AField)(fi:Int)(h:0<=fi/\fi < fl.length):Is (sfdC x fl fi):=
 is_ix (by omega) (by omega) (is_ret)
def e_sfdC:Ent Z:=entN Z [e_fname] [] (argsB (aCons (aAgg cd_AField) (aCons (aPtr 0) (aCons (aPtr 1) (a1 (aPtr 2))))) (bCons (bFn 167 []) (bCons (bCells cd_LAField) (b1 (bCells (cInt .i64)))))) (argsBI (n:=16) rfl) (shr [.slot 0 false [none]] (l1 cBool)) [0,1,2] Tryz.func243 Tryz.ntmps243 (by kernel_rfl) 1 rfl (fun a=>sfdC (a.1.1) (a.2.2.1) (a.2.2.2)) (fun a=>some (0<=(a.2.2.2)/\(a.2.2.2) < (a.2.2.1).length)) (fun a e _=>by kernel_rfl) (fun a=>sfdCP (a.1.1) (a.2.2.1) (a.2.2.2)) (fun a h=>⟨sfdC_is (a.1.1) (a.2.2.1) (a.2.2.2) h,rfl⟩)
def sfdI (l:List AField)(fl:List AField)(fi:Int):Pg Int:=
 .as (l.length<=9223372036854775807)
  (.each false ixI l d_AField
   (fun(i1:Int) (a3:AField) (y2:Unit)=>
    .ix i1 l.length
     (.ix fi fl.length
      (.br (sfdCP (AField.mk a3.Num a3.Name a3.Card a3.Key a3.Type_ a3.Union a3.HasDefault a3.Default.re a3.Notes) fl fi) (.ret (.inr i1)) (.ret (.inl ())))))
   (fun(i1:Int) (y2:Unit)=> .ret (-1)) ())
theorem sfdI_is (l:List AField)(fl:List AField)(fi:Int)(h:0<=fi/\fi < fl.length):Is (sfdI l fl fi):=
 is_as fun _=>is_each (.inr (by omega)) (fun i1 y2 _ _=>is_ix (by omega) (by omega) (is_ix (by omega) (by omega) (is_br (fun _=>is_ret) (fun _=>is_ret)))) (fun y2 _=>is_ret)
def e_sfdI:Ent Z:=entN Z [e_sfdC] [jS 2 (shp (fun sl=>[.slot 8 false [none]]) (l1 (cInt .i64)))] (argsB (aCons (aLf cd_LAField) (a1 (aFn 243 [0,1,2]))) (bCons (bFn 167 []) (bCons (bCells cd_LAField) (b1 (bCells (cInt .i64)))))) (argsBI (n:=19) rfl) (shr [.slot 0 false [none]] (l1 (cInt .i64))) [0,1,2] Tryz.func351 Tryz.ntmps351 (by kernel_rfl) 1 rfl (fun a=>sfdI (a.1.1) (a.2.2.1) (a.2.2.2)) (fun a=>some (0<=(a.2.2.2)/\(a.2.2.2) < (a.2.2.1).length)) (fun a e _=>by kernel_rfl) (fun a=>ixOf (fun(x:AField)=>(sfdCP x (a.2.2.1) (a.2.2.2))) (a.1.1)) (fun a h=>⟨sfdI_is (a.1.1) (a.2.2.1) (a.2.2.2) h,(fun(l:List AField) fl fi _=>forE_ix (fun(x:AField)=>(sfdCP x fl fi)) l 0) (a.1.1) (a.2.2.1) (a.2.2.2) h⟩)
def sfdA (l:List AField)(fl:List AField)(fi:Int):Pg Bool:=
 .ix fi fl.length (.lt (ixOf (fun(x:AField)=>sfdCP x fl fi) l) fun(v1:Int)=> .ret (decide (0<=v1)))
theorem sfdA_is (l:List AField)(fl:List AField)(fi:Int)(h:0<=fi/\fi < fl.length):Is (sfdA l fl fi):=
 is_ix (by omega) (by omega) (is_lt fun v1 hv1=>is_ret)
def e_sfdA:Ent Z:=entN Z [e_sfdC,e_sfdI] [] (argsB (aCons (aLf cd_LAField) (a1 (aFn 243 [0,1,2]))) (bCons (bFn 167 []) (bCons (bCells cd_LAField) (b1 (bCells (cInt .i64)))))) (argsBI (n:=9) rfl) (shr [.slot 0 false [none]] (l1 cBool)) [0,1,2] Tryz.func242 Tryz.ntmps242 (by kernel_rfl) 1 rfl (fun a=>sfdA (a.1.1) (a.2.2.1) (a.2.2.2)) (fun a=>some (0<=(a.2.2.2)/\(a.2.2.2) < (a.2.2.1).length)) (fun a e _=>by kernel_rfl) (fun a=>(a.1.1).any fun(x:AField)=>(sfdCP x (a.2.2.1) (a.2.2.2))) (fun a h=>⟨sfdA_is (a.1.1) (a.2.2.1) (a.2.2.2) h,(fun(l:List AField) fl fi _=>ixOf_any _ l) (a.1.1) (a.2.2.1) (a.2.2.2) h⟩)
def seenF (l:List AField)(i:Int):Pg Bool:=
 .ob ((0:Int)<=0/\0<=i/\i<=(↑l.length:Int)) (.ix i l.length (.ret ((List.take i.toNat l).any fun(x:AField)=>sfdCP x l i)))
def seenFP (l:List AField)(i:Int):Bool:=(seenF l i).val
theorem seenF_is (l:List AField)(i:Int)(h:0<=i/\i < l.length):Is (seenF l i):=
 is_ob (by omega) (is_ix (by omega) (by omega) (is_ret))
def e_seenF:Ent Z:=entN Z [e_fname,e_sfdA,e_sfdC] [] (args (aCons (aLf cd_LAField) (aCons (aLf (cInt .i64)) (a1 (aFn 167 []))))) (argsI (n:=12) rfl) (shr [.slot 0 false [none]] (l1 cBool)) [] Tryz.func166 Tryz.ntmps166 (by kernel_rfl) 1 rfl (fun a=>seenF (a.1) (a.2.1)) (fun a=>some (0<=(a.2.1)/\(a.2.1) < (a.1).length)) (fun a e _=>by kernel_rfl) (fun a=>seenFP (a.1) (a.2.1)) (fun a h=>⟨seenF_is (a.1) (a.2.1) h,rfl⟩)
def sitC (x:Item)(fl:List Item)(fi:Int):Pg Bool:=
 .ix fi fl.length (.ret (inameP x==inameP (fl.getD fi.toNat d_Item)))
def sitCP (x:Item)(fl:List Item)(fi:Int):Bool:=(sitC x fl fi).val
theorem sitC_is (x:Item)(fl:List Item)(fi:Int)(h:0<=fi/\fi < fl.length):Is (sitC x fl fi):=
 is_ix (by omega) (by omega) (is_ret)
def e_sitC:Ent Z:=entN Z [e_iname] [] (argsB (aCons (aAgg cd_Item) (aCons (aPtr 0) (aCons (aPtr 1) (a1 (aPtr 2))))) (bCons (bFn 114 []) (bCons (bCells cd_LItem) (b1 (bCells (cInt .i64)))))) (argsBI (n:=16) rfl) (shr [.slot 0 false [none]] (l1 cBool)) [0,1,2] Tryz.func175 Tryz.ntmps175 (by kernel_rfl) 1 rfl (fun a=>sitC (a.1.1) (a.2.2.1) (a.2.2.2)) (fun a=>some (0<=(a.2.2.2)/\(a.2.2.2) < (a.2.2.1).length)) (fun a e _=>by kernel_rfl) (fun a=>sitCP (a.1.1) (a.2.2.1) (a.2.2.2)) (fun a h=>⟨sitC_is (a.1.1) (a.2.2.1) (a.2.2.2) h,rfl⟩)
def sitI (l:List Item)(fl:List Item)(fi:Int):Pg Int:=
 .as (l.length<=9223372036854775807)
  (.each false ixI l d_Item
   (fun(i1:Int) (a3:Item) (y2:Unit)=> .ix i1 l.length (.ix fi fl.length (.br (sitCP a3 fl fi) (.ret (.inr i1)) (.ret (.inl ())))))
   (fun(i1:Int) (y2:Unit)=> .ret (-1)) ())
theorem sitI_is (l:List Item)(fl:List Item)(fi:Int)(h:0<=fi/\fi < fl.length):Is (sitI l fl fi):=
 is_as fun _=>is_each (.inr (by omega)) (fun i1 y2 _ _=>is_ix (by omega) (by omega) (is_ix (by omega) (by omega) (is_br (fun _=>is_ret) (fun _=>is_ret)))) (fun y2 _=>is_ret)
def e_sitI:Ent Z:=entN Z [e_sitC] [jS 2 (shp (fun sl=>[.slot 8 false [none]]) (l1 (cInt .i64)))] (argsB (aCons (aLf cd_LItem) (a1 (aFn 175 [0,1,2]))) (bCons (bFn 114 []) (bCons (bCells cd_LItem) (b1 (bCells (cInt .i64)))))) (argsBI (n:=19) rfl) (shr [.slot 0 false [none]] (l1 (cInt .i64))) [0,1,2] Tryz.func252 Tryz.ntmps252 (by kernel_rfl) 1 rfl (fun a=>sitI (a.1.1) (a.2.2.1) (a.2.2.2)) (fun a=>some (0<=(a.2.2.2)/\(a.2.2.2) < (a.2.2.1).length)) (fun a e _=>by kernel_rfl) (fun a=>ixOf (fun(x:Item)=>(sitCP x (a.2.2.1) (a.2.2.2))) (a.1.1)) (fun a h=>⟨sitI_is (a.1.1) (a.2.2.1) (a.2.2.2) h,(fun(l:List Item) fl fi _=>forE_ix (fun(x:Item)=>(sitCP x fl fi)) l 0) (a.1.1) (a.2.2.1) (a.2.2.2) h⟩)
def sitA (l:List Item)(fl:List Item)(fi:Int):Pg Bool:=
 .ix fi fl.length (.lt (ixOf (fun(x:Item)=>sitCP x fl fi) l) fun(v1:Int)=> .ret (decide (0<=v1)))
theorem sitA_is (l:List Item)(fl:List Item)(fi:Int)(h:0<=fi/\fi < fl.length):Is (sitA l fl fi):=
 is_ix (by omega) (by omega) (is_lt fun v1 hv1=>is_ret)
def e_sitA:Ent Z:=entN Z [e_sitC,e_sitI] [] (argsB (aCons (aLf cd_LItem) (a1 (aFn 175 [0,1,2]))) (bCons (bFn 114 []) (bCons (bCells cd_LItem) (b1 (bCells (cInt .i64)))))) (argsBI (n:=9) rfl) (shr [.slot 0 false [none]] (l1 cBool)) [0,1,2] Tryz.func174 Tryz.ntmps174 (by kernel_rfl) 1 rfl (fun a=>sitA (a.1.1) (a.2.2.1) (a.2.2.2)) (fun a=>some (0<=(a.2.2.2)/\(a.2.2.2) < (a.2.2.1).length)) (fun a e _=>by kernel_rfl) (fun a=>(a.1.1).any fun(x:Item)=>(sitCP x (a.2.2.1) (a.2.2.2))) (fun a h=>⟨sitA_is (a.1.1) (a.2.2.1) (a.2.2.2) h,(fun(l:List Item) fl fi _=>ixOf_any _ l) (a.1.1) (a.2.2.1) (a.2.2.2) h⟩)
def seenI (l:List Item)(i:Int):Pg Bool:=
 .ob ((0:Int)<=0/\0<=i/\i<=(↑l.length:Int)) (.ix i l.length (.ret ((List.take i.toNat l).any fun(x:Item)=>sitCP x l i)))
def seenIP (l:List Item)(i:Int):Bool:=(seenI l i).val
theorem seenI_is (l:List Item)(i:Int)(h:0<=i/\i < l.length):Is (seenI l i):=
 is_ob (by omega) (is_ix (by omega) (by omega) (is_ret))
def e_seenI:Ent Z:=entN Z [e_iname,e_sitA,e_sitC] [] (args (aCons (aLf cd_LItem) (aCons (aLf (cInt .i64)) (a1 (aFn 114 []))))) (argsI (n:=12) rfl) (shr [.slot 0 false [none]] (l1 cBool)) [] Tryz.func113 Tryz.ntmps113 (by kernel_rfl) 1 rfl (fun a=>seenI (a.1) (a.2.1)) (fun a=>some (0<=(a.2.1)/\(a.2.1) < (a.1).length)) (fun a e _=>by kernel_rfl) (fun a=>seenIP (a.1) (a.2.1)) (fun a h=>⟨seenI_is (a.1) (a.2.1) h,rfl⟩)
def cKeyed (card:Int)(key:Int):Pg Bool:=
 .br (card !=5) (.ret (key==0))
  (.br (decide (1<=key)) (.br (decide (key<=7)) (.ret (key !=6)) (.ret false)) (.ret false))
def cKeyedP (card:Int)(key:Int):Bool:=(cKeyed card key).val
theorem cKeyed_is (card:Int)(key:Int):Is (cKeyed card key):=
 is_bne (fun _=>is_ret) (fun _=>is_brd (fun _=>is_brd (fun _=>is_ret) (fun _=>is_ret)) (fun _=>is_ret))
def e_cKeyed:Ent Z:=entN Z [] [] (args (aCons (aLf (cInt .i64)) (a1 (aLf (cInt .i64))))) (argsI (n:=19) rfl) (shr [.slot 0 false [none]] (l1 cBool)) [] Tryz.func168 Tryz.ntmps168 (by kernel_rfl) 1 rfl (fun a=>cKeyed (a.1) (a.2)) (fun a=>none) (fun a e _=>by kernel_rfl) (fun a=>cKeyedP (a.1) (a.2)) (fun a h=>⟨cKeyed_is (a.1) (a.2),rfl⟩)
def cTyped (s:Schema)(f:AField):Pg Bool:=
 .lt (cEnumP s f.Type_.Name) fun(v1:Enum×Bool)=>
  .lt (cMessageP s f.Type_.Name) fun(v2:Message×Bool)=>
   .br (decide (1<=f.Type_.Kind))
    (.br (decide (f.Type_.Kind<=8)) (.ret (f.Type_.Name==[]))
     (.br (f.Type_.Kind==9) (.ret v1.snd) (.br (f.Type_.Kind==10) (.br v2.snd (.ret (f.Card !=3)) (.ret false)) (.ret false))))
    (.br (f.Type_.Kind==9) (.ret v1.snd) (.br (f.Type_.Kind==10) (.br v2.snd (.ret (f.Card !=3)) (.ret false)) (.ret false)))
def cTypedP (s:Schema)(f:AField):Bool:=(cTyped s f).val
theorem cTyped_is (s:Schema)(f:AField):Is (cTyped s f):=
 is_lt fun v1 hv1=>is_lt fun v2 hv2=>is_brd (fun _=>is_brd (fun _=>is_ret) (fun _=>is_beq (fun _=>is_ret) (fun _=>is_beq (fun _=>is_br (fun _=>is_ret) (fun _=>is_ret)) (fun _=>is_ret)))) (fun _=>is_beq (fun _=>is_ret) (fun _=>is_beq (fun _=>is_br (fun _=>is_ret) (fun _=>is_ret)) (fun _=>is_ret)))
def e_cTyped:Ent Z:=entN Z [e_cMessage,e_cEnum] [] (args (aCons (aAgg cd_Schema) (a1 (aAgg cd_AField)))) (argsI (n:=57) rfl) (shr [.slot 0 false [none]] (l1 cBool)) [] Tryz.func169 Tryz.ntmps169 (by kernel_rfl) 1 rfl (fun a=>cTyped (a.1) (a.2)) (fun a=>none) (fun a e _=>by kernel_rfl) (fun a=>cTypedP (a.1) (a.2)) (fun a h=>⟨cTyped_is (a.1) (a.2),rfl⟩)
def cZero (v:AVal):Pg Bool:=
 .br (v.Kind==0)
  (.br (v.Bits==0)
   (.br (v.Text==[])
    (.as (v.List.length<=9223372036854775807)
     (.as (v.Pairs.length<=9223372036854775807)
      (.as (v.Slots.length<=9223372036854775807)
       (.as (v.Raws.length<=9223372036854775807)
        (.ret
         (wrp .i64 (wrp .i64 (wrp .i64 ((↑v.List.length:Int)+(↑v.Pairs.length:Int))+(↑v.Slots.length:Int))+(↑v.Raws.length:Int))==
          0))))))
    (.ret false))
   (.ret false))
  (.ret false)
def cZeroP (v:AVal):Bool:=(cZero v).val
theorem cZero_is (v:AVal):Is (cZero v):=
 is_beq (fun _=>is_beq (fun _=>is_br (fun _=>is_as fun _=>is_as fun _=>is_as fun _=>is_as fun _=>is_ret) (fun _=>is_ret)) (fun _=>is_ret)) (fun _=>is_ret)
def e_cZero:Ent Z:=entN Z [] [] (args (a1 (aAgg cd_AVal))) (argsI (n:=34) rfl) (shr [.slot 0 false [none]] (l1 cBool)) [] Tryz.func247 Tryz.ntmps247 (by kernel_rfl) 1 rfl (fun a=>cZero a) (fun a=>none) (fun a e _=>by kernel_rfl) (fun a=>cZeroP a) (fun a h=>⟨cZero_is a,rfl⟩)
def un1C (x:AField)(f:AField):Pg Bool:=
 .ret (x.Name==f.Union)
def un1CP (x:AField)(f:AField):Bool:=(un1C x f).val
theorem un1C_is (x:AField)(f:AField):Is (un1C x f):=
 is_ret
def e_un1C:Ent Z:=entN Z [] [] (argsB (aCons (aAgg cd_AField) (a1 (aPtr 0))) (b1 (bCells cd_AField))) (argsBI (n:=9) rfl) (shr [.slot 0 false [none]] (l1 cBool)) [0] Tryz.func245 Tryz.ntmps245 (by kernel_rfl) 1 rfl (fun a=>un1C (a.1.1) (a.2)) (fun a=>none) (fun a e _=>by kernel_rfl) (fun a=>un1CP (a.1.1) (a.2)) (fun a h=>⟨un1C_is (a.1.1) (a.2),rfl⟩)
def un1I (l:List AField)(f:AField):Pg Int:=
 .as (l.length<=9223372036854775807)
  (.each false ixI l d_AField
   (fun(i1:Int) (a3:AField) (y2:Unit)=>
    .ix i1 l.length
     (.br
      (un1CP (AField.mk a3.Num a3.Name a3.Card a3.Key a3.Type_ a3.Union a3.HasDefault a3.Default.re a3.Notes)
       (AField.mk f.Num f.Name f.Card f.Key f.Type_ f.Union f.HasDefault f.Default.re f.Notes))
      (.ret (.inr i1)) (.ret (.inl ()))))
   (fun(i1:Int) (y2:Unit)=> .ret (-1)) ())
theorem un1I_is (l:List AField)(f:AField):Is (un1I l f):=
 is_as fun _=>is_each (.inr (by omega)) (fun i1 y2 _ _=>is_ix (by omega) (by omega) (is_br (fun _=>is_ret) (fun _=>is_ret))) (fun y2 _=>is_ret)
def e_un1I:Ent Z:=entN Z [e_un1C] [jS 2 (shp (fun sl=>[.slot 8 false [none]]) (l1 (cInt .i64)))] (argsB (aCons (aLf cd_LAField) (a1 (aFn 245 [0]))) (b1 (bCells cd_AField))) (argsBI (n:=19) rfl) (shr [.slot 0 false [none]] (l1 (cInt .i64))) [0] Tryz.func351 Tryz.ntmps351 (by kernel_rfl) 1 rfl (fun a=>un1I (a.1.1) (a.2)) (fun a=>none) (fun a e _=>by kernel_rfl) (fun a=>ixOf (fun(x:AField)=>(un1CP x (a.2))) (a.1.1)) (fun a h=>⟨un1I_is (a.1.1) (a.2),(fun(l:List AField) f=>forE_ix (fun(x:AField)=>(un1CP x f)) l 0) (a.1.1) (a.2)⟩)
def un1A (l:List AField)(f:AField):Pg Bool:=
 .lt (ixOf (fun(x:AField)=>un1CP x (AField.mk f.Num f.Name f.Card f.Key f.Type_ f.Union f.HasDefault f.Default.re f.Notes)) l) fun(v1:Int)=>
  .ret (decide (0<=v1))
theorem un1A_is (l:List AField)(f:AField):Is (un1A l f):=
 is_lt fun v1 hv1=>is_ret
def e_un1A:Ent Z:=entN Z [e_un1C,e_sfdI,e_un1I] [] (argsB (aCons (aLf cd_LAField) (a1 (aFn 245 [0]))) (b1 (bCells cd_AField))) (argsBI (n:=9) rfl) (shr [.slot 0 false [none]] (l1 cBool)) [0] Tryz.func242 Tryz.ntmps242 (by kernel_rfl) 1 rfl (fun a=>un1A (a.1.1) (a.2)) (fun a=>none) (fun a e _=>by kernel_rfl) (fun a=>(a.1.1).any fun(x:AField)=>(un1CP x (a.2))) (fun a h=>⟨un1A_is (a.1.1) (a.2),(fun(l:List AField) f=>ixOf_any _ l) (a.1.1) (a.2)⟩)
def un2C (x:AField)(f:AField):Pg Bool:=
 .ret (x.Union==f.Union)
def un2CP (x:AField)(f:AField):Bool:=(un2C x f).val
theorem un2C_is (x:AField)(f:AField):Is (un2C x f):=
 is_ret
def e_un2C:Ent Z:=entN Z [] [] (argsB (aCons (aAgg cd_AField) (a1 (aPtr 0))) (b1 (bCells cd_AField))) (argsBI (n:=9) rfl) (shr [.slot 0 false [none]] (l1 cBool)) [0] Tryz.func246 Tryz.ntmps246 (by kernel_rfl) 1 rfl (fun a=>un2C (a.1.1) (a.2)) (fun a=>none) (fun a e _=>by kernel_rfl) (fun a=>un2CP (a.1.1) (a.2)) (fun a h=>⟨un2C_is (a.1.1) (a.2),rfl⟩)
def un2I (l:List AField)(f:AField):Pg Int:=
 .as (l.length<=9223372036854775807)
  (.each false ixI l d_AField
   (fun(i1:Int) (a3:AField) (y2:Unit)=>
    .ix i1 l.length
     (.br
      (un2CP (AField.mk a3.Num a3.Name a3.Card a3.Key a3.Type_ a3.Union a3.HasDefault a3.Default.re a3.Notes)
       (AField.mk f.Num f.Name f.Card f.Key f.Type_ f.Union f.HasDefault f.Default.re f.Notes))
      (.ret (.inr i1)) (.ret (.inl ()))))
   (fun(i1:Int) (y2:Unit)=> .ret (-1)) ())
theorem un2I_is (l:List AField)(f:AField):Is (un2I l f):=
 is_as fun _=>is_each (.inr (by omega)) (fun i1 y2 _ _=>is_ix (by omega) (by omega) (is_br (fun _=>is_ret) (fun _=>is_ret))) (fun y2 _=>is_ret)
def e_un2I:Ent Z:=entN Z [e_un2C] [jS 2 (shp (fun sl=>[.slot 8 false [none]]) (l1 (cInt .i64)))] (argsB (aCons (aLf cd_LAField) (a1 (aFn 246 [0]))) (b1 (bCells cd_AField))) (argsBI (n:=19) rfl) (shr [.slot 0 false [none]] (l1 (cInt .i64))) [0] Tryz.func351 Tryz.ntmps351 (by kernel_rfl) 1 rfl (fun a=>un2I (a.1.1) (a.2)) (fun a=>none) (fun a e _=>by kernel_rfl) (fun a=>ixOf (fun(x:AField)=>(un2CP x (a.2))) (a.1.1)) (fun a h=>⟨un2I_is (a.1.1) (a.2),(fun(l:List AField) f=>forE_ix (fun(x:AField)=>(un2CP x f)) l 0) (a.1.1) (a.2)⟩)
def un2A (l:List AField)(f:AField):Pg Bool:=
 .lt (ixOf (fun(x:AField)=>un2CP x (AField.mk f.Num f.Name f.Card f.Key f.Type_ f.Union f.HasDefault f.Default.re f.Notes)) l) fun(v1:Int)=>
  .ret (decide (0<=v1))
theorem un2A_is (l:List AField)(f:AField):Is (un2A l f):=
 is_lt fun v1 hv1=>is_ret
def e_un2A:Ent Z:=entN Z [e_un2C,e_sfdI,e_un1I,e_un2I] [] (argsB (aCons (aLf cd_LAField) (a1 (aFn 246 [0]))) (b1 (bCells cd_AField))) (argsBI (n:=9) rfl) (shr [.slot 0 false [none]] (l1 cBool)) [0] Tryz.func242 Tryz.ntmps242 (by kernel_rfl) 1 rfl (fun a=>un2A (a.1.1) (a.2)) (fun a=>none) (fun a e _=>by kernel_rfl) (fun a=>(a.1.1).any fun(x:AField)=>(un2CP x (a.2))) (fun a h=>⟨un2A_is (a.1.1) (a.2),(fun(l:List AField) f=>ixOf_any _ l) (a.1.1) (a.2)⟩)
def cUnited (m:Message)(i:Int):Pg Bool:=
 .ix i m.Fields.length
  (.br ((m.Fields.getD i.toNat d_AField).Union==[]) (.ret true)
   (.br ((m.Fields.getD i.toNat d_AField).Card !=2) (.ret false)
    (.br (!uPartP (m.Fields.getD i.toNat d_AField).Union) (.ret false)
     (.br
      (m.Fields.any fun(x:AField)=>
       un1CP x
        (AField.mk (m.Fields.getD i.toNat d_AField).Num (m.Fields.getD i.toNat d_AField).Name (m.Fields.getD i.toNat d_AField).Card (m.Fields.getD i.toNat d_AField).Key
         (m.Fields.getD i.toNat d_AField).Type_ (m.Fields.getD i.toNat d_AField).Union (m.Fields.getD i.toNat d_AField).HasDefault
         (m.Fields.getD i.toNat d_AField).Default.re (m.Fields.getD i.toNat d_AField).Notes))
      (.ret false)
      (.ob ((0:Int)<=0/\0<=i/\i<=(↑m.Fields.length:Int))
       (.br
        (!(List.take i.toNat m.Fields).any fun(x:AField)=>
          un2CP x
           (AField.mk (m.Fields.getD i.toNat d_AField).Num (m.Fields.getD i.toNat d_AField).Name (m.Fields.getD i.toNat d_AField).Card (m.Fields.getD i.toNat d_AField).Key
            (m.Fields.getD i.toNat d_AField).Type_ (m.Fields.getD i.toNat d_AField).Union (m.Fields.getD i.toNat d_AField).HasDefault
            (m.Fields.getD i.toNat d_AField).Default.re (m.Fields.getD i.toNat d_AField).Notes))
        (.ret true)
        (.lt (wrp .i64 (i - 1)) fun(v1:Int)=>
         .ix v1 m.Fields.length (.ret ((m.Fields.getD v1.toNat d_AField).Union==(m.Fields.getD i.toNat d_AField).Union)))))))))
def cUnitedP (m:Message)(i:Int):Bool:=(cUnited m i).val
theorem cUnited_is (m:Message)(i:Int)(h:0<=i/\i < m.Fields.length/\m.Fields.length<=1048576):Is (cUnited m i):=
 by
 refine is_ix (by omega) (by omega) (is_br (fun _=>is_ret) (fun _=>is_bne (fun _=>is_ret) (fun _=>is_br (fun _=>is_ret) (fun _=>is_br (fun _=>is_ret) (fun _=>is_ob ⟨by omega,by omega,by omega⟩ (is_br (fun _=>is_ret) (fun hb=> ?_)))))))
 have h0:0 < i:=by
  rcases Int.lt_or_le 0 i with h0 | h0
  ·exact h0
  ·rw[show i.toNat=0 by omega,List.take_zero]at hb
   cases hb
 exact is_ltw fun v1 hv1 h1=>is_ix (by omega) (by omega) is_ret
def e_cUnited:Ent Z:=entN Z [e_uPart,e_sfdA,e_un1A,e_un2A,e_un1C,e_un2C] [] (args (aCons (aAgg cd_Message) (a1 (aLf (cInt .i64))))) (argsI (n:=50) rfl) (shr [.slot 0 false [none]] (l1 cBool)) [] Tryz.func170 Tryz.ntmps170 (by kernel_rfl) 1 rfl (fun a=>cUnited (a.1) (a.2)) (fun a=>some (0<=(a.2)/\(a.2) < (a.1).Fields.length/\(a.1).Fields.length<=1048576)) (fun a e _=>by kernel_rfl) (fun a=>cUnitedP (a.1) (a.2)) (fun a h=>⟨cUnited_is (a.1) (a.2) h,rfl⟩)
def dflC (x:Item)(f:AField):Pg Bool:=
 .ret (wrp .u64 x.Num==f.Default.Bits)
def dflCP (x:Item)(f:AField):Bool:=(dflC x f).val
theorem dflC_is (x:Item)(f:AField):Is (dflC x f):=
 is_ret
def e_dflC:Ent Z:=entN Z [] [] (argsB (aCons (aAgg cd_Item) (a1 (aPtr 0))) (b1 (bCells cd_AField))) (argsBI (n:=11) rfl) (shr [.slot 0 false [none]] (l1 cBool)) [0] Tryz.func250 Tryz.ntmps250 (by kernel_rfl) 1 rfl (fun a=>dflC (a.1.1) (a.2)) (fun a=>none) (fun a e _=>by kernel_rfl) (fun a=>dflCP (a.1.1) (a.2)) (fun a h=>⟨dflC_is (a.1.1) (a.2),rfl⟩)
def dflI (l:List Item)(f:AField):Pg Int:=
 .as (l.length<=9223372036854775807)
  (.each false ixI l d_Item
   (fun(i1:Int) (a3:Item) (y2:Unit)=>
    .ix i1 l.length (.br (dflCP a3 (AField.mk f.Num f.Name f.Card f.Key f.Type_ f.Union f.HasDefault f.Default.re f.Notes)) (.ret (.inr i1)) (.ret (.inl ()))))
   (fun(i1:Int) (y2:Unit)=> .ret (-1)) ())
theorem dflI_is (l:List Item)(f:AField):Is (dflI l f):=
 is_as fun _=>is_each (.inr (by omega)) (fun i1 y2 _ _=>is_ix (by omega) (by omega) (is_br (fun _=>is_ret) (fun _=>is_ret))) (fun y2 _=>is_ret)
def e_dflI:Ent Z:=entN Z [e_dflC] [jS 2 (shp (fun sl=>[.slot 8 false [none]]) (l1 (cInt .i64)))] (argsB (aCons (aLf cd_LItem) (a1 (aFn 250 [0]))) (b1 (bCells cd_AField))) (argsBI (n:=19) rfl) (shr [.slot 0 false [none]] (l1 (cInt .i64))) [0] Tryz.func252 Tryz.ntmps252 (by kernel_rfl) 1 rfl (fun a=>dflI (a.1.1) (a.2)) (fun a=>none) (fun a e _=>by kernel_rfl) (fun a=>ixOf (fun(x:Item)=>(dflCP x (a.2))) (a.1.1)) (fun a h=>⟨dflI_is (a.1.1) (a.2),(fun(l:List Item) f=>forE_ix (fun(x:Item)=>(dflCP x f)) l 0) (a.1.1) (a.2)⟩)
def dflA (l:List Item)(f:AField):Pg Bool:=
 .lt (ixOf (fun(x:Item)=>dflCP x (AField.mk f.Num f.Name f.Card f.Key f.Type_ f.Union f.HasDefault f.Default.re f.Notes)) l) fun(v1:Int)=>
  .ret (decide (0<=v1))
theorem dflA_is (l:List Item)(f:AField):Is (dflA l f):=
 is_lt fun v1 hv1=>is_ret
def e_dflA:Ent Z:=entN Z [e_dflC,e_sitI,e_dflI] [] (argsB (aCons (aLf cd_LItem) (a1 (aFn 250 [0]))) (b1 (bCells cd_AField))) (argsBI (n:=9) rfl) (shr [.slot 0 false [none]] (l1 cBool)) [0] Tryz.func174 Tryz.ntmps174 (by kernel_rfl) 1 rfl (fun a=>dflA (a.1.1) (a.2)) (fun a=>none) (fun a e _=>by kernel_rfl) (fun a=>(a.1.1).any fun(x:Item)=>(dflCP x (a.2))) (fun a h=>⟨dflA_is (a.1.1) (a.2),(fun(l:List Item) f=>ixOf_any _ l) (a.1.1) (a.2)⟩)
def cDefaulted (s:Schema)(f:AField):Pg Bool:=
 .br (!f.HasDefault) (.ret (cZeroP f.Default.re))
  (.br (f.Card !=2) (.ret false)
   (.br (f.Union !=[]) (.ret false)
    (.br (!sFitsP f.Type_.Kind f.Default.re) (.ret false)
     (.br ((sNormP f.Default.re).Bits !=f.Default.Bits) (.ret false)
      (.br (f.Type_.Kind !=9) (.ret true)
       (.lt (cEnumP s f.Type_.Name) fun(v1:Enum×Bool)=>
        .br v1.snd (.ret (v1.fst.Items.any fun(x:Item)=>dflCP x (AField.mk f.Num f.Name f.Card f.Key f.Type_ f.Union f.HasDefault f.Default.re f.Notes)))
         (.ret false)))))))
def cDefaultedP (s:Schema)(f:AField):Bool:=(cDefaulted s f).val
theorem cDefaulted_is (s:Schema)(f:AField):Is (cDefaulted s f):=
 is_br (fun _=>is_ret) (fun _=>is_bne (fun _=>is_ret) (fun _=>is_br (fun _=>is_ret) (fun _=>is_br (fun _=>is_ret) (fun _=>is_bne (fun _=>is_ret) (fun _=>is_bne (fun _=>is_ret) (fun _=>is_lt fun v1 hv1=>is_br (fun _=>is_ret) (fun _=>is_ret)))))))
def e_cDefaulted:Ent Z:=entN Z [e_sitA,e_dflA,e_cEnum,e_cZero,e_sFits,e_sNorm,e_dflC] [] (args (aCons (aAgg cd_Schema) (a1 (aAgg cd_AField)))) (argsI (n:=59) rfl) (shr [.slot 0 false [none]] (l1 cBool)) [] Tryz.func171 Tryz.ntmps171 (by kernel_rfl) 1 rfl (fun a=>cDefaulted (a.1) (a.2)) (fun a=>none) (fun a e _=>by kernel_rfl) (fun a=>cDefaultedP (a.1) (a.2)) (fun a h=>⟨cDefaulted_is (a.1) (a.2),rfl⟩)
def cNeeds (m:Message):Pg (List Str):=
 .as (m.Fields.length<=9223372036854775807)
  (.each false ixP m.Fields d_AField
   (fun(i1:Int) (a3:AField) (y2:List Str)=>
    .ix i1 m.Fields.length
     (.br (a3.Card==1)
      (.br (a3.Type_.Kind==10) (.ob (roomP (y2.length+1) 16) (.ret (.inl (y2++[a3.Type_.Name])))) (.ret (.inl y2)))
      (.ret (.inl y2))))
   (fun(i1:Int) (y2:List Str)=> .ret y2) [])
def cNeedsP (m:Message):List Str:=(cNeeds m).val
theorem cNeeds_isP (m:Message)(h:m.Fields.length<=1048576):IsP (cNeeds m) (fun r=>r.length<=m.Fields.length):=
 isP_as <| isP_each (fun(i1:Nat) y2=>y2.length<=i1) (by simp) (by omega) (fun i1 y2 hlti1 hIi1=>have hI:y2.length<=i1:=hIi1;isP_ix (by omega) (by omega) (isP_beq (fun _=>isP_beq (fun _=>isP_ob ((room_of (by omega) (by omega))) (isP_ret (by(try simp only[Sum.elim_inl,Sum.elim_inr])<;>(first | trivial | omega | (simp only[List.length_append,List.length_cons,List.length_nil];omega))))) (fun _=>isP_ret (by(try simp only[Sum.elim_inl,Sum.elim_inr])<;>(first | trivial | omega | (simp only[List.length_append,List.length_cons,List.length_nil];omega))))) (fun _=>isP_ret (by(try simp only[Sum.elim_inl,Sum.elim_inr])<;>(first | trivial | omega | (simp only[List.length_append,List.length_cons,List.length_nil];omega)))))) (fun y2 hI=>have hI:y2.length<=m.Fields.length:=hI;isP_ret (by(try simp only[Sum.elim_inl,Sum.elim_inr])<;>(first | trivial | omega | (simp only[List.length_append,List.length_cons,List.length_nil];omega))))
theorem cNeeds_is (m:Message)(h:m.Fields.length<=1048576):Is (cNeeds m):=(cNeeds_isP m h).1
def e_cNeeds:Ent Z:=entN Z [] [jS 3 (shp (fun sl=>[.slot 9 false [none], .slot 3 false [some 9]]) (lCons (cInt .i64) (l1 cd_Lstr)))] (args (a1 (aAgg cd_Message))) (argsI (n:=30) rfl) (shr [.slot 0 false [none]] (l1 cd_Lstr)) [] Tryz.func105 Tryz.ntmps105 (by kernel_rfl) 1 rfl (fun a=>cNeeds a) (fun a=>some (a.Fields.length<=1048576)) (fun a e _=>by kernel_rfl) (fun a=>cNeedsP a) (fun a h=>⟨cNeeds_is a h,rfl⟩)
end
end Go.Proofs.YtiibcbmenoaigaaGreatDoor
