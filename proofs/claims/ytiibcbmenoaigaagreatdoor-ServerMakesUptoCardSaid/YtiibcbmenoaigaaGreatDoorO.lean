/- Server: the reference's comparisons. -/
import Derived.Test.YtiibcbmenoaigaaGreatDoorLa
namespace Go.Proofs.YtiibcbmenoaigaaGreatDoor
noncomputable section
open Go.RowKit Go.Vc
set_option linter.unusedVariables false
set_option linter.unusedSimpArgs false
set_option maxRecDepth 100000
mutual
def nV:AVal->Nat
 | .mk _ _ _ l p s _=>nVs l+nPs p+nSs s+1
def nVs:List AVal->Nat
 | []=>0
 | x::l=>nV x+nVs l
def nP:Pair->Nat
 | .mk k v=>nV k+nV v
def nPs:List Pair->Nat
 | []=>0
 | x::l=>nP x+nPs l
def nS:Slot->Nat
 | .mk _ v=>nV v
def nSs:List Slot->Nat
 | []=>0
 | x::l=>nS x+nSs l
end
theorem nVs_mem:∀{l:List AVal} {x:AVal},x∈l->nV x<=nVs l
 | y::l,x,h=>by
  rcases List.mem_cons.1 h with rfl | h
  ·simp[nVs]
  ·have:=nVs_mem h;simp[nVs];omega
theorem nPs_mem:∀{l:List Pair} {x:Pair},x∈l->nP x<=nPs l
 | y::l,x,h=>by
  rcases List.mem_cons.1 h with rfl | h
  ·simp[nPs]
  ·have:=nPs_mem h;simp[nPs];omega
theorem nSs_mem:∀{l:List Slot} {x:Slot},x∈l->nS x<=nSs l
 | y::l,x,h=>by
  rcases List.mem_cons.1 h with rfl | h
  ·simp[nSs]
  ·have:=nSs_mem h;simp[nSs];omega
theorem nV_eq (v:AVal):nV v=nVs v.List+nPs v.Pairs+nSs v.Slots+1:=by cases v;simp[nV,AVal.List,AVal.Pairs,AVal.Slots]
theorem nP_eq (x:Pair):nP x=nV x.Key+nV x.Val:=by cases x;simp[nP,Pair.Key,Pair.Val]
theorem nS_eq (x:Slot):nS x=nV x.Val:=by cases x;simp[nS,Slot.Val]
def r9sv (r9svR:AVal->AVal->Bool)(r9svQ:AVal->AVal->Prop)(a:AVal)(b:AVal):Pg Bool:=
 .br (a.Kind !=b.Kind) (.ret false)
  (.br (a.Bits !=b.Bits) (.ret false)
   (.br (a.Text !=b.Text) (.ret false)
    (.br ((↑a.List.length:Int) !=(↑b.List.length:Int))
     (.as (a.List.length<=9223372036854775807) (.as (b.List.length<=9223372036854775807) (.ret false)))
     (.br ((↑a.Pairs.length:Int) !=(↑b.Pairs.length:Int))
      (.as (a.List.length<=9223372036854775807)
       (.as (b.List.length<=9223372036854775807)
        (.as (a.Pairs.length<=9223372036854775807) (.as (b.Pairs.length<=9223372036854775807) (.ret false)))))
      (.br ((↑a.Slots.length:Int) !=(↑b.Slots.length:Int))
       (.as (a.List.length<=9223372036854775807)
        (.as (b.List.length<=9223372036854775807)
         (.as (a.Pairs.length<=9223372036854775807)
          (.as (b.Pairs.length<=9223372036854775807)
           (.as (a.Slots.length<=9223372036854775807) (.as (b.Slots.length<=9223372036854775807) (.ret false)))))))
       (.as (a.List.length<=9223372036854775807)
        (.as (b.List.length<=9223372036854775807)
         (.as (a.Pairs.length<=9223372036854775807)
          (.as (b.Pairs.length<=9223372036854775807)
           (.as (a.Slots.length<=9223372036854775807)
            (.as (b.Slots.length<=9223372036854775807)
             (.as (a.Raws.length<=9223372036854775807)
              (.as (b.Raws.length<=9223372036854775807)
               (.br ((↑a.Raws.length:Int) !=(↑b.Raws.length:Int)) (.ret false)
                (.cut
                 (fun(y4:Unit)=>
                  .cut
                   (fun(y8:Unit)=>
                    .cut
                     (fun(y12:Unit)=>
                      .each true ixI a.Raws d_Raw
                       (fun(i13:Int) (a15:Raw) (y14:Unit)=>
                        .ix i13 a.Raws.length
                         (.ix i13 b.Raws.length
                          (.br
                           (!(a15.Num==(b.Raws.getD i13.toNat d_Raw).Num &&
                             (a15.Wire==(b.Raws.getD i13.toNat d_Raw).Wire &&
                              (a15.Bits==(b.Raws.getD i13.toNat d_Raw).Bits && (a15.Data==(b.Raws.getD i13.toNat d_Raw).Data && true)))))
                           (.ret (.inr false)) (.ret (.inl ())))))
                       (fun(i13:Int) (y14:Unit)=> .ret true) ())
                     (.each true ixI a.Slots d_Slot
                      (fun(i9:Int) (a11:Slot) (y10:Unit)=>
                       .ix i9 a.Slots.length
                        (.ix i9 b.Slots.length
                         (.br (a11.Num !=(b.Slots.getD i9.toNat d_Slot).Num) (.ret (.inr (.inr false)))
                          (.ix i9 a.Slots.length
                           (.ix i9 b.Slots.length
                            (.ob (r9svQ a11.Val.re (b.Slots.getD i9.toNat d_Slot).Val.re)
                             (.br (!r9svR a11.Val.re (b.Slots.getD i9.toNat d_Slot).Val.re) (.ret (.inr (.inr false)))
                              (.ret (.inl ())))))))))
                      (fun(i9:Int) (y10:Unit)=> .ret (.inl ())) ()))
                   (.each true ixI a.Pairs d_Pair
                    (fun(i5:Int) (a7:Pair) (y6:Unit)=>
                     .ix i5 a.Pairs.length
                      (.ix i5 b.Pairs.length
                       (.ob (r9svQ a7.Key.re (b.Pairs.getD i5.toNat d_Pair).Key.re)
                        (.br (!r9svR a7.Key.re (b.Pairs.getD i5.toNat d_Pair).Key.re) (.ret (.inr (.inr false)))
                         (.ix i5 a.Pairs.length
                          (.ix i5 b.Pairs.length
                           (.ob (r9svQ a7.Val.re (b.Pairs.getD i5.toNat d_Pair).Val.re)
                            (.br (!r9svR a7.Val.re (b.Pairs.getD i5.toNat d_Pair).Val.re) (.ret (.inr (.inr false)))
                             (.ret (.inl ()))))))))))
                    (fun(i5:Int) (y6:Unit)=> .ret (.inl ())) ()))
                 (.each true ixI a.List d_AVal
                  (fun(i1:Int) (a3:AVal) (y2:Unit)=>
                   .ix i1 a.List.length
                    (.ix i1 b.List.length
                     (.ob (r9svQ a3.re (b.List.getD i1.toNat d_AVal).re)
                      (.br (!r9svR a3.re (b.List.getD i1.toNat d_AVal).re) (.ret (.inr (.inr false))) (.ret (.inl ()))))))
                  (fun(i1:Int) (y2:Unit)=> .ret (.inl ())) ()))))))))))))))))
def r9svQ (fu:Nat)(a:AVal)(b:AVal):Prop:=nV a < fu
def r9rV:Nat->(AVal->AVal->Bool)
 | 0=>(fun _ _=>default)
 | fu+1=>(fun a b=>(r9sv ((r9rV fu)) (r9svQ fu) a b).val)
def r9svP (a:AVal)(b:AVal):Bool:=(r9rV (nV a+1)) a b
theorem r9sv_is (fu:Nat)(a:AVal)(b:AVal)(h:r9svQ (fu+1) a b):Is (r9sv ((r9rV fu)) (r9svQ fu) a b):=
 by
 have h:nV a < fu+1:=h;have hv:=nV_eq a
 exact is_bne (fun _=>is_ret) (fun _=>is_bne (fun _=>is_ret) (fun _=>is_br (fun _=>is_ret) (fun _=>is_bne (fun _=>is_as fun _=>is_as fun _=>is_ret) (fun _=>is_bne (fun _=>is_as fun _=>is_as fun _=>is_as fun _=>is_as fun _=>is_ret) (fun _=>is_bne (fun _=>is_as fun _=>is_as fun _=>is_as fun _=>is_as fun _=>is_as fun _=>is_as fun _=>is_ret) (fun _=>is_as fun _=>is_as fun _=>is_as fun _=>is_as fun _=>is_as fun _=>is_as fun _=>is_as fun _=>is_as fun _=>is_bne (fun _=>is_ret) (fun _=>is_cut (is_each (.inl rfl) (fun i1 y2 _ _=>is_ix (by omega) (by omega) (is_ix (by omega) (by omega) (is_ob (by have h1:=nVs_mem (getD_mem (d:=d_AVal) (show i1 < a.List.length by omega));simp only[r9svQ,AVal.re_eq];omega) (is_br (fun _=>is_ret) (fun _=>is_ret))))) (fun y2 _=>is_ret)) (fun y4 hy4=>is_cut (is_each (.inl rfl) (fun i5 y6 _ _=>is_ix (by omega) (by omega) (is_ix (by omega) (by omega) (is_ob (by have h1:=nPs_mem (getD_mem (d:=d_Pair) (show i5 < a.Pairs.length by omega));have h2:=nP_eq (a.Pairs.getD i5 d_Pair);simp only[r9svQ,AVal.re_eq];omega) (is_br (fun _=>is_ret) (fun _=>is_ix (by omega) (by omega) (is_ix (by omega) (by omega) (is_ob (by have h1:=nPs_mem (getD_mem (d:=d_Pair) (show i5 < a.Pairs.length by omega));have h2:=nP_eq (a.Pairs.getD i5 d_Pair);simp only[r9svQ,AVal.re_eq];omega) (is_br (fun _=>is_ret) (fun _=>is_ret))))))))) (fun y6 _=>is_ret)) (fun y8 hy8=>is_cut (is_each (.inl rfl) (fun i9 y10 _ _=>is_ix (by omega) (by omega) (is_ix (by omega) (by omega) (is_bne (fun _=>is_ret) (fun _=>is_ix (by omega) (by omega) (is_ix (by omega) (by omega) (is_ob (by have h1:=nSs_mem (getD_mem (d:=d_Slot) (show i9 < a.Slots.length by omega));have h2:=nS_eq (a.Slots.getD i9 d_Slot);simp only[r9svQ,AVal.re_eq];omega) (is_br (fun _=>is_ret) (fun _=>is_ret)))))))) (fun y10 _=>is_ret)) (fun y12 hy12=>is_each (.inl rfl) (fun i13 y14 _ _=>is_ix (by omega) (by omega) (is_ix (by omega) (by omega) (is_br (fun _=>is_ret) (fun _=>is_ret)))) (fun y14 _=>is_ret)))))))))))
theorem r9r_ok:∀fu,CtOk Z.P Z.S 201 (ctN (args (aCons (aAgg cd_AVal) (a1 (aAgg cd_AVal)))) (shr [.slot 0 false [none]] (l1 cBool)) 1 [] (fun a=>some (r9svQ fu (a.1) (a.2))) (fun a=>(r9rV fu) (a.1) (a.2)))
 | 0=>ct_zero Tryz.func201 (by kernel_rfl) (fun a h=>absurd h (Nat.not_lt_zero _))
 | fu+1=>by
  have h0:=r9r_ok fu
  exact ct_ofN (fun _ _=>envL_ok (l:=[⟨201,_,h0⟩])) (J:=[jS 4 (shp (fun sl=>[.slot 5 false [none]]) (l1 (cInt .i64))),jS 9 (shp (fun sl=>[.slot 6 false [none]]) (l1 (cInt .i64))),jS 14 (shp (fun sl=>[.slot 7 false [none]]) (l1 (cInt .i64))),jS 19 (shp (fun sl=>[.slot 8 false [none]]) (l1 (cInt .i64))),jS 100008 (shp (fun sl=>[]) l0),jS 100013 (shp (fun sl=>[]) l0),jS 100018 (shp (fun sl=>[]) l0)]) (argsI (n:=174) rfl) inferInstance Tryz.func201 Tryz.ntmps201 (by kernel_rfl) 1 rfl (fun a=>r9sv ((r9rV fu)) (r9svQ fu) (a.1) (a.2)) _ (fun a e _=>by kernel_rfl) _ (fun a h=>⟨r9sv_is fu (a.1) (a.2) h,rfl⟩)
def e_r9sv:Ent Z:=⟨201,ctN (args (aCons (aAgg cd_AVal) (a1 (aAgg cd_AVal)))) (shr [.slot 0 false [none]] (l1 cBool)) 1 [] (fun a=>none) (fun a=>r9svP (a.1) (a.2)),ctFam_ok (fun n=>((r9r_ok n))) _ _ (fun a h=>⟨nV (a.1)+1,Nat.lt_succ_self _,rfl⟩)⟩
def r9notes (a:List Note)(b:List Note):Pg Bool:=
 .as (a.length<=9223372036854775807)
  (.as (b.length<=9223372036854775807)
   (.br ((↑a.length:Int) !=(↑b.length:Int)) (.ret false)
    (.each true ixI a d_Note
     (fun(i1:Int) (a3:Note) (y2:Unit)=>
      .ix i1 a.length
       (.ix i1 b.length
        (.br (a3.Name !=(b.getD i1.toNat d_Note).Name) (.ret (.inr false))
         (.ix i1 a.length (.ix i1 b.length (.br (!r9svP a3.Val.re (b.getD i1.toNat d_Note).Val.re) (.ret (.inr false)) (.ret (.inl ()))))))))
     (fun(i1:Int) (y2:Unit)=> .ret true) ())))
def r9notesP (a:List Note)(b:List Note):Bool:=(r9notes a b).val
theorem r9notes_is (a:List Note)(b:List Note):Is (r9notes a b):=
 is_as fun _=>is_as fun _=>is_bne (fun _=>is_ret) (fun _=>is_each (.inl rfl) (fun i1 y2 _ _=>is_ix (by omega) (by omega) (is_ix (by omega) (by omega) (is_br (fun _=>is_ret) (fun _=>is_ix (by omega) (by omega) (is_ix (by omega) (by omega) (is_br (fun _=>is_ret) (fun _=>is_ret))))))) (fun y2 _=>is_ret))
def e_r9notes:Ent Z:=entN Z [e_r9sv] [jS 4 (shp (fun sl=>[.slot 5 false [none]]) (l1 (cInt .i64)))] (args (aCons (aLf cd_LNote) (a1 (aLf cd_LNote)))) (argsI (n:=42) rfl) (shr [.slot 0 false [none]] (l1 cBool)) [] Tryz.func141 Tryz.ntmps141 (by kernel_rfl) 1 rfl (fun a=>r9notes (a.1) (a.2)) (fun a=>none) (fun a e _=>by kernel_rfl) (fun a=>r9notesP (a.1) (a.2)) (fun a h=>⟨r9notes_is (a.1) (a.2),rfl⟩)
def r9field (a:AField)(b:AField):Pg Bool:=
 .br (a.Num==b.Num)
  (.br (a.Name==b.Name)
   (.br (a.Card==b.Card)
    (.br (a.Key==b.Key)
     (.br (a.Type_.Kind==b.Type_.Kind)
      (.br (a.Type_.Name==b.Type_.Name)
       (.br (a.Union==b.Union)
        (.br (a.HasDefault==b.HasDefault) (.br (r9svP a.Default.re b.Default.re) (.ret (r9notesP a.Notes b.Notes)) (.ret false)) (.ret false)) (.ret false))
       (.ret false))
      (.ret false))
     (.ret false))
    (.ret false))
   (.ret false))
  (.ret false)
def r9fieldP (a:AField)(b:AField):Bool:=(r9field a b).val
theorem r9field_is (a:AField)(b:AField):Is (r9field a b):=
 is_beq (fun _=>is_br (fun _=>is_beq (fun _=>is_beq (fun _=>is_beq (fun _=>is_br (fun _=>is_br (fun _=>is_br (fun _=>is_br (fun _=>is_ret) (fun _=>is_ret)) (fun _=>is_ret)) (fun _=>is_ret)) (fun _=>is_ret)) (fun _=>is_ret)) (fun _=>is_ret)) (fun _=>is_ret)) (fun _=>is_ret)) (fun _=>is_ret)
def e_r9field:Ent Z:=entN Z [e_r9notes,e_r9sv] [] (args (aCons (aAgg cd_AField) (a1 (aAgg cd_AField)))) (argsI (n:=77) rfl) (shr [.slot 0 false [none]] (l1 cBool)) [] Tryz.func142 Tryz.ntmps142 (by kernel_rfl) 1 rfl (fun a=>r9field (a.1) (a.2)) (fun a=>none) (fun a e _=>by kernel_rfl) (fun a=>r9fieldP (a.1) (a.2)) (fun a h=>⟨r9field_is (a.1) (a.2),rfl⟩)
def r9spans (a:List Span)(b:List Span):Pg Bool:=
 .as (a.length<=9223372036854775807)
  (.as (b.length<=9223372036854775807)
   (.br ((↑a.length:Int) !=(↑b.length:Int)) (.ret false)
    (.each true ixI a d_Span
     (fun(i1:Int) (a3:Span) (y2:Unit)=>
      .ix i1 a.length
       (.ix i1 b.length
        (.br (a3.From !=(b.getD i1.toNat d_Span).From) (.ret (.inr false))
         (.ix i1 a.length (.ix i1 b.length (.br (a3.To !=(b.getD i1.toNat d_Span).To) (.ret (.inr false)) (.ret (.inl ()))))))))
     (fun(i1:Int) (y2:Unit)=> .ret true) ())))
def r9spansP (a:List Span)(b:List Span):Bool:=(r9spans a b).val
theorem r9spans_is (a:List Span)(b:List Span):Is (r9spans a b):=
 is_as fun _=>is_as fun _=>is_bne (fun _=>is_ret) (fun _=>is_each (.inl rfl) (fun i1 y2 _ _=>is_ix (by omega) (by omega) (is_ix (by omega) (by omega) (is_bne (fun _=>is_ret) (fun _=>is_ix (by omega) (by omega) (is_ix (by omega) (by omega) (is_bne (fun _=>is_ret) (fun _=>is_ret))))))) (fun y2 _=>is_ret))
def e_r9spans:Ent Z:=entN Z [] [jS 4 (shp (fun sl=>[.slot 5 false [none]]) (l1 (cInt .i64)))] (args (aCons (aLf cd_LSpan) (a1 (aLf cd_LSpan)))) (argsI (n:=41) rfl) (shr [.slot 0 false [none]] (l1 cBool)) [] Tryz.func139 Tryz.ntmps139 (by kernel_rfl) 1 rfl (fun a=>r9spans (a.1) (a.2)) (fun a=>none) (fun a e _=>by kernel_rfl) (fun a=>r9spansP (a.1) (a.2)) (fun a h=>⟨r9spans_is (a.1) (a.2),rfl⟩)
def r6texts (a:List Str)(b:List Str):Pg Bool:=
 .as (a.length<=9223372036854775807)
  (.as (b.length<=9223372036854775807)
   (.br ((↑a.length:Int) !=(↑b.length:Int)) (.ret false)
    (.each true ixI a []
     (fun(i1:Int) (a3:Str) (y2:Unit)=> .ix i1 a.length (.ix i1 b.length (.br (a3 !=b.getD i1.toNat []) (.ret (.inr false)) (.ret (.inl ())))))
     (fun(i1:Int) (y2:Unit)=> .ret true) ())))
def r6textsP (a:List Str)(b:List Str):Bool:=(r6texts a b).val
theorem r6texts_is (a:List Str)(b:List Str):Is (r6texts a b):=
 is_as fun _=>is_as fun _=>is_bne (fun _=>is_ret) (fun _=>is_each (.inl rfl) (fun i1 y2 _ _=>is_ix (by omega) (by omega) (is_ix (by omega) (by omega) (is_br (fun _=>is_ret) (fun _=>is_ret)))) (fun y2 _=>is_ret))
def e_r6texts:Ent Z:=entN Z [] [jS 4 (shp (fun sl=>[.slot 5 false [none]]) (l1 (cInt .i64)))] (args (aCons (aLf cd_Lstr) (a1 (aLf cd_Lstr)))) (argsI (n:=26) rfl) (shr [.slot 0 false [none]] (l1 cBool)) [] Tryz.func140 Tryz.ntmps140 (by kernel_rfl) 1 rfl (fun a=>r6texts (a.1) (a.2)) (fun a=>none) (fun a e _=>by kernel_rfl) (fun a=>r6textsP (a.1) (a.2)) (fun a h=>⟨r6texts_is (a.1) (a.2),rfl⟩)
def r9msg (a:Message)(b:Message):Pg Bool:=
 .br (a.Name !=b.Name) (.ret false)
  (.br ((↑a.Fields.length:Int) !=(↑b.Fields.length:Int))
   (.as (a.Fields.length<=9223372036854775807) (.as (b.Fields.length<=9223372036854775807) (.ret false)))
   (.br (!r9spansP a.Reserved b.Reserved) (.as (a.Fields.length<=9223372036854775807) (.as (b.Fields.length<=9223372036854775807) (.ret false)))
    (.br (!r6textsP a.Gone b.Gone) (.as (a.Fields.length<=9223372036854775807) (.as (b.Fields.length<=9223372036854775807) (.ret false)))
     (.as (a.Fields.length<=9223372036854775807)
      (.as (b.Fields.length<=9223372036854775807)
       (.br (!r9notesP a.Notes b.Notes) (.ret false)
        (.each true ixI a.Fields d_AField
         (fun(i1:Int) (a3:AField) (y2:Unit)=>
          .ix i1 a.Fields.length
           (.ix i1 b.Fields.length
            (.br
             (!r9fieldP (AField.mk a3.Num a3.Name a3.Card a3.Key a3.Type_ a3.Union a3.HasDefault a3.Default.re a3.Notes)
               (AField.mk (b.Fields.getD i1.toNat d_AField).Num (b.Fields.getD i1.toNat d_AField).Name (b.Fields.getD i1.toNat d_AField).Card
                (b.Fields.getD i1.toNat d_AField).Key (b.Fields.getD i1.toNat d_AField).Type_ (b.Fields.getD i1.toNat d_AField).Union
                (b.Fields.getD i1.toNat d_AField).HasDefault (b.Fields.getD i1.toNat d_AField).Default.re (b.Fields.getD i1.toNat d_AField).Notes))
             (.ret (.inr false)) (.ret (.inl ())))))
         (fun(i1:Int) (y2:Unit)=> .ret true) ())))))))
def r9msgP (a:Message)(b:Message):Bool:=(r9msg a b).val
theorem r9msg_is (a:Message)(b:Message):Is (r9msg a b):=
 is_br (fun _=>is_ret) (fun _=>is_bne (fun _=>is_as fun _=>is_as fun _=>is_ret) (fun _=>is_br (fun _=>is_as fun _=>is_as fun _=>is_ret) (fun _=>is_br (fun _=>is_as fun _=>is_as fun _=>is_ret) (fun _=>is_as fun _=>is_as fun _=>is_br (fun _=>is_ret) (fun _=>is_each (.inl rfl) (fun i1 y2 _ _=>is_ix (by omega) (by omega) (is_ix (by omega) (by omega) (is_br (fun _=>is_ret) (fun _=>is_ret)))) (fun y2 _=>is_ret))))))
def e_r9msg:Ent Z:=entN Z [e_r9spans,e_r6texts,e_r9notes,e_r9field] [jS 4 (shp (fun sl=>[.slot 5 false [none]]) (l1 (cInt .i64)))] (args (aCons (aAgg cd_Message) (a1 (aAgg cd_Message)))) (argsI (n:=63) rfl) (shr [.slot 0 false [none]] (l1 cBool)) [] Tryz.func86 Tryz.ntmps86 (by kernel_rfl) 1 rfl (fun a=>r9msg (a.1) (a.2)) (fun a=>none) (fun a e _=>by kernel_rfl) (fun a=>r9msgP (a.1) (a.2)) (fun a h=>⟨r9msg_is (a.1) (a.2),rfl⟩)
def r9enum (a:Enum)(b:Enum):Pg Bool:=
 .br (a.Name !=b.Name) (.ret false)
  (.br (a.Open !=b.Open) (.ret false)
   (.br ((↑a.Items.length:Int) !=(↑b.Items.length:Int))
    (.as (a.Items.length<=9223372036854775807) (.as (b.Items.length<=9223372036854775807) (.ret false)))
    (.br (!r9spansP a.Reserved b.Reserved) (.as (a.Items.length<=9223372036854775807) (.as (b.Items.length<=9223372036854775807) (.ret false)))
     (.as (a.Items.length<=9223372036854775807)
      (.as (b.Items.length<=9223372036854775807)
       (.br (!r9notesP a.Notes b.Notes) (.ret false)
        (.each true ixI a.Items d_Item
         (fun(i1:Int) (a3:Item) (y2:Unit)=>
          .ix i1 a.Items.length
           (.ix i1 b.Items.length
            (.br (a3.Name !=(b.Items.getD i1.toNat d_Item).Name) (.ret (.inr false))
             (.ix i1 a.Items.length
              (.ix i1 b.Items.length
               (.br (a3.Num !=(b.Items.getD i1.toNat d_Item).Num) (.ret (.inr false))
                (.ix i1 a.Items.length
                 (.ix i1 b.Items.length (.br (!r9notesP a3.Notes (b.Items.getD i1.toNat d_Item).Notes) (.ret (.inr false)) (.ret (.inl ())))))))))))
         (fun(i1:Int) (y2:Unit)=> .ret true) ())))))))
def r9enumP (a:Enum)(b:Enum):Bool:=(r9enum a b).val
theorem r9enum_is (a:Enum)(b:Enum):Is (r9enum a b):=
 is_br (fun _=>is_ret) (fun _=>is_br (fun _=>is_ret) (fun _=>is_bne (fun _=>is_as fun _=>is_as fun _=>is_ret) (fun _=>is_br (fun _=>is_as fun _=>is_as fun _=>is_ret) (fun _=>is_as fun _=>is_as fun _=>is_br (fun _=>is_ret) (fun _=>is_each (.inl rfl) (fun i1 y2 _ _=>is_ix (by omega) (by omega) (is_ix (by omega) (by omega) (is_br (fun _=>is_ret) (fun _=>is_ix (by omega) (by omega) (is_ix (by omega) (by omega) (is_bne (fun _=>is_ret) (fun _=>is_ix (by omega) (by omega) (is_ix (by omega) (by omega) (is_br (fun _=>is_ret) (fun _=>is_ret)))))))))) (fun y2 _=>is_ret))))))
def e_r9enum:Ent Z:=entN Z [e_r9spans,e_r9notes] [jS 4 (shp (fun sl=>[.slot 5 false [none]]) (l1 (cInt .i64)))] (args (aCons (aAgg cd_Enum) (a1 (aAgg cd_Enum)))) (argsI (n:=94) rfl) (shr [.slot 0 false [none]] (l1 cBool)) [] Tryz.func87 Tryz.ntmps87 (by kernel_rfl) 1 rfl (fun a=>r9enum (a.1) (a.2)) (fun a=>none) (fun a e _=>by kernel_rfl) (fun a=>r9enumP (a.1) (a.2)) (fun a h=>⟨r9enum_is (a.1) (a.2),rfl⟩)
def r9svc (a:Service)(b:Service):Pg Bool:=
 .br (a.Name !=b.Name) (.ret false)
  (.br ((↑a.Methods.length:Int) !=(↑b.Methods.length:Int))
   (.as (a.Methods.length<=9223372036854775807) (.as (b.Methods.length<=9223372036854775807) (.ret false)))
   (.as (a.Methods.length<=9223372036854775807)
    (.as (b.Methods.length<=9223372036854775807)
     (.br (!r9notesP a.Notes b.Notes) (.ret false)
      (.each true ixI a.Methods d_AMethod
       (fun(i1:Int) (a3:AMethod) (y2:Unit)=>
        .ix i1 a.Methods.length
         (.ix i1 b.Methods.length
          (.br (a3.Name !=(b.Methods.getD i1.toNat d_AMethod).Name) (.ret (.inr false))
           (.br (a3.In !=(b.Methods.getD i1.toNat d_AMethod).In) (.ret (.inr false))
            (.br (a3.Out !=(b.Methods.getD i1.toNat d_AMethod).Out) (.ret (.inr false))
             (.br (a3.Shape !=(b.Methods.getD i1.toNat d_AMethod).Shape) (.ret (.inr false))
              (.br (!r9notesP a3.Notes (b.Methods.getD i1.toNat d_AMethod).Notes) (.ret (.inr false)) (.ret (.inl ())))))))))
       (fun(i1:Int) (y2:Unit)=> .ret true) ())))))
def r9svcP (a:Service)(b:Service):Bool:=(r9svc a b).val
theorem r9svc_is (a:Service)(b:Service):Is (r9svc a b):=
 is_br (fun _=>is_ret) (fun _=>is_bne (fun _=>is_as fun _=>is_as fun _=>is_ret) (fun _=>is_as fun _=>is_as fun _=>is_br (fun _=>is_ret) (fun _=>is_each (.inl rfl) (fun i1 y2 _ _=>is_ix (by omega) (by omega) (is_ix (by omega) (by omega) (is_br (fun _=>is_ret) (fun _=>is_br (fun _=>is_ret) (fun _=>is_br (fun _=>is_ret) (fun _=>is_bne (fun _=>is_ret) (fun _=>is_br (fun _=>is_ret) (fun _=>is_ret)))))))) (fun y2 _=>is_ret))))
def e_r9svc:Ent Z:=entN Z [e_r9notes] [jS 4 (shp (fun sl=>[.slot 5 false [none]]) (l1 (cInt .i64)))] (args (aCons (aAgg cd_Service) (a1 (aAgg cd_Service)))) (argsI (n:=81) rfl) (shr [.slot 0 false [none]] (l1 cBool)) [] Tryz.func88 Tryz.ntmps88 (by kernel_rfl) 1 rfl (fun a=>r9svc (a.1) (a.2)) (fun a=>none) (fun a e _=>by kernel_rfl) (fun a=>r9svcP (a.1) (a.2)) (fun a h=>⟨r9svc_is (a.1) (a.2),rfl⟩)
def r9defs (a:Schema)(b:Schema):Pg Bool:=
 .br ((↑a.Messages.length:Int) !=(↑b.Messages.length:Int))
  (.as (a.Messages.length<=9223372036854775807) (.as (b.Messages.length<=9223372036854775807) (.ret false)))
  (.br ((↑a.Enums.length:Int) !=(↑b.Enums.length:Int))
   (.as (a.Messages.length<=9223372036854775807)
    (.as (b.Messages.length<=9223372036854775807)
     (.as (a.Enums.length<=9223372036854775807) (.as (b.Enums.length<=9223372036854775807) (.ret false)))))
   (.as (a.Messages.length<=9223372036854775807)
    (.as (b.Messages.length<=9223372036854775807)
     (.as (a.Enums.length<=9223372036854775807)
      (.as (b.Enums.length<=9223372036854775807)
       (.as (a.Services.length<=9223372036854775807)
        (.as (b.Services.length<=9223372036854775807)
         (.br ((↑a.Services.length:Int) !=(↑b.Services.length:Int)) (.ret false)
          (.cut
           (fun(y4:Unit)=>
            .cut
             (fun(y8:Unit)=>
              .each true ixI a.Services d_Service
               (fun(i9:Int) (a11:Service) (y10:Unit)=>
                .ix i9 a.Services.length
                 (.ix i9 b.Services.length (.br (!r9svcP a11 (b.Services.getD i9.toNat d_Service)) (.ret (.inr false)) (.ret (.inl ())))))
               (fun(i9:Int) (y10:Unit)=> .ret true) ())
             (.each true ixI a.Enums d_Enum
              (fun(i5:Int) (a7:Enum) (y6:Unit)=>
               .ix i5 a.Enums.length
                (.ix i5 b.Enums.length (.br (!r9enumP a7 (b.Enums.getD i5.toNat d_Enum)) (.ret (.inr (.inr false))) (.ret (.inl ())))))
              (fun(i5:Int) (y6:Unit)=> .ret (.inl ())) ()))
           (.each true ixI a.Messages d_Message
            (fun(i1:Int) (a3:Message) (y2:Unit)=>
             .ix i1 a.Messages.length
              (.ix i1 b.Messages.length (.br (!r9msgP a3 (b.Messages.getD i1.toNat d_Message)) (.ret (.inr (.inr false))) (.ret (.inl ())))))
            (fun(i1:Int) (y2:Unit)=> .ret (.inl ())) ()))))))))))
def r9defsP (a:Schema)(b:Schema):Bool:=(r9defs a b).val
theorem r9defs_is (a:Schema)(b:Schema):Is (r9defs a b):=
 is_bne (fun _=>is_as fun _=>is_as fun _=>is_ret) (fun _=>is_bne (fun _=>is_as fun _=>is_as fun _=>is_as fun _=>is_as fun _=>is_ret) (fun _=>is_as fun _=>is_as fun _=>is_as fun _=>is_as fun _=>is_as fun _=>is_as fun _=>is_bne (fun _=>is_ret) (fun _=>is_cut (is_each (.inl rfl) (fun i1 y2 _ _=>is_ix (by omega) (by omega) (is_ix (by omega) (by omega) (is_br (fun _=>is_ret) (fun _=>is_ret)))) (fun y2 _=>is_ret)) (fun y4 hy4=>is_cut (is_each (.inl rfl) (fun i5 y6 _ _=>is_ix (by omega) (by omega) (is_ix (by omega) (by omega) (is_br (fun _=>is_ret) (fun _=>is_ret)))) (fun y6 _=>is_ret)) (fun y8 hy8=>is_each (.inl rfl) (fun i9 y10 _ _=>is_ix (by omega) (by omega) (is_ix (by omega) (by omega) (is_br (fun _=>is_ret) (fun _=>is_ret)))) (fun y10 _=>is_ret))))))
def e_r9defs:Ent Z:=entN Z [e_r9msg,e_r9enum,e_r9svc] [jS 4 (shp (fun sl=>[.slot 5 false [none]]) (l1 (cInt .i64))),jS 9 (shp (fun sl=>[.slot 6 false [none]]) (l1 (cInt .i64))),jS 14 (shp (fun sl=>[.slot 7 false [none]]) (l1 (cInt .i64))),jS 100008 (shp (fun sl=>[]) l0),jS 100013 (shp (fun sl=>[]) l0)] (args (aCons (aAgg cd_Schema) (a1 (aAgg cd_Schema)))) (argsI (n:=90) rfl) (shr [.slot 0 false [none]] (l1 cBool)) [] Tryz.func43 Tryz.ntmps43 (by kernel_rfl) 1 rfl (fun a=>r9defs (a.1) (a.2)) (fun a=>none) (fun a e _=>by kernel_rfl) (fun a=>r9defsP (a.1) (a.2)) (fun a h=>⟨r9defs_is (a.1) (a.2),rfl⟩)
def r15same (a:Schema)(b:Schema):Pg Bool:=
 .ret (r9defsP a b)
def r15sameP (a:Schema)(b:Schema):Bool:=(r15same a b).val
theorem r15same_is (a:Schema)(b:Schema):Is (r15same a b):=
 is_ret
def e_r15same:Ent Z:=entN Z [e_r9defs] [] (args (aCons (aAgg cd_Schema) (a1 (aAgg cd_Schema)))) (argsI (n:=8) rfl) (shr [.slot 0 false [none]] (l1 cBool)) [] Tryz.func21 Tryz.ntmps21 (by kernel_rfl) 1 rfl (fun a=>r15same (a.1) (a.2)) (fun a=>none) (fun a e _=>by kernel_rfl) (fun a=>r15sameP (a.1) (a.2)) (fun a h=>⟨r15same_is (a.1) (a.2),rfl⟩)
def r51traces (a:List Trace)(b:List Trace):Pg Bool:=
 .as (a.length<=9223372036854775807)
  (.as (b.length<=9223372036854775807)
   (.br ((↑a.length:Int) !=(↑b.length:Int)) (.ret false)
    (.each true ixI a d_Trace
     (fun(i1:Int) (a6:Trace) (y2:Unit)=>
      .ix i1 a.length
       (.ix i1 b.length
        (.br (a6.Method !=(b.getD i1.toNat d_Trace).Method) (.ret (.inr false))
         (.ix i1 a.length
          (.ix i1 b.length
           (.as (a6.Times.length<=9223372036854775807)
            (.as ((b.getD i1.toNat d_Trace).Times.length<=9223372036854775807)
             (.br ((↑a6.Times.length:Int) !=(↑(b.getD i1.toNat d_Trace).Times.length:Int)) (.ret (.inr false))
              (.eachG [0<=i1/\i1 < (↑a.length:Int)] true ixI a6.Times 0
               (fun(i3 a5:Int) (y4:Unit)=>
                .ix i1 a.length
                 (.ix i3 a6.Times.length
                  (.ix i1 b.length
                   (.ix i3 (b.getD i1.toNat d_Trace).Times.length
                    (.br (a5 !=(b.getD i1.toNat d_Trace).Times.getD i3.toNat 0) (.ret (.inr (.inr false))) (.ret (.inl ())))))))
               (fun(i3:Int) (y4:Unit)=> .ret (.inl ())) ())))))))))
     (fun(i1:Int) (y2:Unit)=> .ret true) ())))
def r51tracesP (a:List Trace)(b:List Trace):Bool:=(r51traces a b).val
theorem r51traces_is (a:List Trace)(b:List Trace):Is (r51traces a b):=
 is_as fun _=>is_as fun _=>is_bne (fun _=>is_ret) (fun _=>is_each (.inl rfl) (fun i1 y2 _ _=>is_ix (by omega) (by omega) (is_ix (by omega) (by omega) (is_br (fun _=>is_ret) (fun _=>is_ix (by omega) (by omega) (is_ix (by omega) (by omega) (is_as fun _=>is_as fun _=>is_bne (fun _=>is_ret) (fun _=>is_eachG ⟨by omega,trivial⟩ (.inl rfl) (fun i3 y4 _ _=>is_ix (by omega) (by omega) (is_ix (by omega) (by omega) (is_ix (by omega) (by omega) (is_ix (by omega) (by omega) (is_bne (fun _=>is_ret) (fun _=>is_ret)))))) (fun y4 _=>is_ret)))))))) (fun y2 _=>is_ret))
def e_r51traces:Ent Z:=entN Z [] [jS 4 (shp (fun sl=>[.slot 5 false [none]]) (l1 (cInt .i64))),jS 9 (shp (fun sl=>[.slot 6 false [none]]) (l1 (cInt .i64)))] (args (aCons (aLf cd_LTrace) (a1 (aLf cd_LTrace)))) (argsI (n:=71) rfl) (shr [.slot 0 false [none]] (l1 cBool)) [] Tryz.func22 Tryz.ntmps22 (by kernel_rfl) 1 rfl (fun a=>r51traces (a.1) (a.2)) (fun a=>none) (fun a e _=>by kernel_rfl) (fun a=>r51tracesP (a.1) (a.2)) (fun a h=>⟨r51traces_is (a.1) (a.2),rfl⟩)
theorem okLoop_is {n1 n2:Nat}{p:Prop}{f:Int->Bool}(hn:n1<=9223372036854775807):Is (.wh (n1+1) default
    (fun(x3:Int×Bool)=>
     .br x3.snd
      (.as p
       (.br (decide (x3.fst < (↑n1:Int)))
        (.ix x3.fst n1 (.ix x3.fst n2 (.ret (.inl (wrp .i64 (x3.fst+1),f x3.fst)))))
        (.ret (.inr x3.snd))))
      (.ret (.inr x3.snd)))
    (0,(↑n1:Int)==(↑n2:Int)):Pg Bool):=by
 refine is_wh (fun x=>0<=x.1/\x.1<=n1/\(x.2=true->n1=n2)) (fun x=>(n1 - x.1).toNat) ⟨by omega,by omega,fun e=>Int.ofNat.inj (eq_of_beq e)⟩ (by simp only[Int.sub_zero,Int.toNat_natCast];omega) fun x hx=>⟨is_br (fun e=>is_as fun _=>is_brd (fun h=>is_ix (by omega) (by omega) (is_ix (by omega) (by have:=hx.2.2 e;omega) is_ret)) fun _=>is_ret) fun _=>is_ret,?_⟩
 intro x' hx'
 simp only[val_br,val_as,val_ix,val_ret,Bool.cond_eq_ite,decide_eq_true_eq]at hx'
 split at hx'
 ·rename_i e
  split at hx'
  ·rename_i h
   injection hx' with hx'
   subst hx'
   have hw:wrp .i64 (x.1+1)=x.1+1:=wrp_in (k:= .i64) (by simp only[InR];omega)
   simp only[hw]
   exact⟨⟨by omega,by omega,fun _=>hx.2.2 e⟩,by omega⟩
  ·cases hx'
 ·cases hx'
def r52texts (a:List Str)(b:List Str):Pg Bool:=
 .as (a.length<=9223372036854775807)
  (.as (b.length<=9223372036854775807)
   (.wh (a.length+1) default
    (fun(x3:Int×Bool)=>
     .br x3.snd
      (.as (a.length<=9223372036854775807)
       (.br (decide (x3.fst < (↑a.length:Int)))
        (.ix x3.fst a.length (.ix x3.fst b.length (.ret (.inl (wrp .i64 (x3.fst+1),a.getD x3.fst.toNat []==b.getD x3.fst.toNat [])))))
        (.ret (.inr x3.snd))))
      (.ret (.inr x3.snd)))
    (0,(↑a.length:Int)==(↑b.length:Int))))
def r52textsP (a:List Str)(b:List Str):Bool:=(r52texts a b).val
theorem r52texts_is (a:List Str)(b:List Str):Is (r52texts a b):=
 is_as fun h1=>is_as fun _=>okLoop_is (f:=fun i=>a.getD i.toNat []==b.getD i.toNat []) h1
def e_r52texts:Ent Z:=entN Z [] [jS 3 (shp (fun sl=>[.slot 6 false [none], .slot 5 false [none]]) (lCons (cInt .i64) (l1 cBool)))] (args (aCons (aLf cd_Lstr) (a1 (aLf cd_Lstr)))) (argsI (n:=31) rfl) (shr [.slot 0 false [none]] (l1 cBool)) [] Tryz.func44 Tryz.ntmps44 (by kernel_rfl) 1 rfl (fun a=>r52texts (a.1) (a.2)) (fun a=>none) (fun a e _=>by kernel_rfl) (fun a=>r52textsP (a.1) (a.2)) (fun a h=>⟨r52texts_is (a.1) (a.2),rfl⟩)
def r52tasks (a:List Task)(b:List Task):Pg Bool:=
 .as (a.length<=9223372036854775807)
  (.as (b.length<=9223372036854775807)
   (.wh (1) default
    (fun(x3:Int×Bool)=>
     .br x3.snd
      (.as (a.length<=9223372036854775807)
       (.br (decide (x3.fst < (↑a.length:Int)))
        (.ix x3.fst a.length
         (.ix x3.fst b.length
          (.lt (wrp .i64 (x3.fst+1)) fun(v34:Int)=>
           .br ((a.getD x3.fst.toNat d_Task).Conn==(b.getD x3.fst.toNat d_Task).Conn)
            (.br ((a.getD x3.fst.toNat d_Task).Id==(b.getD x3.fst.toNat d_Task).Id)
             (.br ((a.getD x3.fst.toNat d_Task).Method==(b.getD x3.fst.toNat d_Task).Method)
              (.br ((a.getD x3.fst.toNat d_Task).Deadline==(b.getD x3.fst.toNat d_Task).Deadline)
               (.br ((a.getD x3.fst.toNat d_Task).Ready==(b.getD x3.fst.toNat d_Task).Ready)
                (.br ((a.getD x3.fst.toNat d_Task).Ended==(b.getD x3.fst.toNat d_Task).Ended)
                 (.br
                  ((
                    a.getD x3.fst.toNat d_Task).Status.Code==(b.getD x3.fst.toNat d_Task).Status.Code &&
                    ((a.getD x3.fst.toNat d_Task).Status.Text==(b.getD x3.fst.toNat d_Task).Status.Text && true))
                  (.br (r52textsP (a.getD x3.fst.toNat d_Task).In (b.getD x3.fst.toNat d_Task).In)
                   (.br (r52textsP (a.getD x3.fst.toNat d_Task).Answers (b.getD x3.fst.toNat d_Task).Answers)
                    (.as ((a.getD x3.fst.toNat d_Task).Metas.length<=9223372036854775807)
                     (.as ((b.getD x3.fst.toNat d_Task).Metas.length<=9223372036854775807)
                      (.wh (1) default
                       (fun(x6:Int×Bool)=>
                        .br x6.snd
                         (.as ((a.getD x3.fst.toNat d_Task).Metas.length<=9223372036854775807)
                          (.br (decide (x6.fst < (↑(a.getD x3.fst.toNat d_Task).Metas.length:Int)))
                           (.ix x6.fst (a.getD x3.fst.toNat d_Task).Metas.length
                            (.ix x6.fst (b.getD x3.fst.toNat d_Task).Metas.length
                             (.ret
                              (.inl
                               (wrp .i64 (x6.fst+1),
                                ((a.getD x3.fst.toNat d_Task).Metas.getD x6.fst.toNat d_Meta).Key==
                                  ((b.getD x3.fst.toNat d_Task).Metas.getD x6.fst.toNat d_Meta).Key &&
                                 (((a.getD x3.fst.toNat d_Task).Metas.getD x6.fst.toNat d_Meta).Val==
                                   ((b.getD x3.fst.toNat d_Task).Metas.getD x6.fst.toNat d_Meta).Val &&
                                  true))))))
                           (.ret (.inr (.inl (v34,x6.snd))))))
                         (.ret (.inr (.inl (v34,x6.snd)))))
                       (0,(↑(a.getD x3.fst.toNat d_Task).Metas.length:Int)==(↑(b.getD x3.fst.toNat d_Task).Metas.length:Int)))))
                    (.wh (1) default
                     (fun(x9:Int×Bool)=>
                      .br x9.snd
                       (.as ((a.getD x3.fst.toNat d_Task).Metas.length<=9223372036854775807)
                        (.br (decide (x9.fst < (↑(a.getD x3.fst.toNat d_Task).Metas.length:Int)))
                         (.ix x9.fst (a.getD x3.fst.toNat d_Task).Metas.length
                          (.ix x9.fst (b.getD x3.fst.toNat d_Task).Metas.length
                           (.ret
                            (.inl
                             (wrp .i64 (x9.fst+1),
                              ((a.getD x3.fst.toNat d_Task).Metas.getD x9.fst.toNat d_Meta).Key==
                                ((b.getD x3.fst.toNat d_Task).Metas.getD x9.fst.toNat d_Meta).Key &&
                               (((a.getD x3.fst.toNat d_Task).Metas.getD x9.fst.toNat d_Meta).Val==
                                 ((b.getD x3.fst.toNat d_Task).Metas.getD x9.fst.toNat d_Meta).Val &&
                                true))))))
                         (.ret (.inr (.inl (v34,x9.snd))))))
                       (.ret (.inr (.inl (v34,x9.snd)))))
                     (0,false)))
                   (.wh (1) default
                    (fun(x12:Int×Bool)=>
                     .br x12.snd
                      (.as ((a.getD x3.fst.toNat d_Task).Metas.length<=9223372036854775807)
                       (.br (decide (x12.fst < (↑(a.getD x3.fst.toNat d_Task).Metas.length:Int)))
                        (.ix x12.fst (a.getD x3.fst.toNat d_Task).Metas.length
                         (.ix x12.fst (b.getD x3.fst.toNat d_Task).Metas.length
                          (.ret
                           (.inl
                            (wrp .i64 (x12.fst+1),
                             ((a.getD x3.fst.toNat d_Task).Metas.getD x12.fst.toNat d_Meta).Key==
                               ((b.getD x3.fst.toNat d_Task).Metas.getD x12.fst.toNat d_Meta).Key &&
                              (((a.getD x3.fst.toNat d_Task).Metas.getD x12.fst.toNat d_Meta).Val==
                                ((b.getD x3.fst.toNat d_Task).Metas.getD x12.fst.toNat d_Meta).Val &&
                               true))))))
                        (.ret (.inr (.inl (v34,x12.snd))))))
                      (.ret (.inr (.inl (v34,x12.snd)))))
                    (0,false)))
                  (.wh (1) default
                   (fun(x15:Int×Bool)=>
                    .br x15.snd
                     (.as ((a.getD x3.fst.toNat d_Task).Metas.length<=9223372036854775807)
                      (.br (decide (x15.fst < (↑(a.getD x3.fst.toNat d_Task).Metas.length:Int)))
                       (.ix x15.fst (a.getD x3.fst.toNat d_Task).Metas.length
                        (.ix x15.fst (b.getD x3.fst.toNat d_Task).Metas.length
                         (.ret
                          (.inl
                           (wrp .i64 (x15.fst+1),
                            ((a.getD x3.fst.toNat d_Task).Metas.getD x15.fst.toNat d_Meta).Key==
                              ((b.getD x3.fst.toNat d_Task).Metas.getD x15.fst.toNat d_Meta).Key &&
                             (((a.getD x3.fst.toNat d_Task).Metas.getD x15.fst.toNat d_Meta).Val==
                               ((b.getD x3.fst.toNat d_Task).Metas.getD x15.fst.toNat d_Meta).Val &&
                              true))))))
                       (.ret (.inr (.inl (v34,x15.snd))))))
                     (.ret (.inr (.inl (v34,x15.snd)))))
                   (0,false)))
                 (.wh (1) default
                  (fun(x18:Int×Bool)=>
                   .br x18.snd
                    (.as ((a.getD x3.fst.toNat d_Task).Metas.length<=9223372036854775807)
                     (.br (decide (x18.fst < (↑(a.getD x3.fst.toNat d_Task).Metas.length:Int)))
                      (.ix x18.fst (a.getD x3.fst.toNat d_Task).Metas.length
                       (.ix x18.fst (b.getD x3.fst.toNat d_Task).Metas.length
                        (.ret
                         (.inl
                          (wrp .i64 (x18.fst+1),
                           ((a.getD x3.fst.toNat d_Task).Metas.getD x18.fst.toNat d_Meta).Key==
                             ((b.getD x3.fst.toNat d_Task).Metas.getD x18.fst.toNat d_Meta).Key &&
                            (((a.getD x3.fst.toNat d_Task).Metas.getD x18.fst.toNat d_Meta).Val==
                              ((b.getD x3.fst.toNat d_Task).Metas.getD x18.fst.toNat d_Meta).Val &&
                             true))))))
                      (.ret (.inr (.inl (v34,x18.snd))))))
                    (.ret (.inr (.inl (v34,x18.snd)))))
                  (0,false)))
                (.wh (1) default
                 (fun(x21:Int×Bool)=>
                  .br x21.snd
                   (.as ((a.getD x3.fst.toNat d_Task).Metas.length<=9223372036854775807)
                    (.br (decide (x21.fst < (↑(a.getD x3.fst.toNat d_Task).Metas.length:Int)))
                     (.ix x21.fst (a.getD x3.fst.toNat d_Task).Metas.length
                      (.ix x21.fst (b.getD x3.fst.toNat d_Task).Metas.length
                       (.ret
                        (.inl
                         (wrp .i64 (x21.fst+1),
                          ((a.getD x3.fst.toNat d_Task).Metas.getD x21.fst.toNat d_Meta).Key==
                            ((b.getD x3.fst.toNat d_Task).Metas.getD x21.fst.toNat d_Meta).Key &&
                           (((a.getD x3.fst.toNat d_Task).Metas.getD x21.fst.toNat d_Meta).Val==
                             ((b.getD x3.fst.toNat d_Task).Metas.getD x21.fst.toNat d_Meta).Val &&
                            true))))))
                     (.ret (.inr (.inl (v34,x21.snd))))))
                   (.ret (.inr (.inl (v34,x21.snd)))))
                 (0,false)))
               (.wh (1) default
                (fun(x24:Int×Bool)=>
                 .br x24.snd
                  (.as ((a.getD x3.fst.toNat d_Task).Metas.length<=9223372036854775807)
                   (.br (decide (x24.fst < (↑(a.getD x3.fst.toNat d_Task).Metas.length:Int)))
                    (.ix x24.fst (a.getD x3.fst.toNat d_Task).Metas.length
                     (.ix x24.fst (b.getD x3.fst.toNat d_Task).Metas.length
                      (.ret
                       (.inl
                        (wrp .i64 (x24.fst+1),
                         ((a.getD x3.fst.toNat d_Task).Metas.getD x24.fst.toNat d_Meta).Key==
                           ((b.getD x3.fst.toNat d_Task).Metas.getD x24.fst.toNat d_Meta).Key &&
                          (((a.getD x3.fst.toNat d_Task).Metas.getD x24.fst.toNat d_Meta).Val==
                            ((b.getD x3.fst.toNat d_Task).Metas.getD x24.fst.toNat d_Meta).Val &&
                           true))))))
                    (.ret (.inr (.inl (v34,x24.snd))))))
                  (.ret (.inr (.inl (v34,x24.snd)))))
                (0,false)))
              (.wh (1) default
               (fun(x27:Int×Bool)=>
                .br x27.snd
                 (.as ((a.getD x3.fst.toNat d_Task).Metas.length<=9223372036854775807)
                  (.br (decide (x27.fst < (↑(a.getD x3.fst.toNat d_Task).Metas.length:Int)))
                   (.ix x27.fst (a.getD x3.fst.toNat d_Task).Metas.length
                    (.ix x27.fst (b.getD x3.fst.toNat d_Task).Metas.length
                     (.ret
                      (.inl
                       (wrp .i64 (x27.fst+1),
                        ((a.getD x3.fst.toNat d_Task).Metas.getD x27.fst.toNat d_Meta).Key==
                          ((b.getD x3.fst.toNat d_Task).Metas.getD x27.fst.toNat d_Meta).Key &&
                         (((a.getD x3.fst.toNat d_Task).Metas.getD x27.fst.toNat d_Meta).Val==
                           ((b.getD x3.fst.toNat d_Task).Metas.getD x27.fst.toNat d_Meta).Val &&
                          true))))))
                   (.ret (.inr (.inl (v34,x27.snd))))))
                 (.ret (.inr (.inl (v34,x27.snd)))))
               (0,false)))
             (.wh (1) default
              (fun(x30:Int×Bool)=>
               .br x30.snd
                (.as ((a.getD x3.fst.toNat d_Task).Metas.length<=9223372036854775807)
                 (.br (decide (x30.fst < (↑(a.getD x3.fst.toNat d_Task).Metas.length:Int)))
                  (.ix x30.fst (a.getD x3.fst.toNat d_Task).Metas.length
                   (.ix x30.fst (b.getD x3.fst.toNat d_Task).Metas.length
                    (.ret
                     (.inl
                      (wrp .i64 (x30.fst+1),
                       ((a.getD x3.fst.toNat d_Task).Metas.getD x30.fst.toNat d_Meta).Key==
                         ((b.getD x3.fst.toNat d_Task).Metas.getD x30.fst.toNat d_Meta).Key &&
                        (((a.getD x3.fst.toNat d_Task).Metas.getD x30.fst.toNat d_Meta).Val==
                          ((b.getD x3.fst.toNat d_Task).Metas.getD x30.fst.toNat d_Meta).Val &&
                         true))))))
                  (.ret (.inr (.inl (v34,x30.snd))))))
                (.ret (.inr (.inl (v34,x30.snd)))))
              (0,false)))
            (.wh (1) default
             (fun(x33:Int×Bool)=>
              .br x33.snd
               (.as ((a.getD x3.fst.toNat d_Task).Metas.length<=9223372036854775807)
                (.br (decide (x33.fst < (↑(a.getD x3.fst.toNat d_Task).Metas.length:Int)))
                 (.ix x33.fst (a.getD x3.fst.toNat d_Task).Metas.length
                  (.ix x33.fst (b.getD x3.fst.toNat d_Task).Metas.length
                   (.ret
                    (.inl
                     (wrp .i64 (x33.fst+1),
                      ((a.getD x3.fst.toNat d_Task).Metas.getD x33.fst.toNat d_Meta).Key==
                        ((b.getD x3.fst.toNat d_Task).Metas.getD x33.fst.toNat d_Meta).Key &&
                       (((a.getD x3.fst.toNat d_Task).Metas.getD x33.fst.toNat d_Meta).Val==
                         ((b.getD x3.fst.toNat d_Task).Metas.getD x33.fst.toNat d_Meta).Val &&
                        true))))))
                 (.ret (.inr (.inl (v34,x33.snd))))))
               (.ret (.inr (.inl (v34,x33.snd)))))
             (0,false)))))
        (.ret (.inr x3.snd))))
      (.ret (.inr x3.snd)))
    (0,(↑a.length:Int)==(↑b.length:Int))))
def r52tasksP (a:List Task)(b:List Task):Bool:=(r52tasks a b).val
theorem tasks_nil:Is (r52tasks [] [])/\r52tasksP [] []=true:=by
 refine⟨?_,rfl⟩
 unfold r52tasks
 refine is_as fun _=>is_as fun _=>is_wh (fun x=>x=((0:Int),true)) (fun _=>0) rfl (by decide) (fun x hx=> ?_)
 subst hx
 refine⟨is_br (fun _=>is_as fun _=>is_brd (fun k=>absurd k (by decide)) (fun _=>is_ret)) (fun _=>is_ret),fun x' k=> ?_⟩
 exact absurd k (by simp[Pg.val])
theorem tasks_val (a b:List Task)(h:a=[]/\b=[]):r52tasksP a b=true:=by
 obtain⟨rfl,rfl⟩:=h
 exact tasks_nil.2
theorem r52tasks_is (a:List Task)(b:List Task)(h:a=[]/\b=[]):Is (r52tasks a b):=
 by obtain⟨h1,h2⟩:=h;subst h1 h2;exact tasks_nil.1
def e_r52tasks:Ent Z:=entN Z [e_r52texts] [jS 3 (shp (fun sl=>[.slot 6 false [none], .slot 5 false [none]]) (lCons (cInt .i64) (l1 cBool))),jS 8 (shp (fun sl=>[.slot 9 false [none], .slot 5 false [none]]) (lCons (cInt .i64) (l1 cBool)))] (args (aCons (aLf cd_LTask) (a1 (aLf cd_LTask)))) (argsI (n:=124) rfl) (shr [.slot 0 false [none]] (l1 cBool)) [] Tryz.func23 Tryz.ntmps23 (by kernel_rfl) 1 rfl (fun a=>r52tasks (a.1) (a.2)) (fun a=>some ((a.1)=[]/\(a.2)=[])) (fun a e _=>by kernel_rfl) (fun a=>true) (fun a h=>⟨r52tasks_is (a.1) (a.2) h,tasks_val (a.1) (a.2) h⟩)
def r52same (a:Server)(b:Server):Pg Bool:=
 .cut
  (fun(y1:Bool)=>
   .cut
    (fun(y5:Bool)=>
     .wh (a.Icepts.length+1) default
      (fun(x8:Int×Bool)=>
       .br x8.snd
        (.as (a.Icepts.length<=9223372036854775807)
         (.br (decide (x8.fst < (↑a.Icepts.length:Int)))
          (.ix x8.fst a.Icepts.length
           (.ix x8.fst b.Icepts.length
            (.ret
             (.inl
              (wrp .i64 (x8.fst+1),
               (a.Icepts.getD x8.fst.toNat d_Icept).Kind==(b.Icepts.getD x8.fst.toNat d_Icept).Kind &&
                ((
                  a.Icepts.getD x8.fst.toNat d_Icept).Key==(b.Icepts.getD x8.fst.toNat d_Icept).Key &&
                  ((
                    a.Icepts.getD x8.fst.toNat d_Icept).Val==(b.Icepts.getD x8.fst.toNat d_Icept).Val &&
                    ((
                      a.Icepts.getD x8.fst.toNat d_Icept).Num==(b.Icepts.getD x8.fst.toNat d_Icept).Num &&
                      ((a.Icepts.getD x8.fst.toNat d_Icept).Span==(b.Icepts.getD x8.fst.toNat d_Icept).Span && true)))))))))
          (.ret (.inr x8.snd))))
        (.ret (.inr x8.snd)))
      (0,y5))
    (.wh (a.Handlers.length+1) default
     (fun(x4:Int×Bool)=>
      .br x4.snd
       (.as (a.Handlers.length<=9223372036854775807)
        (.br (decide (x4.fst < (↑a.Handlers.length:Int)))
         (.ix x4.fst a.Handlers.length
          (.ix x4.fst b.Handlers.length
           (.ret
            (.inl
             (wrp .i64 (x4.fst+1),
              (a.Handlers.getD x4.fst.toNat d_Handler).Method==(b.Handlers.getD x4.fst.toNat d_Handler).Method &&
               ((
                 a.Handlers.getD x4.fst.toNat d_Handler).Kind==(b.Handlers.getD x4.fst.toNat d_Handler).Kind &&
                 ((
                   a.Handlers.getD x4.fst.toNat d_Handler).Num==(b.Handlers.getD x4.fst.toNat d_Handler).Num &&
                   ((a.Handlers.getD x4.fst.toNat d_Handler).Cost==(b.Handlers.getD x4.fst.toNat d_Handler).Cost && true))))))))
         (.ret (.inr (.inl x4.snd)))))
       (.ret (.inr (.inl x4.snd))))
     (0,y1)))
  (.br (a.Name==b.Name)
   (.br (a.Most==b.Most)
    (.br (a.Draining==b.Draining)
     (.br (r15sameP a.Schema b.Schema)
      (.br (r51tracesP a.Traces b.Traces)
       (.ob (a.Tasks=[]/\b.Tasks=[])
        (.br ((↑a.Handlers.length:Int)==(↑b.Handlers.length:Int))
         (.as (a.Handlers.length<=9223372036854775807)
          (.as (b.Handlers.length<=9223372036854775807)
           (.as (a.Icepts.length<=9223372036854775807)
            (.as (b.Icepts.length<=9223372036854775807) (.ret (.inl ((↑a.Icepts.length:Int)==(↑b.Icepts.length:Int))))))))
         (.as (a.Handlers.length<=9223372036854775807) (.as (b.Handlers.length<=9223372036854775807) (.ret (.inl false))))))
       (.ret (.inl false)))
      (.ret (.inl false)))
     (.ret (.inl false)))
    (.ret (.inl false)))
   (.ret (.inl false)))
def r52sameP (a:Server)(b:Server):Bool:=(r52same a b).val
end
end Go.Proofs.YtiibcbmenoaigaaGreatDoor
