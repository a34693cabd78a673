/- Server: servers are made. -/
import Derived.Test.YtiibcbmenoaigaaGreatDoorOa
import Derived.Test.YtiibcbmenoaigaaGreatDoorR
import Derived.Test.YtiibcbmenoaigaaGreatDoorQe
namespace Go.Proofs.YtiibcbmenoaigaaGreatDoor
noncomputable section
open Go.RowKit Go.Vc
set_option linter.unusedVariables false
set_option linter.unusedSimpArgs false
set_option maxRecDepth 100000
def okNew (s:Schema)(hs:List Handler)(l:List Icept):Prop:=okS s/\(∀x∈hs,x.Method.length<=1048576)/\okIs l/\hs.length<=1048576/\l.length<=1048576
def sNew (name:Str)(s:Schema)(hs:List Handler)(l:List Icept)(most:Int):Pg (Server×Int):=
 .br (!isNameP name) (.ret (Server.mk [] (Schema.mk [] [] []) [] [] [] [] 0 false,8))
  (.ob (okS s)
   (.br (!cValidP s) (.ret (Server.mk [] (Schema.mk [] [] []) [] [] [] [] 0 false,1))
    (.br (decide (most < 1)) (.ret (Server.mk [] (Schema.mk [] [] []) [] [] [] [] 0 false,1))
     (.br (decide (64 < most)) (.ret (Server.mk [] (Schema.mk [] [] []) [] [] [] [] 0 false,1))
      (.cut
       (fun(y4:Unit)=>
        .cut
         (fun(y8:Unit)=>
          .cut
           (fun(y15:Unit)=>
            .ob (okIs l)
             (.lt (rcheckP l) fun(v19:Int)=>
              .br (v19 !=0) (.ret (Server.mk [] (Schema.mk [] [] []) [] [] [] [] 0 false,v19))
               (.as (hs.length<=9223372036854775807)
                (.each false ixI hs d_Handler
                 (fun(i16:Int) (a18:Handler) (y17:Unit)=>
                  .ix i16 hs.length
                   (.ob (List.length a18.Method<=1048576)
                    (.br (!fitsP s a18) (.ret (.inr (Server.mk [] (Schema.mk [] [] []) [] [] [] [] 0 false,12))) (.ret (.inl ())))))
                 (fun(i16:Int) (y17:Unit)=>
                  .ob (roomP (0+hs.length) 40)
                   (.ob (roomP (0+l.length) 56) (.ret (Server.mk name s hs l [] [] most false,0))))
                 ()))))
           (.as (hs.length<=9223372036854775807)
            (.each false ixI hs d_Handler
             (fun(i9:Int) (a14:Handler) (y10:Unit)=>
              .ix i9 hs.length
               (.ob ((0:Int)<=0/\0<=i9/\i9<=(↑hs.length:Int))
                (.as ((List.take i9.toNat hs).length<=9223372036854775807)
                 (.each false ixI (List.take i9.toNat hs) d_Handler
                  (fun(i11:Int) (a13:Handler) (y12:Unit)=>
                   .ix i11 (List.take i9.toNat hs).length
                    (.br (a14.Method==a13.Method)
                     (.ret (.inr (.inr (.inr (Server.mk [] (Schema.mk [] [] []) [] [] [] [] 0 false,9))))) (.ret (.inl ()))))
                  (fun(i11:Int) (y12:Unit)=> .ret (.inl ())) ()))))
             (fun(i9:Int) (y10:Unit)=> .ret (.inl ())) ())))
         (.as (hs.length<=9223372036854775807)
          (.each false ixI hs d_Handler
           (fun(i5:Int) (a7:Handler) (y6:Unit)=>
            .ix i5 hs.length
             (.ob (List.length a7.Method<=1048576)
              (.br ((mFindP s a7.Method).snd !=0) (.ret (.inr (.inr (Server.mk [] (Schema.mk [] [] []) [] [] [] [] 0 false,10))))
               (.ret (.inl ())))))
           (fun(i5:Int) (y6:Unit)=> .ret (.inl ())) ())))
       (.as (hs.length<=9223372036854775807)
        (.each false ixI hs d_Handler
         (fun(i1:Int) (a3:Handler) (y2:Unit)=>
          .ix i1 hs.length
           (.br (!rangedP a3) (.ret (.inr (.inr (Server.mk [] (Schema.mk [] [] []) [] [] [] [] 0 false,1)))) (.ret (.inl ()))))
         (fun(i1:Int) (y2:Unit)=> .ret (.inl ())) ())))))))
def sNewP (name:Str)(s:Schema)(hs:List Handler)(l:List Icept)(most:Int):Server×Int:=(sNew name s hs l most).val
theorem sNew_is (name:Str)(s:Schema)(hs:List Handler)(l:List Icept)(most:Int)(h:okNew s hs l):Is (sNew name s hs l most):=
 is_br (fun _=>is_ret) (fun _=>is_ob (h.1) (is_br (fun _=>is_ret) (fun _=>is_brd (fun _=>is_ret) (fun _=>is_brd (fun _=>is_ret) (fun _=>is_cut (is_as fun _=>is_each (.inr (by omega)) (fun i1 y2 _ _=>is_ix (by omega) (by omega) (is_br (fun _=>is_ret) (fun _=>is_ret))) (fun y2 _=>is_ret)) (fun y4 hy4=>is_cut (is_as fun _=>is_each (.inr (by omega)) (fun i5 y6 _ _=>is_ix (by omega) (by omega) (is_ob ((h.2.1 _ (getD_mem (d:=d_Handler) (by omega)))) (is_bne (fun _=>is_ret) (fun _=>is_ret)))) (fun y6 _=>is_ret)) (fun y8 hy8=>is_cut (is_as fun _=>is_each (.inr (by omega)) (fun i9 y10 _ _=>is_ix (by omega) (by omega) (is_ob (by omega) (is_as fun _=>is_each (.inr (by omega)) (fun i11 y12 _ _=>is_ix (by omega) (by omega) (is_br (fun _=>is_ret) (fun _=>is_ret))) (fun y12 _=>is_ret)))) (fun y10 _=>is_ret)) (fun y15 hy15=>is_ob (h.2.2.1) (is_lt fun v19 hv19=>is_bne (fun _=>is_ret) (fun _=>is_as fun _=>is_each (.inr (by omega)) (fun i16 y17 _ _=>is_ix (by omega) (by omega) (is_ob ((h.2.1 _ (getD_mem (d:=d_Handler) (by omega)))) (is_br (fun _=>is_ret) (fun _=>is_ret)))) (fun y17 _=>is_ob (by obtain⟨_,_,_,k1,k2⟩:=h;exact room_of (by omega) (by omega)) (is_ob (by obtain⟨_,_,_,k1,k2⟩:=h;exact room_of (by omega) (by omega)) (is_ret)))))))))))))
def e_sNew:Ent Z:=entN Z [e_isName,e_cValid,e_ranged,e_mFind,e_check,e_fits] [jS 6 (shp (fun sl=>[.slot 43 false [none]]) (l1 (cInt .i64))),jS 12 (shp (fun sl=>[.slot 54 false [none]]) (l1 (cInt .i64))),jS 19 (shp (fun sl=>[.slot 71 false [none]]) (l1 (cInt .i64))),jS 22 (shp (fun sl=>[.slot 80 false [none]]) (l1 (cInt .i64))),jS 32 (shp (fun sl=>[.slot 100 false [none]]) (l1 (cInt .i64))),jS 100011 (shp (fun sl=>[]) l0),jS 100018 (shp (fun sl=>[]) l0),jS 100028 (shp (fun sl=>[]) l0)] (args (aCons (aLf cStr) (aCons (aAgg cd_Schema) (aCons (aLf cd_LHandler) (aCons (aLf cd_LIcept) (a1 (aLf (cInt .i64)))))))) (argsI (n:=120) rfl) (shr [.slot 0 true [none,none,none,none,none,none,none,none,none,none], .slot 1 false [none]] (lCons cd_Server (l1 (cInt .i64)))) [] Tryz.func5 Tryz.ntmps5 (by kernel_rfl) 2 rfl (fun a=>sNew (a.1) (a.2.1) (a.2.2.1) (a.2.2.2.1) (a.2.2.2.2)) (fun a=>some (okNew (a.2.1) (a.2.2.1) (a.2.2.2.1))) (fun a e _=>by kernel_rfl) (fun a=>sNewP (a.1) (a.2.1) (a.2.2.1) (a.2.2.2.1) (a.2.2.2.2)) (fun a h=>⟨sNew_is (a.1) (a.2.1) (a.2.2.1) (a.2.2.2.1) (a.2.2.2.2) h,rfl⟩)
def r52New (name:Str)(s:Schema)(hs:List Handler)(l:List Icept)(most:Int):Pg (Server×Int):=
 .br (!r52namedP name) (.ret (Server.mk [] (Schema.mk [] [] []) [] [] [] [] 0 false,8))
  (.cut
   (fun(y1:Bool)=>
    .cut
     (fun(y5:Bool)=>
      .br (!y5) (.ret (Server.mk [] (Schema.mk [] [] []) [] [] [] [] 0 false,1))
       (.cut
        (fun(y9:Unit)=>
         .cut
          (fun(y15:Unit)=>
           .lt (rcheckP l) fun(v19:Int)=>
            .br (v19 !=0) (.ret (Server.mk [] (Schema.mk [] [] []) [] [] [] [] 0 false,v19))
             (.each true ixI hs d_Handler
              (fun(i16:Int) (a18:Handler) (y17:Unit)=>
               .ix i16 hs.length
                (.ob (List.length a18.Method<=1048576)
                 (.br (!r52fitsP s a18) (.ret (.inr (Server.mk [] (Schema.mk [] [] []) [] [] [] [] 0 false,12))) (.ret (.inl ())))))
              (fun(i16:Int) (y17:Unit)=> .ret (Server.mk name s hs l [] [] most false,0)) ()))
          (.each true ixI hs d_Handler
           (fun(i10:Int) (a14:Handler) (y11:Unit)=>
            .cnt ixI 0 i10
             (fun(i12:Int) (y13:Unit)=>
              .ix i10 hs.length
               (.ix i12 hs.length
                (.br (a14.Method==(hs.getD i12.toNat d_Handler).Method)
                 (.ret (.inr (.inr (.inr (Server.mk [] (Schema.mk [] [] []) [] [] [] [] 0 false,9))))) (.ret (.inl ())))))
             (fun(i12:Int) (y13:Unit)=> .ret (.inl ())) ())
           (fun(i10:Int) (y11:Unit)=> .ret (.inl ())) ()))
        (.each true ixI hs d_Handler
         (fun(i6:Int) (a8:Handler) (y7:Unit)=>
          .ix i6 hs.length
           (.ob (List.length a8.Method<=1048576)
            (.br ((r43FindP s a8.Method).snd !=0) (.ret (.inr (.inr (Server.mk [] (Schema.mk [] [] []) [] [] [] [] 0 false,10))))
             (.ret (.inl ())))))
         (fun(i6:Int) (y7:Unit)=> .ret (.inl ())) ())))
     (.each true ixP hs d_Handler (fun(i2:Int) (a4:Handler) (y3:Bool)=> .br y3 (.ix i2 hs.length (.ret (.inl (r52rangedP a4)))) (.ret (.inl false)))
      (fun(i2:Int) (y3:Bool)=> .ret (.inl y3)) y1))
   (.ob (okS s) (.br (c12validP s) (.br (decide (1<=most)) (.ret (.inl (decide (most<=64)))) (.ret (.inl false))) (.ret (.inl false)))))
def r52NewP (name:Str)(s:Schema)(hs:List Handler)(l:List Icept)(most:Int):Server×Int:=(r52New name s hs l most).val
theorem r52New_is (name:Str)(s:Schema)(hs:List Handler)(l:List Icept)(most:Int)(h:okNew s hs l):Is (r52New name s hs l most):=
 is_br (fun _=>is_ret) (fun _=>is_cut (is_ob (h.1) (is_br (fun _=>is_brd (fun _=>is_ret) (fun _=>is_ret)) (fun _=>is_ret))) (fun y1 hy1=>is_cut (is_each (.inl rfl) (fun i2 y3 _ _=>is_br (fun _=>is_ix (by omega) (by omega) (is_ret)) (fun _=>is_ret)) (fun y3 _=>is_ret)) (fun y5 hy5=>is_br (fun _=>is_ret) (fun _=>is_cut (is_each (.inl rfl) (fun i6 y7 _ _=>is_ix (by omega) (by omega) (is_ob ((h.2.1 _ (getD_mem (d:=d_Handler) (by omega)))) (is_bne (fun _=>is_ret) (fun _=>is_ret)))) (fun y7 _=>is_ret)) (fun y9 hy9=>is_cut (is_each (.inl rfl) (fun i10 y11 _ _=>is_cnt (by omega) (by omega) (fun i12 y13 _ _=>is_ix (by omega) (by omega) (is_ix (by omega) (by omega) (is_br (fun _=>is_ret) (fun _=>is_ret)))) (fun i12 y13 _ _=>is_ret)) (fun y11 _=>is_ret)) (fun y15 hy15=>is_lt fun v19 hv19=>is_bne (fun _=>is_ret) (fun _=>is_each (.inl rfl) (fun i16 y17 _ _=>is_ix (by omega) (by omega) (is_ob ((h.2.1 _ (getD_mem (d:=d_Handler) (by omega)))) (is_br (fun _=>is_ret) (fun _=>is_ret)))) (fun y17 _=>is_ret))))))))
def e_r52New:Ent Z:=entN Z [e_r52named,e_c12valid,e_r52ranged,e_r43Find,e_rcheck,e_r52fits] [jS 5 (shp (fun sl=>[.slot 13 false [none], .slot 12 false [none]]) (lCons (cInt .i64) (l1 cBool))),jS 11 (shp (fun sl=>[.slot 14 false [none]]) (l1 (cInt .i64))),jS 17 (shp (fun sl=>[.slot 17 false [none]]) (l1 (cInt .i64))),jS 20 (shp (fun sl=>[.slot 18 false [none]]) (l1 (cInt .i64))),jS 28 (shp (fun sl=>[.slot 20 false [none]]) (l1 (cInt .i64))),jS 100004 (shp (fun sl=>[.slot 12 false [none]]) (l1 cBool)),jS 100008 (shp (fun sl=>[.slot 12 false [none]]) (l1 cBool)),jS 100016 (shp (fun sl=>[]) l0),jS 100024 (shp (fun sl=>[]) l0)] (args (aCons (aLf cStr) (aCons (aAgg cd_Schema) (aCons (aLf cd_LHandler) (aCons (aLf cd_LIcept) (a1 (aLf (cInt .i64)))))))) (argsI (n:=120) rfl) (shr [.slot 0 true [none,none,none,none,none,none,none,none,none,none], .slot 1 false [none]] (lCons cd_Server (l1 (cInt .i64)))) [] Tryz.func6 Tryz.ntmps6 (by kernel_rfl) 2 rfl (fun a=>r52New (a.1) (a.2.1) (a.2.2.1) (a.2.2.2.1) (a.2.2.2.2)) (fun a=>some (okNew (a.2.1) (a.2.2.1) (a.2.2.2.1))) (fun a e _=>by kernel_rfl) (fun a=>r52NewP (a.1) (a.2.1) (a.2.2.1) (a.2.2.2.1) (a.2.2.2.2)) (fun a h=>⟨r52New_is (a.1) (a.2.1) (a.2.2.1) (a.2.2.2.1) (a.2.2.2.2) h,rfl⟩)
def few (x:law52_Setup):Pg Bool:=
 .br (decide ((↑x.1.Messages.length:Int)<=8))
  (.br (decide ((↑x.1.Enums.length:Int)<=8))
   (.br (decide ((↑x.1.Services.length:Int)<=8)) (.br (decide ((↑x.H.length:Int)<=8)) (.ret (decide ((↑x.L.length:Int)<=8))) (.ret false))
    (.ret false))
   (.ret false))
  (.ret false)
def fewP (x:law52_Setup):Bool:=(few x).val
theorem few_is (x:law52_Setup):Is (few x):=
 is_brd (fun _=>is_brd (fun _=>is_brd (fun _=>is_brd (fun _=>is_ret) (fun _=>is_ret)) (fun _=>is_ret)) (fun _=>is_ret)) (fun _=>is_ret)
def e_few:Ent Z:=entN Z [] [] (args (a1 (aAgg cd_law52_Setup))) (argsI (n:=34) rfl) (shr [.slot 0 false [none]] (l1 cBool)) [] Tryz.func4 Tryz.ntmps4 (by kernel_rfl) 1 rfl (fun a=>few a) (fun a=>none) (fun a e _=>by kernel_rfl) (fun a=>fewP a) (fun a h=>⟨few_is a,rfl⟩)
end
end Go.Proofs.YtiibcbmenoaigaaGreatDoor
