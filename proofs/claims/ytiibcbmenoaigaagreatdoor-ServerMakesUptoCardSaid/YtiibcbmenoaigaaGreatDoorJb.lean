/- Server: all problems. -/
import Derived.Test.YtiibcbmenoaigaaGreatDoorJa
namespace Go.Proofs.YtiibcbmenoaigaaGreatDoor
noncomputable section
open Go.RowKit Go.Vc
set_option linter.unusedVariables false
set_option linter.unusedSimpArgs false
set_option maxRecDepth 100000
def rising (l:List Str):Pg Bool:=
 .cntG [] (some (l.length<=9223372036854775807)) ixI 1 (↑l.length:Int)
  (fun(i1:Int) (y2:Unit)=>
   .ix i1 l.length
    (.lt (wrp .i64 (i1 - 1)) fun(v3:Int)=>
     .ix v3 l.length
      (.br (Op.bytesLess (l.getD i1.toNat []) (l.getD v3.toNat []) || l.getD i1.toNat []==l.getD v3.toNat []) (.ret (.inr false)) (.ret (.inl ())))))
  (fun(i1:Int) (y2:Unit)=> .ret true) ()
def risingP (l:List Str):Bool:=(rising l).val
theorem rising_is (l:List Str):Is (rising l):=
 is_cntG trivial (by omega) (fun h=>by simp only[preP]at h;omega) (fun i1 y2 _ _ _=>is_ix (by omega) (by omega) (is_ltw fun v3 hv3 _=>is_ix (by omega) (by omega) (is_br (fun _=>is_ret) (fun _=>is_ret)))) (fun i1 y2 _ _=>is_ret)
def e_rising:Ent Z:=entN Z [] [jS 2 (shp (fun sl=>[.slot 3 false [none]]) (l1 (cInt .i64)))] (args (a1 (aLf cd_Lstr))) (argsI (n:=20) rfl) (shr [.slot 0 false [none]] (l1 cBool)) [] Tryz.func52 Tryz.ntmps52 (by kernel_rfl) 1 rfl (fun a=>rising a) (fun a=>none) (fun a e _=>by kernel_rfl) (fun a=>risingP a) (fun a h=>⟨rising_is a,rfl⟩)
def lists (s:Schema):Pg (List (List Str)):=
 .cut
  (fun(y4:List (List Str))=>
   .cut
    (fun(y8:List (List Str))=>
     .as (s.Services.length<=9223372036854775807)
      (.each false ixP s.Services d_Service
       (fun(i9:Int) (a11:Service) (y10:List (List Str))=>
        .ix i9 s.Services.length
         (.ob ((0:Int)<=2/\(2:Int) < 3)
          (.ob (roomP ((y10.getD 2 []).length+1) 16)
           (.ob ((0:Int)<=2/\(2:Int) < 3)
            (.ret (.inl [y10.getD 0 [],y10.getD 1 [],y10.getD 2 []++[a11.Name]]))))))
       (fun(i9:Int) (y10:List (List Str))=> .ret [y10.getD 0 [],y10.getD 1 [],y10.getD 2 []])
       [y8.getD 0 [],y8.getD 1 [],y8.getD 2 []]))
    (.as (s.Enums.length<=9223372036854775807)
     (.each false ixP s.Enums d_Enum
      (fun(i5:Int) (a7:Enum) (y6:List (List Str))=>
       .ix i5 s.Enums.length
        (.ob ((0:Int)<=1/\(1:Int) < 3)
         (.ob (roomP ((y6.getD 1 []).length+1) 16)
          (.ob ((0:Int)<=1/\(1:Int) < 3) (.ret (.inl [y6.getD 0 [],y6.getD 1 []++[a7.Name],y6.getD 2 []]))))))
      (fun(i5:Int) (y6:List (List Str))=> .ret (.inl [y6.getD 0 [],y6.getD 1 [],y6.getD 2 []]))
      [y4.getD 0 [],y4.getD 1 [],y4.getD 2 []])))
  (.as (s.Messages.length<=9223372036854775807)
   (.each false ixP s.Messages d_Message
    (fun(i1:Int) (a3:Message) (y2:List (List Str))=>
     .ix i1 s.Messages.length
      (.ob ((0:Int)<=0/\(0:Int) < 3)
       (.ob (roomP ((y2.getD 0 []).length+1) 16)
        (.ob ((0:Int)<=0/\(0:Int) < 3) (.ret (.inl [y2.getD 0 []++[a3.Name],y2.getD 1 [],y2.getD 2 []]))))))
    (fun(i1:Int) (y2:List (List Str))=> .ret (.inl [y2.getD 0 [],y2.getD 1 [],y2.getD 2 []])) [[],[],[]]))
def listsP (s:Schema):List (List Str):=(lists s).val
theorem lists_isP (s:Schema)(h:okS s):IsP (lists s) (fun _=>True):=
 have h1:s.Messages.length<=150:=h.1;have h2:s.Enums.length<=150:=h.2.1;have h3:s.Services.length<=150:=h.2.2.1;isP_cut (fun y4=>(y4.getD 0 []).length<=150/\(y4.getD 1 []).length<=0/\(y4.getD 2 []).length<=0) (isP_as <| isP_each (fun(i1:Nat) y2=>(y2.getD 0 []).length<=i1/\(y2.getD 1 []).length<=0/\(y2.getD 2 []).length<=0) (by first | (simp;done) | (simp only[List.getD_cons_succ,List.getD_cons_zero];omega)) (by omega) (fun i1 y2 hlti1 hIi1=>have hI:(y2.getD 0 []).length<=i1/\(y2.getD 1 []).length<=0/\(y2.getD 2 []).length<=0:=hIi1;isP_ix (by omega) (by omega) (isP_ob ((by first | omega | exact room_of (by omega) (by omega))) (isP_ob ((by first | omega | exact room_of (by omega) (by omega))) (isP_ob ((by first | omega | exact room_of (by omega) (by omega))) (isP_ret (by(try simp only[Sum.elim_inl,Sum.elim_inr])<;>(first | trivial | (simp only[List.getD_cons_succ,List.getD_cons_zero,List.length_append,List.length_cons,List.length_nil];omega)))))))) (fun y2 hI=>have hI:(y2.getD 0 []).length<=s.Messages.length/\(y2.getD 1 []).length<=0/\(y2.getD 2 []).length<=0:=hI;isP_ret (by(try simp only[Sum.elim_inl,Sum.elim_inr])<;>(first | trivial | (simp only[List.getD_cons_succ,List.getD_cons_zero,List.length_append,List.length_cons,List.length_nil];omega))))) (fun y4 hy4=>have hy4:(y4.getD 0 []).length<=150/\(y4.getD 1 []).length<=0/\(y4.getD 2 []).length<=0:=hy4;isP_cut (fun y8=>(y8.getD 0 []).length<=150/\(y8.getD 1 []).length<=150/\(y8.getD 2 []).length<=0) (isP_as <| isP_each (fun(i5:Nat) y6=>(y6.getD 0 []).length<=150/\(y6.getD 1 []).length<=i5/\(y6.getD 2 []).length<=0) (by first | (simp;done) | (simp only[List.getD_cons_succ,List.getD_cons_zero];omega)) (by omega) (fun i5 y6 hlti5 hIi5=>have hI:(y6.getD 0 []).length<=150/\(y6.getD 1 []).length<=i5/\(y6.getD 2 []).length<=0:=hIi5;isP_ix (by omega) (by omega) (isP_ob ((by first | omega | exact room_of (by omega) (by omega))) (isP_ob ((by first | omega | exact room_of (by omega) (by omega))) (isP_ob ((by first | omega | exact room_of (by omega) (by omega))) (isP_ret (by(try simp only[Sum.elim_inl,Sum.elim_inr])<;>(first | trivial | (simp only[List.getD_cons_succ,List.getD_cons_zero,List.length_append,List.length_cons,List.length_nil];omega)))))))) (fun y6 hI=>have hI:(y6.getD 0 []).length<=150/\(y6.getD 1 []).length<=s.Enums.length/\(y6.getD 2 []).length<=0:=hI;isP_ret (by(try simp only[Sum.elim_inl,Sum.elim_inr])<;>(first | trivial | (simp only[List.getD_cons_succ,List.getD_cons_zero,List.length_append,List.length_cons,List.length_nil];omega))))) (fun y8 hy8=>have hy8:(y8.getD 0 []).length<=150/\(y8.getD 1 []).length<=150/\(y8.getD 2 []).length<=0:=hy8;isP_as <| isP_each (fun(i9:Nat) y10=>(y10.getD 0 []).length<=150/\(y10.getD 1 []).length<=150/\(y10.getD 2 []).length<=i9) (by first | (simp;done) | (simp only[List.getD_cons_succ,List.getD_cons_zero];omega)) (by omega) (fun i9 y10 hlti9 hIi9=>have hI:(y10.getD 0 []).length<=150/\(y10.getD 1 []).length<=150/\(y10.getD 2 []).length<=i9:=hIi9;isP_ix (by omega) (by omega) (isP_ob ((by first | omega | exact room_of (by omega) (by omega))) (isP_ob ((by first | omega | exact room_of (by omega) (by omega))) (isP_ob ((by first | omega | exact room_of (by omega) (by omega))) (isP_ret (by(try simp only[Sum.elim_inl,Sum.elim_inr])<;>(first | trivial | (simp only[List.getD_cons_succ,List.getD_cons_zero,List.length_append,List.length_cons,List.length_nil];omega)))))))) (fun y10 hI=>have hI:(y10.getD 0 []).length<=150/\(y10.getD 1 []).length<=150/\(y10.getD 2 []).length<=s.Services.length:=hI;isP_ret (by(try simp only[Sum.elim_inl,Sum.elim_inr])<;>(first | trivial | (simp only[List.getD_cons_succ,List.getD_cons_zero,List.length_append,List.length_cons,List.length_nil];omega))))))
theorem lists_is (s:Schema)(h:okS s):Is (lists s):=(lists_isP s h).1
def e_lists:Ent Z:=entN Z [] [jS 3 (shp (fun sl=>[.slot 13 false [none], .cells (pid (sl 3)) [some 9,some 9,some 9]]) (lCons (cInt .i64) (l1 (cArr 3 [] cd_Lstr)))),jS 8 (shp (fun sl=>[.slot 28 false [none], .cells (pid (sl 3)) [some 9,some 9,some 9]]) (lCons (cInt .i64) (l1 (cArr 3 [] cd_Lstr)))),jS 13 (shp (fun sl=>[.slot 43 false [none], .cells (pid (sl 3)) [some 9,some 9,some 9]]) (lCons (cInt .i64) (l1 (cArr 3 [] cd_Lstr)))),jS 100007 (shp (fun sl=>[.cells (pid (sl 3)) [some 9,some 9,some 9]]) (l1 (cArr 3 [] cd_Lstr))),jS 100012 (shp (fun sl=>[.cells (pid (sl 3)) [some 9,some 9,some 9]]) (l1 (cArr 3 [] cd_Lstr)))] (args (a1 (aAgg cd_Schema))) (argsI (n:=56) rfl) (shr [.slot 0 true [none,none,none]] (l1 (cArr 3 [] cd_Lstr))) [] Tryz.func50 Tryz.ntmps50 (by kernel_rfl) 1 rfl (fun a=>lists a) (fun a=>some (okS a)) (fun a e _=>by kernel_rfl) (fun a=>listsP a) (fun a h=>⟨lists_is a h,rfl⟩)
def ap0 (x:Str)(l:List (List Str)):Pg Bool:=
 .ob ((0:Int)<=0/\(0:Int) < 3) (.ret ((l.getD 0 []).any fun(x_1:Str)=>x==x_1))
def ap0P (x:Str)(l:List (List Str)):Bool:=(ap0 x l).val
theorem ap0_is (x:Str)(l:List (List Str)):Is (ap0 x l):=
 is_ob (by omega) (is_ret)
def e_ap0:Ent Z:=entN Z [e_coS] [] (argsB (aCons (aLf cStr) (aCons (aPtr 0) (a1 (aPtr 1)))) (bCons (bCells (cArr 3 [] cd_Lstr)) (b1 (bLit .i64 0)))) (argsBI (n:=10) rfl) (shr [.slot 0 false [none]] (l1 cBool)) [0,1] Tryz.func102 Tryz.ntmps102 (by kernel_rfl) 1 rfl (fun a=>ap0 (a.1.1) (a.2.1)) (fun a=>none) (fun a e _=>by kernel_rfl) (fun a=>ap0P (a.1.1) (a.2.1)) (fun a h=>⟨ap0_is (a.1.1) (a.2.1),rfl⟩)
def ap0I (l:List Str)(l3:List (List Str)):Pg Int:=
 .as (l.length<=9223372036854775807)
  (.each false ixI l []
   (fun(i1:Int) (a3:Str) (y2:Unit)=>
    .ix i1 l.length (.br (ap0P a3 [l3.getD 0 [],l3.getD 1 [],l3.getD 2 []]) (.ret (.inr i1)) (.ret (.inl ()))))
   (fun(i1:Int) (y2:Unit)=> .ret (-1)) ())
theorem ap0I_is (l:List Str)(l3:List (List Str)):Is (ap0I l l3):=
 is_as fun _=>is_each (.inr (by omega)) (fun i1 y2 _ _=>is_ix (by omega) (by omega) (is_br (fun _=>is_ret) (fun _=>is_ret))) (fun y2 _=>is_ret)
def e_ap0I:Ent Z:=entN Z [e_ap0] [jS 2 (shp (fun sl=>[.slot 8 false [none]]) (l1 (cInt .i64)))] (argsB (aCons (aLf cd_Lstr) (a1 (aFn 102 [0,1]))) (bCons (bCells (cArr 3 [] cd_Lstr)) (b1 (bLit .i64 0)))) (argsBI (n:=19) rfl) (shr [.slot 0 false [none]] (l1 (cInt .i64))) [0,1] Tryz.func162 Tryz.ntmps162 (by kernel_rfl) 1 rfl (fun a=>ap0I (a.1.1) (a.2.1)) (fun a=>none) (fun a e _=>by kernel_rfl) (fun a=>ixOf (fun(x:Str)=>ap0P x (a.2.1)) (a.1.1)) (fun a h=>⟨ap0I_is (a.1.1) (a.2.1),(fun(l:List Str) l3=>forE_ix (fun(x:Str)=>ap0P x l3) l 0) (a.1.1) (a.2.1)⟩)
def ap0A (l:List Str)(l3:List (List Str)):Pg Bool:=
 .lt (ixOf (fun(x:Str)=>ap0P x [l3.getD 0 [],l3.getD 1 [],l3.getD 2 []]) l) fun(v1:Int)=> .ret (decide (0<=v1))
theorem ap0A_is (l:List Str)(l3:List (List Str)):Is (ap0A l l3):=
 is_lt fun v1 hv1=>is_ret
def e_ap0A:Ent Z:=entN Z [e_ap0,e_wdI,e_finA0,e_cycI,e_ap0I] [] (argsB (aCons (aLf cd_Lstr) (a1 (aFn 102 [0,1]))) (bCons (bCells (cArr 3 [] cd_Lstr)) (b1 (bLit .i64 0)))) (argsBI (n:=9) rfl) (shr [.slot 0 false [none]] (l1 cBool)) [0,1] Tryz.func101 Tryz.ntmps101 (by kernel_rfl) 1 rfl (fun a=>ap0A (a.1.1) (a.2.1)) (fun a=>none) (fun a e _=>by kernel_rfl) (fun a=>(a.1.1).any fun(x:Str)=>ap0P x (a.2.1)) (fun a h=>⟨ap0A_is (a.1.1) (a.2.1),(fun(l:List Str) l3=>ixOf_any _ l) (a.1.1) (a.2.1)⟩)
def ap1 (x:Str)(l:List (List Str)):Pg Bool:=
 .ob ((0:Int)<=1/\(1:Int) < 3) (.ret ((l.getD 1 []).any fun(x_1:Str)=>x==x_1))
def ap1P (x:Str)(l:List (List Str)):Bool:=(ap1 x l).val
theorem ap1_is (x:Str)(l:List (List Str)):Is (ap1 x l):=
 is_ob (by omega) (is_ret)
def e_ap1:Ent Z:=entN Z [e_coS] [] (argsB (aCons (aLf cStr) (aCons (aPtr 0) (a1 (aPtr 1)))) (bCons (bCells (cArr 3 [] cd_Lstr)) (b1 (bLit .i64 1)))) (argsBI (n:=10) rfl) (shr [.slot 0 false [none]] (l1 cBool)) [0,1] Tryz.func102 Tryz.ntmps102 (by kernel_rfl) 1 rfl (fun a=>ap1 (a.1.1) (a.2.1)) (fun a=>none) (fun a e _=>by kernel_rfl) (fun a=>ap1P (a.1.1) (a.2.1)) (fun a h=>⟨ap1_is (a.1.1) (a.2.1),rfl⟩)
def ap1I (l:List Str)(l3:List (List Str)):Pg Int:=
 .as (l.length<=9223372036854775807)
  (.each false ixI l []
   (fun(i1:Int) (a3:Str) (y2:Unit)=>
    .ix i1 l.length (.br (ap1P a3 [l3.getD 0 [],l3.getD 1 [],l3.getD 2 []]) (.ret (.inr i1)) (.ret (.inl ()))))
   (fun(i1:Int) (y2:Unit)=> .ret (-1)) ())
theorem ap1I_is (l:List Str)(l3:List (List Str)):Is (ap1I l l3):=
 is_as fun _=>is_each (.inr (by omega)) (fun i1 y2 _ _=>is_ix (by omega) (by omega) (is_br (fun _=>is_ret) (fun _=>is_ret))) (fun y2 _=>is_ret)
def e_ap1I:Ent Z:=entN Z [e_ap0,e_ap1] [jS 2 (shp (fun sl=>[.slot 8 false [none]]) (l1 (cInt .i64)))] (argsB (aCons (aLf cd_Lstr) (a1 (aFn 102 [0,1]))) (bCons (bCells (cArr 3 [] cd_Lstr)) (b1 (bLit .i64 1)))) (argsBI (n:=19) rfl) (shr [.slot 0 false [none]] (l1 (cInt .i64))) [0,1] Tryz.func162 Tryz.ntmps162 (by kernel_rfl) 1 rfl (fun a=>ap1I (a.1.1) (a.2.1)) (fun a=>none) (fun a e _=>by kernel_rfl) (fun a=>ixOf (fun(x:Str)=>ap1P x (a.2.1)) (a.1.1)) (fun a h=>⟨ap1I_is (a.1.1) (a.2.1),(fun(l:List Str) l3=>forE_ix (fun(x:Str)=>ap1P x l3) l 0) (a.1.1) (a.2.1)⟩)
def ap1A (l:List Str)(l3:List (List Str)):Pg Bool:=
 .lt (ixOf (fun(x:Str)=>ap1P x [l3.getD 0 [],l3.getD 1 [],l3.getD 2 []]) l) fun(v1:Int)=> .ret (decide (0<=v1))
theorem ap1A_is (l:List Str)(l3:List (List Str)):Is (ap1A l l3):=
 is_lt fun v1 hv1=>is_ret
def e_ap1A:Ent Z:=entN Z [e_ap0,e_ap1,e_wdI,e_finA0,e_cycI,e_ap0I,e_ap1I] [] (argsB (aCons (aLf cd_Lstr) (a1 (aFn 102 [0,1]))) (bCons (bCells (cArr 3 [] cd_Lstr)) (b1 (bLit .i64 1)))) (argsBI (n:=9) rfl) (shr [.slot 0 false [none]] (l1 cBool)) [0,1] Tryz.func101 Tryz.ntmps101 (by kernel_rfl) 1 rfl (fun a=>ap1A (a.1.1) (a.2.1)) (fun a=>none) (fun a e _=>by kernel_rfl) (fun a=>(a.1.1).any fun(x:Str)=>ap1P x (a.2.1)) (fun a h=>⟨ap1A_is (a.1.1) (a.2.1),(fun(l:List Str) l3=>ixOf_any _ l) (a.1.1) (a.2.1)⟩)
def apart (l:List (List Str)):Pg Bool:=
 .lt (wrp .i64 (0+1)) fun(v1:Int)=>
  .ob (0<=v1/\v1 < 3)
   (.br ((l.getD 1 []).any fun(x:Str)=>ap0P x [l.getD 0 [],l.getD 1 [],l.getD 2 []]) (.ret false)
    (.lt (wrp .i64 (v1+1)) fun(v2:Int)=>
     .ob (0<=v2/\v2 < 3)
      (.br ((l.getD 2 []).any fun(x:Str)=>ap0P x [l.getD 0 [],l.getD 1 [],l.getD 2 []]) (.ret false)
       (.ob (0<=v2/\v2 < 3)
        (.br ((l.getD 2 []).any fun(x:Str)=>ap1P x [l.getD 0 [],l.getD 1 [],l.getD 2 []]) (.ret false) (.ret true))))))
def apartP (l:List (List Str)):Bool:=(apart l).val
theorem apart_is (l:List (List Str)):Is (apart l):=
 is_ltw fun v1 hv1 _=>is_ob (by omega) (is_br (fun _=>is_ret) (fun _=>is_ltw fun v2 hv2 _=>is_ob (by omega) (is_br (fun _=>is_ret) (fun _=>is_ob (by omega) (is_br (fun _=>is_ret) (fun _=>is_ret))))))
def e_apart:Ent Z:=entN Z [e_wdA,e_finA,e_cycA,e_ap0A,e_ap1A,e_ap0,e_ap1] [jS 600002 (shp (fun _=>List.replicate 4 (.iter 0)) l0),jS 600005 (shp (fun _=>List.replicate 4 (.iter 0)) l0)] (args (a1 (aAgg (cArr 3 [] cd_Lstr)))) (argsI (n:=19) rfl) (shr [.slot 0 false [none]] (l1 cBool)) [] Tryz.func53 Tryz.ntmps53 (by kernel_rfl) 1 rfl (fun a=>apart a) (fun a=>none) (fun a e _=>by kernel_rfl) (fun a=>apartP a) (fun a h=>⟨apart_is a,rfl⟩)
theorem inMsgL {s:Schema}{m:Message}{fin:List (Str×Bool)}{v:List Problem}(hm:okM m)(h:v=inMsgP s m fin):v.length<=16777216:=by
 subst h
 exact(inMsg_isP s m fin hm).2
theorem enumPrL {e:Enum}{v:List Problem}(hm:okE e)(h:v=enumPrP e):v.length<=16777216:=by
 subst h
 exact(enumPr_isP e hm).2
theorem cSvcL {s:Schema}{x:Service}{v:List Problem}(hm:okSv x)(h:v=cSvcP s x):v.length<=16777216:=by
 subst h
 exact(cSvc_isP s x hm).2
def cAll (s:Schema):Pg (List Problem):=
 .ob (okS s)
  (.lt (listsP s) fun(v20:List (List Str))=>
   .cut
    (fun(y7:check_finder)=>
     .cut
      (fun(y8:check_finder)=>
       .ob (s.Messages.length<=1048576/\∀(m:Message),m∈s.Messages->m.Fields.length<=1048576)
        (.cut
         (fun(y12:check_finder)=>
          .cut
           (fun(y16:check_finder)=>
            .as (s.Services.length<=9223372036854775807)
             (.each false ixP s.Services d_Service
              (fun(i17:Int) (a19:Service) (y18:check_finder)=>
               .ix i17 s.Services.length
                (.ob (okSv a19)
                 (.lt (cSvcP s a19) fun(v21:List Problem)=>
                  .ob (roomP (y18.out.length+v21.length) 32) (.ret (.inl (check_finder.mk y18.def_ y18.num (y18.out++v21)))))))
              (fun(i17:Int) (y18:check_finder)=> .ret y18.out) y16))
           (.as (s.Enums.length<=9223372036854775807)
            (.each false ixP s.Enums d_Enum
             (fun(i13:Int) (a15:Enum) (y14:check_finder)=>
              .ix i13 s.Enums.length
               (.ob (okE a15)
                (.lt (enumPrP a15) fun(v22:List Problem)=>
                 .ob (roomP (y14.out.length+v22.length) 32) (.ret (.inl (check_finder.mk y14.def_ y14.num (y14.out++v22)))))))
             (fun(i13:Int) (y14:check_finder)=> .ret (.inl y14)) y12)))
         (.as (s.Messages.length<=9223372036854775807)
          (.each false ixP s.Messages d_Message
           (fun(i9:Int) (a11:Message) (y10:check_finder)=>
            .ix i9 s.Messages.length
             (.ob (okM a11)
              (.lt (inMsgP s a11 (cFiniteP s)) fun(v23:List Problem)=>
               .ob (roomP (y10.out.length+v23.length) 32) (.ret (.inl (check_finder.mk y10.def_ y10.num (y10.out++v23)))))))
           (fun(i9:Int) (y10:check_finder)=> .ret (.inl y10)) y8))))
      (.ob (y7.out.length<=68719476736) (.ret (.inl (unlP (apartP [v20.getD 0 [],v20.getD 1 [],v20.getD 2 []]) 9 y7)))))
    (.cut
     (fun(y2:check_finder)=>
      .lt (wrp .i64 (0+1)) fun(v24:Int)=>
       .cut
        (fun(y4:check_finder)=>
         .cut (fun(y6:check_finder)=> .ret (.inl y6))
          (.lt (wrp .i64 (v24+1)) fun(v25:Int)=>
           .ob (0<=v25/\v25 < 3)
            (.cut (fun(y5:check_finder)=> .ob (y5.out.length<=68719476736) (.ret (.inl (unlP (risingP (v20.getD 2 [])) 11 y5))))
             (.ob (y4.out.length<=68719476736) (.ret (.inl (unlP (decide ((↑(v20.getD 2 []).length:Int)<=64)) 3 y4)))))))
        (.ob (0<=v24/\v24 < 3)
         (.cut (fun(y3:check_finder)=> .ob (y3.out.length<=68719476736) (.ret (.inl (unlP (risingP (v20.getD 1 [])) 11 y3))))
          (.ob (y2.out.length<=68719476736) (.ret (.inl (unlP (decide ((↑(v20.getD 1 []).length:Int)<=64)) 3 y2)))))))
     (.ob ((0:Int)<=0/\(0:Int) < 3)
      (.cut (fun(y1:check_finder)=> .ob (y1.out.length<=68719476736) (.ret (.inl (unlP (risingP (v20.getD 0 [])) 11 y1))))
       (.ob (0<=68719476736)
        (.ret (.inl (unlP (decide ((↑(v20.getD 0 []).length:Int)<=64)) 3 (check_finder.mk [] (-1) [])))))))))
def cAllP (s:Schema):List Problem:=(cAll s).val
theorem cAll_isP (s:Schema)(h:okS s):IsP (cAll s) (fun _=>True):=
 have h1:s.Messages.length<=150:=h.1;have h2:s.Enums.length<=150:=h.2.1;have h3:s.Services.length<=150:=h.2.2.1;isP_ob ((by first | omega | (dsimp only at*;omega) | (simp only[List.length_nil]at*;omega) | exact h | exact h.2.2.2.1 _ (getD_mem (by omega)) | exact h.2.2.2.2.1 _ (getD_mem (by omega)) | exact h.2.2.2.2.2 _ (getD_mem (by omega)) | exact⟨by omega,fun m hm=>(h.2.2.2.1 m hm).1⟩ | exact room_of (by omega) (by omega))) (isP_lt fun v20 hv20=>isP_cut (fun y7=>y7.out.length<=6) (isP_cut (fun y2=>y2.out.length<=2) (isP_ob ((by first | omega | (dsimp only at*;omega) | (simp only[List.length_nil]at*;omega) | exact h | exact h.2.2.2.1 _ (getD_mem (by omega)) | exact h.2.2.2.2.1 _ (getD_mem (by omega)) | exact h.2.2.2.2.2 _ (getD_mem (by omega)) | exact⟨by omega,fun m hm=>(h.2.2.2.1 m hm).1⟩ | exact room_of (by omega) (by omega))) (isP_cut (fun y1=>y1.out.length<=1) (isP_ob ((by first | omega | (dsimp only at*;omega) | (simp only[List.length_nil]at*;omega) | exact h | exact h.2.2.2.1 _ (getD_mem (by omega)) | exact h.2.2.2.2.1 _ (getD_mem (by omega)) | exact h.2.2.2.2.2 _ (getD_mem (by omega)) | exact⟨by omega,fun m hm=>(h.2.2.2.1 m hm).1⟩ | exact room_of (by omega) (by omega))) (isP_ret (by(try simp only[Sum.elim_inl,Sum.elim_inr])<;>(first | trivial | omega | (dsimp only;omega) | (refine Nat.le_trans (fieldL (by omega) rfl) ?_;omega) | (refine⟨Int.le_trans (Int.ofNat_le.2 (fieldL (by omega) rfl)) ?_,?_⟩<;>omega) | (refine Nat.le_trans (unlL' _ _ _) ?_;first | omega | (dsimp only at*;omega) | (simp only[List.length_nil]at*;omega)) | (refine Nat.le_trans (notedL' _ _ _) ?_;first | omega | (dsimp only at*;omega) | (simp only[List.length_nil]at*;omega)) | (simp only[List.length_append];omega))))) (fun y1 hy1=>have hy1:y1.out.length<=1:=hy1;isP_ob ((by first | omega | (dsimp only at*;omega) | (simp only[List.length_nil]at*;omega) | exact h | exact h.2.2.2.1 _ (getD_mem (by omega)) | exact h.2.2.2.2.1 _ (getD_mem (by omega)) | exact h.2.2.2.2.2 _ (getD_mem (by omega)) | exact⟨by omega,fun m hm=>(h.2.2.2.1 m hm).1⟩ | exact room_of (by omega) (by omega))) (isP_ret (by(try simp only[Sum.elim_inl,Sum.elim_inr])<;>(first | trivial | omega | (dsimp only;omega) | (refine Nat.le_trans (fieldL (by omega) rfl) ?_;omega) | (refine⟨Int.le_trans (Int.ofNat_le.2 (fieldL (by omega) rfl)) ?_,?_⟩<;>omega) | (refine Nat.le_trans (unlL' _ _ _) ?_;first | omega | (dsimp only at*;omega) | (simp only[List.length_nil]at*;omega)) | (refine Nat.le_trans (notedL' _ _ _) ?_;first | omega | (dsimp only at*;omega) | (simp only[List.length_nil]at*;omega)) | (simp only[List.length_append];omega))))))) (fun y2 hy2=>have hy2:y2.out.length<=2:=hy2;isP_ltw fun v24 hv24 _=>isP_cut (fun y4=>y4.out.length<=4) (isP_ob ((by first | omega | (dsimp only at*;omega) | (simp only[List.length_nil]at*;omega) | exact h | exact h.2.2.2.1 _ (getD_mem (by omega)) | exact h.2.2.2.2.1 _ (getD_mem (by omega)) | exact h.2.2.2.2.2 _ (getD_mem (by omega)) | exact⟨by omega,fun m hm=>(h.2.2.2.1 m hm).1⟩ | exact room_of (by omega) (by omega))) (isP_cut (fun y3=>y3.out.length<=3) (isP_ob ((by first | omega | (dsimp only at*;omega) | (simp only[List.length_nil]at*;omega) | exact h | exact h.2.2.2.1 _ (getD_mem (by omega)) | exact h.2.2.2.2.1 _ (getD_mem (by omega)) | exact h.2.2.2.2.2 _ (getD_mem (by omega)) | exact⟨by omega,fun m hm=>(h.2.2.2.1 m hm).1⟩ | exact room_of (by omega) (by omega))) (isP_ret (by(try simp only[Sum.elim_inl,Sum.elim_inr])<;>(first | trivial | omega | (dsimp only;omega) | (refine Nat.le_trans (fieldL (by omega) rfl) ?_;omega) | (refine⟨Int.le_trans (Int.ofNat_le.2 (fieldL (by omega) rfl)) ?_,?_⟩<;>omega) | (refine Nat.le_trans (unlL' _ _ _) ?_;first | omega | (dsimp only at*;omega) | (simp only[List.length_nil]at*;omega)) | (refine Nat.le_trans (notedL' _ _ _) ?_;first | omega | (dsimp only at*;omega) | (simp only[List.length_nil]at*;omega)) | (simp only[List.length_append];omega))))) (fun y3 hy3=>have hy3:y3.out.length<=3:=hy3;isP_ob ((by first | omega | (dsimp only at*;omega) | (simp only[List.length_nil]at*;omega) | exact h | exact h.2.2.2.1 _ (getD_mem (by omega)) | exact h.2.2.2.2.1 _ (getD_mem (by omega)) | exact h.2.2.2.2.2 _ (getD_mem (by omega)) | exact⟨by omega,fun m hm=>(h.2.2.2.1 m hm).1⟩ | exact room_of (by omega) (by omega))) (isP_ret (by(try simp only[Sum.elim_inl,Sum.elim_inr])<;>(first | trivial | omega | (dsimp only;omega) | (refine Nat.le_trans (fieldL (by omega) rfl) ?_;omega) | (refine⟨Int.le_trans (Int.ofNat_le.2 (fieldL (by omega) rfl)) ?_,?_⟩<;>omega) | (refine Nat.le_trans (unlL' _ _ _) ?_;first | omega | (dsimp only at*;omega) | (simp only[List.length_nil]at*;omega)) | (refine Nat.le_trans (notedL' _ _ _) ?_;first | omega | (dsimp only at*;omega) | (simp only[List.length_nil]at*;omega)) | (simp only[List.length_append];omega))))))) (fun y4 hy4=>have hy4:y4.out.length<=4:=hy4;isP_cut (fun y6=>y6.out.length<=6) (isP_ltw fun v25 hv25 _=>isP_ob ((by first | omega | (dsimp only at*;omega) | (simp only[List.length_nil]at*;omega) | exact h | exact h.2.2.2.1 _ (getD_mem (by omega)) | exact h.2.2.2.2.1 _ (getD_mem (by omega)) | exact h.2.2.2.2.2 _ (getD_mem (by omega)) | exact⟨by omega,fun m hm=>(h.2.2.2.1 m hm).1⟩ | exact room_of (by omega) (by omega))) (isP_cut (fun y5=>y5.out.length<=5) (isP_ob ((by first | omega | (dsimp only at*;omega) | (simp only[List.length_nil]at*;omega) | exact h | exact h.2.2.2.1 _ (getD_mem (by omega)) | exact h.2.2.2.2.1 _ (getD_mem (by omega)) | exact h.2.2.2.2.2 _ (getD_mem (by omega)) | exact⟨by omega,fun m hm=>(h.2.2.2.1 m hm).1⟩ | exact room_of (by omega) (by omega))) (isP_ret (by(try simp only[Sum.elim_inl,Sum.elim_inr])<;>(first | trivial | omega | (dsimp only;omega) | (refine Nat.le_trans (fieldL (by omega) rfl) ?_;omega) | (refine⟨Int.le_trans (Int.ofNat_le.2 (fieldL (by omega) rfl)) ?_,?_⟩<;>omega) | (refine Nat.le_trans (unlL' _ _ _) ?_;first | omega | (dsimp only at*;omega) | (simp only[List.length_nil]at*;omega)) | (refine Nat.le_trans (notedL' _ _ _) ?_;first | omega | (dsimp only at*;omega) | (simp only[List.length_nil]at*;omega)) | (simp only[List.length_append];omega))))) (fun y5 hy5=>have hy5:y5.out.length<=5:=hy5;isP_ob ((by first | omega | (dsimp only at*;omega) | (simp only[List.length_nil]at*;omega) | exact h | exact h.2.2.2.1 _ (getD_mem (by omega)) | exact h.2.2.2.2.1 _ (getD_mem (by omega)) | exact h.2.2.2.2.2 _ (getD_mem (by omega)) | exact⟨by omega,fun m hm=>(h.2.2.2.1 m hm).1⟩ | exact room_of (by omega) (by omega))) (isP_ret (by(try simp only[Sum.elim_inl,Sum.elim_inr])<;>(first | trivial | omega | (dsimp only;omega) | (refine Nat.le_trans (fieldL (by omega) rfl) ?_;omega) | (refine⟨Int.le_trans (Int.ofNat_le.2 (fieldL (by omega) rfl)) ?_,?_⟩<;>omega) | (refine Nat.le_trans (unlL' _ _ _) ?_;first | omega | (dsimp only at*;omega) | (simp only[List.length_nil]at*;omega)) | (refine Nat.le_trans (notedL' _ _ _) ?_;first | omega | (dsimp only at*;omega) | (simp only[List.length_nil]at*;omega)) | (simp only[List.length_append];omega))))))) (fun y6 hy6=>have hy6:y6.out.length<=6:=hy6;isP_ret (by(try simp only[Sum.elim_inl,Sum.elim_inr])<;>(first | trivial | omega | (dsimp only;omega) | (refine Nat.le_trans (fieldL (by omega) rfl) ?_;omega) | (refine⟨Int.le_trans (Int.ofNat_le.2 (fieldL (by omega) rfl)) ?_,?_⟩<;>omega) | (refine Nat.le_trans (unlL' _ _ _) ?_;first | omega | (dsimp only at*;omega) | (simp only[List.length_nil]at*;omega)) | (refine Nat.le_trans (notedL' _ _ _) ?_;first | omega | (dsimp only at*;omega) | (simp only[List.length_nil]at*;omega)) | (simp only[List.length_append];omega))))))) (fun y7 hy7=>have hy7:y7.out.length<=6:=hy7;isP_cut (fun y8=>y8.out.length<=7) (isP_ob ((by first | omega | (dsimp only at*;omega) | (simp only[List.length_nil]at*;omega) | exact h | exact h.2.2.2.1 _ (getD_mem (by omega)) | exact h.2.2.2.2.1 _ (getD_mem (by omega)) | exact h.2.2.2.2.2 _ (getD_mem (by omega)) | exact⟨by omega,fun m hm=>(h.2.2.2.1 m hm).1⟩ | exact room_of (by omega) (by omega))) (isP_ret (by(try simp only[Sum.elim_inl,Sum.elim_inr])<;>(first | trivial | omega | (dsimp only;omega) | (refine Nat.le_trans (fieldL (by omega) rfl) ?_;omega) | (refine⟨Int.le_trans (Int.ofNat_le.2 (fieldL (by omega) rfl)) ?_,?_⟩<;>omega) | (refine Nat.le_trans (unlL' _ _ _) ?_;first | omega | (dsimp only at*;omega) | (simp only[List.length_nil]at*;omega)) | (refine Nat.le_trans (notedL' _ _ _) ?_;first | omega | (dsimp only at*;omega) | (simp only[List.length_nil]at*;omega)) | (simp only[List.length_append];omega))))) (fun y8 hy8=>have hy8:y8.out.length<=7:=hy8;isP_ob ((by first | omega | (dsimp only at*;omega) | (simp only[List.length_nil]at*;omega) | exact h | exact h.2.2.2.1 _ (getD_mem (by omega)) | exact h.2.2.2.2.1 _ (getD_mem (by omega)) | exact h.2.2.2.2.2 _ (getD_mem (by omega)) | exact⟨by omega,fun m hm=>(h.2.2.2.1 m hm).1⟩ | exact room_of (by omega) (by omega))) (isP_cut (fun y12=>y12.out.length<=2516582407) (isP_as <| isP_each (fun(i9:Nat) y10=>y10.out.length<=7+16777216*i9) (by first | omega | exact Nat.le_trans (unlL' _ _ _) (by(first | omega | (simp only[List.length_nil]at*;omega) | simp)) | exact Nat.le_trans (spansFL (by omega) rfl) (by omega)) (by omega) (fun i9 y10 hlti9 hIi9=>have hI:y10.out.length<=7+16777216*i9:=hIi9;isP_ix (by omega) (by omega) (isP_ob ((by first | omega | (dsimp only at*;omega) | (simp only[List.length_nil]at*;omega) | exact h | exact h.2.2.2.1 _ (getD_mem (by omega)) | exact h.2.2.2.2.1 _ (getD_mem (by omega)) | exact h.2.2.2.2.2 _ (getD_mem (by omega)) | exact⟨by omega,fun m hm=>(h.2.2.2.1 m hm).1⟩ | exact room_of (by omega) (by omega))) (isP_lt fun v23 hv23=>have kv23:=inMsgL (h.2.2.2.1 _ (getD_mem (by omega))) hv23;isP_ob ((by first | omega | (dsimp only at*;omega) | (simp only[List.length_nil]at*;omega) | exact h | exact h.2.2.2.1 _ (getD_mem (by omega)) | exact h.2.2.2.2.1 _ (getD_mem (by omega)) | exact h.2.2.2.2.2 _ (getD_mem (by omega)) | exact⟨by omega,fun m hm=>(h.2.2.2.1 m hm).1⟩ | exact room_of (by omega) (by omega))) (isP_ret (by(try simp only[Sum.elim_inl,Sum.elim_inr])<;>(first | trivial | omega | (dsimp only;omega) | (refine Nat.le_trans (fieldL (by omega) rfl) ?_;omega) | (refine⟨Int.le_trans (Int.ofNat_le.2 (fieldL (by omega) rfl)) ?_,?_⟩<;>omega) | (refine Nat.le_trans (unlL' _ _ _) ?_;first | omega | (dsimp only at*;omega) | (simp only[List.length_nil]at*;omega)) | (refine Nat.le_trans (notedL' _ _ _) ?_;first | omega | (dsimp only at*;omega) | (simp only[List.length_nil]at*;omega)) | (simp only[List.length_append];omega))))))) (fun y10 hI=>have hI:y10.out.length<=7+16777216*s.Messages.length:=hI;isP_ret (by(try simp only[Sum.elim_inl,Sum.elim_inr])<;>(first | trivial | omega | (dsimp only;omega) | (refine Nat.le_trans (fieldL (by omega) rfl) ?_;omega) | (refine⟨Int.le_trans (Int.ofNat_le.2 (fieldL (by omega) rfl)) ?_,?_⟩<;>omega) | (refine Nat.le_trans (unlL' _ _ _) ?_;first | omega | (dsimp only at*;omega) | (simp only[List.length_nil]at*;omega)) | (refine Nat.le_trans (notedL' _ _ _) ?_;first | omega | (dsimp only at*;omega) | (simp only[List.length_nil]at*;omega)) | (simp only[List.length_append];omega))))) (fun y12 hy12=>have hy12:y12.out.length<=2516582407:=hy12;isP_cut (fun y16=>y16.out.length<=5033164807) (isP_as <| isP_each (fun(i13:Nat) y14=>y14.out.length<=2516582407+16777216*i13) (by first | omega | exact Nat.le_trans (unlL' _ _ _) (by(first | omega | (simp only[List.length_nil]at*;omega) | simp)) | exact Nat.le_trans (spansFL (by omega) rfl) (by omega)) (by omega) (fun i13 y14 hlti13 hIi13=>have hI:y14.out.length<=2516582407+16777216*i13:=hIi13;isP_ix (by omega) (by omega) (isP_ob ((by first | omega | (dsimp only at*;omega) | (simp only[List.length_nil]at*;omega) | exact h | exact h.2.2.2.1 _ (getD_mem (by omega)) | exact h.2.2.2.2.1 _ (getD_mem (by omega)) | exact h.2.2.2.2.2 _ (getD_mem (by omega)) | exact⟨by omega,fun m hm=>(h.2.2.2.1 m hm).1⟩ | exact room_of (by omega) (by omega))) (isP_lt fun v22 hv22=>have kv22:=enumPrL (h.2.2.2.2.1 _ (getD_mem (by omega))) hv22;isP_ob ((by first | omega | (dsimp only at*;omega) | (simp only[List.length_nil]at*;omega) | exact h | exact h.2.2.2.1 _ (getD_mem (by omega)) | exact h.2.2.2.2.1 _ (getD_mem (by omega)) | exact h.2.2.2.2.2 _ (getD_mem (by omega)) | exact⟨by omega,fun m hm=>(h.2.2.2.1 m hm).1⟩ | exact room_of (by omega) (by omega))) (isP_ret (by(try simp only[Sum.elim_inl,Sum.elim_inr])<;>(first | trivial | omega | (dsimp only;omega) | (refine Nat.le_trans (fieldL (by omega) rfl) ?_;omega) | (refine⟨Int.le_trans (Int.ofNat_le.2 (fieldL (by omega) rfl)) ?_,?_⟩<;>omega) | (refine Nat.le_trans (unlL' _ _ _) ?_;first | omega | (dsimp only at*;omega) | (simp only[List.length_nil]at*;omega)) | (refine Nat.le_trans (notedL' _ _ _) ?_;first | omega | (dsimp only at*;omega) | (simp only[List.length_nil]at*;omega)) | (simp only[List.length_append];omega))))))) (fun y14 hI=>have hI:y14.out.length<=2516582407+16777216*s.Enums.length:=hI;isP_ret (by(try simp only[Sum.elim_inl,Sum.elim_inr])<;>(first | trivial | omega | (dsimp only;omega) | (refine Nat.le_trans (fieldL (by omega) rfl) ?_;omega) | (refine⟨Int.le_trans (Int.ofNat_le.2 (fieldL (by omega) rfl)) ?_,?_⟩<;>omega) | (refine Nat.le_trans (unlL' _ _ _) ?_;first | omega | (dsimp only at*;omega) | (simp only[List.length_nil]at*;omega)) | (refine Nat.le_trans (notedL' _ _ _) ?_;first | omega | (dsimp only at*;omega) | (simp only[List.length_nil]at*;omega)) | (simp only[List.length_append];omega))))) (fun y16 hy16=>have hy16:y16.out.length<=5033164807:=hy16;isP_as <| isP_each (fun(i17:Nat) y18=>y18.out.length<=5033164807+16777216*i17) (by first | omega | exact Nat.le_trans (unlL' _ _ _) (by(first | omega | (simp only[List.length_nil]at*;omega) | simp)) | exact Nat.le_trans (spansFL (by omega) rfl) (by omega)) (by omega) (fun i17 y18 hlti17 hIi17=>have hI:y18.out.length<=5033164807+16777216*i17:=hIi17;isP_ix (by omega) (by omega) (isP_ob ((by first | omega | (dsimp only at*;omega) | (simp only[List.length_nil]at*;omega) | exact h | exact h.2.2.2.1 _ (getD_mem (by omega)) | exact h.2.2.2.2.1 _ (getD_mem (by omega)) | exact h.2.2.2.2.2 _ (getD_mem (by omega)) | exact⟨by omega,fun m hm=>(h.2.2.2.1 m hm).1⟩ | exact room_of (by omega) (by omega))) (isP_lt fun v21 hv21=>have kv21:=cSvcL (h.2.2.2.2.2 _ (getD_mem (by omega))) hv21;isP_ob ((by first | omega | (dsimp only at*;omega) | (simp only[List.length_nil]at*;omega) | exact h | exact h.2.2.2.1 _ (getD_mem (by omega)) | exact h.2.2.2.2.1 _ (getD_mem (by omega)) | exact h.2.2.2.2.2 _ (getD_mem (by omega)) | exact⟨by omega,fun m hm=>(h.2.2.2.1 m hm).1⟩ | exact room_of (by omega) (by omega))) (isP_ret (by(try simp only[Sum.elim_inl,Sum.elim_inr])<;>(first | trivial | omega | (dsimp only;omega) | (refine Nat.le_trans (fieldL (by omega) rfl) ?_;omega) | (refine⟨Int.le_trans (Int.ofNat_le.2 (fieldL (by omega) rfl)) ?_,?_⟩<;>omega) | (refine Nat.le_trans (unlL' _ _ _) ?_;first | omega | (dsimp only at*;omega) | (simp only[List.length_nil]at*;omega)) | (refine Nat.le_trans (notedL' _ _ _) ?_;first | omega | (dsimp only at*;omega) | (simp only[List.length_nil]at*;omega)) | (simp only[List.length_append];omega))))))) (fun y18 hI=>have hI:y18.out.length<=5033164807+16777216*s.Services.length:=hI;isP_ret (by(try simp only[Sum.elim_inl,Sum.elim_inr])<;>(first | trivial | omega | (dsimp only;omega) | (refine Nat.le_trans (fieldL (by omega) rfl) ?_;omega) | (refine⟨Int.le_trans (Int.ofNat_le.2 (fieldL (by omega) rfl)) ?_,?_⟩<;>omega) | (refine Nat.le_trans (unlL' _ _ _) ?_;first | omega | (dsimp only at*;omega) | (simp only[List.length_nil]at*;omega)) | (refine Nat.le_trans (notedL' _ _ _) ?_;first | omega | (dsimp only at*;omega) | (simp only[List.length_nil]at*;omega)) | (simp only[List.length_append];omega))))))))))
theorem cAll_is (s:Schema)(h:okS s):Is (cAll s):=(cAll_isP s h).1
def e_cAll:Ent Z:=entN Z [e_lists,e_unl,e_rising,e_apart,e_cFinite,e_inMsg,e_enumPr,e_cSvc] [jS 600004 (shp (fun _=>List.replicate 4 (.iter 0)) l0),jS 12 (shp (fun sl=>[.slot 41 false [none], .cells (pid (sl 15)) [none,none,some 188]]) (lCons (cInt .i64) (l1 cd_check_finder))),jS 17 (shp (fun sl=>[.slot 61 false [none], .cells (pid (sl 15)) [none,none,some 188]]) (lCons (cInt .i64) (l1 cd_check_finder))),jS 22 (shp (fun sl=>[.slot 79 false [none], .cells (pid (sl 15)) [none,none,some 188]]) (lCons (cInt .i64) (l1 cd_check_finder))),jS 100007 (shp (fun sl=>[.cells (pid (sl 15)) [none,none,some 188]]) (l1 cd_check_finder)),jS 100008 (shp (fun sl=>[.cells (pid (sl 15)) [none,none,some 188]]) (l1 cd_check_finder)),jS 100009 (shp (fun sl=>[.cells (pid (sl 15)) [none,none,some 188]]) (l1 cd_check_finder)),jS 100010 (shp (fun sl=>[.cells (pid (sl 15)) [none,none,some 188]]) (l1 cd_check_finder)),jS 100016 (shp (fun sl=>[.cells (pid (sl 15)) [none,none,some 188]]) (l1 cd_check_finder)),jS 100021 (shp (fun sl=>[.cells (pid (sl 15)) [none,none,some 188]]) (l1 cd_check_finder)),jS 800001 (shp (fun sl=>[.cells (pid (sl 3)) [none,none,some 188]]) (l1 cd_check_finder))] (args (a1 (aAgg cd_Schema))) (argsI (n:=99) rfl) (shr [.slot 0 false [none]] (l1 cd_LProblem)) [] Tryz.func26 Tryz.ntmps26 (by kernel_rfl) 1 rfl (fun a=>cAll a) (fun a=>some (okS a)) (fun a e _=>by kernel_rfl) (fun a=>cAllP a) (fun a h=>⟨cAll_is a h,rfl⟩)
def cValid (s:Schema):Pg Bool:=
 .ob (okS s) (.ret ((↑(cAllP s).length:Int)==0))
def cValidP (s:Schema):Bool:=(cValid s).val
theorem cValid_is (s:Schema)(h:okS s):Is (cValid s):=
 is_ob (h) (is_ret)
def e_cValid:Ent Z:=entN Z [e_cAll] [] (args (a1 (aAgg cd_Schema))) (argsI (n:=7) rfl) (shr [.slot 0 false [none]] (l1 cBool)) [] Tryz.func10 Tryz.ntmps10 (by kernel_rfl) 1 rfl (fun a=>cValid a) (fun a=>some (okS a)) (fun a e _=>by kernel_rfl) (fun a=>cValidP a) (fun a h=>⟨cValid_is a h,rfl⟩)
end
end Go.Proofs.YtiibcbmenoaigaaGreatDoor
