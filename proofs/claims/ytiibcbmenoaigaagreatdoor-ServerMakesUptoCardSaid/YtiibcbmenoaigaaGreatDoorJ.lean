/- Server: the problems of fields. -/
import Derived.Test.YtiibcbmenoaigaaGreatDoorFb
import Derived.Test.YtiibcbmenoaigaaGreatDoorEng11
namespace Go.Proofs.YtiibcbmenoaigaaGreatDoor
noncomputable section
open Go.RowKit Go.Vc
set_option linter.unusedVariables false
set_option linter.unusedSimpArgs false
set_option maxRecDepth 100000
def unl (ok:Bool)(e:Int)(x:check_finder):Pg check_finder:=
 .br (!ok) (.ob (roomP (x.out.length+1) 32) (.ret (check_finder.mk x.def_ x.num (x.out++[Problem.mk x.def_ x.num e])))) (.ret x)
def unlP (ok:Bool)(e:Int)(x:check_finder):check_finder:=(unl ok e x).val
theorem unl_is (ok:Bool)(e:Int)(x:check_finder)(h:x.out.length<=68719476736):Is (unl ok e x):=
 is_br (fun _=>is_ob ((room_of (by omega) (by omega))) (is_ret)) (fun _=>is_ret)
def e_unl:Ent Z:=entN Z [] [] (argsB (aCons (aPtr 0) (aCons (aLf cBool) (a1 (aLf (cInt .i64))))) (bOwn 1 [none,none,some 188] cd_check_finder)) (argsB_ok (aCons_ok (aPtr_ok 0) (aCons_ok (aLf_ok cBool_ok) (a1_ok (aLf_ok (cInt_ok _))))) (bOwn_ok (k:=1) cd_check_finder_ok (fun _=>rfl)) rfl) (shr [.cells 0 [none,none,some 188]] (l1 cd_check_finder)) [] Tryz.func51 Tryz.ntmps51 (by kernel_rfl) 0 rfl (fun a=>unl (a.1.2.1) (a.1.2.2) (a.2)) (fun a=>some ((a.2).out.length<=68719476736)) (fun a e _=>by kernel_rfl) (fun a=>unlP (a.1.2.1) (a.1.2.2) (a.2)) (fun a h=>⟨unl_is (a.1.2.1) (a.1.2.2) (a.2) h,rfl⟩)
theorem unlL {ok:Bool}{e:Int}{x v:check_finder}(h:v=unlP ok e x):v.out.length<=x.out.length+1:=by
 subst h
 unfold unlP unl
 cases ok
 ·simp[Pg.val]
 ·exact Nat.le_succ _
theorem unlL2 {ok ok2:Bool}{e e2:Int}{x v:check_finder}(h:v=unlP ok e (unlP ok2 e2 x)):v.out.length<=x.out.length+2:=by
 have h1:=unlL h
 have h2:=unlL (rfl:unlP ok2 e2 x=_)
 omega
theorem unlL' (ok:Bool)(e:Int)(x:check_finder):(unlP ok e x).out.length<=x.out.length+1:=unlL rfl
def noted (l:List Note)(target:Int)(x:check_finder):Pg check_finder:=
 .ob (x.out.length<=68719476736) (.lt (nCheckP l target) fun(v1:Int)=> .ret (unlP (v1==0) v1 x))
def notedP (l:List Note)(target:Int)(x:check_finder):check_finder:=(noted l target x).val
theorem noted_is (l:List Note)(target:Int)(x:check_finder)(h:x.out.length<=68719476736):Is (noted l target x):=
 is_ob (by(try subst_vars);(try simp only[List.length_append,List.length_cons,List.length_nil]);omega) (is_lt fun v1 hv1=>is_ret)
def e_noted:Ent Z:=entN Z [e_unl,e_nCheck] [] (argsB (aCons (aPtr 0) (aCons (aLf cd_LNote) (a1 (aLf (cInt .i64))))) (bOwn 1 [none,none,some 188] cd_check_finder)) (argsB_ok (aCons_ok (aPtr_ok 0) (aCons_ok (aLf_ok cd_LNote_ok) (a1_ok (aLf_ok (cInt_ok _))))) (bOwn_ok (k:=1) cd_check_finder_ok (fun _=>rfl)) rfl) (shr [.cells 0 [none,none,some 188]] (l1 cd_check_finder)) [] Tryz.func110 Tryz.ntmps110 (by kernel_rfl) 0 rfl (fun a=>noted (a.1.2.1) (a.1.2.2) (a.2)) (fun a=>some ((a.2).out.length<=68719476736)) (fun a e _=>by kernel_rfl) (fun a=>notedP (a.1.2.1) (a.1.2.2) (a.2)) (fun a h=>⟨noted_is (a.1.2.1) (a.1.2.2) (a.2) h,rfl⟩)
theorem notedL {l:List Note}{target:Int}{x v:check_finder}(h:v=notedP l target x):v.out.length<=x.out.length+1:=by
 subst h
 exact unlL' _ _ _
theorem notedL' (l:List Note)(target:Int)(x:check_finder):(notedP l target x).out.length<=x.out.length+1:=notedL rfl
def spans (l:List Span)(least:Int)(most:Int)(x:check_finder):Pg check_finder:=
 .as (l.length<=9223372036854775807)
  (.each false ixP l d_Span
   (fun(i1:Int) (a3:Span) (y2:check_finder)=>
    .ix i1 l.length
     (.lt (unlP (decide ((l.getD (wrp .i64 (i1 - 1)).toNat d_Span).To < a3.From)) 11 (unlP false 6 y2)) fun(v4:check_finder)=>
      .lt (wrp .i64 (i1 - 1)) fun(v5:Int)=>
       .lt (unlP true 11 (unlP false 6 y2)) fun(v6:check_finder)=>
        .lt (unlP false 6 y2) fun(v7:check_finder)=>
         .br (decide (least<=a3.From))
          (.br (decide (a3.To<=most))
           (.ob (y2.out.length<=68719476736)
            (.lt (unlP (decide (a3.From<=a3.To)) 6 y2) fun(v8:check_finder)=>
             .br (i1==0) (.ob (v8.out.length<=68719476736) (.ret (.inl (unlP true 11 v8))))
              (.ix v5 l.length
               (.ob (v8.out.length<=68719476736) (.ret (.inl (unlP (decide ((l.getD v5.toNat d_Span).To < a3.From)) 11 v8)))))))
           (.ob (y2.out.length<=68719476736)
            (.br (i1==0) (.ob (v7.out.length<=68719476736) (.ret (.inl v6)))
             (.ix v5 l.length (.ob (v7.out.length<=68719476736) (.ret (.inl v4)))))))
          (.ob (y2.out.length<=68719476736)
           (.br (i1==0) (.ob (v7.out.length<=68719476736) (.ret (.inl v6)))
            (.ix v5 l.length (.ob (v7.out.length<=68719476736) (.ret (.inl v4))))))))
   (fun(i1:Int) (y2:check_finder)=> .ret y2) x)
def spansP (l:List Span)(least:Int)(most:Int)(x:check_finder):check_finder:=(spans l least most x).val
theorem spans_isP (l:List Span)(least:Int)(most:Int)(x:check_finder)(h:x.out.length+2*l.length<=68719476736):IsP (spans l least most x) (fun r=>r.out.length<=x.out.length+2*l.length):=
 isP_as <| isP_each (fun(i1:Nat) y2=>y2.out.length<=x.out.length+2*i1) (by omega) (by omega) (fun i1 y2 hlti1 hIi1=>have hI:y2.out.length<=x.out.length+2*i1:=hIi1;isP_ix (by omega) (by omega) (isP_lt fun v4 hv4=>have kv4:=unlL2 hv4;isP_ltw fun v5 hv5 _=>isP_lt fun v6 hv6=>have kv6:=unlL2 hv6;isP_lt fun v7 hv7=>have kv7:=unlL hv7;isP_brd (fun _=>isP_brd (fun _=>isP_ob ((by omega)) (isP_lt fun v8 hv8=>have kv8:=unlL hv8;isP_beq (fun _=>isP_ob ((by omega)) (isP_ret (by(try simp only[Sum.elim_inl,Sum.elim_inr])<;>(first | trivial | omega | (dsimp only;omega) | (refine Nat.le_trans (fieldL (by omega) rfl) ?_;omega) | (refine⟨Int.le_trans (Int.ofNat_le.2 (fieldL (by omega) rfl)) ?_,?_⟩<;>omega) | (refine Nat.le_trans (unlL' _ _ _) ?_;first | omega | (dsimp only at*;omega) | (simp only[List.length_nil]at*;omega)) | (refine Nat.le_trans (notedL' _ _ _) ?_;first | omega | (dsimp only at*;omega) | (simp only[List.length_nil]at*;omega)))))) (fun _=>isP_ix (by omega) (by omega) (isP_ob ((by omega)) (isP_ret (by(try simp only[Sum.elim_inl,Sum.elim_inr])<;>(first | trivial | omega | (dsimp only;omega) | (refine Nat.le_trans (fieldL (by omega) rfl) ?_;omega) | (refine⟨Int.le_trans (Int.ofNat_le.2 (fieldL (by omega) rfl)) ?_,?_⟩<;>omega) | (refine Nat.le_trans (unlL' _ _ _) ?_;first | omega | (dsimp only at*;omega) | (simp only[List.length_nil]at*;omega)) | (refine Nat.le_trans (notedL' _ _ _) ?_;first | omega | (dsimp only at*;omega) | (simp only[List.length_nil]at*;omega))))))))) (fun _=>isP_ob ((by omega)) (isP_beq (fun _=>isP_ob ((by omega)) (isP_ret (by(try simp only[Sum.elim_inl,Sum.elim_inr])<;>(first | trivial | omega | (dsimp only;omega) | (refine Nat.le_trans (fieldL (by omega) rfl) ?_;omega) | (refine⟨Int.le_trans (Int.ofNat_le.2 (fieldL (by omega) rfl)) ?_,?_⟩<;>omega) | (refine Nat.le_trans (unlL' _ _ _) ?_;first | omega | (dsimp only at*;omega) | (simp only[List.length_nil]at*;omega)) | (refine Nat.le_trans (notedL' _ _ _) ?_;first | omega | (dsimp only at*;omega) | (simp only[List.length_nil]at*;omega)))))) (fun _=>isP_ix (by omega) (by omega) (isP_ob ((by omega)) (isP_ret (by(try simp only[Sum.elim_inl,Sum.elim_inr])<;>(first | trivial | omega | (dsimp only;omega) | (refine Nat.le_trans (fieldL (by omega) rfl) ?_;omega) | (refine⟨Int.le_trans (Int.ofNat_le.2 (fieldL (by omega) rfl)) ?_,?_⟩<;>omega) | (refine Nat.le_trans (unlL' _ _ _) ?_;first | omega | (dsimp only at*;omega) | (simp only[List.length_nil]at*;omega)) | (refine Nat.le_trans (notedL' _ _ _) ?_;first | omega | (dsimp only at*;omega) | (simp only[List.length_nil]at*;omega)))))))))) (fun _=>isP_ob ((by omega)) (isP_beq (fun _=>isP_ob ((by omega)) (isP_ret (by(try simp only[Sum.elim_inl,Sum.elim_inr])<;>(first | trivial | omega | (dsimp only;omega) | (refine Nat.le_trans (fieldL (by omega) rfl) ?_;omega) | (refine⟨Int.le_trans (Int.ofNat_le.2 (fieldL (by omega) rfl)) ?_,?_⟩<;>omega) | (refine Nat.le_trans (unlL' _ _ _) ?_;first | omega | (dsimp only at*;omega) | (simp only[List.length_nil]at*;omega)) | (refine Nat.le_trans (notedL' _ _ _) ?_;first | omega | (dsimp only at*;omega) | (simp only[List.length_nil]at*;omega)))))) (fun _=>isP_ix (by omega) (by omega) (isP_ob ((by omega)) (isP_ret (by(try simp only[Sum.elim_inl,Sum.elim_inr])<;>(first | trivial | omega | (dsimp only;omega) | (refine Nat.le_trans (fieldL (by omega) rfl) ?_;omega) | (refine⟨Int.le_trans (Int.ofNat_le.2 (fieldL (by omega) rfl)) ?_,?_⟩<;>omega) | (refine Nat.le_trans (unlL' _ _ _) ?_;first | omega | (dsimp only at*;omega) | (simp only[List.length_nil]at*;omega)) | (refine Nat.le_trans (notedL' _ _ _) ?_;first | omega | (dsimp only at*;omega) | (simp only[List.length_nil]at*;omega))))))))))) (fun y2 hI=>have hI:y2.out.length<=x.out.length+2*l.length:=hI;isP_ret (by(try simp only[Sum.elim_inl,Sum.elim_inr])<;>(first | trivial | omega | (dsimp only;omega) | (refine Nat.le_trans (fieldL (by omega) rfl) ?_;omega) | (refine⟨Int.le_trans (Int.ofNat_le.2 (fieldL (by omega) rfl)) ?_,?_⟩<;>omega) | (refine Nat.le_trans (unlL' _ _ _) ?_;first | omega | (dsimp only at*;omega) | (simp only[List.length_nil]at*;omega)) | (refine Nat.le_trans (notedL' _ _ _) ?_;first | omega | (dsimp only at*;omega) | (simp only[List.length_nil]at*;omega)))))
theorem spans_is (l:List Span)(least:Int)(most:Int)(x:check_finder)(h:x.out.length+2*l.length<=68719476736):Is (spans l least most x):=(spans_isP l least most x h).1
def e_spans:Ent Z:=entN Z [e_unl] [jS 1 (shp (fun sl=>[.slot 12 false [none], .cells (pid (sl 0)) [none,none,some 188]]) (lCons (cInt .i64) (l1 cd_check_finder)))] (argsB (aCons (aPtr 0) (aCons (aLf cd_LSpan) (aCons (aLf (cInt .i64)) (a1 (aLf (cInt .i64)))))) (bOwn 1 [none,none,some 188] cd_check_finder)) (argsB_ok (aCons_ok (aPtr_ok 0) (aCons_ok (aLf_ok cd_LSpan_ok) (aCons_ok (aLf_ok (cInt_ok _)) (a1_ok (aLf_ok (cInt_ok _)))))) (bOwn_ok (k:=1) cd_check_finder_ok (fun _=>rfl)) rfl) (shr [.cells 0 [none,none,some 188]] (l1 cd_check_finder)) [] Tryz.func109 Tryz.ntmps109 (by kernel_rfl) 0 rfl (fun a=>spans (a.1.2.1) (a.1.2.2.1) (a.1.2.2.2) (a.2)) (fun a=>some ((a.2).out.length+2*(a.1.2.1).length<=68719476736)) (fun a e _=>by kernel_rfl) (fun a=>spansP (a.1.2.1) (a.1.2.2.1) (a.1.2.2.2) (a.2)) (fun a h=>⟨spans_is (a.1.2.1) (a.1.2.2.1) (a.1.2.2.2) (a.2) h,rfl⟩)
theorem spansFL {l:List Span}{a b:Int}{p v:check_finder}(hp:p.out.length+2*l.length<=68719476736)(h:v=spansP l a b p):v.out.length<=p.out.length+2*l.length:=by
 subst h
 exact(spans_isP l a b p hp).2
def field (s:Schema)(m:Message)(i:Int)(x:check_finder):Pg check_finder:=
 .ix i m.Fields.length
  (.cut
   (fun(y1:check_finder)=>
    .cut
     (fun(y2:check_finder)=>
      .cut
       (fun(y3:check_finder)=>
        .cut
         (fun(y4:check_finder)=>
          .cut
           (fun(y5:check_finder)=>
            .cut
             (fun(y6:check_finder)=>
              .cut
               (fun(y7:check_finder)=>
                .cut
                 (fun(y8:check_finder)=>
                  .cut
                   (fun(y9:check_finder)=>
                    .ob (y9.out.length<=68719476736)
                     (.lt
                      (unlP
                       (cDefaultedP s
                        (AField.mk (m.Fields.getD i.toNat d_AField).Num (m.Fields.getD i.toNat d_AField).Name (m.Fields.getD i.toNat d_AField).Card
                         (m.Fields.getD i.toNat d_AField).Key (m.Fields.getD i.toNat d_AField).Type_ (m.Fields.getD i.toNat d_AField).Union
                         (m.Fields.getD i.toNat d_AField).HasDefault (m.Fields.getD i.toNat d_AField).Default.re (m.Fields.getD i.toNat d_AField).Notes))
                       1 y9)
                      fun(v10:check_finder)=>
                      .ob (v10.out.length<=68719476736)
                       (.lt (notedP (m.Fields.getD i.toNat d_AField).Notes 2 v10) fun(v11:check_finder)=>
                        .ret (check_finder.mk v11.def_ (-1) v11.out))))
                   (.ob (0<=i/\i < (↑m.Fields.length:Int)/\m.Fields.length<=1048576)
                    (.ob (y8.out.length<=68719476736) (.ret (.inl (unlP (cUnitedP m i) 15 y8))))))
                 (.ob (y7.out.length<=68719476736)
                  (.ret
                   (.inl
                    (unlP
                     (cTypedP s
                      (AField.mk (m.Fields.getD i.toNat d_AField).Num (m.Fields.getD i.toNat d_AField).Name (m.Fields.getD i.toNat d_AField).Card
                       (m.Fields.getD i.toNat d_AField).Key (m.Fields.getD i.toNat d_AField).Type_ (m.Fields.getD i.toNat d_AField).Union
                       (m.Fields.getD i.toNat d_AField).HasDefault (m.Fields.getD i.toNat d_AField).Default.re (m.Fields.getD i.toNat d_AField).Notes))
                     12 y7)))))
               (.lt (unlP false 1 y6) fun(v12:check_finder)=>
                .br (decide (1<=(m.Fields.getD i.toNat d_AField).Card))
                 (.br (decide ((m.Fields.getD i.toNat d_AField).Card<=5))
                  (.ob (y6.out.length<=68719476736)
                   (.ret (.inl (unlP (cKeyedP (m.Fields.getD i.toNat d_AField).Card (m.Fields.getD i.toNat d_AField).Key) 1 y6))))
                  (.ob (y6.out.length<=68719476736) (.ret (.inl v12))))
                 (.ob (y6.out.length<=68719476736) (.ret (.inl v12)))))
             (.br (!cReservedP m.Reserved (m.Fields.getD i.toNat d_AField).Num)
              (.ob (y5.out.length<=68719476736)
               (.ret (.inl (unlP (!m.Gone.any fun(x:Str)=>(m.Fields.getD i.toNat d_AField).Name==x) 21 y5))))
              (.ob (y5.out.length<=68719476736) (.ret (.inl (unlP false 21 y5))))))
           (.ix i m.Fields.length (.ob (y4.out.length<=68719476736) (.ret (.inl (unlP (!seenFP m.Fields i) 9 y4))))))
         (.ob (y3.out.length<=68719476736) (.ret (.inl (unlP (uPartP (m.Fields.getD i.toNat d_AField).Name) 8 y3)))))
       (.br (i==0) (.ob (y2.out.length<=68719476736) (.ret (.inl (unlP true 11 y2))))
        (.lt (wrp .i64 (i - 1)) fun(v13:Int)=>
         .ix v13 m.Fields.length
          (.ob (y2.out.length<=68719476736)
           (.ret (.inl (unlP (decide ((m.Fields.getD v13.toNat d_AField).Num < (m.Fields.getD i.toNat d_AField).Num)) 11 y2)))))))
     (.br (decide (1<=(m.Fields.getD i.toNat d_AField).Num))
      (.ob (y1.out.length<=68719476736) (.ret (.inl (unlP (decide ((m.Fields.getD i.toNat d_AField).Num<=65535)) 6 y1))))
      (.ob (y1.out.length<=68719476736) (.ret (.inl (unlP false 6 y1))))))
   (.ret (.inl (check_finder.mk x.def_ (m.Fields.getD i.toNat d_AField).Num x.out))))
def fieldP (s:Schema)(m:Message)(i:Int)(x:check_finder):check_finder:=(field s m i x).val
theorem field_isP (s:Schema)(m:Message)(i:Int)(x:check_finder)(h:x.out.length+10<=68719476736/\0<=i/\i < m.Fields.length/\m.Fields.length<=1048576):IsP (field s m i x) (fun r=>r.out.length<=x.out.length+10):=
 isP_ix (by omega) (by omega) (isP_cut (fun y1=>y1.out.length<=x.out.length+0) (isP_ret (by(try simp only[Sum.elim_inl,Sum.elim_inr])<;>(first | trivial | omega | (dsimp only;omega) | (refine Nat.le_trans (fieldL (by omega) rfl) ?_;omega) | (refine⟨Int.le_trans (Int.ofNat_le.2 (fieldL (by omega) rfl)) ?_,?_⟩<;>omega) | (refine Nat.le_trans (unlL' _ _ _) ?_;first | omega | (dsimp only at*;omega) | (simp only[List.length_nil]at*;omega)) | (refine Nat.le_trans (notedL' _ _ _) ?_;first | omega | (dsimp only at*;omega) | (simp only[List.length_nil]at*;omega))))) (fun y1 hy1=>have hy1:y1.out.length<=x.out.length+0:=hy1;isP_cut (fun y2=>y2.out.length<=x.out.length+1) (isP_brd (fun _=>isP_ob ((by omega)) (isP_ret (by(try simp only[Sum.elim_inl,Sum.elim_inr])<;>(first | trivial | omega | (dsimp only;omega) | (refine Nat.le_trans (fieldL (by omega) rfl) ?_;omega) | (refine⟨Int.le_trans (Int.ofNat_le.2 (fieldL (by omega) rfl)) ?_,?_⟩<;>omega) | (refine Nat.le_trans (unlL' _ _ _) ?_;first | omega | (dsimp only at*;omega) | (simp only[List.length_nil]at*;omega)) | (refine Nat.le_trans (notedL' _ _ _) ?_;first | omega | (dsimp only at*;omega) | (simp only[List.length_nil]at*;omega)))))) (fun _=>isP_ob ((by omega)) (isP_ret (by(try simp only[Sum.elim_inl,Sum.elim_inr])<;>(first | trivial | omega | (dsimp only;omega) | (refine Nat.le_trans (fieldL (by omega) rfl) ?_;omega) | (refine⟨Int.le_trans (Int.ofNat_le.2 (fieldL (by omega) rfl)) ?_,?_⟩<;>omega) | (refine Nat.le_trans (unlL' _ _ _) ?_;first | omega | (dsimp only at*;omega) | (simp only[List.length_nil]at*;omega)) | (refine Nat.le_trans (notedL' _ _ _) ?_;first | omega | (dsimp only at*;omega) | (simp only[List.length_nil]at*;omega))))))) (fun y2 hy2=>have hy2:y2.out.length<=x.out.length+1:=hy2;isP_cut (fun y3=>y3.out.length<=x.out.length+2) (isP_beq (fun _=>isP_ob ((by omega)) (isP_ret (by(try simp only[Sum.elim_inl,Sum.elim_inr])<;>(first | trivial | omega | (dsimp only;omega) | (refine Nat.le_trans (fieldL (by omega) rfl) ?_;omega) | (refine⟨Int.le_trans (Int.ofNat_le.2 (fieldL (by omega) rfl)) ?_,?_⟩<;>omega) | (refine Nat.le_trans (unlL' _ _ _) ?_;first | omega | (dsimp only at*;omega) | (simp only[List.length_nil]at*;omega)) | (refine Nat.le_trans (notedL' _ _ _) ?_;first | omega | (dsimp only at*;omega) | (simp only[List.length_nil]at*;omega)))))) (fun _=>isP_ltw fun v13 hv13 _=>isP_ix (by omega) (by omega) (isP_ob ((by omega)) (isP_ret (by(try simp only[Sum.elim_inl,Sum.elim_inr])<;>(first | trivial | omega | (dsimp only;omega) | (refine Nat.le_trans (fieldL (by omega) rfl) ?_;omega) | (refine⟨Int.le_trans (Int.ofNat_le.2 (fieldL (by omega) rfl)) ?_,?_⟩<;>omega) | (refine Nat.le_trans (unlL' _ _ _) ?_;first | omega | (dsimp only at*;omega) | (simp only[List.length_nil]at*;omega)) | (refine Nat.le_trans (notedL' _ _ _) ?_;first | omega | (dsimp only at*;omega) | (simp only[List.length_nil]at*;omega)))))))) (fun y3 hy3=>have hy3:y3.out.length<=x.out.length+2:=hy3;isP_cut (fun y4=>y4.out.length<=x.out.length+3) (isP_ob ((by omega)) (isP_ret (by(try simp only[Sum.elim_inl,Sum.elim_inr])<;>(first | trivial | omega | (dsimp only;omega) | (refine Nat.le_trans (fieldL (by omega) rfl) ?_;omega) | (refine⟨Int.le_trans (Int.ofNat_le.2 (fieldL (by omega) rfl)) ?_,?_⟩<;>omega) | (refine Nat.le_trans (unlL' _ _ _) ?_;first | omega | (dsimp only at*;omega) | (simp only[List.length_nil]at*;omega)) | (refine Nat.le_trans (notedL' _ _ _) ?_;first | omega | (dsimp only at*;omega) | (simp only[List.length_nil]at*;omega)))))) (fun y4 hy4=>have hy4:y4.out.length<=x.out.length+3:=hy4;isP_cut (fun y5=>y5.out.length<=x.out.length+4) (isP_ix (by omega) (by omega) (isP_ob ((by omega)) (isP_ret (by(try simp only[Sum.elim_inl,Sum.elim_inr])<;>(first | trivial | omega | (dsimp only;omega) | (refine Nat.le_trans (fieldL (by omega) rfl) ?_;omega) | (refine⟨Int.le_trans (Int.ofNat_le.2 (fieldL (by omega) rfl)) ?_,?_⟩<;>omega) | (refine Nat.le_trans (unlL' _ _ _) ?_;first | omega | (dsimp only at*;omega) | (simp only[List.length_nil]at*;omega)) | (refine Nat.le_trans (notedL' _ _ _) ?_;first | omega | (dsimp only at*;omega) | (simp only[List.length_nil]at*;omega))))))) (fun y5 hy5=>have hy5:y5.out.length<=x.out.length+4:=hy5;isP_cut (fun y6=>y6.out.length<=x.out.length+5) (isP_br (fun _=>isP_ob ((by omega)) (isP_ret (by(try simp only[Sum.elim_inl,Sum.elim_inr])<;>(first | trivial | omega | (dsimp only;omega) | (refine Nat.le_trans (fieldL (by omega) rfl) ?_;omega) | (refine⟨Int.le_trans (Int.ofNat_le.2 (fieldL (by omega) rfl)) ?_,?_⟩<;>omega) | (refine Nat.le_trans (unlL' _ _ _) ?_;first | omega | (dsimp only at*;omega) | (simp only[List.length_nil]at*;omega)) | (refine Nat.le_trans (notedL' _ _ _) ?_;first | omega | (dsimp only at*;omega) | (simp only[List.length_nil]at*;omega)))))) (fun _=>isP_ob ((by omega)) (isP_ret (by(try simp only[Sum.elim_inl,Sum.elim_inr])<;>(first | trivial | omega | (dsimp only;omega) | (refine Nat.le_trans (fieldL (by omega) rfl) ?_;omega) | (refine⟨Int.le_trans (Int.ofNat_le.2 (fieldL (by omega) rfl)) ?_,?_⟩<;>omega) | (refine Nat.le_trans (unlL' _ _ _) ?_;first | omega | (dsimp only at*;omega) | (simp only[List.length_nil]at*;omega)) | (refine Nat.le_trans (notedL' _ _ _) ?_;first | omega | (dsimp only at*;omega) | (simp only[List.length_nil]at*;omega))))))) (fun y6 hy6=>have hy6:y6.out.length<=x.out.length+5:=hy6;isP_cut (fun y7=>y7.out.length<=x.out.length+6) (isP_lt fun v12 hv12=>have kv12:=unlL hv12;isP_brd (fun _=>isP_brd (fun _=>isP_ob ((by omega)) (isP_ret (by(try simp only[Sum.elim_inl,Sum.elim_inr])<;>(first | trivial | omega | (dsimp only;omega) | (refine Nat.le_trans (fieldL (by omega) rfl) ?_;omega) | (refine⟨Int.le_trans (Int.ofNat_le.2 (fieldL (by omega) rfl)) ?_,?_⟩<;>omega) | (refine Nat.le_trans (unlL' _ _ _) ?_;first | omega | (dsimp only at*;omega) | (simp only[List.length_nil]at*;omega)) | (refine Nat.le_trans (notedL' _ _ _) ?_;first | omega | (dsimp only at*;omega) | (simp only[List.length_nil]at*;omega)))))) (fun _=>isP_ob ((by omega)) (isP_ret (by(try simp only[Sum.elim_inl,Sum.elim_inr])<;>(first | trivial | omega | (dsimp only;omega) | (refine Nat.le_trans (fieldL (by omega) rfl) ?_;omega) | (refine⟨Int.le_trans (Int.ofNat_le.2 (fieldL (by omega) rfl)) ?_,?_⟩<;>omega) | (refine Nat.le_trans (unlL' _ _ _) ?_;first | omega | (dsimp only at*;omega) | (simp only[List.length_nil]at*;omega)) | (refine Nat.le_trans (notedL' _ _ _) ?_;first | omega | (dsimp only at*;omega) | (simp only[List.length_nil]at*;omega))))))) (fun _=>isP_ob ((by omega)) (isP_ret (by(try simp only[Sum.elim_inl,Sum.elim_inr])<;>(first | trivial | omega | (dsimp only;omega) | (refine Nat.le_trans (fieldL (by omega) rfl) ?_;omega) | (refine⟨Int.le_trans (Int.ofNat_le.2 (fieldL (by omega) rfl)) ?_,?_⟩<;>omega) | (refine Nat.le_trans (unlL' _ _ _) ?_;first | omega | (dsimp only at*;omega) | (simp only[List.length_nil]at*;omega)) | (refine Nat.le_trans (notedL' _ _ _) ?_;first | omega | (dsimp only at*;omega) | (simp only[List.length_nil]at*;omega))))))) (fun y7 hy7=>have hy7:y7.out.length<=x.out.length+6:=hy7;isP_cut (fun y8=>y8.out.length<=x.out.length+7) (isP_ob ((by omega)) (isP_ret (by(try simp only[Sum.elim_inl,Sum.elim_inr])<;>(first | trivial | omega | (dsimp only;omega) | (refine Nat.le_trans (fieldL (by omega) rfl) ?_;omega) | (refine⟨Int.le_trans (Int.ofNat_le.2 (fieldL (by omega) rfl)) ?_,?_⟩<;>omega) | (refine Nat.le_trans (unlL' _ _ _) ?_;first | omega | (dsimp only at*;omega) | (simp only[List.length_nil]at*;omega)) | (refine Nat.le_trans (notedL' _ _ _) ?_;first | omega | (dsimp only at*;omega) | (simp only[List.length_nil]at*;omega)))))) (fun y8 hy8=>have hy8:y8.out.length<=x.out.length+7:=hy8;isP_cut (fun y9=>y9.out.length<=x.out.length+8) (isP_ob ((by omega)) (isP_ob ((by omega)) (isP_ret (by(try simp only[Sum.elim_inl,Sum.elim_inr])<;>(first | trivial | omega | (dsimp only;omega) | (refine Nat.le_trans (fieldL (by omega) rfl) ?_;omega) | (refine⟨Int.le_trans (Int.ofNat_le.2 (fieldL (by omega) rfl)) ?_,?_⟩<;>omega) | (refine Nat.le_trans (unlL' _ _ _) ?_;first | omega | (dsimp only at*;omega) | (simp only[List.length_nil]at*;omega)) | (refine Nat.le_trans (notedL' _ _ _) ?_;first | omega | (dsimp only at*;omega) | (simp only[List.length_nil]at*;omega))))))) (fun y9 hy9=>have hy9:y9.out.length<=x.out.length+8:=hy9;isP_ob ((by omega)) (isP_lt fun v10 hv10=>have kv10:=unlL hv10;isP_ob ((by omega)) (isP_lt fun v11 hv11=>have kv11:=notedL hv11;isP_ret (by(try simp only[Sum.elim_inl,Sum.elim_inr])<;>(first | trivial | omega | (dsimp only;omega) | (refine Nat.le_trans (fieldL (by omega) rfl) ?_;omega) | (refine⟨Int.le_trans (Int.ofNat_le.2 (fieldL (by omega) rfl)) ?_,?_⟩<;>omega) | (refine Nat.le_trans (unlL' _ _ _) ?_;first | omega | (dsimp only at*;omega) | (simp only[List.length_nil]at*;omega)) | (refine Nat.le_trans (notedL' _ _ _) ?_;first | omega | (dsimp only at*;omega) | (simp only[List.length_nil]at*;omega))))))))))))))))
theorem field_is (s:Schema)(m:Message)(i:Int)(x:check_finder)(h:x.out.length+10<=68719476736/\0<=i/\i < m.Fields.length/\m.Fields.length<=1048576):Is (field s m i x):=(field_isP s m i x h).1
def e_field:Ent Z:=entN Z [e_unl,e_coS,e_noted,e_uPart,e_cReserved,e_seenF,e_fname,e_cKeyed,e_cTyped,e_cUnited,e_cDefaulted] [jS 100003 (shp (fun sl=>[.cells (pid (sl 0)) [none,none,some 188]]) (l1 cd_check_finder)),jS 100004 (shp (fun sl=>[.cells (pid (sl 0)) [none,none,some 188]]) (l1 cd_check_finder)),jS 100005 (shp (fun sl=>[.cells (pid (sl 0)) [none,none,some 188]]) (l1 cd_check_finder)),jS 100006 (shp (fun sl=>[.cells (pid (sl 0)) [none,none,some 188]]) (l1 cd_check_finder)),jS 100007 (shp (fun sl=>[.cells (pid (sl 0)) [none,none,some 188]]) (l1 cd_check_finder)),jS 100008 (shp (fun sl=>[.cells (pid (sl 0)) [none,none,some 188]]) (l1 cd_check_finder)),jS 100009 (shp (fun sl=>[.cells (pid (sl 0)) [none,none,some 188]]) (l1 cd_check_finder)),jS 100010 (shp (fun sl=>[.cells (pid (sl 0)) [none,none,some 188]]) (l1 cd_check_finder)),jS 100011 (shp (fun sl=>[.cells (pid (sl 0)) [none,none,some 188]]) (l1 cd_check_finder))] (argsB (aCons (aPtr 0) (aCons (aAgg cd_Schema) (aCons (aAgg cd_Message) (a1 (aLf (cInt .i64)))))) (bOwn 1 [none,none,some 188] cd_check_finder)) (argsB_ok (aCons_ok (aPtr_ok 0) (aCons_ok (aAgg_ok cd_Schema_ok) (aCons_ok (aAgg_ok cd_Message_ok) (a1_ok (aLf_ok (cInt_ok _)))))) (bOwn_ok (k:=1) cd_check_finder_ok (fun _=>rfl)) rfl) (shr [.cells 0 [none,none,some 188]] (l1 cd_check_finder)) [] Tryz.func108 Tryz.ntmps108 (by kernel_rfl) 0 rfl (fun a=>field (a.1.2.1) (a.1.2.2.1) (a.1.2.2.2) (a.2)) (fun a=>some ((a.2).out.length+10<=68719476736/\0<=(a.1.2.2.2)/\(a.1.2.2.2) < (a.1.2.2.1).Fields.length/\(a.1.2.2.1).Fields.length<=1048576)) (fun a e _=>by kernel_rfl) (fun a=>fieldP (a.1.2.1) (a.1.2.2.1) (a.1.2.2.2) (a.2)) (fun a h=>⟨field_is (a.1.2.1) (a.1.2.2.1) (a.1.2.2.2) (a.2) h,rfl⟩)
theorem fieldL {s:Schema}{m:Message}{i:Int}{p v:check_finder}(hp:p.out.length+10<=68719476736/\0<=i/\i < m.Fields.length/\m.Fields.length<=1048576)(h:v=fieldP s m i p):v.out.length<=p.out.length+10:=by
 subst h
 exact(field_isP s m i p hp).2
end
end Go.Proofs.YtiibcbmenoaigaaGreatDoor
