/- Server: the reference's check of schemas. -/
import Derived.Test.YtiibcbmenoaigaaGreatDoorJa
namespace Go.Proofs.YtiibcbmenoaigaaGreatDoor
noncomputable section
open Go.RowKit Go.Vc
set_option linter.unusedVariables false
set_option linter.unusedSimpArgs false
set_option maxRecDepth 100000
def c12hasM (s:Schema)(name:Str):Pg Int:=
 .each true ixI s.Messages d_Message
  (fun(i1:Int) (a3:Message) (y2:Unit)=> .ix i1 s.Messages.length (.br (a3.Name==name) (.ret (.inr i1)) (.ret (.inl ()))))
  (fun(i1:Int) (y2:Unit)=> .ret (-1)) ()
theorem c12hasM_is (s:Schema)(name:Str):Is (c12hasM s name):=
 is_each (.inl rfl) (fun i1 y2 _ _=>is_ix (by omega) (by omega) (is_br (fun _=>is_ret) (fun _=>is_ret))) (fun y2 _=>is_ret)
def e_c12hasM:Ent Z:=entN Z [] [jS 2 (shp (fun sl=>[.slot 5 false [none]]) (l1 (cInt .i64)))] (args (aCons (aAgg cd_Schema) (a1 (aLf cStr)))) (argsI (n:=22) rfl) (shr [.slot 0 false [none]] (l1 (cInt .i64))) [] Tryz.func137 Tryz.ntmps137 (by kernel_rfl) 1 rfl (fun a=>c12hasM (a.1) (a.2)) (fun a=>none) (fun a e _=>by kernel_rfl) (fun a=>ixOf (fun(m:Message)=>m.Name==(a.2)) (a.1).Messages) (fun a h=>⟨c12hasM_is (a.1) (a.2),(fun(s:Schema) (name:Str)=>forE_ix (fun(m:Message)=>m.Name==name) s.Messages 0) (a.1) (a.2)⟩)
def c12hasE (s:Schema)(name:Str):Pg Int:=
 .each true ixI s.Enums d_Enum (fun(i1:Int) (a3:Enum) (y2:Unit)=> .ix i1 s.Enums.length (.br (a3.Name==name) (.ret (.inr i1)) (.ret (.inl ()))))
  (fun(i1:Int) (y2:Unit)=> .ret (-1)) ()
theorem c12hasE_is (s:Schema)(name:Str):Is (c12hasE s name):=
 is_each (.inl rfl) (fun i1 y2 _ _=>is_ix (by omega) (by omega) (is_br (fun _=>is_ret) (fun _=>is_ret))) (fun y2 _=>is_ret)
def e_c12hasE:Ent Z:=entN Z [] [jS 2 (shp (fun sl=>[.slot 5 false [none]]) (l1 (cInt .i64)))] (args (aCons (aAgg cd_Schema) (a1 (aLf cStr)))) (argsI (n:=22) rfl) (shr [.slot 0 false [none]] (l1 (cInt .i64))) [] Tryz.func195 Tryz.ntmps195 (by kernel_rfl) 1 rfl (fun a=>c12hasE (a.1) (a.2)) (fun a=>none) (fun a e _=>by kernel_rfl) (fun a=>ixOf (fun(m:Enum)=>m.Name==(a.2)) (a.1).Enums) (fun a h=>⟨c12hasE_is (a.1) (a.2),(fun(s:Schema) (name:Str)=>forE_ix (fun(m:Enum)=>m.Name==name) s.Enums 0) (a.1) (a.2)⟩)
def c12needs (s:Schema)(m:Message)(fin:List Bool):Pg Bool:=
 .each true ixI m.Fields d_AField
  (fun(i1:Int) (a3:AField) (y2:Unit)=>
   .ix i1 m.Fields.length
    (.br (a3.Card !=1) (.ret (.inl ()))
     (.br (a3.Type_.Kind !=10) (.ret (.inl ()))
      (.lt (ixOf (fun(m:Message)=>m.Name==a3.Type_.Name) s.Messages) fun(v4:Int)=>
       .br (decide (0<=v4)) (.ix v4 fin.length (.br (!fin.getD v4.toNat false) (.ret (.inr true)) (.ret (.inl ())))) (.ret (.inl ()))))))
  (fun(i1:Int) (y2:Unit)=> .ret false) ()
def c12needsP (s:Schema)(m:Message)(fin:List Bool):Bool:=(c12needs s m fin).val
theorem c12needs_is (s:Schema)(m:Message)(fin:List Bool)(h:s.Messages.length<=fin.length):Is (c12needs s m fin):=
 is_each (.inl rfl) (fun i1 y2 _ _=>is_ix (by omega) (by omega) (is_bne (fun _=>is_ret) (fun _=>is_bne (fun _=>is_ret) (fun _=>is_lt fun v4 hv4=>is_brd (fun _=>is_ix (by omega) (by have:=(ixOf_lt (fun(m_1:Message)=>m_1.Name==(m.Fields.getD i1 d_AField).Type_.Name) s.Messages).1;omega) (is_br (fun _=>is_ret) (fun _=>is_ret))) (fun _=>is_ret))))) (fun y2 _=>is_ret)
def e_c12needs:Ent Z:=entN Z [e_c12hasM] [jS 2 (shp (fun sl=>[.slot 7 false [none]]) (l1 (cInt .i64)))] (args (aCons (aAgg cd_Schema) (aCons (aAgg cd_Message) (a1 (aLf cd_Lbool))))) (argsI (n:=45) rfl) (shr [.slot 0 false [none]] (l1 cBool)) [] Tryz.func127 Tryz.ntmps127 (by kernel_rfl) 1 rfl (fun a=>c12needs (a.1) (a.2.1) (a.2.2)) (fun a=>some ((a.1).Messages.length<=(a.2.2).length)) (fun a e _=>by kernel_rfl) (fun a=>c12needsP (a.1) (a.2.1) (a.2.2)) (fun a h=>⟨c12needs_is (a.1) (a.2.1) (a.2.2) h,rfl⟩)
def c12fin (s:Schema):Pg (List Bool):=
 .ob
  ((
    ↑s.Messages.length:Int)=(↑s.Messages.length:Int)/\
    0<=(↑s.Messages.length:Int)/\(↑s.Messages.length:Int)*(1:Int)<=281474976710656/\(↑s.Messages.length:Int)<=1099511627776)
  (.as (s.Messages.length<=9223372036854775807)
   (.cnt ixP 0 (↑s.Messages.length:Int)
    (fun(i1:Int) (y2:Bool×List Bool)=>
     .as (s.Messages.length<=9223372036854775807)
      (.br y2.fst
       (.each true ixP s.Messages d_Message
        (fun(i3:Int) (a5:Message) (y4:Bool×List Bool)=>
         .ix i3 y4.snd.length
          (.ob (i3.toNat < y4.snd.length)
           (.br (!y4.snd.getD i3.toNat false)
            (.ix i3 s.Messages.length
             (.ob (s.Messages.length<=y4.snd.length)
              (.br (!c12needsP s a5 y4.snd) (.ix i3 y4.snd.length (.ob (i3.toNat < y4.snd.length) (.ret (.inl (true,y4.snd.set i3.toNat true)))))
               (.ret (.inl y4)))))
            (.ret (.inl y4)))))
        (fun(i3:Int) (y4:Bool×List Bool)=> .ret (.inl y4)) (false,y2.snd))
       (.ret (.inr y2.snd))))
    (fun(i1:Int) (y2:Bool×List Bool)=> .as (s.Messages.length<=9223372036854775807) (.ret y2.snd)) (true,List.replicate s.Messages.length false)))
def c12finP (s:Schema):List Bool:=(c12fin s).val
theorem c12fin_isP (s:Schema)(h:s.Messages.length<=1048576):IsP (c12fin s) (fun r=>r.length=s.Messages.length):=
 isP_ob ((by omega)) (isP_as <| isP_cnt (fun(i1:Int) y2=>y2.snd.length=s.Messages.length) (by simp) (by omega) (by omega) (fun i1 y2 hi1a hi1b hIi1=>have hI:y2.snd.length=s.Messages.length:=hIi1;isP_as <| isP_br (fun _=>isP_each (fun(i3:Nat) y4=>y4.snd.length=s.Messages.length) (by omega) (by omega) (fun i3 y4 hlti3 hIi3=>have hI:y4.snd.length=s.Messages.length:=hIi3;isP_ix (by omega) (by omega) (isP_ob ((by omega)) (isP_br (fun _=>isP_ix (by omega) (by omega) (isP_ob ((by omega)) (isP_br (fun _=>isP_ix (by omega) (by omega) (isP_ob ((by omega)) (isP_ret (by(try simp only[Sum.elim_inl,Sum.elim_inr])<;>(first | trivial | omega | (simp only[List.length_set];omega)))))) (fun _=>isP_ret (by(try simp only[Sum.elim_inl,Sum.elim_inr])<;>(first | trivial | omega | (simp only[List.length_set];omega))))))) (fun _=>isP_ret (by(try simp only[Sum.elim_inl,Sum.elim_inr])<;>(first | trivial | omega | (simp only[List.length_set];omega))))))) (fun y4 hI=>have hI:y4.snd.length=s.Messages.length:=hI;isP_ret (by(try simp only[Sum.elim_inl,Sum.elim_inr])<;>(first | trivial | omega | (simp only[List.length_set];omega))))) (fun _=>isP_ret (by(try simp only[Sum.elim_inl,Sum.elim_inr])<;>(first | trivial | omega | (simp only[List.length_set];omega))))) (fun i1 y2 _ hge hI=>have hI:y2.snd.length=s.Messages.length:=hI;isP_as <| isP_ret (by(try simp only[Sum.elim_inl,Sum.elim_inr])<;>(first | trivial | omega | (simp only[List.length_set];omega)))))
theorem c12fin_is (s:Schema)(h:s.Messages.length<=1048576):Is (c12fin s):=(c12fin_isP s h).1
def e_c12fin:Ent Z:=entN Z [e_c12needs] [jS 4 (shp (fun sl=>[.slot 5 false [none], .slot 4 false [none], .row (pid (sl 3)) 4]) (lCons (cInt .i64) (lCons cBool (l1 cd_Lbool)))),jS 8 (shp (fun sl=>[.slot 6 false [none], .slot 4 false [none], .row (pid (sl 3)) 4]) (lCons (cInt .i64) (lCons cBool (l1 cd_Lbool))))] (args (a1 (aAgg cd_Schema))) (argsI (n:=48) rfl) (shr [.slot 0 false [none]] (l1 cd_Lbool)) [] Tryz.func75 Tryz.ntmps75 (by kernel_rfl) 1 rfl (fun a=>c12fin a) (fun a=>some (a.Messages.length<=1048576)) (fun a e _=>by kernel_rfl) (fun a=>c12finP a) (fun a h=>⟨c12fin_is a h,rfl⟩)
def c12res (l:List Span)(n:Int):Pg Bool:=
 .each true ixI l d_Span
  (fun(i1:Int) (a3:Span) (y2:Unit)=>
   .ix i1 l.length (.br (decide (a3.From<=n)) (.ix i1 l.length (.br (decide (n<=a3.To)) (.ret (.inr true)) (.ret (.inl ())))) (.ret (.inl ()))))
  (fun(i1:Int) (y2:Unit)=> .ret false) ()
def c12resP (l:List Span)(n:Int):Bool:=(c12res l n).val
theorem c12res_is (l:List Span)(n:Int):Is (c12res l n):=
 is_each (.inl rfl) (fun i1 y2 _ _=>is_ix (by omega) (by omega) (is_brd (fun _=>is_ix (by omega) (by omega) (is_brd (fun _=>is_ret) (fun _=>is_ret))) (fun _=>is_ret))) (fun y2 _=>is_ret)
def e_c12res:Ent Z:=entN Z [] [jS 2 (shp (fun sl=>[.slot 5 false [none]]) (l1 (cInt .i64)))] (args (aCons (aLf cd_LSpan) (a1 (aLf (cInt .i64))))) (argsI (n:=28) rfl) (shr [.slot 0 false [none]] (l1 cBool)) [] Tryz.func130 Tryz.ntmps130 (by kernel_rfl) 1 rfl (fun a=>c12res (a.1) (a.2)) (fun a=>none) (fun a e _=>by kernel_rfl) (fun a=>c12resP (a.1) (a.2)) (fun a h=>⟨c12res_is (a.1) (a.2),rfl⟩)
def c12add (bad:Bool)(num:Int)(e:Int)(p:ref12_list):Pg ref12_list:=
 .br bad (.ob (roomP (p.l.length+1) 32) (.ret (ref12_list.mk p.def_ (p.l++[Problem.mk p.def_ num e])))) (.ret p)
def c12addP (bad:Bool)(num:Int)(e:Int)(p:ref12_list):ref12_list:=(c12add bad num e p).val
theorem c12add_is (bad:Bool)(num:Int)(e:Int)(p:ref12_list)(h:p.l.length<=68719476736):Is (c12add bad num e p):=
 is_br (fun _=>is_ob ((room_of (by omega) (by omega))) (is_ret)) (fun _=>is_ret)
def e_c12add:Ent Z:=entN Z [] [] (argsB (aCons (aPtr 0) (aCons (aLf cBool) (aCons (aLf (cInt .i64)) (a1 (aLf (cInt .i64)))))) (bOwn 1 [none,some 188] cd_ref12_list)) (argsB_ok (aCons_ok (aPtr_ok 0) (aCons_ok (aLf_ok cBool_ok) (aCons_ok (aLf_ok (cInt_ok _)) (a1_ok (aLf_ok (cInt_ok _)))))) (bOwn_ok (k:=1) cd_ref12_list_ok (fun _=>rfl)) rfl) (shr [.cells 0 [none,some 188]] (l1 cd_ref12_list)) [] Tryz.func72 Tryz.ntmps72 (by kernel_rfl) 0 rfl (fun a=>c12add (a.1.2.1) (a.1.2.2.1) (a.1.2.2.2) (a.2)) (fun a=>some ((a.2).l.length<=68719476736)) (fun a e _=>by kernel_rfl) (fun a=>c12addP (a.1.2.1) (a.1.2.2.1) (a.1.2.2.2) (a.2)) (fun a h=>⟨c12add_is (a.1.2.1) (a.1.2.2.1) (a.1.2.2.2) (a.2) h,rfl⟩)
theorem addL {bad:Bool}{num e:Int}{p v:ref12_list}(h:v=c12addP bad num e p):v.l.length<=p.l.length+1:=by
 subst h
 unfold c12addP c12add
 cases bad
 ·exact Nat.le_succ _
 ·simp[Pg.val]
theorem addL2 {bad bad2:Bool}{num e num2 e2:Int}{p v:ref12_list}(h:v=c12addP bad num e (c12addP bad2 num2 e2 p)):v.l.length<=p.l.length+2:=by
 have h1:=addL h
 have h2:=addL (rfl:c12addP bad2 num2 e2 p=_)
 omega
theorem addL' (bad:Bool)(num e:Int)(p:ref12_list):(c12addP bad num e p).l.length<=p.l.length+1:=addL rfl
def c12notes (l:List Note)(target:Int)(num:Int)(p:ref12_list):Pg ref12_list:=
 .ob (p.l.length<=68719476736) (.lt (r8checkP l target) fun(v1:Int)=> .ret (c12addP (v1 !=0) num v1 p))
def c12notesP (l:List Note)(target:Int)(num:Int)(p:ref12_list):ref12_list:=(c12notes l target num p).val
theorem c12notes_is (l:List Note)(target:Int)(num:Int)(p:ref12_list)(h:p.l.length<=68719476736):Is (c12notes l target num p):=
 is_ob (by(try subst_vars);(try simp only[List.length_append,List.length_cons,List.length_nil]);omega) (is_lt fun v1 hv1=>is_ret)
def e_c12notes:Ent Z:=entN Z [e_c12add,e_r8check] [] (argsB (aCons (aPtr 0) (aCons (aLf cd_LNote) (aCons (aLf (cInt .i64)) (a1 (aLf (cInt .i64)))))) (bOwn 1 [none,some 188] cd_ref12_list)) (argsB_ok (aCons_ok (aPtr_ok 0) (aCons_ok (aLf_ok cd_LNote_ok) (aCons_ok (aLf_ok (cInt_ok _)) (a1_ok (aLf_ok (cInt_ok _)))))) (bOwn_ok (k:=1) cd_ref12_list_ok (fun _=>rfl)) rfl) (shr [.cells 0 [none,some 188]] (l1 cd_ref12_list)) [] Tryz.func135 Tryz.ntmps135 (by kernel_rfl) 0 rfl (fun a=>c12notes (a.1.2.1) (a.1.2.2.1) (a.1.2.2.2) (a.2)) (fun a=>some ((a.2).l.length<=68719476736)) (fun a e _=>by kernel_rfl) (fun a=>c12notesP (a.1.2.1) (a.1.2.2.1) (a.1.2.2.2) (a.2)) (fun a h=>⟨c12notes_is (a.1.2.1) (a.1.2.2.1) (a.1.2.2.2) (a.2) h,rfl⟩)
theorem notesL {l:List Note}{target num:Int}{p v:ref12_list}(h:v=c12notesP l target num p):v.l.length<=p.l.length+1:=by
 subst h
 exact addL' _ _ _ _
theorem notesL' (l:List Note)(target num:Int)(p:ref12_list):(c12notesP l target num p).l.length<=p.l.length+1:=notesL rfl
def c12spans (l:List Span)(least:Int)(most:Int)(p:ref12_list):Pg ref12_list:=
 .each true ixP l d_Span
  (fun(i1:Int) (a3:Span) (y2:ref12_list)=>
   .ix i1 l.length
    (.lt (c12addP (decide (a3.From<=(l.getD (wrp .i64 (i1 - 1)).toNat d_Span).To)) (-1) 11 (c12addP true (-1) 6 y2))
     fun(v4:ref12_list)=>
     .lt (c12addP false (-1) 11 (c12addP true (-1) 6 y2)) fun(v5:ref12_list)=>
      .lt (c12addP true (-1) 6 y2) fun(v6:ref12_list)=>
       .lt (wrp .i64 (i1 - 1)) fun(v7:Int)=>
        .br (decide (a3.From < least))
         (.ob (y2.l.length<=68719476736)
          (.br (decide (0 < i1)) (.ix i1 l.length (.ix v7 l.length (.ob (v6.l.length<=68719476736) (.ret (.inl v4)))))
           (.ob (v6.l.length<=68719476736) (.ret (.inl v5)))))
         (.ix i1 l.length
          (.br (decide (most < a3.To))
           (.ob (y2.l.length<=68719476736)
            (.br (decide (0 < i1)) (.ix i1 l.length (.ix v7 l.length (.ob (v6.l.length<=68719476736) (.ret (.inl v4)))))
             (.ob (v6.l.length<=68719476736) (.ret (.inl v5)))))
           (.ix i1 l.length
            (.ix i1 l.length
             (.ob (y2.l.length<=68719476736)
              (.lt (c12addP (decide (a3.To < a3.From)) (-1) 6 y2) fun(v8:ref12_list)=>
               .br (decide (0 < i1))
                (.ix i1 l.length
                 (.ix v7 l.length
                  (.ob (v8.l.length<=68719476736)
                   (.ret (.inl (c12addP (decide (a3.From<=(l.getD v7.toNat d_Span).To)) (-1) 11 v8))))))
                (.ob (v8.l.length<=68719476736) (.ret (.inl (c12addP false (-1) 11 v8))))))))))))
  (fun(i1:Int) (y2:ref12_list)=> .ret y2) p
def c12spansP (l:List Span)(least:Int)(most:Int)(p:ref12_list):ref12_list:=(c12spans l least most p).val
theorem c12spans_isP (l:List Span)(least:Int)(most:Int)(p:ref12_list)(h:p.l.length+2*l.length<=68719476736):IsP (c12spans l least most p) (fun r=>r.l.length<=p.l.length+2*l.length):=
 isP_each (fun(i1:Nat) y2=>y2.l.length<=p.l.length+2*i1) (by omega) (by omega) (fun i1 y2 hlti1 hIi1=>have hI:y2.l.length<=p.l.length+2*i1:=hIi1;isP_ix (by omega) (by omega) (isP_lt fun v4 hv4=>have kv4:=addL2 hv4;isP_lt fun v5 hv5=>have kv5:=addL2 hv5;isP_lt fun v6 hv6=>have kv6:=addL hv6;isP_ltw fun v7 hv7 _=>isP_brd (fun _=>isP_ob ((by omega)) (isP_brd (fun _=>isP_ix (by omega) (by omega) (isP_ix (by omega) (by omega) (isP_ob ((by omega)) (isP_ret (by(try simp only[Sum.elim_inl,Sum.elim_inr])<;>(first | trivial | omega | (refine Nat.le_trans (addL' _ _ _ _) ?_;(first | omega | (simp only[List.length_nil]at*;omega) | simp)) | (refine Nat.le_trans (notesL' _ _ _ _) ?_;(first | omega | (simp only[List.length_nil]at*;omega) | simp)))))))) (fun _=>isP_ob ((by omega)) (isP_ret (by(try simp only[Sum.elim_inl,Sum.elim_inr])<;>(first | trivial | omega | (refine Nat.le_trans (addL' _ _ _ _) ?_;(first | omega | (simp only[List.length_nil]at*;omega) | simp)) | (refine Nat.le_trans (notesL' _ _ _ _) ?_;(first | omega | (simp only[List.length_nil]at*;omega) | simp)))))))) (fun _=>isP_ix (by omega) (by omega) (isP_brd (fun _=>isP_ob ((by omega)) (isP_brd (fun _=>isP_ix (by omega) (by omega) (isP_ix (by omega) (by omega) (isP_ob ((by omega)) (isP_ret (by(try simp only[Sum.elim_inl,Sum.elim_inr])<;>(first | trivial | omega | (refine Nat.le_trans (addL' _ _ _ _) ?_;(first | omega | (simp only[List.length_nil]at*;omega) | simp)) | (refine Nat.le_trans (notesL' _ _ _ _) ?_;(first | omega | (simp only[List.length_nil]at*;omega) | simp)))))))) (fun _=>isP_ob ((by omega)) (isP_ret (by(try simp only[Sum.elim_inl,Sum.elim_inr])<;>(first | trivial | omega | (refine Nat.le_trans (addL' _ _ _ _) ?_;(first | omega | (simp only[List.length_nil]at*;omega) | simp)) | (refine Nat.le_trans (notesL' _ _ _ _) ?_;(first | omega | (simp only[List.length_nil]at*;omega) | simp)))))))) (fun _=>isP_ix (by omega) (by omega) (isP_ix (by omega) (by omega) (isP_ob ((by omega)) (isP_lt fun v8 hv8=>have kv8:=addL hv8;isP_brd (fun _=>isP_ix (by omega) (by omega) (isP_ix (by omega) (by omega) (isP_ob ((by omega)) (isP_ret (by(try simp only[Sum.elim_inl,Sum.elim_inr])<;>(first | trivial | omega | (refine Nat.le_trans (addL' _ _ _ _) ?_;(first | omega | (simp only[List.length_nil]at*;omega) | simp)) | (refine Nat.le_trans (notesL' _ _ _ _) ?_;(first | omega | (simp only[List.length_nil]at*;omega) | simp)))))))) (fun _=>isP_ob ((by omega)) (isP_ret (by(try simp only[Sum.elim_inl,Sum.elim_inr])<;>(first | trivial | omega | (refine Nat.le_trans (addL' _ _ _ _) ?_;(first | omega | (simp only[List.length_nil]at*;omega) | simp)) | (refine Nat.le_trans (notesL' _ _ _ _) ?_;(first | omega | (simp only[List.length_nil]at*;omega) | simp)))))))))))))) (fun y2 hI=>have hI:y2.l.length<=p.l.length+2*l.length:=hI;isP_ret (by(try simp only[Sum.elim_inl,Sum.elim_inr])<;>(first | trivial | omega | (refine Nat.le_trans (addL' _ _ _ _) ?_;(first | omega | (simp only[List.length_nil]at*;omega) | simp)) | (refine Nat.le_trans (notesL' _ _ _ _) ?_;(first | omega | (simp only[List.length_nil]at*;omega) | simp)))))
theorem c12spans_is (l:List Span)(least:Int)(most:Int)(p:ref12_list)(h:p.l.length+2*l.length<=68719476736):Is (c12spans l least most p):=(c12spans_isP l least most p h).1
def e_c12spans:Ent Z:=entN Z [e_c12add] [jS 1 (shp (fun sl=>[.slot 8 false [none], .cells (pid (sl 0)) [none,some 188]]) (lCons (cInt .i64) (l1 cd_ref12_list)))] (argsB (aCons (aPtr 0) (aCons (aLf cd_LSpan) (aCons (aLf (cInt .i64)) (a1 (aLf (cInt .i64)))))) (bOwn 1 [none,some 188] cd_ref12_list)) (argsB_ok (aCons_ok (aPtr_ok 0) (aCons_ok (aLf_ok cd_LSpan_ok) (aCons_ok (aLf_ok (cInt_ok _)) (a1_ok (aLf_ok (cInt_ok _)))))) (bOwn_ok (k:=1) cd_ref12_list_ok (fun _=>rfl)) rfl) (shr [.cells 0 [none,some 188]] (l1 cd_ref12_list)) [] Tryz.func136 Tryz.ntmps136 (by kernel_rfl) 0 rfl (fun a=>c12spans (a.1.2.1) (a.1.2.2.1) (a.1.2.2.2) (a.2)) (fun a=>some ((a.2).l.length+2*(a.1.2.1).length<=68719476736)) (fun a e _=>by kernel_rfl) (fun a=>c12spansP (a.1.2.1) (a.1.2.2.1) (a.1.2.2.2) (a.2)) (fun a h=>⟨c12spans_is (a.1.2.1) (a.1.2.2.1) (a.1.2.2.2) (a.2) h,rfl⟩)
def c12card (f:AField):Pg Bool:=
 .br (f.Card !=5) (.br (decide (1<=f.Card)) (.br (decide (f.Card<=4)) (.ret (f.Key==0)) (.ret false)) (.ret false))
  (.br (f.Key==1) (.br (f.Key==1) (.ret true) (.ret false))
   (.br (f.Key==2) (.br (f.Key==2) (.ret true) (.ret false))
    (.br (f.Key==3) (.br (f.Key==3) (.ret true) (.ret false))
     (.br (f.Key==4) (.br (f.Key==4) (.ret true) (.ret false))
      (.br (f.Key==5) (.br (f.Key==5) (.ret true) (.ret false)) (.br (f.Key==7) (.ret true) (.ret false)))))))
def c12cardP (f:AField):Bool:=(c12card f).val
theorem c12card_is (f:AField):Is (c12card f):=
 is_bne (fun _=>is_brd (fun _=>is_brd (fun _=>is_ret) (fun _=>is_ret)) (fun _=>is_ret)) (fun _=>is_beq (fun _=>is_beq (fun _=>is_ret) (fun _=>is_ret)) (fun _=>is_beq (fun _=>is_beq (fun _=>is_ret) (fun _=>is_ret)) (fun _=>is_beq (fun _=>is_beq (fun _=>is_ret) (fun _=>is_ret)) (fun _=>is_beq (fun _=>is_beq (fun _=>is_ret) (fun _=>is_ret)) (fun _=>is_beq (fun _=>is_beq (fun _=>is_ret) (fun _=>is_ret)) (fun _=>is_beq (fun _=>is_ret) (fun _=>is_ret)))))))
def e_c12card:Ent Z:=entN Z [] [] (args (a1 (aAgg cd_AField))) (argsI (n:=28) rfl) (shr [.slot 0 false [none]] (l1 cBool)) [] Tryz.func131 Tryz.ntmps131 (by kernel_rfl) 1 rfl (fun a=>c12card a) (fun a=>none) (fun a e _=>by kernel_rfl) (fun a=>c12cardP a) (fun a h=>⟨c12card_is a,rfl⟩)
def c12typ (s:Schema)(f:AField):Pg Bool:=
 .br (f.Type_.Kind==9) (.lt (ixOf (fun(m:Enum)=>m.Name==f.Type_.Name) s.Enums) fun(v1:Int)=> .ret (decide (0<=v1)))
  (.br (f.Type_.Kind==10)
   (.lt (ixOf (fun(m:Message)=>m.Name==f.Type_.Name) s.Messages) fun(v2:Int)=> .br (decide (0<=v2)) (.ret (f.Card !=3)) (.ret false))
   (.br (decide (1<=f.Type_.Kind)) (.br (decide (f.Type_.Kind<=8)) (.ret (f.Type_.Name==[])) (.ret false)) (.ret false)))
def c12typP (s:Schema)(f:AField):Bool:=(c12typ s f).val
theorem c12typ_is (s:Schema)(f:AField):Is (c12typ s f):=
 is_beq (fun _=>is_lt fun v1 hv1=>is_ret) (fun _=>is_beq (fun _=>is_lt fun v2 hv2=>is_brd (fun _=>is_ret) (fun _=>is_ret)) (fun _=>is_brd (fun _=>is_brd (fun _=>is_ret) (fun _=>is_ret)) (fun _=>is_ret)))
def e_c12typ:Ent Z:=entN Z [e_c12hasM,e_c12hasE] [] (args (aCons (aAgg cd_Schema) (a1 (aAgg cd_AField)))) (argsI (n:=45) rfl) (shr [.slot 0 false [none]] (l1 cBool)) [] Tryz.func132 Tryz.ntmps132 (by kernel_rfl) 1 rfl (fun a=>c12typ (a.1) (a.2)) (fun a=>none) (fun a e _=>by kernel_rfl) (fun a=>c12typP (a.1) (a.2)) (fun a h=>⟨c12typ_is (a.1) (a.2),rfl⟩)
def c12union (m:Message)(at_:Int):Pg Bool:=
 .ix at_ m.Fields.length
  (.br ((m.Fields.getD at_.toNat d_AField).Union==[]) (.ret true)
   (.br ((m.Fields.getD at_.toNat d_AField).Card !=2) (.ret false)
    (.br (!r9partP (m.Fields.getD at_.toNat d_AField).Union) (.ret false)
     (.each true ixP m.Fields d_AField
      (fun(i1:Int) (a3:AField) (y2:Bool)=>
       .ix i1 m.Fields.length
        (.br (a3.Name==(m.Fields.getD at_.toNat d_AField).Union) (.ret (.inr false))
         (.br (decide (i1 < at_)) (.ix i1 m.Fields.length (.br (a3.Union==(m.Fields.getD at_.toNat d_AField).Union) (.ret (.inl true)) (.ret (.inl y2))))
          (.ret (.inl y2)))))
      (fun(i1:Int) (y2:Bool)=>
       .br (!y2) (.ret true)
        (.lt (wrp .i64 (at_ - 1)) fun(v4:Int)=>
         .ix v4 m.Fields.length (.ret ((m.Fields.getD v4.toNat d_AField).Union==(m.Fields.getD at_.toNat d_AField).Union))))
      false))))
def c12unionP (m:Message)(at_:Int):Bool:=(c12union m at_).val
theorem c12union_is (m:Message)(at_:Int)(h:0<=at_/\at_ < m.Fields.length):Is (c12union m at_):=
 by
 refine is_ix (by omega) (by omega) (is_br (fun _=>is_ret) (fun _=>is_bne (fun _=>is_ret) (fun _=>is_br (fun _=>is_ret) (fun _=>is_eachI (fun _ y=>y=true->0 < at_) (fun h=>by cases h) (.inl rfl) (fun i1 y2 _ _ hI=>⟨is_ix (by omega) (by omega) (is_br (fun _=>is_ret) (fun _=>is_brd (fun _=>is_ix (by omega) (by omega) (is_br (fun _=>is_ret) (fun _=>is_ret))) (fun _=>is_ret))),fun y' hy'=> ?_⟩) (fun y2 _ hI=>is_br (fun _=>is_ret) (fun hb=> ?_))))))
 ·revert hy'
  simp only[val_ix,val_br,val_ret,Bool.cond_eq_ite,decide_eq_true_eq]
  (repeat' split)<;>intro e<;>cases e<;>first | exact hI | (intro _;omega)
 ·have:=hI (by simpa using hb)
  exact is_ltw fun v4 hv4 h4=>is_ix (by omega) (by omega) is_ret
def e_c12union:Ent Z:=entN Z [e_r9part] [jS 8 (shp (fun sl=>[.slot 7 false [none], .slot 6 false [none]]) (lCons (cInt .i64) (l1 cBool)))] (args (aCons (aAgg cd_Message) (a1 (aLf (cInt .i64))))) (argsI (n:=69) rfl) (shr [.slot 0 false [none]] (l1 cBool)) [] Tryz.func133 Tryz.ntmps133 (by kernel_rfl) 1 rfl (fun a=>c12union (a.1) (a.2)) (fun a=>some (0<=(a.2)/\(a.2) < (a.1).Fields.length)) (fun a e _=>by kernel_rfl) (fun a=>c12unionP (a.1) (a.2)) (fun a h=>⟨c12union_is (a.1) (a.2) h,rfl⟩)
def c12value (s:Schema)(f:AField):Pg Bool:=
 .br (!f.HasDefault) (.ret (r9sameP f.Default.re (AVal.mk 0 0 [] [] [] [] [])))
  (.br (f.Card !=2) (.ret false)
   (.br (f.Union !=[]) (.ret false)
    (.br (!r4fitsP f.Type_.Kind f.Default.re) (.ret false)
     (.br (!r9sameP f.Default.re (r4normP f.Default.re).re) (.ret false)
      (.br (f.Type_.Kind !=9) (.ret true)
       (.lt (ixOf (fun(m:Enum)=>m.Name==f.Type_.Name) s.Enums) fun(v4:Int)=>
        .br (decide (v4 < 0)) (.ret false)
         (.eachG [0<=v4/\v4 < (↑s.Enums.length:Int)] true ixI (s.Enums.getD v4.toNat d_Enum).Items d_Item
          (fun(i1:Int) (a3:Item) (y2:Unit)=>
           .ix v4 s.Enums.length
            (.ix i1 (s.Enums.getD v4.toNat d_Enum).Items.length
             (.lt (wrp .u64 a3.Num) fun(v5:Int)=> .br (v5==f.Default.Bits) (.ret (.inr true)) (.ret (.inl ())))))
          (fun(i1:Int) (y2:Unit)=> .ret false) ())))))))
def c12valueP (s:Schema)(f:AField):Bool:=(c12value s f).val
theorem c12value_is (s:Schema)(f:AField):Is (c12value s f):=
 is_br (fun _=>is_ret) (fun _=>is_bne (fun _=>is_ret) (fun _=>is_br (fun _=>is_ret) (fun _=>is_br (fun _=>is_ret) (fun _=>is_br (fun _=>is_ret) (fun _=>is_bne (fun _=>is_ret) (fun _=>is_lt fun v4 hv4=>is_brd (fun _=>is_ret) (fun _=>by
 have hx:=(ixOf_lt (fun(m:Enum)=>m.Name==f.Type_.Name) s.Enums).1
 exact is_eachG ⟨by omega,trivial⟩ (.inl rfl) (fun i1 y2 _ _=>is_ix (by omega) (by omega) (is_ix (by omega) (by omega) (is_lt fun v5 hv5=>is_beq (fun _=>is_ret) (fun _=>is_ret)))) (fun y2 _=>is_ret))))))))
def e_c12value:Ent Z:=entN Z [e_c12hasE,e_r9same,e_r4fits,e_r4norm] [jS 12 (shp (fun sl=>[.slot 7 false [none]]) (l1 (cInt .i64)))] (args (aCons (aAgg cd_Schema) (a1 (aAgg cd_AField)))) (argsI (n:=75) rfl) (shr [.slot 0 false [none]] (l1 cBool)) [] Tryz.func134 Tryz.ntmps134 (by kernel_rfl) 1 rfl (fun a=>c12value (a.1) (a.2)) (fun a=>none) (fun a e _=>by kernel_rfl) (fun a=>c12valueP (a.1) (a.2)) (fun a h=>⟨c12value_is (a.1) (a.2),rfl⟩)
def c12asc (l:List Str):Pg Bool:=
 .cntG [] (some (l.length<=9223372036854775807)) ixI 1 (↑l.length:Int)
  (fun(i1:Int) (y2:Unit)=>
   .ix i1 l.length
    (.lt (wrp .i64 (i1 - 1)) fun(v3:Int)=>
     .ix v3 l.length
      (.br (Op.bytesLess (l.getD i1.toNat []) (l.getD v3.toNat []) || l.getD i1.toNat []==l.getD v3.toNat []) (.ret (.inr false)) (.ret (.inl ())))))
  (fun(i1:Int) (y2:Unit)=> .ret true) ()
def c12ascP (l:List Str):Bool:=(c12asc l).val
theorem c12asc_is (l:List Str):Is (c12asc l):=
 is_cntG trivial (by omega) (fun h=>by simp only[preP]at h;omega) (fun i1 y2 _ _ _=>is_ix (by omega) (by omega) (is_ltw fun v3 hv3 _=>is_ix (by omega) (by omega) (is_br (fun _=>is_ret) (fun _=>is_ret)))) (fun i1 y2 _ _=>is_ret)
def e_c12asc:Ent Z:=entN Z [] [jS 2 (shp (fun sl=>[.slot 3 false [none]]) (l1 (cInt .i64)))] (args (a1 (aLf cd_Lstr))) (argsI (n:=20) rfl) (shr [.slot 0 false [none]] (l1 cBool)) [] Tryz.func73 Tryz.ntmps73 (by kernel_rfl) 1 rfl (fun a=>c12asc a) (fun a=>none) (fun a e _=>by kernel_rfl) (fun a=>c12ascP a) (fun a h=>⟨c12asc_is a,rfl⟩)
def c12meet (a:List Str)(b:List Str):Pg Bool:=
 .each true ixI a [] (fun(i1:Int) (a3:Str) (y2:Unit)=> .ix i1 a.length (.br (r6hasP b a3) (.ret (.inr true)) (.ret (.inl ()))))
  (fun(i1:Int) (y2:Unit)=> .ret false) ()
def c12meetP (a:List Str)(b:List Str):Bool:=(c12meet a b).val
theorem c12meet_is (a:List Str)(b:List Str):Is (c12meet a b):=
 is_each (.inl rfl) (fun i1 y2 _ _=>is_ix (by omega) (by omega) (is_br (fun _=>is_ret) (fun _=>is_ret))) (fun y2 _=>is_ret)
def e_c12meet:Ent Z:=entN Z [e_r6has] [jS 2 (shp (fun sl=>[.slot 5 false [none]]) (l1 (cInt .i64)))] (args (aCons (aLf cd_Lstr) (a1 (aLf cd_Lstr)))) (argsI (n:=18) rfl) (shr [.slot 0 false [none]] (l1 cBool)) [] Tryz.func74 Tryz.ntmps74 (by kernel_rfl) 1 rfl (fun a=>c12meet (a.1) (a.2)) (fun a=>none) (fun a e _=>by kernel_rfl) (fun a=>c12meetP (a.1) (a.2)) (fun a h=>⟨c12meet_is (a.1) (a.2),rfl⟩)
def c12names (s:Schema)(which:Int):Pg (List Str):=
 .cut
  (fun(y4:List Str)=>
   .cut
    (fun(y8:List Str)=>
     .wh (s.Services.length+1) default
      (fun(x11:Int×List Str)=>
       .br (which==3)
        (.as (s.Services.length<=9223372036854775807)
         (.br (decide (x11.fst < (↑s.Services.length:Int)))
          (.ix x11.fst s.Services.length
           (.ob (roomP (x11.snd.length+1) 16)
            (.ret (.inl (wrp .i64 (x11.fst+1),x11.snd++[(s.Services.getD x11.fst.toNat d_Service).Name])))))
          (.ret (.inr x11.snd))))
        (.ret (.inr x11.snd)))
      (0,y8))
    (.wh (s.Enums.length+1) default
     (fun(x7:Int×List Str)=>
      .br (which==2)
       (.as (s.Enums.length<=9223372036854775807)
        (.br (decide (x7.fst < (↑s.Enums.length:Int)))
         (.ix x7.fst s.Enums.length
          (.ob (roomP (x7.snd.length+1) 16)
           (.ret (.inl (wrp .i64 (x7.fst+1),x7.snd++[(s.Enums.getD x7.fst.toNat d_Enum).Name])))))
         (.ret (.inr (.inl x7.snd)))))
       (.ret (.inr (.inl x7.snd))))
     (0,y4)))
  (.wh (s.Messages.length+1) default
   (fun(x3:Int×List Str)=>
    .br (which==1)
     (.as (s.Messages.length<=9223372036854775807)
      (.br (decide (x3.fst < (↑s.Messages.length:Int)))
       (.ix x3.fst s.Messages.length
        (.ob (roomP (x3.snd.length+1) 16)
         (.ret (.inl (wrp .i64 (x3.fst+1),x3.snd++[(s.Messages.getD x3.fst.toNat d_Message).Name])))))
       (.ret (.inr (.inl x3.snd)))))
     (.ret (.inr (.inl x3.snd))))
   (0,[]))
def c12namesP (s:Schema)(which:Int):List Str:=(c12names s which).val
theorem c12names_is (s:Schema)(which:Int)(h:okS s):Is (c12names s which):=
 by
 obtain⟨h1,h2,h3,_⟩:=h
 have w:∀x:Int,0<=x->x < 1000->wrp .i64 (x+1)=x+1:=fun x _ _=>wrp_in (k:= .i64) (by simp only[InR];omega)
 refine IsP.is (Q:=fun _=>True) (isP_cut (fun y4=>y4.length<=150) ?_ (fun y4 hy4=>isP_cut (fun y8=>y8.length<=300) ?_ (fun y8 hy8=> ?_)))
 ·refine isP_wh (fun x=>0<=x.1/\x.1<=s.Messages.length/\x.2.length<=x.1.toNat) (fun x=>s.Messages.length - x.1.toNat) ⟨Int.le_refl _,by dsimp only;omega,Nat.le_refl _⟩ (by dsimp only;omega) (fun x hx=>isP_beq (fun _=>isP_as <| isP_brd (fun _=>isP_ix (by omega) (by omega) (isP_ob (room_of (by omega) (by omega)) (isP_ret ?_))) (fun _=>isP_ret ?_)) (fun _=>isP_ret ?_))
  ·simp only[Sum.elim_inl,List.length_append,List.length_singleton];rw[w _ (by omega) (by omega)];omega
  ·show x.2.length<=150;omega
  ·show x.2.length<=150;omega
 ·have hy4:y4.length<=150:=hy4
  refine isP_wh (fun x=>0<=x.1/\x.1<=s.Enums.length/\x.2.length<=150+x.1.toNat) (fun x=>s.Enums.length - x.1.toNat) ⟨Int.le_refl _,by dsimp only;omega,by dsimp only;omega⟩ (by dsimp only;omega) (fun x hx=>isP_beq (fun _=>isP_as <| isP_brd (fun _=>isP_ix (by omega) (by omega) (isP_ob (room_of (by omega) (by omega)) (isP_ret ?_))) (fun _=>isP_ret ?_)) (fun _=>isP_ret ?_))
  ·simp only[Sum.elim_inl,List.length_append,List.length_singleton];rw[w _ (by omega) (by omega)];omega
  ·show x.2.length<=300;omega
  ·show x.2.length<=300;omega
 ·have hy8:y8.length<=300:=hy8
  refine isP_wh (fun x=>0<=x.1/\x.1<=s.Services.length/\x.2.length<=300+x.1.toNat) (fun x=>s.Services.length - x.1.toNat) ⟨Int.le_refl _,by dsimp only;omega,by dsimp only;omega⟩ (by dsimp only;omega) (fun x hx=>isP_beq (fun _=>isP_as <| isP_brd (fun _=>isP_ix (by omega) (by omega) (isP_ob (room_of (by omega) (by omega)) (isP_ret ?_))) (fun _=>isP_ret trivial)) (fun _=>isP_ret trivial))
  ·simp only[Sum.elim_inl,List.length_append,List.length_singleton];rw[w _ (by omega) (by omega)];omega
def e_c12names:Ent Z:=entN Z [] [jS 3 (shp (fun sl=>[.slot 6 false [none], .slot 5 false [some 9]]) (lCons (cInt .i64) (l1 cd_Lstr))),jS 7 (shp (fun sl=>[.slot 7 false [none], .slot 5 false [some 9]]) (lCons (cInt .i64) (l1 cd_Lstr))),jS 11 (shp (fun sl=>[.slot 8 false [none], .slot 5 false [some 9]]) (lCons (cInt .i64) (l1 cd_Lstr))),jS 100006 (shp (fun sl=>[.slot 5 false [some 9]]) (l1 cd_Lstr)),jS 100010 (shp (fun sl=>[.slot 5 false [some 9]]) (l1 cd_Lstr))] (args (aCons (aAgg cd_Schema) (a1 (aLf (cInt .i64))))) (argsI (n:=70) rfl) (shr [.slot 0 false [none]] (l1 cd_Lstr)) [] Tryz.func71 Tryz.ntmps71 (by kernel_rfl) 1 rfl (fun a=>c12names (a.1) (a.2)) (fun a=>some (okS (a.1))) (fun a e _=>by kernel_rfl) (fun a=>c12namesP (a.1) (a.2)) (fun a h=>⟨c12names_is (a.1) (a.2) h,rfl⟩)
theorem spansL {l:List Span}{a b:Int}{p v:ref12_list}(hp:p.l.length+2*l.length<=68719476736)(h:v=c12spansP l a b p):v.l.length<=p.l.length+2*l.length:=by
 subst h
 exact(c12spans_isP l a b p hp).2
def c12svc (s:Schema)(v:Service):Pg (List Problem):=
 .ob (List.length v.Name<=9223372036854775807)
  (.ob (0<=68719476736)
   (.lt (c12addP (!r9usableP v.Name) (-1) 8 (ref12_list.mk v.Name [])) fun(v7:ref12_list)=>
    .ob (v7.l.length<=68719476736)
     (.each true ixP v.Methods d_AMethod
      (fun(i1:Int) (a6:AMethod) (y2:ref12_list)=>
       .ix i1 v.Methods.length
        (.ob (y2.l.length<=68719476736)
         (.cut
          (fun(y3:ref12_list)=>
           .cut
            (fun(y4:ref12_list)=>
             .cut (fun(y5:ref12_list)=> .ob (y5.l.length<=68719476736) (.ret (.inl (c12notesP a6.Notes 6 i1 y5))))
              (.br (decide (a6.Shape < 1)) (.ob (y4.l.length<=68719476736) (.ret (.inl (c12addP true i1 1 y4))))
               (.ob (y4.l.length<=68719476736) (.ret (.inl (c12addP (decide (4 < a6.Shape)) i1 1 y4))))))
            (.lt (ixOf (fun(m:Message)=>m.Name==a6.In) s.Messages) fun(v8:Int)=>
             .br (decide (v8 < 0)) (.ob (y3.l.length<=68719476736) (.ret (.inl (c12addP true i1 12 y3))))
              (.ob (y3.l.length<=68719476736)
               (.lt (ixOf (fun(m:Message)=>m.Name==a6.Out) s.Messages) fun(v9:Int)=>
                .ret (.inl (c12addP (decide (v9 < 0)) i1 12 y3))))))
          (.lt (c12addP (!r9partP a6.Name) i1 8 y2) fun(v10:ref12_list)=>
           .br (decide (0 < i1))
            (.lt (wrp .i64 (i1 - 1)) fun(v11:Int)=>
             .ix v11 v.Methods.length
              (.ob (v10.l.length<=68719476736)
               (.ret
                (.inl
                 (c12addP (Op.bytesLess a6.Name (v.Methods.getD v11.toNat d_AMethod).Name || a6.Name==(v.Methods.getD v11.toNat d_AMethod).Name) i1 11
                  v10)))))
            (.ob (v10.l.length<=68719476736) (.ret (.inl (c12addP false i1 11 v10))))))))
      (fun(i1:Int) (y2:ref12_list)=> .ob (y2.l.length<=68719476736) (.ret (c12notesP v.Notes 5 (-1) y2).l))
      (c12addP (decide (64 < (↑v.Methods.length:Int))) (-1) 3 v7))))
def c12svcP (s:Schema)(v:Service):List Problem:=(c12svc s v).val
theorem c12svc_isP (s:Schema)(v:Service)(h:okSv v):IsP (c12svc s v) (fun r=>r.length<=16777216):=
 have h1:v.Methods.length<=1048576:=h.1;have h2:v.Name.length<=1048576:=h.2;isP_ob ((by first | omega | (simp only[List.length_nil]at*;omega))) (isP_ob ((by first | omega | (simp only[List.length_nil]at*;omega))) (isP_lt fun v7 hv7=>have kv7:=addL hv7;isP_ob ((by first | omega | (simp only[List.length_nil]at*;omega))) (isP_each (fun(i1:Nat) y2=>y2.l.length<=2+5*i1) (by first | omega | exact Nat.le_trans (addL' _ _ _ _) (by(first | omega | (simp only[List.length_nil]at*;omega) | simp)) | exact Nat.le_trans (spansL (by omega) rfl) (by omega)) (by omega) (fun i1 y2 hlti1 hIi1=>have hI:y2.l.length<=2+5*i1:=hIi1;isP_ix (by omega) (by omega) (isP_ob ((by first | omega | (simp only[List.length_nil]at*;omega))) (isP_cut (fun y3=>y3.l.length<=2+5*i1+2) (isP_lt fun v10 hv10=>have kv10:=addL hv10;isP_brd (fun _=>isP_ltw fun v11 hv11 _=>isP_ix (by omega) (by omega) (isP_ob ((by first | omega | (simp only[List.length_nil]at*;omega))) (isP_ret (by(try simp only[Sum.elim_inl,Sum.elim_inr])<;>(first | trivial | omega | (refine Nat.le_trans (addL' _ _ _ _) ?_;(first | omega | (simp only[List.length_nil]at*;omega) | simp)) | (refine Nat.le_trans (notesL' _ _ _ _) ?_;(first | omega | (simp only[List.length_nil]at*;omega) | simp))))))) (fun _=>isP_ob ((by first | omega | (simp only[List.length_nil]at*;omega))) (isP_ret (by(try simp only[Sum.elim_inl,Sum.elim_inr])<;>(first | trivial | omega | (refine Nat.le_trans (addL' _ _ _ _) ?_;(first | omega | (simp only[List.length_nil]at*;omega) | simp)) | (refine Nat.le_trans (notesL' _ _ _ _) ?_;(first | omega | (simp only[List.length_nil]at*;omega) | simp))))))) (fun y3 hy3=>have hy3:y3.l.length<=2+5*i1+2:=hy3;isP_cut (fun y4=>y4.l.length<=2+5*i1+3) (isP_lt fun v8 hv8=>isP_brd (fun _=>isP_ob ((by first | omega | (simp only[List.length_nil]at*;omega))) (isP_ret (by(try simp only[Sum.elim_inl,Sum.elim_inr])<;>(first | trivial | omega | (refine Nat.le_trans (addL' _ _ _ _) ?_;(first | omega | (simp only[List.length_nil]at*;omega) | simp)) | (refine Nat.le_trans (notesL' _ _ _ _) ?_;(first | omega | (simp only[List.length_nil]at*;omega) | simp)))))) (fun _=>isP_ob ((by first | omega | (simp only[List.length_nil]at*;omega))) (isP_lt fun v9 hv9=>isP_ret (by(try simp only[Sum.elim_inl,Sum.elim_inr])<;>(first | trivial | omega | (refine Nat.le_trans (addL' _ _ _ _) ?_;(first | omega | (simp only[List.length_nil]at*;omega) | simp)) | (refine Nat.le_trans (notesL' _ _ _ _) ?_;(first | omega | (simp only[List.length_nil]at*;omega) | simp))))))) (fun y4 hy4=>have hy4:y4.l.length<=2+5*i1+3:=hy4;isP_cut (fun y5=>y5.l.length<=2+5*i1+4) (isP_brd (fun _=>isP_ob ((by first | omega | (simp only[List.length_nil]at*;omega))) (isP_ret (by(try simp only[Sum.elim_inl,Sum.elim_inr])<;>(first | trivial | omega | (refine Nat.le_trans (addL' _ _ _ _) ?_;(first | omega | (simp only[List.length_nil]at*;omega) | simp)) | (refine Nat.le_trans (notesL' _ _ _ _) ?_;(first | omega | (simp only[List.length_nil]at*;omega) | simp)))))) (fun _=>isP_ob ((by first | omega | (simp only[List.length_nil]at*;omega))) (isP_ret (by(try simp only[Sum.elim_inl,Sum.elim_inr])<;>(first | trivial | omega | (refine Nat.le_trans (addL' _ _ _ _) ?_;(first | omega | (simp only[List.length_nil]at*;omega) | simp)) | (refine Nat.le_trans (notesL' _ _ _ _) ?_;(first | omega | (simp only[List.length_nil]at*;omega) | simp))))))) (fun y5 hy5=>have hy5:y5.l.length<=2+5*i1+4:=hy5;isP_ob ((by first | omega | (simp only[List.length_nil]at*;omega))) (isP_ret (by(try simp only[Sum.elim_inl,Sum.elim_inr])<;>(first | trivial | omega | (refine Nat.le_trans (addL' _ _ _ _) ?_;(first | omega | (simp only[List.length_nil]at*;omega) | simp)) | (refine Nat.le_trans (notesL' _ _ _ _) ?_;(first | omega | (simp only[List.length_nil]at*;omega) | simp))))))))))) (fun y2 hI=>have hI:y2.l.length<=2+5*v.Methods.length:=hI;isP_ob ((by first | omega | (simp only[List.length_nil]at*;omega))) (isP_ret (by(try simp only[Sum.elim_inl,Sum.elim_inr])<;>(first | trivial | omega | (refine Nat.le_trans (addL' _ _ _ _) ?_;(first | omega | (simp only[List.length_nil]at*;omega) | simp)) | (refine Nat.le_trans (notesL' _ _ _ _) ?_;(first | omega | (simp only[List.length_nil]at*;omega) | simp)))))))))
theorem c12svc_is (s:Schema)(v:Service)(h:okSv v):Is (c12svc s v):=(c12svc_isP s v h).1
def e_c12svc:Ent Z:=entN Z [e_c12add,e_r9usable,e_r9part,e_c12notes,e_c12hasM] [jS 5 (shp (fun sl=>[.slot 6 false [none], .cells (pid (sl 5)) [none,some 188]]) (lCons (cInt .i64) (l1 cd_ref12_list))),jS 100010 (shp (fun sl=>[.cells (pid (sl 5)) [none,some 188]]) (l1 cd_ref12_list)),jS 100011 (shp (fun sl=>[.cells (pid (sl 5)) [none,some 188]]) (l1 cd_ref12_list)),jS 100012 (shp (fun sl=>[.cells (pid (sl 5)) [none,some 188]]) (l1 cd_ref12_list)),jS 800001 (shp (fun sl=>[.cells (pid (sl 5)) [none,some 188]]) (l1 cd_ref12_list))] (args (aCons (aAgg cd_Schema) (a1 (aAgg cd_Service)))) (argsI (n:=88) rfl) (shr [.slot 0 false [none]] (l1 cd_LProblem)) [] Tryz.func78 Tryz.ntmps78 (by kernel_rfl) 1 rfl (fun a=>c12svc (a.1) (a.2)) (fun a=>some (okSv (a.2))) (fun a e _=>by kernel_rfl) (fun a=>c12svcP (a.1) (a.2)) (fun a h=>⟨c12svc_is (a.1) (a.2) h,rfl⟩)
def c12enum (e:Enum):Pg (List Problem):=
 .cut
  (fun(y1:ref12_list)=>
   .cut
    (fun(y2:ref12_list)=>
     .cut
      (fun(y3:ref12_list)=>
       .each true ixP e.Items d_Item
        (fun(i4:Int) (a8:Item) (y5:ref12_list)=>
         .ix i4 e.Items.length
          (.cnt ixP 0 i4
           (fun(i6:Int) (y7:Bool)=> .ix i6 e.Items.length (.br ((e.Items.getD i6.toNat d_Item).Name==a8.Name) (.ret (.inl true)) (.ret (.inl y7))))
           (fun(i6:Int) (y7:Bool)=>
            .lt (wrp .i64 (i4 - 1)) fun(v9:Int)=>
             .lt (c12resP e.Reserved a8.Num) fun(v10:Bool)=>
              .lt (r9partP a8.Name) fun(v11:Bool)=>
               .br (decide (a8.Num < 0))
                (.ob (y5.l.length<=68719476736)
                 (.lt (c12addP true a8.Num 6 y5) fun(v12:ref12_list)=>
                  .br (decide (0 < i4))
                   (.ix v9 e.Items.length
                    (.ob (v12.l.length<=68719476736)
                     (.lt (c12addP (decide (a8.Num<=(e.Items.getD v9.toNat d_Item).Num)) a8.Num 11 v12) fun(v13:ref12_list)=>
                      .ob (v13.l.length<=68719476736)
                       (.lt (c12addP (!v11) a8.Num 8 v13) fun(v14:ref12_list)=>
                        .ob (v14.l.length<=68719476736)
                         (.lt (c12addP y7 a8.Num 9 v14) fun(v15:ref12_list)=>
                          .ob (v15.l.length<=68719476736)
                           (.lt (c12addP v10 a8.Num 21 v15) fun(v16:ref12_list)=>
                            .ob (v16.l.length<=68719476736) (.ret (.inl (c12notesP a8.Notes 4 a8.Num v16)))))))))
                   (.ob (v12.l.length<=68719476736)
                    (.lt (c12addP false a8.Num 11 v12) fun(v17:ref12_list)=>
                     .ob (v17.l.length<=68719476736)
                      (.lt (c12addP (!v11) a8.Num 8 v17) fun(v18:ref12_list)=>
                       .ob (v18.l.length<=68719476736)
                        (.lt (c12addP y7 a8.Num 9 v18) fun(v19:ref12_list)=>
                         .ob (v19.l.length<=68719476736)
                          (.lt (c12addP v10 a8.Num 21 v19) fun(v20:ref12_list)=>
                           .ob (v20.l.length<=68719476736) (.ret (.inl (c12notesP a8.Notes 4 a8.Num v20))))))))))
                (.ob (y5.l.length<=68719476736)
                 (.lt (c12addP (decide (2147483647 < a8.Num)) a8.Num 6 y5) fun(v21:ref12_list)=>
                  .br (decide (0 < i4))
                   (.ix v9 e.Items.length
                    (.ob (v21.l.length<=68719476736)
                     (.lt (c12addP (decide (a8.Num<=(e.Items.getD v9.toNat d_Item).Num)) a8.Num 11 v21) fun(v22:ref12_list)=>
                      .ob (v22.l.length<=68719476736)
                       (.lt (c12addP (!v11) a8.Num 8 v22) fun(v23:ref12_list)=>
                        .ob (v23.l.length<=68719476736)
                         (.lt (c12addP y7 a8.Num 9 v23) fun(v24:ref12_list)=>
                          .ob (v24.l.length<=68719476736)
                           (.lt (c12addP v10 a8.Num 21 v24) fun(v25:ref12_list)=>
                            .ob (v25.l.length<=68719476736) (.ret (.inl (c12notesP a8.Notes 4 a8.Num v25)))))))))
                   (.ob (v21.l.length<=68719476736)
                    (.lt (c12addP false a8.Num 11 v21) fun(v26:ref12_list)=>
                     .ob (v26.l.length<=68719476736)
                      (.lt (c12addP (!v11) a8.Num 8 v26) fun(v27:ref12_list)=>
                       .ob (v27.l.length<=68719476736)
                        (.lt (c12addP y7 a8.Num 9 v27) fun(v28:ref12_list)=>
                         .ob (v28.l.length<=68719476736)
                          (.lt (c12addP v10 a8.Num 21 v28) fun(v29:ref12_list)=>
                           .ob (v29.l.length<=68719476736) (.ret (.inl (c12notesP a8.Notes 4 a8.Num v29)))))))))))
           false))
        (fun(i4:Int) (y5:ref12_list)=>
         .ob (y5.l.length+2*e.Reserved.length<=68719476736)
          (.lt (c12spansP e.Reserved 0 2147483647 y5) fun(v30:ref12_list)=>
           .ob (v30.l.length<=68719476736) (.ret (c12notesP e.Notes 3 (-1) v30).l)))
        y3)
      (.br (decide (0 < (↑e.Items.length:Int)))
       (.ix 0 e.Items.length
        (.ob (y2.l.length<=68719476736) (.ret (.inl (c12addP ((e.Items.getD 0 d_Item).Num !=0) (-1) 14 y2)))))
       (.ob (y2.l.length<=68719476736) (.ret (.inl (c12addP false (-1) 14 y2))))))
    (.lt (c12addP true (-1) 3 y1) fun(v31:ref12_list)=>
     .br (decide ((↑e.Items.length:Int) < 1)) (.ob (y1.l.length<=68719476736) (.ret (.inl v31)))
      (.br (decide (64 < (↑e.Items.length:Int))) (.ob (y1.l.length<=68719476736) (.ret (.inl v31)))
       (.ob (y1.l.length<=68719476736) (.ret (.inl (c12addP (decide (16 < (↑e.Reserved.length:Int))) (-1) 3 y1)))))))
  (.ob (List.length e.Name<=9223372036854775807)
   (.ob (0<=68719476736) (.ret (.inl (c12addP (!r9usableP e.Name) (-1) 8 (ref12_list.mk e.Name []))))))
def c12enumP (e:Enum):List Problem:=(c12enum e).val
theorem c12enum_isP (e:Enum)(h:okE e):IsP (c12enum e) (fun r=>r.length<=16777216):=
 have h1:e.Items.length<=1048576:=h.1;have h2:e.Reserved.length<=1048576:=h.2.1;have h3:e.Name.length<=1048576:=h.2.2;isP_cut (fun y1=>y1.l.length<=1) (isP_ob ((by first | omega | (simp only[List.length_nil]at*;omega))) (isP_ob ((by first | omega | (simp only[List.length_nil]at*;omega))) (isP_ret (by(try simp only[Sum.elim_inl,Sum.elim_inr])<;>(first | trivial | omega | (refine Nat.le_trans (addL' _ _ _ _) ?_;(first | omega | (simp only[List.length_nil]at*;omega) | simp)) | (refine Nat.le_trans (notesL' _ _ _ _) ?_;(first | omega | (simp only[List.length_nil]at*;omega) | simp))))))) (fun y1 hy1=>have hy1:y1.l.length<=1:=hy1;isP_cut (fun y2=>y2.l.length<=2) (isP_lt fun v31 hv31=>have kv31:=addL hv31;isP_brd (fun _=>isP_ob ((by first | omega | (simp only[List.length_nil]at*;omega))) (isP_ret (by(try simp only[Sum.elim_inl,Sum.elim_inr])<;>(first | trivial | omega | (refine Nat.le_trans (addL' _ _ _ _) ?_;(first | omega | (simp only[List.length_nil]at*;omega) | simp)) | (refine Nat.le_trans (notesL' _ _ _ _) ?_;(first | omega | (simp only[List.length_nil]at*;omega) | simp)))))) (fun _=>isP_brd (fun _=>isP_ob ((by first | omega | (simp only[List.length_nil]at*;omega))) (isP_ret (by(try simp only[Sum.elim_inl,Sum.elim_inr])<;>(first | trivial | omega | (refine Nat.le_trans (addL' _ _ _ _) ?_;(first | omega | (simp only[List.length_nil]at*;omega) | simp)) | (refine Nat.le_trans (notesL' _ _ _ _) ?_;(first | omega | (simp only[List.length_nil]at*;omega) | simp)))))) (fun _=>isP_ob ((by first | omega | (simp only[List.length_nil]at*;omega))) (isP_ret (by(try simp only[Sum.elim_inl,Sum.elim_inr])<;>(first | trivial | omega | (refine Nat.le_trans (addL' _ _ _ _) ?_;(first | omega | (simp only[List.length_nil]at*;omega) | simp)) | (refine Nat.le_trans (notesL' _ _ _ _) ?_;(first | omega | (simp only[List.length_nil]at*;omega) | simp)))))))) (fun y2 hy2=>have hy2:y2.l.length<=2:=hy2;isP_cut (fun y3=>y3.l.length<=3) (isP_brd (fun _=>isP_ix (by omega) (by omega) (isP_ob ((by first | omega | (simp only[List.length_nil]at*;omega))) (isP_ret (by(try simp only[Sum.elim_inl,Sum.elim_inr])<;>(first | trivial | omega | (refine Nat.le_trans (addL' _ _ _ _) ?_;(first | omega | (simp only[List.length_nil]at*;omega) | simp)) | (refine Nat.le_trans (notesL' _ _ _ _) ?_;(first | omega | (simp only[List.length_nil]at*;omega) | simp))))))) (fun _=>isP_ob ((by first | omega | (simp only[List.length_nil]at*;omega))) (isP_ret (by(try simp only[Sum.elim_inl,Sum.elim_inr])<;>(first | trivial | omega | (refine Nat.le_trans (addL' _ _ _ _) ?_;(first | omega | (simp only[List.length_nil]at*;omega) | simp)) | (refine Nat.le_trans (notesL' _ _ _ _) ?_;(first | omega | (simp only[List.length_nil]at*;omega) | simp))))))) (fun y3 hy3=>have hy3:y3.l.length<=3:=hy3;isP_each (fun(i4:Nat) y5=>y5.l.length<=3+6*i4) (by first | omega | exact Nat.le_trans (addL' _ _ _ _) (by(first | omega | (simp only[List.length_nil]at*;omega) | simp)) | exact Nat.le_trans (spansL (by omega) rfl) (by omega)) (by omega) (fun i4 y5 hlti4 hIi4=>have hI:y5.l.length<=3+6*i4:=hIi4;isP_ix (by omega) (by omega) (isP_cnt (fun(i6:Int) y7=>True) (by trivial) (by omega) (by omega) (fun i6 y7 hi6a hi6b hIi6=>have hI:True:=hIi6;isP_ix (by omega) (by omega) (isP_br (fun _=>isP_ret (by(try simp only[Sum.elim_inl,Sum.elim_inr])<;>(first | trivial | omega | (refine Nat.le_trans (addL' _ _ _ _) ?_;(first | omega | (simp only[List.length_nil]at*;omega) | simp)) | (refine Nat.le_trans (notesL' _ _ _ _) ?_;(first | omega | (simp only[List.length_nil]at*;omega) | simp))))) (fun _=>isP_ret (by(try simp only[Sum.elim_inl,Sum.elim_inr])<;>(first | trivial | omega | (refine Nat.le_trans (addL' _ _ _ _) ?_;(first | omega | (simp only[List.length_nil]at*;omega) | simp)) | (refine Nat.le_trans (notesL' _ _ _ _) ?_;(first | omega | (simp only[List.length_nil]at*;omega) | simp))))))) (fun i6 y7 _ hge hI=>have hI:True:=hI;isP_ltw fun v9 hv9 _=>isP_lt fun v10 hv10=>isP_lt fun v11 hv11=>isP_brd (fun _=>isP_ob ((by first | omega | (simp only[List.length_nil]at*;omega))) (isP_lt fun v12 hv12=>have kv12:=addL hv12;isP_brd (fun _=>isP_ix (by omega) (by omega) (isP_ob ((by first | omega | (simp only[List.length_nil]at*;omega))) (isP_lt fun v13 hv13=>have kv13:=addL hv13;isP_ob ((by first | omega | (simp only[List.length_nil]at*;omega))) (isP_lt fun v14 hv14=>have kv14:=addL hv14;isP_ob ((by first | omega | (simp only[List.length_nil]at*;omega))) (isP_lt fun v15 hv15=>have kv15:=addL hv15;isP_ob ((by first | omega | (simp only[List.length_nil]at*;omega))) (isP_lt fun v16 hv16=>have kv16:=addL hv16;isP_ob ((by first | omega | (simp only[List.length_nil]at*;omega))) (isP_ret (by(try simp only[Sum.elim_inl,Sum.elim_inr])<;>(first | trivial | omega | (refine Nat.le_trans (addL' _ _ _ _) ?_;(first | omega | (simp only[List.length_nil]at*;omega) | simp)) | (refine Nat.le_trans (notesL' _ _ _ _) ?_;(first | omega | (simp only[List.length_nil]at*;omega) | simp))))))))))) (fun _=>isP_ob ((by first | omega | (simp only[List.length_nil]at*;omega))) (isP_lt fun v17 hv17=>have kv17:=addL hv17;isP_ob ((by first | omega | (simp only[List.length_nil]at*;omega))) (isP_lt fun v18 hv18=>have kv18:=addL hv18;isP_ob ((by first | omega | (simp only[List.length_nil]at*;omega))) (isP_lt fun v19 hv19=>have kv19:=addL hv19;isP_ob ((by first | omega | (simp only[List.length_nil]at*;omega))) (isP_lt fun v20 hv20=>have kv20:=addL hv20;isP_ob ((by first | omega | (simp only[List.length_nil]at*;omega))) (isP_ret (by(try simp only[Sum.elim_inl,Sum.elim_inr])<;>(first | trivial | omega | (refine Nat.le_trans (addL' _ _ _ _) ?_;(first | omega | (simp only[List.length_nil]at*;omega) | simp)) | (refine Nat.le_trans (notesL' _ _ _ _) ?_;(first | omega | (simp only[List.length_nil]at*;omega) | simp)))))))))))) (fun _=>isP_ob ((by first | omega | (simp only[List.length_nil]at*;omega))) (isP_lt fun v21 hv21=>have kv21:=addL hv21;isP_brd (fun _=>isP_ix (by omega) (by omega) (isP_ob ((by first | omega | (simp only[List.length_nil]at*;omega))) (isP_lt fun v22 hv22=>have kv22:=addL hv22;isP_ob ((by first | omega | (simp only[List.length_nil]at*;omega))) (isP_lt fun v23 hv23=>have kv23:=addL hv23;isP_ob ((by first | omega | (simp only[List.length_nil]at*;omega))) (isP_lt fun v24 hv24=>have kv24:=addL hv24;isP_ob ((by first | omega | (simp only[List.length_nil]at*;omega))) (isP_lt fun v25 hv25=>have kv25:=addL hv25;isP_ob ((by first | omega | (simp only[List.length_nil]at*;omega))) (isP_ret (by(try simp only[Sum.elim_inl,Sum.elim_inr])<;>(first | trivial | omega | (refine Nat.le_trans (addL' _ _ _ _) ?_;(first | omega | (simp only[List.length_nil]at*;omega) | simp)) | (refine Nat.le_trans (notesL' _ _ _ _) ?_;(first | omega | (simp only[List.length_nil]at*;omega) | simp))))))))))) (fun _=>isP_ob ((by first | omega | (simp only[List.length_nil]at*;omega))) (isP_lt fun v26 hv26=>have kv26:=addL hv26;isP_ob ((by first | omega | (simp only[List.length_nil]at*;omega))) (isP_lt fun v27 hv27=>have kv27:=addL hv27;isP_ob ((by first | omega | (simp only[List.length_nil]at*;omega))) (isP_lt fun v28 hv28=>have kv28:=addL hv28;isP_ob ((by first | omega | (simp only[List.length_nil]at*;omega))) (isP_lt fun v29 hv29=>have kv29:=addL hv29;isP_ob ((by first | omega | (simp only[List.length_nil]at*;omega))) (isP_ret (by(try simp only[Sum.elim_inl,Sum.elim_inr])<;>(first | trivial | omega | (refine Nat.le_trans (addL' _ _ _ _) ?_;(first | omega | (simp only[List.length_nil]at*;omega) | simp)) | (refine Nat.le_trans (notesL' _ _ _ _) ?_;(first | omega | (simp only[List.length_nil]at*;omega) | simp))))))))))))))) (fun y5 hI=>have hI:y5.l.length<=3+6*e.Items.length:=hI;isP_ob ((by first | omega | (simp only[List.length_nil]at*;omega))) (isP_lt fun v30 hv30=>have kv30:=spansL (by omega) hv30;isP_ob ((by first | omega | (simp only[List.length_nil]at*;omega))) (isP_ret (by(try simp only[Sum.elim_inl,Sum.elim_inr])<;>(first | trivial | omega | (refine Nat.le_trans (addL' _ _ _ _) ?_;(first | omega | (simp only[List.length_nil]at*;omega) | simp)) | (refine Nat.le_trans (notesL' _ _ _ _) ?_;(first | omega | (simp only[List.length_nil]at*;omega) | simp))))))))))
theorem c12enum_is (e:Enum)(h:okE e):Is (c12enum e):=(c12enum_isP e h).1
def e_c12enum:Ent Z:=entN Z [e_c12add,e_r9usable,e_r9part,e_c12res,e_c12notes,e_c12spans] [jS 6 (shp (fun sl=>[.slot 4 false [none], .cells (pid (sl 3)) [none,some 188]]) (lCons (cInt .i64) (l1 cd_ref12_list))),jS 11 (shp (fun sl=>[.slot 7 false [none], .slot 6 false [none]]) (lCons (cInt .i64) (l1 cBool))),jS 100003 (shp (fun sl=>[.cells (pid (sl 3)) [none,some 188]]) (l1 cd_ref12_list)),jS 100004 (shp (fun sl=>[.cells (pid (sl 3)) [none,some 188]]) (l1 cd_ref12_list)),jS 100005 (shp (fun sl=>[.cells (pid (sl 3)) [none,some 188]]) (l1 cd_ref12_list)),jS 800001 (shp (fun sl=>[.cells (pid (sl 3)) [none,some 188]]) (l1 cd_ref12_list))] (args (a1 (aAgg cd_Enum))) (argsI (n:=132) rfl) (shr [.slot 0 false [none]] (l1 cd_LProblem)) [] Tryz.func77 Tryz.ntmps77 (by kernel_rfl) 1 rfl (fun a=>c12enum a) (fun a=>some (okE a)) (fun a e _=>by kernel_rfl) (fun a=>c12enumP a) (fun a h=>⟨c12enum_is a h,rfl⟩)
def c12msg (s:Schema)(m:Message)(fin:List Bool):Pg (List Problem):=
 .cut
  (fun(y1:ref12_list)=>
   .cut
    (fun(y2:ref12_list)=>
     .cut
      (fun(y11:ref12_list)=>
       .ob (y11.l.length+2*m.Reserved.length<=68719476736)
        (.each true ixP m.Gone []
         (fun(i12:Int) (a14:Str) (y13:ref12_list)=>
          .ix i12 m.Gone.length
           (.ob (List.length a14<=9223372036854775700)
            (.ob (y13.l.length<=68719476736) (.ret (.inl (c12addP (!rvalidP a14) (-1) 7 y13))))))
         (fun(i12:Int) (y13:ref12_list)=>
          .ob (y13.l.length<=68719476736)
           (.ob (s.Messages.length<=fin.length)
            (.lt (c12notesP m.Notes 1 (-1) y13) fun(v15:ref12_list)=>
             .ob (v15.l.length<=68719476736) (.ret (c12addP (c12needsP s m fin) (-1) 19 v15).l))))
         (c12spansP m.Reserved 1 65535 y11)))
      (.each true ixP m.Fields d_AField
       (fun(i3:Int) (a10:AField) (y4:ref12_list)=>
        .ix i3 m.Fields.length
         (.cnt ixP 0 i3
          (fun(i5:Int) (y6:Bool)=>
           .ix i5 m.Fields.length (.br ((m.Fields.getD i5.toNat d_AField).Name==a10.Name) (.ret (.inl true)) (.ret (.inl y6))))
          (fun(i5:Int) (y6:Bool)=>
           .cut
            (fun(y7:ref12_list)=>
             .cut
              (fun(y8:ref12_list)=>
               .ob (y8.l.length<=68719476736)
                (.lt (c12addP (!r9partP a10.Name) a10.Num 8 y8) fun(v16:ref12_list)=>
                 .ob (v16.l.length<=68719476736)
                  (.cut
                   (fun(y9:ref12_list)=>
                    .ob (y9.l.length<=68719476736)
                     (.lt
                      (c12addP (!c12cardP (AField.mk a10.Num a10.Name a10.Card a10.Key a10.Type_ a10.Union a10.HasDefault a10.Default.re a10.Notes)) a10.Num
                       1 y9)
                      fun(v17:ref12_list)=>
                      .ob (v17.l.length<=68719476736)
                       (.ix i3 m.Fields.length
                        (.lt
                         (c12addP (!c12typP s (AField.mk a10.Num a10.Name a10.Card a10.Key a10.Type_ a10.Union a10.HasDefault a10.Default.re a10.Notes))
                          a10.Num 12 v17)
                         fun(v18:ref12_list)=>
                         .ob (v18.l.length<=68719476736)
                          (.lt (c12addP (!c12unionP m i3) a10.Num 15 v18) fun(v19:ref12_list)=>
                           .ob (v19.l.length<=68719476736)
                            (.lt
                             (c12addP
                              (!c12valueP s (AField.mk a10.Num a10.Name a10.Card a10.Key a10.Type_ a10.Union a10.HasDefault a10.Default.re a10.Notes))
                              a10.Num 1 v19)
                             fun(v20:ref12_list)=>
                             .ob (v20.l.length<=68719476736) (.ret (.inl (c12notesP a10.Notes 2 a10.Num v20)))))))))
                   (.lt (c12addP y6 a10.Num 9 v16) fun(v21:ref12_list)=>
                    .br (c12resP m.Reserved a10.Num) (.ob (v21.l.length<=68719476736) (.ret (.inl (c12addP true a10.Num 21 v21))))
                     (.ob (v21.l.length<=68719476736) (.ret (.inl (c12addP (r6hasP m.Gone a10.Name) a10.Num 21 v21))))))))
              (.br (decide (0 < i3))
               (.lt (wrp .i64 (i3 - 1)) fun(v22:Int)=>
                .ix v22 m.Fields.length
                 (.ob (y7.l.length<=68719476736)
                  (.ret (.inl (c12addP (decide (a10.Num<=(m.Fields.getD v22.toNat d_AField).Num)) a10.Num 11 y7)))))
               (.ob (y7.l.length<=68719476736) (.ret (.inl (c12addP false a10.Num 11 y7))))))
            (.br (decide (a10.Num < 1)) (.ob (y4.l.length<=68719476736) (.ret (.inl (c12addP true a10.Num 6 y4))))
             (.ob (y4.l.length<=68719476736) (.ret (.inl (c12addP (decide (65535 < a10.Num)) a10.Num 6 y4))))))
          false))
       (fun(i3:Int) (y4:ref12_list)=> .ret (.inl y4)) y2))
    (.lt (c12addP true (-1) 3 y1) fun(v23:ref12_list)=>
     .br (decide (64 < (↑m.Fields.length:Int))) (.ob (y1.l.length<=68719476736) (.ret (.inl v23)))
      (.br (decide (16 < (↑m.Reserved.length:Int))) (.ob (y1.l.length<=68719476736) (.ret (.inl v23)))
       (.ob (y1.l.length<=68719476736) (.ret (.inl (c12addP (decide (16 < (↑m.Gone.length:Int))) (-1) 3 y1)))))))
  (.ob (List.length m.Name<=9223372036854775807)
   (.ob (0<=68719476736) (.ret (.inl (c12addP (!r9usableP m.Name) (-1) 8 (ref12_list.mk m.Name []))))))
def c12msgP (s:Schema)(m:Message)(fin:List Bool):List Problem:=(c12msg s m fin).val
theorem c12msg_isP (s:Schema)(m:Message)(fin:List Bool)(h:okM m/\s.Messages.length<=fin.length):IsP (c12msg s m fin) (fun r=>r.length<=16777216):=
 have h1:m.Fields.length<=1048576:=h.1.1;have h2:m.Reserved.length<=1048576:=h.1.2.1;have h3:m.Gone.length<=1048576:=h.1.2.2.1;have h4:m.Name.length<=1048576:=h.1.2.2.2.1;isP_cut (fun y1=>y1.l.length<=1) (isP_ob ((by first | omega | (simp only[List.length_nil]at*;omega) | (have:=h.1.2.2.2.2 _ (getD_mem (d:=[]) hlti12);omega))) (isP_ob ((by first | omega | (simp only[List.length_nil]at*;omega) | (have:=h.1.2.2.2.2 _ (getD_mem (d:=[]) hlti12);omega))) (isP_ret (by(try simp only[Sum.elim_inl,Sum.elim_inr])<;>(first | trivial | omega | (refine Nat.le_trans (addL' _ _ _ _) ?_;(first | omega | (simp only[List.length_nil]at*;omega) | simp)) | (refine Nat.le_trans (notesL' _ _ _ _) ?_;(first | omega | (simp only[List.length_nil]at*;omega) | simp))))))) (fun y1 hy1=>have hy1:y1.l.length<=1:=hy1;isP_cut (fun y2=>y2.l.length<=2) (isP_lt fun v23 hv23=>have kv23:=addL hv23;isP_brd (fun _=>isP_ob ((by first | omega | (simp only[List.length_nil]at*;omega) | (have:=h.1.2.2.2.2 _ (getD_mem (d:=[]) hlti12);omega))) (isP_ret (by(try simp only[Sum.elim_inl,Sum.elim_inr])<;>(first | trivial | omega | (refine Nat.le_trans (addL' _ _ _ _) ?_;(first | omega | (simp only[List.length_nil]at*;omega) | simp)) | (refine Nat.le_trans (notesL' _ _ _ _) ?_;(first | omega | (simp only[List.length_nil]at*;omega) | simp)))))) (fun _=>isP_brd (fun _=>isP_ob ((by first | omega | (simp only[List.length_nil]at*;omega) | (have:=h.1.2.2.2.2 _ (getD_mem (d:=[]) hlti12);omega))) (isP_ret (by(try simp only[Sum.elim_inl,Sum.elim_inr])<;>(first | trivial | omega | (refine Nat.le_trans (addL' _ _ _ _) ?_;(first | omega | (simp only[List.length_nil]at*;omega) | simp)) | (refine Nat.le_trans (notesL' _ _ _ _) ?_;(first | omega | (simp only[List.length_nil]at*;omega) | simp)))))) (fun _=>isP_ob ((by first | omega | (simp only[List.length_nil]at*;omega) | (have:=h.1.2.2.2.2 _ (getD_mem (d:=[]) hlti12);omega))) (isP_ret (by(try simp only[Sum.elim_inl,Sum.elim_inr])<;>(first | trivial | omega | (refine Nat.le_trans (addL' _ _ _ _) ?_;(first | omega | (simp only[List.length_nil]at*;omega) | simp)) | (refine Nat.le_trans (notesL' _ _ _ _) ?_;(first | omega | (simp only[List.length_nil]at*;omega) | simp)))))))) (fun y2 hy2=>have hy2:y2.l.length<=2:=hy2;isP_cut (fun y11=>y11.l.length<=10485762) (isP_each (fun(i3:Nat) y4=>y4.l.length<=2+10*i3) (by first | omega | exact Nat.le_trans (addL' _ _ _ _) (by(first | omega | (simp only[List.length_nil]at*;omega) | simp)) | exact Nat.le_trans (spansL (by omega) rfl) (by omega)) (by omega) (fun i3 y4 hlti3 hIi3=>have hI:y4.l.length<=2+10*i3:=hIi3;isP_ix (by omega) (by omega) (isP_cnt (fun(i5:Int) y6=>True) (by trivial) (by omega) (by omega) (fun i5 y6 hi5a hi5b hIi5=>have hI:True:=hIi5;isP_ix (by omega) (by omega) (isP_br (fun _=>isP_ret (by(try simp only[Sum.elim_inl,Sum.elim_inr])<;>(first | trivial | omega | (refine Nat.le_trans (addL' _ _ _ _) ?_;(first | omega | (simp only[List.length_nil]at*;omega) | simp)) | (refine Nat.le_trans (notesL' _ _ _ _) ?_;(first | omega | (simp only[List.length_nil]at*;omega) | simp))))) (fun _=>isP_ret (by(try simp only[Sum.elim_inl,Sum.elim_inr])<;>(first | trivial | omega | (refine Nat.le_trans (addL' _ _ _ _) ?_;(first | omega | (simp only[List.length_nil]at*;omega) | simp)) | (refine Nat.le_trans (notesL' _ _ _ _) ?_;(first | omega | (simp only[List.length_nil]at*;omega) | simp))))))) (fun i5 y6 _ hge hI=>have hI:True:=hI;isP_cut (fun y7=>y7.l.length<=2+10*i3+1) (isP_brd (fun _=>isP_ob ((by first | omega | (simp only[List.length_nil]at*;omega) | (have:=h.1.2.2.2.2 _ (getD_mem (d:=[]) hlti12);omega))) (isP_ret (by(try simp only[Sum.elim_inl,Sum.elim_inr])<;>(first | trivial | omega | (refine Nat.le_trans (addL' _ _ _ _) ?_;(first | omega | (simp only[List.length_nil]at*;omega) | simp)) | (refine Nat.le_trans (notesL' _ _ _ _) ?_;(first | omega | (simp only[List.length_nil]at*;omega) | simp)))))) (fun _=>isP_ob ((by first | omega | (simp only[List.length_nil]at*;omega) | (have:=h.1.2.2.2.2 _ (getD_mem (d:=[]) hlti12);omega))) (isP_ret (by(try simp only[Sum.elim_inl,Sum.elim_inr])<;>(first | trivial | omega | (refine Nat.le_trans (addL' _ _ _ _) ?_;(first | omega | (simp only[List.length_nil]at*;omega) | simp)) | (refine Nat.le_trans (notesL' _ _ _ _) ?_;(first | omega | (simp only[List.length_nil]at*;omega) | simp))))))) (fun y7 hy7=>have hy7:y7.l.length<=2+10*i3+1:=hy7;isP_cut (fun y8=>y8.l.length<=2+10*i3+2) (isP_brd (fun _=>isP_ltw fun v22 hv22 _=>isP_ix (by omega) (by omega) (isP_ob ((by first | omega | (simp only[List.length_nil]at*;omega) | (have:=h.1.2.2.2.2 _ (getD_mem (d:=[]) hlti12);omega))) (isP_ret (by(try simp only[Sum.elim_inl,Sum.elim_inr])<;>(first | trivial | omega | (refine Nat.le_trans (addL' _ _ _ _) ?_;(first | omega | (simp only[List.length_nil]at*;omega) | simp)) | (refine Nat.le_trans (notesL' _ _ _ _) ?_;(first | omega | (simp only[List.length_nil]at*;omega) | simp))))))) (fun _=>isP_ob ((by first | omega | (simp only[List.length_nil]at*;omega) | (have:=h.1.2.2.2.2 _ (getD_mem (d:=[]) hlti12);omega))) (isP_ret (by(try simp only[Sum.elim_inl,Sum.elim_inr])<;>(first | trivial | omega | (refine Nat.le_trans (addL' _ _ _ _) ?_;(first | omega | (simp only[List.length_nil]at*;omega) | simp)) | (refine Nat.le_trans (notesL' _ _ _ _) ?_;(first | omega | (simp only[List.length_nil]at*;omega) | simp))))))) (fun y8 hy8=>have hy8:y8.l.length<=2+10*i3+2:=hy8;isP_ob ((by first | omega | (simp only[List.length_nil]at*;omega) | (have:=h.1.2.2.2.2 _ (getD_mem (d:=[]) hlti12);omega))) (isP_lt fun v16 hv16=>have kv16:=addL hv16;isP_ob ((by first | omega | (simp only[List.length_nil]at*;omega) | (have:=h.1.2.2.2.2 _ (getD_mem (d:=[]) hlti12);omega))) (isP_cut (fun y9=>y9.l.length<=2+10*i3+5) (isP_lt fun v21 hv21=>have kv21:=addL hv21;isP_br (fun _=>isP_ob ((by first | omega | (simp only[List.length_nil]at*;omega) | (have:=h.1.2.2.2.2 _ (getD_mem (d:=[]) hlti12);omega))) (isP_ret (by(try simp only[Sum.elim_inl,Sum.elim_inr])<;>(first | trivial | omega | (refine Nat.le_trans (addL' _ _ _ _) ?_;(first | omega | (simp only[List.length_nil]at*;omega) | simp)) | (refine Nat.le_trans (notesL' _ _ _ _) ?_;(first | omega | (simp only[List.length_nil]at*;omega) | simp)))))) (fun _=>isP_ob ((by first | omega | (simp only[List.length_nil]at*;omega) | (have:=h.1.2.2.2.2 _ (getD_mem (d:=[]) hlti12);omega))) (isP_ret (by(try simp only[Sum.elim_inl,Sum.elim_inr])<;>(first | trivial | omega | (refine Nat.le_trans (addL' _ _ _ _) ?_;(first | omega | (simp only[List.length_nil]at*;omega) | simp)) | (refine Nat.le_trans (notesL' _ _ _ _) ?_;(first | omega | (simp only[List.length_nil]at*;omega) | simp))))))) (fun y9 hy9=>have hy9:y9.l.length<=2+10*i3+5:=hy9;isP_ob ((by first | omega | (simp only[List.length_nil]at*;omega) | (have:=h.1.2.2.2.2 _ (getD_mem (d:=[]) hlti12);omega))) (isP_lt fun v17 hv17=>have kv17:=addL hv17;isP_ob ((by first | omega | (simp only[List.length_nil]at*;omega) | (have:=h.1.2.2.2.2 _ (getD_mem (d:=[]) hlti12);omega))) (isP_ix (by omega) (by omega) (isP_lt fun v18 hv18=>have kv18:=addL hv18;isP_ob ((by first | omega | (simp only[List.length_nil]at*;omega) | (have:=h.1.2.2.2.2 _ (getD_mem (d:=[]) hlti12);omega))) (isP_lt fun v19 hv19=>have kv19:=addL hv19;isP_ob ((by first | omega | (simp only[List.length_nil]at*;omega) | (have:=h.1.2.2.2.2 _ (getD_mem (d:=[]) hlti12);omega))) (isP_lt fun v20 hv20=>have kv20:=addL hv20;isP_ob ((by first | omega | (simp only[List.length_nil]at*;omega) | (have:=h.1.2.2.2.2 _ (getD_mem (d:=[]) hlti12);omega))) (isP_ret (by(try simp only[Sum.elim_inl,Sum.elim_inr])<;>(first | trivial | omega | (refine Nat.le_trans (addL' _ _ _ _) ?_;(first | omega | (simp only[List.length_nil]at*;omega) | simp)) | (refine Nat.le_trans (notesL' _ _ _ _) ?_;(first | omega | (simp only[List.length_nil]at*;omega) | simp)))))))))))))))))) (fun y4 hI=>have hI:y4.l.length<=2+10*m.Fields.length:=hI;isP_ret (by(try simp only[Sum.elim_inl,Sum.elim_inr])<;>(first | trivial | omega | (refine Nat.le_trans (addL' _ _ _ _) ?_;(first | omega | (simp only[List.length_nil]at*;omega) | simp)) | (refine Nat.le_trans (notesL' _ _ _ _) ?_;(first | omega | (simp only[List.length_nil]at*;omega) | simp)))))) (fun y11 hy11=>have hy11:y11.l.length<=10485762:=hy11;isP_ob ((by first | omega | (simp only[List.length_nil]at*;omega) | (have:=h.1.2.2.2.2 _ (getD_mem (d:=[]) hlti12);omega))) (isP_each (fun(i12:Nat) y13=>y13.l.length<=12582914+1*i12) (by first | omega | exact Nat.le_trans (addL' _ _ _ _) (by(first | omega | (simp only[List.length_nil]at*;omega) | simp)) | exact Nat.le_trans (spansL (by omega) rfl) (by omega)) (by omega) (fun i12 y13 hlti12 hIi12=>have hI:y13.l.length<=12582914+1*i12:=hIi12;isP_ix (by omega) (by omega) (isP_ob ((by first | omega | (simp only[List.length_nil]at*;omega) | (have:=h.1.2.2.2.2 _ (getD_mem (d:=[]) hlti12);omega))) (isP_ob ((by first | omega | (simp only[List.length_nil]at*;omega) | (have:=h.1.2.2.2.2 _ (getD_mem (d:=[]) hlti12);omega))) (isP_ret (by(try simp only[Sum.elim_inl,Sum.elim_inr])<;>(first | trivial | omega | (refine Nat.le_trans (addL' _ _ _ _) ?_;(first | omega | (simp only[List.length_nil]at*;omega) | simp)) | (refine Nat.le_trans (notesL' _ _ _ _) ?_;(first | omega | (simp only[List.length_nil]at*;omega) | simp)))))))) (fun y13 hI=>have hI:y13.l.length<=12582914+1*m.Gone.length:=hI;isP_ob ((by first | omega | (simp only[List.length_nil]at*;omega) | (have:=h.1.2.2.2.2 _ (getD_mem (d:=[]) hlti12);omega))) (isP_ob ((by first | omega | (simp only[List.length_nil]at*;omega) | (have:=h.1.2.2.2.2 _ (getD_mem (d:=[]) hlti12);omega))) (isP_lt fun v15 hv15=>have kv15:=notesL hv15;isP_ob ((by first | omega | (simp only[List.length_nil]at*;omega) | (have:=h.1.2.2.2.2 _ (getD_mem (d:=[]) hlti12);omega))) (isP_ret (by(try simp only[Sum.elim_inl,Sum.elim_inr])<;>(first | trivial | omega | (refine Nat.le_trans (addL' _ _ _ _) ?_;(first | omega | (simp only[List.length_nil]at*;omega) | simp)) | (refine Nat.le_trans (notesL' _ _ _ _) ?_;(first | omega | (simp only[List.length_nil]at*;omega) | simp))))))))))))
theorem c12msg_is (s:Schema)(m:Message)(fin:List Bool)(h:okM m/\s.Messages.length<=fin.length):Is (c12msg s m fin):=(c12msg_isP s m fin h).1
def e_c12msg:Ent Z:=entN Z [e_c12add,e_rvalid,e_r6has,e_c12needs,e_r9usable,e_r9part,e_c12res,e_c12card,e_c12typ,e_c12union,e_c12value,e_c12notes,e_c12spans] [jS 5 (shp (fun sl=>[.slot 8 false [none], .cells (pid (sl 7)) [none,some 188]]) (lCons (cInt .i64) (l1 cd_ref12_list))),jS 10 (shp (fun sl=>[.slot 11 false [none], .slot 10 false [none]]) (lCons (cInt .i64) (l1 cBool))),jS 26 (shp (fun sl=>[.slot 12 false [none], .cells (pid (sl 7)) [none,some 188]]) (lCons (cInt .i64) (l1 cd_ref12_list))),jS 100003 (shp (fun sl=>[.cells (pid (sl 7)) [none,some 188]]) (l1 cd_ref12_list)),jS 100004 (shp (fun sl=>[.cells (pid (sl 7)) [none,some 188]]) (l1 cd_ref12_list)),jS 100015 (shp (fun sl=>[.cells (pid (sl 7)) [none,some 188]]) (l1 cd_ref12_list)),jS 100016 (shp (fun sl=>[.cells (pid (sl 7)) [none,some 188]]) (l1 cd_ref12_list)),jS 100019 (shp (fun sl=>[.cells (pid (sl 7)) [none,some 188]]) (l1 cd_ref12_list)),jS 100024 (shp (fun sl=>[.cells (pid (sl 7)) [none,some 188]]) (l1 cd_ref12_list)),jS 800001 (shp (fun sl=>[.cells (pid (sl 7)) [none,some 188]]) (l1 cd_ref12_list))] (args (aCons (aAgg cd_Schema) (aCons (aAgg cd_Message) (a1 (aLf cd_Lbool))))) (argsI (n:=178) rfl) (shr [.slot 0 false [none]] (l1 cd_LProblem)) [] Tryz.func76 Tryz.ntmps76 (by kernel_rfl) 1 rfl (fun a=>c12msg (a.1) (a.2.1) (a.2.2)) (fun a=>some (okM (a.2.1)/\(a.1).Messages.length<=(a.2.2).length)) (fun a e _=>by kernel_rfl) (fun a=>c12msgP (a.1) (a.2.1) (a.2.2)) (fun a h=>⟨c12msg_is (a.1) (a.2.1) (a.2.2) h,rfl⟩)
def c12all (s:Schema):Pg (List Problem):=
 .cut
  (fun(y4:ref12_list)=>
   .ob (okS s)
    (.ob (okS s)
     (.ob (okS s)
      (.cut
       (fun(y5:ref12_list)=>
        .ob (s.Messages.length<=1048576)
         (.cut
          (fun(y9:ref12_list)=>
           .cut
            (fun(y13:ref12_list)=>
             .each true ixP s.Services d_Service
              (fun(i14:Int) (a16:Service) (y15:ref12_list)=>
               .ix i14 s.Services.length
                (.ob (okSv a16)
                 (.lt (c12svcP s a16) fun(v17:List Problem)=>
                  .ob (roomP (y15.l.length+v17.length) 32) (.ret (.inl (ref12_list.mk y15.def_ (y15.l++v17)))))))
              (fun(i14:Int) (y15:ref12_list)=> .ret y15.l) y13)
            (.each true ixP s.Enums d_Enum
             (fun(i10:Int) (a12:Enum) (y11:ref12_list)=>
              .ix i10 s.Enums.length
               (.ob (okE a12)
                (.lt (c12enumP a12) fun(v18:List Problem)=>
                 .ob (roomP (y11.l.length+v18.length) 32) (.ret (.inl (ref12_list.mk y11.def_ (y11.l++v18)))))))
             (fun(i10:Int) (y11:ref12_list)=> .ret (.inl y11)) y9))
          (.each true ixP s.Messages d_Message
           (fun(i6:Int) (a8:Message) (y7:ref12_list)=>
            .ix i6 s.Messages.length
             (.lt (c12finP s) fun(v19:List Bool)=>
              .ob (okM a8/\s.Messages.length<=v19.length)
               (.lt (c12msgP s a8 v19) fun(v20:List Problem)=>
                .ob (roomP (y7.l.length+v20.length) 32) (.ret (.inl (ref12_list.mk y7.def_ (y7.l++v20)))))))
           (fun(i6:Int) (y7:ref12_list)=> .ret (.inl y7)) y5)))
       (.lt (c12addP true (-1) 9 y4) fun(v21:ref12_list)=>
        .lt (c12namesP s 1) fun(v22:List Str)=>
         .lt (c12namesP s 2) fun(v23:List Str)=>
          .br (c12meetP v22 v23) (.ob (y4.l.length<=68719476736) (.ret (.inl v21)))
           (.lt (c12namesP s 3) fun(v24:List Str)=>
            .br (c12meetP v22 v24) (.ob (y4.l.length<=68719476736) (.ret (.inl v21)))
             (.ob (y4.l.length<=68719476736) (.ret (.inl (c12addP (c12meetP v23 v24) (-1) 9 y4))))))))))
  (.wh (5) default
   (fun(x3:Int×ref12_list)=>
    .br (decide (x3.fst<=3))
     (.ob (okS s)
      (.ob (x3.snd.l.length<=68719476736)
       (.lt (c12addP (decide (64 < (↑(c12namesP s x3.fst).length:Int))) (-1) 3 x3.snd) fun(v25:ref12_list)=>
        .ob (v25.l.length<=68719476736)
         (.ret (.inl (wrp .i64 (x3.fst+1),c12addP (!c12ascP (c12namesP s x3.fst)) (-1) 11 v25))))))
     (.ret (.inr (.inl x3.snd))))
   (1,ref12_list.mk [] []))
def c12allP (s:Schema):List Problem:=(c12all s).val
theorem c12all_is (s:Schema)(h:okS s):Is (c12all s):=
 by
 have hs:=h
 obtain⟨h1,h2,h3,h4,h5,h6⟩:=h
 refine IsP.is (Q:=fun _=>True) (isP_cut (fun y4=>y4.l.length<=10) ?_ (fun y4 hy4=>isP_ob hs (isP_ob hs (isP_ob hs (isP_cut (fun y5=>y5.l.length<=11) ?_ (fun y5 hy5=>isP_ob (by omega) (isP_cut (fun y9=>y9.l.length<=2600000000) ?_ (fun y9 hy9=>isP_cut (fun y13=>y13.l.length<=5200000000) ?_ (fun y13 hy13=> ?_)))))))))
 ·refine isP_wh (fun x=>1<=x.1/\x.1<=4/\x.2.l.length+2<=2*x.1.toNat) (fun x=>4 - x.1.toNat) ⟨Int.le_refl _,by decide,Nat.le_refl _⟩ (by decide) (fun x hx=>isP_brd (fun hl=>isP_ob hs (isP_ob (by omega) (isP_lt fun v25 hv25=>have k:=addL hv25;isP_ob (by omega) (isP_ret ?_)))) (fun _=>isP_ret ?_))
  ·have k2:=addL' (!c12ascP (c12namesP s x.1)) (-1) 11 v25
   have w:wrp .i64 (x.1+1)=x.1+1:=wrp_in (k:= .i64) (by simp only[InR];omega)
   simp only[Sum.elim_inl,w]
   omega
  ·show x.2.l.length<=10;omega
 ·have hy4:y4.l.length<=10:=hy4
  refine isP_lt fun v21 hv21=>have k:=addL hv21;isP_lt fun v22 hv22=>isP_lt fun v23 hv23=>isP_br (fun _=>isP_ob (by omega) (isP_ret ?_)) (fun _=>isP_lt fun v24 hv24=>isP_br (fun _=>isP_ob (by omega) (isP_ret ?_)) (fun _=>isP_ob (by omega) (isP_ret ?_)))
  ·show v21.l.length<=11;omega
  ·show v21.l.length<=11;omega
  ·exact Nat.le_trans (addL' _ _ _ _) (by omega)
 ·have hy5:y5.l.length<=11:=hy5
  have hf:(c12finP s).length=s.Messages.length:=(c12fin_isP s (by omega)).2
  refine isP_each (fun k y=>y.l.length<=11+16777216*k) (by omega) (by omega) (fun i6 y7 hlt hI=>isP_ix (by omega) (by omega) (isP_lt fun v19 hv19=> ?_)) (fun y7 hI=>isP_ret (by have hI:y7.l.length<=11+16777216*s.Messages.length:=hI;show y7.l.length<=2600000000;omega))
  have hI:y7.l.length<=11+16777216*i6:=hI
  have hm:=h4 _ (getD_mem (d:=d_Message) hlt)
  have hl:s.Messages.length<=v19.length:=by rw[hv19,hf];exact Nat.le_refl _
  refine isP_ob ⟨hm,hl⟩ (isP_lt fun v20 hv20=> ?_)
  have k:v20.length<=16777216:=by rw[hv20];exact(c12msg_isP s _ v19 ⟨hm,hl⟩).2
  exact isP_ob (room_of (by omega) (by omega)) (isP_ret (by show(y7.l++v20).length<=11+16777216*(i6+1);rw[List.length_append];omega))
 ·have hy9:y9.l.length<=2600000000:=hy9
  refine isP_each (fun k y=>y.l.length<=2600000000+16777216*k) (by omega) (by omega) (fun i10 y11 hlt hI=>isP_ix (by omega) (by omega) ?_) (fun y11 hI=>isP_ret (by have hI:y11.l.length<=2600000000+16777216*s.Enums.length:=hI;show y11.l.length<=5200000000;omega))
  have hI:y11.l.length<=2600000000+16777216*i10:=hI
  have hm:=h5 _ (getD_mem (d:=d_Enum) hlt)
  refine isP_ob hm (isP_lt fun v18 hv18=> ?_)
  have k:v18.length<=16777216:=by rw[hv18];exact(c12enum_isP _ hm).2
  exact isP_ob (room_of (by omega) (by omega)) (isP_ret (by show(y11.l++v18).length<=2600000000+16777216*(i10+1);rw[List.length_append];omega))
 ·have hy13:y13.l.length<=5200000000:=hy13
  refine isP_each (fun k y=>y.l.length<=5200000000+16777216*k) (by omega) (by omega) (fun i14 y15 hlt hI=>isP_ix (by omega) (by omega) ?_) (fun y15 hI=>isP_ret trivial)
  have hI:y15.l.length<=5200000000+16777216*i14:=hI
  have hm:=h6 _ (getD_mem (d:=d_Service) hlt)
  refine isP_ob hm (isP_lt fun v17 hv17=> ?_)
  have k:v17.length<=16777216:=by rw[hv17];exact(c12svc_isP s _ hm).2
  exact isP_ob (room_of (by omega) (by omega)) (isP_ret (by show(y15.l++v17).length<=5200000000+16777216*(i14+1);rw[List.length_append];omega))
def e_c12all:Ent Z:=entN Z [e_c12names,e_c12add,e_c12asc,e_c12meet,e_c12fin,e_c12msg,e_c12enum,e_c12svc] [jS 3 (shp (fun sl=>[.slot 4 false [none], .cells (pid (sl 3)) [none,some 188]]) (lCons (cInt .i64) (l1 cd_ref12_list))),jS 14 (shp (fun sl=>[.slot 10 false [none], .cells (pid (sl 3)) [none,some 188]]) (lCons (cInt .i64) (l1 cd_ref12_list))),jS 18 (shp (fun sl=>[.slot 11 false [none], .cells (pid (sl 3)) [none,some 188]]) (lCons (cInt .i64) (l1 cd_ref12_list))),jS 22 (shp (fun sl=>[.slot 12 false [none], .cells (pid (sl 3)) [none,some 188]]) (lCons (cInt .i64) (l1 cd_ref12_list))),jS 100008 (shp (fun sl=>[.cells (pid (sl 3)) [none,some 188]]) (l1 cd_ref12_list)),jS 100012 (shp (fun sl=>[.cells (pid (sl 3)) [none,some 188]]) (l1 cd_ref12_list)),jS 100017 (shp (fun sl=>[.cells (pid (sl 3)) [none,some 188]]) (l1 cd_ref12_list)),jS 100021 (shp (fun sl=>[.cells (pid (sl 3)) [none,some 188]]) (l1 cd_ref12_list)),jS 800001 (shp (fun sl=>[.cells (pid (sl 3)) [none,some 188]]) (l1 cd_ref12_list))] (args (a1 (aAgg cd_Schema))) (argsI (n:=107) rfl) (shr [.slot 0 false [none]] (l1 cd_LProblem)) [] Tryz.func35 Tryz.ntmps35 (by kernel_rfl) 1 rfl (fun a=>c12all a) (fun a=>some (okS a)) (fun a e _=>by kernel_rfl) (fun a=>c12allP a) (fun a h=>⟨c12all_is a h,rfl⟩)
def c12valid (s:Schema):Pg Bool:=
 .ob (okS s) (.ret ((↑(c12allP s).length:Int)==0))
def c12validP (s:Schema):Bool:=(c12valid s).val
theorem c12valid_is (s:Schema)(h:okS s):Is (c12valid s):=
 is_ob (h) (is_ret)
def e_c12valid:Ent Z:=entN Z [e_c12all] [] (args (a1 (aAgg cd_Schema))) (argsI (n:=7) rfl) (shr [.slot 0 false [none]] (l1 cBool)) [] Tryz.func16 Tryz.ntmps16 (by kernel_rfl) 1 rfl (fun a=>c12valid a) (fun a=>some (okS a)) (fun a e _=>by kernel_rfl) (fun a=>c12validP a) (fun a h=>⟨c12valid_is a h,rfl⟩)
end
end Go.Proofs.YtiibcbmenoaigaaGreatDoor
