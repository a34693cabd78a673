/- Server: messages that have finite values. -/
import Derived.Test.YtiibcbmenoaigaaGreatDoorFa
namespace Go.Proofs.YtiibcbmenoaigaaGreatDoor
noncomputable section
open Go.RowKit Go.Vc
set_option linter.unusedVariables false
set_option linter.unusedSimpArgs false
set_option maxRecDepth 100000
def finC (n:Str)(s:Schema)(out:List (Str×Bool)):Pg Bool:=
 .br (cMessageP s n).snd (.ret !kvGet kv_Mstr_bool.z out n) (.ret false)
def finCP (n:Str)(s:Schema)(out:List (Str×Bool)):Bool:=(finC n s out).val
theorem finC_is (n:Str)(s:Schema)(out:List (Str×Bool)):Is (finC n s out):=
 is_br (fun _=>is_ret) (fun _=>is_ret)
def e_finC:Ent Z:=entN Z [e_cMessage] [] (argsB (aCons (aLf cStr) (aCons (aPtr 0) (a1 (aPtr 1)))) (bCons (bCells cd_Schema) (bCons (bPtr 2) (b1 (bMap D.Mstr_bool prj_Mstr_bool))))) (argsBI (n:=20) rfl) (shr [.slot 0 false [none]] (l1 cBool)) [0,1,2] Tryz.func106 Tryz.ntmps106 (by kernel_rfl) 1 rfl (fun a=>finC (a.1.1) (a.2.1) (a.2.2.2)) (fun a=>none) (fun a e _=>by kernel_rfl) (fun a=>finCP (a.1.1) (a.2.1) (a.2.2.2)) (fun a h=>⟨finC_is (a.1.1) (a.2.1) (a.2.2.2),rfl⟩)
def finA0 (l:List Str)(s:Schema)(out:List (Str×Bool)):Pg Int:=
 .as (l.length<=9223372036854775807)
  (.each false ixI l [] (fun(i1:Int) (a3:Str) (y2:Unit)=> .ix i1 l.length (.br (finCP a3 s out) (.ret (.inr i1)) (.ret (.inl ()))))
   (fun(i1:Int) (y2:Unit)=> .ret (-1)) ())
theorem finA0_is (l:List Str)(s:Schema)(out:List (Str×Bool)):Is (finA0 l s out):=
 is_as fun _=>is_each (.inr (by omega)) (fun i1 y2 _ _=>is_ix (by omega) (by omega) (is_br (fun _=>is_ret) (fun _=>is_ret))) (fun y2 _=>is_ret)
def e_finA0:Ent Z:=entN Z [e_finC] [jS 2 (shp (fun sl=>[.slot 8 false [none]]) (l1 (cInt .i64)))] (argsB (aCons (aLf cd_Lstr) (a1 (aFn 106 [0,1]))) (bCons (bCells cd_Schema) (bCons (bPtr 2) (b1 (bMap D.Mstr_bool prj_Mstr_bool))))) (argsBI (n:=19) rfl) (shr [.slot 0 false [none]] (l1 (cInt .i64))) [0,1,2] Tryz.func162 Tryz.ntmps162 (by kernel_rfl) 1 rfl (fun a=>finA0 (a.1.1) (a.2.1) (a.2.2.2)) (fun a=>none) (fun a e _=>by kernel_rfl) (fun a=>ixOf (fun(x:Str)=>finCP x (a.2.1) (a.2.2.2)) (a.1.1)) (fun a h=>⟨finA0_is (a.1.1) (a.2.1) (a.2.2.2),(fun(l:List Str) s out=>forE_ix (fun(x:Str)=>finCP x s out) l 0) (a.1.1) (a.2.1) (a.2.2.2)⟩)
def finA (l:List Str)(s:Schema)(out:List (Str×Bool)):Pg Bool:=
 .lt (ixOf (fun(x:Str)=>finCP x s out) l) fun(v1:Int)=> .ret (decide (0<=v1))
theorem finA_is (l:List Str)(s:Schema)(out:List (Str×Bool)):Is (finA l s out):=
 is_lt fun v1 hv1=>is_ret
def e_finA:Ent Z:=entN Z [e_finC,e_wdI,e_finA0] [] (argsB (aCons (aLf cd_Lstr) (a1 (aFn 106 [0,1]))) (bCons (bCells cd_Schema) (bCons (bPtr 2) (b1 (bMap D.Mstr_bool prj_Mstr_bool))))) (argsBI (n:=9) rfl) (shr [.slot 0 false [none]] (l1 cBool)) [0,1,2] Tryz.func101 Tryz.ntmps101 (by kernel_rfl) 1 rfl (fun a=>finA (a.1.1) (a.2.1) (a.2.2.2)) (fun a=>none) (fun a e _=>by kernel_rfl) (fun a=>(a.1.1).any fun(x:Str)=>finCP x (a.2.1) (a.2.2.2)) (fun a h=>⟨finA_is (a.1.1) (a.2.1) (a.2.2.2),(fun(l:List Str) s out=>ixOf_any _ l) (a.1.1) (a.2.1) (a.2.2.2)⟩)
theorem cMessage_as (s:Schema)(name:Str):cMessageP s name=bif decide (ixOf (fun(x:Message)=>x.Name==name) s.Messages < 0)then(Message.mk [] [] [] [] [],false)else(s.Messages.getD (ixOf (fun(x:Message)=>x.Name==name) s.Messages).toNat d_Message,true):=by
 unfold cMessageP cMessage
 simp only[val_lt,val_br,val_ix,val_ret]
 rfl
theorem cMessage_fields (s:Schema)(name:Str)(h:∀m∈s.Messages,m.Fields.length<=1048576):(cMessageP s name).fst.Fields.length<=1048576:=by
 rw[cMessage_as]
 have hl:=ixOf_lt (fun(x:Message)=>x.Name==name) s.Messages
 by_cases h0:ixOf (fun(x:Message)=>x.Name==name) s.Messages < 0
 ·rw[decide_eq_true h0]
  exact Nat.zero_le _
 ·rw[decide_eq_false h0]
  exact h _ (getD_mem (by omega))
def cFinite (s:Schema):Pg (List (Str×Bool)):=
 .lt (wrp .i64 ((↑s.Messages.length:Int)+1)) fun(v6:Int)=>
  .cnt ixP 0 v6
   (fun(i1:Int) (y2:List (Str×Bool))=>
    .as (s.Messages.length<=9223372036854775807)
     (.each false ixP s.Messages d_Message
      (fun(i3:Int) (a5:Message) (y4:List (Str×Bool))=>
       .ix i3 s.Messages.length
        (.lt (cMessageP s a5.Name) fun(v7:Message×Bool)=>
         .ob (v7.fst.Fields.length<=1048576)
          (.br (!(cNeedsP v7.fst).any fun(x:Str)=>finCP x s y4) (.ret (.inl (kvPut y4 a5.Name true))) (.ret (.inl y4)))))
      (fun(i3:Int) (y4:List (Str×Bool))=> .ret (.inl y4)) y2))
   (fun(i1:Int) (y2:List (Str×Bool))=> .ret y2) []
def cFiniteP (s:Schema):List (Str×Bool):=(cFinite s).val
theorem cFinite_is (s:Schema)(h:s.Messages.length<=1048576/\∀m∈s.Messages,m.Fields.length<=1048576):Is (cFinite s):=
 is_ltw fun v6 hv6 _=>is_cnt (by omega) (by omega) (fun i1 y2 _ _=>is_as fun _=>is_each (.inr (by omega)) (fun i3 y4 _ _=>is_ix (by omega) (by omega) (is_lt fun v7 hv7=>is_ob (by rw[hv7];exact cMessage_fields s _ h.2) (is_br (fun _=>is_ret) (fun _=>is_ret)))) (fun y4 _=>is_ret)) (fun i1 y2 _ _=>is_ret)
def e_cFinite:Ent Z:=entN Z [e_wdA,e_finA,e_cMessage,e_cNeeds,e_finC] [jS 3 (shp (fun sl=>[.slot 14 false [none], .mapb (pid (sl 9))]) (lCons (cInt .i64) (l1 cd_Mstr_bool))),jS 5 (shp (fun sl=>[.slot 19 false [none], .mapb (pid (sl 9))]) (lCons (cInt .i64) (l1 cd_Mstr_bool)))] (args (a1 (aAgg cd_Schema))) (argsI (n:=42) rfl) (shr [.slot 0 false [none]] (l1 cd_Mstr_bool)) [] Tryz.func54 Tryz.ntmps54 (by kernel_rfl) 1 rfl (fun a=>cFinite a) (fun a=>some (a.Messages.length<=1048576/\∀m∈a.Messages,m.Fields.length<=1048576)) (fun a e _=>by kernel_rfl) (fun a=>cFiniteP a) (fun a h=>⟨cFinite_is a h,rfl⟩)
def cycC (x:Str)(s:Schema)(fin:List (Str×Bool)):Pg Bool:=
 .br (cMessageP s x).snd (.ret !kvGet kv_Mstr_bool.z fin x) (.ret false)
def cycCP (x:Str)(s:Schema)(fin:List (Str×Bool)):Bool:=(cycC x s fin).val
theorem cycC_is (x:Str)(s:Schema)(fin:List (Str×Bool)):Is (cycC x s fin):=
 is_br (fun _=>is_ret) (fun _=>is_ret)
def e_cycC:Ent Z:=entN Z [e_cMessage] [] (argsB (aCons (aLf cStr) (aCons (aPtr 0) (a1 (aPtr 1)))) (bCons (bCells cd_Schema) (b1 (bCells cd_Mstr_bool)))) (argsBI (n:=20) rfl) (shr [.slot 0 false [none]] (l1 cBool)) [0,1] Tryz.func173 Tryz.ntmps173 (by kernel_rfl) 1 rfl (fun a=>cycC (a.1.1) (a.2.1) (a.2.2)) (fun a=>none) (fun a e _=>by kernel_rfl) (fun a=>cycCP (a.1.1) (a.2.1) (a.2.2)) (fun a h=>⟨cycC_is (a.1.1) (a.2.1) (a.2.2),rfl⟩)
def cycI (l:List Str)(s:Schema)(fin:List (Str×Bool)):Pg Int:=
 .as (l.length<=9223372036854775807)
  (.each false ixI l [] (fun(i1:Int) (a3:Str) (y2:Unit)=> .ix i1 l.length (.br (cycCP a3 s fin) (.ret (.inr i1)) (.ret (.inl ()))))
   (fun(i1:Int) (y2:Unit)=> .ret (-1)) ())
theorem cycI_is (l:List Str)(s:Schema)(fin:List (Str×Bool)):Is (cycI l s fin):=
 is_as fun _=>is_each (.inr (by omega)) (fun i1 y2 _ _=>is_ix (by omega) (by omega) (is_br (fun _=>is_ret) (fun _=>is_ret))) (fun y2 _=>is_ret)
def e_cycI:Ent Z:=entN Z [e_cycC] [jS 2 (shp (fun sl=>[.slot 8 false [none]]) (l1 (cInt .i64)))] (argsB (aCons (aLf cd_Lstr) (a1 (aFn 173 [0,1]))) (bCons (bCells cd_Schema) (b1 (bCells cd_Mstr_bool)))) (argsBI (n:=19) rfl) (shr [.slot 0 false [none]] (l1 (cInt .i64))) [0,1] Tryz.func162 Tryz.ntmps162 (by kernel_rfl) 1 rfl (fun a=>cycI (a.1.1) (a.2.1) (a.2.2)) (fun a=>none) (fun a e _=>by kernel_rfl) (fun a=>ixOf (fun(x:Str)=>(cycCP x (a.2.1) (a.2.2))) (a.1.1)) (fun a h=>⟨cycI_is (a.1.1) (a.2.1) (a.2.2),(fun(l:List Str) s fin=>forE_ix (fun(x:Str)=>(cycCP x s fin)) l 0) (a.1.1) (a.2.1) (a.2.2)⟩)
def cycA (l:List Str)(s:Schema)(fin:List (Str×Bool)):Pg Bool:=
 .lt (ixOf (fun(x:Str)=>cycCP x s fin) l) fun(v1:Int)=> .ret (decide (0<=v1))
theorem cycA_is (l:List Str)(s:Schema)(fin:List (Str×Bool)):Is (cycA l s fin):=
 is_lt fun v1 hv1=>is_ret
def e_cycA:Ent Z:=entN Z [e_wdI,e_finA0,e_cycI,e_cycC] [] (argsB (aCons (aLf cd_Lstr) (a1 (aFn 173 [0,1]))) (bCons (bCells cd_Schema) (b1 (bCells cd_Mstr_bool)))) (argsBI (n:=9) rfl) (shr [.slot 0 false [none]] (l1 cBool)) [0,1] Tryz.func101 Tryz.ntmps101 (by kernel_rfl) 1 rfl (fun a=>cycA (a.1.1) (a.2.1) (a.2.2)) (fun a=>none) (fun a e _=>by kernel_rfl) (fun a=>(a.1.1).any fun(x:Str)=>(cycCP x (a.2.1) (a.2.2))) (fun a h=>⟨cycA_is (a.1.1) (a.2.1) (a.2.2),(fun(l:List Str) s fin=>ixOf_any _ l) (a.1.1) (a.2.1) (a.2.2)⟩)
def cCyclic (s:Schema)(m:Message)(fin:List (Str×Bool)):Pg Bool:=
 .ob (m.Fields.length<=1048576) (.ret ((cNeedsP m).any fun(x:Str)=>cycCP x s fin))
def cCyclicP (s:Schema)(m:Message)(fin:List (Str×Bool)):Bool:=(cCyclic s m fin).val
theorem cCyclic_is (s:Schema)(m:Message)(fin:List (Str×Bool))(h:m.Fields.length<=1048576):Is (cCyclic s m fin):=
 is_ob (by(try subst_vars);(try simp only[List.length_append,List.length_cons,List.length_nil]);omega) (is_ret)
def e_cCyclic:Ent Z:=entN Z [e_wdA,e_finA,e_cycA,e_cNeeds,e_cycC] [] (args (aCons (aAgg cd_Schema) (aCons (aAgg cd_Message) (a1 (aLf cd_Mstr_bool))))) (argsI (n:=11) rfl) (shr [.slot 0 false [none]] (l1 cBool)) [] Tryz.func111 Tryz.ntmps111 (by kernel_rfl) 1 rfl (fun a=>cCyclic (a.1) (a.2.1) (a.2.2)) (fun a=>some ((a.2.1).Fields.length<=1048576)) (fun a e _=>by kernel_rfl) (fun a=>cCyclicP (a.1) (a.2.1) (a.2.2)) (fun a h=>⟨cCyclic_is (a.1) (a.2.1) (a.2.2) h,rfl⟩)
end
end Go.Proofs.YtiibcbmenoaigaaGreatDoor
