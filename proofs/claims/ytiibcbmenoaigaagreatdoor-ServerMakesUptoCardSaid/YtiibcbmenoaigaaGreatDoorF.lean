/- Server: what check asks of lists. -/
import Derived.Test.YtiibcbmenoaigaaGreatDoorE
namespace Go.Proofs.YtiibcbmenoaigaaGreatDoor
noncomputable section
open Go.RowKit Go.Vc
set_option linter.unusedVariables false
set_option linter.unusedSimpArgs false
set_option maxRecDepth 100000
theorem ixOf_any {A:Type}(p:A->Bool)(l:List A):decide (0<=ixOf p l)=l.any p:=by
 rcases ixOf_spec p l with⟨h,k⟩ | ⟨u,a,v,rfl,ha,hu,h⟩
 ·rw[h,decide_eq_false (by omega)]
  exact(List.any_eq_false.2 fun x hx=>by rw[k x hx];simp).symm
 ·rw[h,decide_eq_true (by omega)]
  exact(List.any_eq_true.2 ⟨a,by simp,ha⟩).symm
def isWord (s:Str):Pg Bool:=
 .cut
  (fun(y1:Bool)=>
   .br y1 (.ret true)
    (.br (s==[105,109,112,111,114,116])
     (.br (s==[105,109,112,111,114,116]) (.ret true) (.ret false))
     (.br (s==[115,112,97,99,101])
      (.br (s==[115,112,97,99,101]) (.ret true) (.ret false))
      (.br (s==[114,112,99]) (.br (s==[114,112,99]) (.ret true) (.ret false))
       (.br (s==[115,116,114,101,97,109])
        (.br (s==[115,116,114,101,97,109]) (.ret true) (.ret false))
        (.br (s==[114,101,116,117,114,110,115])
         (.br (s==[114,101,116,117,114,110,115]) (.ret true) (.ret false))
         (.br (s==[111,112,101,110])
          (.br (s==[111,112,101,110]) (.ret true) (.ret false))
          (.br (s==[116,114,117,101])
           (.br (s==[116,114,117,101]) (.ret true) (.ret false))
           (.br (s==[102,97,108,115,101])
            (.br (s==[102,97,108,115,101]) (.ret true) (.ret false))
            (.br (s==[110,97,110]) (.br (s==[110,97,110]) (.ret true) (.ret false))
             (.br (s==[105,110,102]) (.ret true) (.ret false))))))))))))
  (.br (s==[109,101,115,115,97,103,101])
   (.ret (.inl (s==[109,101,115,115,97,103,101])))
   (.br (s==[101,110,117,109]) (.ret (.inl (s==[101,110,117,109])))
    (.br (s==[115,101,114,118,105,99,101])
     (.ret (.inl (s==[115,101,114,118,105,99,101])))
     (.br (s==[117,110,105,111,110])
      (.ret (.inl (s==[117,110,105,111,110])))
      (.br (s==[109,97,112]) (.ret (.inl (s==[109,97,112])))
       (.br (s==[108,105,115,116]) (.ret (.inl (s==[108,105,115,116])))
        (.br (s==[114,101,113,117,105,114,101,100])
         (.ret (.inl (s==[114,101,113,117,105,114,101,100])))
         (.br (s==[111,112,116,105,111,110,97,108])
          (.ret (.inl (s==[111,112,116,105,111,110,97,108])))
          (.br (s==[112,108,97,105,110])
           (.ret (.inl (s==[112,108,97,105,110])))
           (.br (s==[100,101,102,97,117,108,116])
            (.ret (.inl (s==[100,101,102,97,117,108,116])))
            (.ret (.inl (s==[114,101,115,101,114,118,101,100])))))))))))))
def isWordP (s:Str):Bool:=(isWord s).val
theorem isWord_is (s:Str):Is (isWord s):=
 is_cut (is_br (fun _=>is_ret) (fun _=>is_br (fun _=>is_ret) (fun _=>is_br (fun _=>is_ret) (fun _=>is_br (fun _=>is_ret) (fun _=>is_br (fun _=>is_ret) (fun _=>is_br (fun _=>is_ret) (fun _=>is_br (fun _=>is_ret) (fun _=>is_br (fun _=>is_ret) (fun _=>is_br (fun _=>is_ret) (fun _=>is_br (fun _=>is_ret) (fun _=>is_ret))))))))))) (fun y1 hy1=>is_br (fun _=>is_ret) (fun _=>is_br (fun _=>is_br (fun _=>is_ret) (fun _=>is_ret)) (fun _=>is_br (fun _=>is_br (fun _=>is_ret) (fun _=>is_ret)) (fun _=>is_br (fun _=>is_br (fun _=>is_ret) (fun _=>is_ret)) (fun _=>is_br (fun _=>is_br (fun _=>is_ret) (fun _=>is_ret)) (fun _=>is_br (fun _=>is_br (fun _=>is_ret) (fun _=>is_ret)) (fun _=>is_br (fun _=>is_br (fun _=>is_ret) (fun _=>is_ret)) (fun _=>is_br (fun _=>is_br (fun _=>is_ret) (fun _=>is_ret)) (fun _=>is_br (fun _=>is_br (fun _=>is_ret) (fun _=>is_ret)) (fun _=>is_br (fun _=>is_br (fun _=>is_ret) (fun _=>is_ret)) (fun _=>is_br (fun _=>is_ret) (fun _=>is_ret))))))))))))
def e_isWord:Ent Z:=entN Z [] [jS 100013 (shp (fun sl=>[.slot 4 false [none]]) (l1 cBool))] (args (a1 (aLf cStr))) (argsI (n:=27) rfl) (shr [.slot 0 false [none]] (l1 cBool)) [] Tryz.func165 Tryz.ntmps165 (by kernel_rfl) 1 rfl (fun a=>isWord a) (fun a=>none) (fun a e _=>by kernel_rfl) (fun a=>isWordP a) (fun a h=>⟨isWord_is a,rfl⟩)
def wdI (l:List Str):Pg Int:=
 .as (l.length<=9223372036854775807)
  (.each false ixI l [] (fun(i1:Int) (a3:Str) (y2:Unit)=> .ix i1 l.length (.br (isWordP a3) (.ret (.inr i1)) (.ret (.inl ()))))
   (fun(i1:Int) (y2:Unit)=> .ret (-1)) ())
theorem wdI_is (l:List Str):Is (wdI l):=
 is_as fun _=>is_each (.inr (by omega)) (fun i1 y2 _ _=>is_ix (by omega) (by omega) (is_br (fun _=>is_ret) (fun _=>is_ret))) (fun y2 _=>is_ret)
def e_wdI:Ent Z:=entN Z [e_isWord] [jS 2 (shp (fun sl=>[.slot 8 false [none]]) (l1 (cInt .i64)))] (args (aCons (aLf cd_Lstr) (a1 (aFn 165 [])))) (argsI (n:=19) rfl) (shr [.slot 0 false [none]] (l1 (cInt .i64))) [] Tryz.func162 Tryz.ntmps162 (by kernel_rfl) 1 rfl (fun a=>wdI (a.1)) (fun a=>none) (fun a e _=>by kernel_rfl) (fun a=>ixOf (fun(x:Str)=>isWordP x) (a.1)) (fun a h=>⟨wdI_is (a.1),(fun(l:List Str)=>forE_ix (fun(x:Str)=>isWordP x) l 0) (a.1)⟩)
def wdA (l:List Str):Pg Bool:=
 .lt (ixOf (fun(x:Str)=>isWordP x) l) fun(v1:Int)=> .ret (decide (0<=v1))
theorem wdA_is (l:List Str):Is (wdA l):=
 is_lt fun v1 hv1=>is_ret
def e_wdA:Ent Z:=entN Z [e_wdI,e_isWord] [] (args (aCons (aLf cd_Lstr) (a1 (aFn 165 [])))) (argsI (n:=9) rfl) (shr [.slot 0 false [none]] (l1 cBool)) [] Tryz.func101 Tryz.ntmps101 (by kernel_rfl) 1 rfl (fun a=>wdA (a.1)) (fun a=>none) (fun a e _=>by kernel_rfl) (fun a=>(a.1).any fun(x:Str)=>isWordP x) (fun a h=>⟨wdA_is (a.1),(fun(l:List Str)=>ixOf_any _ l) (a.1)⟩)
def uPart (s:Str):Pg Bool:=
 .br (ipartP s) (.ret !isWordP s) (.ret false)
def uPartP (s:Str):Bool:=(uPart s).val
theorem uPart_is (s:Str):Is (uPart s):=
 is_br (fun _=>is_ret) (fun _=>is_ret)
def e_uPart:Ent Z:=entN Z [e_ipart,e_isWord] [] (args (a1 (aLf cStr))) (argsI (n:=10) rfl) (shr [.slot 0 false [none]] (l1 cBool)) [] Tryz.func112 Tryz.ntmps112 (by kernel_rfl) 1 rfl (fun a=>uPart a) (fun a=>none) (fun a e _=>by kernel_rfl) (fun a=>uPartP a) (fun a h=>⟨uPart_is a,rfl⟩)
def uName (s:Str):Pg Bool:=
 .ob (List.length s<=4294967296)
  (.br (ifullP s) (.ob ([46]=dotS/\List.length s<=4294967296) (.ret !(partsB 46 s).any fun(x:Str)=>isWordP x)) (.ret false))
def uNameP (s:Str):Bool:=(uName s).val
theorem uName_is (s:Str)(h:s.length<=4294967296):Is (uName s):=
 is_ob (by(try subst_vars);(try simp only[List.length_append,List.length_cons,List.length_nil]);omega) (is_br (fun _=>is_ob ((⟨rfl,h⟩)) (is_ret)) (fun _=>is_ret))
def e_uName:Ent Z:=entN Z [e_ifull,e_ssplit,e_wdA,e_isWord] [] (args (a1 (aLf cStr))) (argsI (n:=11) rfl) (shr [.slot 0 false [none]] (l1 cBool)) [] Tryz.func107 Tryz.ntmps107 (by kernel_rfl) 1 rfl (fun a=>uName a) (fun a=>some (a.length<=4294967296)) (fun a e _=>by kernel_rfl) (fun a=>uNameP a) (fun a h=>⟨uName_is a h,rfl⟩)
def ixS (l:List Str)(v:Str):Pg Int:=
 .as (l.length<=9223372036854775807)
  (.each false ixI l [] (fun(i1:Int) (a3:Str) (y2:Unit)=> .ix i1 l.length (.br (v==a3) (.ret (.inr i1)) (.ret (.inl ()))))
   (fun(i1:Int) (y2:Unit)=> .ret (-1)) ())
theorem ixS_is (l:List Str)(v:Str):Is (ixS l v):=
 is_as fun _=>is_each (.inr (by omega)) (fun i1 y2 _ _=>is_ix (by omega) (by omega) (is_br (fun _=>is_ret) (fun _=>is_ret))) (fun y2 _=>is_ret)
def e_ixS:Ent Z:=entN Z [] [jS 2 (shp (fun sl=>[.slot 8 false [none]]) (l1 (cInt .i64)))] (args (aCons (aLf cd_Lstr) (a1 (aLf cStr)))) (argsI (n:=19) rfl) (shr [.slot 0 false [none]] (l1 (cInt .i64))) [] Tryz.func145 Tryz.ntmps145 (by kernel_rfl) 1 rfl (fun a=>ixS (a.1) (a.2)) (fun a=>none) (fun a e _=>by kernel_rfl) (fun a=>ixOf (fun(x:Str)=>(a.2)==x) (a.1)) (fun a h=>⟨ixS_is (a.1) (a.2),(fun(l:List Str) (v:Str)=>forE_ix (fun(x:Str)=>v==x) l 0) (a.1) (a.2)⟩)
def coS (l:List Str)(v:Str):Pg Bool:=
 .lt (ixOf (fun(x:Str)=>v==x) l) fun(v1:Int)=> .ret (decide (0<=v1))
theorem coS_is (l:List Str)(v:Str):Is (coS l v):=
 is_lt fun v1 hv1=>is_ret
def e_coS:Ent Z:=entN Z [e_ixS] [] (args (aCons (aLf cd_Lstr) (a1 (aLf cStr)))) (argsI (n:=9) rfl) (shr [.slot 0 false [none]] (l1 cBool)) [] Tryz.func103 Tryz.ntmps103 (by kernel_rfl) 1 rfl (fun a=>coS (a.1) (a.2)) (fun a=>none) (fun a e _=>by kernel_rfl) (fun a=>(a.1).any fun(x:Str)=>(a.2)==x) (fun a h=>⟨coS_is (a.1) (a.2),(fun(l:List Str) (v:Str)=>ixOf_any (fun(x:Str)=>v==x) l) (a.1) (a.2)⟩)
def msgC (x:Message)(name:Str):Pg Bool:=
 .ret (x.Name==name)
def msgCP (x:Message)(name:Str):Bool:=(msgC x name).val
theorem msgC_is (x:Message)(name:Str):Is (msgC x name):=
 is_ret
def e_msgC:Ent Z:=entN Z [] [] (argsB (aCons (aAgg cd_Message) (a1 (aPtr 0))) (b1 (bCells cStr))) (argsBI (n:=8) rfl) (shr [.slot 0 false [none]] (l1 cBool)) [0] Tryz.func164 Tryz.ntmps164 (by kernel_rfl) 1 rfl (fun a=>msgC (a.1.1) (a.2)) (fun a=>none) (fun a e _=>by kernel_rfl) (fun a=>msgCP (a.1.1) (a.2)) (fun a h=>⟨msgC_is (a.1.1) (a.2),rfl⟩)
def msgI (l:List Message)(name:Str):Pg Int:=
 .as (l.length<=9223372036854775807)
  (.each false ixI l d_Message (fun(i1:Int) (a3:Message) (y2:Unit)=> .ix i1 l.length (.br (msgCP a3 name) (.ret (.inr i1)) (.ret (.inl ()))))
   (fun(i1:Int) (y2:Unit)=> .ret (-1)) ())
theorem msgI_is (l:List Message)(name:Str):Is (msgI l name):=
 is_as fun _=>is_each (.inr (by omega)) (fun i1 y2 _ _=>is_ix (by omega) (by omega) (is_br (fun _=>is_ret) (fun _=>is_ret))) (fun y2 _=>is_ret)
def e_msgI:Ent Z:=entN Z [e_msgC] [jS 2 (shp (fun sl=>[.slot 8 false [none]]) (l1 (cInt .i64)))] (argsB (aCons (aLf cd_LMessage) (a1 (aFn 164 [0]))) (b1 (bCells cStr))) (argsBI (n:=19) rfl) (shr [.slot 0 false [none]] (l1 (cInt .i64))) [0] Tryz.func163 Tryz.ntmps163 (by kernel_rfl) 1 rfl (fun a=>msgI (a.1.1) (a.2)) (fun a=>none) (fun a e _=>by kernel_rfl) (fun a=>ixOf (fun(x:Message)=>(msgCP x (a.2))) (a.1.1)) (fun a h=>⟨msgI_is (a.1.1) (a.2),(fun(l:List Message) name=>forE_ix (fun(x:Message)=>(msgCP x name)) l 0) (a.1.1) (a.2)⟩)
def cMessage (s:Schema)(name:Str):Pg (Message×Bool):=
 .lt (ixOf (fun(x:Message)=>msgCP x name) s.Messages) fun(v1:Int)=>
  .br (decide (v1 < 0)) (.ret (Message.mk [] [] [] [] [],false)) (.ix v1 s.Messages.length (.ret (s.Messages.getD v1.toNat d_Message,true)))
def cMessageP (s:Schema)(name:Str):Message×Bool:=(cMessage s name).val
theorem cMessage_is (s:Schema)(name:Str):Is (cMessage s name):=
 is_lt fun v1 hv1=>is_brd (fun _=>is_ret) (fun _=>is_ix (by omega) (by have:=ixOf_lt (fun(x:Message)=>msgCP x name) s.Messages;rw[hv1];exact this.1) (is_ret))
def e_cMessage:Ent Z:=entN Z [e_msgI,e_msgC] [] (args (aCons (aAgg cd_Schema) (a1 (aLf cStr)))) (argsI (n:=19) rfl) (shr [.slot 0 true [none,none,none,none,none], .slot 1 false [none]] (lCons cd_Message (l1 cBool))) [] Tryz.func104 Tryz.ntmps104 (by kernel_rfl) 2 rfl (fun a=>cMessage (a.1) (a.2)) (fun a=>none) (fun a e _=>by kernel_rfl) (fun a=>cMessageP (a.1) (a.2)) (fun a h=>⟨cMessage_is (a.1) (a.2),rfl⟩)
def enuC (x:Enum)(name:Str):Pg Bool:=
 .ret (x.Name==name)
def enuCP (x:Enum)(name:Str):Bool:=(enuC x name).val
theorem enuC_is (x:Enum)(name:Str):Is (enuC x name):=
 is_ret
def e_enuC:Ent Z:=entN Z [] [] (argsB (aCons (aAgg cd_Enum) (a1 (aPtr 0))) (b1 (bCells cStr))) (argsBI (n:=8) rfl) (shr [.slot 0 false [none]] (l1 cBool)) [0] Tryz.func352 Tryz.ntmps352 (by kernel_rfl) 1 rfl (fun a=>enuC (a.1.1) (a.2)) (fun a=>none) (fun a e _=>by kernel_rfl) (fun a=>enuCP (a.1.1) (a.2)) (fun a h=>⟨enuC_is (a.1.1) (a.2),rfl⟩)
def enuI (l:List Enum)(name:Str):Pg Int:=
 .as (l.length<=9223372036854775807)
  (.each false ixI l d_Enum (fun(i1:Int) (a3:Enum) (y2:Unit)=> .ix i1 l.length (.br (enuCP a3 name) (.ret (.inr i1)) (.ret (.inl ()))))
   (fun(i1:Int) (y2:Unit)=> .ret (-1)) ())
theorem enuI_is (l:List Enum)(name:Str):Is (enuI l name):=
 is_as fun _=>is_each (.inr (by omega)) (fun i1 y2 _ _=>is_ix (by omega) (by omega) (is_br (fun _=>is_ret) (fun _=>is_ret))) (fun y2 _=>is_ret)
def e_enuI:Ent Z:=entN Z [e_enuC] [jS 2 (shp (fun sl=>[.slot 8 false [none]]) (l1 (cInt .i64)))] (argsB (aCons (aLf cd_LEnum) (a1 (aFn 352 [0]))) (b1 (bCells cStr))) (argsBI (n:=19) rfl) (shr [.slot 0 false [none]] (l1 (cInt .i64))) [0] Tryz.func203 Tryz.ntmps203 (by kernel_rfl) 1 rfl (fun a=>enuI (a.1.1) (a.2)) (fun a=>none) (fun a e _=>by kernel_rfl) (fun a=>ixOf (fun(x:Enum)=>(enuCP x (a.2))) (a.1.1)) (fun a h=>⟨enuI_is (a.1.1) (a.2),(fun(l:List Enum) name=>forE_ix (fun(x:Enum)=>(enuCP x name)) l 0) (a.1.1) (a.2)⟩)
def cEnum (s:Schema)(name:Str):Pg (Enum×Bool):=
 .lt (ixOf (fun(x:Enum)=>enuCP x name) s.Enums) fun(v1:Int)=>
  .br (decide (v1 < 0)) (.ret (Enum.mk [] false [] [] [],false)) (.ix v1 s.Enums.length (.ret (s.Enums.getD v1.toNat d_Enum,true)))
def cEnumP (s:Schema)(name:Str):Enum×Bool:=(cEnum s name).val
theorem cEnum_is (s:Schema)(name:Str):Is (cEnum s name):=
 is_lt fun v1 hv1=>is_brd (fun _=>is_ret) (fun _=>is_ix (by omega) (by have:=ixOf_lt (fun(x:Enum)=>enuCP x name) s.Enums;rw[hv1];exact this.1) (is_ret))
def e_cEnum:Ent Z:=entN Z [e_enuI,e_enuC] [] (args (aCons (aAgg cd_Schema) (a1 (aLf cStr)))) (argsI (n:=19) rfl) (shr [.slot 0 true [none,none,none,none,none], .slot 1 false [none]] (lCons cd_Enum (l1 cBool))) [] Tryz.func244 Tryz.ntmps244 (by kernel_rfl) 2 rfl (fun a=>cEnum (a.1) (a.2)) (fun a=>none) (fun a e _=>by kernel_rfl) (fun a=>cEnumP (a.1) (a.2)) (fun a h=>⟨cEnum_is (a.1) (a.2),rfl⟩)
def resC (x:Span)(n:Int):Pg Bool:=
 .br (decide (x.From<=n)) (.ret (decide (n<=x.To))) (.ret false)
def resCP (x:Span)(n:Int):Bool:=(resC x n).val
theorem resC_is (x:Span)(n:Int):Is (resC x n):=
 is_brd (fun _=>is_ret) (fun _=>is_ret)
def e_resC:Ent Z:=entN Z [] [] (argsB (aCons (aAgg cd_Span) (a1 (aPtr 0))) (b1 (bCells (cInt .i64)))) (argsBI (n:=14) rfl) (shr [.slot 0 false [none]] (l1 cBool)) [0] Tryz.func177 Tryz.ntmps177 (by kernel_rfl) 1 rfl (fun a=>resC (a.1.1) (a.2)) (fun a=>none) (fun a e _=>by kernel_rfl) (fun a=>resCP (a.1.1) (a.2)) (fun a h=>⟨resC_is (a.1.1) (a.2),rfl⟩)
def resI (l:List Span)(n:Int):Pg Int:=
 .as (l.length<=9223372036854775807)
  (.each false ixI l d_Span (fun(i1:Int) (a3:Span) (y2:Unit)=> .ix i1 l.length (.br (resCP a3 n) (.ret (.inr i1)) (.ret (.inl ()))))
   (fun(i1:Int) (y2:Unit)=> .ret (-1)) ())
theorem resI_is (l:List Span)(n:Int):Is (resI l n):=
 is_as fun _=>is_each (.inr (by omega)) (fun i1 y2 _ _=>is_ix (by omega) (by omega) (is_br (fun _=>is_ret) (fun _=>is_ret))) (fun y2 _=>is_ret)
def e_resI:Ent Z:=entN Z [e_resC] [jS 2 (shp (fun sl=>[.slot 8 false [none]]) (l1 (cInt .i64)))] (argsB (aCons (aLf cd_LSpan) (a1 (aFn 177 [0]))) (b1 (bCells (cInt .i64)))) (argsBI (n:=19) rfl) (shr [.slot 0 false [none]] (l1 (cInt .i64))) [0] Tryz.func253 Tryz.ntmps253 (by kernel_rfl) 1 rfl (fun a=>resI (a.1.1) (a.2)) (fun a=>none) (fun a e _=>by kernel_rfl) (fun a=>ixOf (fun(x:Span)=>(resCP x (a.2))) (a.1.1)) (fun a h=>⟨resI_is (a.1.1) (a.2),(fun(l:List Span) n=>forE_ix (fun(x:Span)=>(resCP x n)) l 0) (a.1.1) (a.2)⟩)
def resA (l:List Span)(n:Int):Pg Bool:=
 .lt (ixOf (fun(x:Span)=>resCP x n) l) fun(v1:Int)=> .ret (decide (0<=v1))
theorem resA_is (l:List Span)(n:Int):Is (resA l n):=
 is_lt fun v1 hv1=>is_ret
def e_resA:Ent Z:=entN Z [e_resC,e_resI] [] (argsB (aCons (aLf cd_LSpan) (a1 (aFn 177 [0]))) (b1 (bCells (cInt .i64)))) (argsBI (n:=9) rfl) (shr [.slot 0 false [none]] (l1 cBool)) [0] Tryz.func176 Tryz.ntmps176 (by kernel_rfl) 1 rfl (fun a=>resA (a.1.1) (a.2)) (fun a=>none) (fun a e _=>by kernel_rfl) (fun a=>(a.1.1).any fun(x:Span)=>(resCP x (a.2))) (fun a h=>⟨resA_is (a.1.1) (a.2),(fun(l:List Span) n=>ixOf_any _ l) (a.1.1) (a.2)⟩)
def cReserved (l:List Span)(n:Int):Pg Bool:=
 .ret (l.any fun(x:Span)=>resCP x n)
def cReservedP (l:List Span)(n:Int):Bool:=(cReserved l n).val
theorem cReserved_is (l:List Span)(n:Int):Is (cReserved l n):=
 is_ret
def e_cReserved:Ent Z:=entN Z [e_resA,e_resC] [] (args (aCons (aLf cd_LSpan) (a1 (aLf (cInt .i64))))) (argsI (n:=8) rfl) (shr [.slot 0 false [none]] (l1 cBool)) [] Tryz.func115 Tryz.ntmps115 (by kernel_rfl) 1 rfl (fun a=>cReserved (a.1) (a.2)) (fun a=>none) (fun a e _=>by kernel_rfl) (fun a=>cReservedP (a.1) (a.2)) (fun a h=>⟨cReserved_is (a.1) (a.2),rfl⟩)
def fname (f:AField):Pg (List UInt8):=
 .ret f.Name
def fnameP (f:AField):Str:=(fname f).val
theorem fname_is (f:AField):Is (fname f):=
 is_ret
def e_fname:Ent Z:=entN Z [] [] (args (a1 (aAgg cd_AField))) (argsI (n:=5) rfl) (shr [.slot 0 false [none]] (l1 cStr)) [] Tryz.func167 Tryz.ntmps167 (by kernel_rfl) 1 rfl (fun a=>fname a) (fun a=>none) (fun a e _=>by kernel_rfl) (fun a=>fnameP a) (fun a h=>⟨fname_is a,rfl⟩)
def iname (f:Item):Pg (List UInt8):=
 .ret f.Name
def inameP (f:Item):Str:=(iname f).val
theorem iname_is (f:Item):Is (iname f):=
 is_ret
def e_iname:Ent Z:=entN Z [] [] (args (a1 (aAgg cd_Item))) (argsI (n:=5) rfl) (shr [.slot 0 false [none]] (l1 cStr)) [] Tryz.func114 Tryz.ntmps114 (by kernel_rfl) 1 rfl (fun a=>iname a) (fun a=>none) (fun a e _=>by kernel_rfl) (fun a=>inameP a) (fun a h=>⟨iname_is a,rfl⟩)
end
end Go.Proofs.YtiibcbmenoaigaaGreatDoor
