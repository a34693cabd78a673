/- Server: the law ServerMakes holds for every input of bounded bulk, and its card. -/
import Derived.Test.YtiibcbmenoaigaaGreatDoorPb
import Derived.Test.YtiibcbmenoaigaaGreatDoorM
import Derived.Test.YtiibcbmenoaigaaGreatDoorEng11
import Derived.Test.YtiibcbmenoaigaaGreatDoorEng15
import Derived.Test.YtiibcbmenoaigaaGreatDoorCards
import Derived.Deep.DeepHandedRow
namespace Go.Proofs.YtiibcbmenoaigaaGreatDoor
open Go.ChangeShapes Go.WideShapes Go.ChangeAt Go.RowKit Go.Joins Go.Vc
set_option linter.unusedVariables false
set_option linter.unusedSimpArgs false
set_option maxRecDepth 100000
theorem bulk_mem {H:Type}{d:DataW H}:∀{l:List (DataW H)},d∈l->Rows.uptoBulk d<=Rows.uptoBulkAll l
 | x::l,h=>by
  simp only[Rows.uptoBulkAll]
  rcases List.mem_cons.1 h with rfl | h
  ·omega
  ·have:=bulk_mem h;omega
theorem bulk_one {H:Type}(d:DataW H):1<=Rows.uptoBulk d:=by
 cases d with
 | lit l=>cases l<;>simp[Rows.uptoBulk]
 | nil=>simp[Rows.uptoBulk]
 | ptr d=>simp[Rows.uptoBulk]
 | slice elems spare=>simp[Rows.uptoBulk]
 | agg parts=>simp[Rows.uptoBulk]
 | iface t d=>simp[Rows.uptoBulk]
 | map entries=>simp[Rows.uptoBulk]
 | held h=>simp[Rows.uptoBulk]
theorem bulk_len {H:Type}:∀l:List (DataW H),l.length<=Rows.uptoBulkAll l
 | []=>by simp[Rows.uptoBulkAll]
 | x::l=>by have:=bulk_one x;have:=bulk_len l;simp only[Rows.uptoBulkAll,List.length_cons];omega
def szB:Sz Tryz.prog where
 M:=fun t d n=>Rows.uptoBulk d<=n
 str:=fun h=>by simp only[Rows.uptoBulk]at h;omega
 sl:=fun{H t e el sp n} _ _ h=>by
  simp only[Rows.uptoBulk]at h
  have:=bulk_len el
  exact⟨by omega,fun d hd=>by have:=bulk_mem hd;omega⟩
 st:=fun{H t fs ps n} _ h i f p _ hp=>by
  simp only[Rows.uptoBulk]at h
  have:=bulk_mem (List.mem_of_getElem? hp)
  omega
def goodn_AType (n:Nat)(b:AType):Prop:=(InR .i64 b.Kind/\b.Name.length<=n)
theorem opw_60:∀F,OpensW F Tryz.prog S szB 60 cd_AType goodn_AType:=fun F=>opensW_struct Tryz.underlying60 (by kernel_rfl) (fun _=>rfl) (opensFW_cons rfl (by kernel_rfl) (opensW_of (opens_int Tryz.underlying3)) (opensFW_one rfl (by kernel_rfl) (opensW_str Tryz.underlying9)))
def goodn_Raw (n:Nat)(b:Raw):Prop:=(InR .i64 b.Num/\(InR .i64 b.Wire/\(InR .u64 b.Bits/\b.Data.length<=n)))
theorem opw_255:∀F,OpensW F Tryz.prog S szB 255 cd_Raw goodn_Raw:=fun F=>opensW_struct Tryz.underlying255 (by kernel_rfl) (fun _=>rfl) (opensFW_cons rfl (by kernel_rfl) (opensW_of (opens_int Tryz.underlying3)) (opensFW_cons rfl (by kernel_rfl) (opensW_of (opens_int Tryz.underlying3)) (opensFW_cons rfl (by kernel_rfl) (opensW_of (opens_int Tryz.underlying61)) (opensFW_one rfl (by kernel_rfl) (opensW_str Tryz.underlying9)))))
theorem opw_65:∀F,OpensW F Tryz.prog S szB 65 cd_LRaw (fun n l=>l.length<=n/\∀a∈l,goodn_Raw n a):=fun F=>opensW_slice (dflt:=d_Raw) Tryz.underlying65 (of_decide_eq_true (by kernel_rfl)) (by kernel_rfl) cd_Raw_ok (opw_255 F) (fun _=>rfl) (fun _=>rfl) (fun _ _ _=>rfl)
def goodn_AVal (n:Nat)(b:AVal):Prop:=(InR .i64 b.Kind/\(InR .u64 b.Bits/\(b.Text.length<=n/\(b.List.length<=n/\(b.Pairs.length<=n/\(b.Slots.length<=n/\(b.Raws.length<=n/\∀a∈b.Raws,goodn_Raw n a)))))))
def goodn_Pair (n:Nat)(b:Pair):Prop:=(True/\True)
def goodn_Slot (n:Nat)(b:Slot):Prop:=(InR .i64 b.Num/\True)
theorem opw_rec67:∀F,OpensW F Tryz.prog S szB 67 cd_AVal goodn_AVal/\OpensW F Tryz.prog S szB 307 cd_Pair goodn_Pair/\OpensW F Tryz.prog S szB 248 cd_Slot goodn_Slot
 | 0=>⟨opensW_0,opensW_0,opensW_0⟩
 | F+1=>by
  obtain⟨h0,h1,h2⟩:=opw_rec67 F
  exact⟨opensW_weak (opensW_struct1 Tryz.underlying67 (by kernel_rfl) (fun _=>rfl) (opensFW_cons rfl (by kernel_rfl) (opensW_of (opens_int Tryz.underlying3)) (opensFW_cons rfl (by kernel_rfl) (opensW_of (opens_int Tryz.underlying61)) (opensFW_cons rfl (by kernel_rfl) (opensW_str Tryz.underlying9) (opensFW_cons rfl (by kernel_rfl) (opensW_slice (dflt:=d_AVal) Tryz.underlying62 (of_decide_eq_true (by kernel_rfl)) (by kernel_rfl) cd_AVal_ok h0 (fun _=>rfl) (fun _=>rfl) (fun _ _ _=>rfl)) (opensFW_cons rfl (by kernel_rfl) (opensW_slice (dflt:=d_Pair) Tryz.underlying63 (of_decide_eq_true (by kernel_rfl)) (by kernel_rfl) cd_Pair_ok h1 (fun _=>rfl) (fun _=>rfl) (fun _ _ _=>rfl)) (opensFW_cons rfl (by kernel_rfl) (opensW_slice (dflt:=d_Slot) Tryz.underlying64 (of_decide_eq_true (by kernel_rfl)) (by kernel_rfl) cd_Slot_ok h2 (fun _=>rfl) (fun _=>rfl) (fun _ _ _=>rfl)) (opensFW_one rfl (by kernel_rfl) (opw_65 F))))))))) (fun n a h=>⟨h.1,h.2.1,h.2.2.1,h.2.2.2.1.1,h.2.2.2.2.1.1,h.2.2.2.2.2.1.1,h.2.2.2.2.2.2⟩),
   opensW_weak (opensW_struct1 Tryz.underlying307 (by kernel_rfl) (fun _=>rfl) (opensFW_cons rfl (by kernel_rfl) h0 (opensFW_one rfl (by kernel_rfl) h0))) (fun n a h=>⟨trivial,trivial⟩),
   opensW_weak (opensW_struct1 Tryz.underlying248 (by kernel_rfl) (fun _=>rfl) (opensFW_cons rfl (by kernel_rfl) (opensW_of (opens_int Tryz.underlying3)) (opensFW_one rfl (by kernel_rfl) h0))) (fun n a h=>⟨h.1,trivial⟩)⟩
theorem opw_67:∀F,OpensW F Tryz.prog S szB 67 cd_AVal goodn_AVal:=fun F=>(opw_rec67 F).1
theorem opw_307:∀F,OpensW F Tryz.prog S szB 307 cd_Pair goodn_Pair:=fun F=>(opw_rec67 F).2.1
theorem opw_248:∀F,OpensW F Tryz.prog S szB 248 cd_Slot goodn_Slot:=fun F=>(opw_rec67 F).2.2
def goodn_Note (n:Nat)(b:Note):Prop:=(b.Name.length<=n/\goodn_AVal n b.Val)
theorem opw_231:∀F,OpensW F Tryz.prog S szB 231 cd_Note goodn_Note:=fun F=>opensW_struct Tryz.underlying231 (by kernel_rfl) (fun _=>rfl) (opensFW_cons rfl (by kernel_rfl) (opensW_str Tryz.underlying9) (opensFW_one rfl (by kernel_rfl) (opw_67 F)))
theorem opw_47:∀F,OpensW F Tryz.prog S szB 47 cd_LNote (fun n l=>l.length<=n/\∀a∈l,goodn_Note n a):=fun F=>opensW_slice (dflt:=d_Note) Tryz.underlying47 (of_decide_eq_true (by kernel_rfl)) (by kernel_rfl) cd_Note_ok (opw_231 F) (fun _=>rfl) (fun _=>rfl) (fun _ _ _=>rfl)
def goodn_AField (n:Nat)(b:AField):Prop:=(InR .i64 b.Num/\(b.Name.length<=n/\(InR .i64 b.Card/\(InR .i64 b.Key/\(goodn_AType n b.Type_/\(b.Union.length<=n/\(True/\(goodn_AVal n b.Default/\(b.Notes.length<=n/\∀a∈b.Notes,goodn_Note n a)))))))))
theorem opw_69:∀F,OpensW F Tryz.prog S szB 69 cd_AField goodn_AField:=fun F=>opensW_struct Tryz.underlying69 (by kernel_rfl) (fun _=>rfl) (opensFW_cons rfl (by kernel_rfl) (opensW_of (opens_int Tryz.underlying3)) (opensFW_cons rfl (by kernel_rfl) (opensW_str Tryz.underlying9) (opensFW_cons rfl (by kernel_rfl) (opensW_of (opens_int Tryz.underlying3)) (opensFW_cons rfl (by kernel_rfl) (opensW_of (opens_int Tryz.underlying3)) (opensFW_cons rfl (by kernel_rfl) (opw_60 F) (opensFW_cons rfl (by kernel_rfl) (opensW_str Tryz.underlying9) (opensFW_cons rfl (by kernel_rfl) (opensW_of (opens_bool Tryz.underlying4)) (opensFW_cons rfl (by kernel_rfl) (opw_67 F) (opensFW_one rfl (by kernel_rfl) (opw_47 F))))))))))
theorem opw_70:∀F,OpensW F Tryz.prog S szB 70 cd_LAField (fun n l=>l.length<=n/\∀a∈l,goodn_AField n a):=fun F=>opensW_slice (dflt:=d_AField) Tryz.underlying70 (of_decide_eq_true (by kernel_rfl)) (by kernel_rfl) cd_AField_ok (opw_69 F) (fun _=>rfl) (fun _=>rfl) (fun _ _ _=>rfl)
def goodn_Span (n:Nat)(b:Span):Prop:=(InR .i64 b.From/\InR .i64 b.To)
theorem opw_227:∀F,OpensW F Tryz.prog S szB 227 cd_Span goodn_Span:=fun F=>opensW_struct Tryz.underlying227 (by kernel_rfl) (fun _=>rfl) (opensFW_cons rfl (by kernel_rfl) (opensW_of (opens_int Tryz.underlying3)) (opensFW_one rfl (by kernel_rfl) (opensW_of (opens_int Tryz.underlying3))))
theorem opw_71:∀F,OpensW F Tryz.prog S szB 71 cd_LSpan (fun n l=>l.length<=n/\∀a∈l,goodn_Span n a):=fun F=>opensW_slice (dflt:=d_Span) Tryz.underlying71 (of_decide_eq_true (by kernel_rfl)) (by kernel_rfl) cd_Span_ok (opw_227 F) (fun _=>rfl) (fun _=>rfl) (fun _ _ _=>rfl)
theorem opw_72:∀F,OpensW F Tryz.prog S szB 72 cd_Lstr (fun n l=>l.length<=n/\∀a∈l,a.length<=n):=fun F=>opensW_slice (dflt:=[]) Tryz.underlying72 (of_decide_eq_true (by kernel_rfl)) (by kernel_rfl) cStr_ok (opensW_str Tryz.underlying9) (fun _=>rfl) (fun _=>rfl) (fun _ _ _=>rfl)
def goodn_Message (n:Nat)(b:Message):Prop:=(b.Name.length<=n/\((b.Fields.length<=n/\∀a∈b.Fields,goodn_AField n a)/\((b.Reserved.length<=n/\∀a∈b.Reserved,goodn_Span n a)/\((b.Gone.length<=n/\∀a∈b.Gone,a.length<=n)/\(b.Notes.length<=n/\∀a∈b.Notes,goodn_Note n a)))))
theorem opw_74:∀F,OpensW F Tryz.prog S szB 74 cd_Message goodn_Message:=fun F=>opensW_struct Tryz.underlying74 (by kernel_rfl) (fun _=>rfl) (opensFW_cons rfl (by kernel_rfl) (opensW_str Tryz.underlying9) (opensFW_cons rfl (by kernel_rfl) (opw_70 F) (opensFW_cons rfl (by kernel_rfl) (opw_71 F) (opensFW_cons rfl (by kernel_rfl) (opw_72 F) (opensFW_one rfl (by kernel_rfl) (opw_47 F))))))
theorem opw_22:∀F,OpensW F Tryz.prog S szB 22 cd_LMessage (fun n l=>l.length<=n/\∀a∈l,goodn_Message n a):=fun F=>opensW_slice (dflt:=d_Message) Tryz.underlying22 (of_decide_eq_true (by kernel_rfl)) (by kernel_rfl) cd_Message_ok (opw_74 F) (fun _=>rfl) (fun _=>rfl) (fun _ _ _=>rfl)
def goodn_Item (n:Nat)(b:Item):Prop:=(b.Name.length<=n/\(InR .i64 b.Num/\(b.Notes.length<=n/\∀a∈b.Notes,goodn_Note n a)))
theorem opw_197:∀F,OpensW F Tryz.prog S szB 197 cd_Item goodn_Item:=fun F=>opensW_struct Tryz.underlying197 (by kernel_rfl) (fun _=>rfl) (opensFW_cons rfl (by kernel_rfl) (opensW_str Tryz.underlying9) (opensFW_cons rfl (by kernel_rfl) (opensW_of (opens_int Tryz.underlying3)) (opensFW_one rfl (by kernel_rfl) (opw_47 F))))
theorem opw_131:∀F,OpensW F Tryz.prog S szB 131 cd_LItem (fun n l=>l.length<=n/\∀a∈l,goodn_Item n a):=fun F=>opensW_slice (dflt:=d_Item) Tryz.underlying131 (of_decide_eq_true (by kernel_rfl)) (by kernel_rfl) cd_Item_ok (opw_197 F) (fun _=>rfl) (fun _=>rfl) (fun _ _ _=>rfl)
def goodn_Enum (n:Nat)(b:Enum):Prop:=(b.Name.length<=n/\(True/\((b.Items.length<=n/\∀a∈b.Items,goodn_Item n a)/\((b.Reserved.length<=n/\∀a∈b.Reserved,goodn_Span n a)/\(b.Notes.length<=n/\∀a∈b.Notes,goodn_Note n a)))))
theorem opw_133:∀F,OpensW F Tryz.prog S szB 133 cd_Enum goodn_Enum:=fun F=>opensW_struct Tryz.underlying133 (by kernel_rfl) (fun _=>rfl) (opensFW_cons rfl (by kernel_rfl) (opensW_str Tryz.underlying9) (opensFW_cons rfl (by kernel_rfl) (opensW_of (opens_bool Tryz.underlying4)) (opensFW_cons rfl (by kernel_rfl) (opw_131 F) (opensFW_cons rfl (by kernel_rfl) (opw_71 F) (opensFW_one rfl (by kernel_rfl) (opw_47 F))))))
theorem opw_23:∀F,OpensW F Tryz.prog S szB 23 cd_LEnum (fun n l=>l.length<=n/\∀a∈l,goodn_Enum n a):=fun F=>opensW_slice (dflt:=d_Enum) Tryz.underlying23 (of_decide_eq_true (by kernel_rfl)) (by kernel_rfl) cd_Enum_ok (opw_133 F) (fun _=>rfl) (fun _=>rfl) (fun _ _ _=>rfl)
def goodn_AMethod (n:Nat)(b:AMethod):Prop:=(b.Name.length<=n/\(b.In.length<=n/\(b.Out.length<=n/\(InR .i64 b.Shape/\(b.Notes.length<=n/\∀a∈b.Notes,goodn_Note n a)))))
theorem opw_49:∀F,OpensW F Tryz.prog S szB 49 cd_AMethod goodn_AMethod:=fun F=>opensW_struct Tryz.underlying49 (by kernel_rfl) (fun _=>rfl) (opensFW_cons rfl (by kernel_rfl) (opensW_str Tryz.underlying9) (opensFW_cons rfl (by kernel_rfl) (opensW_str Tryz.underlying9) (opensFW_cons rfl (by kernel_rfl) (opensW_str Tryz.underlying9) (opensFW_cons rfl (by kernel_rfl) (opensW_of (opens_int Tryz.underlying3)) (opensFW_one rfl (by kernel_rfl) (opw_47 F))))))
theorem opw_75:∀F,OpensW F Tryz.prog S szB 75 cd_LAMethod (fun n l=>l.length<=n/\∀a∈l,goodn_AMethod n a):=fun F=>opensW_slice (dflt:=d_AMethod) Tryz.underlying75 (of_decide_eq_true (by kernel_rfl)) (by kernel_rfl) cd_AMethod_ok (opw_49 F) (fun _=>rfl) (fun _=>rfl) (fun _ _ _=>rfl)
def goodn_Service (n:Nat)(b:Service):Prop:=(b.Name.length<=n/\((b.Methods.length<=n/\∀a∈b.Methods,goodn_AMethod n a)/\(b.Notes.length<=n/\∀a∈b.Notes,goodn_Note n a)))
theorem opw_77:∀F,OpensW F Tryz.prog S szB 77 cd_Service goodn_Service:=fun F=>opensW_struct Tryz.underlying77 (by kernel_rfl) (fun _=>rfl) (opensFW_cons rfl (by kernel_rfl) (opensW_str Tryz.underlying9) (opensFW_cons rfl (by kernel_rfl) (opw_75 F) (opensFW_one rfl (by kernel_rfl) (opw_47 F))))
theorem opw_24:∀F,OpensW F Tryz.prog S szB 24 cd_LService (fun n l=>l.length<=n/\∀a∈l,goodn_Service n a):=fun F=>opensW_slice (dflt:=d_Service) Tryz.underlying24 (of_decide_eq_true (by kernel_rfl)) (by kernel_rfl) cd_Service_ok (opw_77 F) (fun _=>rfl) (fun _=>rfl) (fun _ _ _=>rfl)
def goodn_Schema (n:Nat)(b:Schema):Prop:=((b.Messages.length<=n/\∀a∈b.Messages,goodn_Message n a)/\((b.Enums.length<=n/\∀a∈b.Enums,goodn_Enum n a)/\(b.Services.length<=n/\∀a∈b.Services,goodn_Service n a)))
theorem opw_26:∀F,OpensW F Tryz.prog S szB 26 cd_Schema goodn_Schema:=fun F=>opensW_struct Tryz.underlying26 (by kernel_rfl) (fun _=>rfl) (opensFW_cons rfl (by kernel_rfl) (opw_22 F) (opensFW_cons rfl (by kernel_rfl) (opw_23 F) (opensFW_one rfl (by kernel_rfl) (opw_24 F))))
def goodn_Handler (n:Nat)(b:Handler):Prop:=(b.Method.length<=n/\(InR .i64 b.Kind/\(InR .i64 b.Num/\InR .i64 b.Cost)))
theorem opw_45:∀F,OpensW F Tryz.prog S szB 45 cd_Handler goodn_Handler:=fun F=>opensW_struct Tryz.underlying45 (by kernel_rfl) (fun _=>rfl) (opensFW_cons rfl (by kernel_rfl) (opensW_str Tryz.underlying9) (opensFW_cons rfl (by kernel_rfl) (opensW_of (opens_int Tryz.underlying3)) (opensFW_cons rfl (by kernel_rfl) (opensW_of (opens_int Tryz.underlying3)) (opensFW_one rfl (by kernel_rfl) (opensW_of (opens_int Tryz.underlying3))))))
theorem opw_27:∀F,OpensW F Tryz.prog S szB 27 cd_LHandler (fun n l=>l.length<=n/\∀a∈l,goodn_Handler n a):=fun F=>opensW_slice (dflt:=d_Handler) Tryz.underlying27 (of_decide_eq_true (by kernel_rfl)) (by kernel_rfl) cd_Handler_ok (opw_45 F) (fun _=>rfl) (fun _=>rfl) (fun _ _ _=>rfl)
def goodn_Icept (n:Nat)(b:Icept):Prop:=(InR .i64 b.Kind/\(b.Key.length<=n/\(b.Val.length<=n/\(InR .i64 b.Num/\InR .i64 b.Span))))
theorem opw_58:∀F,OpensW F Tryz.prog S szB 58 cd_Icept goodn_Icept:=fun F=>opensW_struct Tryz.underlying58 (by kernel_rfl) (fun _=>rfl) (opensFW_cons rfl (by kernel_rfl) (opensW_of (opens_int Tryz.underlying3)) (opensFW_cons rfl (by kernel_rfl) (opensW_str Tryz.underlying9) (opensFW_cons rfl (by kernel_rfl) (opensW_str Tryz.underlying9) (opensFW_cons rfl (by kernel_rfl) (opensW_of (opens_int Tryz.underlying3)) (opensFW_one rfl (by kernel_rfl) (opensW_of (opens_int Tryz.underlying3)))))))
theorem opw_28:∀F,OpensW F Tryz.prog S szB 28 cd_LIcept (fun n l=>l.length<=n/\∀a∈l,goodn_Icept n a):=fun F=>opensW_slice (dflt:=d_Icept) Tryz.underlying28 (of_decide_eq_true (by kernel_rfl)) (by kernel_rfl) cd_Icept_ok (opw_58 F) (fun _=>rfl) (fun _=>rfl) (fun _ _ _=>rfl)
def goodn_law52_Setup (n:Nat)(b:law52_Setup):Prop:=(goodn_Schema n b.S/\((b.H.length<=n/\∀a∈b.H,goodn_Handler n a)/\((b.L.length<=n/\∀a∈b.L,goodn_Icept n a)/\InR .i64 b.Most)))
theorem opw_30:∀F,OpensW F Tryz.prog S szB 30 cd_law52_Setup goodn_law52_Setup:=fun F=>opensW_struct Tryz.underlying30 (by kernel_rfl) (fun _=>rfl) (opensFW_cons rfl (by kernel_rfl) (opw_26 F) (opensFW_cons rfl (by kernel_rfl) (opw_27 F) (opensFW_cons rfl (by kernel_rfl) (opw_28 F) (opensFW_one rfl (by kernel_rfl) (opensW_of (opens_int Tryz.underlying3))))))
theorem own:ownKnob Tryz.prog.godebug=none:=by kernel_rfl
theorem laidOut:laidOutB Tryz.prog=true:=by kernel_rfl
theorem okVal_of (v:AVal)(h:goodn_AVal 1048576 v):okVal v:=by
 obtain⟨_,h1,h2,h3,h4,h5,h6⟩:=h
 simp only[InR]at h1
 exact⟨by omega,by omega,h2,h3,h4,h5,h6.1⟩
theorem okNs_of (l:List Note)(h:∀a∈l,goodn_Note 1048576 a):okNs l:=fun n hn=>okVal_of n.Val (h n hn).2
theorem okD_of (x:law52_Setup)(h:goodn_law52_Setup 1048576 x):okD x:=by
 obtain⟨⟨⟨_,h1⟩,⟨_,h2⟩,_,h3⟩,⟨_,h4⟩,⟨_,h5⟩,_⟩:=h
 refine⟨⟨fun m hm=> ?_,fun e he=> ?_,fun v hv=> ?_⟩,⟨fun m hm=> ?_,fun e he=> ?_,fun v hv=> ?_⟩,fun y hy=>(h4 y hy).1,fun y hy=>(h5 y hy).2.1⟩
 ·obtain⟨k1,k2,k3,k4,k5⟩:=h1 m hm
  exact⟨k2.1,k3.1,k4.1,k1,k4.2⟩
 ·obtain⟨k1,_,k3,k4,k5⟩:=h2 e he
  exact⟨k3.1,k4.1,k1⟩
 ·obtain⟨k1,k2,k3⟩:=h3 v hv
  exact⟨k2.1,k1⟩
 ·obtain⟨k1,k2,k3,k4,k5⟩:=h1 m hm
  refine⟨okNs_of _ k5.2,fun f hf=> ?_⟩
  obtain⟨_,_,_,_,_,_,_,q8,q9⟩:=k2.2 f hf
  exact⟨okVal_of _ q8,okNs_of _ q9.2⟩
 ·obtain⟨k1,_,k3,k4,k5⟩:=h2 e he
  exact⟨okNs_of _ k5.2,fun i hi=>okNs_of _ (k3.2 i hi).2.2.2⟩
 ·obtain⟨k1,k2,k3⟩:=h3 v hv
  exact⟨okNs_of _ k3.2,fun m hm=>okNs_of _ (k2.2 m hm).2.2.2.2.2⟩
theorem law_reads (os:Os){H:Type}(enc:TypeId×Value->H):∃places,DataW.whole enc Tryz.prog ((World.laidAll Tryz.prog os laidL).forCall (fun _ _=>0) ⟨#[],#[.string ⟨#[]⟩, .agg #[.slice none 0 0, .slice none 0 0, .slice none 0 0, .slice none 0 0, .slice none 0 0, .int .i64 0]],[]⟩).memory Tryz.f3.params.toList Rows.serverMakesSpec.vars false (#[.string ⟨#[]⟩, .agg #[.slice none 0 0, .slice none 0 0, .slice none 0 0, .slice none 0 0, .slice none 0 0, .int .i64 0]]:Array Value).toList 8=some ([.lit (.string []), .agg [.agg [.nil, .nil, .nil], .nil, .nil, .lit (.int .i64 0)]],[],places):=
 ⟨[],by kernel_rfl⟩
set_option maxRecDepth 100000 in
theorem law_liftedU (os:Os)(started:os.Started)(H:Type)(enc:TypeId×Value->H)(F:Stop.Interp):
  ReturnsInHanded {} Tryz.checked os 3 .any ((Rows.OpenSpec.upto Rows.serverMakesSpec).preRow enc Tryz.prog Tryz.f3 Rows.serverMakesUptoRow.domain false Rows.serverMakesUptoRow.laid) (((Rows.OpenSpec.upto Rows.serverMakesSpec).at F).post enc Tryz.prog Tryz.f3 false true false false):=by
 obtain⟨places,hx⟩:=law_reads os enc
 refine returnsInHanded_of_row (C:=Tryz.checked) (s:=Rows.OpenSpec.upto Rows.serverMakesSpec) own started (by kernel_rfl) Tryz.func3
  (witness_row_at (enc:=enc) (C:=Tryz.checked) false (World.laidAll Tryz.prog os laidL) #[.string ⟨#[]⟩, .agg #[.slice none 0 0, .slice none 0 0, .slice none 0 0, .slice none 0 0, .slice none 0 0, .int .i64 0]] (World.laidAll_os _ _ _) (by kernel_rfl) (by kernel_rfl) (by kernel_rfl)
   (OpenSpec.preRow_of_cond 8 hx (by kernel_rfl) (fun k hk=>by cases hk;kernel_rfl) (by kernel_rfl) (laid_world os _))) ?_
 intro W base args ds gs before hval0 hW hc hcond hz hL _ _
 have hval:∀(j:Nat) t v,Tryz.f3.params[j]? =some t->args[j]? =some v->Value.okWide Tryz.prog W .any base t v:=hval0
 have hW':=hW
 obtain⟨p,q,hA0,hV,rfl,hfz,hnd⟩:=hW
 have hA:DataW.TrodAll enc Tryz.prog W 0 (fun _=>true) true Tryz.f3.params.toList args.toList ds p:=hA0
 rw[Tryz.params3]at hA hval
 obtain⟨rfl,rfl⟩:=trodVars_none hV
 obtain⟨d0,d1,rfl⟩:∃d0 d1,ds=[d0,d1]:=by
  obtain⟨_,_,d0,_,_,_,_,rfl,_,_,r0⟩:=trodAll_cons hA
  obtain⟨_,_,d1,_,_,_,_,rfl,_,_,r1⟩:=trodAll_cons r0
  obtain⟨_,rfl,_⟩:=trodAll_nil r1
  exact⟨d0,d1,rfl⟩
 have hok:CtOk Tryz.prog S 3 (ctN (Go.Vc.args (aCons (aLf cStr) (a1 (aAgg cd_law52_Setup)))) rsLaw 1 [] _ (fun _=>true)):=e_law.ok
 have hk:Rows.uptoBulkAll [d0,d1]<=1048576:=of_decide_eq_true (hcond _ rfl)
 have hM:∀(j:Nat) t d,[9,30][j]? =some t->[d0,d1][j]? =some d->szB.M t d 1048576:=fun j t d _ h2=>Nat.le_trans (bulk_mem (List.mem_of_getElem? h2)) hk
 have hcall:=law_callsW (Z:=szB) (ts:=[9,30]) 1048576 hok (fun _=>rfl) (openAW_cons (openVW_lf Tryz.underlying9 rfl cStr_ok rfl (fun F=>opensW_str Tryz.underlying9)) (openAW_1 (openVW_agg Tryz.underlying30 opw_30))) (fun a h=>okD_of a.2 h.2) (vs:=args.toList) (gl_ok hL) hM (fun j t v h1 h2=>hval j t v (by simpa using h1) (by simpa using h2)) hA
 rw[Array.toArray_toList]at hcall
 refine hcall.mono ?_
 rintro e W' ⟨rfl,bel⟩
 exact⟨_,rfl,_,_,_,[],_,[],hW',trodAll_mk1 (shut_bool Tryz.underlying4 _),trodAll_below laidOut bel (by kernel_rfl) hA,rfl,bel.frame _,fun h=>by cases h⟩
set_option maxHeartbeats 0 in
theorem law_closedU:joinedFacts Tryz.prog 3 Tryz.f3 (Rows.OpenSpec.upto Rows.serverMakesSpec).bare Rows.serverMakesUptoRow=true:=by
 unfold joinedFacts
 simp only[Bool.and_eq_true]
 (repeat' apply And.intro)<;>(as_aux_lemma=>kernel_rfl)
theorem law_holdsU:Rows.ServerMakesUptoSaid:=
 OpenClaim.holds_of_cond 3 Tryz.f3 rfl rfl rfl rfl rfl rfl rfl ⟨rfl,rfl,rfl,rfl,rfl⟩ rfl rfl rfl rfl rfl (by as_aux_lemma=>kernel_rfl) Tryz.func3 law_closedU
  (of_decide_eq_true (by as_aux_lemma=>kernel_rfl)) (by unfold Func.isWrapper;first | (rw[if_pos (by decide+kernel)];kernel_rfl) | (rw[if_neg (by decide+kernel)];exact⟨rfl,rfl⟩))
  (fun os started H enc _ F=>by rw[OpenClaim.pre_eq_preRow];exact law_liftedU os started H enc F)
theorem law_goesNo:Tryz.prog.funcs.any Func.goes=false:=by kernel_rfl
theorem law_cardU:Rows.ServerMakesUptoCardSaid:=
 Claim7.holds_tied_plain_at .later [] _ _ _ _ law_holdsU (fun _ h=>by cases h) (by as_aux_lemma=>kernel_rfl) (fun _ h=>by cases h) serverMakesUpto_row_tie rfl ⟨rfl,rfl⟩ (by as_aux_lemma=>kernel_rfl) rfl
  (fun f fn hf hfn=>by
   obtain rfl:f=3:=Option.some.inj ((show Tryz.prog.funcNamed "wireschema/wireschemalaw52.ServerMakes" =some 3 by as_aux_lemma=>kernel_rfl).symm.trans hf) |>.symm
   obtain rfl:fn=Tryz.f3:=(Option.some.inj (Tryz.func3.symm.trans hfn)).symm
   exact⟨by as_aux_lemma=>kernel_rfl,fun j t ht=>by
    rw[Tryz.params3]at ht
    have hm:t∈[9,30]:=by simpa using Array.mem_of_getElem? ht
    have hall:([9,30].all fun u=> !Tryz.prog.wantsStandIn u)=true:=by as_aux_lemma=>kernel_rfl
    exact(show Tryz.prog.wantsStandIn t=false by simpa using List.all_eq_true.1 hall t hm)⟩)
  (goesBy_no (P:=Tryz.prog) law_goesNo rfl)
#print axioms law_cardU
end Go.Proofs.YtiibcbmenoaigaaGreatDoor
