/- Contracts of functions of the library, by walks of their code. -/
import Derived.Test.YtiibcbmenoaigaaGreatDoorA
import Derived.Test.YtiibcbmenoaigaaGreatDoorEng14
import Derived.Lib.Strings
import Derived.Lib.Slices
import Derived.Lib.Walk
import Derived.Lib.Bytealg
import Derived.Lib.Builder
namespace Go.Proofs.YtiibcbmenoaigaaGreatDoor
open Go.RowKit Go.Vc
set_option linter.unusedVariables false
set_option maxRecDepth 100000
set_option maxHeartbeats 4000000
theorem okClone146:CtOk Tryz.prog (shP Tryz.prog fun _=>none) 146 (ctClone 2 16 227):=ctClone_ok (by kernel_rfl) Tryz.func146 Tryz.ntmps146 (by omega) (by kernel_rfl) (by kernel_rfl) (fun r e0=>by kernel_rfl)
set_option maxHeartbeats 1000000 in
set_option maxRecDepth 100000 in
theorem indexByte_walk (s:ByteArray)(c:Int)(w:World):
  Calls Tryz.prog 178 #[.string s, .int .u8 c] w fun e w'=>e= .returned (.int .i64 (Lib.indexByte s.data.toList c.toNat.toUInt8))/\w'=w:=by
 go_enter Tryz.func178,Tryz.ntmps178
 go_wp2
 rw[run_callFunc_extern Tryz.func254 (by kernel_rfl) (by kernel_rfl) (by kernel_rfl) (e:=Extern.BytealgIndexByte.indexByte) (by kernel_rfl),Lib.run_indexByteString]
 simp only[Result.andThen]
 rw[Oper.upon_value]
 go_wp2
 go_ret
 exact⟨rfl,rfl⟩
theorem okIndexByte {D:Type}{S:Sh D}:CtOk Tryz.prog S 178 (ctPure gIndexByte):=okIndexByte_of (enters_of Tryz.func178 (by kernel_rfl) (by kernel_rfl)) indexByte_walk
set_option maxHeartbeats 1000000 in
set_option maxRecDepth 100000 in
theorem count_walk (s:ByteArray)(c:UInt8)(w:World):
  Calls Tryz.prog 183 #[.string s, .string ⟨#[c]⟩] w fun e w'=>e= .returned (.int .i64 (Lib.countByte s.data.toList c))/\w'=w:=by
 go_enter Tryz.func183,Tryz.ntmps183
 go_wp2
 rw[run_callFunc_extern Tryz.func258 (by kernel_rfl) (by kernel_rfl) (by kernel_rfl) (e:=Extern.BytealgCount.count) (by kernel_rfl),Lib.run_countString]
 simp only[Result.andThen]
 rw[Oper.upon_value]
 go_wp2
 go_ret
 exact⟨rfl,rfl⟩
theorem okCount {D:Type}{S:Sh D}:CtOk Tryz.prog S 183 (ctPure gCount):=okCount_of (enters_of Tryz.func183 (by kernel_rfl) (by kernel_rfl)) count_walk
theorem okClone212:CtOk Tryz.prog (shP Tryz.prog fun _=>none) 212 (ctClone 4 40 255):=ctClone_ok (by kernel_rfl) Tryz.func212 Tryz.ntmps212 (by omega) (by kernel_rfl) (by kernel_rfl) (fun r e0=>by kernel_rfl)
theorem okClone283:CtOk Tryz.prog (shP Tryz.prog fun _=>none) 283 (ctClone 8 136 248):=ctClone_ok (by kernel_rfl) Tryz.func283 Tryz.ntmps283 (by omega) (by kernel_rfl) (by kernel_rfl) (fun r e0=>by kernel_rfl)
theorem okClone345:CtOk Tryz.prog (shP Tryz.prog fun _=>none) 345 (ctClone 7 128 67):=ctClone_ok (by kernel_rfl) Tryz.func345 Tryz.ntmps345 (by omega) (by kernel_rfl) (by kernel_rfl) (fun r e0=>by kernel_rfl)
theorem sizeB:∃j,Tryz.prog.info? 319=some j/\j.size=2:=Option.map_eq_some_iff.1 (show(Tryz.prog.info? 319).map (·.size)=some 2 by kernel_rfl)
theorem liesB:liesAt Tryz.prog Tryz.prog.depth 319 (2 / Tryz.prog.cellsOf 319) 0 319 1=true:=by kernel_rfl
set_option maxHeartbeats 1000000 in
set_option maxRecDepth 100000 in
theorem copyCheck_used (b:Nat)(w:World)(h0:w.cell? ⟨b,0,none⟩=some (.pointer (some ⟨b,0,none⟩))):
  Calls Tryz.prog 350 #[.pointer (some ⟨b,0,none⟩)] w fun e w'=>e= .returned (.tuple #[])/\w'=w:=by
 obtain⟨j,hj,_⟩:=sizeB
 go_enter Tryz.func350,Tryz.ntmps350
 go_wp2
 rw[Lib.run_neq_ptr_same w _ Tryz.underlying316 hj]
 go_wp2
 go_end0
 exact⟨rfl,rfl⟩
set_option maxHeartbeats 1000000 in
set_option maxRecDepth 100000 in
theorem copyCheck_fresh (b:Nat)(w:World)(h0:w.cell? ⟨b,0,none⟩=some (.pointer none))(hsh:w.shape? b=some (319,2))(hfz:w.frozen? ⟨b,0,none⟩=false):
  Calls Tryz.prog 350 #[.pointer (some ⟨b,0,none⟩)] w fun e w'=>e= .returned (.tuple #[])/\w'=w.setCell ⟨b,0,none⟩ (.pointer (some ⟨b,0,none⟩)):=by
 obtain⟨j,hj,hjs⟩:=sizeB
 go_enter Tryz.func350,Tryz.ntmps350
 go_wp2
 rw[Lib.run_to_unsafe w ⟨b,0,none⟩ Tryz.underlying316 Tryz.underlying433 hj (by rw[hjs];decide) hsh (Nat.zero_lt_succ 1)]
 simp only[Result.andThen]
 rw[Oper.upon_value]
 go_wp2
 rw[run_callFunc_extern Tryz.func409 (by kernel_rfl) (by kernel_rfl) (by kernel_rfl) (e:=Extern.AbiNoEscape.same) (by kernel_rfl)]
 rw[Lib.run_noEscape]
 simp only[Result.andThen]
 rw[Oper.upon_value]
 go_wp2
 rw[Lib.run_from_unsafe w ⟨b,0,none⟩ Tryz.underlying433 Tryz.underlying316 hj hsh liesB]
 simp only[Result.andThen]
 rw[Oper.upon_value]
 go_wp2
 go_end0
 exact⟨rfl,rfl⟩
theorem okCheck {D:Type}{S:Sh D}:CtOk Tryz.prog S 350 (ctCheck 319):=ctCheck_ok (enters_of Tryz.func350 (by kernel_rfl) (by kernel_rfl)) copyCheck_used copyCheck_fresh
theorem okClone381:CtOk Tryz.prog (shP Tryz.prog fun _=>none) 381 (ctClone 14 256 307):=ctClone_ok (by kernel_rfl) Tryz.func381 Tryz.ntmps381 (by omega) (by kernel_rfl) (by kernel_rfl) (fun r e0=>by kernel_rfl)
theorem okClone434:CtOk Tryz.prog (shP Tryz.prog fun _=>none) 434 (ctClone 16 240 69):=ctClone_ok (by kernel_rfl) Tryz.func434 Tryz.ntmps434 (by omega) (by kernel_rfl) (by kernel_rfl) (fun r e0=>by kernel_rfl)
noncomputable def e_indexByte:Ent Z:=⟨178,ctPure gIndexByte,okIndexByte⟩
noncomputable def e_count:Ent Z:=⟨183,ctPure gCount,okCount⟩
end Go.Proofs.YtiibcbmenoaigaaGreatDoor
