/-
  Contracts of functions of the library, by walks of their code.
-/
import Derived.Test.YtcdhbdjlamikgaaGreatDoorA
import Derived.Test.YtcdhbdjlamikgaaGreatDoorEng20
import Derived.Lib.Strings
import Derived.Lib.Slices
import Derived.Lib.Walk
import Derived.Lib.Bytealg
import Derived.Lib.Builder
namespace Go.Proofs.YtcdhbdjlamikgaaGreatDoor
open Go.RowKit Go.Vc
set_option linter.unusedVariables false
set_option maxRecDepth 100000
set_option maxHeartbeats 4000000
theorem sizeB : ∃ j, Tryz.prog.info? 91 = some j ∧ j.size = 2 := Option.map_eq_some_iff.1 (show (Tryz.prog.info? 91).map (·.size) = some 2 by kernel_rfl)
theorem liesB : liesAt Tryz.prog Tryz.prog.depth 91 (2 / Tryz.prog.cellsOf 91) 0 91 1 = true := by kernel_rfl
set_option maxHeartbeats 1000000 in
set_option maxRecDepth 100000 in
theorem copyCheck_used (b : Nat) (w : World) (h0 : w.cell? ⟨b, 0, none⟩ = some (.pointer (some ⟨b, 0, none⟩))) :
    Calls Tryz.prog 60 #[.pointer (some ⟨b, 0, none⟩)] w fun e w' => e = .returned (.tuple #[]) ∧ w' = w := by
  obtain ⟨j, hj, _⟩ := sizeB
  go_enter Tryz.func60, Tryz.ntmps60
  go_wp2
  rw [Lib.run_neq_ptr_same w _ Tryz.underlying88 hj]
  go_wp2
  go_end0
  exact ⟨rfl, rfl⟩
set_option maxHeartbeats 1000000 in
set_option maxRecDepth 100000 in
theorem copyCheck_fresh (b : Nat) (w : World) (h0 : w.cell? ⟨b, 0, none⟩ = some (.pointer none)) (hsh : w.shape? b = some (91, 2)) (hfz : w.frozen? ⟨b, 0, none⟩ = false) :
    Calls Tryz.prog 60 #[.pointer (some ⟨b, 0, none⟩)] w fun e w' => e = .returned (.tuple #[]) ∧ w' = w.setCell ⟨b, 0, none⟩ (.pointer (some ⟨b, 0, none⟩)) := by
  obtain ⟨j, hj, hjs⟩ := sizeB
  go_enter Tryz.func60, Tryz.ntmps60
  go_wp2
  rw [Lib.run_to_unsafe w ⟨b, 0, none⟩ Tryz.underlying88 Tryz.underlying214 hj (by rw [hjs]; decide) hsh (Nat.zero_lt_succ 1)]
  simp only [Result.andThen]
  rw [Oper.upon_value]
  go_wp2
  rw [run_callFunc_extern Tryz.func113 (by kernel_rfl) (by kernel_rfl) (by kernel_rfl) (e := Extern.AbiNoEscape.same) (by kernel_rfl)]
  rw [Lib.run_noEscape]
  simp only [Result.andThen]
  rw [Oper.upon_value]
  go_wp2
  rw [Lib.run_from_unsafe w ⟨b, 0, none⟩ Tryz.underlying214 Tryz.underlying88 hj hsh liesB]
  simp only [Result.andThen]
  rw [Oper.upon_value]
  go_wp2
  go_end0
  exact ⟨rfl, rfl⟩
theorem okCheck {D : Type} {S : Sh D} : CtOk Tryz.prog S 60 (ctCheck 91) := ctCheck_ok (enters_of Tryz.func60 (by kernel_rfl) (by kernel_rfl)) copyCheck_used copyCheck_fresh
theorem okClone118 : CtOk Tryz.prog (shP Tryz.prog fun _ => none) 118 (ctClone 2 16 224) := ctClone_ok (by kernel_rfl) Tryz.func118 Tryz.ntmps118 (by omega) (by kernel_rfl) (by kernel_rfl) (fun r e0 => by kernel_rfl)
theorem okClone215 : CtOk Tryz.prog (shP Tryz.prog fun _ => none) 215 (ctClone 4 40 283) := ctClone_ok (by kernel_rfl) Tryz.func215 Tryz.ntmps215 (by omega) (by kernel_rfl) (by kernel_rfl) (fun r e0 => by kernel_rfl)
set_option maxHeartbeats 1000000 in
set_option maxRecDepth 100000 in
theorem indexByte_walk (s : ByteArray) (c : Int) (w : World) :
    Calls Tryz.prog 243 #[.string s, .int .u8 c] w fun e w' => e = .returned (.int .i64 (Lib.indexByte s.data.toList c.toNat.toUInt8)) ∧ w' = w := by
  go_enter Tryz.func243, Tryz.ntmps243
  go_wp2
  rw [run_callFunc_extern Tryz.func356 (by kernel_rfl) (by kernel_rfl) (by kernel_rfl) (e := Extern.BytealgIndexByte.indexByte) (by kernel_rfl), Lib.run_indexByteString]
  simp only [Result.andThen]
  rw [Oper.upon_value]
  go_wp2
  go_ret
  exact ⟨rfl, rfl⟩
theorem okIndexByte {D : Type} {S : Sh D} : CtOk Tryz.prog S 243 (ctPure gIndexByte) := okIndexByte_of (enters_of Tryz.func243 (by kernel_rfl) (by kernel_rfl)) indexByte_walk
set_option maxHeartbeats 1000000 in
set_option maxRecDepth 100000 in
theorem count_walk (s : ByteArray) (c : UInt8) (w : World) :
    Calls Tryz.prog 277 #[.string s, .string ⟨#[c]⟩] w fun e w' => e = .returned (.int .i64 (Lib.countByte s.data.toList c)) ∧ w' = w := by
  go_enter Tryz.func277, Tryz.ntmps277
  go_wp2
  rw [run_callFunc_extern Tryz.func381 (by kernel_rfl) (by kernel_rfl) (by kernel_rfl) (e := Extern.BytealgCount.count) (by kernel_rfl), Lib.run_countString]
  simp only [Result.andThen]
  rw [Oper.upon_value]
  go_wp2
  go_ret
  exact ⟨rfl, rfl⟩
theorem okCount {D : Type} {S : Sh D} : CtOk Tryz.prog S 277 (ctPure gCount) := okCount_of (enters_of Tryz.func277 (by kernel_rfl) (by kernel_rfl)) count_walk
theorem okClone288 : CtOk Tryz.prog (shP Tryz.prog fun _ => none) 288 (ctClone 8 136 276) := ctClone_ok (by kernel_rfl) Tryz.func288 Tryz.ntmps288 (by omega) (by kernel_rfl) (by kernel_rfl) (fun r e0 => by kernel_rfl)
theorem okClone350 : CtOk Tryz.prog (shP Tryz.prog fun _ => none) 350 (ctClone 7 128 50) := ctClone_ok (by kernel_rfl) Tryz.func350 Tryz.ntmps350 (by omega) (by kernel_rfl) (by kernel_rfl) (fun r e0 => by kernel_rfl)
theorem okClone399 : CtOk Tryz.prog (shP Tryz.prog fun _ => none) 399 (ctClone 14 256 344) := ctClone_ok (by kernel_rfl) Tryz.func399 Tryz.ntmps399 (by omega) (by kernel_rfl) (by kernel_rfl) (fun r e0 => by kernel_rfl)
theorem okClone443 : CtOk Tryz.prog (shP Tryz.prog fun _ => none) 443 (ctClone 16 240 53) := ctClone_ok (by kernel_rfl) Tryz.func443 Tryz.ntmps443 (by omega) (by kernel_rfl) (by kernel_rfl) (fun r e0 => by kernel_rfl)
noncomputable def e_copyCheck : Ent Z := ⟨60, ctCheck 91, okCheck⟩
noncomputable def e_indexByte : Ent Z := ⟨243, ctPure gIndexByte, okIndexByte⟩
noncomputable def e_count : Ent Z := ⟨277, ctPure gCount, okCount⟩
noncomputable def e_writeString : Ent Z := entI Z [e_copyCheck] 28 Tryz.func28 (by kernel_rfl)
noncomputable def e_bString : Ent Z := entI Z [] 29 Tryz.func29 (by kernel_rfl)
end Go.Proofs.YtcdhbdjlamikgaaGreatDoor
