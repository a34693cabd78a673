/-
  Own engine: Veh.
-/
import Derived.Test.YtcdhbdjlamikgaaGreatDoorEng18
import Derived.Test.YtcdhbdjlamikgaaGreatDoorEng11
namespace Go.Vc
open Go.RowKit
set_option linter.unusedVariables false

/-- A function without arguments that gives this bool. -/
def ctB (D : Type) (b : Bool) : Ct D := fun args bks =>
  match args, bks with
  | [], [] => some (none, .one (.lf (.bool b)), [], [])
  | _, _ => none
def isB {D : Type} (b : Bool) : Sl D → Bool
  | .one (.lf (.bool c)) => boolBq b c
  | .one (.lf (.val (.bool c))) => boolBq b c
  | _ => false
theorem isB_rel {D : Type} {S : Sh D} {M : Nat → Prop} {w : World} {g : Nat → Option Value} {b : Bool} {r : Sl D} {v : Value} (h : isB b r = true) (hr : r.Rel S M w g v) : v = .bool b := by
  unfold isB at h
  split at h
  · rw [boolBq_eq h]; exact hr
  · rw [boolBq_eq h]; exact hr
  · cases h
theorem ctB_ok {D DU : Type} {S : Sh D} {SU : Sh DU} {P : Program} {f : FuncId} {ct : Ct DU} {b : Bool} {r : Sl DU} (hgl : SU.glob = fun _ => none) (h : CtOk P SU f ct) (hr : ct [] [] = some (none, r, [], [])) (hb : isB b r = true) : CtOk P S f (ctB D b) := by
  refine ⟨h.enters, fun X N g w args sargs bks p r' post kp hp hrel hct hpre => ?_⟩
  unfold ctB at hct
  split at hct
  · injection hct with hct
    injection hct with q1 hct
    injection hct with q2 hct
    injection hct with q3 q4
    subst q1 q2 q3 q4
    have ha : args = [] := by
      cases args with
      | nil => rfl
      | cons a r => cases hrel
    subst ha
    have hno : ∀ l, tabOf ([] : List (Bk DU)) l = none := fun l => by simp [tabOf]
    have hU : Hp SU ⟨w, fun _ => False⟩ N (tabOf []) g (· < ([] : List (Bk DU)).length) w :=
      ⟨BelowX.refl _, fun b hb => ⟨(hp.hN b hb).1, fun e => e⟩, fun l bk hl => (by rw [hno] at hl; cases hl), fun l l' v v' b hl => (by rw [hno] at hl; cases hl), hp.al, hp.refs, fun i d hd => (by rw [hgl] at hd; cases hd)⟩
    refine (h.calls (fun _ => False) N g w [] [] [] none r [] [] hU trivial hr trivial).mono ?_
    rintro e w' ⟨v, g', rfl, hm, hU', hv⟩
    have hno' : ∀ l, tabK [] [] ([] : List (Bk D)) l = none := fun l => by simp [tabK, lookB, memB]
    have hnh : ∀ {l}, hot (tabK [] [] ([] : List (Bk D)) l) = true → False := fun {l} e => by rw [hno'] at e; cases e
    have hM : ∀ b, Mset N (tabK [] [] ([] : List (Bk D))) g' b → N b := fun b hb => by
      rcases hb with hb | ⟨l, _, hl, _⟩
      · exact hb
      · exact (hnh hl).elim
    have hB : BelowX ⟨w, X⟩ w' := ⟨hU'.below.os, hU'.below.tape, hU'.below.output, hU'.below.size, fun k h1 _ => hU'.below.block k h1 (fun e => e)⟩
    refine ⟨v, g', rfl, hm, ⟨hB, hp.hN, fun l bk hl => (by rw [hno'] at hl; cases hl), fun l l' v v' b hl => (hnh hl).elim, fun _ _ _ => trivial, hU'.refs, hp.gl.keep ⟨hU'.below.size, fun b hb hn => ⟨fun e => hn (.inl (hM b e)), hU'.below.block b hb (fun e => e)⟩⟩⟩, ?_⟩
    rw [isB_rel hb hv]
    rfl
  · cases hct
/-! ### the contracts beside the run, at a program -/
section
variable {D : Type} {P : Program} {S : Sh D}
theorem enters_of {f : FuncId} {fn : Func} (hf : P.funcs[f]? = some fn) (h1 : fn.body.isSome = true) (h2 : (fn.name == "runtime.NumGoroutine") = false) (args : Array Value) (w : World) : (callFunc f args).run P w = .ok (.enter f args) w := by
  obtain ⟨c, hb⟩ := Option.isSome_iff_exists.1 h1
  have h2 : ¬ fn.name = "runtime.NumGoroutine" := by simpa using h2
  simp [callFunc, hf, h2, hb]
theorem okIndexByte_of {f : FuncId} (hen : ∀ (args : Array Value) (w : World), (callFunc f args).run P w = .ok (.enter f args) w)
    (h : ∀ (s : ByteArray) (c : Int) (w : World), Calls P f #[.string s, .int .u8 c] w fun e w' => e = .returned (.int .i64 (Lib.indexByte s.data.toList c.toNat.toUInt8)) ∧ w' = w) : CtOk P S f (ctPure gIndexByte) := by
  refine ctPure_ok hen fun M w gh args vals r hg hrel => ?_
  unfold gIndexByte at hg
  split at hg
  · rename_i s c
    injection hg with hg
    subst hg
    match vals, hrel with
    | [v1, v2], hrel =>
      obtain ⟨⟨h1, _⟩, h2, _⟩ := hrel
      rw [h1, show v2 = .int .u8 c from h2]
      exact ⟨_, h _ _ _, rfl⟩
  · cases hg
theorem okCount_of {f : FuncId} (hen : ∀ (args : Array Value) (w : World), (callFunc f args).run P w = .ok (.enter f args) w)
    (h : ∀ (s : ByteArray) (c : UInt8) (w : World), Calls P f #[.string s, .string ⟨#[c]⟩] w fun e w' => e = .returned (.int .i64 (Lib.countByte s.data.toList c)) ∧ w' = w) : CtOk P S f (ctPure gCount) := by
  refine ctPure_ok hen fun M w gh args vals r hg hrel => ?_
  unfold gCount at hg
  split at hg
  · rename_i s c
    injection hg with hg
    subst hg
    match vals, hrel with
    | [v1, v2], hrel =>
      obtain ⟨⟨h1, _⟩, ⟨h2, _⟩, _⟩ := hrel
      rw [h1, h2]
      exact ⟨_, h _ _ _, rfl⟩
  · cases hg
end
end Go.Vc
