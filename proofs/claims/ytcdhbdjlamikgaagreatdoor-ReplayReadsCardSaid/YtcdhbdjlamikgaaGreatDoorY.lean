/-
  Replay: tapes are read as the reference reads them.
-/
import Derived.Test.YtcdhbdjlamikgaaGreatDoorW
namespace Go.Proofs.YtcdhbdjlamikgaaGreatDoor
open Go.RowKit Go.Vc
set_option linter.unusedVariables false
set_option linter.unusedSimpArgs false
set_option maxRecDepth 100000

/-- The tape that a list of frames begins with, and how many frames it takes. -/
noncomputable def tapeS (id : Int) (l : List Frame) : Option (Tape × Nat) :=
  match l with
  | [] => none
  | a :: l1 => if a.Kind = 1 ∧ a.Stream = id ∧ (hreadP a.Data).1.Deadline = 0 ∧ (hreadP a.Data).1.Metas.length = 0 then
      (match l1.drop (msgsL id l1).length with
      | [] => none
      | b :: l3 => if b.Kind = 3 ∧ b.Stream = id then
          (match l3.drop (msgsL id l3).length with
          | [] => none
          | c :: _ => if c.Kind = 4 ∧ c.Stream = id then some (Tape.mk (mpathP (hreadP a.Data).1.Service (hreadP a.Data).1.Method) (msgsL id l1) (msgsL id l3) (stUnpackP c.Data).1, (msgsL id l1).length + (msgsL id l3).length + 3) else none)
        else none)
    else none
theorem fc_open {f : Frame} (h : fcheckP f = 0) (hk : f.Kind = 1) : (hreadP f.Data).2 = 0 := by
  unfold fcheckP fcheck at h
  simp only [val_br, val_ob, val_ret] at h
  rw [hk] at h
  revert h
  cases decide ((1 : Int) < 1) <;> cases decide ((9 : Int) < 1) <;> cases streamedP f <;> cases numberedP f <;> cases filledP f <;> cases decide (16384 < (f.Data.length : Int)) <;> cases decide (2147483647 < f.Stream) <;> intro h <;> first | exact absurd (show (1 : Int) = 0 from h) (by decide) | exact absurd (show (3 : Int) = 0 from h) (by decide) | exact h
theorem fc_status {f : Frame} (h : fcheckP f = 0) (hk : f.Kind = 4) : (stUnpackP f.Data).2 = 0 := by
  unfold fcheckP fcheck at h
  simp only [val_br, val_ob, val_ret] at h
  rw [hk] at h
  revert h
  cases decide ((4 : Int) < 1) <;> cases decide ((9 : Int) < 4) <;> cases streamedP f <;> cases numberedP f <;> cases filledP f <;> cases decide (16384 < (f.Data.length : Int)) <;> cases decide (2147483647 < f.Stream) <;> intro h <;> first | exact absurd (show (1 : Int) = 0 from h) (by decide) | exact absurd (show (3 : Int) = 0 from h) (by decide) | exact h
noncomputable def tB (id : Int) (k : Nat) (a : Frame) (y : Bool × Tape) : (Bool × Tape) ⊕ (Tape × Int × Bool) :=
  bif a.Stream != id then .inr (y.2, 0, false) else bif (((k : Nat) : Int) == 0) != (a.Kind == 1) then .inr (y.2, 0, false) else
  bif a.Kind == 1 then (bif (hreadP a.Data).2 != 0 then .inr (y.2, 0, false) else bif (hreadP a.Data).1.Deadline != 0 then .inr (y.2, 0, false) else bif decide (0 < ((hreadP a.Data).1.Metas.length : Int)) then .inr (y.2, 0, false) else
    .inl (y.1, Tape.mk (mpathP (hreadP a.Data).1.Service (hreadP a.Data).1.Method) y.2.In y.2.Out y.2.Status)) else
  bif a.Kind == 2 then (bif y.1 then .inl (y.1, Tape.mk y.2.Method y.2.In (y.2.Out ++ [a.Data]) y.2.Status) else .inl (y.1, Tape.mk y.2.Method (y.2.In ++ [a.Data]) y.2.Out y.2.Status)) else
  bif a.Kind == 3 then (bif y.1 then .inr (y.2, 0, false) else .inl (true, y.2)) else
  bif a.Kind == 4 then (bif y.1 then .inr (Tape.mk y.2.Method y.2.In y.2.Out (stUnpackP a.Data).1, wrp .i64 ((k : Int) + 1), (stUnpackP a.Data).2 == 0) else .inr (Tape.mk y.2.Method y.2.In y.2.Out (stUnpackP a.Data).1, wrp .i64 ((k : Int) + 1), false)) else .inr (y.2, 0, false)
def tF (_ : Nat) (y : Bool × Tape) : Tape × Int × Bool := (y.2, 0, false)
theorem tape1_def (l : List Frame) (id : Int) : tape1P l id = forE (tB id) tF l 0 (false, Tape.mk [] [] [] (Status.mk 0 [])) := rfl
/-- A frame behind the first one that is no message. -/
theorem tB_other {id : Int} {k : Nat} {a : Frame} (hk : 1 ≤ k) (h2 : ¬ (a.Kind = 2 ∧ a.Stream = id)) (y : Bool × Tape) :
    (y.1 = false → a.Kind = 3 ∧ a.Stream = id → tB id k a y = .inl (true, y.2)) ∧ (y.1 = false → ¬ (a.Kind = 3 ∧ a.Stream = id) → ∃ r, tB id k a y = .inr r ∧ r.2.2 = false) ∧
    (y.1 = true → a.Kind = 4 ∧ a.Stream = id → tB id k a y = .inr (Tape.mk y.2.Method y.2.In y.2.Out (stUnpackP a.Data).1, wrp .i64 ((k : Int) + 1), (stUnpackP a.Data).2 == 0)) ∧ (y.1 = true → ¬ (a.Kind = 4 ∧ a.Stream = id) → ∃ r, tB id k a y = .inr r ∧ r.2.2 = false) := by
  have z : (((k : Nat) : Int) == 0) = false := by rw [beq_eq_false_iff_ne]; omega
  unfold tB
  rw [z]
  by_cases cs : a.Stream = id
  · have qs : (a.Stream != id) = false := by simpa using cs
    rw [qs]
    simp only [cs, and_true] at h2
    have q2 : (a.Kind == 2) = false := by simpa using h2
    by_cases c1 : a.Kind = 1
    · rw [c1]
      refine ⟨fun _ e => absurd e.1 (by decide), fun _ _ => ⟨_, rfl, rfl⟩, fun _ e => absurd e.1 (by decide), fun _ _ => ⟨_, rfl, rfl⟩⟩
    · have q1 : (a.Kind == 1) = false := by simpa using c1
      rw [q1, q2]
      by_cases c3 : a.Kind = 3
      · rw [c3]
        refine ⟨fun e _ => by rw [e]; rfl, fun _ e => absurd ⟨rfl, cs⟩ e, fun _ e => absurd e.1 (by decide), fun e _ => by rw [e]; exact ⟨_, rfl, rfl⟩⟩
      · have q3 : (a.Kind == 3) = false := by simpa using c3
        rw [q3]
        by_cases c4 : a.Kind = 4
        · rw [c4]
          refine ⟨fun _ e => absurd e.1 (by decide), fun e _ => by rw [e]; exact ⟨_, rfl, rfl⟩, fun e _ => by rw [e]; rfl, fun _ e => absurd ⟨rfl, cs⟩ e⟩
        · have q4 : (a.Kind == 4) = false := by simpa using c4
          rw [q4]
          exact ⟨fun _ e => absurd e.1 c3, fun _ _ => ⟨_, rfl, rfl⟩, fun _ e => absurd e.1 c4, fun _ _ => ⟨_, rfl, rfl⟩⟩
  · have qs : (a.Stream != id) = true := by simpa using cs
    rw [qs]
    exact ⟨fun _ e => absurd e.2 cs, fun _ _ => ⟨_, rfl, rfl⟩, fun _ e => absurd e.2 cs, fun _ _ => ⟨_, rfl, rfl⟩⟩
theorem tB_msg {id : Int} {k : Nat} {a : Frame} (hk : 1 ≤ k) (h2 : a.Kind = 2 ∧ a.Stream = id) (y : Bool × Tape) :
    tB id k a y = .inl (y.1, bif y.1 then Tape.mk y.2.Method y.2.In (y.2.Out ++ [a.Data]) y.2.Status else Tape.mk y.2.Method (y.2.In ++ [a.Data]) y.2.Out y.2.Status) := by
  have z : (((k : Nat) : Int) == 0) = false := by rw [beq_eq_false_iff_ne]; omega
  have qs : (a.Stream != id) = false := by simpa using h2.2
  unfold tB
  rw [z, qs, h2.1]
  cases y.1 <;> rfl
theorem loopA (id : Int) : ∀ (l : List Frame) (k : Nat) (m : Str) (ins out : List Str) (st : Status), 1 ≤ k →
    (∃ b l3, l.drop (msgsL id l).length = b :: l3 ∧ (b.Kind = 3 ∧ b.Stream = id) ∧ forE (tB id) tF l k (false, Tape.mk m ins out st) = forE (tB id) tF l3 (k + (msgsL id l).length + 1) (true, Tape.mk m (ins ++ msgsL id l) out st)) ∨
    ((∀ b l3, l.drop (msgsL id l).length = b :: l3 → ¬ (b.Kind = 3 ∧ b.Stream = id)) ∧ (forE (tB id) tF l k (false, Tape.mk m ins out st)).2.2 = false)
  | [], k, m, ins, out, st, hk => .inr ⟨fun b l3 e => (nomatch e), rfl⟩
  | a :: l, k, m, ins, out, st, hk => by
    by_cases h2 : a.Kind = 2 ∧ a.Stream = id
    · have hm : msgsL id (a :: l) = a.Data :: msgsL id l := by rw [msgsL, if_pos h2]
      have hf : forE (tB id) tF (a :: l) k (false, Tape.mk m ins out st) = forE (tB id) tF l (k + 1) (false, Tape.mk m (ins ++ [a.Data]) out st) := by
        conv => lhs; unfold forE
        rw [tB_msg hk h2]
        rfl
      rw [hm, hf]
      have hc : (a.Data :: msgsL id l).length = (msgsL id l).length + 1 := rfl
      rw [hc]
      rcases loopA id l (k + 1) m (ins ++ [a.Data]) out st (by omega) with ⟨b, l3, e1, e2, e3⟩ | ⟨e1, e2⟩
      · refine .inl ⟨b, l3, e1, e2, ?_⟩
        rw [e3, List.append_assoc, show k + 1 + (msgsL id l).length + 1 = k + ((msgsL id l).length + 1) + 1 by omega]
        rfl
      · exact .inr ⟨e1, e2⟩
    · have hm : msgsL id (a :: l) = [] := by rw [msgsL, if_neg h2]
      rw [hm]
      obtain ⟨p1, p2, _, _⟩ := tB_other hk h2 (false, Tape.mk m ins out st)
      by_cases h3 : a.Kind = 3 ∧ a.Stream = id
      · refine .inl ⟨a, l, rfl, h3, ?_⟩
        conv => lhs; unfold forE
        rw [p1 rfl h3, List.append_nil]
        rfl
      · obtain ⟨r, e1, e2⟩ := p2 rfl h3
        refine .inr ⟨fun b l3 e => ?_, ?_⟩
        · injection e with e _
          subst e
          exact h3
        · unfold forE
          rw [e1]
          exact e2
theorem loopB (id : Int) : ∀ (l : List Frame) (k : Nat) (m : Str) (ins out : List Str) (st : Status), 1 ≤ k → k + l.length ≤ 9000 → (∀ f ∈ l, goodF f) →
    (∃ c r, l.drop (msgsL id l).length = c :: r ∧ (c.Kind = 4 ∧ c.Stream = id) ∧ forE (tB id) tF l k (true, Tape.mk m ins out st) = (Tape.mk m ins (out ++ msgsL id l) (stUnpackP c.Data).1, ((k + (msgsL id l).length + 1 : Nat) : Int), true)) ∨
    ((∀ c r, l.drop (msgsL id l).length = c :: r → ¬ (c.Kind = 4 ∧ c.Stream = id)) ∧ (forE (tB id) tF l k (true, Tape.mk m ins out st)).2.2 = false)
  | [], k, m, ins, out, st, hk, hl, hg => .inr ⟨fun b l3 e => (nomatch e), rfl⟩
  | a :: l, k, m, ins, out, st, hk, hl, hg => by
    simp only [List.length_cons] at hl
    by_cases h2 : a.Kind = 2 ∧ a.Stream = id
    · have hm : msgsL id (a :: l) = a.Data :: msgsL id l := by rw [msgsL, if_pos h2]
      have hf : forE (tB id) tF (a :: l) k (true, Tape.mk m ins out st) = forE (tB id) tF l (k + 1) (true, Tape.mk m ins (out ++ [a.Data]) st) := by
        conv => lhs; unfold forE
        rw [tB_msg hk h2]
        rfl
      rw [hm, hf]
      have hc : (a.Data :: msgsL id l).length = (msgsL id l).length + 1 := rfl
      rw [hc]
      rcases loopB id l (k + 1) m ins (out ++ [a.Data]) st (by omega) (by omega) (fun f hf => hg f (by simp [hf])) with ⟨b, l3, e1, e2, e3⟩ | ⟨e1, e2⟩
      · refine .inl ⟨b, l3, e1, e2, ?_⟩
        rw [e3, List.append_assoc, show k + 1 + (msgsL id l).length + 1 = k + ((msgsL id l).length + 1) + 1 by omega]
        rfl
      · exact .inr ⟨e1, e2⟩
    · have hm : msgsL id (a :: l) = [] := by rw [msgsL, if_neg h2]
      rw [hm]
      obtain ⟨_, _, p1, p2⟩ := tB_other hk h2 (true, Tape.mk m ins out st)
      by_cases h3 : a.Kind = 4 ∧ a.Stream = id
      · refine .inl ⟨a, l, rfl, h3, ?_⟩
        have hs := fc_status (hg a (by simp)).2 h3.1
        conv => lhs; unfold forE
        rw [p1 rfl h3, List.append_nil, hs, wrp_next (by omega)]
        rfl
      · obtain ⟨r, e1, e2⟩ := p2 rfl h3
        refine .inr ⟨fun b l3 e => ?_, ?_⟩
        · injection e with e _
          subst e
          exact h3
        · unfold forE
          rw [e1]
          exact e2
theorem tape1_spec (l : List Frame) (id : Int) (h : okFs l) : (tapeS id l = none ∧ (tape1P l id).2.2 = false) ∨ ∃ t n, tapeS id l = some (t, n) ∧ tape1P l id = (t, (n : Int), true) ∧ 1 ≤ n ∧ n ≤ l.length := by
  rw [tape1_def]
  cases l with
  | nil => exact .inl ⟨rfl, rfl⟩
  | cons a l1 =>
    obtain ⟨hl, hg⟩ := h
    simp only [List.length_cons] at hl
    have ga := (hg a (by simp)).2
    by_cases c0 : a.Kind = 1 ∧ a.Stream = id ∧ (hreadP a.Data).1.Deadline = 0 ∧ (hreadP a.Data).1.Metas.length = 0
    · obtain ⟨c1, c2, c3, c4⟩ := c0
      have hh := fc_open ga c1
      have hf : forE (tB id) tF (a :: l1) 0 (false, Tape.mk [] [] [] (Status.mk 0 [])) = forE (tB id) tF l1 1 (false, Tape.mk (mpathP (hreadP a.Data).1.Service (hreadP a.Data).1.Method) [] [] (Status.mk 0 [])) := by
        conv => lhs; unfold forE
        have qs : (a.Stream != id) = false := by simpa using c2
        have hb : tB id 0 a (false, Tape.mk [] [] [] (Status.mk 0 [])) = .inl (false, Tape.mk (mpathP (hreadP a.Data).1.Service (hreadP a.Data).1.Method) [] [] (Status.mk 0 [])) := by
          unfold tB
          rw [qs, c1, hh, c3, c4]
          rfl
        rw [hb]
      have hS : tapeS id (a :: l1) = (match l1.drop (msgsL id l1).length with
          | [] => none
          | b :: l3 => if b.Kind = 3 ∧ b.Stream = id then
              (match l3.drop (msgsL id l3).length with
              | [] => none
              | c :: _ => if c.Kind = 4 ∧ c.Stream = id then some (Tape.mk (mpathP (hreadP a.Data).1.Service (hreadP a.Data).1.Method) (msgsL id l1) (msgsL id l3) (stUnpackP c.Data).1, (msgsL id l1).length + (msgsL id l3).length + 3) else none)
            else none) := by
        conv => lhs; unfold tapeS
        dsimp only
        rw [if_pos ⟨c1, c2, c3, c4⟩]
      rw [hf, hS]
      have m1 := msgs_len id l1
      rcases loopA id l1 1 (mpathP (hreadP a.Data).1.Service (hreadP a.Data).1.Method) [] [] (Status.mk 0 []) (by omega) with ⟨b, l3, e1, e2, e3⟩ | ⟨e1, e2⟩
      · rw [e3, e1]
        dsimp only
        rw [if_pos e2]
        have hl3 : (msgsL id l1).length + 1 + l3.length = l1.length := by
          have := congrArg List.length e1
          rw [List.length_drop, List.length_cons] at this
          omega
        have sub3 : ∀ f ∈ l3, goodF f := fun f hf => hg f (List.mem_cons_of_mem _ (List.mem_of_mem_drop (by rw [e1]; exact List.mem_cons_of_mem _ hf)))
        rcases loopB id l3 (1 + (msgsL id l1).length + 1) (mpathP (hreadP a.Data).1.Service (hreadP a.Data).1.Method) ([] ++ msgsL id l1) [] (Status.mk 0 []) (by omega) (by omega) sub3 with ⟨c, r, f1, f2, f3⟩ | ⟨f1, f2⟩
        · rw [f3, f1]
          dsimp only
          rw [if_pos f2]
          have hlen := congrArg List.length f1
          rw [List.length_drop, List.length_cons] at hlen
          refine .inr ⟨_, _, rfl, ?_, by omega, by simp only [List.length_cons]; omega⟩
          rw [List.nil_append, List.nil_append, show 1 + (msgsL id l1).length + 1 + (msgsL id l3).length + 1 = (msgsL id l1).length + (msgsL id l3).length + 3 by omega]
        · refine .inl ⟨?_, f2⟩
          cases hd : l3.drop (msgsL id l3).length with
          | nil => rfl
          | cons c r =>
            dsimp only
            rw [if_neg (f1 c r hd)]
      · refine .inl ⟨?_, e2⟩
        cases hd : l1.drop (msgsL id l1).length with
        | nil => rfl
        | cons b l3 =>
          dsimp only
          rw [if_neg (e1 b l3 hd)]
    · refine .inl ⟨by unfold tapeS; dsimp only; rw [if_neg c0], ?_⟩
      have hb : ∃ r, tB id 0 a (false, Tape.mk [] [] [] (Status.mk 0 [])) = .inr r ∧ r.2.2 = false := by
        unfold tB
        by_cases c2 : a.Stream = id
        · have qs : (a.Stream != id) = false := by simpa using c2
          rw [qs]
          by_cases c1 : a.Kind = 1
          · rw [fc_open ga c1, c1]
            by_cases c3 : (hreadP a.Data).1.Deadline = 0
            · have c4 : 0 < (hreadP a.Data).1.Metas.length := by
                have : ¬ (hreadP a.Data).1.Metas.length = 0 := fun e => c0 ⟨c1, c2, c3, e⟩
                omega
              rw [c3, decide_eq_true (show (0 : Int) < ((hreadP a.Data).1.Metas.length : Int) by omega)]
              exact ⟨_, rfl, rfl⟩
            · have q3 : ((hreadP a.Data).1.Deadline != 0) = true := by simpa using c3
              rw [q3]
              exact ⟨_, rfl, rfl⟩
          · have q1 : (a.Kind == 1) = false := by simpa using c1
            rw [q1]
            exact ⟨_, rfl, rfl⟩
        · have qs : (a.Stream != id) = true := by simpa using c2
          rw [qs]
          exact ⟨_, rfl, rfl⟩
      obtain ⟨r, e1, e2⟩ := hb
      unfold forE
      rw [e1]
      exact e2
end Go.Proofs.YtcdhbdjlamikgaaGreatDoor
