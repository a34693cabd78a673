/-
  Replay: frames, split.
-/
import Derived.Test.YtcdhbdjlamikgaaGreatDoorS
namespace Go.Proofs.YtcdhbdjlamikgaaGreatDoor
open Go.RowKit Go.Vc
set_option linter.unusedVariables false
set_option linter.unusedSimpArgs false
set_option maxRecDepth 100000

theorem whN_cong {X R : Type} {step step' : X → X ⊕ R} {r0 : R} (I : X → Prop) (hs : ∀ x, I x → step x = step' x) (hk : ∀ x x', I x → step x = .inl x' → I x') : ∀ (n : Nat) (x : X), I x → whN step r0 n x = whN step' r0 n x
  | 0, _, _ => rfl
  | n + 1, x, h => by
    unfold whN
    rw [← hs x h]
    cases hx : step x with
    | inl x' => exact whN_cong I hs hk n x' (hk x x' h hx)
    | inr r => rfl
theorem hread_isP (data : Str) (h : data.length ≤ 4294967296) : IsP (hread data) (fun r => r.1.Service.length ≤ 4294967296 ∧ r.1.Method.length ≤ 4294967296) := by
  show IsP (hread data) (fun r => r.1.Service.length ≤ 4294967296 ∧ r.1.Method.length ≤ 4294967296)
  refine isP_ob h (isP_lt fun v6 hv6 => ?_)
  have s6 := ttext_s (frame_taker.mk data 0) h
  rw [← hv6] at s6
  have s7 := ttext_s v6.2 s6.1
  have n1 := tnum_rng (ttextP v6.2).2
  have n2 := tnum_rng (tnumP (ttextP v6.2).2).2
  refine isP_ob s6.1 (isP_lt fun v7 hv7 => ?_)
  rw [← hv7] at n2
  refine isP_cut (fun y1 => y1.s.length ≤ 4294967296 ∧ (y1.errno = 0 → v7.1 ≤ 16)) ?_ (fun y1 hy1 => ?_)
  · refine isP_beq (fun e => isP_brd (fun _ => isP_ret ?_) (fun hn => isP_ret ?_)) (fun e => isP_ret ?_)
    · exact ⟨by show v7.2.s.length ≤ _; omega, fun e => absurd e (show ¬ (3 : Int) = 0 by decide)⟩
    · exact ⟨by omega, fun _ => by omega⟩
    · exact ⟨by omega, fun e' => absurd e' e⟩
  · refine isP_lt fun v8 hv8 => ?_
    rw [← hv8] at s7
    refine isP_cut (fun y5 => okM y5.2 ∧ y5.2.Metas.length ≤ 17) ?_ (fun y5 hy5 => ?_)
    · refine isP_wh (fun x => 0 ≤ x.1 ∧ x.1 ≤ 17 ∧ (x.2.2.Metas.length : Int) = x.1 ∧ okM x.2.2 ∧ x.2.1.s.length ≤ 4294967296 ∧ (x.2.1.errno = 0 → v7.1 ≤ 16)) (fun x => (18 - x.1).toNat) ⟨by show (0 : Int) ≤ 0; decide, by show (0 : Int) ≤ 17; decide, rfl, ⟨s6.2, s7.2, fun m hm => nomatch hm⟩, hy1.1, hy1.2⟩ (by show (18 - (0 : Int)).toNat < 20; decide) (fun x hx => ?_)
      obtain ⟨i, t, hd⟩ := x
      obtain ⟨c1, c2, c3, c4, c5, c6⟩ := hx
      dsimp only at c1 c2 c3 c4 c5 c6 ⊢
      have fin : okM hd ∧ hd.Metas.length ≤ 17 := ⟨c4, by omega⟩
      refine isP_brd (fun hlt => isP_beq (fun e => ?_) (fun _ => isP_ret fin)) (fun _ => isP_ret fin)
      have hm := c6 e
      have t1 := ttext_s t c5
      have t2 := ttext_s _ t1.1
      have w : wrp .u64 (i + 1) = i + 1 := by
        obtain ⟨n, rfl⟩ : ∃ n : Nat, i = (n : Int) := ⟨i.toNat, by omega⟩
        exact wrp_of (k := .u64) rfl (show n + 1 < 2 ^ 64 by omega)
      refine isP_ob c5 (isP_lt fun v12 hv12 => ?_)
      subst hv12
      refine isP_ob t1.1 (isP_ob (room_of (by omega) (by omega)) (isP_lt fun v13 hv13 => isP_ret ?_))
      subst hv13
      rw [w]
      refine ⟨⟨by show 0 ≤ i + 1; omega, by show i + 1 ≤ 17; omega, by show ((hd.Metas ++ [_]).length : Int) = i + 1; rw [List.length_append, List.length_singleton]; omega, okM_add c4 t1.2 t2.2, t2.1, fun _ => hm⟩, by show (18 - (i + 1)).toNat < (18 - i).toNat; omega⟩
    · refine isP_bne (fun _ => isP_ret ⟨Nat.zero_le _, Nat.zero_le _⟩) (fun _ => isP_br (fun _ => isP_ret ⟨Nat.zero_le _, Nat.zero_le _⟩) (fun _ => isP_lt fun v9 hv9 => isP_brd (fun _ => isP_ret ⟨Nat.zero_le _, Nat.zero_le _⟩) (fun _ => isP_lt fun v10 hv10 => isP_ob (okM_head hy5.1 hy5.2) (isP_lt fun v11 hv11 => isP_bne (fun _ => isP_ret ⟨Nat.zero_le _, Nat.zero_le _⟩) (fun _ => isP_br (fun _ => isP_ret ⟨Nat.zero_le _, Nat.zero_le _⟩) (fun _ => isP_ret ⟨hy5.1.1, hy5.1.2.1⟩))))))
theorem hread_q (data : Str) (h : data.length ≤ 4294967296) : (hreadP data).1.Service.length ≤ 4294967296 ∧ (hreadP data).1.Method.length ≤ 4294967296 := (hread_isP data h).2
def goodF (f : Frame) : Prop := f.Data.length ≤ 9000 ∧ fcheckP f = 0

noncomputable def fsplit (data : Str) : Pg (List Frame × List UInt8 × Int) :=
  .wh (data.length + 1) default
    (fun (x1 : List UInt8 × List Frame) =>
      .ob (x1.fst.length ≤ 9000)
        (.lt (freadP x1.fst) fun (v2 : Frame × Int × Int) =>
          .br (v2.snd.snd == 0)
            (.ob (roomP (x1.snd.length + 1) 40)
              (.ob (0 ≤ v2.snd.fst ∧ v2.snd.fst ≤ (↑x1.fst.length : Int) ∧ (↑x1.fst.length : Int) ≤ (↑x1.fst.length : Int))
                (.ret (.inl (List.drop v2.snd.fst.toNat (List.take x1.fst.length x1.fst), x1.snd ++ [v2.fst])))))
            (.br (v2.snd.snd == 4) (.ret (.inr (x1.snd, x1.fst, 0))) (.ret (.inr ([], [], v2.snd.snd))))))
    (data, [])
noncomputable def fsplitP (data : Str) : (List Frame) × Str × Int := (fsplit data).val

theorem fsplit_isP (data : Str) (h : data.length ≤ 9000) : IsP (fsplit data) (fun r => r.1.length ≤ data.length ∧ ∀ f ∈ r.1, goodF f) := by
  refine isP_wh (fun x => x.1.length + x.2.length ≤ data.length ∧ ∀ f ∈ x.2, goodF f) (fun x => x.1.length) ⟨by show data.length + 0 ≤ _; omega, fun f hf => nomatch hf⟩ (by show data.length < _; omega) (fun x hx => ?_)
  obtain ⟨r, acc⟩ := x
  obtain ⟨hx, hg⟩ := hx
  dsimp only at hx hg ⊢
  refine isP_ob (by omega) (isP_lt fun v2 hv2 => isP_beq (fun e => ?_) (fun _ => isP_beq (fun _ => isP_ret ⟨by show acc.length ≤ _; omega, hg⟩) (fun _ => isP_ret ⟨Nat.zero_le _, fun f hf => nomatch hf⟩)))
  have hk := fread_ok r (by omega) (by rw [← hv2]; exact e)
  rw [← hv2] at hk
  obtain ⟨k1, k2, k3, k4⟩ := hk
  refine isP_ob (room_of (by omega) (by omega)) (isP_ob (by omega) (isP_ret ?_))
  rw [List.take_length]
  refine ⟨⟨?_, fun f hf => ?_⟩, ?_⟩
  · show (List.drop _ r).length + (acc ++ [v2.1]).length ≤ _
    rw [List.length_drop, List.length_append, List.length_singleton]
    omega
  · have hf : f ∈ acc ++ [v2.1] := hf
    rcases List.mem_append.1 hf with hf | hf
    · exact hg f hf
    · rw [List.mem_singleton] at hf
      subst hf
      exact ⟨k3, k4⟩
  · show (List.drop _ r).length < r.length
    rw [List.length_drop]
    omega

theorem fsplit_is (data : Str) (h : data.length ≤ 9000) : Is (fsplit data) :=
  (fsplit_isP data h).is
noncomputable def e_fsplit : Ent Z := entN Z [e_fread] [jS 2 (shp (fun sl => [.slot 0 false [none], .slot 5 false [some 94]]) (lCons cStr (l1 cd_LFrame)))] (args (a1 (aLf cStr))) (argsI (n := 30) rfl) (shr [.slot 0 false [none], .slot 1 false [none], .slot 2 false [none]] (lCons cd_LFrame (lCons cStr (l1 (cInt .i64))))) [] Tryz.func17 Tryz.ntmps17 (by kernel_rfl) 3 rfl (fun a => fsplit a) (fun a => some (a.length ≤ 9000)) (fun a e _ => by kernel_rfl) (fun a => fsplitP a) (fun a h => ⟨fsplit_is a h, rfl⟩)

noncomputable def rfsplit (data : Str) : Pg (List Frame × List UInt8 × Int) :=
  .wh (data.length + 1) default
    (fun (x1 : List UInt8 × List Frame) =>
      .ob (x1.fst.length ≤ 9000)
        (.lt (rfreadP x1.fst) fun (v2 : Frame × Int × Int) =>
          .br (v2.snd.snd == 4) (.ret (.inr (x1.snd, x1.fst, 0)))
            (.br (v2.snd.snd != 0) (.ret (.inr ([], [], v2.snd.snd)))
              (.ob (roomP (x1.snd.length + 1) 40)
                (.ob (0 ≤ v2.snd.fst ∧ v2.snd.fst ≤ (↑x1.fst.length : Int) ∧ (↑x1.fst.length : Int) ≤ (↑x1.fst.length : Int))
                  (.ret (.inl (List.drop v2.snd.fst.toNat (List.take x1.fst.length x1.fst), x1.snd ++ [v2.fst]))))))))
    (data, [])
noncomputable def rfsplitP (data : Str) : (List Frame) × Str × Int := (rfsplit data).val

theorem rfsplit_is0 (data : Str) (h : data.length ≤ 9000) : Is (rfsplit data) := by
  refine IsP.is (Q := fun _ => True) (isP_wh (fun x => x.1.length + x.2.length ≤ data.length) (fun x => x.1.length) (by show data.length + 0 ≤ _; omega) (by show data.length < _; omega) (fun x hx => ?_))
  obtain ⟨r, acc⟩ := x
  dsimp only at hx ⊢
  refine isP_ob (by omega) (isP_lt fun v2 hv2 => isP_beq (fun _ => isP_ret trivial) (fun _ => isP_bne (fun _ => isP_ret trivial) (fun e => ?_)))
  rw [← fread_eq r (by omega)] at hv2
  have hk := fread_ok r (by omega) (by rw [← hv2]; exact e)
  rw [← hv2] at hk
  obtain ⟨k1, k2, k3, k4⟩ := hk
  refine isP_ob (room_of (by omega) (by omega)) (isP_ob (by omega) (isP_ret ?_))
  rw [List.take_length]
  refine ⟨?_, ?_⟩
  · show (List.drop _ r).length + (acc ++ [v2.1]).length ≤ _
    rw [List.length_drop, List.length_append, List.length_singleton]
    omega
  · show (List.drop _ r).length < r.length
    rw [List.length_drop]
    omega

theorem rfsplit_is (data : Str) (h : data.length ≤ 9000) : Is (rfsplit data) :=
  rfsplit_is0 data h
noncomputable def e_rfsplit : Ent Z := entN Z [e_rfread] [jS 2 (shp (fun sl => [.slot 0 false [none], .slot 5 false [some 94]]) (lCons cStr (l1 cd_LFrame)))] (args (a1 (aLf cStr))) (argsI (n := 29) rfl) (shr [.slot 0 false [none], .slot 1 false [none], .slot 2 false [none]] (lCons cd_LFrame (lCons cStr (l1 (cInt .i64))))) [] Tryz.func19 Tryz.ntmps19 (by kernel_rfl) 3 rfl (fun a => rfsplit a) (fun a => some (a.length ≤ 9000)) (fun a e _ => by kernel_rfl) (fun a => rfsplitP a) (fun a h => ⟨rfsplit_is a h, rfl⟩)

theorem fsplit_eq (data : Str) (h : data.length ≤ 9000) : fsplitP data = rfsplitP data := by
  unfold fsplitP fsplit rfsplitP rfsplit
  rw [val_wh, val_wh]
  refine whN_cong (fun x => x.1.length ≤ 9000) (fun x hx => ?_) (fun x x' hx e => ?_) _ _ h
  · simp only [val_ob, val_lt, val_br, val_ret]
    rw [fread_eq x.1 hx]
    generalize rfreadP x.1 = v
    by_cases c0 : v.2.2 = 0
    · have q0 : (v.2.2 == 0) = true := by simpa using c0
      have q1 : (v.2.2 != 0) = false := by rw [c0]; rfl
      have q4 : (v.2.2 == 4) = false := by rw [c0]; rfl
      rw [q0, q1, q4]
      rfl
    · have q0 : (v.2.2 == 0) = false := by simpa using c0
      have q1 : (v.2.2 != 0) = true := by simpa using c0
      rw [q0, q1]
      cases v.2.2 == 4 <;> rfl
  · revert e
    simp only [val_ob, val_lt, val_br, val_ret]
    cases (freadP x.1).2.2 == 0 with
    | true =>
      intro e
      have e : (Sum.inl (List.drop (freadP x.1).2.1.toNat (List.take x.1.length x.1), x.2 ++ [(freadP x.1).1]) : (List UInt8 × List Frame) ⊕ (List Frame × List UInt8 × Int)) = .inl x' := e
      injection e with e
      subst e
      show (List.drop _ (List.take _ x.1)).length ≤ 9000
      rw [List.length_drop, List.length_take]
      omega
    | false =>
      cases (freadP x.1).2.2 == 4 <;> intro e <;> cases e
end Go.Proofs.YtcdhbdjlamikgaaGreatDoor
