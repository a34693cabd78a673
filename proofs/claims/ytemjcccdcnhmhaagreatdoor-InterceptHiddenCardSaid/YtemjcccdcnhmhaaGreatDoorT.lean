/-
  Intercept: what Small says.
-/
import Derived.Test.YtemjcccdcnhmhaaGreatDoorW
namespace Go.Proofs.YtemjcccdcnhmhaaGreatDoor
open Go.RowKit Go.Vc
set_option linter.unusedVariables false
set_option linter.unusedSimpArgs false
set_option maxRecDepth 100000

def bigM (m : Message) : Prop := m.Reserved.length ≤ 140737488355328 ∧ m.Gone.length ≤ 140737488355328 ∧ m.Notes.length ≤ 140737488355328 ∧ ∀ f ∈ m.Fields, f.Notes.length ≤ 140737488355328
def bigE (e : Enum) : Prop := e.Reserved.length ≤ 140737488355328 ∧ e.Notes.length ≤ 140737488355328 ∧ ∀ i ∈ e.Items, i.Notes.length ≤ 140737488355328
def bigV (v : Service) : Prop := v.Notes.length ≤ 140737488355328 ∧ ∀ m ∈ v.Methods, m.Notes.length ≤ 140737488355328
def bigS (s : Schema) : Prop := (∀ m ∈ s.Messages, bigM m) ∧ (∀ e ∈ s.Enums, bigE e) ∧ ∀ v ∈ s.Services, bigV v
theorem forE_two {A R : Type} {b : Nat → A → Unit → Unit ⊕ R} {f : Nat → Unit → R} {w N : R} (hb : ∀ k a, b k a () = .inl () ∨ b k a () = .inr w ∨ b k a () = .inr N) (hf : ∀ k y, f k y = N) : ∀ (l : List A) (k : Nat), forE b f l k () = w ∨ forE b f l k () = N
  | [], k => .inr (hf k ())
  | a :: l, k => by
    unfold forE
    rcases hb k a with h | h | h <;> rw [h]
    · exact forE_two hb hf l (k + 1)
    · exact .inl rfl
    · exact .inr rfl
theorem fewN_spec (l : List Note) (y : Int) : c12fewNP l y = wrp .i64 (y + 10) ∨ c12fewNP l y = l.length := by
  unfold c12fewNP c12fewN
  simp only [val_each, val_as, val_br, val_ix, val_lt, val_ret]
  refine forE_two (fun k a => ?_) (fun _ _ => rfl) l 0
  simp only [Bool.cond_eq_ite]
  (repeat' split) <;> simp
theorem fewT_go (w N left : Int) : ∀ (l : List Str) (k : Nat), forE (fun (k : Nat) (a3 : Str) (_ : Unit) => bif decide ((k : Int) ≤ left) then bif decide (300 < (↑(List.length a3) : Int)) then (Sum.inr w : Unit ⊕ Int) else .inl () else .inr N) (fun _ _ => N) l k () = w ∨
    (forE (fun (k : Nat) (a3 : Str) (_ : Unit) => bif decide ((k : Int) ≤ left) then bif decide (300 < (↑(List.length a3) : Int)) then (Sum.inr w : Unit ⊕ Int) else .inl () else .inr N) (fun _ _ => N) l k () = N ∧ ((k + l.length : Int) ≤ left + 1 → ∀ g ∈ l, g.length ≤ 300))
  | [], k => .inr ⟨rfl, fun _ g hg => by cases hg⟩
  | a :: l, k => by
    unfold forE
    by_cases h1 : (k : Int) ≤ left
    · by_cases h2 : 300 < (↑(List.length a) : Int)
      · simp only [decide_eq_true h1, decide_eq_true h2, cond_true]
        exact .inl trivial
      · simp only [decide_eq_true h1, decide_eq_false h2, cond_true, cond_false]
        rcases fewT_go w N left l (k + 1) with h | ⟨h, h3⟩
        · exact .inl h
        · refine .inr ⟨h, fun hk g hg => ?_⟩
          rcases List.mem_cons.1 hg with rfl | hg
          · omega
          · exact h3 (by simp only [List.length_cons] at hk; omega) g hg
    · simp only [decide_eq_false h1, cond_false]
      exact .inr ⟨trivial, fun hk => by simp only [List.length_cons] at hk; omega⟩
theorem fewT_spec (l : List Str) (y : Int) : c12fewTP l y = wrp .i64 (y + 10) ∨ (c12fewTP l y = l.length ∧ ((l.length : Int) ≤ y + 1 → ∀ g ∈ l, g.length ≤ 300)) := by
  unfold c12fewTP c12fewT
  simp only [val_each, val_as, val_br, val_ix, val_lt, val_ret]
  have := fewT_go (wrp .i64 (y + 10)) l.length y l 0
  simpa using this
def foldI {A : Type} (g : A → Int → Int) (l : List A) (y : Int) : Int := l.foldl (fun y a => bif decide (0 ≤ y) then g a y else y) y
theorem foldI_neg {A : Type} (g : A → Int → Int) : ∀ (l : List A) (y : Int), y < 0 → foldI g l y = y
  | [], _, _ => rfl
  | a :: l, y, h => by
    have hd : decide (0 ≤ y) = false := decide_eq_false (by omega)
    show foldI g l (bif decide (0 ≤ y) then g a y else y) = y
    rw [hd]
    exact foldI_neg g l y h
theorem small_fold {A R : Type} (g : A → Int → Int) (φ : Int → R) : ∀ (l : List A) (k : Nat) (y : Int), forE (fun (_ : Nat) (a : A) (y : Int) => bif decide (0 ≤ y) then (Sum.inl (g a y) : Int ⊕ R) else .inr (φ y)) (fun _ y => φ y) l k y = φ (foldI g l y)
  | [], _, _ => rfl
  | a :: l, k, y => by
    unfold forE
    show _ = φ (foldI g l (bif decide (0 ≤ y) then g a y else y))
    by_cases h : 0 ≤ y
    · simp only [decide_eq_true h, cond_true]
      exact small_fold g φ l (k + 1) (g a y)
    · simp only [decide_eq_false h, cond_false]
      rw [foldI_neg g l y (by omega)]
theorem foldI_le {A : Type} (g : A → Int → Int) : ∀ (l : List A) (y : Int), (∀ a ∈ l, ∀ y, 0 ≤ y → y ≤ 400 → g a y ≤ y) → y ≤ 400 → foldI g l y ≤ y
  | [], y, _, _ => Int.le_refl _
  | a :: l, y, hg, hy => by
    show foldI g l (bif decide (0 ≤ y) then g a y else y) ≤ y
    by_cases h : 0 ≤ y
    · simp only [decide_eq_true h, cond_true]
      have h1 := hg a (by simp) y h hy
      have h2 := foldI_le g l (g a y) (fun b hb => hg b (by simp [hb])) (by omega)
      omega
    · simp only [decide_eq_false h, cond_false]
      exact foldI_le g l y (fun b hb => hg b (by simp [hb])) hy
theorem fold_dec {A : Type} (g : A → Int → Int) (c : Nat) : ∀ (l : List A) (y : Int), (∀ a ∈ l, ∀ y, 0 ≤ y → y ≤ 400 → g a y + c ≤ y) → y ≤ 400 → 0 ≤ foldI g l y → 0 ≤ y ∧ (∀ a ∈ l, ∃ y', 0 ≤ y' ∧ y' ≤ 400 ∧ 0 ≤ g a y') ∧ foldI g l y + c * l.length ≤ y
  | [], y, _, _, h => ⟨h, (fun a ha => by cases ha), by simp [foldI]⟩
  | a :: l, y, hg, hy, h => by
    have e : foldI g (a :: l) y = foldI g l (bif decide (0 ≤ y) then g a y else y) := rfl
    rw [e] at h ⊢
    by_cases h0 : 0 ≤ y
    · simp only [decide_eq_true h0, cond_true] at h ⊢
      have h1 := hg a (by simp) y h0 hy
      obtain ⟨k1, k2, k3⟩ := fold_dec g c l (g a y) (fun b hb => hg b (by simp [hb])) (by omega) h
      refine ⟨h0, fun b hb => ?_, ?_⟩
      · rcases List.mem_cons.1 hb with rfl | hb
        · exact ⟨y, h0, hy, k1⟩
        · exact k2 b hb
      · have : (c : Int) * ((l.length + 1 : Nat) : Int) = c * l.length + c := by rw [Int.natCast_add, Int.mul_add]; simp
        simp only [List.length_cons]
        omega
    · simp only [decide_eq_false h0, cond_false] at h
      rw [foldI_neg g l y (by omega)] at h
      omega
noncomputable def gF (f : AField) (y : Int) : Int := bif decide (300 < (↑(List.length f.Default.Text) : Int)) then -1 else wrp .i64 (wrp .i64 (wrp .i64 (wrp .i64 (y - 1) - c12fewNP f.Notes y) - c12fewTP [f.Name, f.Type_.Name, f.Union] y) + 3)
noncomputable def vM (m : Message) (y : Int) : Int := wrp .i64 (wrp .i64 (wrp .i64 (wrp .i64 (y - c12fewNP m.Notes y) - (↑m.Reserved.length : Int)) - c12fewTP m.Gone y) - c12fewTP [m.Name] y)
noncomputable def gM (m : Message) (y : Int) : Int := foldI gF m.Fields (vM m y)
noncomputable def gI (i : Item) (y : Int) : Int := wrp .i64 (wrp .i64 (y - c12fewNP i.Notes y) - c12fewTP [i.Name] y)
noncomputable def vE (e : Enum) (y : Int) : Int := wrp .i64 (wrp .i64 (wrp .i64 (y - c12fewNP e.Notes y) - (↑e.Reserved.length : Int)) - c12fewTP [e.Name] y)
noncomputable def gE (e : Enum) (y : Int) : Int := foldI gI e.Items (vE e y)
noncomputable def gO (m : AMethod) (y : Int) : Int := wrp .i64 (wrp .i64 (wrp .i64 (y - c12fewNP m.Notes y) - c12fewTP [m.Name, m.In, m.Out] y) + 2)
noncomputable def vV (v : Service) (y : Int) : Int := wrp .i64 (wrp .i64 (y - c12fewNP v.Notes y) - c12fewTP [v.Name] y)
noncomputable def gV (v : Service) (y : Int) : Int := foldI gO v.Methods (vV v y)
theorem inM {R : Type} (l : List AField) (y0 : Int) : forE (fun (_ : Nat) (a5 : AField) (y4 : Int) => bif decide (0 ≤ y4) then bif decide (300 < (↑(List.length a5.Default.Text) : Int)) then (Sum.inl (-1) : Int ⊕ (Int ⊕ R)) else .inl (wrp .i64 (wrp .i64 (wrp .i64 (wrp .i64 (y4 - 1) - c12fewNP a5.Notes y4) - c12fewTP [a5.Name, a5.Type_.Name, a5.Union] y4) + 3)) else .inr (.inl y4)) (fun _ y4 => Sum.inl y4) l 0 y0 = Sum.inl (foldI gF l y0) := by
  rw [← small_fold gF (fun y => (Sum.inl y : Int ⊕ R)) l 0 y0]
  refine forE_cong l 0 y0 (fun j a y _ _ => ?_) (fun _ => rfl)
  unfold gF
  cases decide (0 ≤ y) <;> cases decide (300 < (↑(List.length a.Default.Text) : Int)) <;> rfl
theorem smallP_eq (s : Schema) (h : c12smallP s = true) : s.Messages.length ≤ 150 ∧ s.Enums.length ≤ 150 ∧ s.Services.length ≤ 150 ∧ 0 ≤ foldI gV s.Services (foldI gE s.Enums (foldI gM s.Messages 400)) := by
  unfold c12smallP c12small at h
  simp only [val_br, val_as, val_lt, val_cut, val_each, val_ix, val_ret, inM] at h
  by_cases c1 : 150 < (↑s.Messages.length : Int)
  · simp only [decide_eq_true c1, cond_true] at h; cases h
  by_cases c2 : 150 < (↑s.Enums.length : Int)
  · simp only [decide_eq_false c1, decide_eq_true c2, cond_true, cond_false] at h; cases h
  by_cases c3 : 150 < (↑s.Services.length : Int)
  · simp only [decide_eq_false c1, decide_eq_false c2, decide_eq_true c3, cond_true, cond_false] at h; cases h
  simp only [decide_eq_false c1, decide_eq_false c2, decide_eq_false c3, cond_false] at h
  refine ⟨by omega, by omega, by omega, ?_⟩
  cases c4 : decide (150 < wrp IntKind.i64 (wrp IntKind.i64 (↑s.Messages.length + ↑s.Enums.length) + ↑s.Services.length)) with
  | true => rw [c4] at h; cases h
  | false =>
    rw [c4] at h
    simp only [cond_false] at h
    have eM := small_fold gM (fun y => (Sum.inl y : Int ⊕ Bool)) s.Messages 0 400
    unfold gM vM at eM
    rw [eM, thenS_inl] at h
    have eI : ∀ (l : List Item) (y0 : Int), forE (fun (_ : Nat) (a12 : Item) (y11 : Int) => bif decide (0 ≤ y11) then (Sum.inl (wrp .i64 (wrp .i64 (y11 - c12fewNP a12.Notes y11) - c12fewTP [a12.Name] y11)) : Int ⊕ (Int ⊕ (Int ⊕ Bool))) else .inr (.inl y11)) (fun _ y11 => Sum.inl y11) l 0 y0 = Sum.inl (foldI gI l y0) := fun l y0 => small_fold gI (fun y => Sum.inl y) l 0 y0
    have eO : ∀ (l : List AMethod) (y0 : Int), forE (fun (_ : Nat) (a19 : AMethod) (y18 : Int) => bif decide (0 ≤ y18) then (Sum.inl (wrp .i64 (wrp .i64 (wrp .i64 (y18 - c12fewNP a19.Notes y18) - c12fewTP [a19.Name, a19.In, a19.Out] y18) + 2)) : Int ⊕ (Int ⊕ Bool)) else .inr (.inl y18)) (fun _ y18 => Sum.inl y18) l 0 y0 = Sum.inl (foldI gO l y0) := fun l y0 => small_fold gO (fun y => Sum.inl y) l 0 y0
    simp only [eI, eO] at h
    have eE := fun y0 => small_fold gE (fun y => (Sum.inl y : Int ⊕ Bool)) s.Enums 0 y0
    have eV := fun y0 => small_fold gV (fun y => decide (0 ≤ y)) s.Services 0 y0
    unfold gE vE at eE
    unfold gV vV at eV
    rw [eE, thenS_inl, eV, decide_eq_true_eq] at h
    exact h
theorem w400 {y : Int} (h0 : 0 ≤ y) (h : y ≤ 400) : wrp .i64 (y + 10) = y + 10 := wrp_in (k := .i64) (by simp only [InR]; omega)
theorem wB {n : Int} (h0 : -1000000000000000 ≤ n) (h : n ≤ 1000000000000000) : wrp .i64 n = n := wrp_in (k := .i64) (by simp only [InR]; omega)
theorem gF_dec (f : AField) (hf : f.Notes.length ≤ 140737488355328) (y : Int) (h0 : 0 ≤ y) (h : y ≤ 400) : gF f y + (1 : Nat) ≤ y := by
  unfold gF
  have w := w400 h0 h
  have hN := fewN_spec f.Notes y
  have hT := fewT_spec [f.Name, f.Type_.Name, f.Union] y
  rw [w] at hN hT
  have hl : ([f.Name, f.Type_.Name, f.Union].length : Int) = 3 := rfl
  rw [hl] at hT
  generalize c12fewNP f.Notes y = a at *
  generalize c12fewTP [f.Name, f.Type_.Name, f.Union] y = b at *
  have ha : 0 ≤ a ∧ a ≤ 140737488355338 := by omega
  have hb : 3 ≤ b ∧ b ≤ 410 := by omega
  cases decide (300 < (↑(List.length f.Default.Text) : Int)) with
  | true => show (-1 : Int) + (1 : Nat) ≤ y; omega
  | false =>
    simp only [cond_false]
    rw [wB (n := y - 1) (by omega) (by omega), wB (n := y - 1 - a) (by omega) (by omega), wB (n := y - 1 - a - b) (by omega) (by omega), wB (by omega) (by omega)]
    omega
theorem vM_facts (m : Message) (hm : bigM m) (y : Int) (h0 : 0 ≤ y) (h : y ≤ 400) : vM m y + (1 : Nat) ≤ y ∧ (0 ≤ vM m y → m.Reserved.length ≤ 400 ∧ m.Gone.length ≤ 400 ∧ m.Name.length ≤ 300 ∧ ∀ g ∈ m.Gone, g.length ≤ 300) := by
  obtain ⟨q1, q2, q3, _⟩ := hm
  unfold vM
  have w := w400 h0 h
  have hN := fewN_spec m.Notes y
  have hT := fewT_spec m.Gone y
  have hU := fewT_spec [m.Name] y
  rw [w] at hN hT hU
  have hl : ([m.Name].length : Int) = 1 := rfl
  rw [hl] at hU
  generalize c12fewNP m.Notes y = a at *
  generalize c12fewTP m.Gone y = b at *
  generalize c12fewTP [m.Name] y = c at *
  have ha : 0 ≤ a ∧ a ≤ 140737488355338 := by omega
  have hb : 0 ≤ b ∧ b ≤ 140737488355338 := by omega
  have hc : 1 ≤ c ∧ c ≤ 410 := by omega
  rw [wB (n := y - a) (by omega) (by omega), wB (n := y - a - _) (by omega) (by omega), wB (n := y - a - _ - b) (by omega) (by omega), wB (by omega) (by omega)]
  refine ⟨by omega, fun hv => ?_⟩
  have hb2 := hT.resolve_left (by omega)
  have hc2 := hU.resolve_left (by omega)
  exact ⟨by omega, by omega, hc2.2 (by omega) m.Name (by simp), hb2.2 (by omega)⟩
theorem gM_facts (m : Message) (hm : bigM m) (y : Int) (h0 : 0 ≤ y) (h : y ≤ 400) : gM m y + (0 : Nat) ≤ y ∧ (0 ≤ gM m y → okM m) := by
  obtain ⟨k1, k2⟩ := vM_facts m hm y h0 h
  have hd : ∀ a ∈ m.Fields, ∀ y, 0 ≤ y → y ≤ 400 → gF a y + (1 : Nat) ≤ y := fun a ha y q1 q2 => gF_dec a (hm.2.2.2 a ha) y q1 q2
  have hle := foldI_le gF m.Fields (vM m y) (fun a ha y q1 q2 => by have := hd a ha y q1 q2; omega) (by omega)
  unfold gM
  refine ⟨by omega, fun hg => ?_⟩
  obtain ⟨r1, _, r3⟩ := fold_dec gF 1 m.Fields (vM m y) hd (by omega) hg
  obtain ⟨e1, e2, e3, e4⟩ := k2 r1
  exact ⟨by omega, by omega, by omega, by omega, fun g hgm => Nat.le_trans (e4 g hgm) (by decide)⟩
theorem gI_dec (i : Item) (hi : i.Notes.length ≤ 140737488355328) (y : Int) (h0 : 0 ≤ y) (h : y ≤ 400) : gI i y + (1 : Nat) ≤ y := by
  unfold gI
  have w := w400 h0 h
  have hN := fewN_spec i.Notes y
  have hT := fewT_spec [i.Name] y
  rw [w] at hN hT
  have hl : ([i.Name].length : Int) = 1 := rfl
  rw [hl] at hT
  generalize c12fewNP i.Notes y = a at *
  generalize c12fewTP [i.Name] y = b at *
  have ha : 0 ≤ a ∧ a ≤ 140737488355338 := by omega
  have hb : 1 ≤ b ∧ b ≤ 410 := by omega
  rw [wB (n := y - a) (by omega) (by omega), wB (by omega) (by omega)]
  omega
theorem gE_facts (e : Enum) (he : bigE e) (y : Int) (h0 : 0 ≤ y) (h : y ≤ 400) : gE e y + (0 : Nat) ≤ y ∧ (0 ≤ gE e y → okE e) := by
  obtain ⟨q1, q2, q3⟩ := he
  have k : vE e y + (1 : Nat) ≤ y ∧ (0 ≤ vE e y → e.Reserved.length ≤ 400 ∧ e.Name.length ≤ 300) := by
    unfold vE
    have w := w400 h0 h
    have hN := fewN_spec e.Notes y
    have hU := fewT_spec [e.Name] y
    rw [w] at hN hU
    have hl : ([e.Name].length : Int) = 1 := rfl
    rw [hl] at hU
    generalize c12fewNP e.Notes y = a at *
    generalize c12fewTP [e.Name] y = c at *
    have ha : 0 ≤ a ∧ a ≤ 140737488355338 := by omega
    have hc : 1 ≤ c ∧ c ≤ 410 := by omega
    rw [wB (n := y - a) (by omega) (by omega), wB (n := y - a - _) (by omega) (by omega), wB (by omega) (by omega)]
    refine ⟨by omega, fun hv => ?_⟩
    have hc2 := hU.resolve_left (by omega)
    exact ⟨by omega, hc2.2 (by omega) e.Name (by simp)⟩
  have hd : ∀ a ∈ e.Items, ∀ y, 0 ≤ y → y ≤ 400 → gI a y + (1 : Nat) ≤ y := fun a ha y p1 p2 => gI_dec a (q3 a ha) y p1 p2
  have hle := foldI_le gI e.Items (vE e y) (fun a ha y p1 p2 => by have := hd a ha y p1 p2; omega) (by omega)
  unfold gE
  refine ⟨by omega, fun hg => ?_⟩
  obtain ⟨r1, _, r3⟩ := fold_dec gI 1 e.Items (vE e y) hd (by omega) hg
  obtain ⟨e1, e2⟩ := k.2 r1
  exact ⟨by omega, by omega, by omega⟩
theorem gO_dec (m : AMethod) (hm : m.Notes.length ≤ 140737488355328) (y : Int) (h0 : 0 ≤ y) (h : y ≤ 400) : gO m y + (1 : Nat) ≤ y := by
  unfold gO
  have w := w400 h0 h
  have hN := fewN_spec m.Notes y
  have hT := fewT_spec [m.Name, m.In, m.Out] y
  rw [w] at hN hT
  have hl : ([m.Name, m.In, m.Out].length : Int) = 3 := rfl
  rw [hl] at hT
  generalize c12fewNP m.Notes y = a at *
  generalize c12fewTP [m.Name, m.In, m.Out] y = b at *
  have ha : 0 ≤ a ∧ a ≤ 140737488355338 := by omega
  have hb : 3 ≤ b ∧ b ≤ 410 := by omega
  rw [wB (n := y - a) (by omega) (by omega), wB (n := y - a - b) (by omega) (by omega), wB (by omega) (by omega)]
  omega
theorem gV_facts (v : Service) (hv : bigV v) (y : Int) (h0 : 0 ≤ y) (h : y ≤ 400) : gV v y + (0 : Nat) ≤ y ∧ (0 ≤ gV v y → okSv v) := by
  obtain ⟨q1, q3⟩ := hv
  have k : vV v y + (1 : Nat) ≤ y ∧ (0 ≤ vV v y → v.Name.length ≤ 300) := by
    unfold vV
    have w := w400 h0 h
    have hN := fewN_spec v.Notes y
    have hU := fewT_spec [v.Name] y
    rw [w] at hN hU
    have hl : ([v.Name].length : Int) = 1 := rfl
    rw [hl] at hU
    generalize c12fewNP v.Notes y = a at *
    generalize c12fewTP [v.Name] y = c at *
    have ha : 0 ≤ a ∧ a ≤ 140737488355338 := by omega
    have hc : 1 ≤ c ∧ c ≤ 410 := by omega
    rw [wB (n := y - a) (by omega) (by omega), wB (by omega) (by omega)]
    refine ⟨by omega, fun hv => ?_⟩
    have hc2 := hU.resolve_left (by omega)
    exact hc2.2 (by omega) v.Name (by simp)
  have hd : ∀ a ∈ v.Methods, ∀ y, 0 ≤ y → y ≤ 400 → gO a y + (1 : Nat) ≤ y := fun a ha y p1 p2 => gO_dec a (q3 a ha) y p1 p2
  have hle := foldI_le gO v.Methods (vV v y) (fun a ha y p1 p2 => by have := hd a ha y p1 p2; omega) (by omega)
  unfold gV
  refine ⟨by omega, fun hg => ?_⟩
  obtain ⟨r1, _, r3⟩ := fold_dec gO 1 v.Methods (vV v y) hd (by omega) hg
  have e2 := k.2 r1
  exact ⟨by omega, by omega⟩
theorem small_ok (s : Schema) (hb : bigS s) (h : c12smallP s = true) : okS s := by
  obtain ⟨h1, h2, h3, h4⟩ := smallP_eq s h
  obtain ⟨b1, b2, b3⟩ := hb
  have dM : ∀ a ∈ s.Messages, ∀ y, 0 ≤ y → y ≤ 400 → gM a y + (0 : Nat) ≤ y := fun a ha y q1 q2 => (gM_facts a (b1 a ha) y q1 q2).1
  have dE : ∀ a ∈ s.Enums, ∀ y, 0 ≤ y → y ≤ 400 → gE a y + (0 : Nat) ≤ y := fun a ha y q1 q2 => (gE_facts a (b2 a ha) y q1 q2).1
  have dV : ∀ a ∈ s.Services, ∀ y, 0 ≤ y → y ≤ 400 → gV a y + (0 : Nat) ≤ y := fun a ha y q1 q2 => (gV_facts a (b3 a ha) y q1 q2).1
  have lM := foldI_le gM s.Messages 400 (fun a ha y q1 q2 => by have := dM a ha y q1 q2; omega) (Int.le_refl _)
  have lE := foldI_le gE s.Enums (foldI gM s.Messages 400) (fun a ha y q1 q2 => by have := dE a ha y q1 q2; omega) (by omega)
  obtain ⟨r1, r2, _⟩ := fold_dec gV 0 s.Services _ dV (by omega) h4
  obtain ⟨t1, t2, _⟩ := fold_dec gE 0 s.Enums _ dE (by omega) r1
  obtain ⟨_, u2, _⟩ := fold_dec gM 0 s.Messages 400 dM (by omega) t1
  refine ⟨h1, h2, h3, fun m hm => ?_, fun e he => ?_, fun v hv => ?_⟩
  · obtain ⟨y, p1, p2, p3⟩ := u2 m hm
    exact (gM_facts m (b1 m hm) y p1 p2).2 p3
  · obtain ⟨y, p1, p2, p3⟩ := t2 e he
    exact (gE_facts e (b2 e he) y p1 p2).2 p3
  · obtain ⟨y, p1, p2, p3⟩ := r2 v hv
    exact (gV_facts v (b3 v hv) y p1 p2).2 p3
end Go.Proofs.YtemjcccdcnhmhaaGreatDoor
