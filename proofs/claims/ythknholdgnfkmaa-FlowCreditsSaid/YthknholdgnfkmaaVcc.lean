/-
  Own engine, part 12: one symbolic state seen as another, weaker one.
-/
import Derived.Test.YthknholdgnfkmaaVcb
namespace Go.Vc
open Go.RowKit
set_option linter.unusedVariables false

def look? {α : Type} : List (Nat × α) → Nat → Option α
  | [], _ => none
  | (k, v) :: r, n => if Nat.beq n k then some v else look? r n

/-- Which block of the one state stands for a block of the other; none: a nil slice. -/
abbrev Sig := List (Nat × Option Nat)
def inRange (σ : Sig) (c : Nat) : Bool := σ.any fun p => match p.2 with
  | some c' => Nat.beq c c'
  | none => false

def capsOk (σ : Sig) : List Nat → List Nat → Bool
  | [], [] => true
  | c :: cs, l :: ls => (match look? σ l with
    | some (some c') => Nat.beq c c'
    | _ => false) && capsOk σ cs ls
  | _, _ => false

section
variable {D : Type}

def isNilSlice : Value → Bool
  | .slice none 0 0 => true
  | _ => false

def mOwn (σ : Sig) (row : Nat → Option (Bk D)) (c : Nat) (e? : Option TypeId) (d : D) : Option (List Prop) :=
  match row c with
  | some (.row e' d') =>
    if inRange σ c then none else
    match e? with
    | none => some [d' = d]
    | some e => if Nat.beq e e' then some [d' = d] else none
  | _ => none

def mLf (σ : Sig) (row : Nat → Option (Bk D)) (x y : Lf D) : Option (List Prop) :=
  match y with
  | .any => some []
  | .val v => (match x with
    | .val u => some [u = v]
    | _ => none)
  | .bool b => (match x with
    | .bool a => some [a = b]
    | .val (.bool a) => some [a = b]
    | _ => none)
  | .int k' b => (match x with
    | .int k a => if kEq k k' then some [a = b] else none
    | _ => none)
  | .str b => (match x with
    | .str a => some [a = b]
    | _ => none)
  | .dat d => (match x with
    | .dat a => some [a = d]
    | .own c => mOwn σ row c none d
    | _ => none)
  | .new e d => (match x with
    | .own c => mOwn σ row c (some e) d
    | _ => none)
  | .ptr l o' => (match x with
    | .ptr c o => (match look? σ l with
      | some (some c') => if Nat.beq c c' && Nat.beq o o' then some [] else none
      | _ => none)
    | _ => none)
  | .own l => (match x with
    | .own c => (match look? σ l with
      | some (some c') => if Nat.beq c c' then some [] else none
      | _ => none)
    | .val v => (match look? σ l with
      | some none => if isNilSlice v then some [] else none
      | _ => none)
    | _ => none)
  | .fn f' ls => (match x with
    | .fn f cs => if Nat.beq f f' && capsOk σ cs ls then some [] else none
    | _ => none)
  | .elt d' i' j' => (match x with
    | .elt d i j => some [d = d', i = i', j = j']
    | _ => none)
  | .opt _ _ _ _ => none

def mAnd (p q : Option (List Prop)) : Option (List Prop) :=
  match p, q with
  | some a, some b => some (a ++ b)
  | _, _ => none

def mLfs (σ : Sig) (row : Nat → Option (Bk D)) : List (Lf D) → List (Lf D) → Option (List Prop)
  | [], [] => some []
  | x :: xs, y :: ys => mAnd (mLf σ row x y) (mLfs σ row xs ys)
  | _, _ => none

def mSv (σ : Sig) (row : Nat → Option (Bk D)) : Sv D → Sv D → Option (List Prop)
  | .lf x, .lf y => mLf σ row x y
  | .agg xs, .agg ys => mLfs σ row xs ys
  | .agg _, .lf .any => some []
  | _, _ => none

def mSvs (σ : Sig) (row : Nat → Option (Bk D)) : List (Sv D) → List (Sv D) → Option (List Prop)
  | [], [] => some []
  | x :: xs, y :: ys => mAnd (mSv σ row x y) (mSvs σ row xs ys)
  | _, _ => none

def mSl (σ : Sig) (row : Nat → Option (Bk D)) : Sl D → Sl D → Option (List Prop)
  | .one x, .one y => mSv σ row x y
  | .tup xs, .tup ys => mSvs σ row xs ys
  | .tup _, .one (.lf .any) => some []
  | _, _ => none

def mSlots (σ : Sig) (row : Nat → Option (Bk D)) (cur : Nat → Sl D) : List (Nat × Sl D) → Option (List Prop)
  | [] => some []
  | (t, y) :: r => mAnd (mSl σ row (cur t) y) (mSlots σ row cur r)

def mBk (σ : Sig) (row : Nat → Option (Bk D)) : Bk D → Bk D → Option (List Prop)
  | .cells xs, .cells ys => mLfs σ row xs ys
  | .row e d, .row e' d' => if Nat.beq e e' then some [d = d'] else none
  | _, _ => none

def mBks (S : Sh D) (σ : Sig) (cur : Nat → Option (Bk D)) : List (Nat × Bk D) → Option (List Prop)
  | [] => some []
  | (l, bk) :: r => mAnd (match look? σ l with
    | some (some c) => (match cur c with
      | some bk' => mBk σ cur bk' bk
      | none => none)
    | some none => (match bk with
      | .row e d => some [S.len d = 0]
      | _ => none)
    | none => none) (mBks S σ cur r)

def nodupS : Sig → Bool
  | [] => true
  | p :: r => (match p.2 with
    | some c => !inRange r c
    | none => true) && nodupS r

def mSt (S : Sh D) (σ : Sig) (cur : Nat → Sl D) (blk : Nat → Option (Bk D)) (nx : Nat) (slots : List (Nat × Sl D)) (blks : List (Nat × Bk D)) : Option (List Prop) :=
  if nodupS σ && σ.all (fun p => Nat.blt p.1 nx) then mAnd (mSlots σ blk cur slots) (mBks S σ blk blks) else none

/-! finding the blocks -/
def addS (σ : Sig) (l : Nat) (c : Option Nat) : Sig :=
  match look? σ l with
  | some _ => σ
  | none => (l, c) :: σ
def addCaps : Sig → List Nat → List Nat → Sig
  | σ, c :: cs, l :: ls => addCaps (addS σ l (some c)) cs ls
  | σ, _, _ => σ
def sLf (σ : Sig) (x y : Lf D) : Sig :=
  match y with
  | .ptr l _ => (match x with
    | .ptr c _ => addS σ l (some c)
    | _ => σ)
  | .own l => (match x with
    | .own c => addS σ l (some c)
    | .val _ => addS σ l none
    | _ => σ)
  | .fn _ ls => (match x with
    | .fn _ cs => addCaps σ cs ls
    | _ => σ)
  | _ => σ
def sLfs : Sig → List (Lf D) → List (Lf D) → Sig
  | σ, x :: xs, y :: ys => sLfs (sLf σ x y) xs ys
  | σ, _, _ => σ
def sSl (σ : Sig) (x y : Sl D) : Sig :=
  match x, y with
  | .one (.lf x), .one (.lf y) => sLf σ x y
  | .one (.agg xs), .one (.agg ys) => sLfs σ xs ys
  | _, _ => σ
def sSlots (cur : Nat → Sl D) : Sig → List (Nat × Sl D) → Sig
  | σ, [] => σ
  | σ, (t, y) :: r => sSlots cur (sSl σ (cur t) y) r
def sBks (cur : Nat → Option (Bk D)) : Sig → List (Nat × Bk D) → Sig
  | σ, [] => σ
  | σ, (l, bk) :: r => sBks cur (match look? σ l with
    | some (some c) => (match cur c, bk with
      | some (.cells xs), .cells ys => sLfs σ xs ys
      | _, _ => σ)
    | _ => σ) r
def sigOf (cur : Nat → Sl D) (blk : Nat → Option (Bk D)) (slots : List (Nat × Sl D)) (blks : List (Nat × Bk D)) : Sig := sBks blk (sSlots cur [] slots) blks

def All : List Prop → Prop
  | [] => True
  | p :: r => p ∧ All r
theorem All.app : ∀ {a b : List Prop}, All (a ++ b) → All a ∧ All b
  | [], _, h => ⟨trivial, h⟩
  | _ :: _, _, h => ⟨⟨h.1, (All.app h.2).1⟩, (All.app h.2).2⟩
theorem mAnd_some {p q : Option (List Prop)} {ps : List Prop} (h : mAnd p q = some ps) (ha : All ps) : ∃ a b, p = some a ∧ q = some b ∧ All a ∧ All b := by
  unfold mAnd at h
  split at h
  · injection h with h
    subst h
    exact ⟨_, _, rfl, rfl, (All.app ha).1, (All.app ha).2⟩
  · cases h

end

section
variable {D : Type} {S : Sh D} {N : Nat → Prop} {w w0 : World} {g : Nat → Option Value} {cur : Nat → Sl D} {blk : Nat → Option (Bk D)} {al : Nat → Prop} {σ : Sig}

/-- The ghost of the weaker state. -/
def gOf (σ : Sig) (g : Nat → Option Value) : Nat → Option Value := fun l =>
  match look? σ l with
  | some (some c) => g c
  | some none => some (.slice none 0 0)
  | none => none

theorem look?_mem {α : Type} : ∀ {l : List (Nat × α)} {k : Nat} {v : α}, look? l k = some v → (k, v) ∈ l
  | [], _, _, h => by simp [look?] at h
  | (k', v') :: r, k, v, h => by
    simp only [look?] at h
    split at h
    · rename_i hk
      injection h with h
      subst h
      rw [Nat.eq_of_beq_eq_true hk]
      simp
    · exact List.mem_cons_of_mem _ (look?_mem h)

theorem inRange_of {l c : Nat} (h : look? σ l = some (some c)) : inRange σ c = true := by
  simp only [inRange, List.any_eq_true]
  exact ⟨_, look?_mem h, by simp⟩

/-- A row of the call's own that is written no more, as a datum. -/
theorem row_dat (h : Hp S w0 N blk g al w) {c : Nat} {e : TypeId} {d : D} {v : Value} {M' : Nat → Prop} (hb : blk c = some (.row e d)) (hg : g c = some v) (hM : ∀ b, M' b → Mset N blk g b) (hn : ∀ b, v.ownBlock = some b → ¬ M' b) :
    DatOk S M' w d v ∧ NewOk S w0.heap.size M' w e d v := by
  obtain ⟨v', hv', xs, hown, hc⟩ := h.bks c _ hb
  rw [hg] at hv'
  injection hv' with hv'
  subst hv'
  have hbo : v.ownBlock = blkOf v := by rcases hown.2 with ⟨rfl, _⟩ | ⟨b', cap, cur, rfl, _⟩ <;> rfl
  have cells : ∀ w' : World, (∀ b, b < w.heap.size → ¬ M' b → w'.heap[b]? = w.heap[b]?) → ∀ i j, i < S.len d → j < S.size d → ∃ u, xs[i * S.size d + j]? = some u ∧ Lf.plain (S.cell d i j) u ∧ ∀ d', S.cell d i j = .dat d' → DRel S w' d' u := by
    intro w' hs i j hi hj
    obtain ⟨u, hu, hd, hr⟩ := hc i j hi hj
    exact ⟨u, hu, data_plain hd hr fun b hb hm => hs b hb fun hb' => hm (hM b hb')⟩
  refine ⟨fun w' hs => ?_, hn, xs, hown, fun i j hi hj => ?_⟩
  · have hcl := cells w' hs
    rcases hown.2 with ⟨rfl, hz⟩ | ⟨b, cap, cur, rfl, _, hh, hcap, _, _, htake⟩
    · have := DRel.mk (S := S) (w := w') d none 0 (fun _ _ => undef) (by omega) (fun i j hi => by omega) (fun i j hi => by omega) (fun i j d' hi => by omega)
      rwa [hz] at this
    · have hb' := (hs b (heap_lt hh) (hn b rfl)).trans hh
      refine DRel.mk (S := S) (w := w') d (some ⟨b, 0, none⟩) cap (fun i j => (xs[i * S.size d + j]?).getD undef) hcap (fun i j hi hj => ?_) (fun i j hi hj => ?_) (fun i j d' hi hj he => ?_)
      · obtain ⟨u, hu, _⟩ := hcl i j hi hj
        refine ⟨_, rfl, ?_⟩
        simp only [hu, Option.getD_some]
        rw [add_none, Nat.zero_add]
        have : w'.cell? ⟨b, i * S.size d + j, none⟩ = cur[i * S.size d + j]? := by simp [World.cell?, hb']
        rw [this, ← hu, ← htake, List.getElem?_take, if_pos (row_lt hi hj)]
        simp
      · obtain ⟨u, hu, hp, _⟩ := hcl i j hi hj
        simpa [hu] using hp
      · obtain ⟨u, hu, _, hdt⟩ := hcl i j hi hj
        simpa [hu] using hdt d' he
  · obtain ⟨u, hu, hd, hr⟩ := hc i j hi hj
    refine ⟨u, hu, hd, (data_plain hd hr (w' := w) fun _ _ _ => rfl).1, fun d' he => ?_⟩
    rw [he] at hr
    refine DatOk.mono hr ?_
    rintro b (hb' | hb')
    · exact hM b hb'
    · exact .inr ⟨c, v, by simp [hb], hg, by rw [← hbo]; exact hb'⟩

variable {M' : Nat → Prop}

/-- What the weaker state's blocks are. -/
structure Sub (S : Sh D) (w0 : World) (N : Nat → Prop) (blk : Nat → Option (Bk D)) (g : Nat → Option Value) (σ : Sig) (M' : Nat → Prop) : Prop where
  sub : ∀ b, M' b → Mset N blk g b
  apart : ∀ c v b, (blk c).isSome = true → g c = some v → inRange σ c = false → blkOf v = some b → ¬ M' b

theorem mOwn_rel (h : Hp S w0 N blk g al w) (hs : Sub S w0 N blk g σ M') {c : Nat} {e? : Option TypeId} {d : D} {v : Value} {ps : List Prop} (hm : mOwn σ blk c e? d = some ps) (ha : All ps) (hv : g c = some v) :
    DatOk S M' w d v ∧ ∀ e, e? = some e → NewOk S w0.heap.size M' w e d v := by
  unfold mOwn at hm
  split at hm
  · rename_i e' d' hb
    split at hm
    · cases hm
    · rename_i hr
      have hr : inRange σ c = false := by simpa using hr
      have key : d' = d → DatOk S M' w d v ∧ NewOk S w0.heap.size M' w e' d v := by
        rintro rfl
        refine row_dat h hb hv hs.sub fun b hbv => ?_
        obtain ⟨v', hv', xs, hown, _⟩ := h.bks c _ hb
        rw [hv] at hv'
        injection hv' with hv'
        subst hv'
        have hbo : v.ownBlock = blkOf v := by rcases hown.2 with ⟨rfl, _⟩ | ⟨b', cap, cur, rfl, _⟩ <;> rfl
        exact hs.apart c v b (by simp [hb]) hv hr (by rw [← hbo]; exact hbv)
      split at hm
      · injection hm with hm
        subst hm
        exact ⟨(key ha.1).1, fun e he => by cases he⟩
      · rename_i e
        split at hm
        · rename_i he
          injection hm with hm
          subst hm
          have he := Nat.eq_of_beq_eq_true he
          refine ⟨(key ha.1).1, fun e2 he2 => ?_⟩
          injection he2 with he2
          rw [← he2, he]
          exact (key ha.1).2
        · cases hm
  · cases hm

theorem caps_rel : ∀ {cs ls : List Nat} {vs : List Value}, capsOk σ cs ls = true → cs.map g = vs.map some → ls.map (gOf σ g) = vs.map some
  | [], [], [], _, _ => rfl
  | c :: cs, l :: ls, v :: vs, h, hm => by
    simp only [capsOk, Bool.and_eq_true] at h
    simp only [List.map_cons, List.cons.injEq] at hm ⊢
    refine ⟨?_, caps_rel h.2 hm.2⟩
    have h1 := h.1
    split at h1
    · rename_i c' hl
      simp only [gOf, hl]
      rw [← Nat.eq_of_beq_eq_true h1]
      exact hm.1
    · cases h1
  | [], _ :: _, _, h, _ => by simp [capsOk] at h
  | _ :: _, [], _, h, _ => by simp [capsOk] at h
  | [], [], _ :: _, _, hm => by simp at hm
  | _ :: _, _ :: _, [], _, hm => by simp at hm

theorem mLf_rel (h : Hp S w0 N blk g al w) (hs : Sub S w0 N blk g σ M') {x y : Lf D} {v : Value} {ps : List Prop} (hm : mLf σ blk x y = some ps) (ha : All ps) (hv : x.Rel S (Mset N blk g) w g v) : y.Rel S M' w (gOf σ g) v := by
  have hk : Keeps (Mset N blk g) w M' w := ⟨Nat.le_refl _, fun b _ hb => ⟨fun hb' => hb (hs.sub b hb'), rfl⟩⟩
  unfold mLf at hm
  split at hm
  · trivial
  · split at hm
    · injection hm with hm; subst hm; obtain ⟨rfl, _⟩ := ha; exact hv
    · cases hm
  · split at hm
    · injection hm with hm; subst hm; obtain ⟨rfl, _⟩ := ha; exact hv
    · injection hm with hm; subst hm; obtain ⟨rfl, _⟩ := ha; exact hv
    · cases hm
  · split at hm
    · rename_i k n
      split at hm
      · rename_i hkk
        injection hm with hm; subst hm; obtain ⟨rfl, _⟩ := ha
        simp only [kEq, beq_iff_eq] at hkk
        subst hkk
        exact hv
      · cases hm
    · cases hm
  · split at hm
    · injection hm with hm; subst hm; obtain ⟨rfl, _⟩ := ha; exact hv
    · cases hm
  · split at hm
    · injection hm with hm; subst hm; obtain ⟨rfl, _⟩ := ha; exact DatOk.keep hv hk
    · exact (mOwn_rel h hs hm ha hv).1
    · cases hm
  · split at hm
    · have := (mOwn_rel h hs hm ha hv).2 _ rfl
      obtain ⟨h1, xs, h2, h3⟩ := this
      refine ⟨h1, xs, ⟨h2.1, ?_⟩, h3⟩
      rcases h2.2 with h0 | ⟨b', cap, cur, e1, _, hrest⟩
      · exact .inl h0
      · exact .inr ⟨b', cap, cur, e1, Nat.zero_le _, hrest⟩
    · cases hm
  · split at hm
    · split at hm
      · rename_i c' hl
        split at hm
        · rename_i hc
          simp only [Bool.and_eq_true] at hc
          obtain ⟨b, h1, h2⟩ := hv
          have e1 := Nat.eq_of_beq_eq_true hc.1
          have e2 := Nat.eq_of_beq_eq_true hc.2
          exact ⟨b, by simp only [gOf, hl]; rw [← e1]; exact h1, by rw [← e2]; exact h2⟩
        · cases hm
      · cases hm
    · cases hm
  · split at hm
    · split at hm
      · rename_i c' hl
        split at hm
        · rename_i hc
          have e1 := Nat.eq_of_beq_eq_true hc
          show gOf σ g _ = some v
          simp only [gOf, hl]
          rw [← e1]; exact hv
        · cases hm
      · cases hm
    · split at hm
      · rename_i u _ hl
        split at hm
        · rename_i hn
          simp only [Lf.Rel] at hv
          subst hv
          show gOf σ g _ = some v
          simp only [gOf, hl]
          unfold isNilSlice at hn
          split at hn
          · rfl
          · cases hn
        · cases hm
      · cases hm
    · cases hm
  · split at hm
    · split at hm
      · rename_i hc
        simp only [Bool.and_eq_true] at hc
        obtain ⟨vs, h1, h2⟩ := hv
        have e1 := Nat.eq_of_beq_eq_true hc.1
        exact ⟨vs, by rw [← e1]; exact h1, caps_rel hc.2 h2⟩
      · cases hm
    · cases hm
  · split at hm
    · injection hm with hm; subst hm
      obtain ⟨rfl, rfl, rfl, _⟩ := ha
      obtain ⟨a, n, cap, h1, h2⟩ := hv
      exact ⟨a, n, cap, h1.keep hk, h2⟩
    · cases hm
  · cases hm

theorem mLfs_rel (h : Hp S w0 N blk g al w) (hs : Sub S w0 N blk g σ M') : ∀ {xs ys : List (Lf D)} {vs : List Value} {ps : List Prop}, mLfs σ blk xs ys = some ps → All ps → LfsRel S (Mset N blk g) w g xs vs → LfsRel S M' w (gOf σ g) ys vs
  | [], [], [], _, _, _, _ => trivial
  | x :: xs, y :: ys, v :: vs, ps, hm, ha, hr => by
    obtain ⟨a, b, h1, h2, h3, h4⟩ := mAnd_some hm ha
    exact ⟨mLf_rel h hs h1 h3 hr.1, mLfs_rel h hs h2 h4 hr.2⟩
  | [], _ :: _, _, _, hm, _, _ => by simp [mLfs] at hm
  | _ :: _, [], _, _, hm, _, _ => by simp [mLfs] at hm

theorem mSv_rel (h : Hp S w0 N blk g al w) (hs : Sub S w0 N blk g σ M') {x y : Sv D} {v : Value} {ps : List Prop} (hm : mSv σ blk x y = some ps) (ha : All ps) (hr : x.Rel S (Mset N blk g) w g v) : y.Rel S M' w (gOf σ g) v := by
  unfold mSv at hm
  split at hm
  · exact mLf_rel h hs hm ha hr
  · obtain ⟨vs, rfl, hr⟩ := hr; exact ⟨vs, rfl, mLfs_rel h hs hm ha hr⟩
  · trivial
  · cases hm

theorem mSvs_rel (h : Hp S w0 N blk g al w) (hs : Sub S w0 N blk g σ M') : ∀ {xs ys : List (Sv D)} {vs : List Value} {ps : List Prop}, mSvs σ blk xs ys = some ps → All ps → SvsRel S (Mset N blk g) w g xs vs → SvsRel S M' w (gOf σ g) ys vs
  | [], [], [], _, _, _, _ => trivial
  | x :: xs, y :: ys, v :: vs, ps, hm, ha, hr => by
    obtain ⟨a, b, h1, h2, h3, h4⟩ := mAnd_some hm ha
    exact ⟨mSv_rel h hs h1 h3 hr.1, mSvs_rel h hs h2 h4 hr.2⟩
  | [], _ :: _, _, _, hm, _, _ => by simp [mSvs] at hm
  | _ :: _, [], _, _, hm, _, _ => by simp [mSvs] at hm

theorem mSl_rel (h : Hp S w0 N blk g al w) (hs : Sub S w0 N blk g σ M') {x y : Sl D} {v : Value} {ps : List Prop} (hm : mSl σ blk x y = some ps) (ha : All ps) (hr : x.Rel S (Mset N blk g) w g v) : y.Rel S M' w (gOf σ g) v := by
  unfold mSl at hm
  split at hm
  · exact mSv_rel h hs hm ha hr
  · obtain ⟨vs, rfl, hr⟩ := hr; exact ⟨vs, rfl, mSvs_rel h hs hm ha hr⟩
  · trivial
  · cases hm

theorem mSlots_rel (h : Hp S w0 N blk g al w) (hs : Sub S w0 N blk g σ M') {a : Act} (hr : ∀ t, (cur t).Rel S (Mset N blk g) w g (a.tmps.getD t undef)) : ∀ {l : List (Nat × Sl D)} {ps : List Prop}, mSlots σ blk cur l = some ps → All ps → ∀ t, (look (.one (.lf .any)) l t).Rel S M' w (gOf σ g) (a.tmps.getD t undef)
  | [], _, _, _, t => trivial
  | (t', y) :: r, ps, hm, ha, t => by
    obtain ⟨p, q, h1, h2, h3, h4⟩ := mAnd_some hm ha
    simp only [look]
    split
    · rename_i ht
      rw [Nat.eq_of_beq_eq_true ht]
      exact mSl_rel h hs h1 h3 (hr t')
    · exact mSlots_rel h hs hr h2 h4 t

theorem mBk_rel (h : Hp S w0 N blk g al w) (hs : Sub S w0 N blk g σ M') {x y : Bk D} {v : Value} {ps : List Prop} (hm : mBk σ blk x y = some ps) (ha : All ps) (hr : BkOk S (Mset N blk g) w g w0.heap.size x v) : BkOk S M' w (gOf σ g) w0.heap.size y v := by
  have hk : Keeps (Mset N blk g) w M' w := ⟨Nat.le_refl _, fun b _ hb => ⟨fun hb' => hb (hs.sub b hb'), rfl⟩⟩
  unfold mBk at hm
  split at hm
  · obtain ⟨b, vs, t, h1, h2, h3, h4⟩ := hr
    exact ⟨b, vs, t, h1, h2, h3, mLfs_rel h hs hm ha h4⟩
  · split at hm
    · rename_i he
      injection hm with hm
      subst hm
      obtain ⟨rfl, _⟩ := ha
      obtain ⟨xs, hown, hc⟩ := hr
      rw [← Nat.eq_of_beq_eq_true he]
      refine ⟨xs, hown, fun i j hi hj => ?_⟩
      obtain ⟨u, h1, h2, h3⟩ := hc i j hi hj
      refine ⟨u, h1, h2, ?_⟩
      generalize S.cell _ i j = x at h2 h3 ⊢
      cases x <;> first | (simp [Lf.isData] at h2; done) | exact h3 | exact DatOk.keep h3 hk
    · cases hm
  · cases hm

/-- Each block of the weaker state, and its own in the first. -/
theorem mBks_at : ∀ {l : List (Nat × Bk D)} {ps : List Prop}, mBks S σ blk l = some ps → All ps → ∀ k bk, (k, bk) ∈ l →
    (∃ c bk' qs, look? σ k = some (some c) ∧ blk c = some bk' ∧ mBk σ blk bk' bk = some qs ∧ All qs) ∨ (look? σ k = some none ∧ ∃ e d, bk = .row e d ∧ S.len d = 0)
  | [], _, _, _, k, bk, hin => by simp at hin
  | (k', bk') :: r, ps, hm, ha, k, bk, hin => by
    obtain ⟨p, q, h1, h2, h3, h4⟩ := mAnd_some hm ha
    simp only [List.mem_cons, Prod.mk.injEq] at hin
    rcases hin with ⟨rfl, rfl⟩ | hin
    · split at h1
      · rename_i c hl
        split at h1
        · rename_i b0 hb
          exact .inl ⟨c, b0, p, hl, hb, h1, h3⟩
        · cases h1
      · rename_i hl
        split at h1
        · injection h1 with h1
          subst h1
          exact .inr ⟨hl, _, _, rfl, h3.1⟩
        · cases h1
      · cases h1
    · exact mBks_at h2 h4 k bk hin

theorem look_map_mem : ∀ {l : List (Nat × Bk D)} {k : Nat} {bk : Bk D}, look none (l.map fun p => (p.1, some p.2)) k = some bk → (k, bk) ∈ l
  | [], _, _, h => by simp [look] at h
  | (k', b) :: r, k, bk, h => by
    simp only [List.map_cons, look] at h
    split at h
    · rename_i hk
      injection h with h
      subst h
      rw [Nat.eq_of_beq_eq_true hk]
      simp
    · exact List.mem_cons_of_mem _ (look_map_mem h)

theorem nodupS_inj : ∀ {σ : Sig}, nodupS σ = true → ∀ l l' c, look? σ l = some (some c) → look? σ l' = some (some c) → l = l'
  | [], _, l, l', c, h, _ => by simp [look?] at h
  | (k, v) :: r, hn, l, l', c, h, h' => by
    simp only [nodupS, Bool.and_eq_true] at hn
    simp only [look?] at h h'
    split at h
    · rename_i hk
      injection h with h
      subst h
      split at h'
      · rename_i hk'
        rw [Nat.eq_of_beq_eq_true hk, Nat.eq_of_beq_eq_true hk']
      · have := inRange_of h'
        simp [this] at hn
    · split at h'
      · injection h' with h'
        subst h'
        have := inRange_of h
        simp [this] at hn
      · exact nodupS_inj hn.2 l l' c h h'

theorem match_sound {n nx : Nat} {a : Act} {slots : List (Nat × Sl D)} {blks : List (Nat × Bk D)} {ps : List Prop} (h : Holds S w0 N n cur blk al a w) (hm : mSt S σ cur blk nx slots blks = some ps) (ha : All ps) :
    Holds S w0 N n (look (.one (.lf .any)) slots) (look none (blks.map fun p => (p.1, some p.2))) (· < nx) a w := by
  obtain ⟨g, hp, hs, hn, hdf⟩ := h
  unfold mSt at hm
  split at hm
  · rename_i hc
    simp only [Bool.and_eq_true] at hc
    obtain ⟨hnd, hlt⟩ := hc
    obtain ⟨p, q, h1, h2, h3, h4⟩ := mAnd_some hm ha
    have at_ := mBks_at h2 h4
    have live : ∀ l v b, (look none (blks.map fun p => (p.1, some p.2)) l).isSome = true → gOf σ g l = some v → blkOf v = some b → ∃ c, look? σ l = some (some c) ∧ (blk c).isSome = true ∧ g c = some v := by
      intro l v b hl hg hb
      obtain ⟨bk, hbk⟩ := Option.isSome_iff_exists.1 hl
      rcases at_ l bk (look_map_mem hbk) with ⟨c, bk', qs, hc, hbc, _⟩ | ⟨hc, _⟩
      · exact ⟨c, hc, by simp [hbc], by simpa [gOf, hc] using hg⟩
      · simp only [gOf, hc, Option.some.injEq] at hg
        subst hg
        simp [blkOf] at hb
    have hsub : Sub S w0 N blk g σ (Mset N (look none (blks.map fun p => (p.1, some p.2))) (gOf σ g)) := by
      refine ⟨?_, ?_⟩
      · rintro b (hb | ⟨l, v, hl, hg, hb⟩)
        · exact .inl hb
        · obtain ⟨c, _, hbc, hgc⟩ := live l v b hl hg hb
          exact .inr ⟨c, v, hbc, hgc, hb⟩
      · rintro c v b hbc hgc hr hb (hb' | ⟨l, v', hl, hg, hb'⟩)
        · obtain ⟨bk, hbk⟩ := Option.isSome_iff_exists.1 hbc
          obtain ⟨v', hv', hok⟩ := hp.bks c bk hbk
          rw [hgc] at hv'
          injection hv' with hv'
          subst hv'
          have := (hok.lt hb).2
          have := hp.hN b hb'
          omega
        · obtain ⟨c', hc', hbc', hgc'⟩ := live l v' b hl hg hb'
          have := hp.sep c c' v v' b hbc hbc' hgc hgc' hb hb'
          subst this
          rw [inRange_of hc'] at hr
          cases hr
    refine ⟨gOf σ g, ⟨hp.below, hp.hN, fun l bk hl => ?_, ?_, ?_, ?_⟩, mSlots_rel hp hsub hs h1 h3, hn, hdf⟩
    · rcases at_ l bk (look_map_mem hl) with ⟨c, bk', qs, hc, hbc, hmb, hq⟩ | ⟨hc, e, d, rfl, hz⟩
      · obtain ⟨v, hv, hok⟩ := hp.bks c bk' hbc
        exact ⟨v, by simp only [gOf, hc]; exact hv, mBk_rel hp hsub hmb hq hok⟩
      · refine ⟨.slice none 0 0, by simp only [gOf, hc], [], ⟨by simp [hz], .inl ⟨rfl, hz⟩⟩, fun i j hi => by omega⟩
    · intro l l' v v' b hl hl' hg hg' hb hb'
      obtain ⟨c, hc, hbc, hgc⟩ := live l v b hl hg hb
      obtain ⟨c', hc', hbc', hgc'⟩ := live l' v' b hl' hg' hb'
      have := hp.sep c c' v v' b hbc hbc' hgc hgc' hb hb'
      subst this
      exact nodupS_inj hnd l l' c hc hc'
    · intro l v hg
      unfold gOf at hg
      split at hg
      · rename_i c hc
        have := List.all_eq_true.1 hlt _ (look?_mem hc)
        simpa [Nat.blt_eq] using this
      · rename_i hc
        have := List.all_eq_true.1 hlt _ (look?_mem hc)
        simpa [Nat.blt_eq] using this
      · cases hg
    · intro l v hg
      unfold gOf at hg
      split at hg
      · exact hp.refs _ _ hg
      · injection hg with hg
        subst hg
        rfl
      · cases hg
  · cases hm
end
end Go.Vc
