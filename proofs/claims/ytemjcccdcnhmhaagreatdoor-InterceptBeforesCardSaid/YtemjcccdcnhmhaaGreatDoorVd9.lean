/-
  Own engine, part 9: a region that draws its order: every order that the edges allow ends as the order of the text does.
-/
import Derived.Test.YtemjcccdcnhmhaaGreatDoorVd8
namespace Go.Vc
open Go.RowKit
set_option linter.unusedVariables false

def isMem : Op → Bool
  | .load _ _ | .store _ _ _ | .indexAddr _ _ _ | .call _ | .slice _ _ _ _ _ | .buildSlice _ _ _ | .next _ _ => true
  | _ => false
def isFn : Op → Bool
  | .call c => (match c.callee with
    | .value _ => true
    | _ => false)
  | _ => false

/-- The blocks of the call's own that the operation may look at. -/
def memReads {D : Type} (slot : Nat → Sl D) (blk : Nat → Option (Bk D)) (o : Op) : List Nat :=
  if isFn o then reach blk 3 (addNew [] (o.operands.toList.flatMap fun x => (opnd slot x).refs)) else if isMem o then o.operands.toList.flatMap fun x => (opnd slot x).refs else []

def Wr.keys {D : Type} (W : Wr D) : List Nat := W.blks.map (·.1)

def edgeTo (o : Oper) (i : Nat) : Bool := o.after.toList.any fun e => Region.binds .any e && Nat.beq e.on i
/-- Over at most k others. -/
def farTo (ops : Array Oper) : Nat → Oper → Nat → Bool
  | 0, o, i => edgeTo o i
  | k + 1, o, i => edgeTo o i || o.after.toList.any fun e => Region.binds .any e && (match ops[e.on]? with
    | some o' => farTo ops k o' i
    | none => false)
theorem far_of {ops : Array Oper} {o : Oper} {i : Nat} (h : edgeTo o i = true) : ∀ k, farTo ops k o i = true
  | 0 => h
  | k + 1 => by simp [farTo, h]

section
variable {D : Type} {P : Program} {S : Sh D} {T : TypeId → Option Ty} {Γ : FuncId → Option (Ct D)} {N : Nat → Prop} {w w' : World} {w0 : Bs} {blk blk' : Nat → Option (Bk D)} {al : Nat → Prop}
  {a : Act} {o : Oper} {K : Act → World → Prop} {Q : Exit → Act → World → Prop} {slot slot' : Nat → Sl D} {fr n : Nat} {ops : Array Oper} {W : Wr D}

theorem refs_alike {x y : Sl D} (h : Alike x y) : x.refs = y.refs := by
  rcases h with rfl | ⟨b, h1, h2⟩
  · rfl
  · have key : ∀ z : Sl D, bOf z = some b → z.refs = [] := by
      intro z hz
      unfold bOf at hz
      split at hz <;> first | rfl | cases hz
    rw [key x h1, key y h2]
theorem memReads_alike {op : Op} (h : ∀ t, Alike (slot t) (slot' t)) : memReads slot blk op = memReads slot' blk op := by
  have : (fun x => (opnd slot x).refs) = fun x => (opnd slot' x).refs := by
    funext x
    cases x with
    | tmp t => exact refs_alike (h t)
    | _ => rfl
  unfold memReads
  rw [this]

theorem reach_sub : ∀ (n : Nat) (ids : List Nat) (l : Nat), l ∈ ids → l ∈ reach blk n ids
  | 0, _, _, h => h
  | n + 1, ids, l, h => reach_sub n _ l ((addNew_mem _ _ _).2 (.inl h))
theorem reach_mono : ∀ (n : Nat) (ids ids' : List Nat), (∀ l ∈ ids, l ∈ ids') → ∀ l ∈ reach blk n ids, l ∈ reach blk n ids'
  | 0, _, _, h => h
  | n + 1, ids, ids', h => by
    refine reach_mono n _ _ fun l hl => ?_
    rcases (addNew_mem _ _ _).1 hl with q | q
    · exact (addNew_mem _ _ _).2 (.inl (h l q))
    · obtain ⟨x, hx, hlx⟩ := List.mem_flatMap.1 q
      exact (addNew_mem _ _ _).2 (.inr (List.mem_flatMap.2 ⟨x, h x hx, hlx⟩))
theorem flatMap_congr' {α β : Type} {l : List α} {f f' : α → List β} (h : ∀ x ∈ l, f x = f' x) : l.flatMap f = l.flatMap f' := by
  induction l with
  | nil => rfl
  | cons x r ih => rw [List.flatMap_cons, List.flatMap_cons, h x (by simp), ih fun y hy => h y (by simp [hy])]
theorem reach_congr : ∀ (n : Nat) (ids : List Nat), (∀ l ∈ reach blk n ids, blk l = blk' l) → reach blk n ids = reach blk' n ids
  | 0, _, _ => rfl
  | n + 1, ids, h => by
    have e : (ids.flatMap fun l => match blk l with
        | some bk => bk.refs
        | none => []) = (ids.flatMap fun l => match blk' l with
        | some bk => bk.refs
        | none => []) := flatMap_congr' fun l hl => by rw [h l (reach_sub (n + 1) ids l hl)]
    have h' : ∀ l ∈ reach blk n (addNew ids (ids.flatMap fun l => match blk l with
        | some bk => bk.refs
        | none => [])), blk l = blk' l := h
    have r := reach_congr n _ h'
    refine Eq.trans (show reach blk (n + 1) ids = _ from r) ?_
    rw [e]
    rfl
theorem getAll_congr : ∀ (ids : List Nat), (∀ l ∈ ids, blk l = blk' l) → getAll blk ids = getAll blk' ids
  | [], _ => rfl
  | x :: r, h => by
    unfold getAll
    rw [h x (by simp), getAll_congr r fun l hl => h l (by simp [hl])]

theorem callOn_congr {ct : Ct D} {args : List (Sl D)} {vids : List Nat} (h : ∀ l ∈ reach blk 3 (addNew [] (args.flatMap Sl.refs)), blk l = blk' l) (hv : ∀ l ∈ vids, blk l = blk' l) : callOn ct blk fr args vids = callOn ct blk' fr args vids := by
  have e1 := reach_congr _ _ h
  have e2 := getAll_congr _ h
  have e3 : vids.filterMap (iceOf blk) = vids.filterMap (iceOf blk') := by
    clear h e1 e2
    induction vids with
    | nil => rfl
    | cons x r ih =>
      have hx : iceOf blk x = iceOf blk' x := by unfold iceOf; rw [hv x (by simp)]
      rw [List.filterMap_cons, List.filterMap_cons, hx, ih fun l hl => hv l (by simp [hl])]
  unfold callOn
  dsimp only
  rw [← e1, e2, e3]

theorem fillIn_congr {ty : Ty} : ∀ (ps : List (Nat × Operand)) (cs : List (Lf D)), (∀ p ∈ ps, opnd slot p.2 = opnd slot' p.2) → fillIn ty slot ps cs = fillIn ty slot' ps cs
  | [], _, _ => rfl
  | (f, x) :: r, cs, h => by
    have hx : opnd slot x = opnd slot' x := h (f, x) (by simp)
    have ih := fun cs => fillIn_congr (ty := ty) r cs fun p hp => h p (by simp [hp])
    simp only [fillIn, hx, ih]
theorem fillRow_congr {sz : Nat} : ∀ (ps : List (Nat × Operand)) (cs : List (Lf D)), (∀ p ∈ ps, opnd slot p.2 = opnd slot' p.2) → fillRow sz slot ps cs = fillRow sz slot' ps cs
  | [], _, _ => rfl
  | (f, x) :: r, cs, h => by
    have hx : opnd slot x = opnd slot' x := h (f, x) (by simp)
    have ih := fun cs => fillRow_congr (sz := sz) r cs fun p hp => h p (by simp [hp])
    simp only [fillRow, hx, ih]

theorem xLoad_congr {t : TypeId} {x : Sl D} (h : ∀ l ∈ x.refs, blk l = blk' l) : xLoad T S blk t x = xLoad T S blk' t x := by
  unfold xLoad
  cases T t with
  | none => rfl
  | some ty =>
    cases x with
    | tup xs => rfl
    | one x =>
      cases x with
      | agg xs => rfl
      | lf x => cases x <;> first | rfl | (have hh := h _ (List.mem_singleton.2 rfl); simp only [hh])
theorem xStore_congr {t : TypeId} {x y : Sl D} (h : ∀ l ∈ x.refs, blk l = blk' l) : xStore T S blk t x y = xStore T S blk' t x y := by
  unfold xStore
  cases T t with
  | none => rfl
  | some ty =>
    cases x with
    | tup xs => rfl
    | one x =>
      cases x with
      | agg xs => rfl
      | lf x =>
        cases y with
        | tup ys => cases x <;> rfl
        | one y => cases x <;> first | rfl | (have hh := h _ (List.mem_singleton.2 rfl); simp only [hh])
theorem xIndex_congr {t : TypeId} {x y : Sl D} (h : ∀ l ∈ x.refs, blk l = blk' l) : xIndex T S blk t x y = xIndex T S blk' t x y := by
  unfold xIndex
  cases T t with
  | none => rfl
  | some ty =>
    simp only
    cases ty.elem with
    | none => rfl
    | some e =>
      simp only
      cases T e with
      | none => rfl
      | some te =>
        cases x with
        | tup xs => rfl
        | one x =>
          cases x with
          | agg xs => rfl
          | lf x =>
            cases y with
            | tup ys => cases x <;> rfl
            | one y =>
              cases y with
              | agg ys => cases x <;> rfl
              | lf y => cases x <;> cases y <;> first | rfl | (have hh := h _ (List.mem_singleton.2 rfl); simp only [hh])
theorem xLen_congr {ts : Array TypeId} {x : Sl D} (h : ∀ l ∈ x.refs, blk l = blk' l) : xLen S T blk ts x = xLen S T blk' ts x := by
  unfold xLen
  split
  · rfl
  · split
    · rfl
    · cases x with
      | tup xs => rfl
      | one x =>
        cases x with
        | agg xs => rfl
        | lf x =>
          cases x with
          | own l => have hh := h l (by simp [Sl.refs, Sv.refs, Lf.refs]); simp only [hh]
          | val v => cases v <;> first | rfl | (rename_i a n c; cases a <;> first | rfl | (cases n <;> first | rfl | (cases c <;> rfl)))
          | _ => rfl

theorem datOf_congr {x : Sl D} (h : ∀ l ∈ x.refs, blk l = blk' l) : datOf blk x = datOf blk' x := by
  cases x with
  | tup xs => rfl
  | one x =>
    cases x with
    | agg xs => rfl
    | lf x =>
      cases x with
      | own l => have hh := h l (by simp [Sl.refs, Sv.refs, Lf.refs]); simp only [datOf, hh]
      | _ => rfl
theorem xAppend_congr {ts : Array TypeId} {x y : Sl D} (h : ∀ l ∈ x.refs, blk l = blk' l) (h' : ∀ l ∈ y.refs, blk l = blk' l) : xAppend T S blk fr ts x y = xAppend T S blk' fr ts x y := by
  unfold xAppend
  rw [datOf_congr h']
  cases x with
  | tup xs => rfl
  | one x =>
    cases x with
    | agg xs => rfl
    | lf x =>
      cases x with
      | own l => have hh := h l (by simp [Sl.refs, Sv.refs, Lf.refs]); simp only [hh]
      | val v => cases v <;> first | rfl | (rename_i a n c; cases a <;> first | rfl | (cases n <;> first | rfl | (cases c <;> rfl)))
      | _ => rfl

theorem xSlice_congr {t : TypeId} {x : Sl D} {lo hi : Option (Sl D)} (h : ∀ l ∈ x.refs, blk l = blk' l) : xSlice T S blk t x lo hi = xSlice T S blk' t x lo hi := by
  unfold xSlice
  split
  · rfl
  · split
    · rfl
    · split
      · rfl
      · rfl
      · rename_i q
        rw [h q (by simp [Sl.refs, Sv.refs, Lf.refs])]
      · rfl
theorem xCopy_congr {ts : Array TypeId} {x y : Sl D} (h : ∀ l ∈ x.refs, blk l = blk' l) : xCopy T S blk ts x y = xCopy T S blk' ts x y := by
  unfold xCopy
  split
  · split
    · split
      · rfl
      · split
        · rfl
        · split
          · rfl
          · split
            · rename_i l d2
              rw [h l (by simp [Sl.refs, Sv.refs, Lf.refs])]
            · rfl
    · rfl
  · rfl

theorem lf_norm_refs (x : Lf D) : x.norm.refs = x.refs := by
  unfold Lf.norm
  split <;> rfl
theorem sv_norm_refs (x : Sv D) : x.norm.refs = x.refs := by
  cases x with
  | lf x => exact lf_norm_refs x
  | agg xs => simp only [Sv.norm, Sv.refs, List.flatMap_map]; exact flatMap_congr' fun x _ => lf_norm_refs x
theorem sl_norm_refs (x : Sl D) : x.norm.refs = x.refs := by
  cases x with
  | one x => exact sv_norm_refs x
  | tup xs => simp only [Sl.norm, Sl.refs, List.flatMap_map]; exact flatMap_congr' fun x _ => sv_norm_refs x
theorem lf_view_refs (x : Lf D) : ∀ l ∈ (x.view blk).refs, l ∈ x.refs := by
  cases x with
  | own l =>
    simp only [Lf.view]
    split
    · intro l' h; simp [Lf.refs] at h
    · intro l' h; simp [Lf.refs] at h
    · intro l' h; exact h
  | part l i j sz f =>
    simp only [Lf.view]
    split
    · split <;> (intro l' h; simp [Lf.refs] at h)
    · split <;> (intro l' h; simp [Lf.refs] at h)
    · intro l' h; exact h
  | _ => exact fun l h => h
theorem sv_view_refs (x : Sv D) : ∀ l ∈ (x.view blk).refs, l ∈ x.refs := by
  cases x with
  | lf x => exact lf_view_refs x
  | agg xs =>
    intro l hl
    simp only [Sv.view, Sv.refs, List.flatMap_map] at hl ⊢
    obtain ⟨y, hy, hl⟩ := List.mem_flatMap.1 hl
    exact List.mem_flatMap.2 ⟨y, hy, lf_view_refs y l hl⟩
theorem sl_view_refs (x : Sl D) : ∀ l ∈ (x.view blk).refs, l ∈ x.refs := by
  cases x with
  | one x => exact sv_view_refs x
  | tup xs =>
    intro l hl
    simp only [Sl.view, Sl.refs, List.flatMap_map] at hl ⊢
    obtain ⟨y, hy, hl⟩ := List.mem_flatMap.1 hl
    exact List.mem_flatMap.2 ⟨y, hy, sv_view_refs y l hl⟩
theorem lf_view_congr {x : Lf D} (h : ∀ l ∈ x.refs, blk l = blk' l) : x.view blk = x.view blk' := by
  cases x with
  | own l => simp only [Lf.view]; rw [h l (by simp [Lf.refs])]
  | part l i j sz f => simp only [Lf.view]; rw [h l (by simp [Lf.refs])]
  | _ => rfl
theorem sv_view_congr {x : Sv D} (h : ∀ l ∈ x.refs, blk l = blk' l) : x.view blk = x.view blk' := by
  cases x with
  | lf x => simp only [Sv.view]; rw [lf_view_congr h]
  | agg xs => simp only [Sv.view]; congr 1; exact List.map_congr_left fun y hy => lf_view_congr fun l hl => h l (List.mem_flatMap.2 ⟨y, hy, hl⟩)
theorem sl_view_congr {x : Sl D} (h : ∀ l ∈ x.refs, blk l = blk' l) : x.view blk = x.view blk' := by
  cases x with
  | one x => simp only [Sl.view]; rw [sv_view_congr h]
  | tup xs => simp only [Sl.view]; congr 1; exact List.map_congr_left fun y hy => sv_view_congr fun l hl => h l (List.mem_flatMap.2 ⟨y, hy, hl⟩)
theorem lf_owns_refs (x : Lf D) : ∀ l ∈ x.owns, l ∈ x.refs := by cases x <;> simp [Lf.owns, Lf.refs]
theorem sv_owns_refs (x : Sv D) : ∀ l ∈ x.owns, l ∈ x.refs := by
  cases x with
  | lf x => exact lf_owns_refs x
  | agg xs =>
    intro l hl
    obtain ⟨y, hy, hl⟩ := List.mem_flatMap.1 hl
    exact List.mem_flatMap.2 ⟨y, hy, lf_owns_refs y l hl⟩
theorem sl_owns_refs (x : Sl D) : ∀ l ∈ x.owns, l ∈ x.refs := by
  cases x with
  | one x => exact sv_owns_refs x
  | tup xs =>
    intro l hl
    obtain ⟨y, hy, hl⟩ := List.mem_flatMap.1 hl
    exact List.mem_flatMap.2 ⟨y, hy, sv_owns_refs y l hl⟩

theorem xCall_congr {f : FuncId} {args : List (Sl D)} (h : ∀ l ∈ reach blk 3 (addNew [] (args.flatMap Sl.refs)), blk l = blk' l) : xCall Γ f blk args fr = xCall Γ f blk' args fr := by
  unfold xCall
  cases Γ f with
  | none => rfl
  | some ct =>
    dsimp only
    have hn : (args.map Sl.norm).flatMap Sl.refs = args.flatMap Sl.refs := by rw [List.flatMap_map]; exact flatMap_congr' fun x _ => sl_norm_refs x
    generalize args.map Sl.norm = as at hn
    rw [← hn] at h
    have hd : ∀ l ∈ as.flatMap Sl.refs, blk l = blk' l := fun l hl => h l (reach_sub _ _ _ ((addNew_mem _ _ _).2 (.inr hl)))
    have hv : as.map (Sl.view blk) = as.map (Sl.view blk') := List.map_congr_left fun x hx => sl_view_congr fun l hl => hd l (List.mem_flatMap.2 ⟨x, hx, hl⟩)
    rw [callOn_congr (blk := blk) (blk' := blk') (args := as) (vids := []) h (fun l hl => by simp at hl)]
    rw [callOn_congr (blk := blk) (blk' := blk') (args := as.map (Sl.view blk)) (vids := addNew [] (as.flatMap Sl.owns)) (fun l hl => h l (reach_mono 3 _ _ (fun l hl => ?_) l hl)) (fun l hl => hd l ?_), hv]
    · rcases (addNew_mem _ _ _).1 hl with q | q
      · simp at q
      · obtain ⟨x, hx, hlx⟩ := List.mem_flatMap.1 q
        obtain ⟨y, hy, rfl⟩ := List.mem_map.1 hx
        exact (addNew_mem _ _ _).2 (.inr (List.mem_flatMap.2 ⟨y, hy, sl_view_refs y l hlx⟩))
    · rcases (addNew_mem _ _ _).1 hl with q | q
      · simp at q
      · obtain ⟨x, hx, hlx⟩ := List.mem_flatMap.1 q
        exact List.mem_flatMap.2 ⟨x, hx, sl_owns_refs x l hlx⟩

theorem xOp_congr {op : Op} (hs : ∀ x ∈ op.operands.toList, opnd slot x = opnd slot' x) (hm : ∀ l ∈ memReads slot blk op, blk l = blk' l) : xOp T S Γ slot blk fr op = xOp T S Γ slot' blk' fr op := by
  have hm' : isMem op = true → ∀ x ∈ op.operands.toList, ∀ l ∈ (opnd slot' x).refs, blk l = blk' l := by
    intro hi x hx l hl
    refine hm l ?_
    have hin : l ∈ op.operands.toList.flatMap fun x => (opnd slot x).refs := List.mem_flatMap.2 ⟨x, hx, by rw [hs x hx]; exact hl⟩
    unfold memReads
    split
    · exact reach_sub _ _ _ ((addNew_mem _ _ _).2 (.inr hin))
    · first | (split; · exact hin; · rename_i q; exact absurd hi q) | simpa [hi] using hin
  cases op with
  | move x => simp only [xOp]; rw [hs x (by simp [Op.operands])]
  | assign x => simp only [xOp]; rw [hs x (by simp [Op.operands])]
  | pick c x y => simp only [xOp, xPick]; rw [hs c (by simp [Op.operands]), hs x (by simp [Op.operands]), hs y (by simp [Op.operands])]
  | alloc t => rfl
  | box t x => simp only [xOp]; rw [hs x (by simp [Op.operands])]
  | build t ps =>
    simp only [xOp, xBuild]
    split
    · rw [fillIn_congr ps.toList _ fun p hp => hs p.2 (by simp only [Op.operands, List.mem_map]; exact ⟨p, hp, rfl⟩)]
    · rfl
  | buildSlice t n ps =>
    have : ∀ p ∈ ps.toList, opnd slot p.2 = opnd slot' p.2 := fun p hp => hs p.2 (by simp only [Op.operands, List.mem_map]; exact ⟨p, hp, rfl⟩)
    simp only [xOp, xRow]
    split
    · rfl
    · split
      · rfl
      · split
        · rfl
        · rw [fillRow_congr ps.toList _ this]
  | load t x =>
    simp only [xOp]
    rw [hs x (by simp [Op.operands]), xLoad_congr (hm' rfl x (by simp [Op.operands]))]
  | store t x y =>
    simp only [xOp]
    rw [hs x (by simp [Op.operands]), hs y (by simp [Op.operands]), xStore_congr (hm' rfl x (by simp [Op.operands]))]
  | nilCheck x => simp only [xOp]; rw [hs x (by simp [Op.operands])]
  | binOp op t x y yt => simp only [xOp]; rw [hs x (by simp [Op.operands]), hs y (by simp [Op.operands])]
  | unOp op t x => simp only [xOp]; rw [hs x (by simp [Op.operands])]
  | fieldAddr t x f => simp only [xOp]; rw [hs x (by simp [Op.operands])]
  | field t x f => simp only [xOp]; rw [hs x (by simp [Op.operands])]
  | indexAddr t x i =>
    simp only [xOp]
    rw [hs x (by simp [Op.operands]), hs i (by simp [Op.operands]), xIndex_congr (hm' rfl x (by simp [Op.operands]))]
  | extract x i => simp only [xOp]; rw [hs x (by simp [Op.operands])]
  | call c =>
    simp only [xOp]
    have hargs : ∀ x ∈ c.args.toList, x ∈ (Op.call c).operands.toList := fun x hx => by
      simp only [Op.operands, Call.operands, Array.toList_append, List.mem_append]
      exact .inr hx
    split
    · split
      · rename_i x hx
        have hx : x ∈ (Op.call c).operands.toList := hargs x (by rw [hx]; simp)
        rw [hs x hx, xLen_congr (hm' rfl x hx)]
      · rfl
    · split
      · rename_i x y hx
        rw [hs x (hargs x (by rw [hx]; simp)), hs y (hargs y (by rw [hx]; simp))]
      · rfl
    · split
      · rename_i x y hx
        rw [hs x (hargs x (by rw [hx]; simp)), hs y (hargs y (by rw [hx]; simp))]
      · rfl
    · split
      · rename_i x y hx
        have hx1 : x ∈ (Op.call c).operands.toList := hargs x (by rw [hx]; simp)
        have hx2 : y ∈ (Op.call c).operands.toList := hargs y (by rw [hx]; simp)
        rw [hs x hx1, hs y hx2, xAppend_congr (hm' rfl x hx1) (hm' rfl y hx2)]
      · rfl
    · split
      · rename_i x y hx
        have hx1 : x ∈ (Op.call c).operands.toList := hargs x (by rw [hx]; simp)
        have hx2 : y ∈ (Op.call c).operands.toList := hargs y (by rw [hx]; simp)
        rw [hs x hx1, hs y hx2, xCopy_congr (hm' rfl x hx1)]
      · rfl
    · rename_i f hf
      have hfm : f ∈ (Op.call c).operands.toList := by simp [Op.operands, Call.operands, hf]
      have hfe := hs f hfm
      have : c.args.toList.map (opnd slot) = c.args.toList.map (opnd slot') := List.map_congr_left fun x hx => hs x (hargs x hx)
      rw [hfe, this]
      split
      · rename_i f' caps hfn
        have hcl : ∀ l ∈ caps, blk l = blk' l := fun l hl => hm' rfl f hfm l (by rw [hfn]; exact hl)
        have hc2 : caps.all (fun l => isCells (blk l)) = caps.all (fun l => isCells (blk' l)) := by
          clear hfn
          induction caps with
          | nil => rfl
          | cons x r ih => rw [List.all_cons, List.all_cons, hcl x (by simp), ih fun l hl => hcl l (by simp [hl])]
        rw [hc2]
        rw [xCall_congr (blk := blk) (blk' := blk') fun l hl => hm l ?_]
        have hisf : isFn (Op.call c) = true := by simp [isFn, hf]
        unfold memReads
        rw [if_pos hisf]
        refine reach_mono 3 _ _ (fun l hl => ?_) l hl
        rcases (addNew_mem _ _ _).1 hl with q | q
        · simp at q
        · refine (addNew_mem _ _ _).2 (.inr ?_)
          rw [List.flatMap_append, List.mem_append] at q
          rcases q with q | q
          · rw [← this] at q
            obtain ⟨y, hy, hly⟩ := List.mem_flatMap.1 q
            obtain ⟨x, hx, rfl⟩ := List.mem_map.1 hy
            exact List.mem_flatMap.2 ⟨x, hargs x hx, hly⟩
          · obtain ⟨y, hy, hly⟩ := List.mem_flatMap.1 q
            obtain ⟨k, hk, rfl⟩ := List.mem_map.1 hy
            simp [Sl.refs, Sv.refs, Lf.refs] at hly
            subst hly
            exact List.mem_flatMap.2 ⟨f, hfm, by rw [hfe, hfn]; exact hk⟩
      · rfl
    · rfl
  | makeFunc fn first caps =>
    have hcp : ∀ (l : List Operand), (∀ x ∈ l, opnd slot x = opnd slot' x) → capsOf slot l = capsOf slot' l := by
      intro l
      induction l with
      | nil => intro _; rfl
      | cons x r ih => intro h; unfold capsOf; rw [h x (by simp), ih fun y hy => h y (by simp [hy])]
    cases fn with
    | func f => simp only [xOp]; rw [hcp caps.toList fun x hx => hs x (by simp only [Op.operands, Array.toList_append, List.mem_append]; exact .inr hx)]
    | _ => rfl
  | makeSlice t x y => simp only [xOp]; rw [hs x (by simp [Op.operands]), hs y (by simp [Op.operands])]
  | index t x y => simp only [xOp]; rw [hs x (by simp [Op.operands]), hs y (by simp [Op.operands])]
  | convert t u x => simp only [xOp]; rw [hs x (by simp [Op.operands])]
  | slice t x lo hi mx =>
    cases mx with
    | some m => rfl
    | none =>
      have hlo : lo.map (opnd slot) = lo.map (opnd slot') := by
        cases lo with
        | none => rfl
        | some l => simp only [Option.map_some]; rw [hs l (by simp [Op.operands])]
      have hhi : hi.map (opnd slot) = hi.map (opnd slot') := by
        cases hi with
        | none => rfl
        | some l => simp only [Option.map_some]; rw [hs l (by simp [Op.operands])]
      simp only [xOp]
      rw [hs x (by simp [Op.operands]), hlo, hhi, xSlice_congr (hm' rfl x (by simp [Op.operands]))]
  | _ => rfl

theorem opTmps_mem : ∀ {l : List Operand} {t : Nat}, t ∈ opTmps l ↔ Operand.tmp t ∈ l
  | [], t => by simp [opTmps]
  | x :: r, t => by
    cases x <;> simp [opTmps, opTmps_mem (l := r)]
theorem updL_eq {α : Type} {k : Nat} : ∀ (cs : List (Nat × α)) (f f' : Nat → α), f k = f' k → updL f cs k = updL f' cs k
  | [], _, _, h => h
  | (k0, v) :: cs, f, f', h => by
    refine updL_eq cs (upd f k0 v) (upd f' k0 v) ?_
    by_cases e : k = k0
    · subst e; rw [upd_same, upd_same]
    · rw [upd_other _ _ _ _ e, upd_other _ _ _ _ e, h]
theorem xOpC_congr {op : Op} (hs : ∀ x ∈ op.operands.toList, opnd slot x = opnd slot' x) (hm : ∀ l ∈ memReads slot blk op, blk l = blk' l) : xOpC T S Γ slot blk fr op = xOpC T S Γ slot' blk' fr op := by
  unfold xOpC
  rw [xOp_congr hs hm]
  split
  · rfl
  unfold xCool
  cases hc : coolable op with
  | false => simp
  | true =>
    have hf : isFn op = false := by cases op <;> first | rfl | simp [coolable] at hc
    have hi : isMem op = true := by cases op <;> first | rfl | simp [coolable] at hc
    have hmr : ∀ (s : Nat → Sl D) (b : Nat → Option (Bk D)), memReads s b op = op.operands.toList.flatMap fun x => (opnd s x).refs := fun s b => by unfold memReads; rw [hf, hi]; rfl
    have ht : ∀ t ∈ opTmps op.operands.toList, slot t = slot' t := fun t ht => hs (.tmp t) (opTmps_mem.1 ht)
    have hb : ∀ t ∈ opTmps op.operands.toList, ∀ l ∈ (slot t).refs, blk l = blk' l := fun t ht l hl => hm l (by rw [hmr]; exact List.mem_flatMap.2 ⟨.tmp t, opTmps_mem.1 ht, hl⟩)
    have hids : coolIds slot op = coolIds slot' op := by
      unfold coolIds
      congr 1
      exact flatMap_congr' fun t h => by rw [ht t h]
    have hbl : ∀ l ∈ coolIds slot op, blk l = blk' l := fun l hl => by
      rcases (addNew_mem _ _ _).1 hl with h | h
      · simp at h
      · obtain ⟨t, h1, h2⟩ := List.mem_flatMap.1 h
        exact hb t h1 l (sl_owns_refs _ l h2)
    have hice : (coolIds slot op).filterMap (iceOf blk) = (coolIds slot op).filterMap (iceOf blk') := filterMap_same fun l hl => by unfold iceOf; rw [hbl l hl]
    have hall : ((coolIds slot op).all fun l => isRow (blk l)) = ((coolIds slot op).all fun l => isRow (blk' l)) := by
      rw [Bool.eq_iff_iff, List.all_eq_true, List.all_eq_true]
      constructor
      · intro h l hl; rw [← hbl l hl]; exact h l hl
      · intro h l hl; rw [hbl l hl]; exact h l hl
    have hslot : ∀ x ∈ op.operands.toList, opnd (coolS (opTmps op.operands.toList) slot blk) x = opnd (coolS (opTmps op.operands.toList) slot' blk') x := by
      intro x hx
      cases x with
      | tmp t =>
        have htm := opTmps_mem.2 hx
        simp only [opnd, coolS]
        rw [if_pos (memB_iff.2 htm), if_pos (memB_iff.2 htm), ← ht t htm]
        exact sl_view_congr fun l hl => hb t htm l hl
      | _ => rfl
    simp only [Bool.true_and]
    rw [← hids, ← hice, ← hall]
    rw [xOp_congr (blk' := updL blk' ((coolIds slot op).filterMap (iceOf blk))) hslot]
    intro l hl
    rw [hmr] at hl
    refine updL_eq _ _ _ ?_
    obtain ⟨x, hx, hlx⟩ := List.mem_flatMap.1 hl
    cases x with
    | tmp t =>
      have htm := opTmps_mem.2 hx
      simp only [opnd, coolS] at hlx
      rw [if_pos (memB_iff.2 htm)] at hlx
      exact hb t htm l (sl_view_refs _ l hlx)
    | const v => exact hm l (by rw [hmr]; exact List.mem_flatMap.2 ⟨_, hx, hlx⟩)
    | func f => exact hm l (by rw [hmr]; exact List.mem_flatMap.2 ⟨_, hx, hlx⟩)
    | global i => exact hm l (by rw [hmr]; exact List.mem_flatMap.2 ⟨_, hx, hlx⟩)

theorem xLoadA_congr {t : TypeId} {x : Sl D} (h : ∀ l ∈ x.refs, blk l = blk' l) : xLoadA T S blk t x = xLoadA T S blk' t x := by
  unfold xLoadA
  split
  · rfl
  · split
    · rw [h _ (by simp [Sl.refs, Sv.refs, Lf.refs])]
    · rfl
    · rfl
theorem xStoreA_congr {t : TypeId} {x y : Sl D} (h : ∀ l ∈ x.refs, blk l = blk' l) : xStoreA T S blk t x y = xStoreA T S blk' t x y := by
  unfold xStoreA
  split
  · rfl
  · split
    · rw [h _ (by simp [Sl.refs, Sv.refs, Lf.refs])]
    · rfl
theorem xClear_congr {ts : Array TypeId} {x : Sl D} (h : ∀ l ∈ x.refs, blk l = blk' l) : xClear T S blk ts x = xClear T S blk' ts x := by
  unfold xClear
  split
  · split
    · rfl
    · split
      · rfl
      · split
        · rfl
        · split
          · rw [h _ (by simp [Sl.refs, Sv.refs, Lf.refs])]
          · rfl
  · rfl
theorem xMore_congr {op : Op} (hs : ∀ x ∈ op.operands.toList, opnd slot x = opnd slot' x) (hm : ∀ l ∈ memReads slot blk op, blk l = blk' l) : xMore T S slot blk fr op = xMore T S slot' blk' fr op := by
  have hm' : isMem op = true → isFn op = false → ∀ x ∈ op.operands.toList, ∀ l ∈ (opnd slot' x).refs, blk l = blk' l := by
    intro hi hf x hx l hl
    refine hm l ?_
    unfold memReads
    rw [hf, hi]
    exact List.mem_flatMap.2 ⟨x, hx, by rw [hs x hx]; exact hl⟩
  cases op with
  | load t x =>
    simp only [xMore]
    rw [hs x (by simp [Op.operands]), xLoadA_congr (hm' rfl rfl x (by simp [Op.operands]))]
  | store t x y =>
    simp only [xMore]
    rw [hs x (by simp [Op.operands]), hs y (by simp [Op.operands]), xStoreA_congr (hm' rfl rfl x (by simp [Op.operands]))]
  | indexAddr t x i => simp only [xMore]; rw [hs x (by simp [Op.operands]), hs i (by simp [Op.operands])]
  | index t x i => simp only [xMore]; rw [hs x (by simp [Op.operands]), hs i (by simp [Op.operands])]
  | build t ps =>
    simp only [xMore, xBuildA]
    split
    · rfl
    · split
      · rfl
      · rw [fillRow_congr ps.toList _ fun p hp => hs p.2 (by simp only [Op.operands, List.mem_map]; exact ⟨p, hp, rfl⟩)]
  | call c =>
    simp only [xMore]
    split
    · rename_i hcal
      have hfn : isFn (.call c) = false := by simp [isFn, hcal]
      split
      · rename_i x hx
        have hxm : x ∈ (Op.call c).operands.toList := by
          simp only [Op.operands, Call.operands, Array.toList_append, List.mem_append]
          exact .inr (by rw [hx]; simp)
        rw [hs x hxm, xClear_congr (hm' rfl hfn x hxm)]
      · rfl
    · rfl
  | makeInterface t x => simp only [xMore]; rw [hs x (by simp [Op.operands])]
  | typeAssert x st t ok =>
    cases ok with
    | true => simp only [xMore]; rw [hs x (by simp [Op.operands])]
    | false => rfl
  | _ => rfl
theorem xOpD_congr {op : Op} (hs : ∀ x ∈ op.operands.toList, opnd slot x = opnd slot' x) (hm : ∀ l ∈ memReads slot blk op, blk l = blk' l) : xOpD T S Γ slot blk fr op = xOpD T S Γ slot' blk' fr op := by
  unfold xOpD
  rw [xMore_congr hs hm, xOpC_congr hs hm]
theorem xOpR_congr {op : Op} (hs : ∀ x ∈ op.operands.toList, opnd slot x = opnd slot' x) (hm : ∀ l ∈ memReads slot blk op, blk l = blk' l) : xOpR T S Γ slot blk fr op = xOpR T S Γ slot' blk' fr op := by
  unfold xOpR
  split
  · rw [hs _ (by simp [Op.operands])]
  · exact xOpD_congr hs hm
theorem xNext_congr {op : Op} (hs : ∀ x ∈ op.operands.toList, opnd slot x = opnd slot' x) (hm : ∀ l ∈ memReads slot blk op, blk l = blk' l) : xNext slot blk op = xNext slot' blk' op := by
  unfold xNext
  split
  · rename_i it
    have hit : it ∈ (Op.next it true).operands.toList := by simp [Op.operands]
    have hb : ∀ l ∈ (opnd slot it).refs, blk l = blk' l := fun l hl => hm l (by
      unfold memReads
      exact List.mem_flatMap.2 ⟨it, hit, hl⟩)
    rw [← hs it hit]
    split
    · rename_i l o he
      rw [hb l (by rw [he]; simp [Sl.refs, Sv.refs, Lf.refs])]
    · rfl
  · rfl
theorem Does_congr {op : Op} {out : Out D} (hs : ∀ x ∈ op.operands.toList, opnd slot x = opnd slot' x) (hm : ∀ l ∈ memReads slot blk op, blk l = blk' l) (h : Does T S Γ slot blk fr op out) : Does T S Γ slot' blk' fr op out := by
  unfold Does at h ⊢
  rw [← xOpR_congr hs hm, ← xNext_congr hs hm]
  exact h

theorem step_congr (hs : ∀ t ∈ o.looksAt ops, slot t = slot' t) (hm : ∀ l ∈ memReads slot blk o.op, blk l = blk' l) (h : StepOk T S Γ ops n fr slot blk o W) : StepOk T S Γ ops n fr slot' blk' o W := by
  have hop : ∀ x ∈ o.op.operands.toList, opnd slot x = opnd slot' x := by
    intro x hx
    cases x with
    | tmp t =>
      refine hs t ?_
      simp only [Oper.looksAt, List.mem_append, List.mem_filterMap]
      exact .inl ⟨_, hx, rfl⟩
    | _ => rfl
  have hw : ∀ r, Wanted ops slot o r → Wanted ops slot' o r := by
    intro r hr
    unfold Wanted at hr ⊢
    cases hg : o.guard with
    | none => rw [hg] at hr; exact hr
    | some jw =>
      obtain ⟨j, want⟩ := jw
      rw [hg] at hr
      obtain ⟨d, hd, hr⟩ := hr
      have hin : slot d = slot' d := by
        refine hs d ?_
        simp only [Oper.looksAt, List.mem_append, hg]
        exact .inr (by simp [hd])
      exact ⟨d, hd, by rw [← hin]; exact hr⟩
  obtain ⟨h1, h2, h3⟩ := h
  refine ⟨h1, h2, ?_⟩
  rcases h3 with ⟨hwt, out, hx, hrest⟩ | ⟨hwf, hrest⟩
  · exact .inl ⟨hw _ hwt, out, Does_congr hop hm hx, hrest⟩
  · exact .inr ⟨hw _ hwf, hrest⟩

/-! ### the writes of some of the operations -/
def selS (L : Nat → Bool) : Nat → (Nat → Sl D) → List (Wr D) → (Nat → Sl D)
  | _, slot, [] => slot
  | i, slot, W :: Ws => selS L (i + 1) (if L i then appS slot W else slot) Ws
def selB (L : Nat → Bool) : Nat → (Nat → Option (Bk D)) → List (Wr D) → (Nat → Option (Bk D))
  | _, blk, [] => blk
  | i, blk, W :: Ws => selB L (i + 1) (if L i then appB blk W else blk) Ws

theorem appS_other {t : Nat} (h : W.dst ≠ some t) : appS slot W t = slot t := by
  unfold appS
  cases hd : W.dst with
  | some d => exact upd_other _ _ _ _ (fun e => h (by rw [hd, e]))
  | none => rfl
theorem appS_same {t : Nat} (h : W.dst = some t) : appS slot W t = W.val := by simp [appS, h, upd_same]

theorem updL_notin {α : Type} {l : Nat} : ∀ {kv : List (Nat × α)} {f : Nat → α}, l ∉ kv.map (·.1) → updL f kv l = f l
  | [], f, _ => rfl
  | (k, v) :: r, f, h => by
    simp only [List.map_cons, List.mem_cons, not_or] at h
    simp only [updL]
    rw [updL_notin h.2, upd_other _ _ _ _ h.1]
theorem updL_in {α : Type} {l : Nat} : ∀ {kv : List (Nat × α)} {f f' : Nat → α}, l ∈ kv.map (·.1) → updL f kv l = updL f' kv l
  | [], f, f', h => by simp at h
  | (k, v) :: r, f, f', h => by
    simp only [updL]
    by_cases hr : l ∈ r.map (·.1)
    · exact updL_in hr
    · simp only [List.map_cons, List.mem_cons] at h
      rcases h with rfl | h
      · rw [updL_notin hr, updL_notin hr, upd_same, upd_same]
      · exact absurd h hr

theorem selS_agree {L L' : Nat → Bool} {t : Nat} : ∀ (Ws : List (Wr D)) (i : Nat) (slot slot' : Nat → Sl D), (∀ j W, Ws[j]? = some W → W.dst = some t → L (i + j) = L' (i + j)) → slot t = slot' t → selS L i slot Ws t = selS L' i slot' Ws t
  | [], i, slot, slot', _, h => h
  | W :: Ws, i, slot, slot', hL, h => by
    simp only [selS]
    refine selS_agree Ws (i + 1) _ _ (fun j W' hj hd => by have := hL (j + 1) W' (by simpa using hj) hd; rwa [show i + (j + 1) = i + 1 + j by omega] at this) ?_
    by_cases hd : W.dst = some t
    · have := hL 0 W rfl hd
      simp only [Nat.add_zero] at this
      rw [this]
      split
      · rw [appS_same hd, appS_same hd]
      · exact h
    · have e1 : (if L i then appS slot W else slot) t = slot t := by split <;> first | exact appS_other hd | rfl
      have e2 : (if L' i then appS slot' W else slot') t = slot' t := by split <;> first | exact appS_other hd | rfl
      rw [e1, e2]; exact h

theorem selB_agree {L L' : Nat → Bool} {t : Nat} : ∀ (Ws : List (Wr D)) (i : Nat) (blk blk' : Nat → Option (Bk D)), (∀ j W, Ws[j]? = some W → t ∈ W.keys → L (i + j) = L' (i + j)) → blk t = blk' t → selB L i blk Ws t = selB L' i blk' Ws t
  | [], i, blk, blk', _, h => h
  | W :: Ws, i, blk, blk', hL, h => by
    simp only [selB]
    refine selB_agree Ws (i + 1) _ _ (fun j W' hj hd => by have := hL (j + 1) W' (by simpa using hj) hd; rwa [show i + (j + 1) = i + 1 + j by omega] at this) ?_
    by_cases hd : t ∈ W.keys
    · have := hL 0 W rfl hd
      simp only [Nat.add_zero] at this
      rw [this]
      split
      · exact updL_in hd
      · exact h
    · have e1 : (if L i then appB blk W else blk) t = blk t := by split <;> first | exact updL_notin hd | rfl
      have e2 : (if L' i then appB blk' W else blk') t = blk' t := by split <;> first | exact updL_notin hd | rfl
      rw [e1, e2]; exact h

theorem selS_none {L : Nat → Bool} {t : Nat} (Ws : List (Wr D)) (i : Nat) (slot : Nat → Sl D) (h : ∀ j W, Ws[j]? = some W → W.dst = some t → L (i + j) = false) : selS L i slot Ws t = slot t := by
  induction Ws generalizing i slot with
  | nil => rfl
  | cons W Ws ih =>
    simp only [selS]
    rw [ih (i + 1) _ fun j W' hj hd => by have := h (j + 1) W' (by simpa using hj) hd; rwa [show i + (j + 1) = i + 1 + j by omega] at this]
    by_cases hd : W.dst = some t
    · have := h 0 W rfl hd
      simp only [Nat.add_zero] at this
      rw [this]; rfl
    · split <;> first | exact appS_other hd | rfl
theorem selB_none {L : Nat → Bool} {t : Nat} (Ws : List (Wr D)) (i : Nat) (blk : Nat → Option (Bk D)) (h : ∀ j W, Ws[j]? = some W → t ∈ W.keys → L (i + j) = false) : selB L i blk Ws t = blk t := by
  induction Ws generalizing i blk with
  | nil => rfl
  | cons W Ws ih =>
    simp only [selB]
    rw [ih (i + 1) _ fun j W' hj hd => by have := h (j + 1) W' (by simpa using hj) hd; rwa [show i + (j + 1) = i + 1 + j by omega] at this]
    by_cases hd : t ∈ W.keys
    · have := h 0 W rfl hd
      simp only [Nat.add_zero] at this
      rw [this]; rfl
    · split <;> first | exact updL_notin hd | rfl

theorem selS_last {L : Nat → Bool} {t : Nat} : ∀ (Ws : List (Wr D)) (b i : Nat) (slot : Nat → Sl D) (W : Wr D), Ws[i]? = some W → L (b + i) = true → W.dst = some t → (∀ j W', i < j → Ws[j]? = some W' → W'.dst = some t → L (b + j) = false) → selS L b slot Ws t = W.val
  | [], b, i, slot, W, h, _, _, _ => by simp at h
  | V :: Ws, b, 0, slot, W, h, hL, hd, hn => by
    simp only [List.getElem?_cons_zero, Option.some.injEq] at h
    subst h
    simp only [selS]
    rw [selS_none Ws (b + 1) _ fun j W' hj hd' => by have := hn (j + 1) W' (by omega) (by simpa using hj) hd'; rwa [show b + (j + 1) = b + 1 + j by omega] at this]
    simp only [Nat.add_zero] at hL
    rw [hL]
    exact appS_same hd
  | V :: Ws, b, i + 1, slot, W, h, hL, hd, hn => by
    simp only [selS]
    exact selS_last Ws (b + 1) i _ W (by simpa using h) (by rw [show b + 1 + i = b + (i + 1) by omega]; exact hL) hd fun j W' hj hw hd' => by have := hn (j + 1) W' (by omega) (by simpa using hw) hd'; rwa [show b + (j + 1) = b + 1 + j by omega] at this
theorem selB_last {L : Nat → Bool} {t : Nat} : ∀ (Ws : List (Wr D)) (b i : Nat) (blk blk' : Nat → Option (Bk D)) (W : Wr D), Ws[i]? = some W → L (b + i) = true → t ∈ W.keys → (∀ j W', i < j → Ws[j]? = some W' → t ∈ W'.keys → L (b + j) = false) → selB L b blk Ws t = appB blk' W t
  | [], b, i, blk, blk', W, h, _, _, _ => by simp at h
  | V :: Ws, b, 0, blk, blk', W, h, hL, hd, hn => by
    simp only [List.getElem?_cons_zero, Option.some.injEq] at h
    subst h
    simp only [selB]
    rw [selB_none Ws (b + 1) _ fun j W' hj hd' => by have := hn (j + 1) W' (by omega) (by simpa using hj) hd'; rwa [show b + (j + 1) = b + 1 + j by omega] at this]
    simp only [Nat.add_zero] at hL
    rw [hL]
    exact updL_in hd
  | V :: Ws, b, i + 1, blk, blk', W, h, hL, hd, hn => by
    simp only [selB]
    exact selB_last Ws (b + 1) i _ blk' W (by simpa using h) (by rw [show b + 1 + i = b + (i + 1) by omega]; exact hL) hd fun j W' hj hw hd' => by have := hn (j + 1) W' (by omega) (by simpa using hw) hd'; rwa [show b + (j + 1) = b + 1 + j by omega] at this

theorem selS_all {L : Nat → Bool} : ∀ (Ws : List (Wr D)) (b : Nat) (slot : Nat → Sl D), (∀ j, j < Ws.length → L (b + j) = true) → selS L b slot Ws = appSs slot Ws
  | [], _, _, _ => rfl
  | W :: Ws, b, slot, h => by
    have h0 := h 0 (by simp)
    simp only [Nat.add_zero] at h0
    simp only [selS, h0, if_true, appSs]
    exact selS_all Ws (b + 1) _ fun j hj => by have := h (j + 1) (by simpa using hj); rwa [show b + (j + 1) = b + 1 + j by omega] at this
theorem selB_all {L : Nat → Bool} : ∀ (Ws : List (Wr D)) (b : Nat) (blk : Nat → Option (Bk D)), (∀ j, j < Ws.length → L (b + j) = true) → selB L b blk Ws = appBs blk Ws
  | [], _, _, _ => rfl
  | W :: Ws, b, blk, h => by
    have h0 := h 0 (by simp)
    simp only [Nat.add_zero] at h0
    simp only [selB, h0, if_true, appBs]
    exact selB_all Ws (b + 1) _ fun j hj => by have := h (j + 1) (by simpa using hj); rwa [show b + (j + 1) = b + 1 + j by omega] at this

theorem trace_at : ∀ (l : List Oper) (Ws : List (Wr D)) (b i fr : Nat) (slot : Nat → Sl D) (blk : Nat → Option (Bk D)) (o : Oper), Trace T S Γ ops n fr slot blk l Ws → l[i]? = some o →
    ∃ W, Ws[i]? = some W ∧ ∃ slot', (∀ t, Alike (selS (fun j => decide (j < b + i)) b slot Ws t) (slot' t)) ∧ StepOk T S Γ ops n (fr + 64 * i) slot' (selB (fun j => decide (j < b + i)) b blk Ws) o W
  | [], _, _, i, _, _, _, _, _, h => by simp at h
  | _ :: _, [], _, _, _, _, _, _, ht, _ => by simp [Trace] at ht
  | o' :: l, W :: Ws, b, 0, fr, slot, blk, o, ht, h => by
    simp only [List.getElem?_cons_zero, Option.some.injEq] at h
    subst h
    refine ⟨W, rfl, ?_⟩
    have e1 : selS (fun j => decide (j < b + 0)) b slot (W :: Ws) = slot := by
      funext t
      exact selS_none _ _ _ fun j W' _ _ => by simp
    have e2 : selB (fun j => decide (j < b + 0)) b blk (W :: Ws) = blk := by
      funext t
      exact selB_none _ _ _ fun j W' _ _ => by simp
    rw [e1, e2]
    exact ht.1
  | o' :: l, W :: Ws, b, i + 1, fr, slot, blk, o, ht, h => by
    obtain ⟨W', hW', hst⟩ := trace_at l Ws (b + 1) i (fr + 64) _ _ o ht.2 (by simpa using h)
    refine ⟨W', by simpa using hW', ?_⟩
    have hb : decide (b < b + (i + 1)) = true := by simp
    simp only [selS, selB, hb, if_true]
    rw [show b + (i + 1) = b + 1 + i by omega, show fr + 64 * (i + 1) = fr + 64 + 64 * i by omega]
    exact hst

theorem trace_length : ∀ (l : List Oper) (Ws : List (Wr D)) (fr : Nat) (slot : Nat → Sl D) (blk : Nat → Option (Bk D)), Trace T S Γ ops n fr slot blk l Ws → Ws.length = l.length
  | [], [], _, _, _, _ => rfl
  | [], _ :: _, _, _, _, h => by simp [Trace] at h
  | _ :: _, [], _, _, _, h => by simp [Trace] at h
  | _ :: l, _ :: Ws, fr, _, _, h => by simp [trace_length l Ws _ _ _ h.2]
end
end Go.Vc
