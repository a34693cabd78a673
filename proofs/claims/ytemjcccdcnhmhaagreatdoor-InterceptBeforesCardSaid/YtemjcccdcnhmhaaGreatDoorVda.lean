/-
  Own engine, part 10: a region that draws its order, whole.
-/
import Derived.Test.YtemjcccdcnhmhaaGreatDoorVd9
namespace Go.Vc
open Go.RowKit
set_option linter.unusedVariables false

/-- What is asked of a region that draws: the edges point backwards; two operations that touch one slot are joined by an edge. -/
def drawOkB (ops : Array Oper) : Bool :=
  (List.range ops.size).all fun j =>
    match ops[j]? with
    | none => true
    | some oj => (oj.after.toList.all fun e => !Region.binds .any e || Nat.blt e.on j) && (List.range j).all fun i =>
      match ops[i]? with
      | none => true
      | some oi => Oper.apart ops oi oj || edgeTo oj i

section
variable {D : Type} {P : Program} {S : Sh D} {T : TypeId → Option Ty} {Γ : FuncId → Option (Ct D)} {N : Nat → Prop} {w w' : World} {w0 : Bs} {g0 : Nat → Option Value} {blk blk' : Nat → Option (Bk D)} {al : Nat → Prop}
  {a : Act} {o : Oper} {K : Act → World → Prop} {Q : Exit → Act → World → Prop} {slot slot' : Nat → Sl D} {fr n : Nat} {ops : Array Oper} {W : Wr D} {Ws : List (Wr D)}

theorem drawOk_edges (h : drawOkB ops = true) {j : Nat} {oj : Oper} (hj : ops[j]? = some oj) : ∀ e ∈ oj.after.toList, Region.binds .any e = true → e.on < j := by
  intro e he hb
  have hlt : j < ops.size := (Array.getElem?_eq_some_iff.1 hj).1
  have := List.all_eq_true.1 h j (List.mem_range.2 hlt)
  simp only [hj, Bool.and_eq_true] at this
  have := List.all_eq_true.1 this.1 e he
  simp only [hb, Bool.not_true, Bool.false_or] at this
  simpa [Nat.blt_eq] using this
theorem drawOk_pair (h : drawOkB ops = true) {i j : Nat} {oi oj : Oper} (hij : i < j) (hi : ops[i]? = some oi) (hj : ops[j]? = some oj) : Oper.apart ops oi oj = true ∨ edgeTo oj i = true := by
  have hlt : j < ops.size := (Array.getElem?_eq_some_iff.1 hj).1
  have := List.all_eq_true.1 h j (List.mem_range.2 hlt)
  simp only [hj, Bool.and_eq_true] at this
  have := List.all_eq_true.1 this.2 i (List.mem_range.2 hij)
  simp only [hi, Bool.or_eq_true] at this
  exact this

/-- The blocks that operation i looks at, in the order of the text. -/
def readsAt (slot : Nat → Sl D) (blk : Nat → Option (Bk D)) (Ws : List (Wr D)) (ops : Array Oper) (i : Nat) : List Nat :=
  match ops[i]? with
  | some o => memReads (selS (fun j => decide (j < i)) 0 slot Ws) (selB (fun j => decide (j < i)) 0 blk Ws) o.op
  | none => []

def MemOk (slot : Nat → Sl D) (blk : Nat → Option (Bk D)) (Ws : List (Wr D)) (ops : Array Oper) : Prop :=
  ∀ i j oj Wi Wj l, i < j → ops[j]? = some oj → Ws[i]? = some Wi → Ws[j]? = some Wj → ((l ∈ Wj.keys ∧ (l ∈ readsAt slot blk Ws ops i ∨ l ∈ Wi.keys)) ∨ (l ∈ readsAt slot blk Ws ops j ∧ l ∈ Wi.keys)) → farTo ops 3 oj i = true

theorem edge_spec {o : Oper} {i : Nat} (h : edgeTo o i = true) : ∃ e ∈ o.after.toList, Region.binds .any e = true ∧ e.on = i := by
  simp only [edgeTo, List.any_eq_true, Bool.and_eq_true] at h
  obtain ⟨e, he, hb, hi⟩ := h
  exact ⟨e, he, hb, Nat.eq_of_beq_eq_true hi⟩

theorem far_listed {listed : Array Bool} (hcl : ∀ i o, ops[i]? = some o → listed.getD i false = true → ∀ e ∈ o.after.toList, Region.binds .any e = true → listed.getD e.on false = true) :
    ∀ (k : Nat) (o : Oper) (i : Nat), (∀ e ∈ o.after.toList, Region.binds .any e = true → listed.getD e.on false = true) → farTo ops k o i = true → listed.getD i false = true
  | 0, o, i, hed, h => by
    obtain ⟨e, he, hb, rfl⟩ := edge_spec h
    exact hed e he hb
  | k + 1, o, i, hed, h => by
    simp only [farTo, Bool.or_eq_true, List.any_eq_true, Bool.and_eq_true] at h
    rcases h with h | ⟨e, he, hb, hm⟩
    · obtain ⟨e, he, hb, rfl⟩ := edge_spec h
      exact hed e he hb
    · split at hm
      · rename_i o' ho'
        exact far_listed hcl k o' i (hcl e.on o' ho' (hed e he hb)) hm
      · cases hm

theorem ready_spec {listed : Array Bool} (hsz : listed.size = ops.size) {i : Nat} (h : i ∈ Region.ready .any ops listed) :
    ∃ o, ops[i]? = some o ∧ listed.getD i false = false ∧ i < ops.size ∧ ∀ e ∈ o.after.toList, Region.binds .any e = true → listed.getD e.on false = true := by
  simp only [Region.ready, List.mem_filter, List.mem_range, Bool.and_eq_true] at h
  obtain ⟨hlt, h1, h2⟩ := h
  cases ho : ops[i]? with
  | none => rw [ho] at h2; simp at h2
  | some o =>
    rw [ho] at h2
    simp only [Option.map_some, Option.getD_some] at h2
    refine ⟨o, rfl, ?_, hlt, fun e he hb => ?_⟩
    · have hl : i < listed.size := by omega
      simpa [Array.getD, hl] using h1
    · rw [Array.all_eq_true_iff_forall_mem] at h2
      have := h2 e (by simpa using he)
      simpa [hb] using this

theorem ready_nil {listed : Array Bool} (hsz : listed.size = ops.size) (hd : drawOkB ops = true) (h : Region.ready .any ops listed = []) : ∀ j, j < ops.size → listed.getD j false = true := by
  intro j
  induction j using Nat.strongRecOn with
  | _ j ih =>
    intro hj
    cases hb : listed.getD j false with
    | true => rfl
    | false =>
      exfalso
      have ho : ops[j]? = some ops[j] := by simp [hj]
      have hin : j ∈ Region.ready .any ops listed := by
        simp only [Region.ready, List.mem_filter, List.mem_range, Bool.and_eq_true]
        refine ⟨hj, ?_, ?_⟩
        · have hl : j < listed.size := by omega
          simpa [Array.getD, hl] using hb
        · rw [ho]
          simp only [Option.map_some, Option.getD_some]
          rw [Array.all_eq_true_iff_forall_mem]
          intro e he
          cases hbe : Region.binds .any e with
          | false => rfl
          | true =>
            have := drawOk_edges hd ho e (by simpa using he) hbe
            simpa using ih e.on this (by omega)
      rw [h] at hin
      simp at hin

theorem any_ops (hTy : ∀ t ty, T t = some ty → TyOk P t ty) (hΓ : ∀ f ct, Γ f = some ct → CtOk P S f ct) (hS : ShOk S) (hd : drawOkB ops = true) (htr : Trace T S Γ ops n fr slot blk ops.toList Ws) (hmem : MemOk slot blk Ws ops)
    (hQ : ∀ a w, Holds S w0 g0 N n (appSs slot Ws) (appBs blk Ws) (· < fr + 64 * ops.size) a w → Q .normal a w) :
    ∀ (fuel : Nat) (listed : Array Bool) (a : Act) (w : World), listed.size = ops.size → (∀ i o, ops[i]? = some o → listed.getD i false = true → ∀ e ∈ o.after.toList, Region.binds .any e = true → listed.getD e.on false = true) →
      listed.toList.count false ≤ fuel → Holds S w0 g0 N n (selS (fun j => listed.getD j false) 0 slot Ws) (selB (fun j => listed.getD j false) 0 blk Ws) (fun l => l < fr ∨ ∃ j, listed.getD j false = true ∧ fr + 64 * j ≤ l ∧ l < fr + 64 * j + 64) a w →
      wpAny P .any ops Q fuel listed a w := by
  have hlen : Ws.length = ops.size := by simpa using trace_length _ _ _ _ _ htr
  have hWs : ∀ (j : Nat) (Wj : Wr D), Ws[j]? = some Wj → ∃ oj : Oper, ops[j]? = some oj ∧ Wj.dst = oj.dst := by
    intro j Wj hj
    have hlt : j < ops.size := by have := (List.getElem?_eq_some_iff.1 hj).1; omega
    obtain ⟨W', hW', _, _, hst⟩ := trace_at ops.toList Ws 0 j fr slot blk ops[j] htr (by simp [hlt])
    rw [hj] at hW'
    injection hW' with hW'
    subst hW'
    exact ⟨ops[j], by simp [hlt], hst.1⟩
  -- when all are listed
  have fin : ∀ (listed : Array Bool) (a : Act) (w : World), listed.size = ops.size → Region.ready .any ops listed = [] → Holds S w0 g0 N n (selS (fun j => listed.getD j false) 0 slot Ws) (selB (fun j => listed.getD j false) 0 blk Ws) (fun l => l < fr ∨ ∃ j, listed.getD j false = true ∧ fr + 64 * j ≤ l ∧ l < fr + 64 * j + 64) a w → Q .normal a w := by
    intro listed a w hsz hr h
    have hall := ready_nil hsz hd hr
    rw [selS_all Ws 0 slot fun j hj => by simpa using hall j (by omega), selB_all Ws 0 blk fun j hj => by simpa using hall j (by omega)] at h
    obtain ⟨g, hp, hrest⟩ := h
    refine hQ a w ⟨g, hp.weaken ?_, hrest⟩
    rintro l (hl | ⟨j, hj, h1, h2⟩)
    · omega
    · have : j < listed.size := by
        by_cases hjl : j < listed.size
        · exact hjl
        · simp [Array.getD, hjl] at hj
      omega
  intro fuel
  induction fuel with
  | zero =>
    intro listed a w hsz hcl hcnt h
    have hr : Region.ready .any ops listed = [] := by
      cases hx : Region.ready .any ops listed with
      | nil => rfl
      | cons i rs =>
        exfalso
        obtain ⟨o, ho, hf, hlt, _⟩ := ready_spec hsz (show i ∈ Region.ready .any ops listed by rw [hx]; simp)
        have hl : i < listed.size := by omega
        have hmemf : false ∈ listed.toList := by
          have : listed[i] = false := by simpa [Array.getD, hl] using hf
          rw [← this]
          simp
        have := List.count_pos_iff.2 hmemf
        omega
    exact ⟨hr, fin listed a w hsz hr h⟩
  | succ fuel ih =>
    intro listed a w hsz hcl hcnt h
    refine ⟨fun hr => fin listed a w hsz hr h, fun i hi => ?_⟩
    obtain ⟨oi, hoi, hli, hilt, hed⟩ := ready_spec hsz hi
    obtain ⟨Wi, hWi, slotI, heI, hst⟩ := trace_at ops.toList Ws 0 i fr slot blk oi htr (by simpa using hoi)
    simp only [Nat.zero_add] at hst heI
    have hil : i < listed.size := by omega
    -- who is listed, among those that touch what operation i touches
    have order : ∀ j Wj oj, Ws[j]? = some Wj → ops[j]? = some oj → (j < i → farTo ops 3 oi j = true) → (i < j → farTo ops 3 oj i = true) → listed.getD j false = decide (j < i) := by
      intro j Wj oj hj hoj h1 h2
      rcases Nat.lt_trichotomy j i with hji | rfl | hji
      · rw [far_listed hcl 3 oi j hed (h1 hji)]; simp [hji]
      · rw [hli]; simp
      · have hn : ¬ j < i := by omega
        simp only [hn, decide_false]
        cases hb : listed.getD j false with
        | false => rfl
        | true =>
          have := far_listed hcl 3 oj i (hcl j oj hoj hb) (h2 hji)
          rw [hli] at this
          cases this
    have dstOf : ∀ (j : Nat) (Wj : Wr D) (oj : Oper) (t : Nat), Ws[j]? = some Wj → ops[j]? = some oj → Wj.dst = some t → oj.dst = some t := by
      intro j Wj oj t hj hoj hdst
      obtain ⟨o', ho', hst'⟩ := hWs j Wj hj
      rw [hoj] at ho'
      injection ho' with ho'
      subst ho'
      rw [← hst']; exact hdst
    have opAt : ∀ j Wj, Ws[j]? = some Wj → ∃ oj, ops[j]? = some oj := fun j Wj hj => by obtain ⟨o', ho', _⟩ := hWs j Wj hj; exact ⟨o', ho'⟩
    -- the slots that it looks at
    have hslot : ∀ t ∈ oi.looksAt ops, selS (fun j => decide (j < i)) 0 slot Ws t = selS (fun j => listed.getD j false) 0 slot Ws t := by
      intro t ht
      refine selS_agree Ws 0 slot slot (fun j Wj hj hdst => ?_) rfl
      obtain ⟨oj, hoj⟩ := opAt j Wj hj
      have hdj := dstOf j Wj oj t hj hoj hdst
      simp only [Nat.zero_add]
      refine (order j Wj oj hj hoj (fun hji => ?_) (fun hij => ?_)).symm
      · rcases drawOk_pair hd hji hoj hoi with hap | he
        · exact absurd ht ((Oper.apart_spec hap).1 t hdj)
        · exact far_of he 3
      · rcases drawOk_pair hd hij hoi hoj with hap | he
        · exact absurd ht ((Oper.apart_spec hap).2.2 t hdj)
        · exact far_of he 3
    have hrd : readsAt slot blk Ws ops i = memReads (selS (fun j => decide (j < i)) 0 slot Ws) (selB (fun j => decide (j < i)) 0 blk Ws) oi.op := by simp [readsAt, hoi]
    have hblk : ∀ l ∈ memReads (selS (fun j => decide (j < i)) 0 slot Ws) (selB (fun j => decide (j < i)) 0 blk Ws) oi.op, selB (fun j => decide (j < i)) 0 blk Ws l = selB (fun j => listed.getD j false) 0 blk Ws l := by
      intro l hl
      refine selB_agree Ws 0 blk blk (fun j Wj hj hk => ?_) rfl
      obtain ⟨oj, hoj⟩ := opAt j Wj hj
      simp only [Nat.zero_add]
      exact (order j Wj oj hj hoj (fun hji => hmem j i oi Wj Wi l hji hoi hj hWi (.inr ⟨by rw [hrd]; exact hl, hk⟩)) (fun hij => hmem i j oj Wi Wj l hij hoj hWi hj (.inl ⟨hk, .inl (by rw [hrd]; exact hl)⟩))).symm
    have hst' := step_congr (slot' := fun t => if t ∈ oi.looksAt ops then slotI t else selS (fun j => listed.getD j false) 0 slot Ws t) (fun t ht => by simp only [ht, if_true]) (fun l hl => hblk l (by rw [memReads_alike heI]; exact hl)) hst
    have heL : ∀ t, Alike (selS (fun j => listed.getD j false) 0 slot Ws t) (if t ∈ oi.looksAt ops then slotI t else selS (fun j => listed.getD j false) 0 slot Ws t) := by
      intro t
      by_cases ht : t ∈ oi.looksAt ops
      · rw [if_pos ht, ← hslot t ht]; exact heI t
      · rw [if_neg ht]; exact Alike.refl _
    refine step_sound hTy hΓ hS hoi (h.alike heL) ?_ hst' fun a' w' h' => ?_
    · rintro m hm1 hm2 (hlt | ⟨j, hj, he⟩)
      · omega
      · have : j = i := by omega
        subst this
        rw [hli] at hj
        cases hj
    · -- the state with operation i listed
      have h' := h'.alike (appS_alike (W := Wi) fun t => (heL t).symm)
      have hget : ∀ j, (listed.setIfInBounds i true).getD j false = (if j = i then true else listed.getD j false) := by
        intro j
        by_cases hji : j = i
        · subst hji; simp [Array.getD, hil]
        · simp only [hji, if_false, Array.getD]
          by_cases hjl : j < listed.size
          · have hij : ¬ i = j := fun e => hji e.symm
            simp [hjl, hij]
          · simp [hjl]
      have e1 : appS (selS (fun j => listed.getD j false) 0 slot Ws) Wi = selS (fun j => (listed.setIfInBounds i true).getD j false) 0 slot Ws := by
        funext t
        by_cases hdst : Wi.dst = some t
        · rw [appS_same hdst]
          refine (selS_last Ws 0 i slot Wi hWi (by simp [hget]) hdst fun j Wj hij hj hdj => ?_).symm
          obtain ⟨oj, hoj⟩ := opAt j Wj hj
          simp only [Nat.zero_add, hget, show j ≠ i by omega, if_false]
          have := order j Wj oj hj hoj (fun h => by omega) (fun _ => by
            rcases drawOk_pair hd hij hoi hoj with hap | he
            · exact absurd (dstOf j Wj oj t hj hoj hdj) ((Oper.apart_spec hap).2.1 t (dstOf i Wi oi t hWi hoi hdst))
            · exact far_of he 3)
          rw [this]
          simp; omega
        · rw [appS_other hdst]
          refine selS_agree Ws 0 slot slot (fun j Wj hj hdj => ?_) rfl
          have hji : j ≠ i := by
            rintro rfl
            rw [hWi] at hj
            injection hj with hj
            subst hj
            exact hdst hdj
          simp [hget, hji]
      have e2 : appB (selB (fun j => listed.getD j false) 0 blk Ws) Wi = selB (fun j => (listed.setIfInBounds i true).getD j false) 0 blk Ws := by
        funext t
        by_cases hk : t ∈ Wi.keys
        · refine (selB_last Ws 0 i blk _ Wi hWi (by simp [hget]) hk fun j Wj hij hj hkj => ?_).symm
          obtain ⟨oj, hoj⟩ := opAt j Wj hj
          simp only [Nat.zero_add, hget, show j ≠ i by omega, if_false]
          have := order j Wj oj hj hoj (fun h => by omega) (fun _ => hmem i j oj Wi Wj t hij hoj hWi hj (.inl ⟨hkj, .inr hk⟩))
          rw [this]
          simp; omega
        · rw [show appB (selB (fun j => listed.getD j false) 0 blk Ws) Wi t = selB (fun j => listed.getD j false) 0 blk Ws t from updL_notin hk]
          refine selB_agree Ws 0 blk blk (fun j Wj hj hkj => ?_) rfl
          have hji : j ≠ i := by
            rintro rfl
            rw [hWi] at hj
            injection hj with hj
            subst hj
            exact hk hkj
          simp [hget, hji]
      rw [e1, e2] at h'
      refine ih _ a' w' (by simp [hsz]) ?_ ?_ ?_
      · intro j o ho hj e he hb
        rw [hget] at hj ⊢
        by_cases hji : j = i
        · subst hji
          rw [hoi] at ho
          injection ho with ho
          subst ho
          have := hed e he hb
          split <;> simp_all
        · rw [if_neg hji] at hj
          have := hcl j o ho hj e he hb
          split <;> simp_all
      · have hx : listed.toList[i]'(by simpa using hil) = false := by simpa [Array.getD, hil] using hli
        have hc : (listed.setIfInBounds i true).toList.count false = listed.toList.count false - 1 := by
          rw [Array.toList_setIfInBounds, List.count_set (by simpa using hil)]
          simp [hx]
        omega
      · obtain ⟨g, hp, hrest⟩ := h'
        refine ⟨g, hp.weaken ?_, hrest⟩
        rintro l ((hl | ⟨j, hj, hr⟩) | hr)
        · exact .inl hl
        · exact .inr ⟨j, by rw [hget]; split <;> simp_all, hr⟩
        · exact .inr ⟨i, by simp [hget], hr⟩

theorem draw_region {id : Nat} (hm : P.follows .mixedOrders = true) (hTy : ∀ t ty, T t = some ty → TyOk P t ty) (hΓ : ∀ f ct, Γ f = some ct → CtOk P S f ct) (hS : ShOk S) (hd : drawOkB ops = true) (htr : Trace T S Γ ops n fr slot blk ops.toList Ws) (hmem : MemOk slot blk Ws ops)
    (h : Holds S w0 g0 N n slot blk (· < fr) a w) (hQ : ∀ a w, Holds S w0 g0 N n (appSs slot Ws) (appBs blk Ws) (· < fr + 64 * ops.size) a w → Q .normal a w) : (Code.region id ops true).wp P Q a w := by
  refine wp_region_any hm (any_ops hTy hΓ hS hd htr hmem hQ ops.size _ a _ (by simp) ?_ (by simp) ?_)
  · intro i o _ hi
    exfalso
    by_cases hlt : i < ops.size
    · simp [Array.getD, hlt] at hi
    · simp [Array.getD, hlt] at hi
  · have hL : ∀ j, (Array.replicate ops.size false).getD j false = false := by
      intro j
      by_cases hlt : j < ops.size <;> simp [Array.getD, hlt]
    have e1 : selS (fun j => (Array.replicate ops.size false).getD j false) 0 slot Ws = slot := by
      funext t; exact selS_none _ _ _ fun j W _ _ => hL _
    have e2 : selB (fun j => (Array.replicate ops.size false).getD j false) 0 blk Ws = blk := by
      funext t; exact selB_none _ _ _ fun j W _ _ => hL _
    rw [e1, e2]
    obtain ⟨g, hp, hs, hn, hdf, hm0⟩ := h
    have hB : Below w.heap.size w { w with drawn := w.drawn + 1 } := ⟨rfl, rfl, rfl, Nat.le_refl _, fun _ _ => rfl⟩
    obtain ⟨hp', hk⟩ := hp.grow hB
    exact ⟨g, hp'.weaken fun l hl => .inl hl, fun t => (hs t).keep hk (More.refl _), hn, hdf, hm0⟩
end
end Go.Vc
