/-
  Intercept: Before, After.
-/
import Derived.Test.YtemjcccdcnhmhaaGreatDoorF
namespace Go.Proofs.YtemjcccdcnhmhaaGreatDoor
open Go.RowKit Go.Vc
set_option linter.unusedVariables false
set_option linter.unusedSimpArgs false
set_option maxRecDepth 100000

noncomputable def pass_ (x : Icept) (t : List Trace) (now : Int) (hd : Head) : Pg (Head × Int) :=
  .lt (actionP x) fun (v1 : Option Ifc) =>
    .ob (Ifc.ok v1 118 true [Value.string (ByteArray.mk (Array.mk [])), Value.string (ByteArray.mk (Array.mk []))] = true)
      (.br (Ifc.is v1 118)
        (.lt (meta_P hd (Pv.gS (Ifc.get v1 118 0))) fun (v2 : Str × Bool) =>
          .br (!v2.snd) (.ret (hd, 21)) (.br (v2.fst != Pv.gS (Ifc.get v1 118 1)) (.ret (hd, 21)) (.ret (hd, 0))))
        (.ob (Ifc.ok v1 120 true [Value.int .i64 0, Value.int .i64 0] = true)
          (.br (Ifc.is v1 120)
            (.ob (List.length hd.Service + List.length hd.Method ≤ 1000000)
              (.lt (recentP t (pathP hd.Service hd.Method) (wrp .i64 (now - Pv.gI (Ifc.get v1 120 1)))) fun (v3 : Int) =>
                .lt (Pv.gI (Ifc.get v1 120 0)) fun (v4 : Int) => .br (decide (v4 ≤ v3)) (.ret (hd, 22)) (.ret (hd, 0))))
            (.ob (Ifc.ok v1 121 true [Value.string (ByteArray.mk (Array.mk [])), Value.string (ByteArray.mk (Array.mk []))] = true)
              (.br (Ifc.is v1 121)
                (.lt (Pv.gS (Ifc.get v1 121 0)) fun (v5 : List UInt8) =>
                  .ob (hd.Metas.length ≤ 1000 ∧ v5.length ≤ 1000) (.ret (stampV hd v5 (Pv.gS (Ifc.get v1 121 1)))))
                (.ob (Ifc.ok v1 123 true [Value.int .i64 0] = true)
                  (.br (Ifc.is v1 123)
                    (.ret (Head.mk hd.Service hd.Method (earlierP hd.Deadline (afterP now (Pv.gI (Ifc.get v1 123 0)))) hd.Metas, 0))
                    (.ret (hd, 0)))))))))
noncomputable def pass_P (x : Icept) (t : List Trace) (now : Int) (hd : Head) : Head × Int := (pass_ x t now hd).val

noncomputable def passV (x : Icept) (t : List Trace) (now : Int) (hd : Head) : Head × Int :=
  bif x.Kind == 1 then (bif !(rmetaP hd x.Key).2 then (hd, 21) else bif (rmetaP hd x.Key).1 != x.Val then (hd, 21) else (hd, 0))
  else bif x.Kind == 3 then (bif decide (x.Num ≤ recentP t (pathP hd.Service hd.Method) (wrp .i64 (now - x.Span))) then (hd, 22) else (hd, 0))
  else bif x.Kind == 4 then stampV hd x.Key x.Val
  else bif x.Kind == 5 then (⟨hd.Service, hd.Method, earlierP hd.Deadline (afterP now x.Num), hd.Metas⟩, 0) else (hd, 0)
theorem meta_eq (hd : Head) (key : Str) : meta_P hd key = rmetaP hd key := by
  unfold meta_P meta_ rmetaP rmeta
  simp only [val_as, val_each, val_ix, val_br, val_ret]
theorem pass_eq (x : Icept) (t : List Trace) (now : Int) (hd : Head) : (pass_ x t now hd).val = passV x t now hd := by
  unfold pass_ passV actionP action
  simp only [val_lt, val_br, val_ob, val_ret, meta_eq]
  have d : ∀ i j : Int, i ≠ j → x.Kind = i → (x.Kind == j) = false := fun i j h e => by rw [beq_eq_false_iff_ne, e]; exact h
  have s : ∀ i : Int, x.Kind = i → (x.Kind == i) = true := fun i e => by rw [e]; exact beq_self_eq_true i
  by_cases k1 : x.Kind = 1
  · simp only [s 1 k1, cond_true]; rfl
  by_cases k2 : x.Kind = 2
  · simp only [d 2 1 (by decide) k2, d 2 3 (by decide) k2, d 2 4 (by decide) k2, d 2 5 (by decide) k2, s 2 k2, cond_true, cond_false]; rfl
  by_cases k3 : x.Kind = 3
  · simp only [d 3 1 (by decide) k3, d 3 2 (by decide) k3, s 3 k3, cond_true, cond_false]; rfl
  by_cases k4 : x.Kind = 4
  · simp only [d 4 1 (by decide) k4, d 4 2 (by decide) k4, d 4 3 (by decide) k4, s 4 k4, cond_true, cond_false]; rfl
  by_cases k5 : x.Kind = 5
  · simp only [d 5 1 (by decide) k5, d 5 2 (by decide) k5, d 5 3 (by decide) k5, d 5 4 (by decide) k5, s 5 k5, cond_true, cond_false]; rfl
  have n : ∀ i : Int, x.Kind ≠ i → (x.Kind == i) = false := fun i h => by rw [beq_eq_false_iff_ne]; exact h
  simp only [n 1 k1, n 2 k2, n 3 k3, n 4 k4, n 5 k5, cond_false]
  cases x.Kind == 6 <;> rfl
theorem act_key (x : Icept) : (Pv.gS (Ifc.get (actionP x) 121 0)).length ≤ x.Key.length := by
  unfold actionP action
  simp only [val_br, val_ret]
  cases x.Kind == 1 <;> cases x.Kind == 2 <;> cases x.Kind == 3 <;> cases x.Kind == 4 <;> cases x.Kind == 5 <;> cases x.Kind == 6 <;> first | exact Nat.le_refl _ | exact Nat.zero_le _

theorem pass__is (x : Icept) (t : List Trace) (now : Int) (hd : Head) (h : hd.Metas.length ≤ 1000 ∧ hd.Service.length + hd.Method.length ≤ 1000000 ∧ x.Key.length ≤ 1000) : Is (pass_ x t now hd) :=
  is_lt fun v1 hv1 => is_ob ((hv1 ▸ act_ok x).1) (is_br (fun _ => is_lt fun v2 hv2 => is_br (fun _ => is_ret) (fun _ => is_br (fun _ => is_ret) (fun _ => is_ret))) (fun _ => is_ob ((hv1 ▸ act_ok x).2.2.2.1) (is_br (fun _ => is_ob (by omega) (is_lt fun v3 hv3 => is_lt fun v4 hv4 => is_brd (fun _ => is_ret) (fun _ => is_ret))) (fun _ => is_ob ((hv1 ▸ act_ok x).2.1) (is_br (fun _ => is_lt fun v5 hv5 => is_ob ((⟨h.1, by rw [hv5, hv1]; have := act_key x; omega⟩)) (is_ret)) (fun _ => is_ob ((hv1 ▸ act_ok x).2.2.2.2.1) (is_br (fun _ => is_ret) (fun _ => is_ret))))))))
noncomputable def e_pass_ : Ent Z := entN Z [e_stamp, e_meta_, e_path, e_action, e_recent, e_earlier, e_after] [] (args (aCons (aAgg cd_Icept) (aCons (aLf cd_LTrace) (aCons (aLf (cInt .i64)) (a1 (aAgg cd_Head)))))) (argsI (n := 78) rfl) (shr [.slot 0 true [none, none, none, none], .slot 1 false [none]] (lCons cd_Head (l1 (cInt .i64)))) [] Tryz.func29 Tryz.ntmps29 (by kernel_rfl) 2 rfl (fun a => pass_ (a.1) (a.2.1) (a.2.2.1) (a.2.2.2)) (fun a => some ((a.2.2.2).Metas.length ≤ 1000 ∧ (a.2.2.2).Service.length + (a.2.2.2).Method.length ≤ 1000000 ∧ (a.1).Key.length ≤ 1000)) (fun a e _ => by kernel_rfl) (fun a => passV (a.1) (a.2.1) (a.2.2.1) (a.2.2.2)) (fun a h => ⟨pass__is (a.1) (a.2.1) (a.2.2.1) (a.2.2.2) h, (fun x t now hd _ => pass_eq x t now hd) (a.1) (a.2.1) (a.2.2.1) (a.2.2.2) h⟩)

noncomputable def before (l : List Icept) (t : List Trace) (now : Int) (hd : Head) : Pg (Head × List Trace × Status) :=
  .cut
    (fun (y4 : Int × Head) =>
      .cut
        (fun (y5 : Unit) =>
          .br (decide (0 < y4.fst))
            (.ob (List.length hd.Service + List.length hd.Method ≤ 1000000)
              (.ob (okT t) (.ret (y4.snd, keepT (wrp .i64 (now - y4.fst)) (nextT t (pathP hd.Service hd.Method) now), Status.mk 0 []))))
            (.ret (y4.snd, t, Status.mk 0 [])))
        (.br (decide (1 ≤ y4.snd.Deadline)) (.br (decide (y4.snd.Deadline ≤ now)) (.ret (.inr (hd, t, stOfP 23))) (.ret (.inl ())))
          (.ret (.inl ()))))
    (.as (l.length ≤ 9223372036854775807)
      (.each false ixP l d_Icept
        (fun (i1 : Int) (a3 : Icept) (y2 : Int × Head) =>
          .ix i1 l.length
            (.ob (y2.snd.Metas.length ≤ 1000 ∧ List.length y2.snd.Service + List.length y2.snd.Method ≤ 1000000 ∧ List.length a3.Key ≤ 1000)
              (.lt (passV a3 t now y2.snd) fun (v6 : Head × Int) =>
                .br (v6.snd != 0) (.ret (.inr (.inr (hd, t, stOfP v6.snd))))
                  (.br (a3.Kind == 3) (.ret (.inl (max y2.fst a3.Span, v6.fst))) (.ret (.inl (y2.fst, v6.fst)))))))
        (fun (i1 : Int) (y2 : Int × Head) => .ret (.inl y2)) (0, hd)))
noncomputable def beforeP (l : List Icept) (t : List Trace) (now : Int) (hd : Head) : Head × (List Trace) × Status := (before l t now hd).val

theorem stampV_facts (h : Head) (key val : Str) : (stampV h key val).1.Service = h.Service ∧ (stampV h key val).1.Method = h.Method ∧ (stampV h key val).1.Metas.length ≤ h.Metas.length + 1 := by
  unfold stampV
  have := nextM_len h.Metas key val
  cases rentryP key val != 0 <;> cases decide (16 < ((nextM h.Metas key val).length : Int)) <;> exact ⟨rfl, rfl, by simp only [cond_true, cond_false]; omega⟩
theorem passV_facts (x : Icept) (t : List Trace) (now : Int) (h : Head) : (passV x t now h).1.Service = h.Service ∧ (passV x t now h).1.Method = h.Method ∧ (passV x t now h).1.Metas.length ≤ h.Metas.length + 1 := by
  unfold passV
  cases x.Kind == 1
  · cases x.Kind == 3
    · cases x.Kind == 4
      · cases x.Kind == 5 <;> exact ⟨rfl, rfl, Nat.le_succ _⟩
      · exact stampV_facts h x.Key x.Val
    · cases decide (x.Num ≤ recentP t (pathP h.Service h.Method) (wrp .i64 (now - x.Span))) <;> exact ⟨rfl, rfl, Nat.le_succ _⟩
  · cases !(rmetaP h x.Key).2 <;> cases (rmetaP h x.Key).1 != x.Val <;> exact ⟨rfl, rfl, Nat.le_succ _⟩
def okB (l : List Icept) (t : List Trace) (hd : Head) : Prop := okT t ∧ okIs l ∧ l.length ≤ 100 ∧ hd.Metas.length ≤ 100 ∧ hd.Service.length + hd.Method.length ≤ 1000000

theorem before_is (l : List Icept) (t : List Trace) (now : Int) (hd : Head) (h : okB l t hd) : Is (before l t now hd) :=
  by
  obtain ⟨h1, h2, h3, h4, h5⟩ := h
  refine is_cut (is_as fun _ => is_eachI (fun k y => y.2.Service = hd.Service ∧ y.2.Method = hd.Method ∧ y.2.Metas.length ≤ 100 + k) ⟨rfl, rfl, h4⟩ (.inr (by omega)) (fun i1 y2 hlt _ hI => ⟨?_, fun y' hy' => ?_⟩) (fun y2 _ _ => is_ret)) (fun y4 hy4 => is_cut (is_brd (fun _ => is_brd (fun _ => is_ret) (fun _ => is_ret)) (fun _ => is_ret)) (fun y5 hy5 => is_brd (fun _ => is_ob h5 (is_ob h1 (is_ret))) (fun _ => is_ret)))
  · have k2 := h2 _ (getD_mem (d := d_Icept) hlt)
    obtain ⟨q1, q2, q3⟩ := hI
    exact is_ix (by omega) (by omega) (is_ob ⟨by omega, by rw [q1, q2]; exact h5, k2⟩ (is_lt fun v6 hv6 => is_bne (fun _ => is_ret) (fun _ => is_beq (fun _ => is_ret) (fun _ => is_ret))))
  · obtain ⟨q1, q2, q3⟩ := hI
    obtain ⟨p1, p2, p3⟩ := passV_facts (l.getD i1 d_Icept) t now y2.2
    revert hy'
    simp only [val_ix, val_ob, val_lt, val_br, val_ret]
    cases (passV (l.getD i1 d_Icept) t now y2.2).2 != 0 <;> cases (l.getD i1 d_Icept).Kind == 3 <;> simp only [cond_true, cond_false] <;> intro e <;> cases e <;> exact ⟨p1.trans q1, p2.trans q2, by show (passV (l.getD i1 d_Icept) t now y2.2).1.Metas.length ≤ 100 + (i1 + 1); omega⟩
noncomputable def e_before : Ent Z := entN Z [e_pass_, e_stOf, e_noted, e_path] [jS 3 (shp (fun sl => [.slot 20 false [none], .slot 12 false [none], .cells (pid (sl 11)) [none, none, none, none]]) (lCons (cInt .i64) (lCons (cInt .i64) (l1 cd_Head)))), jS 100012 (shp (fun sl => [.slot 12 false [none], .cells (pid (sl 11)) [none, none, none, none]]) (lCons (cInt .i64) (l1 cd_Head))), jS 100014 (shp (fun sl => []) l0)] (args (aCons (aLf cd_LIcept) (aCons (aLf cd_LTrace) (aCons (aLf (cInt .i64)) (a1 (aAgg cd_Head)))))) (argsI (n := 75) rfl) (shr [.slot 0 true [none, none, none, none], .slot 1 false [none], .slot 2 true [none, none]] (lCons cd_Head (lCons cd_LTrace (l1 cd_Status)))) [] Tryz.func9 Tryz.ntmps9 (by kernel_rfl) 3 rfl (fun a => before (a.1) (a.2.1) (a.2.2.1) (a.2.2.2)) (fun a => some (okB (a.1) (a.2.1) (a.2.2.2))) (fun a e _ => by kernel_rfl) (fun a => beforeP (a.1) (a.2.1) (a.2.2.1) (a.2.2.2)) (fun a h => ⟨before_is (a.1) (a.2.1) (a.2.2.1) (a.2.2.2) h, rfl⟩)

noncomputable def afterI (l : List Icept) (s : Schema) (name : Str) (v : AVal) : Pg AVal :=
  .as (l.length ≤ 9223372036854775807)
    (.each false ixI l d_Icept
      (fun (i1 : Int) (a3 : Icept) (y2 : Unit) =>
        .ix i1 l.length (.br (a3.Kind == 6) (.ob (nV v.re ≤ 1000000) (.ret (.inr (hideP s name v.re).re))) (.ret (.inl ()))))
      (fun (i1 : Int) (y2 : Unit) => .ret v.re) ())
noncomputable def afterIP (l : List Icept) (s : Schema) (name : Str) (v : AVal) : AVal := (afterI l s name v).val

theorem afterI_is (l : List Icept) (s : Schema) (name : Str) (v : AVal) (h : nV v ≤ 1000000) : Is (afterI l s name v) :=
  is_as fun _ => is_each (.inr (by omega)) (fun i1 y2 _ _ => is_ix (by omega) (by omega) (is_beq (fun _ => is_ob (by rw [AVal.re_eq]; exact h) (is_ret)) (fun _ => is_ret))) (fun y2 _ => is_ret)
noncomputable def e_afterI : Ent Z := entN Z [e_hide] [jS 2 (shp (fun sl => [.slot 13 false [none]]) (l1 (cInt .i64)))] (args (aCons (aLf cd_LIcept) (aCons (aAgg cd_Schema) (aCons (aLf cStr) (a1 (aAgg cd_AVal)))))) (argsI (n := 26) rfl) (shr [.slot 0 true [none, none, none, none, none, none, none]] (l1 cd_AVal)) [] Tryz.func18 Tryz.ntmps18 (by kernel_rfl) 1 rfl (fun a => afterI (a.1) (a.2.1) (a.2.2.1) (a.2.2.2)) (fun a => some (nV (a.2.2.2) ≤ 1000000)) (fun a e _ => by kernel_rfl) (fun a => afterIP (a.1) (a.2.1) (a.2.2.1) (a.2.2.2)) (fun a h => ⟨afterI_is (a.1) (a.2.1) (a.2.2.1) (a.2.2.2) h, rfl⟩)
end Go.Proofs.YtemjcccdcnhmhaaGreatDoor
