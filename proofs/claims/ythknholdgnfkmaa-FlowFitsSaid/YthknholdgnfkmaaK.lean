/-
  Flow: the contracts of Take, Give and Accept, proved by the kit's walks, in the engine's form.
-/
import Derived.Test.YthknholdgnfkmaaH
namespace Go.Proofs.Ythknholdgnfkmaa
open Go.RowKit Go.Vc

def takeC : Ct DI := fun args => match args with
  | [.one (.agg [.int .i64 s, .int .i64 l, .int .i64 h]), .one (.lf (.int .i64 n))] => some (none, .tup [.agg [.int .i64 s, .int .i64 (takeR s l h n).1, .int .i64 h], .lf (.int .i64 (takeR s l h n).2)])
  | _ => none
def giveC : Ct DI := fun args => match args with
  | [.one (.agg [.int .i64 s, .int .i64 l, .int .i64 h]), .one (.lf (.int .i64 n))] => some (none, .tup [.agg [.int .i64 s, .int .i64 (giveR s l h n).1, .int .i64 h], .lf (.int .i64 (giveR s l h n).2)])
  | _ => none
def accC : Ct DI := fun args => match args with
  | [.one (.agg [.int .i64 s, .int .i64 l, .int .i64 h]), .one (.lf (.int .i64 n))] => some (none, .tup [.agg [.int .i64 s, .int .i64 (accR s l h n).1, .int .i64 (accR s l h n).2.1], .lf (.int .i64 (accR s l h n).2.2)])
  | _ => none

theorem args_wn {N : Nat → Prop} {w : World} {s l h n : Int} {args : List Value} (hr : SlsRel SI N w noG [.one (.agg [.int .i64 s, .int .i64 l, .int .i64 h]), .one (.lf (.int .i64 n))] args) :
    args.toArray = #[.agg #[.int .i64 s, .int .i64 l, .int .i64 h], .int .i64 n] := by
  match args, hr with
  | [_, _], ⟨⟨vs, rfl, hv⟩, hn, _⟩ =>
    match vs, hv with
    | [_, _, _], ⟨h1, h2, h3, _⟩ =>
      simp only [Lf.Rel, Sl.Rel, Sv.Rel] at h1 h2 h3 hn
      subst h1 h2 h3 hn
      rfl
theorem enters {f : FuncId} {fn : Func} {c : Code} (hf : Try.prog.funcs[f]? = some fn) (hb : fn.body = some c) (hnm : (fn.name == "runtime.NumGoroutine") = false) (args : Array Value) (w : World) : (callFunc f args).run Try.prog w = .ok (.enter f args) w := by
  have hnm' : ¬ fn.name = "runtime.NumGoroutine" := by simpa using hnm
  simp [callFunc, hf, hnm', hb]

theorem take_ok : CtOk Try.prog SI 16 takeC := by
  refine ⟨enters Try.func16 rfl (by kernel_rfl), fun N w args sargs p r hN hr hc hp => ?_⟩
  unfold takeC at hc
  split at hc
  · cases hc
    rw [args_wn hr]
    refine (take_any _ _ _ _ w).mono ?_
    rintro e w' ⟨rfl, hb⟩
    exact ⟨_, rfl, hb, ⟨_, rfl, ⟨⟨_, rfl, rfl, rfl, rfl, trivial⟩, rfl, trivial⟩⟩, fun e d h => by cases h⟩
  · cases hc
theorem give_ok : CtOk Try.prog SI 18 giveC := by
  refine ⟨enters Try.func18 rfl (by kernel_rfl), fun N w args sargs p r hN hr hc hp => ?_⟩
  unfold giveC at hc
  split at hc
  · cases hc
    rw [args_wn hr]
    refine (give_any _ _ _ _ w).mono ?_
    rintro e w' ⟨rfl, hb⟩
    exact ⟨_, rfl, hb, ⟨_, rfl, ⟨⟨_, rfl, rfl, rfl, rfl, trivial⟩, rfl, trivial⟩⟩, fun e d h => by cases h⟩
  · cases hc
theorem acc_ok : CtOk Try.prog SI 20 accC := by
  refine ⟨enters Try.func20 rfl (by kernel_rfl), fun N w args sargs p r hN hr hc hp => ?_⟩
  unfold accC at hc
  split at hc
  · cases hc
    rw [args_wn hr]
    refine (acc_any _ _ _ _ w).mono ?_
    rintro e w' ⟨rfl, hb⟩
    exact ⟨_, rfl, hb, ⟨_, rfl, ⟨⟨_, rfl, rfl, rfl, rfl, trivial⟩, rfl, trivial⟩⟩, fun e d h => by cases h⟩
  · cases hc
end Go.Proofs.Ythknholdgnfkmaa
