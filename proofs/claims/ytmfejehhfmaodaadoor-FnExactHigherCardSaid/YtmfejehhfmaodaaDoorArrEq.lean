/- Two hashes compared as values. -/
import Derived.Test.YtmfejehhfmaodaaDoorHashCall
namespace Go.Proofs.YtmfejehhfmaodaaDoor.Z
open Go.RowKit Go.Proofs.YtmfejehhfmaodaaDoor Go.Proofs.YtmfejehhfmaodaaDoorW.PrintWords Go.Proofs.YtmfejehhfmaodaaDoorW.PrintLast
set_option linter.unusedVariables false
set_option linter.unusedSimpArgs false
theorem part_u8 (l : List Int) (i : Nat) (hi : i < l.length) (w : World) : (Go.part 5 (l.map (Value.int .u8)).toArray (i * 1)).run Tryd.prog w = .ok (.int .u8 (rdN l i)) w := by
  have hA : ∀ w : World, (Go.isAgg 5).run Tryd.prog w = .ok false w := fun _ => by kernel_rfl
  unfold Go.part
  simp only [Sem.run_bind, hA, Result.andThen_ok, Bool.false_eq_true, if_false, Nat.mul_one]
  have : ((l.map (Value.int .u8)).toArray)[i]? = some (.int .u8 (rdN l i)) := by simp [rdN, List.getD_eq_getElem?_getD, hi]
  rw [this]
  rfl
theorem eq_loop (l m : List Int) (hl : l.length = 32) (hm : m.length = 32) (w : World) : ∀ (k j : Nat), j + k = 32 →
    (forIn (List.range' j k) ((none, ()) : Option Bool × Unit) (fun i _ => (do
      let a ← Go.part 5 (l.map (Value.int .u8)).toArray (i * 1)
      let b ← Go.part 5 (m.map (Value.int .u8)).toArray (i * 1)
      let c ← Op.equalIn 9999 5 a b
      if (!c) = true then pure (ForInStep.done (some false, ())) else pure (ForInStep.yield (none, ())) : Sem (ForInStep (Option Bool × Unit))))).run Tryd.prog w = .ok (if l.drop j = m.drop j then (none, ()) else (some false, ())) w := by
  intro k
  induction k with
  | zero =>
    intro j hj
    rw [List.drop_eq_nil_of_le (by omega), List.drop_eq_nil_of_le (by omega)]
    simp
  | succ k ih =>
    intro j hj
    have e1 : l.drop j = rdN l j :: l.drop (j + 1) := by
      rw [List.drop_eq_getElem_cons (by omega)]; simp [rdN, List.getD_eq_getElem?_getD, show j < l.length by omega]
    have e2 : m.drop j = rdN m j :: m.drop (j + 1) := by
      rw [List.drop_eq_getElem_cons (by omega)]; simp [rdN, List.getD_eq_getElem?_getD, show j < m.length by omega]
    have h := ih (j + 1) (by omega)
    rw [List.range'_succ, List.forIn_cons]
    simp only [Sem.run_bind]
    rw [part_u8 l j (by omega), e1, e2]
    simp only [Result.andThen_ok]
    rw [part_u8 m j (by omega)]
    simp only [Result.andThen_ok]
    rw [show (9999 : Nat) = 9998 + 1 from rfl, run_equalIn_int w 9998 5 .u8 .u8 _ _ Tryd.underlying5]
    simp only [Result.andThen_ok]
    by_cases hc : rdN l j = rdN m j
    · rw [hc, beq_self_eq_true]
      simp only [Bool.not_true, Bool.false_eq_true, if_false, Sem.run_pure, Result.andThen_ok, List.cons.injEq, true_and]
      exact h
    · rw [beq_eq_false_iff_ne.2 hc]
      simp [hc]
theorem eq_arr (l m : List Int) (hl : l.length = 32) (hm : m.length = 32) (w : World) :
    (Op.equalIn 10000 42 (hashV l) (hashV m)).run Tryd.prog w = .ok (decide (l = m)) w := by
  have hT : Tryd.prog.underlying 42 = some (.array 32 5) := by kernel_rfl
  have hs : ∀ w : World, (sizeOf 5).run Tryd.prog w = .ok 1 w := fun _ => by kernel_rfl
  unfold hashV
  show (Op.equalIn (9999 + 1) 42 _ _).run Tryd.prog w = _
  unfold Op.equalIn
  simp only [Sem.run_bind, run_underlying hT, Result.andThen_ok, hs]
  rw [Std.Legacy.Range.forIn_eq_forIn_range']
  have h := eq_loop l m hl hm w 32 0 rfl
  refine (congrArg (fun r => Result.andThen r _) h).trans ?_
  simp only [Result.andThen_ok, List.drop_zero]
  by_cases hc : l = m
  · simp [hc]
  · simp [hc]
theorem run_neq_hash (l m : List Int) (hl : l.length = 32) (hm : m.length = 32) (w : World) :
    (binOp .neq 42 (hashV l) (hashV m)).run Tryd.prog w = .ok (.bool (!decide (l = m))) w := by
  unfold hashV
  rw [run_neq_struct]
  have h := eq_arr l m hl hm w
  unfold hashV at h
  rw [h]
  rfl
end Go.Proofs.YtmfejehhfmaodaaDoor.Z
