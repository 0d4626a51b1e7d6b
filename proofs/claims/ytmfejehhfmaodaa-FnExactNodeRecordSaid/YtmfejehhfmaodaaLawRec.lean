/- The laws FnExactNodeRecord and FnExactCommitRecord, walked. -/
import Derived.Test.YtmfejehhfmaodaaZ5
import Derived.Test.YtmfejehhfmaodaaZ7
import Derived.Test.YtmfejehhfmaodaaPurRec
namespace Go.Proofs.Ytmfejehhfmaodaa
open Go.RowKit Go.Proofs.Ytmfejehhfmaodaa.Z
set_option linter.unusedVariables false
set_option linter.unusedSimpArgs false
theorem lawFnExactNodeRecord (a0 : ByteArray) (w : World) : Calls Try.prog 4 #[.string a0] w fun e w' => e = .returned (.bool true) ∧ Below w.heap.size w w' := by
  refine laws_FnExactNodeRecord.calls 1001 a0 true w ?_
  unfold laws_FnExactNodeRecord.f
  split
  · rfl
  · rw [spec_NodeRecord_f _ _ (by omega)]
    simp [impl_NodeRecord.f]
theorem lawFnExactCommitRecord (a0 : Int) (a1 : ByteArray) (w : World) : Calls Try.prog 3 #[.int .i64 a0, .string a1] w fun e w' => e = .returned (.bool true) ∧ Below w.heap.size w w' := by
  refine laws_FnExactCommitRecord.calls 1001 a0 a1 true w ?_
  unfold laws_FnExactCommitRecord.f
  split
  · rfl
  · rw [spec_CommitRecord_f _ _ _ (by omega)]
    simp [impl_CommitRecord.f]
end Go.Proofs.Ytmfejehhfmaodaa
