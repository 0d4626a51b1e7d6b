/- The laws FnExactSha256 and FnExactDigest, walked. -/
import Derived.Test.YtmfejehhfmaodaaDoorZ6
import Derived.Test.YtmfejehhfmaodaaDoorZ9
import Derived.Test.YtmfejehhfmaodaaDoorZ12
import Derived.Test.YtmfejehhfmaodaaDoorPurSha
namespace Go.Proofs.YtmfejehhfmaodaaDoor
open Go.RowKit Go.Proofs.YtmfejehhfmaodaaDoor.Z
set_option linter.unusedVariables false
set_option linter.unusedSimpArgs false
theorem lawFnExactSha256 (a0 : ByteArray) (w : World) (hTab : Z.Tab w) : Calls Tryd.prog 3 #[.string a0] w fun e w' => e = .returned (.bool true) ∧ Below w.heap.size w w' := by
  refine laws_FnExactSha256.calls (a0.size + 101) a0 true w hTab ?_
  unfold laws_FnExactSha256.f
  split
  · rfl
  · rw [spec_Sha256_f _ (by omega) _ (by omega)]
    unfold impl_Sha256.f
    rw [if_pos (by omega)]
    simp
theorem lawFnExactDigest (a0 : ByteArray) (a1 : Int) (w : World) (hTab : Z.Tab w) : Calls Tryd.prog 4 #[.string a0, .int .i64 a1] w fun e w' => e = .returned (.bool true) ∧ Below w.heap.size w w' := by
  refine laws_FnExactDigest.calls (a0.size + 101) a0 a1 true w hTab ?_
  unfold laws_FnExactDigest.f
  split
  · rfl
  · rw [spec_Digest_f _ _ (by omega) _ (by omega)]
    unfold impl_Digest.f
    rw [if_pos (by omega)]
    simp
theorem lawFnExactHigher (a0 a1 : ByteArray) (w : World) (hTab : Z.Tab w) : Calls Tryd.prog 5 #[.string a0, .string a1] w fun e w' => e = .returned (.bool true) ∧ Below w.heap.size w w' := by
  refine laws_FnExactHigher.calls (2 * a0.size + 2 * a1.size + 201) a0 a1 true w hTab ?_
  unfold laws_FnExactHigher.f
  split
  · rfl
  · split
    · rfl
    · rw [spec_Higher_f _ _ (by omega) (by omega) _ (by omega)]
      unfold impl_Higher.f
      rw [if_pos ⟨by omega, by omega⟩]
      simp
end Go.Proofs.YtmfejehhfmaodaaDoor
