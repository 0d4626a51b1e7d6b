/- The laws of Sha256, Digest and Higher over numbers and lists. -/
import Derived.Test.YtmfejehhfmaodaaDoorShaV
import Derived.Test.YtmfejehhfmaodaaDoorSha
import Derived.Test.YtmfejehhfmaodaaDoorZ10
import Derived.Test.YtmfejehhfmaodaaDoorZ7
import Derived.Test.YtmfejehhfmaodaaDoorZ8
import Derived.Test.YtmfejehhfmaodaaDoorZ11
namespace Go.Proofs.YtmfejehhfmaodaaDoor.Z
open Go.RowKit Go.Proofs.YtmfejehhfmaodaaDoor Go.Proofs.YtmfejehhfmaodaaDoorW.PrintWords Go.Proofs.YtmfejehhfmaodaaDoorW.PrintLast
set_option linter.unusedVariables false
set_option linter.unusedSimpArgs false
theorem l1Width_f (n : Int) : spec_l1Width.f n = some (widB n) := by
  unfold spec_l1Width.f widB
  by_cases h : n ≥ 1
  · rw [if_pos h]; congr 1; simp; omega
  · rw [if_neg h]; congr 1; simp; omega
theorem spec_Digest_f (a0 : ByteArray) (a1 : Int) (ha : a0.size ≤ 4294967296) (k : Nat) (hk : a0.size + 100 < k) : spec_Digest.f k a0 a1 = some (digV a0 a1) := by
  unfold spec_Digest.f
  rw [l1Width_f]
  simp only [Option.bind_some]
  by_cases hw : widB a1 = true
  · have hr : 1 ≤ a1 ∧ a1 ≤ 32 := by unfold widB at hw; exact of_decide_eq_true hw
    rw [if_pos hw, digV_yes hw, spec_Sha256_f a0 ha k hk]
    simp only [Option.bind_some]
    rw [if_pos (by omega), if_pos (by rw [shaV_size]; omega)]
  · rw [if_neg hw, digV_no (Bool.eq_false_iff.2 hw)]
end Go.Proofs.YtmfejehhfmaodaaDoor.Z
