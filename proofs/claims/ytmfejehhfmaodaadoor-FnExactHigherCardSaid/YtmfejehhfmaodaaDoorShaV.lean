/- What the specification's Sha256 answers. -/
import Derived.Test.YtmfejehhfmaodaaDoorZ5
import Derived.Test.YtmfejehhfmaodaaDoorPad
namespace Go.Proofs.YtmfejehhfmaodaaDoor.Z
open Go.RowKit Go.Proofs.YtmfejehhfmaodaaDoor Go.Proofs.YtmfejehhfmaodaaDoorW.PrintWords Go.Proofs.YtmfejehhfmaodaaDoorW.PrintLast
set_option linter.unusedVariables false
set_option linter.unusedSimpArgs false
def h0P : List Int := [1779033703, 3144134277, 1013904242, 2773480762, 1359893119, 2600822924, 528734635, 1541459225]
def stateP (m : List Int) : Nat → List Int
  | 0 => h0P
  | n + 1 => compP (stateP m n) (blockAt m (64 * n))
theorem compP_length (h b : List Int) : (compP h b).length = 8 := rfl
theorem stateP_length (m : List Int) : ∀ n, (stateP m n).length = 8
  | 0 => rfl
  | n + 1 => compP_length _ _
def wordB (x : Int) : List Int := [x / 16777216 % 256, x / 65536 % 256, x / 256 % 256, x % 256]
def outB (h : List Int) : Nat → List Int
  | 0 => []
  | n + 1 => outB h n ++ wordB (rdN h n)
theorem outB_length (h : List Int) : ∀ n, (outB h n).length = 4 * n
  | 0 => rfl
  | n + 1 => by rw [outB, List.length_append, outB_length h n]; simp [wordB]; omega
/-- The hash of a list of bytes, as 32 numbers. -/
def shaL (l : List UInt8) : List Int := outB (stateP (ints (padP l)) ((l.length + 72) / 64)) 8
theorem shaL_length (l : List UInt8) : (shaL l).length = 32 := outB_length _ _
def shaV (s : ByteArray) : ByteArray := strOfNums (shaL s.data.toList)
theorem strOfNums_size (l : List Int) : (strOfNums l).size = l.length := by simp [strOfNums, ByteArray.size]
theorem shaV_size (s : ByteArray) : (shaV s).size = 32 := by rw [shaV, strOfNums_size, shaL_length]
theorem sha_l1 (h : List Int) (hh : h.length = 8) : ∀ (d n k : Nat), n + d = 8 → d < k → spec_Sha256.l1 k h (outB h n) (n : Int) = some (strOfNums (outB h 8)) := by
  intro d
  induction d with
  | zero =>
    intro n k hn hk
    obtain ⟨k, rfl⟩ : ∃ j, k = j + 1 := ⟨k - 1, by omega⟩
    obtain rfl : n = 8 := by omega
    simp only [spec_Sha256.l1]; rw [if_neg (by omega)]
  | succ d ih =>
    intro n k hn hk
    obtain ⟨k, rfl⟩ : ∃ j, k = j + 1 := ⟨k - 1, by omega⟩
    have hl := outB_length h n
    simp only [spec_Sha256.l1]
    have e1 : wrap64 ((n : Int) + 1) = ((n + 1 : Nat) : Int) := by rw [w64 (by omega) (by omega)]; omega
    rw [e1, hh, hl]
    clear e1
    simp only [rd_nat, Option.bind_some]
    rw [if_pos (by omega), if_pos (by omega), if_pos (by omega), if_pos (by simp; omega)]
    exact ih (n + 1) k (by omega) (by omega)
theorem sha_l0 (m : List Int) (N : Nat) (hm : m.length = 64 * N) (hb : m.length ≤ 1099511627776) : ∀ (d n k : Nat), n + d = N → d + 80 < k →
    spec_Sha256.l0 k (stateP m n) kTab m ((64 * n : Nat) : Int) = some (strOfNums (outB (stateP m N) 8)) := by
  intro d
  induction d with
  | zero =>
    intro n k hn hk
    obtain ⟨k, rfl⟩ : ∃ j, k = j + 1 := ⟨k - 1, by omega⟩
    obtain rfl : n = N := by omega
    simp only [spec_Sha256.l0]; rw [if_neg (by omega)]
    exact sha_l1 _ (stateP_length _ _) 8 0 k rfl (by omega)
  | succ d ih =>
    intro n k hn hk
    obtain ⟨k, rfl⟩ : ∃ j, k = j + 1 := ⟨k - 1, by omega⟩
    simp only [spec_Sha256.l0]
    rw [if_pos (by omega), l1Block_f _ m (64 * n) k (stateP_length _ _) (by omega) hb (by omega)]
    simp only [Option.bind_some]
    have e1 : wrap64 (((64 * n : Nat) : Int) + 64) = ((64 * (n + 1) : Nat) : Int) := by rw [w64 (by omega) (by omega)]; omega
    rw [e1]
    clear e1
    exact ih (n + 1) k (by omega) (by omega)
theorem spec_Sha256_f (a0 : ByteArray) (ha : a0.size ≤ 4294967296) (k : Nat) (hk : a0.size + 100 < k) : spec_Sha256.f k a0 = some (shaV a0) := by
  unfold spec_Sha256.f
  rw [kTab_f]
  simp only [Option.bind_some]
  unfold spec_l1Padded.f
  rw [if_pos ha]
  simp only [Option.bind_some]
  have hl : a0.data.toList.length = a0.size := rfl
  have hp : (ints (padP a0.data.toList)).length = 64 * ((a0.data.toList.length + 72) / 64) := by rw [ints_length, padP_length]
  exact sha_l0 (ints (padP a0.data.toList)) _ hp (by rw [hp, hl]; omega) ((a0.data.toList.length + 72) / 64) 0 k (by omega) (by rw [hl]; omega)
end Go.Proofs.YtmfejehhfmaodaaDoor.Z
