/- The program's builder of encodings. -/
import Derived.Test.YtmfejehhfmaodaaBuilder
import Derived.StillTailTactics
namespace Go.Proofs.Ytmfejehhfmaodaa
open Go.RowKit
set_option linter.unusedVariables false
set_option linter.unusedSimpArgs false
set_option maxHeartbeats 400000 in
theorem btext_any (B b : Nat) (l : List UInt8) (s : ByteArray) (w : World) (h : Bld 34 B b l w) (hlen : l.length + s.size ≤ 140737488355328) (hBw : B ≤ w.heap.size) :
    Calls Try.prog 14 #[.pointer (some ⟨b, 0, none⟩), .string s] w fun e w' => e = .returned (.pointer (some ⟨b, 0, none⟩)) ∧ Bld 34 B b (l ++ s.data.toList) w' ∧ Below B w w' := by
  obtain ⟨c0, hc0⟩ : ∃ v, w.cell? ⟨b, 0, none⟩ = some v := by rcases h with h | h <;> exact ⟨_, h.cell0⟩
  have H := Lib.hid h
  go_enter Try.func14, Try.ntmps14
  go_wp2_with (go_at_call 17; refine (writeString_any 34 liesOwn B b l s _ H.out hlen hBw).mono ?_; rintro e w1 ⟨rfl, h1, hb1⟩)
  go_ret
  exact ⟨rfl, h1, hb1⟩
/-- Byte i of a number of k bytes. -/
def numByte (n k : Nat) (low : Bool) (i : Nat) : UInt8 := UInt8.ofNat (n / 2 ^ (8 * (if low then i else k - 1 - i)))
def numL (n k : Nat) (low : Bool) (m : Nat) : List UInt8 := (List.range m).map (numByte n k low)
theorem numL_succ (n k : Nat) (low : Bool) (m : Nat) : numL n k low (m + 1) = numL n k low m ++ [numByte n k low m] := by simp [numL, List.range_succ]
theorem numL_length (n k : Nat) (low : Bool) (m : Nat) : (numL n k low m).length = m := by simp [numL]
theorem div_cast (n e : Nat) : (n : Int) / 2 ^ e = ((n / 2 ^ e : Nat) : Int) := by
  rw [Int.natCast_ediv, Int.natCast_pow]; rfl
theorem ofNat_cast (q : Nat) : ((q : Nat) : Int) % 256 = ((UInt8.ofNat q).toNat : Int) := by
  rw [UInt8.toNat_ofNat']; omega
theorem numByte_low (n k m : Nat) : (n : Int) / 2 ^ (8 * m) % 256 = (numByte n k true m).toNat := by
  rw [div_cast, ofNat_cast]; rfl
theorem numByte_high (n k m : Nat) : (n : Int) / 2 ^ (8 * (k - 1 - m)) % 256 = (numByte n k false m).toNat := by
  rw [div_cast, ofNat_cast]; rfl
set_option maxHeartbeats 1000000 in
theorem bnumber_any (B b : Nat) (l : List UInt8) (n k : Nat) (low : Bool) (w : World) (h : Bld 34 B b l w) (hn : n ≤ 4294967296) (hk : k ≤ 4) (hlen : l.length ≤ 4294967296) (hBw : B ≤ w.heap.size) :
    Calls Try.prog 13 #[.pointer (some ⟨b, 0, none⟩), .int .i64 n, .int .i64 k, .bool low] w fun e w' => e = .returned (.pointer (some ⟨b, 0, none⟩)) ∧ Bld 34 B b (l ++ numL n k low k) w' ∧ Below B w w' := by
  have H := Lib.hid h; clear h
  go_enter Try.func13, Try.ntmps13
  go_wp2
  go_loopw [12] (fun i wr => ∃ m : Nat, m ≤ k ∧ i = .int .i64 m ∧ Bld 34 B b (l ++ numL n k low m) wr ∧ Below B w wr) (fun i _ => k - (intOf i).toNat)
  case atStart => exact ⟨0, Nat.zero_le _, rfl, by simpa [numL] using H.out, Below.refl _ _⟩
  case round =>
    obtain ⟨m, hm, rfl, h2, hB⟩ := hrel
    obtain ⟨c0, hc0⟩ : ∃ v, wr.cell? ⟨b, 0, none⟩ = some v := by rcases h2 with h | h <;> exact ⟨_, h.cell0⟩
    have H2 := Lib.hid h2; clear h2
    by_cases hlt : m < k
    · cases low
      all_goals
        go_wp2
        go_still_tail 7, (by kernel_rfl)
        change wpList _ _ _ _ _ wr.drew
        go_wp2_with (go_at_call 19; refine (writeByte_any 34 liesOwn B b _ _ _ (by first | exact numByte_low n k m | exact numByte_high n k m) _ (H2.out.below (Below.refl _ _).drew) (by rw [List.length_append, numL_length]; omega) (by have := hB.size; exact Nat.le_trans hBw this)).mono ?_; rintro e w1 ⟨rfl, h1, hb1⟩)
        go_roundw
        case rel => exact ⟨m + 1, by omega, by go_num, by rw [numL_succ, ← List.append_assoc]; exact h1, hB.trans ((Below.refl _ _).drew.trans hb1)⟩
        case measure => simp [intOf]; omega
    · go_wp2
      go_ret
      have e : m = k := by omega
      subst e
      exact ⟨rfl, H2.out, hB⟩
end Go.Proofs.Ytmfejehhfmaodaa
