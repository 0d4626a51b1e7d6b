/- What spec.l1Long and spec.l2Sized return. -/
import Derived.Test.YtmfejehhfmaodaaBase
namespace Go.Proofs.Ytmfejehhfmaodaa.Z
open Go.RowKit Go.Proofs.Ytmfejehhfmaodaa
set_option linter.unusedVariables false
set_option linter.unusedSimpArgs false
/-- n times the byte c. -/
def rep (n : Nat) (c : UInt8) : ByteArray := ⟨(List.replicate n c).toArray⟩
theorem rep_size (n : Nat) (c : UInt8) : (rep n c).size = n := by simp [rep, ByteArray.size]
theorem rep_add (m n : Nat) (c : UInt8) : rep m c ++ rep n c = rep (m + n) c := by
  apply ByteArray.ext
  simp [rep, ByteArray.data_append]
theorem rep_one (c : UInt8) : rep 1 c = ⟨#[c]⟩ := rfl
theorem rep_zero (c : UInt8) : rep 0 c = ⟨#[]⟩ := rfl
set_option maxHeartbeats 400000 in
theorem l1Long_nat (c : UInt8) : ∀ (n : Nat), n ≤ 4294967296 → ∀ w, Calls Try.prog 16 #[.int .i64 n, .string (rep 1 c)] w fun e w' => e = .returned (.string (rep n c)) ∧ Below w.heap.size w w' := by
  intro n
  induction n using Nat.strongRecOn with | ind n ih =>
  intro hn w
  have HI := Lib.hid ih; clear ih
  by_cases h0 : n = 0
  · subst h0
    go_enter Try.func16, Try.ntmps16
    go_wp2
    go_loop [5] (fun s => s = .string ⟨#[]⟩) (fun _ => 0)
    case atStart => rfl
    case round =>
      subst hrel
      go_wp2
      go_ret
      exact ⟨rfl, by (repeat' (first | exact Below.refl _ _ | (with_reducible assumption) | (with_reducible refine Below.setCell ?_ (by first | (simp; done) | (simp; omega)) _) | refine below_then ?_ (by assumption) | (with_reducible refine below_new2 ?_ _) | (with_reducible refine Below.drew ?_) | (with_reducible refine bdrewN ?_ _)))⟩
  · have hb0 : decide (0 < n) = true := by simp; omega
    have hb1 : decide ((0:Int) < (n : Int)) = true := by simp; omega
    have hp : 0 < n := by omega
    clear h0
    go_enter Try.func16, Try.ntmps16
    go_wp2
    go_loop [5] (fun s => ∃ m : Nat, 1 ≤ m ∧ m ≤ n ∧ s = .string (rep m c)) (fun s => match s with | .string b => n - b.size | _ => 0)
    case atStart => exact ⟨1, by omega, by omega, rfl⟩
    case round =>
      obtain ⟨m, h1, hm, rfl⟩ := hrel
      have hsz := rep_size m c
      by_cases hc : m * 2 ≤ n
      · go_wp2
        go_round
        case rel => exact ⟨m + m, by omega, by omega, by rw [rep_add]⟩
        case measure => simp [rep_size, ← rep_add]; omega
      · by_cases hl : m < n
        · have hj : m + (n - m) = n := by omega
          have HJ := Lib.hid hj; clear hj
          have hq := rep_size (n - m) c
          have hsum : (rep m c).size + (rep (n - m) c).size ≤ 9223372036854775807 := by rw [hsz, hq]; omega
          go_wp2_with fail
          rw [show ((n : Int) - (m : Int)) = ((n - m : Nat) : Int) by omega]
          refine (HI.out (n - m) (by omega) (by omega) _).mono ?_
          rintro e w1 ⟨rfl, hb⟩
          go_wp2
          go_ret
          exact ⟨by rw [rep_add, HJ.out]; rfl, by (repeat' (first | exact Below.refl _ _ | (with_reducible assumption) | (with_reducible refine Below.setCell ?_ (by first | (simp; done) | (simp; omega)) _) | refine below_then ?_ (by assumption) | (with_reducible refine below_new2 ?_ _) | (with_reducible refine Below.drew ?_) | (with_reducible refine bdrewN ?_ _)))⟩
        · obtain rfl : m = n := by omega
          go_wp2
          go_ret
          exact ⟨rfl, by (repeat' (first | exact Below.refl _ _ | (with_reducible assumption) | (with_reducible refine Below.setCell ?_ (by first | (simp; done) | (simp; omega)) _) | refine below_then ?_ (by assumption) | (with_reducible refine below_new2 ?_ _) | (with_reducible refine Below.drew ?_) | (with_reducible refine bdrewN ?_ _)))⟩
/-- What spec.l1Long answers for a text of one byte. -/
def spec_l1Long.f (a0 : Int) (a1 : ByteArray) : Option ByteArray :=
  if 0 ≤ a0 ∧ a0 ≤ 4294967296 ∧ a1.size = 1 then some (rep a0.toNat (a1.data.getD 0 0)) else none
theorem one_byte (s : ByteArray) (h : s.size = 1) : s = rep 1 (s.data.getD 0 0) := by
  obtain ⟨⟨l⟩⟩ := s
  match l, h with
  | [c], _ => rfl
theorem spec_l1Long.calls (a0 : Int) (a1 r : ByteArray) (w : World) (h : spec_l1Long.f a0 a1 = some r) :
    Calls Try.prog 16 #[.int .i64 a0, .string a1] w fun e w' => e = .returned (.string r) ∧ Below w.heap.size w w' := by
  unfold spec_l1Long.f at h
  split at h
  · rename_i hc
    obtain ⟨h0, h1, h2⟩ := hc
    obtain ⟨n, rfl⟩ := Int.eq_ofNat_of_zero_le h0
    obtain rfl := Option.some.inj h
    rw [Int.toNat_natCast]
    have := l1Long_nat (a1.data.getD 0 0) n (by omega) w
    rw [← one_byte a1 h2] at this
    exact this
  · cases h
end Go.Proofs.Ytmfejehhfmaodaa.Z
