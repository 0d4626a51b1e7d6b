/- Texts cut into sectors with marks. -/
import Derived.Test.YtmfejehhfmaodaaCodecW
import Derived.Test.YtmfejehhfmaodaaShelf
namespace Go.Proofs.Ytmfejehhfmaodaa
open Go.RowKit
set_option linter.unusedVariables false
set_option linter.unusedSimpArgs false
def chunk (l : List UInt8) (i : Nat) : List UInt8 := (l.drop (63 * i)).take 63
def secOne (l a b : List UInt8) (i : Nat) : List UInt8 := chunk l i ++ List.replicate (63 - (chunk l i).length) 0 ++ (if i = 0 then a else b)
/-- The first m sectors of l, with the marks a and b. -/
def secs (l a b : List UInt8) : Nat → List UInt8
  | 0 => []
  | m + 1 => secs l a b m ++ secOne l a b m
theorem chunk_length (l : List UInt8) (i : Nat) : (chunk l i).length = min 63 (l.length - 63 * i) := by simp [chunk]
theorem chunk_le (l : List UInt8) (i : Nat) : (chunk l i).length ≤ 63 := by rw [chunk_length]; omega
theorem secOne_length (l a b : List UInt8) (i : Nat) (ha : a.length ≤ 1) (hb : b.length ≤ 1) : (secOne l a b i).length ≤ 64 := by
  unfold secOne
  have h := chunk_le l i
  rw [List.length_append, List.length_append, List.length_replicate]
  split <;> omega
theorem secs_length (l a b : List UInt8) (ha : a.length ≤ 1) (hb : b.length ≤ 1) : ∀ m, (secs l a b m).length ≤ 64 * m
  | 0 => by simp [secs]
  | m + 1 => by
    have h1 := secs_length l a b ha hb m
    have h2 := secOne_length l a b m ha hb
    rw [secs, List.length_append]; omega
def nSec (n : Nat) : Nat := (n + 62) / 63
theorem repeat_zero (n : Nat) : Lib.repeatL [0] n = List.replicate n 0 := by
  have h := Lib.repeatL_replicate 0 1 n
  simpa using h
theorem zeros_any (z : Int) (h0 : 0 ≤ z) (h : z ≤ 63) (w : World) : Calls Try.prog 18 #[.string ⟨#[0]⟩, .int .i64 z] w fun e w' => e = .returned (.string ⟨(List.replicate z.toNat 0).toArray⟩) ∧ Below w.heap.size w w' := by
  obtain ⟨n, rfl⟩ : ∃ n : Nat, z = n := ⟨z.toNat, by omega⟩
  have h1 := Try.strings_Repeat ⟨#[0]⟩ n w (by omega) (by show 1 * n ≤ _; omega)
  rw [show (⟨#[0]⟩ : ByteArray).data.toList = [0] from rfl, repeat_zero] at h1
  exact h1
theorem ext_chunk (s : ByteArray) (m en : Nat) (h : en = min (63 * m + 63) s.size) : (s.extract (63 * m) en).data.toList = chunk s.data.toList m := by
  have hl : s.data.toList.length = s.size := rfl
  unfold chunk
  simp only [ByteArray.data_extract, Array.toList_extract, List.extract]
  subst h
  rcases Nat.le_total (63 * m + 63) s.size with h | h
  · rw [Nat.min_eq_left h, show 63 * m + 63 - 63 * m = 63 by omega]
  · rw [Nat.min_eq_right h, List.take_of_length_le (by rw [List.length_drop]; omega), List.take_of_length_le (by rw [List.length_drop]; omega)]
set_option maxHeartbeats 2000000 in
theorem sectors_any (s : ByteArray) (a b : UInt8) (x y : Int) (hx : x = a.toNat) (hy : y = b.toNat) (h0 : 0 < s.size) (hs : s.size ≤ 1048576) (w : World) :
    Calls Try.prog 12 #[.string s, .int .u8 x, .int .u8 y] w fun e w' => e = .returned (.string ⟨(secs s.data.toList [a] [b] (nSec s.size)).toArray⟩) ∧ Below w.heap.size w w' := by
  have hl : s.data.toList.length = s.size := rfl
  have HL := Lib.hid hl; clear hl
  have HX := Lib.hid hx; clear hx
  have HY := Lib.hid hy; clear hy
  go_enter Try.func12, Try.ntmps12
  go_wp2
  go_loopw [8, 9] (fun k i wr => ∃ m : Nat, 63 * m < s.size + 63 ∧ i = .int .i64 ((63 * m : Nat) : Int) ∧ k = .int .u8 (if m = 0 then x else y) ∧ Bld 32 w.heap.size w.heap.size (secs s.data.toList [a] [b] m) wr ∧ Below w.heap.size w wr) (fun _ i _ => s.size + 63 - (intOf i).toNat)
  case atStart => exact ⟨0, by omega, rfl, rfl, Bld.fresh _ _, by (repeat' (first | exact Below.refl _ _ | (with_reducible assumption) | (with_reducible refine Below.setCell ?_ (by first | (simp; done) | (simp; omega)) _) | refine below_then ?_ (by assumption) | (with_reducible refine below_new2 ?_ _) | (with_reducible refine Below.drew ?_) | (with_reducible refine bdrewN ?_ _)))⟩
  case round =>
    obtain ⟨m, hm, rfl, rfl, hB, hb⟩ := hrel
    have hsl := secs_length s.data.toList [a] [b] (by simp) (by simp) m
    have HB := Lib.hid hB; clear hB
    by_cases hlt : 63 * m < s.size
    · obtain ⟨at_, hat⟩ : ∃ at_, at_ = 63 * m := ⟨_, rfl⟩
      rw [← hat] at hlt ⊢
      have h64 : 64 * m ≤ 2 * at_ := by omega
      have HAT := Lib.hid hat; clear hat
      go_wp2_with fail
      all_goals
        obtain ⟨en, hen⟩ : ∃ en, (min ((at_ : Int) + 63) (s.size : Int)).toNat = en := ⟨_, rfl⟩
        rw [hen]
        have h1 : at_ ≤ en := by omega
        have h2 : en ≤ s.size := by omega
        have h3 : en ≤ at_ + 63 := by omega
        have hpart : (s.extract at_ en).data.toList = chunk s.data.toList m := by
          have := HAT.out
          rw [this]; exact ext_chunk s m en (by omega)
        have hps : (s.extract at_ en).size = en - at_ := by rw [ByteArray.size_extract]; omega
        have hcl : (chunk s.data.toList m).length = en - at_ := by rw [← hpart]; exact hps
        have HP := Lib.hid hpart; clear hpart
        have HC := Lib.hid hcl; clear hcl
        have HE := Lib.hid hen; clear hen
        have hz0 := hb.size
        refine (writeString_any 32 liesBuilder w.heap.size w.heap.size _ _ _ HB.out (by rw [hps]; omega) hz0).mono ?_
        rintro e w1 ⟨rfl, hB1, hb1⟩
        have HB1 := Lib.hid hB1; clear hB1
        have hz1 := hb1.size
        go_wp2_with fail
        refine (zeros_any _ (by omega) (by omega) _).mono ?_
        rintro e w2 ⟨rfl, hb2⟩
        have hz2 := hb2.size
        go_wp2_with fail
        refine (writeString_any 32 liesBuilder w.heap.size w.heap.size _ _ _ (HB1.out.below hb2) (by rw [List.length_append]; show _ + (s.extract at_ en).size + (Array.replicate (63 - (en - at_)) (0 : UInt8)).size ≤ _; rw [hps, Array.size_replicate]; omega) (by omega)).mono ?_
        rintro e w3 ⟨rfl, hB3, hb3⟩
        have HB3 := Lib.hid hB3; clear hB3
        have hz3 := hb3.size
        go_wp2_with fail
        refine (writeByte_any 32 liesBuilder w.heap.size w.heap.size _ _ _ (by first | exact HX.out | exact HY.out) _ HB3.out (by rw [List.length_append, List.length_append]; show _ + (s.extract at_ en).size + (Array.replicate (63 - (en - at_)) (0 : UInt8)).size + 1 ≤ _; rw [hps, Array.size_replicate]; omega) (by omega)).mono ?_
        rintro e w4 ⟨rfl, hB4, hb4⟩
        have HB4 := Lib.hid hB4; clear hB4
        go_wp2
        go_roundw
        case rel =>
          refine ⟨m + 1, by have := HAT.out; omega, ?_, by rw [if_neg (by omega)], ?_, ((hb.trans (hb1.mono (by omega))).trans (hb2.mono (by omega))).trans ((hb3.mono (by omega)).trans (hb4.mono (by omega)))⟩
          · rw [show 63 * (m + 1) = at_ + 63 by have := HAT.out; omega]; go_num
          · have h := HB4.out
            have e0 : secs s.data.toList [a] [b] (m + 1) = secs s.data.toList [a] [b] m ++ (s.extract at_ en).data.toList ++ (⟨Array.replicate (63 - (en - at_)) 0⟩ : ByteArray).data.toList ++ (if m = 0 then [a] else [b]) := by
              rw [secs, secOne, HP.out, HC.out]; simp [List.append_assoc]
            rw [e0]
            first
              | (rw [if_pos (by assumption)]; exact h)
              | (rw [if_neg (by assumption)]; exact h)
        case measure => simp [intOf]; omega
    · have hms : m = nSec s.size := by unfold nSec; omega
      subst hms
      have hne : secs s.data.toList [a] [b] (nSec s.size) ≠ [] := by
        obtain ⟨k, hk⟩ : ∃ k, nSec s.size = k + 1 := ⟨nSec s.size - 1, by unfold nSec; omega⟩
        rw [hk, secs, secOne]
        split <;> simp
      have hz0 := hb.size
      have hge : ¬ ((63 * nSec s.size : Nat) : Int) < s.size := by omega
      obtain ⟨q, hq⟩ : ∃ q, nSec s.size = q := ⟨_, rfl⟩
      rw [hq] at HB hne hge ⊢
      have HQ := Lib.hid hq; clear hq
      go_wp2_with fail
      all_goals
        refine (string_any 32 w.heap.size w.heap.size _ _ HB.out hne).mono ?_
        rintro e w1 ⟨rfl, hb1⟩
        go_wp2
        go_ret
        exact ⟨by rw [HQ.out]; rfl, hb.trans hb1⟩
end Go.Proofs.Ytmfejehhfmaodaa
