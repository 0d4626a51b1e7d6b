/- A crash, on lists alone: byte by byte, and sector by sector. -/
import Derived.WalkKit
namespace Go.Proofs.Ytmpegllbfcgjiaa
set_option linter.unusedVariables false
set_option linter.unusedSimpArgs false
/-- Byte i, behind the first f bytes, is there. -/
def crKept (f : Nat) (pk : List Int) (i : Nat) : Bool :=
  decide (i / 64 - f / 64 < pk.length) && decide (((i - max (i / 64 * 64) f : Nat) : Int) < pk.getD (i / 64 - f / 64) 0)
/-- The first f bytes of n and k more, each there or 0. -/
def crOut (n : List UInt8) (f : Nat) (pk : List Int) : Nat → List UInt8
  | 0 => n.take f
  | k + 1 => crOut n f pk k ++ [if crKept f pk (f + k) then n.getD (f + k) 0 else 0]
/-- Behind the last byte that is there. -/
def crEnd (f : Nat) (pk : List Int) : Nat → Nat
  | 0 => f
  | k + 1 => if crKept f pk (f + k) then f + k + 1 else crEnd f pk k
theorem crOut_length (n : List UInt8) (f : Nat) (pk : List Int) (hf : f ≤ n.length) : ∀ k, (crOut n f pk k).length = f + k
  | 0 => by simp [crOut]; omega
  | k + 1 => by simp [crOut, crOut_length n f pk hf k]; omega
theorem crEnd_le (f : Nat) (pk : List Int) : ∀ k, crEnd f pk k ≤ f + k
  | 0 => by simp [crEnd]
  | k + 1 => by
    have := crEnd_le f pk k
    unfold crEnd; split <;> omega
theorem crEnd_ge (f : Nat) (pk : List Int) : ∀ k, f ≤ crEnd f pk k
  | 0 => by simp [crEnd]
  | k + 1 => by
    have := crEnd_ge f pk k
    unfold crEnd; split <;> omega
/-- Behind the end there are zeros. -/
theorem crOut_zeros (n : List UInt8) (f : Nat) (pk : List Int) (hf : f ≤ n.length) : ∀ k, crOut n f pk k = (crOut n f pk k).take (crEnd f pk k) ++ List.replicate (f + k - crEnd f pk k) 0
  | 0 => by
    have := crOut_length n f pk hf 0
    simp only [crEnd]
    rw [List.take_of_length_le (by omega)]; simp
  | k + 1 => by
    have hl := crOut_length n f pk hf k
    have he := crEnd_le f pk k
    by_cases h : crKept f pk (f + k)
    · simp only [crEnd, crOut, h, if_true]
      rw [List.take_of_length_le (by simp [hl])]; simp
      omega
    · have h' : crKept f pk (f + k) = false := by simpa using h
      simp only [crEnd, crOut, h', Bool.false_eq_true, if_false]
      rw [List.take_append_of_le_length (by omega)]
      rw [show f + (k + 1) - crEnd f pk k = (f + k - crEnd f pk k) + 1 by omega, List.replicate_succ', ← List.append_assoc, ← crOut_zeros n f pk hf k]
/-- What is left after a crash. -/
def crash (n : List UInt8) (f : Nat) (pk : List Int) : List UInt8 := (crOut n f pk (n.length - f)).take (crEnd f pk (n.length - f))
/-- Bytes a .. a + m are there. -/
theorem cr_yes (n : List UInt8) (f : Nat) (pk : List Int) (hf : f ≤ n.length) (a : Nat) : ∀ m, f + a + m ≤ n.length → (∀ i, i < m → crKept f pk (f + a + i) = true) →
    crOut n f pk (a + m) = crOut n f pk a ++ (n.drop (f + a)).take m ∧ (0 < m → crEnd f pk (a + m) = f + a + m)
  | 0, _, _ => by simp
  | m + 1, hm, h => by
    obtain ⟨ih, _⟩ := cr_yes n f pk hf a m (by omega) (fun i hi => h i (by omega))
    have hk : crKept f pk (f + (a + m)) = true := by rw [← Nat.add_assoc]; exact h m (by omega)
    constructor
    · show crOut n f pk (a + m) ++ [if crKept f pk (f + (a + m)) then n.getD (f + (a + m)) 0 else 0] = _
      rw [hk, ih, List.append_assoc]
      congr 1
      have hl : m < (n.drop (f + a)).length := by rw [List.length_drop]; omega
      rw [List.take_succ_eq_append_getElem hl]
      congr 1
      rw [List.getElem_drop, if_pos rfl, List.getD_eq_getElem?_getD, List.getElem?_eq_getElem (by omega)]
      simp [Nat.add_assoc]
    · intro _
      show (if crKept f pk (f + (a + m)) then f + (a + m) + 1 else _) = _
      rw [hk]; simp; omega
/-- Bytes a .. a + m are not. -/
theorem cr_no (n : List UInt8) (f : Nat) (pk : List Int) (hf : f ≤ n.length) (a : Nat) : ∀ m, (∀ i, i < m → crKept f pk (f + a + i) = false) →
    crEnd f pk (a + m) = crEnd f pk a ∧ (crOut n f pk (a + m)).take (crEnd f pk (a + m)) = (crOut n f pk a).take (crEnd f pk a)
  | 0, _ => by simp
  | m + 1, h => by
    obtain ⟨ih1, ih2⟩ := cr_no n f pk hf a m (fun i hi => h i (by omega))
    have hk : crKept f pk (f + (a + m)) = false := by rw [← Nat.add_assoc]; exact h m (by omega)
    have he : crEnd f pk (a + m + 1) = crEnd f pk (a + m) := by
      show (if crKept f pk (f + (a + m)) then f + (a + m) + 1 else _) = _
      rw [hk]; rfl
    have hle := crEnd_le f pk (a + m)
    refine ⟨by rw [← Nat.add_assoc, he, ih1], ?_⟩
    rw [← Nat.add_assoc, he, ← ih2]
    show ((crOut n f pk (a + m)) ++ [_]).take _ = _
    rw [List.take_append_of_le_length (by rw [crOut_length n f pk hf]; omega)]
/-- The end of the sector of place a, or of the text. -/
def crStop (n : Nat) (a : Nat) : Nat := min ((a / 64 + 1) * 64) n
/-- How many bytes of the sector from a on are there. -/
def crMany (n : Nat) (pk : List Int) (a j : Nat) : Nat := min (max (pk.getD j 0) 0).toNat (crStop n a - a)
/-- Where round j begins. -/
def crAt (f n j : Nat) : Nat := if j = 0 then f else min ((f / 64 + j) * 64) n
theorem crAt_succ (f n j : Nat) (hf : f ≤ n) (h : crAt f n j < n) : crStop n (crAt f n j) = crAt f n (j + 1) := by
  unfold crAt crStop at *
  by_cases hj : j = 0
  · subst hj; simp
  · simp only [hj, if_false] at h ⊢
    have : min ((f / 64 + j) * 64) n = (f / 64 + j) * 64 := by omega
    rw [this]
    simp
    rw [Nat.add_assoc]
theorem crAt_ge (f n j : Nat) (hf : f ≤ n) : f ≤ crAt f n j := by
  unfold crAt; split <;> omega
theorem crAt_le (f n j : Nat) (hf : f ≤ n) : crAt f n j ≤ n := by
  unfold crAt; split <;> omega
theorem kept_in (f n : Nat) (pk : List Int) (j : Nat) (hf : f ≤ n) (hj : j < pk.length) (h : crAt f n j < n) (i : Nat) (h1 : crAt f n j ≤ i) (h2 : i < crAt f n (j + 1)) :
    crKept f pk i = decide (i - crAt f n j < crMany n pk (crAt f n j) j) := by
  have hs := crAt_succ f n j hf h
  have hdiv : i / 64 = f / 64 + j := by
    rw [← hs] at h2
    unfold crStop at h2
    unfold crAt at h h1 h2
    by_cases hj0 : j = 0
    · subst hj0; simp at h h1 h2; omega
    · simp only [hj0, if_false] at h h1 h2
      have e : min ((f / 64 + j) * 64) n = (f / 64 + j) * 64 := by omega
      rw [e] at h1 h2
      omega
  have hbeg : max (i / 64 * 64) f = crAt f n j := by
    rw [hdiv]
    unfold crAt at h h1 ⊢
    by_cases hj0 : j = 0
    · subst hj0; simp at h h1 ⊢; omega
    · simp only [hj0, if_false] at h h1 ⊢; omega
  unfold crKept
  rw [hbeg, hdiv, show f / 64 + j - f / 64 = j by omega]
  have hm : i - crAt f n j < crMany n pk (crAt f n j) j ↔ ((i - crAt f n j : Nat) : Int) < pk.getD j 0 := by
    unfold crMany
    rw [hs]
    omega
  simp only [hj, decide_true, Bool.true_and]
  rw [Bool.eq_iff_iff]; simp only [decide_eq_true_eq]; exact hm.symm
theorem kept_out (f n : Nat) (pk : List Int) (j : Nat) (hf : f ≤ n) (hj : pk.length ≤ j) (i : Nat) (h1 : crAt f n j ≤ i) (h2 : i < n) : crKept f pk i = false := by
  unfold crKept
  have : pk.length ≤ i / 64 - f / 64 := by
    unfold crAt at h1
    by_cases hj0 : j = 0
    · omega
    · simp only [hj0, if_false] at h1
      have : (f / 64 + j) * 64 ≤ i := by omega
      omega
  simp; omega
/-- What has been put together when round j begins. -/
def crGot (n : List UInt8) (f : Nat) (pk : List Int) (j : Nat) : List UInt8 := (crOut n f pk (crAt f n.length j - f)).take (crEnd f pk (crAt f n.length j - f))
theorem crGot_zero (n : List UInt8) (f : Nat) (pk : List Int) (hf : f ≤ n.length) : crGot n f pk 0 = n.take f := by
  simp only [crGot, crAt, if_true, Nat.sub_self, crOut, crEnd]; rw [List.take_take]; simp
theorem crGot_le (n : List UInt8) (f : Nat) (pk : List Int) (hf : f ≤ n.length) (j : Nat) : (crGot n f pk j).length ≤ crAt f n.length j := by
  have h1 := crEnd_le f pk (crAt f n.length j - f)
  have h2 := crAt_ge f n.length j hf
  unfold crGot; rw [List.length_take]; omega
/-- A round in which something is there: zeros up to the place, then the bytes. -/
theorem crGot_some (n : List UInt8) (f : Nat) (pk : List Int) (hf : f ≤ n.length) (j : Nat) (hj : j < pk.length) (h : crAt f n.length j < n.length) (hm : 0 < crMany n.length pk (crAt f n.length j) j) :
    crGot n f pk (j + 1) = crGot n f pk j ++ List.replicate (crAt f n.length j - (crGot n f pk j).length) 0 ++ (n.drop (crAt f n.length j)).take (crMany n.length pk (crAt f n.length j) j) := by
  have hs := crAt_succ f n.length j hf h
  have h1 := crAt_ge f n.length j hf
  have h2 := crAt_le f n.length (j + 1) hf
  have hin := fun i a b => kept_in f n.length pk j hf hj h i a b
  have hmle : crAt f n.length j + crMany n.length pk (crAt f n.length j) j ≤ crAt f n.length (j + 1) := by unfold crMany; rw [hs]; rw [← hs]; unfold crStop at *; omega
  generalize hM : crMany n.length pk (crAt f n.length j) j = m at *
  obtain ⟨a, ha⟩ : ∃ a, crAt f n.length j = f + a := ⟨_, (Nat.add_sub_cancel' h1).symm⟩
  obtain ⟨c, hc⟩ : ∃ c, crAt f n.length (j + 1) = f + a + m + c := ⟨crAt f n.length (j + 1) - (f + a + m), by omega⟩
  have y := cr_yes n f pk hf a m (by omega) (fun i hi => by rw [hin _ (by omega) (by omega)]; simp; omega)
  have z := cr_no n f pk hf (a + m) c (fun i hi => by rw [hin _ (by omega) (by omega)]; simp; omega)
  have hL := crOut_length n f pk hf (a + m)
  have hE := crEnd_le f pk a
  have hG : (crGot n f pk j).length = crEnd f pk a := by
    unfold crGot; rw [ha, show f + a - f = a by omega, List.length_take, crOut_length n f pk hf]; omega
  have e1 : crGot n f pk (j + 1) = crOut n f pk (a + m) := by
    unfold crGot
    rw [hc, show f + a + m + c - f = a + m + c by omega, z.2, y.2 hm, List.take_of_length_le (by omega)]
  rw [e1, y.1, hG, ha]
  congr 1
  have zz := crOut_zeros n f pk hf a
  rw [zz]
  congr 1
  unfold crGot; rw [ha, show f + a - f = a by omega]
/-- A round in which nothing is there. -/
theorem crGot_none (n : List UInt8) (f : Nat) (pk : List Int) (hf : f ≤ n.length) (j : Nat) (hj : j < pk.length) (h : crAt f n.length j < n.length) (hm : crMany n.length pk (crAt f n.length j) j = 0) :
    crGot n f pk (j + 1) = crGot n f pk j := by
  have hs := crAt_succ f n.length j hf h
  have h1 := crAt_ge f n.length j hf
  have hin := fun i a b => kept_in f n.length pk j hf hj h i a b
  have hle : crAt f n.length j ≤ crAt f n.length (j + 1) := by rw [← hs]; unfold crStop; omega
  obtain ⟨a, ha⟩ : ∃ a, crAt f n.length j = f + a := ⟨_, (Nat.add_sub_cancel' h1).symm⟩
  obtain ⟨c, hc⟩ : ∃ c, crAt f n.length (j + 1) = f + a + c := ⟨crAt f n.length (j + 1) - (f + a), by omega⟩
  have z := cr_no n f pk hf a c (fun i hi => by rw [hin _ (by omega) (by omega), hm]; simp)
  unfold crGot
  rw [hc, ha, show f + a + c - f = a + c by omega, show f + a - f = a by omega, z.2]
/-- When the rounds are over. -/
theorem crGot_all (n : List UInt8) (f : Nat) (pk : List Int) (hf : f ≤ n.length) (j : Nat) (h : ¬ (crAt f n.length j < n.length ∧ j < pk.length)) : crGot n f pk j = crash n f pk := by
  have h1 := crAt_ge f n.length j hf
  have h2 := crAt_le f n.length j hf
  by_cases hn : crAt f n.length j < n.length
  · have hj : pk.length ≤ j := by omega
    obtain ⟨a, ha⟩ : ∃ a, crAt f n.length j = f + a := ⟨_, (Nat.add_sub_cancel' h1).symm⟩
    obtain ⟨c, hc⟩ : ∃ c, n.length = f + a + c := ⟨n.length - (f + a), by omega⟩
    have z := cr_no n f pk hf a c (fun i hi => kept_out f n.length pk j hf hj _ (by omega) (by omega))
    unfold crGot crash
    rw [ha, hc, show f + a + c - f = a + c by omega, show f + a - f = a by omega, z.2]
  · have : crAt f n.length j = n.length := by omega
    unfold crGot crash
    rw [this]
end Go.Proofs.Ytmpegllbfcgjiaa
