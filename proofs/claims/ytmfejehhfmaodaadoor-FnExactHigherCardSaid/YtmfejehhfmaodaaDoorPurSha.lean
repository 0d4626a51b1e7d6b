/- The laws of Sha256, Digest and Higher over numbers and lists. -/
import Derived.Test.YtmfejehhfmaodaaDoorShaV
import Derived.Test.YtmfejehhfmaodaaDoorSha
import Derived.Test.YtmfejehhfmaodaaDoorZ10
import Derived.Test.YtmfejehhfmaodaaDoorZ7
import Derived.Test.YtmfejehhfmaodaaDoorZ8
import Derived.Test.YtmfejehhfmaodaaDoorZ11
namespace Go.Proofs.YtmfejehhfmaodaaDoor.Z
open Go.RowKit Go.Proofs.YtmfejehhfmaodaaDoor Go.Proofs.YtmfejehhfmaodaaDoorW.PrintWords Go.Proofs.YtmfejehhfmaodaaDoorW.PrintLast
set_option linter.unusedVariables false
set_option linter.unusedSimpArgs false
theorem l1Width_f (n : Int) : spec_l1Width.f n = some (widB n) := by
  unfold spec_l1Width.f widB
  by_cases h : n ≥ 1
  · rw [if_pos h]; congr 1; simp; omega
  · rw [if_neg h]; congr 1; simp; omega
theorem spec_Digest_f (a0 : ByteArray) (a1 : Int) (ha : a0.size ≤ 4294967296) (k : Nat) (hk : a0.size + 100 < k) : spec_Digest.f k a0 a1 = some (digV a0 a1) := by
  unfold spec_Digest.f
  rw [l1Width_f]
  simp only [Option.bind_some]
  by_cases hw : widB a1 = true
  · have hr : 1 ≤ a1 ∧ a1 ≤ 32 := by unfold widB at hw; exact of_decide_eq_true hw
    rw [if_pos hw, digV_yes hw, spec_Sha256_f a0 ha k hk]
    simp only [Option.bind_some]
    rw [if_pos (by omega), if_pos (by rw [shaV_size]; omega)]
  · rw [if_neg hw, digV_no (Bool.eq_false_iff.2 hw)]
theorem bt_get (s : ByteArray) (i : Nat) (h : i < s.size) : bt s (i : Int) = ((s.data.toList[i]'h).toNat : Int) := by
  unfold bt
  rw [Int.toNat_natCast, dif_pos h]; rfl
theorem bytesLess_drop (a b : List UInt8) (i : Nat) (h1 : i < a.length) (h2 : i < b.length) : Op.bytesLess (a.drop i) (b.drop i) = (a[i] < b[i] || (a[i] == b[i] && Op.bytesLess (a.drop (i + 1)) (b.drop (i + 1)))) := by
  rw [List.drop_eq_getElem_cons h1, List.drop_eq_getElem_cons h2]; rfl
theorem l1Less_loop (a b : ByteArray) (ha : a.size ≤ 4611686018427387904) : ∀ (d i k : Nat), a.size = i + d → 2 * d + 1 < k →
    (i ≤ b.size) → spec_l1Less.l0 k a b (i : Int) = some (Op.bytesLess (a.data.toList.drop i) (b.data.toList.drop i)) := by
  intro d
  have hal : a.data.toList.length = a.size := rfl
  have hbl : b.data.toList.length = b.size := rfl
  induction d with
  | zero =>
    intro i k hi hk hb
    obtain ⟨k, rfl⟩ : ∃ j, k = j + 2 := ⟨k - 2, by omega⟩
    simp only [spec_l1Less.l0]
    rw [if_neg (by omega)]
    simp only [spec_l1Less.j1]
    rw [if_neg (by decide), List.drop_eq_nil_of_le (show a.data.toList.length ≤ i by omega)]
    congr 1
    by_cases h : i < b.size
    · rw [List.drop_eq_getElem_cons (show i < b.data.toList.length by omega)]
      simp [Op.bytesLess]; omega
    · rw [List.drop_eq_nil_of_le (show b.data.toList.length ≤ i by omega)]
      simp [Op.bytesLess]; omega
  | succ d ih =>
    intro i k hi hk hb
    obtain ⟨k, rfl⟩ : ∃ j, k = j + 2 := ⟨k - 2, by omega⟩
    simp only [spec_l1Less.l0]
    rw [if_pos (by omega)]
    simp only [spec_l1Less.j1]
    by_cases h : i < b.size
    · rw [if_pos (by simp; omega), if_pos (by omega), if_pos (by omega), if_pos (by omega)]
      rw [bt_get a i (by omega), bt_get b i h, bytesLess_drop _ _ i (by omega) (by omega)]
      have e1 : wrap64 ((i : Int) + 1) = ((i + 1 : Nat) : Int) := by rw [w64 (by omega) (by omega)]; omega
      rw [e1]
      clear e1
      have hlt : ∀ x y : UInt8, (x < y) ↔ ((x.toNat : Int) < (y.toNat : Int)) := by intro x y; rw [UInt8.lt_iff_toNat_lt]; omega
      have heq : ∀ x y : UInt8, (x = y) ↔ ((x.toNat : Int) = (y.toNat : Int)) := by intro x y; rw [← UInt8.toNat_inj]; omega
      generalize a.data.toList[i]'(by omega) = x
      generalize b.data.toList[i]'(by omega) = y
      by_cases hxy : x = y
      · subst hxy
        rw [if_pos rfl, ih (i + 1) k (by omega) (by omega) (by omega)]
        simp
      · rw [if_neg (fun e => hxy ((heq x y).2 e))]
        simp [hxy, hlt x y]
    · rw [if_neg (by simp; omega), List.drop_eq_nil_of_le (show b.data.toList.length ≤ i by omega)]
      congr 1
      rw [decide_eq_false (by omega)]
      cases a.data.toList.drop i <;> rfl
theorem spec_l1Less_f (a b : ByteArray) (ha : a.size ≤ 4294967296) (k : Nat) (hk : 2 * a.size + 1 < k) : spec_l1Less.f k a b = some (Op.bytesLess a.toList b.toList) := by
  unfold spec_l1Less.f
  rw [ByteArray.toList_eq, ByteArray.toList_eq]
  have h := l1Less_loop a b (by omega) a.size 0 k (by omega) hk (by omega)
  simpa using h
theorem bytesLess_swap : ∀ (x y : List UInt8), x ≠ y → Op.bytesLess y x = !Op.bytesLess x y
  | [], [], h => absurd rfl h
  | [], _ :: _, _ => rfl
  | _ :: _, [], _ => rfl
  | a :: x, b :: y, h => by
    simp only [Op.bytesLess]
    by_cases hab : a = b
    · subst hab
      have := bytesLess_swap x y (fun e => h (by rw [e]))
      have hl : ¬ a < a := by rw [UInt8.lt_iff_toNat_lt]; omega
      simp [this, hl]
    · have h1 : ¬ b = a := fun e => hab e.symm
      have hn : a.toNat ≠ b.toNat := fun e => hab (UInt8.toNat_inj.1 e)
      simp only [beq_eq_false_iff_ne.2 hab, beq_eq_false_iff_ne.2 h1, Bool.false_and, Bool.or_false]
      rw [Bool.eq_iff_iff]
      simp only [decide_eq_true_eq, Bool.not_eq_true', decide_eq_false_iff_not, UInt8.lt_iff_toNat_lt]
      omega
theorem strOfNums_inj : ∀ (l m : List Int), (∀ x ∈ l, 0 ≤ x ∧ x < 256) → (∀ x ∈ m, 0 ≤ x ∧ x < 256) → strOfNums l = strOfNums m → l = m := by
  have key : ∀ (l m : List Int), (∀ x ∈ l, 0 ≤ x ∧ x < 256) → (∀ x ∈ m, 0 ≤ x ∧ x < 256) → l.map (fun x => UInt8.ofNat x.toNat) = m.map (fun x => UInt8.ofNat x.toNat) → l = m := by
    intro l
    induction l with
    | nil => intro m _ _ h; cases m with | nil => rfl | cons => simp at h
    | cons a l ih =>
      intro m hl hm h
      cases m with
      | nil => simp at h
      | cons b m =>
        simp only [List.map_cons, List.cons.injEq] at h
        have h1 := hl a (by simp)
        have h2 := hm b (by simp)
        have h3 := congrArg UInt8.toNat h.1
        rw [UInt8.toNat_ofNat', UInt8.toNat_ofNat'] at h3
        rw [ih m (fun x hx => hl x (by simp [hx])) (fun x hx => hm x (by simp [hx])) h.2, show a = b by omega]
  intro l m hl hm h
  refine key l m hl hm ?_
  unfold strOfNums at h
  have := congrArg (fun s : ByteArray => s.data.toList) h
  simpa using this
theorem outB_range (h : List Int) : ∀ n, ∀ x ∈ outB h n, 0 ≤ x ∧ x < 256
  | 0, x, hx => by simp [outB] at hx
  | n + 1, x, hx => by
    rw [outB, List.mem_append] at hx
    rcases hx with hx | hx
    · exact outB_range h n x hx
    · simp only [wordB, List.mem_cons, List.not_mem_nil, or_false] at hx
      rcases hx with rfl | rfl | rfl | rfl <;> omega
theorem shaL_range (l : List UInt8) : ∀ x ∈ shaL l, 0 ≤ x ∧ x < 256 := outB_range _ _
theorem toList_inj {a b : ByteArray} : a.toList = b.toList ↔ a = b := by
  rw [ByteArray.toList_eq, ByteArray.toList_eq]
  exact ⟨fun h => ByteArray.ext (Array.toList_inj.mp h), fun h => by rw [h]⟩
theorem highB_eq (a b : ByteArray) : highB a b = if (shaV a).toList = (shaV b).toList then Op.bytesLess a.toList b.toList else Op.bytesLess (shaV b).toList (shaV a).toList := by
  unfold highB aboveB
  by_cases h : shaL a.data.toList = shaL b.data.toList
  · rw [if_pos h, if_pos (by unfold shaV; rw [h])]
  · have h2 : (shaV a).toList ≠ (shaV b).toList := fun e => h (strOfNums_inj _ _ (shaL_range _) (shaL_range _) (toList_inj.1 e))
    rw [if_neg h, if_neg h2]
    show (!Op.bytesLess (shaV a).toList (shaV b).toList && !((shaV a).toList == (shaV b).toList)) = _
    rw [beq_eq_false_iff_ne.2 h2, bytesLess_swap _ _ h2]
    simp
theorem spec_Higher_f (a b : ByteArray) (ha : a.size ≤ 4294967296) (hb : b.size ≤ 4294967296) (k : Nat) (hk : 2 * a.size + 2 * b.size + 200 < k) : spec_Higher.f k a b = some (highB a b) := by
  unfold spec_Higher.f
  rw [spec_Sha256_f a ha k (by omega), spec_Sha256_f b hb k (by omega)]
  simp only [Option.bind_some]
  rw [spec_l1Less_f a b ha k (by omega), spec_l1Less_f _ _ (by rw [shaV_size]; omega) k (by rw [shaV_size]; omega), highB_eq]
  simp only [Option.bind_some]
  split <;> rfl
end Go.Proofs.YtmfejehhfmaodaaDoor.Z
