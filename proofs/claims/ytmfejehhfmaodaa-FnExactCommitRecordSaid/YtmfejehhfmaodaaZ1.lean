/- Contracts of functions of the program, written by a program of this session over the translation's print. -/
import Derived.Test.YtmfejehhfmaodaaZ0
import Derived.Test.YtmfejehhfmaodaaL1
namespace Go.Proofs.Ytmfejehhfmaodaa.Z
open Go.RowKit Go.Proofs.YtmfejehhfmaodaaW.PrintWords Go.Proofs.YtmfejehhfmaodaaW.PrintLast Go.Proofs.YtmfejehhfmaodaaW.PrintMore
attribute [local go_sem] max2_int min2_int max_two min_two max_three min_three max_four min_four   -- for this text's walks alone
set_option linter.unusedVariables false
set_option linter.unusedSimpArgs false

/-! ### spec_l2Marked: function 9 -/
def spec_l2Marked.l0 : Nat → ByteArray → ByteArray → ByteArray → ByteArray → Int → Option (ByteArray)
  | 0, _, _, _, _, _ => none
  | k + 1, x0, x1, x2, x7, x8 => if x8 < (x0.size : Int) then (if (wrap64 (x8 + 63)) ≤ (x0.size : Int) then (if 0 ≤ x8 then (if x8 ≤ (wrap64 (x8 + 63)) then (if x8 = 0 then (if x7.size + (x0.extract (x8 : Int).toNat ((wrap64 (x8 + 63)) : Int).toNat).size ≤ 9223372036854775807 then (if (x7 ++ (x0.extract (x8 : Int).toNat ((wrap64 (x8 + 63)) : Int).toNat)).size + x1.size ≤ 9223372036854775807 then (spec_l2Marked.l0 k x0 x1 x2 ((x7 ++ (x0.extract (x8 : Int).toNat ((wrap64 (x8 + 63)) : Int).toNat)) ++ x1) (wrap64 (x8 + 63))) else (none)) else (none)) else (if x7.size + (x0.extract (x8 : Int).toNat ((wrap64 (x8 + 63)) : Int).toNat).size ≤ 9223372036854775807 then (if (x7 ++ (x0.extract (x8 : Int).toNat ((wrap64 (x8 + 63)) : Int).toNat)).size + x2.size ≤ 9223372036854775807 then (spec_l2Marked.l0 k x0 x1 x2 ((x7 ++ (x0.extract (x8 : Int).toNat ((wrap64 (x8 + 63)) : Int).toNat)) ++ x2) (wrap64 (x8 + 63))) else (none)) else (none))) else (none)) else (none)) else (if 0 ≤ x8 then (if x8 ≤ (x0.size : Int) then ((spec_l1Long.f (wrap64 ((wrap64 (x8 + 63)) - (x0.size : Int))) (⟨#[0]⟩ : ByteArray)).bind fun t101 => (if (x0.extract (x8 : Int).toNat x0.size).size + t101.size ≤ 9223372036854775807 then (if x8 = 0 then (if x7.size + ((x0.extract (x8 : Int).toNat x0.size) ++ t101).size ≤ 9223372036854775807 then (if (x7 ++ ((x0.extract (x8 : Int).toNat x0.size) ++ t101)).size + x1.size ≤ 9223372036854775807 then (spec_l2Marked.l0 k x0 x1 x2 ((x7 ++ ((x0.extract (x8 : Int).toNat x0.size) ++ t101)) ++ x1) (wrap64 (x8 + 63))) else (none)) else (none)) else (if x7.size + ((x0.extract (x8 : Int).toNat x0.size) ++ t101).size ≤ 9223372036854775807 then (if (x7 ++ ((x0.extract (x8 : Int).toNat x0.size) ++ t101)).size + x2.size ≤ 9223372036854775807 then (spec_l2Marked.l0 k x0 x1 x2 ((x7 ++ ((x0.extract (x8 : Int).toNat x0.size) ++ t101)) ++ x2) (wrap64 (x8 + 63))) else (none)) else (none))) else (none))) else (none)) else (none))) else (some x7)
def spec_l2Marked.f (k : Nat) (a0 : ByteArray) (a1 : ByteArray) (a2 : ByteArray) : Option (ByteArray) := spec_l2Marked.l0 k a0 a1 a2 (⟨#[]⟩ : ByteArray) 0
theorem spec_l2Marked.mono_l : ∀ k, (∀ y0 y1 y2 y3 y4, LeO (spec_l2Marked.l0 k y0 y1 y2 y3 y4) (spec_l2Marked.l0 (k + 1) y0 y1 y2 y3 y4))
  | 0 => fun _ _ _ _ _ r h => by simp [spec_l2Marked.l0] at h
  | k + 1 => by
    have ih0 := spec_l2Marked.mono_l k
    · intro y0 y1 y2 y3 y4
      unfold spec_l2Marked.l0
      repeat' first
      | (with_reducible exact ih0 _ _ _ _ _)
      | (with_reducible exact LeO.refl _)
      | (with_reducible exact LeO.none _)
      | (with_reducible refine LeO.ite ?_ ?_)
      | (with_reducible refine LeO.bind ?_ (fun _ => ?_))
      | exact ih0 _ _ _ _ _
      | exact LeO.none _
      | refine LeO.ite ?_ ?_
      | refine LeO.bind ?_ (fun _ => ?_)
theorem spec_l2Marked.mono : ∀ a0 a1 a2 k, LeO (spec_l2Marked.f k a0 a1 a2) (spec_l2Marked.f (k + 1) a0 a1 a2) := by
  intro a0 a1 a2 k
  have ih0 := spec_l2Marked.mono_l k
  unfold spec_l2Marked.f
  repeat' first
      | (with_reducible exact ih0 _ _ _ _ _)
      | (with_reducible exact LeO.refl _)
      | (with_reducible exact LeO.none _)
      | (with_reducible refine LeO.ite ?_ ?_)
      | (with_reducible refine LeO.bind ?_ (fun _ => ?_))
      | exact ih0 _ _ _ _ _
      | exact LeO.none _
      | refine LeO.ite ?_ ?_
      | refine LeO.bind ?_ (fun _ => ?_)
def spec_l2Marked.T9 : Bool × List (List Nat × List Nat) := (true, [([], []), ([], []), ([0, 1], [0, 1]), ([], []), ([], []), ([4], [4]), ([3, 5], [3, 5]), ([6], [6]), ([2, 7], [2, 7]), ([8, 7, 0, 1, 2, 3, 4, 5, 6, 7, 8], [8])])
def spec_l2Marked.B9 : List Nat := [0, 0, 3, 0, 0, 16, 56, 120, 255, 511]
theorem spec_l2Marked.tab9 : rtab .any (opsOf Try.f9 9) = spec_l2Marked.T9 := by kernel_rfl
theorem spec_l2Marked.bits9 : waitsOk spec_l2Marked.T9.2 spec_l2Marked.B9 = true := by kernel_rfl
set_option maxHeartbeats 8000000 in
set_option maxRecDepth 100000 in
theorem spec_l2Marked.calls (k : Nat) (a0 : ByteArray) (a1 : ByteArray) (a2 : ByteArray) (r : ByteArray) (w : World) (h : spec_l2Marked.f k a0 a1 a2 = some r) :
    Calls Try.prog 9 #[.string a0, .string a1, .string a2] w fun e w' => e = .returned (.string r) ∧ Below w.heap.size w w' := by
  have HB := Aside0.mk (Below.refl w.heap.size w)
  have H : (spec_l2Marked.l0 k a0 a1 a2 (⟨#[]⟩ : ByteArray) 0) = some r := h
  clear h
  have H' := Aside0.mk H
  clear H
  go_enter Try.func9, Try.ntmps9
  go_wp2
  go_loopg [7, 8] k (fun kq v7 v8 w' => ∃ (x7_1 : ByteArray) (x8_1 : Int), v7 = .string x7_1 ∧ v8 = .int .i64 x8_1 ∧ Aside0 (spec_l2Marked.l0 kq a0 a1 a2 x7_1 x8_1 = some r) ∧ Aside0 (kq ≤ k) ∧ Aside0 (Below w.heap.size w w'))
  case atStart => exact ⟨((⟨#[]⟩ : ByteArray)), (0), (by first | rfl | (simp; done) | (simp [*]; done)), (by first | rfl | (simp; done) | (simp [*]; done)), H', ⟨Nat.le_refl _⟩, ⟨by repeat (first | (with_reducible first | exact HB.out | apply below_alloc | apply pw_below_drewN | apply below_drew1) | exact HB.out)⟩⟩
  case round =>
    clear H'
    try clear p2
    obtain ⟨x7_1, x8_1, rfl, rfl, HA, HK1, HB⟩ := hrel
    cases gk with
    | zero => exact absurd HA.out (by simp [spec_l2Marked.l0])
    | succ k1 =>
      have H := HA.out
      clear HA
      simp only [spec_l2Marked.l0] at H
      by_cases c4 : x8_1 < (a0.size : Int)
      · rw [if_pos c4] at H
        have c4b0 : decide (x8_1 < (a0.size : Int)) = true := decide_eq_true c4
        clear c4
        by_cases c5 : (wrap64 (x8_1 + 63)) ≤ (a0.size : Int)
        · rw [if_pos c5] at H
          have c5b0 : decide ((wrap64 (x8_1 + 63)) ≤ (a0.size : Int)) = true := decide_eq_true c5
          clear c5
          by_cases c6 : 0 ≤ x8_1
          · rw [if_pos c6] at H
            have c6b0 := eq_true c6
            have c6b1 : decide (0 ≤ x8_1) = true := decide_eq_true c6
            clear c6
            by_cases c7 : x8_1 ≤ (wrap64 (x8_1 + 63))
            · rw [if_pos c7] at H
              have c7b0 := eq_true c7
              have c7b1 : decide (x8_1 ≤ (wrap64 (x8_1 + 63))) = true := decide_eq_true c7
              have c8b0 := eq_true (of_decide_eq_true (by first | (with_reducible assumption) | assumption) : (wrap64 (x8_1 + 63)) ≤ (a0.size : Int))
              by_cases c9 : x8_1 = 0
              · rw [if_pos c9] at H
                have c9b0 : (x8_1 == 0) = true := beq_iff_eq.mpr c9
                have c9b1 : (x8_1 != 0) = false := bne_eq_false_iff_eq.mpr c9
                clear c9
                by_cases c10 : x7_1.size + (a0.extract (x8_1 : Int).toNat ((wrap64 (x8_1 + 63)) : Int).toNat).size ≤ 9223372036854775807
                · rw [if_pos c10] at H
                  have c10b0 := eq_true c10
                  have c10b1 : decide (x7_1.size + (a0.extract (x8_1 : Int).toNat ((wrap64 (x8_1 + 63)) : Int).toNat).size ≤ 9223372036854775807) = true := decide_eq_true c10
                  try have c10b2 : (9223372036854775807 < x7_1.size + (a0.extract (x8_1 : Int).toNat ((wrap64 (x8_1 + 63)) : Int).toNat).size) = False := eq_false (Nat.not_lt.2 c10)
                  try (have c10b3 := c10b2; simp only [ByteArray.size_append, ByteArray.size_extract, Nat.min_self] at c10b3)
                  by_cases c11 : (x7_1 ++ (a0.extract (x8_1 : Int).toNat ((wrap64 (x8_1 + 63)) : Int).toNat)).size + a1.size ≤ 9223372036854775807
                  · rw [if_pos c11] at H
                    have c11b0 := eq_true c11
                    have c11b1 : decide ((x7_1 ++ (a0.extract (x8_1 : Int).toNat ((wrap64 (x8_1 + 63)) : Int).toNat)).size + a1.size ≤ 9223372036854775807) = true := decide_eq_true c11
                    try have c11b2 : (9223372036854775807 < (x7_1 ++ (a0.extract (x8_1 : Int).toNat ((wrap64 (x8_1 + 63)) : Int).toNat)).size + a1.size) = False := eq_false (Nat.not_lt.2 c11)
                    try (have c11b3 := c11b2; simp only [ByteArray.size_append, ByteArray.size_extract, Nat.min_self] at c11b3)
                    have H' := Aside0.mk H
                    clear H
                    go_wp2
                    go_roundg k1
                    case measure => have := HK1.out; omega
                    case rel => exact ⟨((x7_1 ++ (a0.extract (x8_1 : Int).toNat ((wrap64 (x8_1 + 63)) : Int).toNat)) ++ a1), (wrap64 (x8_1 + 63)), (by first | rfl | (simp; done) | (simp [*]; done)), (by first | rfl | (simp; done) | (simp [*]; done)), H', ⟨by have := HK1.out; omega⟩, ⟨by repeat (first | (with_reducible first | exact HB.out | apply below_alloc | apply pw_below_drewN | apply below_drew1) | exact HB.out)⟩⟩
                  · rw [if_neg c11] at H
                    exact absurd H (by simp)
                · rw [if_neg c10] at H
                  exact absurd H (by simp)
              · rw [if_neg c9] at H
                have c9b0 : (x8_1 == 0) = false := beq_eq_false_iff_ne.mpr c9
                have c9b1 : (x8_1 != 0) = true := bne_iff_ne.mpr c9
                by_cases c12 : x7_1.size + (a0.extract (x8_1 : Int).toNat ((wrap64 (x8_1 + 63)) : Int).toNat).size ≤ 9223372036854775807
                · rw [if_pos c12] at H
                  have c12b0 := eq_true c12
                  have c12b1 : decide (x7_1.size + (a0.extract (x8_1 : Int).toNat ((wrap64 (x8_1 + 63)) : Int).toNat).size ≤ 9223372036854775807) = true := decide_eq_true c12
                  try have c12b2 : (9223372036854775807 < x7_1.size + (a0.extract (x8_1 : Int).toNat ((wrap64 (x8_1 + 63)) : Int).toNat).size) = False := eq_false (Nat.not_lt.2 c12)
                  try (have c12b3 := c12b2; simp only [ByteArray.size_append, ByteArray.size_extract, Nat.min_self] at c12b3)
                  by_cases c13 : (x7_1 ++ (a0.extract (x8_1 : Int).toNat ((wrap64 (x8_1 + 63)) : Int).toNat)).size + a2.size ≤ 9223372036854775807
                  · rw [if_pos c13] at H
                    have c13b0 := eq_true c13
                    have c13b1 : decide ((x7_1 ++ (a0.extract (x8_1 : Int).toNat ((wrap64 (x8_1 + 63)) : Int).toNat)).size + a2.size ≤ 9223372036854775807) = true := decide_eq_true c13
                    try have c13b2 : (9223372036854775807 < (x7_1 ++ (a0.extract (x8_1 : Int).toNat ((wrap64 (x8_1 + 63)) : Int).toNat)).size + a2.size) = False := eq_false (Nat.not_lt.2 c13)
                    try (have c13b3 := c13b2; simp only [ByteArray.size_append, ByteArray.size_extract, Nat.min_self] at c13b3)
                    have H' := Aside0.mk H
                    clear H
                    go_wp2
                    go_roundg k1
                    case measure => have := HK1.out; omega
                    case rel => exact ⟨((x7_1 ++ (a0.extract (x8_1 : Int).toNat ((wrap64 (x8_1 + 63)) : Int).toNat)) ++ a2), (wrap64 (x8_1 + 63)), (by first | rfl | (simp; done) | (simp [*]; done)), (by first | rfl | (simp; done) | (simp [*]; done)), H', ⟨by have := HK1.out; omega⟩, ⟨by repeat (first | (with_reducible first | exact HB.out | apply below_alloc | apply pw_below_drewN | apply below_drew1) | exact HB.out)⟩⟩
                  · rw [if_neg c13] at H
                    exact absurd H (by simp)
                · rw [if_neg c12] at H
                  exact absurd H (by simp)
            · rw [if_neg c7] at H
              exact absurd H (by simp)
          · rw [if_neg c6] at H
            exact absurd H (by simp)
        · rw [if_neg c5] at H
          have c5b0 : decide ((wrap64 (x8_1 + 63)) ≤ (a0.size : Int)) = false := decide_eq_false c5
          clear c5
          by_cases c14 : 0 ≤ x8_1
          · rw [if_pos c14] at H
            have c14b0 := eq_true c14
            have c14b1 : decide (0 ≤ x8_1) = true := decide_eq_true c14
            clear c14
            by_cases c15 : x8_1 ≤ (a0.size : Int)
            · rw [if_pos c15] at H
              have c15b0 := eq_true c15
              have c15b1 : decide (x8_1 ≤ (a0.size : Int)) = true := decide_eq_true c15
              clear c15
              replace H := Option.bind_eq_some_iff.mp H
              obtain ⟨t101, A160, H⟩ := H
              replace H : (if (a0.extract (x8_1 : Int).toNat a0.size).size + t101.size ≤ 9223372036854775807 then (if x8_1 = 0 then (if x7_1.size + ((a0.extract (x8_1 : Int).toNat a0.size) ++ t101).size ≤ 9223372036854775807 then (if (x7_1 ++ ((a0.extract (x8_1 : Int).toNat a0.size) ++ t101)).size + a1.size ≤ 9223372036854775807 then (spec_l2Marked.l0 k1 a0 a1 a2 ((x7_1 ++ ((a0.extract (x8_1 : Int).toNat a0.size) ++ t101)) ++ a1) (wrap64 (x8_1 + 63))) else (none)) else (none)) else (if x7_1.size + ((a0.extract (x8_1 : Int).toNat a0.size) ++ t101).size ≤ 9223372036854775807 then (if (x7_1 ++ ((a0.extract (x8_1 : Int).toNat a0.size) ++ t101)).size + a2.size ≤ 9223372036854775807 then (spec_l2Marked.l0 k1 a0 a1 a2 ((x7_1 ++ ((a0.extract (x8_1 : Int).toNat a0.size) ++ t101)) ++ a2) (wrap64 (x8_1 + 63))) else (none)) else (none))) else (none)) = some r := H
              have A16 := Aside0.mk A160
              clear A160
              by_cases c17 : (a0.extract (x8_1 : Int).toNat a0.size).size + t101.size ≤ 9223372036854775807
              · rw [if_pos c17] at H
                have c17b0 := eq_true c17
                have c17b1 : decide ((a0.extract (x8_1 : Int).toNat a0.size).size + t101.size ≤ 9223372036854775807) = true := decide_eq_true c17
                try have c17b2 : (9223372036854775807 < (a0.extract (x8_1 : Int).toNat a0.size).size + t101.size) = False := eq_false (Nat.not_lt.2 c17)
                try (have c17b3 := c17b2; simp only [ByteArray.size_append, ByteArray.size_extract, Nat.min_self] at c17b3)
                by_cases c18 : x8_1 = 0
                · rw [if_pos c18] at H
                  have c18b0 : (x8_1 == 0) = true := beq_iff_eq.mpr c18
                  have c18b1 : (x8_1 != 0) = false := bne_eq_false_iff_eq.mpr c18
                  clear c18
                  by_cases c19 : x7_1.size + ((a0.extract (x8_1 : Int).toNat a0.size) ++ t101).size ≤ 9223372036854775807
                  · rw [if_pos c19] at H
                    have c19b0 := eq_true c19
                    have c19b1 : decide (x7_1.size + ((a0.extract (x8_1 : Int).toNat a0.size) ++ t101).size ≤ 9223372036854775807) = true := decide_eq_true c19
                    try have c19b2 : (9223372036854775807 < x7_1.size + ((a0.extract (x8_1 : Int).toNat a0.size) ++ t101).size) = False := eq_false (Nat.not_lt.2 c19)
                    try (have c19b3 := c19b2; simp only [ByteArray.size_append, ByteArray.size_extract, Nat.min_self] at c19b3)
                    by_cases c20 : (x7_1 ++ ((a0.extract (x8_1 : Int).toNat a0.size) ++ t101)).size + a1.size ≤ 9223372036854775807
                    · rw [if_pos c20] at H
                      have c20b0 := eq_true c20
                      have c20b1 : decide ((x7_1 ++ ((a0.extract (x8_1 : Int).toNat a0.size) ++ t101)).size + a1.size ≤ 9223372036854775807) = true := decide_eq_true c20
                      try have c20b2 : (9223372036854775807 < (x7_1 ++ ((a0.extract (x8_1 : Int).toNat a0.size) ++ t101)).size + a1.size) = False := eq_false (Nat.not_lt.2 c20)
                      try (have c20b3 := c20b2; simp only [ByteArray.size_append, ByteArray.size_extract, Nat.min_self] at c20b3)
                      have H' := Aside0.mk H
                      clear H
                      try go_wp2
                      have n0_ := Aside0.mk (below_drew1 HB.out)
                      clear HB
                      have HB := n0_
                      clear n0_
                      refine start_ (n := 10) (S := fun w' => True) (ds := []) #[false, false, false, false, false, false, false, false, false, false] (by kernel_rfl) rfl rfl trivial (fun hHeld => ?_); refine with_tabW spec_l2Marked.tab9 spec_l2Marked.bits9 (fun HT_ HW_ => ?_)
                      generalize wr.drew = w21 at HB hHeld ⊢
                      refine pure_ (i := 0) (N := some 27) (v := ?_) (a' := ?_) #[true, false, false, false, false, false, false, false, false, false] rfl rfl (any_of HT_.out (by kernel_rfl)) (fun _ _ _ h => h) (Or.inl ⟨by rfl, ?_⟩) ?_ ?_
                      rotate_left
                      · intro w'
                        go_simp
                        with_reducible rfl
                      rotate_left
                      · simp only [Act.put, List.setIfInBounds_toArray, List.set_cons_zero, List.set_cons_succ, i64_w, i32_w]
                        rfl
                      refine pure_ (i := 1) (N := some 28) (v := ?_) (a' := ?_) #[true, true, false, false, false, false, false, false, false, false] rfl rfl (any_of HT_.out (by kernel_rfl)) (fun _ _ _ h => h) (Or.inl ⟨by rfl, ?_⟩) ?_ ?_
                      rotate_left
                      · intro w'
                        go_simp
                        with_reducible rfl
                      rotate_left
                      · simp only [Act.put, List.setIfInBounds_toArray, List.set_cons_zero, List.set_cons_succ, i64_w, i32_w]
                        rfl
                      refine pure_ (i := 2) (N := some 29) (v := ?_) (a' := ?_) #[true, true, true, false, false, false, false, false, false, false] rfl rfl (any_of HT_.out (by kernel_rfl)) (fun _ _ _ h => h) (Or.inl ⟨by rfl, ?_⟩) ?_ ?_
                      rotate_left
                      · intro w'
                        go_simp
                        with_reducible rfl
                      rotate_left
                      · simp only [Act.put, List.setIfInBounds_toArray, List.set_cons_zero, List.set_cons_succ, i64_w, i32_w]
                        rfl
                      refine pure_ (i := 3) (N := some 30) (v := ?_) (a' := ?_) #[true, true, true, true, false, false, false, false, false, false] rfl rfl (any_of HT_.out (by kernel_rfl)) (fun _ _ _ h => h) (Or.inl ⟨by rfl, ?_⟩) ?_ ?_
                      rotate_left
                      · intro w'
                        go_simp
                        with_reducible rfl
                      rotate_left
                      · simp only [Act.put, List.setIfInBounds_toArray, List.set_cons_zero, List.set_cons_succ, i64_w, i32_w]
                        rfl
                      refine pure_ (i := 4) (N := some 31) (v := ?_) (a' := ?_) #[true, true, true, true, true, false, false, false, false, false] rfl rfl (any_of HT_.out (by kernel_rfl)) (fun _ _ _ h => h) (Or.inl ⟨by rfl, ?_⟩) ?_ ?_
                      rotate_left
                      · intro w'
                        go_simp
                        with_reducible rfl
                      rotate_left
                      · simp only [Act.put, List.setIfInBounds_toArray, List.set_cons_zero, List.set_cons_succ, i64_w, i32_w]
                        rfl
                      refine pure_ (i := 5) (N := some 32) (v := ?_) (a' := ?_) #[true, true, true, true, true, true, false, false, false, false] rfl rfl (any_of HT_.out (by kernel_rfl)) (fun _ _ _ h => h) (Or.inl ⟨by rfl, ?_⟩) ?_ ?_
                      rotate_left
                      · intro w'
                        go_simp
                        with_reducible rfl
                      rotate_left
                      · simp only [Act.put, List.setIfInBounds_toArray, List.set_cons_zero, List.set_cons_succ, i64_w, i32_w]
                        rfl
                      refine pure_ (i := 6) (N := some 33) (v := ?_) (a' := ?_) #[true, true, true, true, true, true, true, false, false, false] rfl rfl (any_of HT_.out (by kernel_rfl)) (fun _ _ _ h => h) (Or.inl ⟨by rfl, ?_⟩) ?_ ?_
                      rotate_left
                      · intro w'
                        go_simp
                        with_reducible rfl
                      rotate_left
                      · simp only [Act.put, List.setIfInBounds_toArray, List.set_cons_zero, List.set_cons_succ, i64_w, i32_w]
                        rfl
                      refine one_ (i := 7) (N := some 34) #[true, true, true, true, true, true, true, true, false, false] rfl rfl (one_of HT_.out (by kernel_rfl)) (by decide) (fun K hK => ?_)
                      refine goes_ Try.func16 (by kernel_rfl) rfl #[.int .i64 (wrap64 ((wrap64 (x8_1 + 63)) - (a0.size : Int))), .string (⟨#[0]⟩ : ByteArray)] (by rfl) rfl rfl (by (try simp only [List.map_toArray, List.map_cons, List.map_nil]); first | done | rfl | (simp only [List.length_drop, List.length_take]; rfl)) ?_
                      with_reducible refine (spec_l1Long.calls (wrap64 ((wrap64 (x8_1 + 63)) - (a0.size : Int))) (⟨#[0]⟩ : ByteArray) t101 _ A16.out).mono ?_
                      rintro e w22 ⟨rfl, hb⟩
                      refine ⟨_, rfl, ?_⟩
                      have n0_ := Aside0.mk (below_step (by repeat (first | (with_reducible first | exact HB.out | apply below_alloc | apply pw_below_drewN | apply below_drew1) | exact HB.out)) hb)
                      clear HB
                      have HB := n0_
                      clear n0_
                      (try clear hb)
                      (try clear hb2)
                      (try clear hk)
                      (try clear hi)
                      refine hK.out _ _ trivial (fun hHeld => ?_)
                      clear hK K
                      refine norm_ (a' := ?_) ?_ ?_
                      rotate_left
                      · show Act.put _ (some 34) _ = _
                        simp only [Act.put, List.setIfInBounds_toArray, List.set_cons_zero, List.set_cons_succ, i64_w, i32_w]
                        rfl
                      refine pure_ (i := 8) (N := some 35) (v := ?_) (a' := ?_) #[true, true, true, true, true, true, true, true, true, false] rfl rfl (any_of HT_.out (by kernel_rfl)) (fun _ _ _ h => h) (Or.inl ⟨by rfl, ?_⟩) ?_ ?_
                      rotate_left
                      · intro w'
                        go_simp
                        with_reducible rfl
                      rotate_left
                      · simp only [Act.put, List.setIfInBounds_toArray, List.set_cons_zero, List.set_cons_succ, i64_w, i32_w]
                        rfl
                      refine pure_ (i := 9) (N := some 10) (v := ?_) (a' := ?_) #[true, true, true, true, true, true, true, true, true, true] rfl rfl (any_of HT_.out (by kernel_rfl)) (fun _ _ _ h => h) (Or.inl ⟨by rfl, ?_⟩) ?_ ?_
                      rotate_left
                      · intro w'
                        go_simp
                        with_reducible rfl
                      rotate_left
                      · simp only [Act.put, List.setIfInBounds_toArray, List.set_cons_zero, List.set_cons_succ, i64_w, i32_w]
                        rfl
                      refine done_ (done_of HT_.out (by kernel_rfl)) ?_
                      try go_wp2
                      go_roundg k1
                      case measure => have := HK1.out; omega
                      case rel => exact ⟨((x7_1 ++ ((a0.extract (x8_1 : Int).toNat a0.size) ++ t101)) ++ a1), (wrap64 (x8_1 + 63)), (by first | rfl | (simp; done) | (simp [*]; done)), (by first | rfl | (simp; done) | (simp [*]; done)), H', ⟨by have := HK1.out; omega⟩, ⟨by repeat (first | (with_reducible first | exact HB.out | apply below_alloc | apply pw_below_drewN | apply below_drew1) | exact HB.out)⟩⟩
                    · rw [if_neg c20] at H
                      exact absurd H (by simp)
                  · rw [if_neg c19] at H
                    exact absurd H (by simp)
                · rw [if_neg c18] at H
                  have c18b0 : (x8_1 == 0) = false := beq_eq_false_iff_ne.mpr c18
                  have c18b1 : (x8_1 != 0) = true := bne_iff_ne.mpr c18
                  by_cases c23 : x7_1.size + ((a0.extract (x8_1 : Int).toNat a0.size) ++ t101).size ≤ 9223372036854775807
                  · rw [if_pos c23] at H
                    have c23b0 := eq_true c23
                    have c23b1 : decide (x7_1.size + ((a0.extract (x8_1 : Int).toNat a0.size) ++ t101).size ≤ 9223372036854775807) = true := decide_eq_true c23
                    try have c23b2 : (9223372036854775807 < x7_1.size + ((a0.extract (x8_1 : Int).toNat a0.size) ++ t101).size) = False := eq_false (Nat.not_lt.2 c23)
                    try (have c23b3 := c23b2; simp only [ByteArray.size_append, ByteArray.size_extract, Nat.min_self] at c23b3)
                    by_cases c24 : (x7_1 ++ ((a0.extract (x8_1 : Int).toNat a0.size) ++ t101)).size + a2.size ≤ 9223372036854775807
                    · rw [if_pos c24] at H
                      have c24b0 := eq_true c24
                      have c24b1 : decide ((x7_1 ++ ((a0.extract (x8_1 : Int).toNat a0.size) ++ t101)).size + a2.size ≤ 9223372036854775807) = true := decide_eq_true c24
                      try have c24b2 : (9223372036854775807 < (x7_1 ++ ((a0.extract (x8_1 : Int).toNat a0.size) ++ t101)).size + a2.size) = False := eq_false (Nat.not_lt.2 c24)
                      try (have c24b3 := c24b2; simp only [ByteArray.size_append, ByteArray.size_extract, Nat.min_self] at c24b3)
                      have H' := Aside0.mk H
                      clear H
                      try go_wp2
                      have n0_ := Aside0.mk (below_drew1 HB.out)
                      clear HB
                      have HB := n0_
                      clear n0_
                      refine start_ (n := 10) (S := fun w' => True) (ds := []) #[false, false, false, false, false, false, false, false, false, false] (by kernel_rfl) rfl rfl trivial (fun hHeld => ?_); refine with_tabW spec_l2Marked.tab9 spec_l2Marked.bits9 (fun HT_ HW_ => ?_)
                      generalize wr.drew = w25 at HB hHeld ⊢
                      refine pure_ (i := 0) (N := some 27) (v := ?_) (a' := ?_) #[true, false, false, false, false, false, false, false, false, false] rfl rfl (any_of HT_.out (by kernel_rfl)) (fun _ _ _ h => h) (Or.inl ⟨by rfl, ?_⟩) ?_ ?_
                      rotate_left
                      · intro w'
                        go_simp
                        with_reducible rfl
                      rotate_left
                      · simp only [Act.put, List.setIfInBounds_toArray, List.set_cons_zero, List.set_cons_succ, i64_w, i32_w]
                        rfl
                      refine pure_ (i := 1) (N := some 28) (v := ?_) (a' := ?_) #[true, true, false, false, false, false, false, false, false, false] rfl rfl (any_of HT_.out (by kernel_rfl)) (fun _ _ _ h => h) (Or.inl ⟨by rfl, ?_⟩) ?_ ?_
                      rotate_left
                      · intro w'
                        go_simp
                        with_reducible rfl
                      rotate_left
                      · simp only [Act.put, List.setIfInBounds_toArray, List.set_cons_zero, List.set_cons_succ, i64_w, i32_w]
                        rfl
                      refine pure_ (i := 2) (N := some 29) (v := ?_) (a' := ?_) #[true, true, true, false, false, false, false, false, false, false] rfl rfl (any_of HT_.out (by kernel_rfl)) (fun _ _ _ h => h) (Or.inl ⟨by rfl, ?_⟩) ?_ ?_
                      rotate_left
                      · intro w'
                        go_simp
                        with_reducible rfl
                      rotate_left
                      · simp only [Act.put, List.setIfInBounds_toArray, List.set_cons_zero, List.set_cons_succ, i64_w, i32_w]
                        rfl
                      refine pure_ (i := 3) (N := some 30) (v := ?_) (a' := ?_) #[true, true, true, true, false, false, false, false, false, false] rfl rfl (any_of HT_.out (by kernel_rfl)) (fun _ _ _ h => h) (Or.inl ⟨by rfl, ?_⟩) ?_ ?_
                      rotate_left
                      · intro w'
                        go_simp
                        with_reducible rfl
                      rotate_left
                      · simp only [Act.put, List.setIfInBounds_toArray, List.set_cons_zero, List.set_cons_succ, i64_w, i32_w]
                        rfl
                      refine pure_ (i := 4) (N := some 31) (v := ?_) (a' := ?_) #[true, true, true, true, true, false, false, false, false, false] rfl rfl (any_of HT_.out (by kernel_rfl)) (fun _ _ _ h => h) (Or.inl ⟨by rfl, ?_⟩) ?_ ?_
                      rotate_left
                      · intro w'
                        go_simp
                        with_reducible rfl
                      rotate_left
                      · simp only [Act.put, List.setIfInBounds_toArray, List.set_cons_zero, List.set_cons_succ, i64_w, i32_w]
                        rfl
                      refine pure_ (i := 5) (N := some 32) (v := ?_) (a' := ?_) #[true, true, true, true, true, true, false, false, false, false] rfl rfl (any_of HT_.out (by kernel_rfl)) (fun _ _ _ h => h) (Or.inl ⟨by rfl, ?_⟩) ?_ ?_
                      rotate_left
                      · intro w'
                        go_simp
                        with_reducible rfl
                      rotate_left
                      · simp only [Act.put, List.setIfInBounds_toArray, List.set_cons_zero, List.set_cons_succ, i64_w, i32_w]
                        rfl
                      refine pure_ (i := 6) (N := some 33) (v := ?_) (a' := ?_) #[true, true, true, true, true, true, true, false, false, false] rfl rfl (any_of HT_.out (by kernel_rfl)) (fun _ _ _ h => h) (Or.inl ⟨by rfl, ?_⟩) ?_ ?_
                      rotate_left
                      · intro w'
                        go_simp
                        with_reducible rfl
                      rotate_left
                      · simp only [Act.put, List.setIfInBounds_toArray, List.set_cons_zero, List.set_cons_succ, i64_w, i32_w]
                        rfl
                      refine one_ (i := 7) (N := some 34) #[true, true, true, true, true, true, true, true, false, false] rfl rfl (one_of HT_.out (by kernel_rfl)) (by decide) (fun K hK => ?_)
                      refine goes_ Try.func16 (by kernel_rfl) rfl #[.int .i64 (wrap64 ((wrap64 (x8_1 + 63)) - (a0.size : Int))), .string (⟨#[0]⟩ : ByteArray)] (by rfl) rfl rfl (by (try simp only [List.map_toArray, List.map_cons, List.map_nil]); first | done | rfl | (simp only [List.length_drop, List.length_take]; rfl)) ?_
                      with_reducible refine (spec_l1Long.calls (wrap64 ((wrap64 (x8_1 + 63)) - (a0.size : Int))) (⟨#[0]⟩ : ByteArray) t101 _ A16.out).mono ?_
                      rintro e w26 ⟨rfl, hb⟩
                      refine ⟨_, rfl, ?_⟩
                      have n0_ := Aside0.mk (below_step (by repeat (first | (with_reducible first | exact HB.out | apply below_alloc | apply pw_below_drewN | apply below_drew1) | exact HB.out)) hb)
                      clear HB
                      have HB := n0_
                      clear n0_
                      (try clear hb)
                      (try clear hb2)
                      (try clear hk)
                      (try clear hi)
                      refine hK.out _ _ trivial (fun hHeld => ?_)
                      clear hK K
                      refine norm_ (a' := ?_) ?_ ?_
                      rotate_left
                      · show Act.put _ (some 34) _ = _
                        simp only [Act.put, List.setIfInBounds_toArray, List.set_cons_zero, List.set_cons_succ, i64_w, i32_w]
                        rfl
                      refine pure_ (i := 8) (N := some 35) (v := ?_) (a' := ?_) #[true, true, true, true, true, true, true, true, true, false] rfl rfl (any_of HT_.out (by kernel_rfl)) (fun _ _ _ h => h) (Or.inl ⟨by rfl, ?_⟩) ?_ ?_
                      rotate_left
                      · intro w'
                        go_simp
                        with_reducible rfl
                      rotate_left
                      · simp only [Act.put, List.setIfInBounds_toArray, List.set_cons_zero, List.set_cons_succ, i64_w, i32_w]
                        rfl
                      refine pure_ (i := 9) (N := some 10) (v := ?_) (a' := ?_) #[true, true, true, true, true, true, true, true, true, true] rfl rfl (any_of HT_.out (by kernel_rfl)) (fun _ _ _ h => h) (Or.inl ⟨by rfl, ?_⟩) ?_ ?_
                      rotate_left
                      · intro w'
                        go_simp
                        with_reducible rfl
                      rotate_left
                      · simp only [Act.put, List.setIfInBounds_toArray, List.set_cons_zero, List.set_cons_succ, i64_w, i32_w]
                        rfl
                      refine done_ (done_of HT_.out (by kernel_rfl)) ?_
                      try go_wp2
                      go_roundg k1
                      case measure => have := HK1.out; omega
                      case rel => exact ⟨((x7_1 ++ ((a0.extract (x8_1 : Int).toNat a0.size) ++ t101)) ++ a2), (wrap64 (x8_1 + 63)), (by first | rfl | (simp; done) | (simp [*]; done)), (by first | rfl | (simp; done) | (simp [*]; done)), H', ⟨by have := HK1.out; omega⟩, ⟨by repeat (first | (with_reducible first | exact HB.out | apply below_alloc | apply pw_below_drewN | apply below_drew1) | exact HB.out)⟩⟩
                    · rw [if_neg c24] at H
                      exact absurd H (by simp)
                  · rw [if_neg c23] at H
                    exact absurd H (by simp)
              · rw [if_neg c17] at H
                exact absurd H (by simp)
            · rw [if_neg c15] at H
              exact absurd H (by simp)
          · rw [if_neg c14] at H
            exact absurd H (by simp)
      · rw [if_neg c4] at H
        have c4b0 : decide (x8_1 < (a0.size : Int)) = false := decide_eq_false c4
        clear c4
        obtain rfl := Option.some.inj H
        go_wp2
        go_ret
        exact ⟨by first | rfl | (simp [errW_none, errW_some] <;> rfl) | (simp [*, errW_none, errW_some] <;> rfl), by repeat (first | (with_reducible first | exact HB.out | apply below_alloc | apply pw_below_drewN | apply below_drew1) | exact HB.out)⟩

end Go.Proofs.Ytmfejehhfmaodaa.Z
