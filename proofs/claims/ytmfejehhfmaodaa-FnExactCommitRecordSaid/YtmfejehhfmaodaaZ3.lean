/- Contracts of functions of the program, written by a program of this session over the translation's print. -/
import Derived.Test.YtmfejehhfmaodaaZ0
import Derived.Test.YtmfejehhfmaodaaZ2
namespace Go.Proofs.Ytmfejehhfmaodaa.Z
open Go.RowKit Go.Proofs.YtmfejehhfmaodaaW.PrintWords Go.Proofs.YtmfejehhfmaodaaW.PrintLast Go.Proofs.YtmfejehhfmaodaaW.PrintMore
attribute [local go_sem] max2_int min2_int max_two min_two max_three min_three max_four min_four   -- for this text's walks alone
set_option linter.unusedVariables false
set_option linter.unusedSimpArgs false

/-! ### spec_l2Four: function 10 -/
def spec_l2Four.f (a0 : Int) : Option (ByteArray) := (spec_l2Byte.f (Int.tmod a0 256)).bind fun t105 => ((spec_l2Byte.f (Int.tmod (wrap64 (Int.tdiv a0 256)) 256)).bind fun t106 => (if t105.size + t106.size ≤ 9223372036854775807 then ((spec_l2Byte.f (Int.tmod (wrap64 (Int.tdiv a0 65536)) 256)).bind fun t107 => (if (t105 ++ t106).size + t107.size ≤ 9223372036854775807 then ((spec_l2Byte.f (Int.tmod (wrap64 (Int.tdiv a0 16777216)) 256)).bind fun t108 => (if ((t105 ++ t106) ++ t107).size + t108.size ≤ 9223372036854775807 then (some (((t105 ++ t106) ++ t107) ++ t108)) else (none))) else (none))) else (none)))
set_option maxHeartbeats 8000000 in
set_option maxRecDepth 100000 in
theorem spec_l2Four.calls (a0 : Int) (r : ByteArray) (w : World) (h : spec_l2Four.f a0 = some r) :
    Calls Try.prog 10 #[.int .i64 a0] w fun e w' => e = .returned (.string r) ∧ Below w.heap.size w w' := by
  have HB := Aside0.mk (Below.refl w.heap.size w)
  have H : ((spec_l2Byte.f (Int.tmod a0 256)).bind fun t105 => ((spec_l2Byte.f (Int.tmod (wrap64 (Int.tdiv a0 256)) 256)).bind fun t106 => (if t105.size + t106.size ≤ 9223372036854775807 then ((spec_l2Byte.f (Int.tmod (wrap64 (Int.tdiv a0 65536)) 256)).bind fun t107 => (if (t105 ++ t106).size + t107.size ≤ 9223372036854775807 then ((spec_l2Byte.f (Int.tmod (wrap64 (Int.tdiv a0 16777216)) 256)).bind fun t108 => (if ((t105 ++ t106) ++ t107).size + t108.size ≤ 9223372036854775807 then (some (((t105 ++ t106) ++ t107) ++ t108)) else (none))) else (none))) else (none)))) = some r := h
  clear h
  replace H := Option.bind_eq_some_iff.mp H
  obtain ⟨t105, A20, H⟩ := H
  replace H : ((spec_l2Byte.f (Int.tmod (wrap64 (Int.tdiv a0 256)) 256)).bind fun t106 => (if t105.size + t106.size ≤ 9223372036854775807 then ((spec_l2Byte.f (Int.tmod (wrap64 (Int.tdiv a0 65536)) 256)).bind fun t107 => (if (t105 ++ t106).size + t107.size ≤ 9223372036854775807 then ((spec_l2Byte.f (Int.tmod (wrap64 (Int.tdiv a0 16777216)) 256)).bind fun t108 => (if ((t105 ++ t106) ++ t107).size + t108.size ≤ 9223372036854775807 then (some (((t105 ++ t106) ++ t107) ++ t108)) else (none))) else (none))) else (none))) = some r := H
  have A2 := Aside0.mk A20
  clear A20
  replace H := Option.bind_eq_some_iff.mp H
  obtain ⟨t106, A30, H⟩ := H
  replace H : (if t105.size + t106.size ≤ 9223372036854775807 then ((spec_l2Byte.f (Int.tmod (wrap64 (Int.tdiv a0 65536)) 256)).bind fun t107 => (if (t105 ++ t106).size + t107.size ≤ 9223372036854775807 then ((spec_l2Byte.f (Int.tmod (wrap64 (Int.tdiv a0 16777216)) 256)).bind fun t108 => (if ((t105 ++ t106) ++ t107).size + t108.size ≤ 9223372036854775807 then (some (((t105 ++ t106) ++ t107) ++ t108)) else (none))) else (none))) else (none)) = some r := H
  have A3 := Aside0.mk A30
  clear A30
  by_cases c4 : t105.size + t106.size ≤ 9223372036854775807
  · rw [if_pos c4] at H
    have c4b0 := eq_true c4
    have c4b1 : decide (t105.size + t106.size ≤ 9223372036854775807) = true := decide_eq_true c4
    try have c4b2 : (9223372036854775807 < t105.size + t106.size) = False := eq_false (Nat.not_lt.2 c4)
    replace H := Option.bind_eq_some_iff.mp H
    obtain ⟨t107, A50, H⟩ := H
    replace H : (if (t105 ++ t106).size + t107.size ≤ 9223372036854775807 then ((spec_l2Byte.f (Int.tmod (wrap64 (Int.tdiv a0 16777216)) 256)).bind fun t108 => (if ((t105 ++ t106) ++ t107).size + t108.size ≤ 9223372036854775807 then (some (((t105 ++ t106) ++ t107) ++ t108)) else (none))) else (none)) = some r := H
    have A5 := Aside0.mk A50
    clear A50
    by_cases c6 : (t105 ++ t106).size + t107.size ≤ 9223372036854775807
    · rw [if_pos c6] at H
      have c6b0 := eq_true c6
      have c6b1 : decide ((t105 ++ t106).size + t107.size ≤ 9223372036854775807) = true := decide_eq_true c6
      try have c6b2 : (9223372036854775807 < (t105 ++ t106).size + t107.size) = False := eq_false (Nat.not_lt.2 c6)
      try (have c6b3 := c6b2; simp only [ByteArray.size_append, ByteArray.size_extract, Nat.min_self] at c6b3)
      replace H := Option.bind_eq_some_iff.mp H
      obtain ⟨t108, A70, H⟩ := H
      replace H : (if ((t105 ++ t106) ++ t107).size + t108.size ≤ 9223372036854775807 then (some (((t105 ++ t106) ++ t107) ++ t108)) else (none)) = some r := H
      have A7 := Aside0.mk A70
      clear A70
      by_cases c8 : ((t105 ++ t106) ++ t107).size + t108.size ≤ 9223372036854775807
      · rw [if_pos c8] at H
        have c8b0 := eq_true c8
        have c8b1 : decide (((t105 ++ t106) ++ t107).size + t108.size ≤ 9223372036854775807) = true := decide_eq_true c8
        try have c8b2 : (9223372036854775807 < ((t105 ++ t106) ++ t107).size + t108.size) = False := eq_false (Nat.not_lt.2 c8)
        try (have c8b3 := c8b2; simp only [ByteArray.size_append, ByteArray.size_extract, Nat.min_self] at c8b3)
        obtain rfl := Option.some.inj H
        go_enter Try.func10, Try.ntmps10
        go_wp2_with (first | ((with_reducible refine gate_callee (f := 11) rfl ?_); refine goesL_ (some 5) rfl rfl Try.func11 (by kernel_rfl) rfl #[.int .i64 (Int.tmod a0 256)] rfl (by (try simp only [List.map_toArray, List.map_cons, List.map_nil]); first | done | rfl | (simp only [List.length_drop, List.length_take]; rfl)) ?_; (with_reducible refine (spec_l2Byte.calls (Int.tmod a0 256) t105 _ A2.out).mono ?_); rintro e w9 ⟨rfl, hb⟩; refine ⟨_, rfl, ?_⟩; have n0_ := Aside0.mk (below_step (by repeat (first | (with_reducible first | exact HB.out | apply below_alloc | apply pw_below_drewN | apply below_drew1) | exact HB.out)) hb); clear HB; have HB := n0_; clear n0_; (try clear hb); (try clear hb2); (try clear hk); (try clear hi)) | ((with_reducible refine gate_callee (f := 11) rfl ?_); refine goesL_ (some 9) rfl rfl Try.func11 (by kernel_rfl) rfl #[.int .i64 (Int.tmod (wrap64 (Int.tdiv a0 256)) 256)] rfl (by (try simp only [List.map_toArray, List.map_cons, List.map_nil]); first | done | rfl | (simp only [List.length_drop, List.length_take]; rfl)) ?_; (with_reducible refine (spec_l2Byte.calls (Int.tmod (wrap64 (Int.tdiv a0 256)) 256) t106 _ A3.out).mono ?_); rintro e w10 ⟨rfl, hb⟩; refine ⟨_, rfl, ?_⟩; have n0_ := Aside0.mk (below_step (by repeat (first | (with_reducible first | exact HB.out | apply below_alloc | apply pw_below_drewN | apply below_drew1) | exact HB.out)) hb); clear HB; have HB := n0_; clear n0_; (try clear hb); (try clear hb2); (try clear hk); (try clear hi)) | ((with_reducible refine gate_callee (f := 11) rfl ?_); refine goesL_ (some 14) rfl rfl Try.func11 (by kernel_rfl) rfl #[.int .i64 (Int.tmod (wrap64 (Int.tdiv a0 65536)) 256)] rfl (by (try simp only [List.map_toArray, List.map_cons, List.map_nil]); first | done | rfl | (simp only [List.length_drop, List.length_take]; rfl)) ?_; (with_reducible refine (spec_l2Byte.calls (Int.tmod (wrap64 (Int.tdiv a0 65536)) 256) t107 _ A5.out).mono ?_); rintro e w11 ⟨rfl, hb⟩; refine ⟨_, rfl, ?_⟩; have n0_ := Aside0.mk (below_step (by repeat (first | (with_reducible first | exact HB.out | apply below_alloc | apply pw_below_drewN | apply below_drew1) | exact HB.out)) hb); clear HB; have HB := n0_; clear n0_; (try clear hb); (try clear hb2); (try clear hk); (try clear hi)) | ((with_reducible refine gate_callee (f := 11) rfl ?_); refine goesL_ (some 19) rfl rfl Try.func11 (by kernel_rfl) rfl #[.int .i64 (Int.tmod (wrap64 (Int.tdiv a0 16777216)) 256)] rfl (by (try simp only [List.map_toArray, List.map_cons, List.map_nil]); first | done | rfl | (simp only [List.length_drop, List.length_take]; rfl)) ?_; (with_reducible refine (spec_l2Byte.calls (Int.tmod (wrap64 (Int.tdiv a0 16777216)) 256) t108 _ A7.out).mono ?_); rintro e w12 ⟨rfl, hb⟩; refine ⟨_, rfl, ?_⟩; have n0_ := Aside0.mk (below_step (by repeat (first | (with_reducible first | exact HB.out | apply below_alloc | apply pw_below_drewN | apply below_drew1) | exact HB.out)) hb); clear HB; have HB := n0_; clear n0_; (try clear hb); (try clear hb2); (try clear hk); (try clear hi)))
        go_ret
        exact ⟨by first | rfl | (simp [errW_none, errW_some] <;> rfl) | (simp [*, errW_none, errW_some] <;> rfl), by repeat (first | (with_reducible first | exact HB.out | apply below_alloc | apply pw_below_drewN | apply below_drew1) | exact HB.out)⟩
      · rw [if_neg c8] at H
        exact absurd H (by simp)
    · rw [if_neg c6] at H
      exact absurd H (by simp)
  · rw [if_neg c4] at H
    exact absurd H (by simp)

end Go.Proofs.Ytmfejehhfmaodaa.Z
