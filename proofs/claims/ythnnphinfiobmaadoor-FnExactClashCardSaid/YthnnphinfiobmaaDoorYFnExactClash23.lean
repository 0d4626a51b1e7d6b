/- Own texts, joined. -/
import Derived.Test.YthnnphinfiobmaaDoorYFnExactClash25
import Derived.Test.YthnnphinfiobmaaDoorYFnExactClash26
import Derived.Test.YthnnphinfiobmaaDoorYFnExactClash21
import Derived.WalkLawsBesides
import Derived.Test.YthnnphinfiobmaaDoorYFnExactClash22
import Derived.Deep.LoopGhost
section
namespace Go.Proofs.YthnnphinfiobmaaDoor.Z
open RowKit YthnnphinfiobmaaDoorW.PrintWords YthnnphinfiobmaaDoorW.PrintLast YthnnphinfiobmaaDoorW.PrintMore
attribute [local go_sem] max2_int min2_int max_two min_two max_three min_three max_four min_four
set_option linter.all false
mutual
def impl_changes.l0 : Nat → List (S65) → List (S65) → List (S120) → Option ((List (S120)))
 | 0, _, _, _ => none
 | k + 1, x0, x1, x5 => if (x0.length : Int) > 0 then (impl_changes.j1 k x0 x1 x5 true) else (impl_changes.j1 k x0 x1 x5 (decide ((x1.length : Int) > 0)))
def impl_changes.j1 : Nat → List (S65) → List (S65) → List (S120) → Bool → Option ((List (S120)))
 | 0, _, _, _, _ => none
 | k + 1, x0, x1, x5, x13 => if x13 = true then (if (x1.length : Int) = 0 then (impl_changes.j2 k x0 x1 x5 true) else (if (x0.length : Int) > 0 then (if 0 < (x0.length : Int) then (if 0 < (x1.length : Int) then (impl_changes.j2 k x0 x1 x5 (Op.bytesLess (((rd_T65 x0 0).f0).toList) (((rd_T65 x1 0).f0).toList))) else (none)) else (none)) else (impl_changes.j2 k x0 x1 x5 false))) else (some x5)
def impl_changes.j2 : Nat → List (S65) → List (S65) → List (S120) → Bool → Option ((List (S120)))
 | 0, _, _, _, _ => none
 | k + 1, x0, x1, x5, x43 => if x43 = true then (if 0 < (x0.length : Int) then (if x5.length < 2199023255552 then (if 1 ≤ (x0.length : Int) then (impl_changes.l0 k (x0.drop 1) x1 (x5 ++ [(⟨(rd_T65 x0 0).f0, true, (rd_T65 x0 0).f1, false, (⟨#[]⟩ : ByteArray)⟩ : S120)])) else (none)) else (none)) else (none)) else (if (x0.length : Int) = 0 then (impl_changes.j3 k x0 x1 x5 true) else (if 0 < (x1.length : Int) then (if 0 < (x0.length : Int) then (impl_changes.j3 k x0 x1 x5 (Op.bytesLess (((rd_T65 x1 0).f0).toList) (((rd_T65 x0 0).f0).toList))) else (none)) else (none)))
def impl_changes.j3 : Nat → List (S65) → List (S65) → List (S120) → Bool → Option ((List (S120)))
 | 0, _, _, _, _ => none
 | k + 1, x0, x1, x5, x77 => if x77 = true then (if 0 < (x1.length : Int) then (if x5.length < 2199023255552 then (if 1 ≤ (x1.length : Int) then (impl_changes.l0 k x0 (x1.drop 1) (x5 ++ [(⟨(rd_T65 x1 0).f0, false, (⟨#[]⟩ : ByteArray), true, (rd_T65 x1 0).f1⟩ : S120)])) else (none)) else (none)) else (none)) else (if 0 < (x0.length : Int) then (if 0 < (x1.length : Int) then (if ((rd_T65 x0 0).f1).toList = ((rd_T65 x1 0).f1).toList then (if 1 ≤ (x0.length : Int) then (if 1 ≤ (x1.length : Int) then (impl_changes.l0 k (x0.drop 1) (x1.drop 1) x5) else (none)) else (none)) else (if x5.length < 2199023255552 then (if 1 ≤ (x0.length : Int) then (if 1 ≤ (x1.length : Int) then (impl_changes.l0 k (x0.drop 1) (x1.drop 1) (x5 ++ [(⟨(rd_T65 x0 0).f0, true, (rd_T65 x0 0).f1, true, (rd_T65 x1 0).f1⟩ : S120)])) else (none)) else (none)) else (none))) else (none)) else (none))
end
def impl_changes.f (k : Nat) (l0 : List (S65)) (l1 : List (S65)) : Option ((List (S120))) := impl_changes.l0 k l0 l1 ([] : List (S120))
def impl_changes.T3 : Bool × List (List Nat × List Nat) := (true, [([], []), ([0], [0]), ([1], [1]), ([2], [2]), ([], []), ([4], [4]), ([5], [5]), ([6], [6]), ([3, 7], [3, 7])])
def impl_changes.B3 : List Nat := [0, 1, 3, 7, 0, 16, 48, 112, 255]
theorem impl_changes.tab3 : rtab .any (opsOf Tryd.f79 3) = impl_changes.T3 := by kernel_rfl
theorem impl_changes.bits3 : waitsOk impl_changes.T3.2 impl_changes.B3 = true := by kernel_rfl
def impl_changes.T4 : Bool × List (List Nat × List Nat) := (true, [([], []), ([], []), ([1], [1]), ([2], [2]), ([3], [3]), ([], []), ([5], [5]), ([6], [6]), ([7], [7]), ([], []), ([9], [9]), ([10], [10]), ([11], [11]), ([4, 8, 12], [4, 8, 12]), ([13], [13]), ([0, 14], [0, 14]), ([15, 15, 0, 1, 2, 3, 4, 5, 6, 7, 8, 9, 10, 11, 12, 13, 14, 15], [0, 15])])
def impl_changes.B4 : List Nat := [0, 0, 2, 6, 14, 0, 32, 96, 224, 0, 512, 1536, 3584, 8190, 16382, 32767, 65535]
theorem impl_changes.tab4 : rtab .any (opsOf Tryd.f79 4) = impl_changes.T4 := by kernel_rfl
theorem impl_changes.bits4 : waitsOk impl_changes.T4.2 impl_changes.B4 = true := by kernel_rfl
def impl_changes.T6 : Bool × List (List Nat × List Nat) := (true, [([], []), ([0], [0]), ([1], [1]), ([2], [2]), ([3], [3]), ([4, 3], [3, 4]), ([5, 3], [3, 5]), ([6, 3, 3], [3, 6]), ([7], [7]), ([8, 7], [7, 8]), ([9, 7], [7, 9]), ([10, 7], [7, 10]), ([7], [7]), ([12, 7], [7, 12]), ([13, 7], [7, 13]), ([14, 7], [7, 14]), ([11, 15, 7], [7, 11, 15]), ([7, 16, 3], [3, 7, 16]), ([3, 17], [3, 17]), ([18, 7], [18])])
def impl_changes.B6 : List Nat := [0, 1, 3, 7, 15, 31, 63, 127, 255, 511, 1023, 2047, 255, 4351, 12543, 28927, 65535, 131071, 262143, 524287]
theorem impl_changes.tab6 : rtab .any (opsOf Tryd.f79 6) = impl_changes.T6 := by kernel_rfl
theorem impl_changes.bits6 : waitsOk impl_changes.T6.2 impl_changes.B6 = true := by kernel_rfl
def impl_changes.T7 : Bool × List (List Nat × List Nat) := (true, [([], []), ([], []), ([1], [1]), ([2], [2]), ([3], [3]), ([], []), ([5], [5]), ([6], [6]), ([7], [7]), ([4, 8], [4, 8]), ([9], [9]), ([0, 10], [0, 10]), ([11, 11, 0, 1, 2, 3, 4, 5, 6, 7, 8, 9, 10, 11], [0, 11])])
def impl_changes.B7 : List Nat := [0, 0, 2, 6, 14, 0, 32, 96, 224, 510, 1022, 2047, 4095]
theorem impl_changes.tab7 : rtab .any (opsOf Tryd.f79 7) = impl_changes.T7 := by kernel_rfl
theorem impl_changes.bits7 : waitsOk impl_changes.T7.2 impl_changes.B7 = true := by kernel_rfl
def impl_changes.T9 : Bool × List (List Nat × List Nat) := (true, [([], []), ([0], [0]), ([1], [1]), ([2], [2]), ([3], [3]), ([4, 3], [3, 4]), ([5, 3], [3, 5]), ([6, 3], [3, 6]), ([3], [3]), ([8, 3], [3, 8]), ([9, 3], [3, 9]), ([10, 3], [3, 10]), ([7, 11, 3], [3, 7, 11]), ([3, 12], [3, 12]), ([13, 3], [13])])
def impl_changes.B9 : List Nat := [0, 1, 3, 7, 15, 31, 63, 127, 15, 271, 783, 1807, 4095, 8191, 16383]
theorem impl_changes.tab9 : rtab .any (opsOf Tryd.f79 9) = impl_changes.T9 := by kernel_rfl
theorem impl_changes.bits9 : waitsOk impl_changes.T9.2 impl_changes.B9 = true := by kernel_rfl
def impl_changes.T10 : Bool × List (List Nat × List Nat) := (true, [([], []), ([], []), ([1], [1]), ([2], [2]), ([3], [3]), ([], []), ([5], [5]), ([6], [6]), ([7], [7]), ([4, 8], [4, 8]), ([9], [9]), ([0, 10], [0, 10]), ([11, 11, 0, 1, 2, 3, 4, 5, 6, 7, 8, 9, 10, 11], [0, 11])])
def impl_changes.B10 : List Nat := [0, 0, 2, 6, 14, 0, 32, 96, 224, 510, 1022, 2047, 4095]
theorem impl_changes.tab10 : rtab .any (opsOf Tryd.f79 10) = impl_changes.T10 := by kernel_rfl
theorem impl_changes.bits10 : waitsOk impl_changes.T10.2 impl_changes.B10 = true := by kernel_rfl
set_option maxHeartbeats 8000000 in
set_option maxRecDepth 100000 in
theorem impl_changes.calls (k : Nat) (P0_ : Nat → Prop) (A0 : Option Addr) (c0 : Nat) (l0 : List (S65)) (P1_ : Nat → Prop) (A1 : Option Addr) (c1 : Nat) (l1 : List (S65)) (r : List (S120)) (w : World) (hs0 : Kd.V k65 65 w w.heap.size (fun k_ => P0_ k_) (.slice A0 l0.length c0) l0) (hs1 : Kd.V k65 65 w w.heap.size (fun k_ => P1_ k_) (.slice A1 l1.length c1) l1) (h : impl_changes.f k l0 l1 = some r) :
  Calls Tryd.prog 79 #[.slice A0 l0.length c0, .slice A1 l1.length c1] w fun e w' => ∃ v0_ : Value, e = .returned (v0_) ∧ Kd.R k120 120 w' w.heap.size (fun k_ => (w.heap.size ≤ k_)) v0_ r ∧ Below w.heap.size w w' := by
 have hu120 := Tryd.underlying120; have HO0 := Aside0.mk (show Kd.V k65 65 w w.heap.size (fun k_ => ((P0_ k_ ∨ P1_ k_) ∨ w.heap.size ≤ k_)) (.slice A0 l0.length c0) l0 from Kd.V_mono hs0 (fun k_ hk => .inl (.inl hk))); have HO1 := Aside0.mk (show Kd.V k65 65 w w.heap.size (fun k_ => ((P0_ k_ ∨ P1_ k_) ∨ w.heap.size ≤ k_)) (.slice A1 l1.length c1) l1 from Kd.V_mono hs1 (fun k_ hk => .inl (.inr hk))); have HB := Aside0.mk (Below.refl w.heap.size w); have H : (impl_changes.l0 k l0 l1 ([] : List (S120))) = some r := h; clear h; have H' := Aside0.mk H; clear H
 go_enter Tryd.func79, Tryd.ntmps79
 go_wp2
 go_loopg [0, 1, 5] k (fun kq v0 v1 v5 w' => ∃ (x0_1 : List (S65)) (x1_1 : List (S65)) (x5_1 : List (S120)), Aside0 (impl_changes.l0 kq x0_1 x1_1 x5_1 = some r) ∧ Aside0 (kq ≤ k) ∧ Aside0 (Kd.V k65 65 w' w.heap.size (fun k_ => ((P0_ k_ ∨ P1_ k_) ∨ w.heap.size ≤ k_) ∧ some k_ ≠ (v5 : Value).ownBlock) v0 x0_1) ∧ Aside0 (Kd.V k65 65 w' w.heap.size (fun k_ => ((P0_ k_ ∨ P1_ k_) ∨ w.heap.size ≤ k_) ∧ some k_ ≠ (v5 : Value).ownBlock) v1 x1_1) ∧ Aside0 (Kd.R k120 120 w' w.heap.size (fun k_ => (w.heap.size ≤ k_)) v5 x5_1) ∧ Aside0 (Below w.heap.size w w'))
 case atStart => exact ⟨(l0), (l1), (([] : List (S120))), H', ⟨Nat.le_refl _⟩, ⟨by (with_reducible repeat (first | apply Kd.V_alloc | apply Kd.V_drewN | apply Kd.V_drew)); exact Kd.V_mono HO0.out (fun _ hk => ⟨hk, (by simp [Value.ownBlock])⟩)⟩, ⟨by (with_reducible repeat (first | apply Kd.V_alloc | apply Kd.V_drewN | apply Kd.V_drew)); exact Kd.V_mono HO1.out (fun _ hk => ⟨hk, (by simp [Value.ownBlock])⟩)⟩, ⟨by first | exact Kd.R_nil _ _ _ _ _ | exact Kd.N_nil _ _ _ _ _ | exact Kd.V_nil _ _ _ _ _ | exact Kd.Q_nil _ _ _ _ _ | exact Kd.S_nil _ _ _ _ _⟩, ⟨by repeat (first | (with_reducible first | exact HB.out | apply below_alloc | apply pw_below_drewN | apply below_drew1) | exact HB.out)⟩⟩
 case round =>
  clear H'
  try clear c1
  try clear p2
  obtain ⟨x0_1, x1_1, x5_1, HA, HK1, HO_0, HO_1, HO_5, HB⟩ := hrel
  cases gk with
  | zero => exact absurd HA.out (by simp [impl_changes.l0])
  | succ k1 =>
   have H := HA.out; clear HA; simp only [impl_changes.l0] at H; have HC3 := Aside0.mk H; clear H
   go_upto_region 2 with (fail)
   go_cut [13] (fun v13 wc => ∃ (kq : Nat) (x13_2 : Bool), v13 = .bool x13_2 ∧ Aside0 (impl_changes.j1 kq x0_1 x1_1 x5_1 x13_2 = some r) ∧ Aside0 (kq ≤ k1) ∧ Aside0 (Kd.V k65 65 wc w.heap.size (fun k_ => ((P0_ k_ ∨ P1_ k_) ∨ w.heap.size ≤ k_) ∧ some k_ ≠ (u5 : Value).ownBlock) u0 x0_1) ∧ Aside0 (Kd.V k65 65 wc w.heap.size (fun k_ => ((P0_ k_ ∨ P1_ k_) ∨ w.heap.size ≤ k_) ∧ some k_ ≠ (u5 : Value).ownBlock) u1 x1_1) ∧ Aside0 (Kd.R k120 120 wc w.heap.size (fun k_ => (w.heap.size ≤ k_)) u5 x5_1) ∧ Aside0 (Below w.heap.size w wc))
   case first =>
    have H := HC3.out; clear HC3
    by_cases c4 : (x0_1.length : Int) > 0
    ·rw [if_pos c4] at H; have c4b0 : decide (0 < (x0_1.length : Int)) = true := decide_eq_true c4; have c4b1 : decide (0 < x0_1.length) = true := decide_eq_true (by omega); clear c4; (first | rw [c4b0] | (simp only [i64_w, i32_w]; rw [c4b0]) | skip); have H' := Aside0.mk H; clear H; obtain ⟨Ao5, co5, eo5⟩ := Kd.V_slice HO_0.out; subst eo5
     go_wp2
     go_meet
     case rel => exact ⟨_, (true), zq_3, H', ⟨by have := HK1.out; first | omega | exact Nat.le_refl _⟩, ⟨by (with_reducible repeat (first | apply Kd.V_alloc | apply Kd.V_drewN | apply Kd.V_drew)); exact HO_0.out⟩, ⟨by (with_reducible repeat (first | apply Kd.V_alloc | apply Kd.V_drewN | apply Kd.V_drew)); exact HO_1.out⟩, ⟨by (with_reducible repeat (first | apply Kd.R_alloc | apply Kd.R_drewN | apply Kd.R_drew)); exact HO_5.out⟩, ⟨by repeat (first | (with_reducible first | exact HB.out | apply below_alloc | apply pw_below_drewN | apply below_drew1) | exact HB.out)⟩⟩
    ·rw [if_neg c4] at H; have c4b0 : decide (0 < (x0_1.length : Int)) = false := decide_eq_false c4; have c4b1 : decide (0 < x0_1.length) = false := decide_eq_false (by omega); clear c4; (first | rw [c4b0] | (simp only [i64_w, i32_w]; rw [c4b0]) | skip); have H' := Aside0.mk H; clear H; obtain ⟨Ao6, co6, eo6⟩ := Kd.V_slice HO_0.out; subst eo6; obtain ⟨Ao7, co7, eo7⟩ := Kd.V_slice HO_1.out; subst eo7
     go_wp2
     go_meet
     case rel => exact ⟨_, (decide ((x1_1.length : Int) > 0)), zq_3, H', ⟨by have := HK1.out; first | omega | exact Nat.le_refl _⟩, ⟨by (with_reducible repeat (first | apply Kd.V_alloc | apply Kd.V_drewN | apply Kd.V_drew)); exact HO_0.out⟩, ⟨by (with_reducible repeat (first | apply Kd.V_alloc | apply Kd.V_drewN | apply Kd.V_drew)); exact HO_1.out⟩, ⟨by (with_reducible repeat (first | apply Kd.R_alloc | apply Kd.R_drewN | apply Kd.R_drew)); exact HO_5.out⟩, ⟨by repeat (first | (with_reducible first | exact HB.out | apply below_alloc | apply pw_below_drewN | apply below_drew1) | exact HB.out)⟩⟩
   case rest =>
    clear HC3
    try clear c1
    try clear p2
    try clear c4
    try clear c4b0
    try clear c4b1
    try clear c7
    try clear p2
    obtain ⟨kq, x13_2, rfl, HA, HJ2, HO_0, HO_1, HO_5, HB⟩ := hcut
    cases kq with
    | zero => exact absurd HA.out (by simp [impl_changes.j1])
    | succ kj2 =>
     have H := HA.out; clear HA; simp only [impl_changes.j1] at H
     by_cases c8 : x13_2 = true
     ·subst c8; have H1 : (if (x1_1.length : Int) = 0 then (impl_changes.j2 kj2 x0_1 x1_1 x5_1 true) else (if (x0_1.length : Int) > 0 then (if 0 < (x0_1.length : Int) then (if 0 < (x1_1.length : Int) then (impl_changes.j2 kj2 x0_1 x1_1 x5_1 (Op.bytesLess (((rd_T65 x0_1 0).f0).toList) (((rd_T65 x1_1 0).f0).toList))) else (none)) else (none)) else (impl_changes.j2 kj2 x0_1 x1_1 x5_1 false))) = some r := by rw [if_pos rfl] at H; exact H
      clear H; have H := H1; clear H1; have HC9 := Aside0.mk H; clear H
      go_upto_region 6 with (fail)
      go_cut [43] (fun v43 wc => ∃ (kq : Nat) (x43_8 : Bool), v43 = .bool x43_8 ∧ Aside0 (impl_changes.j2 kq x0_1 x1_1 x5_1 x43_8 = some r) ∧ Aside0 (kq ≤ kj2) ∧ Aside0 (Kd.V k65 65 wc w.heap.size (fun k_ => ((P0_ k_ ∨ P1_ k_) ∨ w.heap.size ≤ k_) ∧ some k_ ≠ (u5 : Value).ownBlock) u0 x0_1) ∧ Aside0 (Kd.V k65 65 wc w.heap.size (fun k_ => ((P0_ k_ ∨ P1_ k_) ∨ w.heap.size ≤ k_) ∧ some k_ ≠ (u5 : Value).ownBlock) u1 x1_1) ∧ Aside0 (Kd.R k120 120 wc w.heap.size (fun k_ => (w.heap.size ≤ k_)) u5 x5_1) ∧ Aside0 (Below w.heap.size w wc))
      case first =>
       have H := HC9.out; clear HC9
       by_cases c10 : (x1_1.length : Int) = 0
       ·rw [if_pos c10] at H; have c10b0 : ((x1_1.length : Int) == 0) = true := beq_iff_eq.mpr c10; have c10b1 : ((x1_1.length : Int) != 0) = false := bne_eq_false_iff_eq.mpr c10; clear c10; (first | rw [c10b0] | (simp only [i64_w, i32_w]; rw [c10b0]) | skip); have H' := Aside0.mk H; clear H
        try go_wp2
        have n0_ := Aside0.mk (Kd.V_drew HO_0.out); have n1_ := Aside0.mk (Kd.V_drew HO_1.out); have n2_ := Aside0.mk (Kd.R_drew HO_5.out); have n3_ := Aside0.mk (below_drew1 HB.out); clear HO_0; clear HO_1; clear HO_5; clear HB; have HO_0 := n0_; have HO_1 := n1_; have HO_5 := n2_; have HB := n3_; clear n0_ n1_ n2_ n3_; obtain ⟨Ao12, co12, eo12⟩ := Kd.V_slice HO_1.out; (first | subst eo12 | (injection eo12 with f1_ f2_ f3_; have f4_ := f1_.symm; have f5_ := f3_.symm; clear f1_ f2_ f3_; subst f4_; subst f5_)); refine start_ (n := 20) (S := fun w' => True) (ds := []) #[false, false, false, false, false, false, false, false, false, false, false, false, false, false, false, false, false, false, false, false] (by kernel_rfl) rfl rfl trivial (fun hHeld => ?_); refine with_tabW impl_changes.tab6 impl_changes.bits6 (fun HT_ HW_ => ?_); generalize wc.drew = w11 at HO_0 HO_1 HO_5 HB hHeld ⊢; refine pq_ (i := 0) (N := some 44) HT_.out ?_; refine pq_ (i := 1) (N := some 45) HT_.out ?_; refine pq_ (i := 2) (N := some 46) HT_.out ?_; refine pq_ (i := 3) (N := some 47) HT_.out ?_; refine pu_ (i := 4) (N := some 48) HT_.out ?_; refine pu_ (i := 5) (N := some 49) HT_.out ?_; refine pu_ (i := 6) (N := some 50) HT_.out ?_; refine pu_ (i := 7) (N := some 51) HT_.out ?_; refine pu_ (i := 8) (N := some 52) HT_.out ?_; refine pu_ (i := 9) (N := some 53) HT_.out ?_; refine pu_ (i := 10) (N := some 54) HT_.out ?_; refine pu_ (i := 11) (N := some 55) HT_.out ?_; refine pu_ (i := 12) (N := some 56) HT_.out ?_; refine pu_ (i := 13) (N := some 57) HT_.out ?_; refine pu_ (i := 14) (N := some 58) HT_.out ?_; refine pu_ (i := 15) (N := some 59) HT_.out ?_; refine pu_ (i := 16) (N := some 60) HT_.out ?_; refine pu_ (i := 17) (N := some 61) HT_.out ?_; refine pq_ (i := 18) (N := some 62) HT_.out ?_; refine pq_ (i := 19) (N := some 43) HT_.out ?_; refine done_ (done_of HT_.out (by kernel_rfl)) ?_
        try go_wp2
        go_meet
        case rel => exact ⟨_, (true), zq_3, H', ⟨by have := HK1.out; have := HJ2.out; first | omega | exact Nat.le_refl _⟩, ⟨by (with_reducible repeat (first | apply Kd.V_alloc | apply Kd.V_drewN | apply Kd.V_drew)); exact HO_0.out⟩, ⟨by (with_reducible repeat (first | apply Kd.V_alloc | apply Kd.V_drewN | apply Kd.V_drew)); exact HO_1.out⟩, ⟨by (with_reducible repeat (first | apply Kd.R_alloc | apply Kd.R_drewN | apply Kd.R_drew)); exact HO_5.out⟩, ⟨by repeat (first | (with_reducible first | exact HB.out | apply below_alloc | apply pw_below_drewN | apply below_drew1) | exact HB.out)⟩⟩
       ·rw [if_neg c10] at H; have c10b0 : ((x1_1.length : Int) == 0) = false := beq_eq_false_iff_ne.mpr c10; have c10b1 : ((x1_1.length : Int) != 0) = true := bne_iff_ne.mpr c10; have c10b2 : ¬ (x1_1 = []) := fun h_ => c10 (by rw [h_]; rfl)
        (first | rw [c10b0] | (simp only [i64_w, i32_w]; rw [c10b0]) | skip)
        by_cases c13 : (x0_1.length : Int) > 0
        ·rw [if_pos c13] at H; have c13b0 : decide (0 < (x0_1.length : Int)) = true := decide_eq_true c13; have c13b1 : decide (0 < x0_1.length) = true := decide_eq_true (by omega); clear c13
         by_cases c14 : 0 < (x0_1.length : Int)
         ·rw [if_pos c14] at H; have c14b0 : decide (0 < (x0_1.length : Int)) = true := decide_eq_true c14; have c14b1 : decide (0 < x0_1.length) = true := decide_eq_true (by omega); clear c14
          by_cases c15 : 0 < (x1_1.length : Int)
          ·rw [if_pos c15] at H; have c15b0 : decide (0 < (x1_1.length : Int)) = true := decide_eq_true c15; have c15b1 : decide (0 < x1_1.length) = true := decide_eq_true (by omega); clear c15; have H' := Aside0.mk H; clear H
           try go_wp2
           have n0_ := Aside0.mk (Kd.V_drew HO_0.out); have n1_ := Aside0.mk (Kd.V_drew HO_1.out); have n2_ := Aside0.mk (Kd.R_drew HO_5.out); have n3_ := Aside0.mk (below_drew1 HB.out); clear HO_0; clear HO_1; clear HO_5; clear HB; have HO_0 := n0_; have HO_1 := n1_; have HO_5 := n2_; have HB := n3_; clear n0_ n1_ n2_ n3_; obtain ⟨Ao17, co17, eo17⟩ := Kd.V_slice HO_1.out; (first | subst eo17 | (injection eo17 with f1_ f2_ f3_; have f4_ := f1_.symm; have f5_ := f3_.symm; clear f1_ f2_ f3_; subst f4_; subst f5_)); obtain ⟨Ao18, co18, eo18⟩ := Kd.V_slice HO_0.out; (first | subst eo18 | (injection eo18 with f1_ f2_ f3_; have f4_ := f1_.symm; have f5_ := f3_.symm; clear f1_ f2_ f3_; subst f4_; subst f5_)); have p790001 : 0 ≤ (0 : Int) := (by omega)
           have q790001 : 0 < (x0_1.length : Int) := of_decide_eq_true zq_2; obtain ⟨ad790001, e790001, hx790001_0, hx790001_1⟩ := at_T65 (Kd.V_reads' HO_0.out).2.2 0 p790001 q790001
           cases e790001
           have qi790001 : (0 < x0_1.length) = True := eq_true (by omega); (try rw [show ((0 : Int)).toNat = 0 from rfl] at hx790001_0); (try rw [show 0 * 2 = 0 from rfl] at hx790001_0); (try rw [Addr.add_zero'] at hx790001_0); (try rw [show ((0 : Int)).toNat = 0 from rfl] at hx790001_1); (try rw [show 0 * 2 = 0 from rfl] at hx790001_1); (try rw [Addr.add_zero'] at hx790001_1); replace p790001 := eq_true p790001; replace q790001 := eq_true q790001; have p790002 : 0 ≤ (0 : Int) := (by omega)
           have q790002 : 0 < (x1_1.length : Int) := of_decide_eq_true zq_2; obtain ⟨ad790002, e790002, hx790002_0, hx790002_1⟩ := at_T65 (Kd.V_reads' HO_1.out).2.2 0 p790002 q790002
           cases e790002
           have qi790002 : (0 < x1_1.length) = True := eq_true (by omega); (try rw [show ((0 : Int)).toNat = 0 from rfl] at hx790002_0); (try rw [show 0 * 2 = 0 from rfl] at hx790002_0); (try rw [Addr.add_zero'] at hx790002_0); (try rw [show ((0 : Int)).toNat = 0 from rfl] at hx790002_1); (try rw [show 0 * 2 = 0 from rfl] at hx790002_1); (try rw [Addr.add_zero'] at hx790002_1); replace p790002 := eq_true p790002; replace q790002 := eq_true q790002; refine start_ (n := 20) (S := fun w' => w'.cell? ad790001 = some (.string ((rd_T65 x0_1 0).f0)) ∧ w'.cell? ⟨ad790001.block, ad790001.off + 1, none⟩ = some (.string ((rd_T65 x0_1 0).f1)) ∧ w'.cell? ad790002 = some (.string ((rd_T65 x1_1 0).f0)) ∧ w'.cell? ⟨ad790002.block, ad790002.off + 1, none⟩ = some (.string ((rd_T65 x1_1 0).f1))) (ds := []) #[false, false, false, false, false, false, false, false, false, false, false, false, false, false, false, false, false, false, false, false] (by kernel_rfl) rfl rfl ⟨hx790001_0, hx790001_1, hx790002_0, hx790002_1⟩ (fun hHeld => ?_); refine with_tabW impl_changes.tab6 impl_changes.bits6 (fun HT_ HW_ => ?_); generalize wc.drew = w16 at HO_0 HO_1 HO_5 HB hx790001_0 hx790001_1 hx790002_0 hx790002_1 hHeld ⊢; refine pq_ (i := 0) (N := some 44) HT_.out ?_; refine pq_ (i := 1) (N := some 45) HT_.out ?_; refine pq_ (i := 2) (N := some 46) HT_.out ?_; refine pq_ (i := 3) (N := some 47) HT_.out ?_; refine pq_ (i := 4) (N := some 48) HT_.out ?_; refine pq_ (i := 5) (N := some 49) HT_.out ?_; refine pq_ (i := 6) (N := some 50) HT_.out ?_; refine pq_ (i := 7) (N := some 51) HT_.out ?_; refine pq_ (i := 8) (N := some 52) HT_.out ?_; refine pq_ (i := 9) (N := some 53) HT_.out ?_; refine pq_ (i := 10) (N := some 54) HT_.out ?_; refine pq_ (i := 12) (N := some 56) HT_.out ?_; refine pq_ (i := 13) (N := some 57) HT_.out ?_; refine pq_ (i := 14) (N := some 58) HT_.out ?_; refine tq_ (i := 11) (N := some 55) HT_.out HW_.out hHeld (hy := by rintro w' ⟨s0, s1, s2, s3⟩; go_simp; with_reducible rfl) (h := ?_); refine tq_ (i := 15) (N := some 59) HT_.out HW_.out hHeld (hy := by rintro w' ⟨s0, s1, s2, s3⟩; go_simp; with_reducible rfl) (h := ?_); refine pq_ (i := 16) (N := some 60) HT_.out ?_; refine pq_ (i := 17) (N := some 61) HT_.out ?_; refine pq_ (i := 18) (N := some 62) HT_.out ?_; refine pq_ (i := 19) (N := some 43) HT_.out ?_; refine done_ (done_of HT_.out (by kernel_rfl)) ?_
           try go_wp2
           go_meet
           case rel => exact ⟨_, ((Op.bytesLess (((rd_T65 x0_1 0).f0).toList) (((rd_T65 x1_1 0).f0).toList))), zq_3, H', ⟨by have := HK1.out; have := HJ2.out; first | omega | exact Nat.le_refl _⟩, ⟨by (with_reducible repeat (first | apply Kd.V_alloc | apply Kd.V_drewN | apply Kd.V_drew)); exact HO_0.out⟩, ⟨by (with_reducible repeat (first | apply Kd.V_alloc | apply Kd.V_drewN | apply Kd.V_drew)); exact HO_1.out⟩, ⟨by (with_reducible repeat (first | apply Kd.R_alloc | apply Kd.R_drewN | apply Kd.R_drew)); exact HO_5.out⟩, ⟨by repeat (first | (with_reducible first | exact HB.out | apply below_alloc | apply pw_below_drewN | apply below_drew1) | exact HB.out)⟩⟩
          ·rw [if_neg c15] at H; exact absurd H (by simp)
         ·rw [if_neg c14] at H; exact absurd H (by simp)
        ·rw [if_neg c13] at H; have c13b0 : decide (0 < (x0_1.length : Int)) = false := decide_eq_false c13; have c13b1 : decide (0 < x0_1.length) = false := decide_eq_false (by omega); clear c13; have H' := Aside0.mk H; clear H
         try go_wp2
         have n0_ := Aside0.mk (Kd.V_drew HO_0.out); have n1_ := Aside0.mk (Kd.V_drew HO_1.out); have n2_ := Aside0.mk (Kd.R_drew HO_5.out); have n3_ := Aside0.mk (below_drew1 HB.out); clear HO_0; clear HO_1; clear HO_5; clear HB; have HO_0 := n0_; have HO_1 := n1_; have HO_5 := n2_; have HB := n3_; clear n0_ n1_ n2_ n3_; obtain ⟨Ao20, co20, eo20⟩ := Kd.V_slice HO_1.out; (first | subst eo20 | (injection eo20 with f1_ f2_ f3_; have f4_ := f1_.symm; have f5_ := f3_.symm; clear f1_ f2_ f3_; subst f4_; subst f5_)); obtain ⟨Ao21, co21, eo21⟩ := Kd.V_slice HO_0.out; (first | subst eo21 | (injection eo21 with f1_ f2_ f3_; have f4_ := f1_.symm; have f5_ := f3_.symm; clear f1_ f2_ f3_; subst f4_; subst f5_)); refine start_ (n := 20) (S := fun w' => True) (ds := []) #[false, false, false, false, false, false, false, false, false, false, false, false, false, false, false, false, false, false, false, false] (by kernel_rfl) rfl rfl trivial (fun hHeld => ?_); refine with_tabW impl_changes.tab6 impl_changes.bits6 (fun HT_ HW_ => ?_); generalize wc.drew = w19 at HO_0 HO_1 HO_5 HB hHeld ⊢; refine pq_ (i := 0) (N := some 44) HT_.out ?_; refine pq_ (i := 1) (N := some 45) HT_.out ?_; refine pq_ (i := 2) (N := some 46) HT_.out ?_; refine pq_ (i := 3) (N := some 47) HT_.out ?_; refine pq_ (i := 4) (N := some 48) HT_.out ?_; refine pq_ (i := 5) (N := some 49) HT_.out ?_; refine pq_ (i := 6) (N := some 50) HT_.out ?_; refine pq_ (i := 7) (N := some 51) HT_.out ?_; refine pu_ (i := 8) (N := some 52) HT_.out ?_; refine pu_ (i := 9) (N := some 53) HT_.out ?_; refine pu_ (i := 10) (N := some 54) HT_.out ?_; refine pu_ (i := 11) (N := some 55) HT_.out ?_; refine pu_ (i := 12) (N := some 56) HT_.out ?_; refine pu_ (i := 13) (N := some 57) HT_.out ?_; refine pu_ (i := 14) (N := some 58) HT_.out ?_; refine pu_ (i := 15) (N := some 59) HT_.out ?_; refine pu_ (i := 16) (N := some 60) HT_.out ?_; refine pq_ (i := 17) (N := some 61) HT_.out ?_; refine pq_ (i := 18) (N := some 62) HT_.out ?_; refine pq_ (i := 19) (N := some 43) HT_.out ?_; refine done_ (done_of HT_.out (by kernel_rfl)) ?_
         try go_wp2
         go_meet
         case rel => exact ⟨_, (false), zq_3, H', ⟨by have := HK1.out; have := HJ2.out; first | omega | exact Nat.le_refl _⟩, ⟨by (with_reducible repeat (first | apply Kd.V_alloc | apply Kd.V_drewN | apply Kd.V_drew)); exact HO_0.out⟩, ⟨by (with_reducible repeat (first | apply Kd.V_alloc | apply Kd.V_drewN | apply Kd.V_drew)); exact HO_1.out⟩, ⟨by (with_reducible repeat (first | apply Kd.R_alloc | apply Kd.R_drewN | apply Kd.R_drew)); exact HO_5.out⟩, ⟨by repeat (first | (with_reducible first | exact HB.out | apply below_alloc | apply pw_below_drewN | apply below_drew1) | exact HB.out)⟩⟩
      case rest =>
       clear HC9
       try clear c1
       try clear p2
       try clear c4
       try clear c4b0
       try clear c4b1
       try clear c7
       try clear p7
       try clear q7
       try clear hx7
       try clear qi7
       try clear c8
       try clear c10
       try clear c10b0
       try clear c10b1
       try clear c10b2
       try clear c13
       try clear c13b0
       try clear c13b1
       try clear c14
       try clear c14b0
       try clear c14b1
       try clear c15
       try clear c15b0
       try clear c15b1
       try clear hx790001_0
       try clear hx790001_1
       try clear hx790002_0
       try clear hx790002_1
       try clear p2
       try clear p790001
       try clear p790002
       try clear q790001
       try clear q790002
       obtain ⟨kq, x43_8, rfl, HA, HJ8, HO_0, HO_1, HO_5, HB⟩ := hcut
       cases kq with
       | zero => exact absurd HA.out (by simp [impl_changes.j2])
       | succ kj8 =>
        have H := HA.out; clear HA; simp only [impl_changes.j2] at H
        by_cases c22 : x43_8 = true
        ·subst c22; have H1 : (if 0 < (x0_1.length : Int) then (if x5_1.length < 2199023255552 then (if 1 ≤ (x0_1.length : Int) then (impl_changes.l0 kj8 (x0_1.drop 1) x1_1 (x5_1 ++ [(⟨(rd_T65 x0_1 0).f0, true, (rd_T65 x0_1 0).f1, false, (⟨#[]⟩ : ByteArray)⟩ : S120)])) else (none)) else (none)) else (none)) = some r := by rw [if_pos rfl] at H; exact H
         clear H; have H := H1; clear H1
         by_cases c23 : 0 < (x0_1.length : Int)
         ·rw [if_pos c23] at H; have c23b0 : decide (0 < (x0_1.length : Int)) = true := decide_eq_true c23; have c23b1 : decide (0 < x0_1.length) = true := decide_eq_true (by omega); clear c23
          by_cases c24 : x5_1.length < 2199023255552
          ·rw [if_pos c24] at H; have LMc24 := Aside0.mk c24; clear c24; obtain ⟨y790005, hy790005⟩ : ∃ y_ : List (S120), y_ = (x5_1 ++ [(⟨(rd_T65 x0_1 0).f0, true, (rd_T65 x0_1 0).f1, false, (⟨#[]⟩ : ByteArray)⟩ : S120)]) := ⟨_, rfl⟩
           replace H : (if 1 ≤ (x0_1.length : Int) then (impl_changes.l0 kj8 (x0_1.drop 1) x1_1 y790005) else (none)) = some r := by first | (rw [hy790005]; with_reducible exact H) | (have H2_ := (Option.bind_some _ _).symm.trans H; rw [hy790005]; with_reducible exact H2_) | (have H2_ := (Option.bind_some _ _).symm.trans H; with_reducible exact H2_) | with_reducible exact H | (rw [hy790005]; exact H) | exact H
           have Ny790005 := Aside0.mk hy790005; clear hy790005
           by_cases c25 : 1 ≤ (x0_1.length : Int)
           ·rw [if_pos c25] at H; have c25b0 := eq_true c25; have c25b1 : decide (1 ≤ (x0_1.length : Int)) = true := decide_eq_true c25; clear c25; obtain ⟨y790008, hy790008⟩ : ∃ y_ : List (S65), y_ = (x0_1.drop 1) := ⟨_, rfl⟩
            replace H : (impl_changes.l0 kj8 y790008 x1_1 y790005) = some r := by first | (rw [hy790008]; with_reducible exact H) | (have H2_ := (Option.bind_some _ _).symm.trans H; rw [hy790008]; with_reducible exact H2_) | (have H2_ := (Option.bind_some _ _).symm.trans H; with_reducible exact H2_) | with_reducible exact H | (rw [hy790008]; exact H) | exact H
            have Ny790008 := Aside0.mk hy790008; clear hy790008; have H' := Aside0.mk H; clear H
            try go_wp2
            have n0_ := Aside0.mk (Kd.V_drew HO_0.out); have n1_ := Aside0.mk (Kd.V_drew HO_1.out); have n2_ := Aside0.mk (Kd.R_drew HO_5.out); have n3_ := Aside0.mk (below_drew1 HB.out); clear HO_0; clear HO_1; clear HO_5; clear HB; have HO_0 := n0_; have HO_1 := n1_; have HO_5 := n2_; have HB := n3_; clear n0_ n1_ n2_ n3_; obtain ⟨Ao27, co27, eo27⟩ := Kd.V_slice HO_0.out; (first | subst eo27 | (injection eo27 with f1_ f2_ f3_; have f4_ := f1_.symm; have f5_ := f3_.symm; clear f1_ f2_ f3_; subst f4_; subst f5_)); have p790003 : 0 ≤ (0 : Int) := (by omega)
            have q790003 : 0 < (x0_1.length : Int) := of_decide_eq_true zq_2; obtain ⟨ad790003, e790003, hx790003_0, hx790003_1⟩ := at_T65 (Kd.V_reads' HO_0.out).2.2 0 p790003 q790003
            cases e790003
            have qi790003 : (0 < x0_1.length) = True := eq_true (by omega); (try rw [show ((0 : Int)).toNat = 0 from rfl] at hx790003_0); (try rw [show 0 * 2 = 0 from rfl] at hx790003_0); (try rw [Addr.add_zero'] at hx790003_0); (try rw [show ((0 : Int)).toNat = 0 from rfl] at hx790003_1); (try rw [show 0 * 2 = 0 from rfl] at hx790003_1); (try rw [Addr.add_zero'] at hx790003_1); replace p790003 := eq_true p790003; replace q790003 := eq_true q790003; have p790004 : 0 ≤ (0 : Int) := (by omega)
            have q790004 : 0 < (x0_1.length : Int) := of_decide_eq_true zq_2; obtain ⟨ad790004, e790004, hx790004_0, hx790004_1⟩ := at_T65 (Kd.V_reads' HO_0.out).2.2 0 p790004 q790004; obtain rfl : ad790003 = ad790004 := (by injection e790004)
            have qi790004 : (0 < x0_1.length) = True := eq_true (by omega); (try rw [show ((0 : Int)).toNat = 0 from rfl] at hx790004_0); (try rw [show 0 * 2 = 0 from rfl] at hx790004_0); (try rw [Addr.add_zero'] at hx790004_0); (try rw [show ((0 : Int)).toNat = 0 from rfl] at hx790004_1); (try rw [show 0 * 2 = 0 from rfl] at hx790004_1); (try rw [Addr.add_zero'] at hx790004_1); replace p790004 := eq_true p790004; replace q790004 := eq_true q790004; refine start_ (n := 13) (S := fun w' => w'.cell? ad790003 = some (.string ((rd_T65 x0_1 0).f0)) ∧ w'.cell? ⟨ad790003.block, ad790003.off + 1, none⟩ = some (.string ((rd_T65 x0_1 0).f1)) ∧ w'.cell? ad790003 = some (.string ((rd_T65 x0_1 0).f0)) ∧ w'.cell? ⟨ad790003.block, ad790003.off + 1, none⟩ = some (.string ((rd_T65 x0_1 0).f1))) (ds := [10, 11]) #[false, false, false, false, false, false, false, false, false, false, false, false, false] (by kernel_rfl) rfl rfl ⟨hx790003_0, hx790003_1, hx790004_0, hx790004_1⟩ (fun hHeld => ?_); refine with_tabW impl_changes.tab7 impl_changes.bits7 (fun HT_ HW_ => ?_); generalize wc.drew = w26 at HO_0 HO_1 HO_5 HB hx790003_0 hx790003_1 hx790004_0 hx790004_1 hHeld ⊢; refine pq_ (i := 0) (N := some 63) HT_.out ?_; refine pq_ (i := 1) (N := some 64) HT_.out ?_; refine pq_ (i := 2) (N := some 65) HT_.out ?_; refine pq_ (i := 3) (N := some 66) HT_.out ?_; refine pq_ (i := 5) (N := some 68) HT_.out ?_; refine pq_ (i := 6) (N := some 69) HT_.out ?_; refine pq_ (i := 7) (N := some 70) HT_.out ?_; refine tq_ (i := 4) (N := some 67) HT_.out HW_.out hHeld (hy := by rintro w' ⟨s0, s1, s2, s3⟩; go_simp; with_reducible rfl) (h := ?_); refine tq_ (i := 8) (N := some 71) HT_.out HW_.out hHeld (hy := by rintro w' ⟨s0, s1, s2, s3⟩; go_simp; with_reducible rfl) (h := ?_); refine pq_ (i := 9) (N := some 72) HT_.out ?_; refine last_ (i := 10) (N := some 73) #[true, true, true, true, true, true, true, true, true, true, true, false, false] rfl rfl (one_of HT_.out (by kernel_rfl)) (by decide) (fun K hK => ?_); refine value_ (w1 := ?_) (v := ?_) (by rfl) rfl ?_ ?_; rotate_left 2
            ·go_simp
             constructor
             ·rfl
             ·rfl
            refine hK.out _ _ ?_; clear hK K; refine norm_ (a' := ?_) ?_ ?_; rotate_left
            ·show Act.put _ (some 73) _ = _; simp only [Act.put, List.setIfInBounds_toArray, List.set_cons_zero, List.set_cons_succ, i64_w, i32_w]; rfl
            refine last_ (i := 11) (N := some 74) #[true, true, true, true, true, true, true, true, true, true, true, true, false] rfl rfl (one_of HT_.out (by kernel_rfl)) (by decide) (fun K hK => ?_); refine Kd.R_append_step k120 (w0 := w) w.heap.size (by rfl) (.tmp 63) (.tmp 73) 52 120 (.agg #[(.string ⟨#[]⟩), (.bool false), (.string ⟨#[]⟩), (.bool false), (.string ⟨#[]⟩)]) 64 rfl Tryd.underlying52 info120 rfl (by decide) (by omega) u5 x5_1 (⟨(rd_T65 x0_1 0).f0, true, (rd_T65 x0_1 0).f1, false, (⟨#[]⟩ : ByteArray)⟩ : S120) [.string ((rd_T65 x0_1 0).f0), .bool true, .string ((rd_T65 x0_1 0).f1), .bool false, .string (⟨#[]⟩ : ByteArray)] (fun k_ => (w.heap.size ≤ k_)) (fun _ => False) rfl rfl ?aP (fun _ hk => hk.elim) ?aF ?aO ?aB ?aS ?aL ?_; (case aP => exact k120_mkM _ _ _ (⟨(rd_T65 x0_1 0).f0, true, (rd_T65 x0_1 0).f1, false, (⟨#[]⟩ : ByteArray)⟩ : S120)); (case aB => exact zq_0); (case aF => exact (fun k_ hk => (Nat.le_trans (below_size zq_0) hk))); (case aO => exact zq_23); (case aS => exact (below_size zq_0)); (case aL => have := LMc24.out; omega); intro v790006 w28 ho hb hg hat; rw [← Ny790005.out] at ho; have n0_ := Aside0.mk (Kd.V_afterv (ok := (fun k_ => ((P0_ k_ ∨ P1_ k_) ∨ w.heap.size ≤ k_))) (by (with_reducible repeat (first | apply Kd.V_alloc | apply Kd.V_drewN | apply Kd.V_drew)); exact HO_0.out) hg hat); have n1_ := Aside0.mk (Kd.V_afterv (ok := (fun k_ => ((P0_ k_ ∨ P1_ k_) ∨ w.heap.size ≤ k_))) (by (with_reducible repeat (first | apply Kd.V_alloc | apply Kd.V_drewN | apply Kd.V_drew)); exact HO_1.out) hg hat); have n2_ := Aside0.mk (hb); have n3_ := Aside0.mk (ho); clear HO_0; clear HO_1; clear HB; clear HO_5; have HO_0 := n0_; have HO_1 := n1_; have HB := n2_; have HO790007 := n3_; clear n0_ n1_ n2_ n3_; clear ho hb hg hat; refine hK.out _ _ ?_; clear hK K; refine norm_ (a' := ?_) ?_ ?_; rotate_left
            ·show Act.put _ (some 74) _ = _; simp only [Act.put, List.setIfInBounds_toArray, List.set_cons_zero, List.set_cons_succ, i64_w, i32_w]; rfl
            refine pq_ (i := 12) (N := some 5) HT_.out ?_; refine done_ (done_of HT_.out (by kernel_rfl)) ?_; have q29 : (1 : Int) ≤ ((x0_1.length : Int) : Int) := of_decide_eq_true zq_2; obtain ⟨i029, hi029, _, hsz29, _⟩ := info_parts info65; have hroom29 : x0_1.length ≤ co27 := (Kd.V_reads' HO_0.out).2.1; have hC29 : Kd.F k65 _ _ (some ad790003) x0_1.length x0_1 := (Kd.V_at (base := w.heap.size) HO_0.out).2.2; have hcut29 := cut_from (P := Tryd.prog) 25 65 .i64 Tryd.underlying25 hi029 2 hsz29 (some ad790003) x0_1.length co27 1 (by omega) q29; have hr29 := Kd.F_cut (m := (1 : Int).toNat) (c := co27) hC29 (by omega) hroom29; obtain ⟨A29, hA29⟩ : ∃ Az_, Az_ = (if co27 = (1 : Int).toNat then (some ad790003) else ((some ad790003) : Option Addr).map (·.add ((1 : Int).toNat * 2))) := ⟨_, rfl⟩
            obtain ⟨c29, hc29⟩ : ∃ cz_, cz_ = co27 - (1 : Int).toNat := ⟨_, rfl⟩
            have hy29 : y790008.length = x0_1.length - (1 : Int).toNat := (by rw [Ny790008.out, List.length_drop] <;> omega)
            rw [show (x0_1).drop (1 : Int).toNat = y790008 from Ny790008.out.symm] at hr29; replace hr29 : Kd.F k65 _ _ A29 y790008.length y790008 := (by rw [hA29]; exact hr29)
            rw [← hy29, ← hA29, ← hc29] at hcut29; have HO790012 := Aside0.mk (show Kd.V k65 65 _ w.heap.size _ (.slice A29 y790008.length c29) y790008 from Kd.V_mk (by rw [hy29, hc29]; exact Nat.sub_le_sub_right hroom29 _) hr29); have HC790012 := Aside0.mk (show y790008.length ≤ c29 from by rw [hy29, hc29]; exact Nat.sub_le_sub_right hroom29 _); clear hr29 hC29 hroom29 hi029 hsz29 hc29; have KY29 := Aside0.mk hy29; have KA29 := Aside0.mk hA29; clear hy29 hA29; replace q29 := eq_true q29
            try go_wp2
            go_roundg kj8
            case measure => have := HK1.out; have := HJ2.out; have := HJ8.out; omega
            case rel => exact ⟨(y790008), (x1_1), (y790005), H', ⟨by have := HK1.out; have := HJ2.out; have := HJ8.out; omega⟩, ⟨by (with_reducible repeat (first | apply Kd.V_alloc | apply Kd.V_drewN | apply Kd.V_drew)); exact HO790012.out⟩, ⟨by (with_reducible repeat (first | apply Kd.V_alloc | apply Kd.V_drewN | apply Kd.V_drew)); exact HO_1.out⟩, ⟨by (with_reducible repeat (first | apply Kd.R_alloc | apply Kd.R_drewN | apply Kd.R_drew)); exact HO790007.out⟩, ⟨by repeat (first | (with_reducible first | exact HB.out | apply below_alloc | apply pw_below_drewN | apply below_drew1) | exact HB.out)⟩⟩
           ·rw [if_neg c25] at H; exact absurd H (by simp)
          ·rw [if_neg c24] at H; exact absurd H (by simp)
         ·rw [if_neg c23] at H; exact absurd H (by simp)
        ·replace c22 := Bool.eq_false_iff.mpr c22; subst c22; have H1 : (if (x0_1.length : Int) = 0 then (impl_changes.j3 kj8 x0_1 x1_1 x5_1 true) else (if 0 < (x1_1.length : Int) then (if 0 < (x0_1.length : Int) then (impl_changes.j3 kj8 x0_1 x1_1 x5_1 (Op.bytesLess (((rd_T65 x1_1 0).f0).toList) (((rd_T65 x0_1 0).f0).toList))) else (none)) else (none))) = some r := by rw [if_neg (show ¬ (false = true) by decide)] at H; exact H
         clear H; have H := H1; clear H1; have HC30 := Aside0.mk H; clear H
         go_upto_region 9 with (fail)
         go_cut [77] (fun v77 wc => ∃ (kq : Nat) (x77_29 : Bool), v77 = .bool x77_29 ∧ Aside0 (impl_changes.j3 kq x0_1 x1_1 x5_1 x77_29 = some r) ∧ Aside0 (kq ≤ kj8) ∧ Aside0 (Kd.V k65 65 wc w.heap.size (fun k_ => ((P0_ k_ ∨ P1_ k_) ∨ w.heap.size ≤ k_) ∧ some k_ ≠ (u5 : Value).ownBlock) u0 x0_1) ∧ Aside0 (Kd.V k65 65 wc w.heap.size (fun k_ => ((P0_ k_ ∨ P1_ k_) ∨ w.heap.size ≤ k_) ∧ some k_ ≠ (u5 : Value).ownBlock) u1 x1_1) ∧ Aside0 (Kd.R k120 120 wc w.heap.size (fun k_ => (w.heap.size ≤ k_)) u5 x5_1) ∧ Aside0 (Below w.heap.size w wc))
         case first =>
          have H := HC30.out; clear HC30
          by_cases c31 : (x0_1.length : Int) = 0
          ·rw [if_pos c31] at H; have c31b0 : ((x0_1.length : Int) == 0) = true := beq_iff_eq.mpr c31; have c31b1 : ((x0_1.length : Int) != 0) = false := bne_eq_false_iff_eq.mpr c31; clear c31; (first | rw [c31b0] | (simp only [i64_w, i32_w]; rw [c31b0]) | skip); have H' := Aside0.mk H; clear H
           try go_wp2
           have n0_ := Aside0.mk (Kd.V_drew HO_0.out); have n1_ := Aside0.mk (Kd.V_drew HO_1.out); have n2_ := Aside0.mk (Kd.R_drew HO_5.out); have n3_ := Aside0.mk (below_drew1 HB.out); clear HO_0; clear HO_1; clear HO_5; clear HB; have HO_0 := n0_; have HO_1 := n1_; have HO_5 := n2_; have HB := n3_; clear n0_ n1_ n2_ n3_; obtain ⟨Ao33, co33, eo33⟩ := Kd.V_slice HO_0.out; (first | subst eo33 | (injection eo33 with f1_ f2_ f3_; have f4_ := f1_.symm; have f5_ := f3_.symm; clear f1_ f2_ f3_; subst f4_; subst f5_)); refine start_ (n := 15) (S := fun w' => True) (ds := []) #[false, false, false, false, false, false, false, false, false, false, false, false, false, false, false] (by kernel_rfl) rfl rfl trivial (fun hHeld => ?_); refine with_tabW impl_changes.tab9 impl_changes.bits9 (fun HT_ HW_ => ?_); generalize wc.drew = w32 at HO_0 HO_1 HO_5 HB hHeld ⊢; refine pq_ (i := 0) (N := some 78) HT_.out ?_; refine pq_ (i := 1) (N := some 79) HT_.out ?_; refine pq_ (i := 2) (N := some 80) HT_.out ?_; refine pq_ (i := 3) (N := some 81) HT_.out ?_; refine pu_ (i := 4) (N := some 82) HT_.out ?_; refine pu_ (i := 5) (N := some 83) HT_.out ?_; refine pu_ (i := 6) (N := some 84) HT_.out ?_; refine pu_ (i := 7) (N := some 85) HT_.out ?_; refine pu_ (i := 8) (N := some 86) HT_.out ?_; refine pu_ (i := 9) (N := some 87) HT_.out ?_; refine pu_ (i := 10) (N := some 88) HT_.out ?_; refine pu_ (i := 11) (N := some 89) HT_.out ?_; refine pu_ (i := 12) (N := some 90) HT_.out ?_; refine pq_ (i := 13) (N := some 91) HT_.out ?_; refine pq_ (i := 14) (N := some 77) HT_.out ?_; refine done_ (done_of HT_.out (by kernel_rfl)) ?_
           try go_wp2
           go_meet
           case rel => exact ⟨_, (true), zq_3, H', ⟨by have := HK1.out; have := HJ2.out; have := HJ8.out; first | omega | exact Nat.le_refl _⟩, ⟨by (with_reducible repeat (first | apply Kd.V_alloc | apply Kd.V_drewN | apply Kd.V_drew)); exact HO_0.out⟩, ⟨by (with_reducible repeat (first | apply Kd.V_alloc | apply Kd.V_drewN | apply Kd.V_drew)); exact HO_1.out⟩, ⟨by (with_reducible repeat (first | apply Kd.R_alloc | apply Kd.R_drewN | apply Kd.R_drew)); exact HO_5.out⟩, ⟨by repeat (first | (with_reducible first | exact HB.out | apply below_alloc | apply pw_below_drewN | apply below_drew1) | exact HB.out)⟩⟩
          ·rw [if_neg c31] at H; have c31b0 : ((x0_1.length : Int) == 0) = false := beq_eq_false_iff_ne.mpr c31; have c31b1 : ((x0_1.length : Int) != 0) = true := bne_iff_ne.mpr c31; have c31b2 : ¬ (x0_1 = []) := fun h_ => c31 (by rw [h_]; rfl)
           (first | rw [c31b0] | (simp only [i64_w, i32_w]; rw [c31b0]) | skip)
           by_cases c34 : 0 < (x1_1.length : Int)
           ·rw [if_pos c34] at H; have c34b0 : decide (0 < (x1_1.length : Int)) = true := decide_eq_true c34; have c34b1 : decide (0 < x1_1.length) = true := decide_eq_true (by omega); clear c34
            by_cases c35 : 0 < (x0_1.length : Int)
            ·rw [if_pos c35] at H; have c35b0 : decide (0 < (x0_1.length : Int)) = true := decide_eq_true c35; have c35b1 : decide (0 < x0_1.length) = true := decide_eq_true (by omega); clear c35; have H' := Aside0.mk H; clear H
             try go_wp2
             have n0_ := Aside0.mk (Kd.V_drew HO_0.out); have n1_ := Aside0.mk (Kd.V_drew HO_1.out); have n2_ := Aside0.mk (Kd.R_drew HO_5.out); have n3_ := Aside0.mk (below_drew1 HB.out); clear HO_0; clear HO_1; clear HO_5; clear HB; have HO_0 := n0_; have HO_1 := n1_; have HO_5 := n2_; have HB := n3_; clear n0_ n1_ n2_ n3_; obtain ⟨Ao37, co37, eo37⟩ := Kd.V_slice HO_0.out; (first | subst eo37 | (injection eo37 with f1_ f2_ f3_; have f4_ := f1_.symm; have f5_ := f3_.symm; clear f1_ f2_ f3_; subst f4_; subst f5_)); obtain ⟨Ao38, co38, eo38⟩ := Kd.V_slice HO_1.out; (first | subst eo38 | (injection eo38 with f1_ f2_ f3_; have f4_ := f1_.symm; have f5_ := f3_.symm; clear f1_ f2_ f3_; subst f4_; subst f5_)); have p790013 : 0 ≤ (0 : Int) := (by omega)
             have q790013 : 0 < (x1_1.length : Int) := of_decide_eq_true zq_2; obtain ⟨ad790013, e790013, hx790013_0, hx790013_1⟩ := at_T65 (Kd.V_reads' HO_1.out).2.2 0 p790013 q790013
             cases e790013
             have qi790013 : (0 < x1_1.length) = True := eq_true (by omega); (try rw [show ((0 : Int)).toNat = 0 from rfl] at hx790013_0); (try rw [show 0 * 2 = 0 from rfl] at hx790013_0); (try rw [Addr.add_zero'] at hx790013_0); (try rw [show ((0 : Int)).toNat = 0 from rfl] at hx790013_1); (try rw [show 0 * 2 = 0 from rfl] at hx790013_1); (try rw [Addr.add_zero'] at hx790013_1); replace p790013 := eq_true p790013; replace q790013 := eq_true q790013; have p790014 : 0 ≤ (0 : Int) := (by omega)
             have q790014 : 0 < (x0_1.length : Int) := of_decide_eq_true zq_2; obtain ⟨ad790014, e790014, hx790014_0, hx790014_1⟩ := at_T65 (Kd.V_reads' HO_0.out).2.2 0 p790014 q790014
             cases e790014
             have qi790014 : (0 < x0_1.length) = True := eq_true (by omega); (try rw [show ((0 : Int)).toNat = 0 from rfl] at hx790014_0); (try rw [show 0 * 2 = 0 from rfl] at hx790014_0); (try rw [Addr.add_zero'] at hx790014_0); (try rw [show ((0 : Int)).toNat = 0 from rfl] at hx790014_1); (try rw [show 0 * 2 = 0 from rfl] at hx790014_1); (try rw [Addr.add_zero'] at hx790014_1); replace p790014 := eq_true p790014; replace q790014 := eq_true q790014; refine start_ (n := 15) (S := fun w' => w'.cell? ad790013 = some (.string ((rd_T65 x1_1 0).f0)) ∧ w'.cell? ⟨ad790013.block, ad790013.off + 1, none⟩ = some (.string ((rd_T65 x1_1 0).f1)) ∧ w'.cell? ad790014 = some (.string ((rd_T65 x0_1 0).f0)) ∧ w'.cell? ⟨ad790014.block, ad790014.off + 1, none⟩ = some (.string ((rd_T65 x0_1 0).f1))) (ds := []) #[false, false, false, false, false, false, false, false, false, false, false, false, false, false, false] (by kernel_rfl) rfl rfl ⟨hx790013_0, hx790013_1, hx790014_0, hx790014_1⟩ (fun hHeld => ?_); refine with_tabW impl_changes.tab9 impl_changes.bits9 (fun HT_ HW_ => ?_); generalize wc.drew = w36 at HO_0 HO_1 HO_5 HB hx790013_0 hx790013_1 hx790014_0 hx790014_1 hHeld ⊢; refine pq_ (i := 0) (N := some 78) HT_.out ?_; refine pq_ (i := 1) (N := some 79) HT_.out ?_; refine pq_ (i := 2) (N := some 80) HT_.out ?_; refine pq_ (i := 3) (N := some 81) HT_.out ?_; refine pq_ (i := 4) (N := some 82) HT_.out ?_; refine pq_ (i := 5) (N := some 83) HT_.out ?_; refine pq_ (i := 6) (N := some 84) HT_.out ?_; refine pq_ (i := 8) (N := some 86) HT_.out ?_; refine pq_ (i := 9) (N := some 87) HT_.out ?_; refine pq_ (i := 10) (N := some 88) HT_.out ?_; refine tq_ (i := 7) (N := some 85) HT_.out HW_.out hHeld (hy := by rintro w' ⟨s0, s1, s2, s3⟩; go_simp; with_reducible rfl) (h := ?_); refine tq_ (i := 11) (N := some 89) HT_.out HW_.out hHeld (hy := by rintro w' ⟨s0, s1, s2, s3⟩; go_simp; with_reducible rfl) (h := ?_); refine pq_ (i := 12) (N := some 90) HT_.out ?_; refine pq_ (i := 13) (N := some 91) HT_.out ?_; refine pq_ (i := 14) (N := some 77) HT_.out ?_; refine done_ (done_of HT_.out (by kernel_rfl)) ?_
             try go_wp2
             go_meet
             case rel => exact ⟨_, ((Op.bytesLess (((rd_T65 x1_1 0).f0).toList) (((rd_T65 x0_1 0).f0).toList))), zq_3, H', ⟨by have := HK1.out; have := HJ2.out; have := HJ8.out; first | omega | exact Nat.le_refl _⟩, ⟨by (with_reducible repeat (first | apply Kd.V_alloc | apply Kd.V_drewN | apply Kd.V_drew)); exact HO_0.out⟩, ⟨by (with_reducible repeat (first | apply Kd.V_alloc | apply Kd.V_drewN | apply Kd.V_drew)); exact HO_1.out⟩, ⟨by (with_reducible repeat (first | apply Kd.R_alloc | apply Kd.R_drewN | apply Kd.R_drew)); exact HO_5.out⟩, ⟨by repeat (first | (with_reducible first | exact HB.out | apply below_alloc | apply pw_below_drewN | apply below_drew1) | exact HB.out)⟩⟩
            ·rw [if_neg c35] at H; exact absurd H (by simp)
           ·rw [if_neg c34] at H; exact absurd H (by simp)
         case rest =>
          clear HC30
          try clear c1
          try clear c2
          try clear p2
          try clear q2
          try clear c3
          try clear c4
          try clear c4b0
          try clear c4b1
          try clear c7
          try clear p7
          try clear q7
          try clear hx7
          try clear qi7
          try clear c8
          try clear c10
          try clear c10b0
          try clear c10b1
          try clear c10b2
          try clear c13
          try clear c13b0
          try clear c13b1
          try clear c14
          try clear c14b0
          try clear c14b1
          try clear c15
          try clear c15b0
          try clear c15b1
          try clear c22
          try clear c23
          try clear c23b0
          try clear c23b1
          try clear c24
          try clear c25
          try clear c25b0
          try clear c25b1
          try clear c29
          try clear q29
          try clear c31
          try clear c31b0
          try clear c31b1
          try clear c31b2
          try clear c34
          try clear c34b0
          try clear c34b1
          try clear c35
          try clear c35b0
          try clear c35b1
          try clear hx790001_0
          try clear hx790001_1
          try clear hx790002_0
          try clear hx790002_1
          try clear hx790003_0
          try clear hx790003_1
          try clear hx790004_0
          try clear hx790004_1
          try clear hx790013_0
          try clear hx790013_1
          try clear hx790014_0
          try clear hx790014_1
          try clear p2
          try clear p7
          try clear p790001
          try clear p790002
          try clear p790003
          try clear p790004
          try clear p790013
          try clear p790014
          try clear q29
          try clear q7
          try clear q790001
          try clear q790002
          try clear q790003
          try clear q790004
          try clear q790013
          try clear q790014
          obtain ⟨kq, x77_29, rfl, HA, HJ29, HO_0, HO_1, HO_5, HB⟩ := hcut
          cases kq with
          | zero => exact absurd HA.out (by simp [impl_changes.j3])
          | succ kj29 =>
           have H := HA.out; clear HA; simp only [impl_changes.j3] at H
           by_cases c39 : x77_29 = true
           ·subst c39; have H1 : (if 0 < (x1_1.length : Int) then (if x5_1.length < 2199023255552 then (if 1 ≤ (x1_1.length : Int) then (impl_changes.l0 kj29 x0_1 (x1_1.drop 1) (x5_1 ++ [(⟨(rd_T65 x1_1 0).f0, false, (⟨#[]⟩ : ByteArray), true, (rd_T65 x1_1 0).f1⟩ : S120)])) else (none)) else (none)) else (none)) = some r := by rw [if_pos rfl] at H; exact H
            clear H; have H := H1; clear H1
            by_cases c40 : 0 < (x1_1.length : Int)
            ·rw [if_pos c40] at H; have c40b0 : decide (0 < (x1_1.length : Int)) = true := decide_eq_true c40; have c40b1 : decide (0 < x1_1.length) = true := decide_eq_true (by omega); clear c40
             by_cases c41 : x5_1.length < 2199023255552
             ·rw [if_pos c41] at H; have LMc41 := Aside0.mk c41; clear c41; obtain ⟨y790017, hy790017⟩ : ∃ y_ : List (S120), y_ = (x5_1 ++ [(⟨(rd_T65 x1_1 0).f0, false, (⟨#[]⟩ : ByteArray), true, (rd_T65 x1_1 0).f1⟩ : S120)]) := ⟨_, rfl⟩
              replace H : (if 1 ≤ (x1_1.length : Int) then (impl_changes.l0 kj29 x0_1 (x1_1.drop 1) y790017) else (none)) = some r := by first | (rw [hy790017]; with_reducible exact H) | (have H2_ := (Option.bind_some _ _).symm.trans H; rw [hy790017]; with_reducible exact H2_) | (have H2_ := (Option.bind_some _ _).symm.trans H; with_reducible exact H2_) | with_reducible exact H | (rw [hy790017]; exact H) | exact H
              have Ny790017 := Aside0.mk hy790017; clear hy790017
              by_cases c42 : 1 ≤ (x1_1.length : Int)
              ·rw [if_pos c42] at H; have c42b0 := eq_true c42; have c42b1 : decide (1 ≤ (x1_1.length : Int)) = true := decide_eq_true c42; clear c42; obtain ⟨y790020, hy790020⟩ : ∃ y_ : List (S65), y_ = (x1_1.drop 1) := ⟨_, rfl⟩
               replace H : (impl_changes.l0 kj29 x0_1 y790020 y790017) = some r := by first | (rw [hy790020]; with_reducible exact H) | (have H2_ := (Option.bind_some _ _).symm.trans H; rw [hy790020]; with_reducible exact H2_) | (have H2_ := (Option.bind_some _ _).symm.trans H; with_reducible exact H2_) | with_reducible exact H | (rw [hy790020]; exact H) | exact H
               have Ny790020 := Aside0.mk hy790020; clear hy790020; have H' := Aside0.mk H; clear H
               try go_wp2
               have n0_ := Aside0.mk (Kd.V_drew HO_0.out); have n1_ := Aside0.mk (Kd.V_drew HO_1.out); have n2_ := Aside0.mk (Kd.R_drew HO_5.out); have n3_ := Aside0.mk (below_drew1 HB.out); clear HO_0; clear HO_1; clear HO_5; clear HB; have HO_0 := n0_; have HO_1 := n1_; have HO_5 := n2_; have HB := n3_; clear n0_ n1_ n2_ n3_; obtain ⟨Ao44, co44, eo44⟩ := Kd.V_slice HO_1.out; (first | subst eo44 | (injection eo44 with f1_ f2_ f3_; have f4_ := f1_.symm; have f5_ := f3_.symm; clear f1_ f2_ f3_; subst f4_; subst f5_)); have p790015 : 0 ≤ (0 : Int) := (by omega)
               have q790015 : 0 < (x1_1.length : Int) := of_decide_eq_true zq_2; obtain ⟨ad790015, e790015, hx790015_0, hx790015_1⟩ := at_T65 (Kd.V_reads' HO_1.out).2.2 0 p790015 q790015
               cases e790015
               have qi790015 : (0 < x1_1.length) = True := eq_true (by omega); (try rw [show ((0 : Int)).toNat = 0 from rfl] at hx790015_0); (try rw [show 0 * 2 = 0 from rfl] at hx790015_0); (try rw [Addr.add_zero'] at hx790015_0); (try rw [show ((0 : Int)).toNat = 0 from rfl] at hx790015_1); (try rw [show 0 * 2 = 0 from rfl] at hx790015_1); (try rw [Addr.add_zero'] at hx790015_1); replace p790015 := eq_true p790015; replace q790015 := eq_true q790015; have p790016 : 0 ≤ (0 : Int) := (by omega)
               have q790016 : 0 < (x1_1.length : Int) := of_decide_eq_true zq_2; obtain ⟨ad790016, e790016, hx790016_0, hx790016_1⟩ := at_T65 (Kd.V_reads' HO_1.out).2.2 0 p790016 q790016; obtain rfl : ad790015 = ad790016 := (by injection e790016)
               have qi790016 : (0 < x1_1.length) = True := eq_true (by omega); (try rw [show ((0 : Int)).toNat = 0 from rfl] at hx790016_0); (try rw [show 0 * 2 = 0 from rfl] at hx790016_0); (try rw [Addr.add_zero'] at hx790016_0); (try rw [show ((0 : Int)).toNat = 0 from rfl] at hx790016_1); (try rw [show 0 * 2 = 0 from rfl] at hx790016_1); (try rw [Addr.add_zero'] at hx790016_1); replace p790016 := eq_true p790016; replace q790016 := eq_true q790016; refine start_ (n := 13) (S := fun w' => w'.cell? ad790015 = some (.string ((rd_T65 x1_1 0).f0)) ∧ w'.cell? ⟨ad790015.block, ad790015.off + 1, none⟩ = some (.string ((rd_T65 x1_1 0).f1)) ∧ w'.cell? ad790015 = some (.string ((rd_T65 x1_1 0).f0)) ∧ w'.cell? ⟨ad790015.block, ad790015.off + 1, none⟩ = some (.string ((rd_T65 x1_1 0).f1))) (ds := [10, 11]) #[false, false, false, false, false, false, false, false, false, false, false, false, false] (by kernel_rfl) rfl rfl ⟨hx790015_0, hx790015_1, hx790016_0, hx790016_1⟩ (fun hHeld => ?_); refine with_tabW impl_changes.tab10 impl_changes.bits10 (fun HT_ HW_ => ?_); generalize wc.drew = w43 at HO_0 HO_1 HO_5 HB hx790015_0 hx790015_1 hx790016_0 hx790016_1 hHeld ⊢; refine pq_ (i := 0) (N := some 92) HT_.out ?_; refine pq_ (i := 1) (N := some 93) HT_.out ?_; refine pq_ (i := 2) (N := some 94) HT_.out ?_; refine pq_ (i := 3) (N := some 95) HT_.out ?_; refine pq_ (i := 5) (N := some 97) HT_.out ?_; refine pq_ (i := 6) (N := some 98) HT_.out ?_; refine pq_ (i := 7) (N := some 99) HT_.out ?_; refine tq_ (i := 4) (N := some 96) HT_.out HW_.out hHeld (hy := by rintro w' ⟨s0, s1, s2, s3⟩; go_simp; with_reducible rfl) (h := ?_); refine tq_ (i := 8) (N := some 100) HT_.out HW_.out hHeld (hy := by rintro w' ⟨s0, s1, s2, s3⟩; go_simp; with_reducible rfl) (h := ?_); refine pq_ (i := 9) (N := some 101) HT_.out ?_; refine last_ (i := 10) (N := some 102) #[true, true, true, true, true, true, true, true, true, true, true, false, false] rfl rfl (one_of HT_.out (by kernel_rfl)) (by decide) (fun K hK => ?_); refine value_ (w1 := ?_) (v := ?_) (by rfl) rfl ?_ ?_; rotate_left 2
               ·go_simp
                constructor
                ·rfl
                ·rfl
               refine hK.out _ _ ?_; clear hK K; refine norm_ (a' := ?_) ?_ ?_; rotate_left
               ·show Act.put _ (some 102) _ = _; simp only [Act.put, List.setIfInBounds_toArray, List.set_cons_zero, List.set_cons_succ, i64_w, i32_w]; rfl
               refine last_ (i := 11) (N := some 103) #[true, true, true, true, true, true, true, true, true, true, true, true, false] rfl rfl (one_of HT_.out (by kernel_rfl)) (by decide) (fun K hK => ?_); refine Kd.R_append_step k120 (w0 := w) w.heap.size (by rfl) (.tmp 92) (.tmp 102) 52 120 (.agg #[(.string ⟨#[]⟩), (.bool false), (.string ⟨#[]⟩), (.bool false), (.string ⟨#[]⟩)]) 64 rfl Tryd.underlying52 info120 rfl (by decide) (by omega) u5 x5_1 (⟨(rd_T65 x1_1 0).f0, false, (⟨#[]⟩ : ByteArray), true, (rd_T65 x1_1 0).f1⟩ : S120) [.string ((rd_T65 x1_1 0).f0), .bool false, .string (⟨#[]⟩ : ByteArray), .bool true, .string ((rd_T65 x1_1 0).f1)] (fun k_ => (w.heap.size ≤ k_)) (fun _ => False) rfl rfl ?aP (fun _ hk => hk.elim) ?aF ?aO ?aB ?aS ?aL ?_; (case aP => exact k120_mkM _ _ _ (⟨(rd_T65 x1_1 0).f0, false, (⟨#[]⟩ : ByteArray), true, (rd_T65 x1_1 0).f1⟩ : S120)); (case aB => exact zq_0); (case aF => exact (fun k_ hk => (Nat.le_trans (below_size zq_0) hk))); (case aO => exact zq_23); (case aS => exact (below_size zq_0)); (case aL => have := LMc41.out; omega); intro v790018 w45 ho hb hg hat; rw [← Ny790017.out] at ho; have n0_ := Aside0.mk (Kd.V_afterv (ok := (fun k_ => ((P0_ k_ ∨ P1_ k_) ∨ w.heap.size ≤ k_))) (by (with_reducible repeat (first | apply Kd.V_alloc | apply Kd.V_drewN | apply Kd.V_drew)); exact HO_0.out) hg hat); have n1_ := Aside0.mk (Kd.V_afterv (ok := (fun k_ => ((P0_ k_ ∨ P1_ k_) ∨ w.heap.size ≤ k_))) (by (with_reducible repeat (first | apply Kd.V_alloc | apply Kd.V_drewN | apply Kd.V_drew)); exact HO_1.out) hg hat); have n2_ := Aside0.mk (hb); have n3_ := Aside0.mk (ho); clear HO_0; clear HO_1; clear HB; clear HO_5; have HO_0 := n0_; have HO_1 := n1_; have HB := n2_; have HO790019 := n3_; clear n0_ n1_ n2_ n3_; clear ho hb hg hat; refine hK.out _ _ ?_; clear hK K; refine norm_ (a' := ?_) ?_ ?_; rotate_left
               ·show Act.put _ (some 103) _ = _; simp only [Act.put, List.setIfInBounds_toArray, List.set_cons_zero, List.set_cons_succ, i64_w, i32_w]; rfl
               refine pq_ (i := 12) (N := some 5) HT_.out ?_; refine done_ (done_of HT_.out (by kernel_rfl)) ?_; have q46 : (1 : Int) ≤ ((x1_1.length : Int) : Int) := of_decide_eq_true zq_2; obtain ⟨i046, hi046, _, hsz46, _⟩ := info_parts info65; have hroom46 : x1_1.length ≤ co44 := (Kd.V_reads' HO_1.out).2.1; have hC46 : Kd.F k65 _ _ (some ad790015) x1_1.length x1_1 := (Kd.V_at (base := w.heap.size) HO_1.out).2.2; have hcut46 := cut_from (P := Tryd.prog) 25 65 .i64 Tryd.underlying25 hi046 2 hsz46 (some ad790015) x1_1.length co44 1 (by omega) q46; have hr46 := Kd.F_cut (m := (1 : Int).toNat) (c := co44) hC46 (by omega) hroom46; obtain ⟨A46, hA46⟩ : ∃ Az_, Az_ = (if co44 = (1 : Int).toNat then (some ad790015) else ((some ad790015) : Option Addr).map (·.add ((1 : Int).toNat * 2))) := ⟨_, rfl⟩
               obtain ⟨c46, hc46⟩ : ∃ cz_, cz_ = co44 - (1 : Int).toNat := ⟨_, rfl⟩
               have hy46 : y790020.length = x1_1.length - (1 : Int).toNat := (by rw [Ny790020.out, List.length_drop] <;> omega)
               rw [show (x1_1).drop (1 : Int).toNat = y790020 from Ny790020.out.symm] at hr46; replace hr46 : Kd.F k65 _ _ A46 y790020.length y790020 := (by rw [hA46]; exact hr46)
               rw [← hy46, ← hA46, ← hc46] at hcut46; have HO790024 := Aside0.mk (show Kd.V k65 65 _ w.heap.size _ (.slice A46 y790020.length c46) y790020 from Kd.V_mk (by rw [hy46, hc46]; exact Nat.sub_le_sub_right hroom46 _) hr46); have HC790024 := Aside0.mk (show y790020.length ≤ c46 from by rw [hy46, hc46]; exact Nat.sub_le_sub_right hroom46 _); clear hr46 hC46 hroom46 hi046 hsz46 hc46; have KY46 := Aside0.mk hy46; have KA46 := Aside0.mk hA46; clear hy46 hA46; replace q46 := eq_true q46
               try go_wp2
               go_roundg kj29
               case measure => have := HK1.out; have := HJ2.out; have := HJ8.out; have := HJ29.out; omega
               case rel => exact ⟨(x0_1), (y790020), (y790017), H', ⟨by have := HK1.out; have := HJ2.out; have := HJ8.out; have := HJ29.out; omega⟩, ⟨by (with_reducible repeat (first | apply Kd.V_alloc | apply Kd.V_drewN | apply Kd.V_drew)); exact HO_0.out⟩, ⟨by (with_reducible repeat (first | apply Kd.V_alloc | apply Kd.V_drewN | apply Kd.V_drew)); exact HO790024.out⟩, ⟨by (with_reducible repeat (first | apply Kd.R_alloc | apply Kd.R_drewN | apply Kd.R_drew)); exact HO790019.out⟩, ⟨by repeat (first | (with_reducible first | exact HB.out | apply below_alloc | apply pw_below_drewN | apply below_drew1) | exact HB.out)⟩⟩
              ·rw [if_neg c42] at H; exact absurd H (by simp)
             ·rw [if_neg c41] at H; exact absurd H (by simp)
            ·rw [if_neg c40] at H; exact absurd H (by simp)
           ·replace c39 := Bool.eq_false_iff.mpr c39; subst c39; have H1 : (if 0 < (x0_1.length : Int) then (if 0 < (x1_1.length : Int) then (if ((rd_T65 x0_1 0).f1).toList = ((rd_T65 x1_1 0).f1).toList then (if 1 ≤ (x0_1.length : Int) then (if 1 ≤ (x1_1.length : Int) then (impl_changes.l0 kj29 (x0_1.drop 1) (x1_1.drop 1) x5_1) else (none)) else (none)) else (if x5_1.length < 2199023255552 then (if 1 ≤ (x0_1.length : Int) then (if 1 ≤ (x1_1.length : Int) then (impl_changes.l0 kj29 (x0_1.drop 1) (x1_1.drop 1) (x5_1 ++ [(⟨(rd_T65 x0_1 0).f0, true, (rd_T65 x0_1 0).f1, true, (rd_T65 x1_1 0).f1⟩ : S120)])) else (none)) else (none)) else (none))) else (none)) else (none)) = some r := by rw [if_neg (show ¬ (false = true) by decide)] at H; exact H
            clear H; have H := H1; clear H1
            by_cases c47 : 0 < (x0_1.length : Int)
            ·rw [if_pos c47] at H; have c47b0 : decide (0 < (x0_1.length : Int)) = true := decide_eq_true c47; have c47b1 : decide (0 < x0_1.length) = true := decide_eq_true (by omega); clear c47
             by_cases c48 : 0 < (x1_1.length : Int)
             ·rw [if_pos c48] at H; have c48b0 : decide (0 < (x1_1.length : Int)) = true := decide_eq_true c48; have c48b1 : decide (0 < x1_1.length) = true := decide_eq_true (by omega); clear c48
              by_cases c49 : ((rd_T65 x0_1 0).f1).toList = ((rd_T65 x1_1 0).f1).toList
              ·rw [if_pos c49] at H; have c49b0 : (((rd_T65 x0_1 0).f1).toList == ((rd_T65 x1_1 0).f1).toList) = true := beq_iff_eq.mpr c49; have c49b1 : (((rd_T65 x0_1 0).f1).toList != ((rd_T65 x1_1 0).f1).toList) = false := bne_eq_false_iff_eq.mpr c49; clear c49
               by_cases c50 : 1 ≤ (x0_1.length : Int)
               ·rw [if_pos c50] at H; have c50b0 := eq_true c50; have c50b1 : decide (1 ≤ (x0_1.length : Int)) = true := decide_eq_true c50; clear c50; obtain ⟨y790027, hy790027⟩ : ∃ y_ : List (S65), y_ = (x0_1.drop 1) := ⟨_, rfl⟩
                replace H : (if 1 ≤ (x1_1.length : Int) then (impl_changes.l0 kj29 y790027 (x1_1.drop 1) x5_1) else (none)) = some r := by first | (rw [hy790027]; with_reducible exact H) | (have H2_ := (Option.bind_some _ _).symm.trans H; rw [hy790027]; with_reducible exact H2_) | (have H2_ := (Option.bind_some _ _).symm.trans H; with_reducible exact H2_) | with_reducible exact H | (rw [hy790027]; exact H) | exact H
                have Ny790027 := Aside0.mk hy790027; clear hy790027
                by_cases c51 : 1 ≤ (x1_1.length : Int)
                ·rw [if_pos c51] at H; have c51b0 := eq_true c51; have c51b1 : decide (1 ≤ (x1_1.length : Int)) = true := decide_eq_true c51; clear c51; obtain ⟨y790032, hy790032⟩ : ∃ y_ : List (S65), y_ = (x1_1.drop 1) := ⟨_, rfl⟩
                 replace H : (impl_changes.l0 kj29 y790027 y790032 x5_1) = some r := by first | (rw [hy790032]; with_reducible exact H) | (have H2_ := (Option.bind_some _ _).symm.trans H; rw [hy790032]; with_reducible exact H2_) | (have H2_ := (Option.bind_some _ _).symm.trans H; with_reducible exact H2_) | with_reducible exact H | (rw [hy790032]; exact H) | exact H
                 have Ny790032 := Aside0.mk hy790032; clear hy790032; have H' := Aside0.mk H; clear H
                 try go_wp2
                 have n0_ := Aside0.mk (Kd.V_drew HO_0.out); have n1_ := Aside0.mk (Kd.V_drew HO_1.out); have n2_ := Aside0.mk (Kd.R_drew HO_5.out); have n3_ := Aside0.mk (below_drew1 HB.out); clear HO_0; clear HO_1; clear HO_5; clear HB; have HO_0 := n0_; have HO_1 := n1_; have HO_5 := n2_; have HB := n3_; clear n0_ n1_ n2_ n3_; obtain ⟨Ao53, co53, eo53⟩ := Kd.V_slice HO_0.out; (first | subst eo53 | (injection eo53 with f1_ f2_ f3_; have f4_ := f1_.symm; have f5_ := f3_.symm; clear f1_ f2_ f3_; subst f4_; subst f5_)); have p790025 : 0 ≤ (0 : Int) := (by omega)
                 have q790025 : 0 < (x0_1.length : Int) := of_decide_eq_true zq_2; obtain ⟨ad790025, e790025, hx790025_0, hx790025_1⟩ := at_T65 (Kd.V_reads' HO_0.out).2.2 0 p790025 q790025
                 cases e790025
                 have qi790025 : (0 < x0_1.length) = True := eq_true (by omega); (try rw [show ((0 : Int)).toNat = 0 from rfl] at hx790025_0); (try rw [show 0 * 2 = 0 from rfl] at hx790025_0); (try rw [Addr.add_zero'] at hx790025_0); (try rw [show ((0 : Int)).toNat = 0 from rfl] at hx790025_1); (try rw [show 0 * 2 = 0 from rfl] at hx790025_1); (try rw [Addr.add_zero'] at hx790025_1); replace p790025 := eq_true p790025; replace q790025 := eq_true q790025; obtain ⟨Ao54, co54, eo54⟩ := Kd.V_slice HO_1.out; (first | subst eo54 | (injection eo54 with f1_ f2_ f3_; have f4_ := f1_.symm; have f5_ := f3_.symm; clear f1_ f2_ f3_; subst f4_; subst f5_)); have p790026 : 0 ≤ (0 : Int) := (by omega)
                 have q790026 : 0 < (x1_1.length : Int) := of_decide_eq_true zq_2; obtain ⟨ad790026, e790026, hx790026_0, hx790026_1⟩ := at_T65 (Kd.V_reads' HO_1.out).2.2 0 p790026 q790026
                 cases e790026
                 have qi790026 : (0 < x1_1.length) = True := eq_true (by omega); (try rw [show ((0 : Int)).toNat = 0 from rfl] at hx790026_0); (try rw [show 0 * 2 = 0 from rfl] at hx790026_0); (try rw [Addr.add_zero'] at hx790026_0); (try rw [show ((0 : Int)).toNat = 0 from rfl] at hx790026_1); (try rw [show 0 * 2 = 0 from rfl] at hx790026_1); (try rw [Addr.add_zero'] at hx790026_1); replace p790026 := eq_true p790026; replace q790026 := eq_true q790026; refine start_ (n := 9) (S := fun w' => w'.cell? ad790025 = some (.string ((rd_T65 x0_1 0).f0)) ∧ w'.cell? ⟨ad790025.block, ad790025.off + 1, none⟩ = some (.string ((rd_T65 x0_1 0).f1)) ∧ w'.cell? ad790026 = some (.string ((rd_T65 x1_1 0).f0)) ∧ w'.cell? ⟨ad790026.block, ad790026.off + 1, none⟩ = some (.string ((rd_T65 x1_1 0).f1))) (ds := []) #[false, false, false, false, false, false, false, false, false] (by kernel_rfl) rfl rfl ⟨hx790025_0, hx790025_1, hx790026_0, hx790026_1⟩ (fun hHeld => ?_); refine with_tabW impl_changes.tab3 impl_changes.bits3 (fun HT_ HW_ => ?_); generalize wc.drew = w52 at HO_0 HO_1 HO_5 HB hx790025_0 hx790025_1 hx790026_0 hx790026_1 hHeld ⊢; refine pq_ (i := 0) (N := some 14) HT_.out ?_; refine pq_ (i := 1) (N := some 15) HT_.out ?_; refine pq_ (i := 2) (N := some 16) HT_.out ?_; refine pq_ (i := 4) (N := some 18) HT_.out ?_; refine pq_ (i := 5) (N := some 19) HT_.out ?_; refine pq_ (i := 6) (N := some 20) HT_.out ?_; refine tq_ (i := 3) (N := some 17) HT_.out HW_.out hHeld (hy := by rintro w' ⟨s0, s1, s2, s3⟩; go_simp; with_reducible rfl) (h := ?_); refine tq_ (i := 7) (N := some 21) HT_.out HW_.out hHeld (hy := by rintro w' ⟨s0, s1, s2, s3⟩; go_simp; with_reducible rfl) (h := ?_); refine pq_ (i := 8) (N := some 22) HT_.out ?_; refine done_ (done_of HT_.out (by kernel_rfl)) ?_
                 try go_wp2
                 have n0_ := Aside0.mk (Kd.V_drew HO_0.out); have n1_ := Aside0.mk (Kd.V_drew HO_1.out); have n2_ := Aside0.mk (Kd.R_drew HO_5.out); have n3_ := Aside0.mk (below_drew1 HB.out); clear HO_0; clear HO_1; clear HO_5; clear HB; have HO_0 := n0_; have HO_1 := n1_; have HO_5 := n2_; have HB := n3_; clear n0_ n1_ n2_ n3_; have q56 : (1 : Int) ≤ ((x0_1.length : Int) : Int) := of_decide_eq_true zq_2; obtain ⟨i056, hi056, _, hsz56, _⟩ := info_parts info65; have hroom56 : x0_1.length ≤ co53 := (Kd.V_reads' HO_0.out).2.1; have hC56 : Kd.F k65 _ _ (some ad790025) x0_1.length x0_1 := (Kd.V_at (base := w.heap.size) HO_0.out).2.2; have hcut56 := cut_from (P := Tryd.prog) 25 65 .i64 Tryd.underlying25 hi056 2 hsz56 (some ad790025) x0_1.length co53 1 (by omega) q56; have hr56 := Kd.F_cut (m := (1 : Int).toNat) (c := co53) hC56 (by omega) hroom56; obtain ⟨A56, hA56⟩ : ∃ Az_, Az_ = (if co53 = (1 : Int).toNat then (some ad790025) else ((some ad790025) : Option Addr).map (·.add ((1 : Int).toNat * 2))) := ⟨_, rfl⟩
                 obtain ⟨c56, hc56⟩ : ∃ cz_, cz_ = co53 - (1 : Int).toNat := ⟨_, rfl⟩
                 have hy56 : y790027.length = x0_1.length - (1 : Int).toNat := (by rw [Ny790027.out, List.length_drop] <;> omega)
                 rw [show (x0_1).drop (1 : Int).toNat = y790027 from Ny790027.out.symm] at hr56; replace hr56 : Kd.F k65 _ _ A56 y790027.length y790027 := (by rw [hA56]; exact hr56)
                 rw [← hy56, ← hA56, ← hc56] at hcut56; have HO790031 := Aside0.mk (show Kd.V k65 65 _ w.heap.size _ (.slice A56 y790027.length c56) y790027 from Kd.V_mk (by rw [hy56, hc56]; exact Nat.sub_le_sub_right hroom56 _) hr56); have HC790031 := Aside0.mk (show y790027.length ≤ c56 from by rw [hy56, hc56]; exact Nat.sub_le_sub_right hroom56 _); clear hr56 hC56 hroom56 hi056 hsz56 hc56; have KY56 := Aside0.mk hy56; have KA56 := Aside0.mk hA56; clear hy56 hA56; replace q56 := eq_true q56; have q57 : (1 : Int) ≤ ((x1_1.length : Int) : Int) := of_decide_eq_true zq_2; obtain ⟨i057, hi057, _, hsz57, _⟩ := info_parts info65; have hroom57 : x1_1.length ≤ co54 := (Kd.V_reads' HO_1.out).2.1; have hC57 : Kd.F k65 _ _ (some ad790026) x1_1.length x1_1 := (Kd.V_at (base := w.heap.size) HO_1.out).2.2; have hcut57 := cut_from (P := Tryd.prog) 25 65 .i64 Tryd.underlying25 hi057 2 hsz57 (some ad790026) x1_1.length co54 1 (by omega) q57; have hr57 := Kd.F_cut (m := (1 : Int).toNat) (c := co54) hC57 (by omega) hroom57; obtain ⟨A57, hA57⟩ : ∃ Az_, Az_ = (if co54 = (1 : Int).toNat then (some ad790026) else ((some ad790026) : Option Addr).map (·.add ((1 : Int).toNat * 2))) := ⟨_, rfl⟩
                 obtain ⟨c57, hc57⟩ : ∃ cz_, cz_ = co54 - (1 : Int).toNat := ⟨_, rfl⟩
                 have hy57 : y790032.length = x1_1.length - (1 : Int).toNat := (by rw [Ny790032.out, List.length_drop] <;> omega)
                 rw [show (x1_1).drop (1 : Int).toNat = y790032 from Ny790032.out.symm] at hr57; replace hr57 : Kd.F k65 _ _ A57 y790032.length y790032 := (by rw [hA57]; exact hr57)
                 rw [← hy57, ← hA57, ← hc57] at hcut57; have HO790036 := Aside0.mk (show Kd.V k65 65 _ w.heap.size _ (.slice A57 y790032.length c57) y790032 from Kd.V_mk (by rw [hy57, hc57]; exact Nat.sub_le_sub_right hroom57 _) hr57); have HC790036 := Aside0.mk (show y790032.length ≤ c57 from by rw [hy57, hc57]; exact Nat.sub_le_sub_right hroom57 _); clear hr57 hC57 hroom57 hi057 hsz57 hc57; have KY57 := Aside0.mk hy57; have KA57 := Aside0.mk hA57; clear hy57 hA57; replace q57 := eq_true q57; refine start_ (n := 6) (S := fun w' => True) (ds := []) #[false, false, false, false, false, false] (by kernel_rfl) rfl rfl trivial (fun hHeld => ?_); generalize w52.drew = w55 at HO_0 HO_1 HO_5 HB HO790031 HO790036 hHeld ⊢; refine pure_ (i := 0) (N := some 39) (v := ?_) (a' := ?_) #[true, false, false, false, false, false] rfl rfl (by kernel_rfl) (fun _ _ _ h => h) (Or.inl ⟨by rfl, ?_⟩) ?_ ?_; rotate_left
                 ·intro w'; go_simp
                  with_reducible rfl
                 rotate_left
                 ·simp only [Act.put, List.setIfInBounds_toArray, List.set_cons_zero, List.set_cons_succ, i64_w, i32_w]; rfl
                 refine pure_ (i := 1) (N := some 40) (v := ?_) (a' := ?_) #[true, true, false, false, false, false] rfl rfl (by kernel_rfl) (fun _ _ _ h => h) (Or.inl ⟨by rfl, ?_⟩) ?_ ?_; rotate_left
                 ·intro w'; go_simp
                  with_reducible rfl
                 rotate_left
                 ·simp only [Act.put, List.setIfInBounds_toArray, List.set_cons_zero, List.set_cons_succ, i64_w, i32_w]; rfl
                 refine pure_ (i := 2) (N := some 41) (v := ?_) (a' := ?_) #[true, true, true, false, false, false] rfl rfl (by kernel_rfl) (fun _ _ _ h => h) (Or.inl ⟨by rfl, ?_⟩) ?_ ?_; rotate_left
                 ·intro w'; go_simp
                  with_reducible rfl
                 rotate_left
                 ·simp only [Act.put, List.setIfInBounds_toArray, List.set_cons_zero, List.set_cons_succ, i64_w, i32_w]; rfl
                 refine pure_ (i := 3) (N := some 42) (v := ?_) (a' := ?_) #[true, true, true, true, false, false] rfl rfl (by kernel_rfl) (fun _ _ _ h => h) (Or.inl ⟨by rfl, ?_⟩) ?_ ?_; rotate_left
                 ·intro w'; go_simp
                  with_reducible rfl
                 rotate_left
                 ·simp only [Act.put, List.setIfInBounds_toArray, List.set_cons_zero, List.set_cons_succ, i64_w, i32_w]; rfl
                 refine pure_ (i := 4) (N := some 0) (v := ?_) (a' := ?_) #[true, true, true, true, true, false] rfl rfl (by kernel_rfl) (fun _ _ _ h => h) (Or.inl ⟨by rfl, ?_⟩) ?_ ?_; rotate_left
                 ·intro w'; go_simp
                  with_reducible rfl
                 rotate_left
                 ·simp only [Act.put, List.setIfInBounds_toArray, List.set_cons_zero, List.set_cons_succ, i64_w, i32_w]; rfl
                 refine pure_ (i := 5) (N := some 1) (v := ?_) (a' := ?_) #[true, true, true, true, true, true] rfl rfl (by kernel_rfl) (fun _ _ _ h => h) (Or.inl ⟨by rfl, ?_⟩) ?_ ?_; rotate_left
                 ·intro w'; go_simp
                  with_reducible rfl
                 rotate_left
                 ·simp only [Act.put, List.setIfInBounds_toArray, List.set_cons_zero, List.set_cons_succ, i64_w, i32_w]; rfl
                 refine done_ (by kernel_rfl) ?_
                 try go_wp2
                 go_roundg kj29
                 case measure => have := HK1.out; have := HJ2.out; have := HJ8.out; have := HJ29.out; omega
                 case rel => exact ⟨(y790027), (y790032), (x5_1), H', ⟨by have := HK1.out; have := HJ2.out; have := HJ8.out; have := HJ29.out; omega⟩, ⟨by (with_reducible repeat (first | apply Kd.V_alloc | apply Kd.V_drewN | apply Kd.V_drew)); exact HO790031.out⟩, ⟨by (with_reducible repeat (first | apply Kd.V_alloc | apply Kd.V_drewN | apply Kd.V_drew)); exact HO790036.out⟩, ⟨by (with_reducible repeat (first | apply Kd.R_alloc | apply Kd.R_drewN | apply Kd.R_drew)); exact HO_5.out⟩, ⟨by repeat (first | (with_reducible first | exact HB.out | apply below_alloc | apply pw_below_drewN | apply below_drew1) | exact HB.out)⟩⟩
                ·rw [if_neg c51] at H; exact absurd H (by simp)
               ·rw [if_neg c50] at H; exact absurd H (by simp)
              ·rw [if_neg c49] at H; have c49b0 : (((rd_T65 x0_1 0).f1).toList == ((rd_T65 x1_1 0).f1).toList) = false := beq_eq_false_iff_ne.mpr c49; have c49b1 : (((rd_T65 x0_1 0).f1).toList != ((rd_T65 x1_1 0).f1).toList) = true := bne_iff_ne.mpr c49
               by_cases c58 : x5_1.length < 2199023255552
               ·rw [if_pos c58] at H; have LMc58 := Aside0.mk c58; clear c58; obtain ⟨y790040, hy790040⟩ : ∃ y_ : List (S120), y_ = (x5_1 ++ [(⟨(rd_T65 x0_1 0).f0, true, (rd_T65 x0_1 0).f1, true, (rd_T65 x1_1 0).f1⟩ : S120)]) := ⟨_, rfl⟩
                replace H : (if 1 ≤ (x0_1.length : Int) then (if 1 ≤ (x1_1.length : Int) then (impl_changes.l0 kj29 (x0_1.drop 1) (x1_1.drop 1) y790040) else (none)) else (none)) = some r := by first | (rw [hy790040]; with_reducible exact H) | (have H2_ := (Option.bind_some _ _).symm.trans H; rw [hy790040]; with_reducible exact H2_) | (have H2_ := (Option.bind_some _ _).symm.trans H; with_reducible exact H2_) | with_reducible exact H | (rw [hy790040]; exact H) | exact H
                have Ny790040 := Aside0.mk hy790040; clear hy790040
                by_cases c59 : 1 ≤ (x0_1.length : Int)
                ·rw [if_pos c59] at H; have c59b0 := eq_true c59; have c59b1 : decide (1 ≤ (x0_1.length : Int)) = true := decide_eq_true c59; clear c59; obtain ⟨y790043, hy790043⟩ : ∃ y_ : List (S65), y_ = (x0_1.drop 1) := ⟨_, rfl⟩
                 replace H : (if 1 ≤ (x1_1.length : Int) then (impl_changes.l0 kj29 y790043 (x1_1.drop 1) y790040) else (none)) = some r := by first | (rw [hy790043]; with_reducible exact H) | (have H2_ := (Option.bind_some _ _).symm.trans H; rw [hy790043]; with_reducible exact H2_) | (have H2_ := (Option.bind_some _ _).symm.trans H; with_reducible exact H2_) | with_reducible exact H | (rw [hy790043]; exact H) | exact H
                 have Ny790043 := Aside0.mk hy790043; clear hy790043
                 by_cases c60 : 1 ≤ (x1_1.length : Int)
                 ·rw [if_pos c60] at H; have c60b0 := eq_true c60; have c60b1 : decide (1 ≤ (x1_1.length : Int)) = true := decide_eq_true c60; clear c60; obtain ⟨y790048, hy790048⟩ : ∃ y_ : List (S65), y_ = (x1_1.drop 1) := ⟨_, rfl⟩
                  replace H : (impl_changes.l0 kj29 y790043 y790048 y790040) = some r := by first | (rw [hy790048]; with_reducible exact H) | (have H2_ := (Option.bind_some _ _).symm.trans H; rw [hy790048]; with_reducible exact H2_) | (have H2_ := (Option.bind_some _ _).symm.trans H; with_reducible exact H2_) | with_reducible exact H | (rw [hy790048]; exact H) | exact H
                  have Ny790048 := Aside0.mk hy790048; clear hy790048; have H' := Aside0.mk H; clear H
                  try go_wp2
                  have n0_ := Aside0.mk (Kd.V_drew HO_0.out); have n1_ := Aside0.mk (Kd.V_drew HO_1.out); have n2_ := Aside0.mk (Kd.R_drew HO_5.out); have n3_ := Aside0.mk (below_drew1 HB.out); clear HO_0; clear HO_1; clear HO_5; clear HB; have HO_0 := n0_; have HO_1 := n1_; have HO_5 := n2_; have HB := n3_; clear n0_ n1_ n2_ n3_; obtain ⟨Ao62, co62, eo62⟩ := Kd.V_slice HO_0.out; (first | subst eo62 | (injection eo62 with f1_ f2_ f3_; have f4_ := f1_.symm; have f5_ := f3_.symm; clear f1_ f2_ f3_; subst f4_; subst f5_)); have p790025 : 0 ≤ (0 : Int) := (by omega)
                  have q790025 : 0 < (x0_1.length : Int) := of_decide_eq_true zq_2; obtain ⟨ad790025, e790025, hx790025_0, hx790025_1⟩ := at_T65 (Kd.V_reads' HO_0.out).2.2 0 p790025 q790025
                  cases e790025
                  have qi790025 : (0 < x0_1.length) = True := eq_true (by omega); (try rw [show ((0 : Int)).toNat = 0 from rfl] at hx790025_0); (try rw [show 0 * 2 = 0 from rfl] at hx790025_0); (try rw [Addr.add_zero'] at hx790025_0); (try rw [show ((0 : Int)).toNat = 0 from rfl] at hx790025_1); (try rw [show 0 * 2 = 0 from rfl] at hx790025_1); (try rw [Addr.add_zero'] at hx790025_1); replace p790025 := eq_true p790025; replace q790025 := eq_true q790025; obtain ⟨Ao63, co63, eo63⟩ := Kd.V_slice HO_1.out; (first | subst eo63 | (injection eo63 with f1_ f2_ f3_; have f4_ := f1_.symm; have f5_ := f3_.symm; clear f1_ f2_ f3_; subst f4_; subst f5_)); have p790026 : 0 ≤ (0 : Int) := (by omega)
                  have q790026 : 0 < (x1_1.length : Int) := of_decide_eq_true zq_2; obtain ⟨ad790026, e790026, hx790026_0, hx790026_1⟩ := at_T65 (Kd.V_reads' HO_1.out).2.2 0 p790026 q790026
                  cases e790026
                  have qi790026 : (0 < x1_1.length) = True := eq_true (by omega); (try rw [show ((0 : Int)).toNat = 0 from rfl] at hx790026_0); (try rw [show 0 * 2 = 0 from rfl] at hx790026_0); (try rw [Addr.add_zero'] at hx790026_0); (try rw [show ((0 : Int)).toNat = 0 from rfl] at hx790026_1); (try rw [show 0 * 2 = 0 from rfl] at hx790026_1); (try rw [Addr.add_zero'] at hx790026_1); replace p790026 := eq_true p790026; replace q790026 := eq_true q790026; refine start_ (n := 9) (S := fun w' => w'.cell? ad790025 = some (.string ((rd_T65 x0_1 0).f0)) ∧ w'.cell? ⟨ad790025.block, ad790025.off + 1, none⟩ = some (.string ((rd_T65 x0_1 0).f1)) ∧ w'.cell? ad790026 = some (.string ((rd_T65 x1_1 0).f0)) ∧ w'.cell? ⟨ad790026.block, ad790026.off + 1, none⟩ = some (.string ((rd_T65 x1_1 0).f1))) (ds := []) #[false, false, false, false, false, false, false, false, false] (by kernel_rfl) rfl rfl ⟨hx790025_0, hx790025_1, hx790026_0, hx790026_1⟩ (fun hHeld => ?_); refine with_tabW impl_changes.tab3 impl_changes.bits3 (fun HT_ HW_ => ?_); generalize wc.drew = w61 at HO_0 HO_1 HO_5 HB hx790025_0 hx790025_1 hx790026_0 hx790026_1 hHeld ⊢; refine pq_ (i := 0) (N := some 14) HT_.out ?_; refine pq_ (i := 1) (N := some 15) HT_.out ?_; refine pq_ (i := 2) (N := some 16) HT_.out ?_; refine pq_ (i := 4) (N := some 18) HT_.out ?_; refine pq_ (i := 5) (N := some 19) HT_.out ?_; refine pq_ (i := 6) (N := some 20) HT_.out ?_; refine tq_ (i := 3) (N := some 17) HT_.out HW_.out hHeld (hy := by rintro w' ⟨s0, s1, s2, s3⟩; go_simp; with_reducible rfl) (h := ?_); refine tq_ (i := 7) (N := some 21) HT_.out HW_.out hHeld (hy := by rintro w' ⟨s0, s1, s2, s3⟩; go_simp; with_reducible rfl) (h := ?_); refine pq_ (i := 8) (N := some 22) HT_.out ?_; refine done_ (done_of HT_.out (by kernel_rfl)) ?_
                  try go_wp2
                  have n0_ := Aside0.mk (Kd.V_drew HO_0.out); have n1_ := Aside0.mk (Kd.V_drew HO_1.out); have n2_ := Aside0.mk (Kd.R_drew HO_5.out); have n3_ := Aside0.mk (below_drew1 HB.out); clear HO_0; clear HO_1; clear HO_5; clear HB; have HO_0 := n0_; have HO_1 := n1_; have HO_5 := n2_; have HB := n3_; clear n0_ n1_ n2_ n3_; have p790037 : 0 ≤ (0 : Int) := (by omega)
                  have q790037 : 0 < (x0_1.length : Int) := of_decide_eq_true zq_2; obtain ⟨ad790037, e790037, hx790037_0, hx790037_1⟩ := at_T65 (Kd.V_reads' HO_0.out).2.2 0 p790037 q790037; obtain rfl : ad790025 = ad790037 := (by injection e790037)
                  have qi790037 : (0 < x0_1.length) = True := eq_true (by omega); (try rw [show ((0 : Int)).toNat = 0 from rfl] at hx790037_0); (try rw [show 0 * 2 = 0 from rfl] at hx790037_0); (try rw [Addr.add_zero'] at hx790037_0); (try rw [show ((0 : Int)).toNat = 0 from rfl] at hx790037_1); (try rw [show 0 * 2 = 0 from rfl] at hx790037_1); (try rw [Addr.add_zero'] at hx790037_1); replace p790037 := eq_true p790037; replace q790037 := eq_true q790037; have p790038 : 0 ≤ (0 : Int) := (by omega)
                  have q790038 : 0 < (x0_1.length : Int) := of_decide_eq_true zq_2; obtain ⟨ad790038, e790038, hx790038_0, hx790038_1⟩ := at_T65 (Kd.V_reads' HO_0.out).2.2 0 p790038 q790038; obtain rfl : ad790025 = ad790038 := (by injection e790038)
                  have qi790038 : (0 < x0_1.length) = True := eq_true (by omega); (try rw [show ((0 : Int)).toNat = 0 from rfl] at hx790038_0); (try rw [show 0 * 2 = 0 from rfl] at hx790038_0); (try rw [Addr.add_zero'] at hx790038_0); (try rw [show ((0 : Int)).toNat = 0 from rfl] at hx790038_1); (try rw [show 0 * 2 = 0 from rfl] at hx790038_1); (try rw [Addr.add_zero'] at hx790038_1); replace p790038 := eq_true p790038; replace q790038 := eq_true q790038; have p790039 : 0 ≤ (0 : Int) := (by omega)
                  have q790039 : 0 < (x1_1.length : Int) := of_decide_eq_true zq_2; obtain ⟨ad790039, e790039, hx790039_0, hx790039_1⟩ := at_T65 (Kd.V_reads' HO_1.out).2.2 0 p790039 q790039; obtain rfl : ad790026 = ad790039 := (by injection e790039)
                  have qi790039 : (0 < x1_1.length) = True := eq_true (by omega); (try rw [show ((0 : Int)).toNat = 0 from rfl] at hx790039_0); (try rw [show 0 * 2 = 0 from rfl] at hx790039_0); (try rw [Addr.add_zero'] at hx790039_0); (try rw [show ((0 : Int)).toNat = 0 from rfl] at hx790039_1); (try rw [show 0 * 2 = 0 from rfl] at hx790039_1); (try rw [Addr.add_zero'] at hx790039_1); replace p790039 := eq_true p790039; replace q790039 := eq_true q790039; refine start_ (n := 17) (S := fun w' => w'.cell? ad790025 = some (.string ((rd_T65 x0_1 0).f0)) ∧ w'.cell? ⟨ad790025.block, ad790025.off + 1, none⟩ = some (.string ((rd_T65 x0_1 0).f1)) ∧ w'.cell? ad790025 = some (.string ((rd_T65 x0_1 0).f0)) ∧ w'.cell? ⟨ad790025.block, ad790025.off + 1, none⟩ = some (.string ((rd_T65 x0_1 0).f1)) ∧ w'.cell? ad790026 = some (.string ((rd_T65 x1_1 0).f0)) ∧ w'.cell? ⟨ad790026.block, ad790026.off + 1, none⟩ = some (.string ((rd_T65 x1_1 0).f1))) (ds := [14, 15]) #[false, false, false, false, false, false, false, false, false, false, false, false, false, false, false, false, false] (by kernel_rfl) rfl rfl ⟨hx790037_0, hx790037_1, hx790038_0, hx790038_1, hx790039_0, hx790039_1⟩ (fun hHeld => ?_); refine with_tabW impl_changes.tab4 impl_changes.bits4 (fun HT_ HW_ => ?_); generalize w61.drew = w64 at HO_0 HO_1 HO_5 HB hx790037_0 hx790037_1 hx790038_0 hx790038_1 hx790039_0 hx790039_1 hHeld ⊢; refine pq_ (i := 0) (N := some 23) HT_.out ?_; refine pq_ (i := 1) (N := some 24) HT_.out ?_; refine pq_ (i := 2) (N := some 25) HT_.out ?_; refine pq_ (i := 3) (N := some 26) HT_.out ?_; refine pq_ (i := 5) (N := some 28) HT_.out ?_; refine pq_ (i := 6) (N := some 29) HT_.out ?_; refine pq_ (i := 7) (N := some 30) HT_.out ?_; refine pq_ (i := 9) (N := some 32) HT_.out ?_; refine pq_ (i := 10) (N := some 33) HT_.out ?_; refine pq_ (i := 11) (N := some 34) HT_.out ?_; refine tq_ (i := 4) (N := some 27) HT_.out HW_.out hHeld (hy := by rintro w' ⟨s0, s1, s2, s3, s4, s5⟩; go_simp; with_reducible rfl) (h := ?_); refine tq_ (i := 8) (N := some 31) HT_.out HW_.out hHeld (hy := by rintro w' ⟨s0, s1, s2, s3, s4, s5⟩; go_simp; with_reducible rfl) (h := ?_); refine tq_ (i := 12) (N := some 35) HT_.out HW_.out hHeld (hy := by rintro w' ⟨s0, s1, s2, s3, s4, s5⟩; go_simp; with_reducible rfl) (h := ?_); refine pq_ (i := 13) (N := some 36) HT_.out ?_
                  refine last_ (i := 14) (N := some 37) #[true, true, true, true, true, true, true, true, true, true, true, true, true, true, true, false, false] rfl rfl (one_of HT_.out (by kernel_rfl)) (by decide) (fun K hK => ?_); refine value_ (w1 := ?_) (v := ?_) (by rfl) rfl ?_ ?_; rotate_left 2
                  ·go_simp
                   constructor
                   ·rfl
                   ·rfl
                  refine hK.out _ _ ?_; clear hK K; refine norm_ (a' := ?_) ?_ ?_; rotate_left
                  ·show Act.put _ (some 37) _ = _; simp only [Act.put, List.setIfInBounds_toArray, List.set_cons_zero, List.set_cons_succ, i64_w, i32_w]; rfl
                  refine last_ (i := 15) (N := some 38) #[true, true, true, true, true, true, true, true, true, true, true, true, true, true, true, true, false] rfl rfl (one_of HT_.out (by kernel_rfl)) (by decide) (fun K hK => ?_); refine Kd.R_append_step k120 (w0 := w) w.heap.size (by rfl) (.tmp 23) (.tmp 37) 52 120 (.agg #[(.string ⟨#[]⟩), (.bool false), (.string ⟨#[]⟩), (.bool false), (.string ⟨#[]⟩)]) 64 rfl Tryd.underlying52 info120 rfl (by decide) (by omega) u5 x5_1 (⟨(rd_T65 x0_1 0).f0, true, (rd_T65 x0_1 0).f1, true, (rd_T65 x1_1 0).f1⟩ : S120) [.string ((rd_T65 x0_1 0).f0), .bool true, .string ((rd_T65 x0_1 0).f1), .bool true, .string ((rd_T65 x1_1 0).f1)] (fun k_ => (w.heap.size ≤ k_)) (fun _ => False) rfl rfl ?aP (fun _ hk => hk.elim) ?aF ?aO ?aB ?aS ?aL ?_; (case aP => exact k120_mkM _ _ _ (⟨(rd_T65 x0_1 0).f0, true, (rd_T65 x0_1 0).f1, true, (rd_T65 x1_1 0).f1⟩ : S120)); (case aB => exact zq_0); (case aF => exact (fun k_ hk => (Nat.le_trans (below_size zq_0) hk))); (case aO => exact zq_23); (case aS => exact (below_size zq_0)); (case aL => have := LMc58.out; omega); intro v790041 w65 ho hb hg hat; rw [← Ny790040.out] at ho; have n0_ := Aside0.mk (Kd.V_afterv (ok := (fun k_ => ((P0_ k_ ∨ P1_ k_) ∨ w.heap.size ≤ k_))) (by (with_reducible repeat (first | apply Kd.V_alloc | apply Kd.V_drewN | apply Kd.V_drew)); exact HO_0.out) hg hat); have n1_ := Aside0.mk (Kd.V_afterv (ok := (fun k_ => ((P0_ k_ ∨ P1_ k_) ∨ w.heap.size ≤ k_))) (by (with_reducible repeat (first | apply Kd.V_alloc | apply Kd.V_drewN | apply Kd.V_drew)); exact HO_1.out) hg hat); have n2_ := Aside0.mk (hb); have n3_ := Aside0.mk (ho); clear HO_0; clear HO_1; clear HB; clear HO_5; have HO_0 := n0_; have HO_1 := n1_; have HB := n2_; have HO790042 := n3_; clear n0_ n1_ n2_ n3_; clear ho hb hg hat; refine hK.out _ _ ?_; clear hK K; refine norm_ (a' := ?_) ?_ ?_; rotate_left
                  ·show Act.put _ (some 38) _ = _; simp only [Act.put, List.setIfInBounds_toArray, List.set_cons_zero, List.set_cons_succ, i64_w, i32_w]; rfl
                  refine pq_ (i := 16) (N := some 5) HT_.out ?_; refine done_ (done_of HT_.out (by kernel_rfl)) ?_
                  try go_wp2
                  have n0_ := Aside0.mk (Kd.V_drew HO_0.out); have n1_ := Aside0.mk (Kd.V_drew HO_1.out); have n2_ := Aside0.mk (Kd.R_drew HO790042.out); have n3_ := Aside0.mk (below_drew1 HB.out); clear HO_0; clear HO_1; clear HO790042; clear HB; have HO_0 := n0_; have HO_1 := n1_; have HO790042 := n2_; have HB := n3_; clear n0_ n1_ n2_ n3_; have q67 : (1 : Int) ≤ ((x0_1.length : Int) : Int) := of_decide_eq_true zq_2; obtain ⟨i067, hi067, _, hsz67, _⟩ := info_parts info65; have hroom67 : x0_1.length ≤ co62 := (Kd.V_reads' HO_0.out).2.1; have hC67 : Kd.F k65 _ _ (some ad790025) x0_1.length x0_1 := (Kd.V_at (base := w.heap.size) HO_0.out).2.2; have hcut67 := cut_from (P := Tryd.prog) 25 65 .i64 Tryd.underlying25 hi067 2 hsz67 (some ad790025) x0_1.length co62 1 (by omega) q67; have hr67 := Kd.F_cut (m := (1 : Int).toNat) (c := co62) hC67 (by omega) hroom67; obtain ⟨A67, hA67⟩ : ∃ Az_, Az_ = (if co62 = (1 : Int).toNat then (some ad790025) else ((some ad790025) : Option Addr).map (·.add ((1 : Int).toNat * 2))) := ⟨_, rfl⟩
                  obtain ⟨c67, hc67⟩ : ∃ cz_, cz_ = co62 - (1 : Int).toNat := ⟨_, rfl⟩
                  have hy67 : y790043.length = x0_1.length - (1 : Int).toNat := (by rw [Ny790043.out, List.length_drop] <;> omega)
                  rw [show (x0_1).drop (1 : Int).toNat = y790043 from Ny790043.out.symm] at hr67; replace hr67 : Kd.F k65 _ _ A67 y790043.length y790043 := (by rw [hA67]; exact hr67)
                  rw [← hy67, ← hA67, ← hc67] at hcut67; have HO790047 := Aside0.mk (show Kd.V k65 65 _ w.heap.size _ (.slice A67 y790043.length c67) y790043 from Kd.V_mk (by rw [hy67, hc67]; exact Nat.sub_le_sub_right hroom67 _) hr67); have HC790047 := Aside0.mk (show y790043.length ≤ c67 from by rw [hy67, hc67]; exact Nat.sub_le_sub_right hroom67 _); clear hr67 hC67 hroom67 hi067 hsz67 hc67; have KY67 := Aside0.mk hy67; have KA67 := Aside0.mk hA67; clear hy67 hA67; replace q67 := eq_true q67; have q68 : (1 : Int) ≤ ((x1_1.length : Int) : Int) := of_decide_eq_true zq_2; obtain ⟨i068, hi068, _, hsz68, _⟩ := info_parts info65; have hroom68 : x1_1.length ≤ co63 := (Kd.V_reads' HO_1.out).2.1; have hC68 : Kd.F k65 _ _ (some ad790026) x1_1.length x1_1 := (Kd.V_at (base := w.heap.size) HO_1.out).2.2; have hcut68 := cut_from (P := Tryd.prog) 25 65 .i64 Tryd.underlying25 hi068 2 hsz68 (some ad790026) x1_1.length co63 1 (by omega) q68; have hr68 := Kd.F_cut (m := (1 : Int).toNat) (c := co63) hC68 (by omega) hroom68; obtain ⟨A68, hA68⟩ : ∃ Az_, Az_ = (if co63 = (1 : Int).toNat then (some ad790026) else ((some ad790026) : Option Addr).map (·.add ((1 : Int).toNat * 2))) := ⟨_, rfl⟩
                  obtain ⟨c68, hc68⟩ : ∃ cz_, cz_ = co63 - (1 : Int).toNat := ⟨_, rfl⟩
                  have hy68 : y790048.length = x1_1.length - (1 : Int).toNat := (by rw [Ny790048.out, List.length_drop] <;> omega)
                  rw [show (x1_1).drop (1 : Int).toNat = y790048 from Ny790048.out.symm] at hr68; replace hr68 : Kd.F k65 _ _ A68 y790048.length y790048 := (by rw [hA68]; exact hr68)
                  rw [← hy68, ← hA68, ← hc68] at hcut68; have HO790052 := Aside0.mk (show Kd.V k65 65 _ w.heap.size _ (.slice A68 y790048.length c68) y790048 from Kd.V_mk (by rw [hy68, hc68]; exact Nat.sub_le_sub_right hroom68 _) hr68); have HC790052 := Aside0.mk (show y790048.length ≤ c68 from by rw [hy68, hc68]; exact Nat.sub_le_sub_right hroom68 _); clear hr68 hC68 hroom68 hi068 hsz68 hc68; have KY68 := Aside0.mk hy68; have KA68 := Aside0.mk hA68; clear hy68 hA68; replace q68 := eq_true q68; refine start_ (n := 6) (S := fun w' => True) (ds := []) #[false, false, false, false, false, false] (by kernel_rfl) rfl rfl trivial (fun hHeld => ?_); generalize w65.drew = w66 at HO_0 HO_1 HO790042 HB HO790047 HO790052 hHeld ⊢; refine pure_ (i := 0) (N := some 39) (v := ?_) (a' := ?_) #[true, false, false, false, false, false] rfl rfl (by kernel_rfl) (fun _ _ _ h => h) (Or.inl ⟨by rfl, ?_⟩) ?_ ?_; rotate_left
                  ·intro w'; go_simp
                   with_reducible rfl
                  rotate_left
                  ·simp only [Act.put, List.setIfInBounds_toArray, List.set_cons_zero, List.set_cons_succ, i64_w, i32_w]; rfl
                  refine pure_ (i := 1) (N := some 40) (v := ?_) (a' := ?_) #[true, true, false, false, false, false] rfl rfl (by kernel_rfl) (fun _ _ _ h => h) (Or.inl ⟨by rfl, ?_⟩) ?_ ?_; rotate_left
                  ·intro w'; go_simp
                   with_reducible rfl
                  rotate_left
                  ·simp only [Act.put, List.setIfInBounds_toArray, List.set_cons_zero, List.set_cons_succ, i64_w, i32_w]; rfl
                  refine pure_ (i := 2) (N := some 41) (v := ?_) (a' := ?_) #[true, true, true, false, false, false] rfl rfl (by kernel_rfl) (fun _ _ _ h => h) (Or.inl ⟨by rfl, ?_⟩) ?_ ?_; rotate_left
                  ·intro w'; go_simp
                   with_reducible rfl
                  rotate_left
                  ·simp only [Act.put, List.setIfInBounds_toArray, List.set_cons_zero, List.set_cons_succ, i64_w, i32_w]; rfl
                  refine pure_ (i := 3) (N := some 42) (v := ?_) (a' := ?_) #[true, true, true, true, false, false] rfl rfl (by kernel_rfl) (fun _ _ _ h => h) (Or.inl ⟨by rfl, ?_⟩) ?_ ?_; rotate_left
                  ·intro w'; go_simp
                   with_reducible rfl
                  rotate_left
                  ·simp only [Act.put, List.setIfInBounds_toArray, List.set_cons_zero, List.set_cons_succ, i64_w, i32_w]; rfl
                  refine pure_ (i := 4) (N := some 0) (v := ?_) (a' := ?_) #[true, true, true, true, true, false] rfl rfl (by kernel_rfl) (fun _ _ _ h => h) (Or.inl ⟨by rfl, ?_⟩) ?_ ?_; rotate_left
                  ·intro w'; go_simp
                   with_reducible rfl
                  rotate_left
                  ·simp only [Act.put, List.setIfInBounds_toArray, List.set_cons_zero, List.set_cons_succ, i64_w, i32_w]; rfl
                  refine pure_ (i := 5) (N := some 1) (v := ?_) (a' := ?_) #[true, true, true, true, true, true] rfl rfl (by kernel_rfl) (fun _ _ _ h => h) (Or.inl ⟨by rfl, ?_⟩) ?_ ?_; rotate_left
                  ·intro w'; go_simp
                   with_reducible rfl
                  rotate_left
                  ·simp only [Act.put, List.setIfInBounds_toArray, List.set_cons_zero, List.set_cons_succ, i64_w, i32_w]; rfl
                  refine done_ (by kernel_rfl) ?_
                  try go_wp2
                  go_roundg kj29
                  case measure => have := HK1.out; have := HJ2.out; have := HJ8.out; have := HJ29.out; omega
                  case rel => exact ⟨(y790043), (y790048), (y790040), H', ⟨by have := HK1.out; have := HJ2.out; have := HJ8.out; have := HJ29.out; omega⟩, ⟨by (with_reducible repeat (first | apply Kd.V_alloc | apply Kd.V_drewN | apply Kd.V_drew)); exact HO790047.out⟩, ⟨by (with_reducible repeat (first | apply Kd.V_alloc | apply Kd.V_drewN | apply Kd.V_drew)); exact HO790052.out⟩, ⟨by (with_reducible repeat (first | apply Kd.R_alloc | apply Kd.R_drewN | apply Kd.R_drew)); exact HO790042.out⟩, ⟨by repeat (first | (with_reducible first | exact HB.out | apply below_alloc | apply pw_below_drewN | apply below_drew1) | exact HB.out)⟩⟩
                 ·rw [if_neg c60] at H; exact absurd H (by simp)
                ·rw [if_neg c59] at H; exact absurd H (by simp)
               ·rw [if_neg c58] at H; exact absurd H (by simp)
             ·rw [if_neg c48] at H; exact absurd H (by simp)
            ·rw [if_neg c47] at H; exact absurd H (by simp)
     ·replace c8 := Bool.eq_false_iff.mpr c8; subst c8; have H1 : (some x5_1) = some r := by rw [if_neg (show ¬ (false = true) by decide)] at H; exact H
      clear H; have H := H1; clear H1; obtain rfl := Option.some.inj H
      go_wp2
      go_ret
      exact ⟨_, by first | rfl | (simp [errW_none, errW_some] <;> rfl) | (simp [*, errW_none, errW_some] <;> rfl), by (with_reducible repeat (first | apply Kd.R_alloc | apply Kd.R_drewN | apply Kd.R_drew)); exact HO_5.out, by repeat (first | (with_reducible first | exact HB.out | apply below_alloc | apply pw_below_drewN | apply below_drew1) | exact HB.out)⟩
end Go.Proofs.YthnnphinfiobmaaDoor.Z
end
section
namespace Go.Proofs.YthnnphinfiobmaaDoor.Z
open RowKit YthnnphinfiobmaaDoor YthnnphinfiobmaaDoorW.PrintWords YthnnphinfiobmaaDoorW.PrintLast
set_option linter.all false
theorem changes_loop : ∀ (n : Nat) (ps qs : List S65) (acc : List S120) (k : Nat), ps.length + qs.length ≤ n → 4 * n + 4 < k → acc.length + n ≤ 2097152 →
  impl_changes.l0 k ps qs acc = some (acc ++ chgP ps qs) := by
 intro n
 induction n with
 | zero =>
  intro ps qs acc k hn hk ha; obtain ⟨k, rfl⟩ : ∃ j, k = j + 2 := ⟨k - 2, by omega⟩
  have h1 : ps = [] := List.length_eq_zero_iff.1 (by omega); have h2 : qs = [] := List.length_eq_zero_iff.1 (by omega); subst h1; subst h2; simp [impl_changes.l0, impl_changes.j1, chgP]
 | succ n ih =>
  intro ps qs acc k hn hk ha; obtain ⟨k, rfl⟩ : ∃ j, k = j + 4 := ⟨k - 4, by omega⟩
  have ha2 : acc.length < 2199023255552 := by omega
  cases ps with
  | nil =>
   cases qs with
   | nil => simp [impl_changes.l0, impl_changes.j1, chgP]
   | cons q qs =>
    have e := ih [] qs (acc ++ [⟨q.f0, false, ⟨#[]⟩, true, q.f1⟩]) k (by simp only [List.length_cons, List.length_nil] at hn ⊢; omega) (by omega) zq_34; have hr : rd_T65 (q :: qs) 0 = q := rfl; have g1 : (0 : Int) < (qs.length : Int) + 1 := by omega
    have g2 : ¬ ((qs.length : Int) + 1 = 0) := by omega
    have g3 : (1 : Int) ≤ (qs.length : Int) + 1 := by omega
    rw [impl_changes.l0]; simp only [impl_changes.j1, impl_changes.j2, impl_changes.j3, List.length_cons, List.length_nil, Int.natCast_add, Int.cast_ofNat_Int, Int.natCast_succ, gt_iff_lt, g1, g2, g3, ha2, hr, List.drop_one, List.tail_cons, e, chgP]; simp
  | cons p ps =>
   have hr1 : rd_T65 (p :: ps) 0 = p := rfl; have f1 : (0 : Int) < (ps.length : Int) + 1 := by omega
   have f2 : ¬ ((ps.length : Int) + 1 = 0) := by omega
   have f3 : (1 : Int) ≤ (ps.length : Int) + 1 := by omega
   cases qs with
   | nil =>
    have e := ih ps [] (acc ++ [⟨p.f0, true, p.f1, false, ⟨#[]⟩⟩]) (k + 1) (by simp only [List.length_cons, List.length_nil] at hn ⊢; omega) (by omega) zq_34; rw [impl_changes.l0]; simp only [impl_changes.j1, impl_changes.j2, List.length_cons, List.length_nil, Int.natCast_add, Int.cast_ofNat_Int, Int.natCast_succ, gt_iff_lt, f1, f2, f3, ha2, hr1, List.drop_one, List.tail_cons, e, chgP]; simp
   | cons q qs =>
    have hr2 : rd_T65 (q :: qs) 0 = q := rfl; have g1 : (0 : Int) < (qs.length : Int) + 1 := by omega
    have g2 : ¬ ((qs.length : Int) + 1 = 0) := by omega
    have g3 : (1 : Int) ≤ (qs.length : Int) + 1 := by omega
    simp only [List.length_cons] at hn; have e1 := ih ps (q :: qs) (acc ++ [⟨p.f0, true, p.f1, false, ⟨#[]⟩⟩]) (k + 1) (by simp only [List.length_cons]; omega) (by omega) zq_34; have e2 := ih (p :: ps) qs (acc ++ [⟨q.f0, false, ⟨#[]⟩, true, q.f1⟩]) k (by simp only [List.length_cons]; omega) (by omega) zq_34; have e3 := ih ps qs acc k (by omega) (by omega) (by omega); have e4 := ih ps qs (acc ++ [⟨p.f0, true, p.f1, true, q.f1⟩]) k (by omega) (by omega) zq_34; rw [impl_changes.l0]; simp only [impl_changes.j1, impl_changes.j2, impl_changes.j3, List.length_cons, List.length_nil, Int.natCast_add, Int.cast_ofNat_Int, Int.natCast_succ, gt_iff_lt, f1, f2, f3, g1, g2, g3, ha2, hr1, hr2, List.drop_one, List.tail_cons, e1, e2, e3, e4, chgP, ltK, if_true, if_false]
    by_cases h1 : Op.bytesLess p.f0.toList q.f0.toList = true
    ·simp [h1]
    ·by_cases h2 : Op.bytesLess q.f0.toList p.f0.toList = true
     ·simp [h1, h2]
     ·by_cases h3 : p.f1 = q.f1
      ·simp [h1, h2, h3]
      ·simp [h1, h2, h3, listK]
theorem changes_f (ps qs : List S65) (hp : ps.length ≤ 500000) (hq : qs.length ≤ 500000) (k : Nat) (hk : 4000008 < k) : impl_changes.f k ps qs = some (chgP ps qs) := by
 unfold impl_changes.f; have h := changes_loop (ps.length + qs.length) ps qs [] k (by omega) (by omega) (by simp; omega)
 simpa using h
end Go.Proofs.YthnnphinfiobmaaDoor.Z
end
section
namespace Go.Proofs.YthnnphinfiobmaaDoor.Z
open RowKit YthnnphinfiobmaaDoorW.PrintWords YthnnphinfiobmaaDoorW.PrintLast YthnnphinfiobmaaDoorW.PrintMore
attribute [local go_sem] max2_int min2_int max_two min_two max_three min_three max_four min_four
set_option linter.all false
def impl_sameMap.f (k : Nat) (l0 : List (S65)) (l1 : List (S65)) : Option (Bool) := (impl_changes.f k l0 l1).bind fun t500001 => (some ((t500001.length : Int) == 0))
set_option maxHeartbeats 8000000 in
set_option maxRecDepth 100000 in
theorem impl_sameMap.calls (k : Nat) (A0 : Option Addr) (c0 : Nat) (l0 : List (S65)) (A1 : Option Addr) (c1 : Nat) (l1 : List (S65)) (r : Bool) (w : World) (hr0 : Kd.C k65 w A0 l0.length l0) (hc0 : l0.length ≤ c0) (hr1 : Kd.C k65 w A1 l1.length l1) (hc1 : l1.length ≤ c1) (h : impl_sameMap.f k l0 l1 = some r) :
  Calls Tryd.prog 50 #[.slice A0 l0.length c0, .slice A1 l1.length c1] w fun e w' => e = .returned (.bool r) ∧ Below w.heap.size w w' := by
 have HR0 := Aside0.mk hr0; have HC0 := Aside0.mk hc0; clear hr0 hc0; have HR1 := Aside0.mk hr1; have HC1 := Aside0.mk hc1; clear hr1 hc1; have HB := Aside0.mk (Below.refl w.heap.size w); have H : ((impl_changes.f k l0 l1).bind fun t500001 => (some ((t500001.length : Int) == 0))) = some r := h; clear h; replace H := Option.bind_eq_some_iff.mp H; obtain ⟨t500001, A30, H⟩ := H; (try dsimp only at H); have A3 := Aside0.mk A30; clear A30; obtain rfl := Option.some.inj H
 go_enter Tryd.func50, Tryd.ntmps50
 go_wp2_with (first | ((with_reducible refine gate_callee (f := 79) rfl ?_); refine goesL_ (some 7) rfl rfl Tryd.func79 (by kernel_rfl) rfl #[.slice A0 l0.length c0, .slice A1 l1.length c1] rfl zq_1 ?_; (with_reducible refine (impl_changes.calls k (fun k_ => k_ < w.heap.size) _ _ l0 (fun k_ => k_ < w.heap.size) _ _ l1 t500001 _ ?side1 ?side2 A3.out).mono ?_); (case side1 => exact Kd.V_mk HC0.out (Kd.F_below (Kd.C_F k65_heap HR0.out) zq_0)); (case side2 => exact Kd.V_mk HC1.out (Kd.F_below (Kd.C_F k65_heap HR1.out) zq_0)); rintro e w4 ⟨v500002, rfl, ho0, hb⟩; refine ⟨_, rfl, ?_⟩; have n0_ := Aside0.mk (Kd.R_lower (Kd.R_mono (ok' := fun k_ => True) ho0 (fun _ hk_ => trivial)) (below_size zq_0)); have n1_ := Aside0.mk (below_step zq_0 hb); clear HB; have HO500003 := n0_; have HB := n1_; clear n0_ n1_; (try clear hb); (try clear hb2); (try clear hk); (try clear hi); (try clear ho0); obtain ⟨Ao5, co5, eo5⟩ := Kd.R_slice HO500003.out; subst eo5))
 go_ret
 exact ⟨by first | rfl | (simp [errW_none, errW_some] <;> rfl) | (simp [*, errW_none, errW_some] <;> rfl), by repeat (first | (with_reducible first | exact HB.out | apply below_alloc | apply pw_below_drewN | apply below_drew1) | exact HB.out)⟩
end Go.Proofs.YthnnphinfiobmaaDoor.Z
end
section
namespace Go.Proofs.YthnnphinfiobmaaDoor.Z
open RowKit YthnnphinfiobmaaDoor YthnnphinfiobmaaDoorW.PrintWords YthnnphinfiobmaaDoorW.PrintLast
set_option linter.all false
theorem bytes_ext {a b : ByteArray} (h : a.data.toList = b.data.toList) : a = b := ByteArray.ext (Array.toList_inj.mp h)
theorem app_list (a b : ByteArray) : (a ++ b).data.toList = a.data.toList ++ b.data.toList := by simp
theorem size_list (a : ByteArray) : a.data.toList.length = a.size := rfl
theorem u8_inj {m n : Nat} (hm : m < 256) (hn : n < 256) (h : UInt8.ofNat m = UInt8.ofNat n) : m = n := by
 have := congrArg UInt8.toNat h; simp only [UInt8.toNat_ofNat'] at this; omega
theorem byteS_list (x : Int) : (byteS x).data.toList = [UInt8.ofNat x.toNat] := rfl
theorem sized_inj {a b : ByteArray} {x y : List UInt8} (ha : a.size ≤ 65535) (hb : b.size ≤ 65535) (h : (sizedS a).data.toList ++ x = (sizedS b).data.toList ++ y) : a = b ∧ x = y := by
 unfold sizedS at h; simp only [app_list, byteS_list, List.cons_append, List.nil_append, List.cons.injEq, List.append_assoc] at h; obtain ⟨h1, h2, h3⟩ := h; have e1 := u8_inj (by omega) (by omega) h1; have e2 := u8_inj (by omega) (by omega) h2; have e : a.size = b.size := by omega
 obtain ⟨h4, h5⟩ := List.append_inj h3 (by rw [size_list, size_list]; exact e); exact ⟨bytes_ext h4, h5⟩
theorem encNode_inj {k v l r k' v' l' r' : ByteArray} {W : Int} (h1 : nodeOk k v l r W = true) (h2 : nodeOk k' v' l' r' W = true) (h : encNode k v l r W = encNode k' v' l' r' W) : k = k' ∧ v = v' ∧ l = l' ∧ r = r' := by
 unfold encNode at h; rw [if_pos h1, if_pos h2] at h; unfold nodeOk hOk isW at h1 h2; simp only [Bool.and_eq_true, Bool.or_eq_true, decide_eq_true_eq] at h1 h2; have h := congrArg (fun b : ByteArray => b.data.toList) h; simp only [app_list, List.append_assoc] at h; obtain ⟨e1, h⟩ := sized_inj (by omega) (by omega) h; obtain ⟨e2, h⟩ := sized_inj (by omega) (by omega) h; simp only [byteS_list, List.cons_append, List.nil_append, List.cons.injEq] at h; obtain ⟨hf, h⟩ := h; have hfl : ∀ a b : ByteArray, (flagsOf a b).toNat < 256 := fun a b => by unfold flagsOf; split <;> split <;> omega
 have hf := u8_inj (hfl _ _) (hfl _ _) hf; have hz : (l.size = 0 ↔ l'.size = 0) := by
  unfold flagsOf at hf
  split at hf <;> split at hf <;> split at hf <;> split at hf <;> omega
 obtain ⟨e3, e4⟩ := List.append_inj h (by rw [size_list, size_list]; omega); exact ⟨e1, e2, bytes_ext e3, bytes_ext e4⟩
instance : DecidableEq S65 := fun a b => if h : a.f0 = b.f0 ∧ a.f1 = b.f1 then isTrue (by cases a; cases b; simp_all) else isFalse (fun e => h (by rw [e]; exact ⟨rfl, rfl⟩))
def encSh (W : Int) : Sh S65 → ByteArray
 | .nil => ⟨#[]⟩
 | .node p l r => encNode p.f0 p.f1 (hashSh W l) (hashSh W r) W
def clashS (W : Int) : Sh S65 → Sh S65 → ByteArray × ByteArray
 | .node p l r, .node q l' r' => if encSh W (.node p l r) = encSh W (.node q l' r') then (if l.list = l'.list then clashS W r r' else clashS W l l') else (encSh W (.node p l r), encSh W (.node q l' r'))
 | _, _ => (⟨#[]⟩, ⟨#[]⟩)
def okT (t : Sh S65) : Prop := ∀ p ∈ t.list, 1 ≤ p.f0.size ∧ p.f0.size ≤ 256 ∧ p.f1.size ≤ 2000
structure Cl (W : Nat) (a b : Sh S65) : Prop where
 hash : hashSh W a = hashSh W b
 ne : a.list ≠ b.list
 oka : okT a
 okb : okT b
 la : a.list.length ≤ 500
 lb : b.list.length ≤ 500
theorem hashSh_size (W : Nat) (hW : W ≤ 32) (p : S65) (l r : Sh S65) : (hashSh W (.node p l r)).size = W := by
 rw [hashSh, Int.toNat_natCast, ByteArray.size_extract, shaV_size]; omega
theorem hashSh_hOk (W : Nat) (hW : W ≤ 32) (t : Sh S65) : hOk (hashSh W t) W = true := by
 unfold hOk
 cases t with
 | nil => rfl
 | node p l r => rw [hashSh_size W hW]; simp
theorem Cl.nodes {W : Nat} (h1 : 1 ≤ W) (h2 : W ≤ 32) {a b : Sh S65} (h : Cl W a b) : (∃ p l r, a = .node p l r) ∧ ∃ p l r, b = .node p l r := by
 have hh := h.hash; have hn := h.ne
 match a, b with
 | .nil, .nil => exact absurd rfl hn
 | .nil, .node p l r => have := congrArg ByteArray.size hh; rw [hashSh_size W h2] at this; have : (hashSh W (.nil : Sh S65)).size = 0 := rfl; omega
 | .node p l r, .nil => have := congrArg ByteArray.size hh; rw [hashSh_size W h2] at this; have : (hashSh W (.nil : Sh S65)).size = 0 := rfl; omega
 | .node p l r, .node q l' r' => exact ⟨⟨_, _, _, rfl⟩, ⟨_, _, _, rfl⟩⟩
theorem enc_nodeOk {W : Nat} (h1 : 1 ≤ W) (h2 : W ≤ 32) {p : S65} {l r : Sh S65} (h : okT (.node p l r)) : nodeOk p.f0 p.f1 (hashSh W l) (hashSh W r) W = true := by
 have := h p (by simp [Sh.list]); unfold nodeOk isW; rw [hashSh_hOk W h2, hashSh_hOk W h2]; simp only [Bool.and_eq_true, decide_eq_true_eq, Bool.and_true]; omega
theorem Cl.parts {W : Nat} (h1 : 1 ≤ W) (h2 : W ≤ 32) {p q : S65} {l r l' r' : Sh S65} (h : Cl W (.node p l r) (.node q l' r')) (he : encSh W (.node p l r) = encSh W (.node q l' r')) : p = q ∧ hashSh W l = hashSh W l' ∧ hashSh W r = hashSh W r' := by
 obtain ⟨e1, e2, e3, e4⟩ := encNode_inj (enc_nodeOk h1 h2 h.oka) (enc_nodeOk h1 h2 h.okb) he; refine ⟨?_, e3, e4⟩
 cases p; cases q; cases e1; cases e2; rfl
theorem okT_l {p : S65} {l r : Sh S65} (h : okT (.node p l r)) : okT l := fun x hx => h x (by simp [Sh.list, hx])
theorem okT_r {p : S65} {l r : Sh S65} (h : okT (.node p l r)) : okT r := fun x hx => h x (by simp [Sh.list, hx])
theorem len_l {p : S65} {l r : Sh S65} : (Sh.node p l r).list.length = l.list.length + r.list.length + 1 := by simp [Sh.list]; omega
theorem Cl.left {W : Nat} (h1 : 1 ≤ W) (h2 : W ≤ 32) {p q : S65} {l r l' r' : Sh S65} (h : Cl W (.node p l r) (.node q l' r')) (he : encSh W (.node p l r) = encSh W (.node q l' r')) (hl : l.list ≠ l'.list) : Cl W l l' := by
 have ha := h.la; have hb := h.lb; rw [len_l] at ha hb; exact ⟨(h.parts h1 h2 he).2.1, hl, okT_l h.oka, okT_l h.okb, by omega, by omega⟩
theorem Cl.right {W : Nat} (h1 : 1 ≤ W) (h2 : W ≤ 32) {p q : S65} {l r l' r' : Sh S65} (h : Cl W (.node p l r) (.node q l' r')) (he : encSh W (.node p l r) = encSh W (.node q l' r')) (hl : l.list = l'.list) : Cl W r r' := by
 have ha := h.la; have hb := h.lb; rw [len_l] at ha hb; have hp := h.parts h1 h2 he; exact ⟨hp.2.2, fun e => h.ne (by rw [Sh.list, Sh.list, hl, hp.1, e]), okT_r h.oka, okT_r h.okb, by omega, by omega⟩
theorem chgP_nil : ∀ (ps qs : List S65), chgP ps qs = [] ↔ ps = qs
 | [], [] => by simp [chgP]
 | [], q :: qs => by simp [chgP]
 | p :: ps, [] => by simp [chgP]
 | p :: ps, q :: qs => by
  rw [chgP]
  split
  ·rename_i h; simp; intro e; rw [e] at h; rw [ltK_irr] at h; exact absurd h (by decide)
  ·split
   ·rename_i h; simp; intro e; rw [e] at h; rw [ltK_irr] at h; exact absurd h (by decide)
   ·rename_i h1 h2
    have e := ltK_tri (Bool.eq_false_iff.mpr h1) (Bool.eq_false_iff.mpr h2)
    split
    ·rename_i h3; rw [chgP_nil ps qs]; simp; intro _; cases p; cases q; simp_all
    ·rename_i h3; simp; intro e2; rw [e2] at h3; exact absurd rfl h3
theorem sameMap_f (ps qs : List S65) (hp : ps.length ≤ 500000) (hq : qs.length ≤ 500000) (k : Nat) (hk : 4000008 < k) : impl_sameMap.f k ps qs = some (decide (ps = qs)) := by
 unfold impl_sameMap.f; rw [changes_f ps qs hp hq k hk, Option.bind_some]; refine congrArg some ?_; rw [Bool.eq_iff_iff, beq_iff_eq, decide_eq_true_eq, ← chgP_nil]
 constructor
 ·intro h; exact List.eq_nil_of_length_eq_zero (by omega)
 ·intro h; rw [h]; rfl
def clashR (l0 l1 : List S65) (W : Int) : ByteArray × ByteArray × Bool :=
 if mapOk l0 = true ∧ mapOk l1 = true ∧ isW W = true ∧ l0 ≠ l1 ∧ hashSh W (cart abP l0) = hashSh W (cart abP l1) then (nText (clashS W (cart abP l0) (cart abP l1)).1, nText (clashS W (cart abP l0) (cart abP l1)).2, true) else (⟨#[]⟩, ⟨#[]⟩, false)
end Go.Proofs.YthnnphinfiobmaaDoor.Z
end
section
namespace Go.Proofs.YthnnphinfiobmaaDoor.Z
open RowKit YthnnphinfiobmaaDoor YthnnphinfiobmaaDoorW.PrintWords YthnnphinfiobmaaDoorW.PrintLast
set_option linter.all false
set_option maxRecDepth 100000
theorem seenP {w u : World} {b : Nat} {k v : ByteArray} {pl pr : Value} (h0 : w.cell? ⟨b, 0, none⟩ = some (.string k)) (h1 : w.cell? ⟨b, 1, none⟩ = some (.string v)) (h2 : w.cell? ⟨b, 34, none⟩ = some pl) (h3 : w.cell? ⟨b, 35, none⟩ = some pr) (hb : Below w.heap.size w u) :
  u.cell? ⟨b, 0, none⟩ = some (.string k) ∧ u.cell? ⟨b, 1, none⟩ = some (.string v) ∧ u.cell? ⟨b, 34, none⟩ = some pl ∧ u.cell? ⟨b, 35, none⟩ = some pr ∧ Below w.heap.size w u := ⟨cellB hb h0, cellB hb h1, cellB hb h2, cellB hb h3, hb⟩
theorem belowP {w u : World} {b : Nat} {k v : ByteArray} {pl pr : Value} (h : u.cell? ⟨b, 0, none⟩ = some (.string k) ∧ u.cell? ⟨b, 1, none⟩ = some (.string v) ∧ u.cell? ⟨b, 34, none⟩ = some pl ∧ u.cell? ⟨b, 35, none⟩ = some pr ∧ Below w.heap.size w u) : Below w.heap.size w u := h.2.2.2.2
theorem pairRow {W : World} {g : Nat} {p : S65} {T : TypeId} (h : W.heap[g]? = some (.cells #[.string p.f0, .string p.f1] T (0, 0))) : ReadsRow (Kd.K k65 W) (Kd.sz k65) W (some ⟨g, 0, none⟩) 1 [p] := by
 refine ⟨rfl, by omega, fun _ => ⟨_, rfl, fun j q hj => ?_⟩⟩; have e : j = 0 := by
  rcases j with _ | j
  ·rfl
  ·simp at hj
 subst e; obtain rfl : p = q := by simpa using hj
 refine ⟨[.string p.f0, .string p.f1], rfl, Kd.K_of_M k65 (k65_mkM W 0 (fun _ => False) p), fun i u hu => ?_⟩; rw [Nat.zero_mul, Nat.zero_add, show (⟨g, 0, none⟩ : Addr).add i = ⟨g, i, none⟩ by (simp [Addr.add]; omega), cell_of_row _ _ _ _ _ _ h]
 simpa using hu
theorem pairKM2 (W : World) (base : Nat) (x : S65) (cs : List Value) (h : Kd.K k65 W x cs) : Kd.M k65 W base (fun _ => False) x cs := by
 rw [k65_open h]; exact k65_mkM _ _ _ x
theorem pairsRight {U w2 : World} {u1 u2 : Value} {base : Nat} {xs ys : List S65} (h1 : Kd.R k65 65 U base (fun _ => True) u1 xs) (h2 : Kd.R k65 65 w2 U.heap.size (fun _ => True) u2 ys) (hb : Below U.heap.size U w2) (hbase : base ≤ U.heap.size) :
  Kd.R k65 65 w2 base (fun _ => True) u1 xs ∧ Kd.R k65 65 w2 base (fun k => True ∧ some k ≠ u1.ownBlock) u2 ys :=
 ⟨Kd.R_below h1 hb, Kd.R_lower (Kd.R_mono (Kd.R_bound h2) (fun k hk => ⟨trivial, fun e => by have h3 := Kd.R_lt h1 k e.symm; have := hk.2.1; omega⟩)) hbase⟩
set_option maxHeartbeats 4000000 in
theorem treePairs_any : ∀ (t : Sh Nd) (w : World), InM w t → t.list.length ≤ 100000 →
  Calls Tryd.prog 51 #[ptrT t] w fun e w' => ∃ u, e = .returned u ∧ Kd.R k65 65 w' w.heap.size (fun _ => True) u (t.list.map er) ∧ Below w.heap.size w w' := by
 intro t
 induction t with
 | nil =>
  intro w _ _; unfold ptrT
  go_enter Tryd.func51, Tryd.ntmps51
  go_wp2
  go_ret
  exact ⟨_, rfl, Kd.R_nil _ _ _ _ _, Below.refl _ _⟩
 | node x l r ihl ihr =>
  intro w hi hlen; rw [Sh.list, List.length_append, List.length_cons] at hlen; have c0 := (cell_of_row _ _ _ _ _ _ hi.1).trans (rowT_key _ _ _); have c1 := (cell_of_row _ _ _ _ _ _ hi.1).trans (rowT_val _ _ _); have c34 := (cell_of_row _ _ _ _ _ _ hi.1).trans (rowT_left _ _ _); have c35 := (cell_of_row _ _ _ _ _ _ hi.1).trans (rowT_right _ _ _); have HXL := Lib.hid hi.2.1; have HXR := Lib.hid hi.2.2; have HL := Lib.hid ihl; have HR := Lib.hid ihr; clear ihl ihr hi; obtain ⟨pl, hpl⟩ : ∃ p, ptrT l = p := ⟨_, rfl⟩
  obtain ⟨pr, hpr⟩ : ∃ p, ptrT r = p := ⟨_, rfl⟩
  obtain ⟨b, hb⟩ : ∃ b, x.b = b := ⟨_, rfl⟩
  show Calls Tryd.prog 51 #[ptrB x.b] w _; unfold ptrB; rw [hb, hpl] at c34; rw [hb, hpr] at c35; rw [hb] at c0 c1 ⊢; have HPL := Lib.hid hpl; have HPR := Lib.hid hpr; clear hb hpl hpr
  go_enter Tryd.func51, Tryd.ntmps51
  go_wp2
  go_region_held3 (fun w' => w'.cell? ⟨b, 0, none⟩ = some (.string x.key) ∧ w'.cell? ⟨b, 1, none⟩ = some (.string x.val) ∧ w'.cell? ⟨b, 34, none⟩ = some pl ∧ w'.cell? ⟨b, 35, none⟩ = some pr ∧ Below w.heap.size w w')
   (first | (with_reducible exact seenP c0 c1 c34 c35 (by assumption)) | (with_reducible exact seenP c0 c1 c34 c35 (Below.refl _ _).drew) | exact seenP c0 c1 c34 c35 (below_new2 (belowP (by assumption)) _))
   (first
    | (go_at_call_of 51 pl; rw [← HPL.out]; refine (HL.out _ (HXL.out.below (belowP (by assumption))) (by omega)).mono ?_; rintro e w1 ⟨u1, rfl, hr1, hb1⟩; have HR1 := Lib.hid (Kd.R_lower hr1 (belowP (by assumption)).size); have hq1 := (belowP (by assumption)).trans (hb1.mono (belowP (by assumption)).size); (try have HBK := Lib.hid ((hb1.block _ (by simp)).trans (heap_alloc_new _ _))); clear hr1 hb1)
    | (go_at_call_of 51 pr; rw [← HPR.out]; refine (HR.out _ (HXR.out.below (belowP (by assumption))) (by omega)).mono ?_; rintro e w2 ⟨u2, rfl, hr2, hb2⟩; have hq2 := (belowP (by assumption)).trans (hb2.mono (belowP (by assumption)).size); obtain ⟨hr1, hr3⟩ := pairsRight (by first | exact HR1.out | exact Kd.R_alloc HR1.out _) hr2 hb2 (belowP (by assumption)).size; clear HR1; have HR1 := Lib.hid hr1; have HR2 := Lib.hid hr3; (first | (replace HBK := Lib.hid ((hb2.block _ (lt_of_block HBK.out)).trans HBK.out)) | (have HBK := Lib.hid ((hb2.block _ (by simp)).trans (heap_alloc_new _ _))) | skip); clear hr1 hr2 hr3 hb2)
    | (refine Kd.R_append_rows_step k65 (w0 := w) w.heap.size (by rfl) (.tmp 9) (.tmp 14) 25 65 (.agg #[(.string ⟨#[]⟩), (.string ⟨#[]⟩)]) 32 (by rfl) Tryd.underlying25 info65 rfl (by decide) (by omega) _ (l.list.map er) [er x] _ 1 1 (fun _ => True) (fun _ => False) (by rfl) (by rfl) (by first | exact HR1.out | exact Kd.R_alloc HR1.out _) (by first | exact pairRow HBK.out | exact pairRow (heap_alloc_new _ _)) (pairKM2 _ _) (fun _ h => h.elim) (fun _ _ => trivial) (belowP (by assumption)) (belowP (by assumption)).size (by rw [List.length_map]; omega) ?_; intro v3 w3 ho3 hb3 hg3 ha3; clear HR1; have HR1 := Lib.hid ho3; (try (have hr3 := Lib.hid (Kd.R_after (by first | exact HR2.out | exact Kd.R_alloc HR2.out _) hg3 ha3); clear HR2; have HR2 := hr3; clear hr3)); clear ho3 hg3 ha3)
    | (obtain ⟨A2, c2, e2, hc2, hC2⟩ := Kd.R_reads HR2.out; subst e2; refine Kd.R_append_rows_step k65 (w0 := w) w.heap.size (by rfl) (.tmp 15) (.tmp 20) 25 65 (.agg #[(.string ⟨#[]⟩), (.string ⟨#[]⟩)]) 32 (by rfl) Tryd.underlying25 info65 rfl (by decide) (by omega) _ (l.list.map er ++ [er x]) (r.list.map er) A2 _ c2 (fun _ => True) (fun _ => False) (by rfl) (by rfl) HR1.out hC2 (pairKM2 _ _) (fun _ h => h.elim) (fun _ _ => trivial) (belowP (by assumption)) (belowP (by assumption)).size (by simp only [List.length_append, List.length_map, List.length_singleton]; omega) ?_; intro v4 w4 ho4 hb4 hg4 ha4; have HO4 := Lib.hid ho4; clear ho4 hg4 ha4))
  all_goals
   go_wp2
   go_ret
   refine ⟨_, rfl, ?_, by assumption⟩; have h := HO4.out; rw [List.append_assoc] at h; rw [Sh.list, List.map_append, List.map_cons]; exact h
end Go.Proofs.YthnnphinfiobmaaDoor.Z
end
section
namespace Go.Proofs.YthnnphinfiobmaaDoor.Z
open RowKit YthnnphinfiobmaaDoorW.PrintWords YthnnphinfiobmaaDoorW.PrintLast YthnnphinfiobmaaDoorW.PrintMore
attribute [local go_sem] max2_int min2_int max_two min_two max_three min_three max_four min_four
set_option linter.all false
def impl_textOf.f (a0 : ByteArray) : Option (ByteArray) := if 1 + a0.size ≤ 9223372036854775807 then (some ((⟨#[78]⟩ : ByteArray) ++ a0)) else (none)
set_option maxHeartbeats 8000000 in
set_option maxRecDepth 100000 in
theorem impl_textOf.calls (a0 : ByteArray) (r : ByteArray) (w : World) (h : impl_textOf.f a0 = some r) :
  Calls Tryd.prog 52 #[.string a0] w fun e w' => e = .returned (.string r) ∧ Drawn0 w w' := by
 have H : (if 1 + a0.size ≤ 9223372036854775807 then (some ((⟨#[78]⟩ : ByteArray) ++ a0)) else (none)) = some r := h; clear h
 by_cases c2 : 1 + a0.size ≤ 9223372036854775807
 ·rw [if_pos c2] at H; have c2b0 := eq_true c2; have c2b1 : decide (1 + a0.size ≤ 9223372036854775807) = true := decide_eq_true c2
  try have c2b2 : (9223372036854775807 < 1 + a0.size) = False := eq_false (Nat.not_lt.2 c2)
  obtain rfl := Option.some.inj H
  go_enter Tryd.func52, Tryd.ntmps52
  go_wp2
  go_ret
  exact ⟨by first | rfl | (simp; done) | (simp [*]; done), by repeat (first | exact Drawn0.refl _ | apply Drawn0.step)⟩
 ·rw [if_neg c2] at H; exact absurd H (by simp)
end Go.Proofs.YthnnphinfiobmaaDoor.Z
end
section
namespace Go.Proofs.YthnnphinfiobmaaDoor.Z
open RowKit YthnnphinfiobmaaDoor YthnnphinfiobmaaDoorW.PrintWords YthnnphinfiobmaaDoorW.PrintLast
set_option linter.all false
set_option maxRecDepth 100000
theorem seal_listE (W : Int) : ∀ t : Sh Nd, (sealT W t).list.map er = (mapS er t).list
 | .nil => rfl
 | .node x l r => by rw [sealT, Sh.list, List.map_append, List.map_cons, seal_listE W l, seal_listE W r, mapS, Sh.list]; rfl
theorem seal_len (W : Int) (t : Sh Nd) : (sealT W t).list.length = (mapS er t).list.length := by rw [← seal_listE W t, List.length_map]
theorem seal_enc (W : Int) (x : Nd) (l r : Sh Nd) : (sealN W x (rootT (sealT W l)) (rootT (sealT W r))).enc = encSh W (mapS er (.node x l r)) := by
 rw [mapS, encSh, ← seal_hash, ← seal_hash]; rfl
theorem textOf_f (s : ByteArray) (h : s.size ≤ 1048576) : impl_textOf.f s = some (nText s) := by
 unfold impl_textOf.f; rw [if_pos (by omega)]; rfl
structure ClIs (W : Nat) (res : ByteArray × ByteArray) (k : Nat) (v u : Value) (w0 : World) (ta tb : Sh Nd) (w : World) : Prop where
 pa : v = ptrT (sealT W ta)
 pb : u = ptrT (sealT W tb)
 ina : InM w (sealT W ta)
 inb : InM w (sealT W tb)
 cl : Cl W (mapS er ta) (mapS er tb)
 res : clashS W (mapS er ta) (mapS er tb) = res
 few : (mapS er ta).list.length ≤ k
 below : Below w0.heap.size w0 w
def impl_Clash.f (l0 l1 : List S65) (a2 : Int) : Option (ByteArray × ByteArray × Bool) := some (clashR l0 l1 a2)
set_option maxHeartbeats 8000000 in
theorem impl_Clash.calls (A0 : Option Addr) (c0 : Nat) (l0 : List S65) (A1 : Option Addr) (c1 : Nat) (l1 : List S65) (a2 : Int) (r1 r2 : ByteArray) (r3 : Bool) (w : World) (hr0 : Kd.C k65 w A0 l0.length l0) (hc0 : l0.length ≤ c0) (hr1 : Kd.C k65 w A1 l1.length l1) (hc1 : l1.length ≤ c1) (h : impl_Clash.f l0 l1 a2 = some (r1, r2, r3)) (hTab : Tab w := by exact Tab.below (by assumption) (by repeat (first | (with_reducible first | exact HB.out | apply below_alloc | apply pw_below_drewN | apply below_drew1 | refine below_set ?_ (Aside0.out (by assumption))) | exact HB.out))) :
  Calls Tryd.prog 15 #[.slice A0 l0.length c0, .slice A1 l1.length c1, .int .i64 a2] w fun e w' => e = .returned (.tuple #[.string r1, .string r2, .bool r3]) ∧ Below w.heap.size w w' := by
 have h := Option.some.inj h; have HT := Lib.hid hTab; clear hTab; have HR0 := Lib.hid hr0; clear hr0; have HR1 := Lib.hid hr1; clear hr1; have HM0 := Lib.hid (isMap_f l0 1000 (by decide)); have HM1 := Lib.hid (isMap_f l1 1000 (by decide))
 by_cases hall : mapOk l0 = true ∧ mapOk l1 = true ∧ isW a2 = true ∧ l0 ≠ l1 ∧ hashSh a2 (cart abP l0) = hashSh a2 (cart abP l1)
 rotate_left
 ·have h2 : clashR l0 l1 a2 = (⟨#[]⟩, ⟨#[]⟩, false) := by unfold clashR; rw [if_neg hall]
  rw [h2] at h; simp only [Prod.mk.injEq] at h; obtain ⟨rfl, rfl, rfl⟩ := h; clear h2; have HALL := Lib.hid hall; clear hall
  cases hm0 : mapOk l0
  ·rw [hm0] at HM0; clear hm0 HALL
   go_enter Tryd.func15, Tryd.ntmps15
   go_wp2_with (first | (go_at_call_of 41 (Value.slice A0 l0.length c0); refine (impl_isMap.calls 1000 A0 c0 l0 _ _ HR0.out hc0 HM0.out).mono ?_; rintro e w1 ⟨rfl, hb1⟩; have HB0 := Lib.hid hb1; clear hb1))
   refine bodyPost_ret (v := .tuple #[.string ⟨#[]⟩, .string ⟨#[]⟩, .bool false]) zq_35 rfl ⟨?_, ?_⟩
   ·rfl
   ·exact HB0.out
  cases hm1 : mapOk l1
  ·rw [hm0] at HM0; rw [hm1] at HM1; clear hm0 hm1 HALL
   go_enter Tryd.func15, Tryd.ntmps15
   go_wp2_with (first | (go_at_call_of 41 (Value.slice A0 l0.length c0); refine (impl_isMap.calls 1000 A0 c0 l0 _ _ HR0.out hc0 HM0.out).mono ?_; rintro e w1 ⟨rfl, hb1⟩; have HB0 := Lib.hid hb1; clear hb1) | (go_at_call_of 41 (Value.slice A1 l1.length c1); refine (impl_isMap.calls 1000 A1 c1 l1 _ _ (Kd.C_below HR1.out HB0.out) hc1 HM1.out).mono ?_; rintro e w1 ⟨rfl, hb1⟩; have HB1 := Lib.hid (HB0.out.trans (hb1.mono HB0.out.size)); clear hb1) | (go_at_call 42; go_loud (refine (isWidth_any _ _).mono ?_; rintro e w2 ⟨rfl, rfl⟩; rw [HW.out])) | (go_at_call 50; refine (impl_sameMap.calls 4100000 A0 c0 l0 A1 c1 l1 _ _ (Kd.C_below HR0.out HB1.out) hc0 (Kd.C_below HR1.out HB1.out) hc1 HSM.out).mono ?_; rintro e w3 ⟨rfl, hb3⟩; have HBS := Lib.hid (HB1.out.trans (hb3.mono HB1.out.size)); clear hb3))
   refine bodyPost_ret (v := .tuple #[.string ⟨#[]⟩, .string ⟨#[]⟩, .bool false]) zq_35 rfl ⟨?_, ?_⟩
   ·rfl
   ·exact HB1.out
  cases hw : isW a2
  ·rw [hm0] at HM0; rw [hm1] at HM1; have HW := Lib.hid ((widB_isW a2).trans hw); clear hm0 hm1 HALL hw
   go_enter Tryd.func15, Tryd.ntmps15
   go_wp2_with (first | (go_at_call_of 41 (Value.slice A0 l0.length c0); refine (impl_isMap.calls 1000 A0 c0 l0 _ _ HR0.out hc0 HM0.out).mono ?_; rintro e w1 ⟨rfl, hb1⟩; have HB0 := Lib.hid hb1; clear hb1) | (go_at_call_of 41 (Value.slice A1 l1.length c1); refine (impl_isMap.calls 1000 A1 c1 l1 _ _ (Kd.C_below HR1.out HB0.out) hc1 HM1.out).mono ?_; rintro e w1 ⟨rfl, hb1⟩; have HB1 := Lib.hid (HB0.out.trans (hb1.mono HB0.out.size)); clear hb1) | (go_at_call 42; go_loud (refine (isWidth_any _ _).mono ?_; rintro e w2 ⟨rfl, rfl⟩; rw [HW.out])) | (go_at_call 50; refine (impl_sameMap.calls 4100000 A0 c0 l0 A1 c1 l1 _ _ (Kd.C_below HR0.out HB1.out) hc0 (Kd.C_below HR1.out HB1.out) hc1 HSM.out).mono ?_; rintro e w3 ⟨rfl, hb3⟩; have HBS := Lib.hid (HB1.out.trans (hb3.mono HB1.out.size)); clear hb3))
   refine bodyPost_ret (v := .tuple #[.string ⟨#[]⟩, .string ⟨#[]⟩, .bool false]) zq_35 rfl ⟨?_, ?_⟩
   ·rfl
   ·exact HB1.out
  have HW := Lib.hid ((widB_isW a2).trans hw); have hp0 := mapOk_pair hm0; have hp1 := mapOk_pair hm1; have hl0 := hp0.1; have hl1 := hp1.1
  by_cases he : l0 = l1
  ·have HSM := Lib.hid ((sameMap_f l0 l1 (by omega) (by omega) 4100000 (by decide)).trans (congrArg some (decide_eq_true he))); rw [hm0] at HM0; rw [hm1] at HM1; clear hm0 hm1 HALL hw he hp0 hp1
   go_enter Tryd.func15, Tryd.ntmps15
   go_wp2_with (first | (go_at_call_of 41 (Value.slice A0 l0.length c0); refine (impl_isMap.calls 1000 A0 c0 l0 _ _ HR0.out hc0 HM0.out).mono ?_; rintro e w1 ⟨rfl, hb1⟩; have HB0 := Lib.hid hb1; clear hb1) | (go_at_call_of 41 (Value.slice A1 l1.length c1); refine (impl_isMap.calls 1000 A1 c1 l1 _ _ (Kd.C_below HR1.out HB0.out) hc1 HM1.out).mono ?_; rintro e w1 ⟨rfl, hb1⟩; have HB1 := Lib.hid (HB0.out.trans (hb1.mono HB0.out.size)); clear hb1) | (go_at_call 42; go_loud (refine (isWidth_any _ _).mono ?_; rintro e w2 ⟨rfl, rfl⟩; rw [HW.out])) | (go_at_call 50; refine (impl_sameMap.calls 4100000 A0 c0 l0 A1 c1 l1 _ _ (Kd.C_below HR0.out HB1.out) hc0 (Kd.C_below HR1.out HB1.out) hc1 HSM.out).mono ?_; rintro e w3 ⟨rfl, hb3⟩; have HBS := Lib.hid (HB1.out.trans (hb3.mono HB1.out.size)); clear hb3))
   refine bodyPost_ret (v := .tuple #[.string ⟨#[]⟩, .string ⟨#[]⟩, .bool false]) zq_35 rfl ⟨?_, ?_⟩
   ·rfl
   ·exact HBS.out
  have HSM := Lib.hid ((sameMap_f l0 l1 (by omega) (by omega) 4100000 (by decide)).trans (congrArg some (decide_eq_false he))); have HNE : Hid (((hashSh a2 (cart abP l0)).toList == (hashSh a2 (cart abP l1)).toList) = false) := Lib.hid (beq_eq_false_iff_ne.mpr (fun e => HALL.out ⟨hm0, hm1, hw, he, listK.mp e⟩)); rw [hm0] at HM0; rw [hm1] at HM1; unfold isW at hw; simp only [Bool.and_eq_true, decide_eq_true_eq] at hw; obtain ⟨W, hWn⟩ : ∃ W : Nat, a2 = (W : Int) := ⟨a2.toNat, by omega⟩
  subst hWn; have HP0 := Lib.hid hp0.2; have HP1 := Lib.hid hp1.2; clear hm0 hm1 HALL he hp0 hp1
  go_enter Tryd.func15, Tryd.ntmps15
  go_wp2_with (first | (go_at_call_of 41 (Value.slice A0 l0.length c0); refine (impl_isMap.calls 1000 A0 c0 l0 _ _ HR0.out hc0 HM0.out).mono ?_; rintro e w1 ⟨rfl, hb1⟩; have HB0 := Lib.hid hb1; clear hb1) | (go_at_call_of 41 (Value.slice A1 l1.length c1); refine (impl_isMap.calls 1000 A1 c1 l1 _ _ (Kd.C_below HR1.out HB0.out) hc1 HM1.out).mono ?_; rintro e w1 ⟨rfl, hb1⟩; have HB1 := Lib.hid (HB0.out.trans (hb1.mono HB0.out.size)); clear hb1) | (go_at_call 42; go_loud (refine (isWidth_any _ _).mono ?_; rintro e w2 ⟨rfl, rfl⟩; rw [HW.out])) | (go_at_call 50; refine (impl_sameMap.calls 4100000 A0 c0 l0 A1 c1 l1 _ _ (Kd.C_below HR0.out HB1.out) hc0 (Kd.C_below HR1.out HB1.out) hc1 HSM.out).mono ?_; rintro e w3 ⟨rfl, hb3⟩; have HBS := Lib.hid (HB1.out.trans (hb3.mono HB1.out.size)); clear hb3) | (go_at_call_of 43 (Value.slice A0 l0.length c0); refine (grow_any A0 c0 l0 W (by omega) (by omega) _ (Kd.C_below HR0.out HBS.out) hc0 (by omega) (fun p hp => by have := HP0.out p hp; omega) (HT.out.below HBS.out)).mono ?_; rintro e w5 ⟨ta, rfl, hi, hn, hg, hs, hb⟩; have HIA := Lib.hid hi; have HSA := Lib.hid hs; have HBA := Lib.hid (HBS.out.trans (hb.mono HBS.out.size)); clear hi hn hg hs hb) | (go_at_call_of 43 (Value.slice A1 l1.length c1); refine (grow_any A1 c1 l1 W (by omega) (by omega) _ (Kd.C_below HR1.out HBA.out) hc1 (by omega) (fun p hp => by have := HP1.out p hp; omega) (HT.out.below HBA.out)).mono ?_; rintro e w6 ⟨tb, rfl, hi, hn, hg, hs, hb⟩; have HIB := Lib.hid hi; have HSB := Lib.hid hs; have HIA2 := Lib.hid (HIA.out.below hb); have HBG := Lib.hid (HBA.out.trans (hb.mono HBA.out.size)); clear hi hn hg hs hb; obtain ⟨pa, hpa⟩ : ∃ p, ptrT (sealT W ta) = p := ⟨_, rfl⟩; obtain ⟨pb, hpb⟩ : ∃ p, ptrT (sealT W tb) = p := ⟨_, rfl⟩; rw [hpa, hpb]; have HPA := Lib.hid hpa; have HPB := Lib.hid hpb; clear hpa hpb; obtain ⟨ha, hha⟩ : ∃ s, hashSh W (cart abP l0) = s := ⟨_, rfl⟩; obtain ⟨hb, hhb⟩ : ∃ s, hashSh W (cart abP l1) = s := ⟨_, rfl⟩; have HEQ := HNE.out; rw [hha, hhb] at HEQ; have HHA := Lib.hid hha; have HHB := Lib.hid hhb; clear hha hhb) | (go_at_call_of 44 pa; rw [← HPA.out]; refine (treeHash_any _ ha _ (by have := RootIs.of HIA2.out; rw [seal_hash, HSA.out, HHA.out] at this; exact this)).mono ?_; rintro e w7 ⟨rfl, rfl⟩) | (go_at_call_of 44 pb; rw [← HPB.out]; refine (treeHash_any _ hb _ (by have := RootIs.of HIB.out; rw [seal_hash, HSB.out, HHB.out] at this; exact this)).mono ?_; rintro e w8 ⟨rfl, rfl⟩))
  refine bodyPost_ret (v := .tuple #[.string ⟨#[]⟩, .string ⟨#[]⟩, .bool false]) zq_35 rfl ⟨?_, ?_⟩
  ·rfl
  ·exact HBG.out
 have h2 : clashR l0 l1 a2 = (nText (clashS a2 (cart abP l0) (cart abP l1)).1, nText (clashS a2 (cart abP l0) (cart abP l1)).2, true) := by unfold clashR; rw [if_pos hall]
 rw [h2] at h; simp only [Prod.mk.injEq] at h; obtain ⟨rfl, rfl, rfl⟩ := h; clear h2; obtain ⟨hm0, hm1, hw, he, hh⟩ := hall; have HW := Lib.hid ((widB_isW a2).trans hw); have hp0 := mapOk_pair hm0; have hp1 := mapOk_pair hm1; have hl0 := hp0.1; have hl1 := hp1.1; have HSM := Lib.hid ((sameMap_f l0 l1 (by omega) (by omega) 4100000 (by decide)).trans (congrArg some (decide_eq_false he))); rw [hm0] at HM0; rw [hm1] at HM1; unfold isW at hw; simp only [Bool.and_eq_true, decide_eq_true_eq] at hw; obtain ⟨W, hWn⟩ : ∃ W : Nat, a2 = (W : Int) := ⟨a2.toNat, by omega⟩
 subst hWn; have hW1 : 1 ≤ W := by omega
 have hW2 : W ≤ 32 := by omega
 have HP0 := Lib.hid hp0.2; have HP1 := Lib.hid hp1.2; have HCL : Hid (Cl W (cart abP l0) (cart abP l1)) := Lib.hid ⟨hh, by rw [cart_list _ _ (Nat.le_refl _), cart_list _ _ (Nat.le_refl _)]; exact he, by unfold okT; rw [cart_list _ _ (Nat.le_refl _)]; exact hp0.2, by unfold okT; rw [cart_list _ _ (Nat.le_refl _)]; exact hp1.2, by rw [cart_list _ _ (Nat.le_refl _)]; omega, by rw [cart_list _ _ (Nat.le_refl _)]; omega⟩; have HNE : Hid (((hashSh W (cart abP l0)).toList == (hashSh W (cart abP l1)).toList) = true) := Lib.hid (beq_iff_eq.mpr (by rw [hh])); clear hm0 hm1 he hh hp0 hp1; obtain ⟨res, hres⟩ : ∃ res, clashS W (cart abP l0) (cart abP l1) = res := ⟨_, rfl⟩
 rw [hres]; have HRES := Lib.hid hres; clear hres
 go_enter Tryd.func15, Tryd.ntmps15
 go_wp2_with (first | (go_at_call_of 41 (Value.slice A0 l0.length c0); refine (impl_isMap.calls 1000 A0 c0 l0 _ _ HR0.out hc0 HM0.out).mono ?_; rintro e w1 ⟨rfl, hb1⟩; have HB0 := Lib.hid hb1; clear hb1) | (go_at_call_of 41 (Value.slice A1 l1.length c1); refine (impl_isMap.calls 1000 A1 c1 l1 _ _ (Kd.C_below HR1.out HB0.out) hc1 HM1.out).mono ?_; rintro e w1 ⟨rfl, hb1⟩; have HB1 := Lib.hid (HB0.out.trans (hb1.mono HB0.out.size)); clear hb1) | (go_at_call 42; go_loud (refine (isWidth_any _ _).mono ?_; rintro e w2 ⟨rfl, rfl⟩; rw [HW.out])) | (go_at_call 50; refine (impl_sameMap.calls 4100000 A0 c0 l0 A1 c1 l1 _ _ (Kd.C_below HR0.out HB1.out) hc0 (Kd.C_below HR1.out HB1.out) hc1 HSM.out).mono ?_; rintro e w3 ⟨rfl, hb3⟩; have HBS := Lib.hid (HB1.out.trans (hb3.mono HB1.out.size)); clear hb3) | (go_at_call_of 43 (Value.slice A0 l0.length c0); refine (grow_any A0 c0 l0 W (by omega) (by omega) _ (Kd.C_below HR0.out HBS.out) hc0 (by omega) (fun p hp => by have := HP0.out p hp; omega) (HT.out.below HBS.out)).mono ?_; rintro e w5 ⟨ta, rfl, hi, hn, hg, hs, hb⟩; have HIA := Lib.hid hi; have HSA := Lib.hid hs; have HBA := Lib.hid (HBS.out.trans (hb.mono HBS.out.size)); clear hi hn hg hs hb) | (go_at_call_of 43 (Value.slice A1 l1.length c1); refine (grow_any A1 c1 l1 W (by omega) (by omega) _ (Kd.C_below HR1.out HBA.out) hc1 (by omega) (fun p hp => by have := HP1.out p hp; omega) (HT.out.below HBA.out)).mono ?_; rintro e w6 ⟨tb, rfl, hi, hn, hg, hs, hb⟩; have HIB := Lib.hid hi; have HSB := Lib.hid hs; have HIA2 := Lib.hid (HIA.out.below hb); have HBG := Lib.hid (HBA.out.trans (hb.mono HBA.out.size)); clear hi hn hg hs hb; obtain ⟨pa, hpa⟩ : ∃ p, ptrT (sealT W ta) = p := ⟨_, rfl⟩; obtain ⟨pb, hpb⟩ : ∃ p, ptrT (sealT W tb) = p := ⟨_, rfl⟩; rw [hpa, hpb]; have HPA := Lib.hid hpa; have HPB := Lib.hid hpb; clear hpa hpb; obtain ⟨ha, hha⟩ : ∃ s, hashSh W (cart abP l0) = s := ⟨_, rfl⟩; obtain ⟨hb, hhb⟩ : ∃ s, hashSh W (cart abP l1) = s := ⟨_, rfl⟩; have HEQ := HNE.out; rw [hha, hhb] at HEQ; have HHA := Lib.hid hha; have HHB := Lib.hid hhb; clear hha hhb) | (go_at_call_of 44 pa; rw [← HPA.out]; refine (treeHash_any _ ha _ (by have := RootIs.of HIA2.out; rw [seal_hash, HSA.out, HHA.out] at this; exact this)).mono ?_; rintro e w7 ⟨rfl, rfl⟩) | (go_at_call_of 44 pb; rw [← HPB.out]; refine (treeHash_any _ hb _ (by have := RootIs.of HIB.out; rw [seal_hash, HSB.out, HHB.out] at this; exact this)).mono ?_; rintro e w8 ⟨rfl, rfl⟩))
 have hcl0 := HCL.out; rw [← HSA.out, ← HSB.out] at hcl0; have hres0 := HRES.out; rw [← HSA.out, ← HSB.out] at hres0; have HC0 : Hid (ClIs W res (mapS er ta).list.length (ptrT (sealT W ta)) (ptrT (sealT W tb)) w ta tb w6) := Lib.hid ⟨rfl, rfl, HIA2.out, HIB.out, hcl0, hres0, Nat.le_refl _, HBG.out⟩; clear hcl0 hres0 HEQ
 go_loopg [9, 10] (mapS er ta).list.length (fun kq v u w' => ∃ ta tb : Sh Nd, ClIs W res kq v u w ta tb w')
 case atStart => exact ⟨ta, tb, HC0.out⟩
 case round =>
  clear HC0 HSA HSB HPA HPB HIA2 HIB HIA; obtain ⟨xa, xb, hC⟩ := hrel; obtain ⟨⟨p, l, r, ea⟩, ⟨q, l', r', eb⟩⟩ := hC.cl.nodes hW1 hW2
  match xa, ea, xb, eb, hC with
  | .node x xl xr, ea, .node y yl yr, eb, hC =>
  have hina := hC.ina; have hinb := hC.inb; rw [sealT] at hina hinb; have c36 := (cell_of_row _ _ _ _ _ _ hina.1).trans (rowT_enc _ _ _); have d36 := (cell_of_row _ _ _ _ _ _ hinb.1).trans (rowT_enc _ _ _); have c34 := (cell_of_row _ _ _ _ _ _ hina.1).trans (rowT_left _ _ _); have d34 := (cell_of_row _ _ _ _ _ _ hinb.1).trans (rowT_left _ _ _); have c35 := (cell_of_row _ _ _ _ _ _ hina.1).trans (rowT_right _ _ _); have d35 := (cell_of_row _ _ _ _ _ _ hinb.1).trans (rowT_right _ _ _); rw [seal_enc] at c36 d36; obtain ⟨b, hb⟩ : ∃ b, x.b = b := ⟨_, rfl⟩
  obtain ⟨d, hd⟩ : ∃ d, y.b = d := ⟨_, rfl⟩
  have hb' : (sealN W x (rootT (sealT W xl)) (rootT (sealT W xr))).b = b := hb; have hd' : (sealN W y (rootT (sealT W yl)) (rootT (sealT W yr))).b = d := hd; rw [hb'] at c34 c35 c36; rw [hd'] at d34 d35 d36; have hpa := hC.pa; have hpb := hC.pb; rw [sealT, ptrT, hb'] at hpa; rw [sealT, ptrT, hd'] at hpb; unfold ptrB at hpa hpb; subst hpa hpb; obtain ⟨ea, hea⟩ : ∃ e, encSh W (mapS er (.node x xl xr)) = e := ⟨_, rfl⟩
  obtain ⟨eb, heb⟩ : ∃ e, encSh W (mapS er (.node y yl yr)) = e := ⟨_, rfl⟩
  rw [hea] at c36; rw [heb] at d36; have HINA := Lib.hid hina; have HINB := Lib.hid hinb; have HEA := Lib.hid hea; have HEB := Lib.hid heb; obtain ⟨pl, hpl⟩ : ∃ p, ptrT (sealT W xl) = p := ⟨_, rfl⟩
  obtain ⟨pr, hpr⟩ : ∃ p, ptrT (sealT W xr) = p := ⟨_, rfl⟩
  obtain ⟨ql, hql⟩ : ∃ p, ptrT (sealT W yl) = p := ⟨_, rfl⟩
  obtain ⟨qr, hqr⟩ : ∃ p, ptrT (sealT W yr) = p := ⟨_, rfl⟩
  rw [hpl] at c34; rw [hpr] at c35; rw [hql] at d34; rw [hqr] at d35; have HPL := Lib.hid hpl; have HPR := Lib.hid hpr; have HQL := Lib.hid hql; have HQR := Lib.hid hqr; have HC := Lib.hid hC; clear hC hina hinb hea heb hpl hpr hql hqr hb hd hb' hd'; have hsa : ea.size ≤ 4000 := by rw [← HEA.out, mapS, encSh]; exact encNode_size_le _ _ _ _ _
  have hsb : eb.size ≤ 4000 := by rw [← HEB.out, mapS, encSh]; exact encNode_size_le _ _ _ _ _
  have HTA := Lib.hid (textOf_f ea (by omega)); have HTB := Lib.hid (textOf_f eb (by omega))
  cases he : (ea.toList == eb.toList)
  ·have HRS : Hid (res = (ea, eb)) := Lib.hid (by
    rw [← HC.out.res, mapS, mapS, clashS, if_neg (fun e => ?_)]
    ·rw [← HEA.out, ← HEB.out]; rfl
    ·have h1 := HEA.out; have h2 := HEB.out; rw [mapS] at h1 h2; rw [h1, h2] at e; rw [e] at he; simp at he)
   have HWB := HC.out.below; have HWB := Lib.hid HWB; clear c34 c35 d34 d35 hsa hsb
   go_wp2
   go_region_held3 (fun w' => w'.cell? ⟨b, 36, none⟩ = some (.string ea) ∧ w'.cell? ⟨d, 36, none⟩ = some (.string eb) ∧ Below wr.heap.size wr w')
    (first | (with_reducible exact cells2P c36 d36 (by assumption)) | (with_reducible exact cells2P c36 d36 (Below.refl _ _).drew)) (fail)
   go_wp2
   go_region_held3 (fun w' => w'.cell? ⟨b, 36, none⟩ = some (.string ea) ∧ w'.cell? ⟨d, 36, none⟩ = some (.string eb) ∧ Below wr.heap.size wr w')
    (first | (with_reducible exact cells2P c36 d36 (by assumption)) | (with_reducible exact cells2P c36 d36 (Below.refl _ _).drew.drew))
    (first
     | (go_at_call_of 52 (Value.string ea); refine (impl_textOf.calls ea (nText ea) _ HTA.out).mono ?_; rintro e w1 ⟨rfl, hb1⟩; have hq1 := (below2P (by assumption)).trans (hb1.below.mono (below2P (by assumption)).size); clear hb1)
     | (go_at_call_of 52 (Value.string eb); refine (impl_textOf.calls eb (nText eb) _ HTB.out).mono ?_; rintro e w2 ⟨rfl, hb2⟩; have hq2 := (below2P (by assumption)).trans (hb2.below.mono (below2P (by assumption)).size); clear hb2))
   all_goals
    go_wp2
    refine bodyPost_ret (v := .tuple #[.string (nText ea), .string (nText eb), .bool true]) zq_35 rfl ⟨?_, ?_⟩
    ·rw [HRS.out]
    ·exact HWB.out.trans ((below2P (by assumption)).mono HWB.out.size)
  ·have HEE : Hid (encSh W (mapS er (.node x xl xr)) = encSh W (mapS er (.node y yl yr))) := Lib.hid (by rw [HEA.out, HEB.out]; exact listK.mp (beq_iff_eq.mp he)); have hres := HC.out.res; rw [mapS, mapS, clashS, if_pos (by have h := HEE.out; rw [mapS, mapS] at h; exact h)] at hres; have hcl := HC.out.cl; rw [mapS, mapS] at hcl; have hee := HEE.out; rw [mapS, mapS] at hee; have hfew := HC.out.few; have hlb := HC.out.cl.lb; have hla := HC.out.cl.la; rw [mapS, len_l] at hfew hlb hla; have HSL := Lib.hid (sameMap_f ((sealT W xl).list.map er) ((sealT W yl).list.map er) (by rw [seal_listE]; omega) (by rw [seal_listE]; omega) 4100000 (by decide)); have hx1 : (sealT W xl).list.length ≤ 100000 := by rw [seal_len]; omega
   have hx2 : (sealT W yl).list.length ≤ 100000 := by rw [seal_len]; omega
   have HWB := Lib.hid HC.out.below; clear hsa hsb HTA HTB hlb hla
   by_cases hs : (mapS er xl).list = (mapS er yl).list
   ·rw [if_pos hs] at hres; have HR2 := Lib.hid hres; have HC2 := Lib.hid (hcl.right hW1 hW2 hee hs); rw [seal_listE, seal_listE, decide_eq_true hs] at HSL; clear hres hcl hee hs
    go_wp2
    go_region_held3 (fun w' => w'.cell? ⟨b, 36, none⟩ = some (.string ea) ∧ w'.cell? ⟨d, 36, none⟩ = some (.string eb) ∧ Below wr.heap.size wr w')
     (first | (with_reducible exact cells2P c36 d36 (by assumption)) | (with_reducible exact cells2P c36 d36 (Below.refl _ _).drew)) (fail)
    go_wp2
    go_region_held3 (fun w' => w'.cell? ⟨b, 34, none⟩ = some pl ∧ w'.cell? ⟨d, 34, none⟩ = some ql ∧ Below wr.heap.size wr w')
     (first | (with_reducible exact cells2P c34 d34 (by assumption)) | (with_reducible exact cells2P c34 d34 (Below.refl _ _).drew.drew))
     (first
      | (go_at_call_of 51 pl; rw [← HPL.out]; refine (treePairs_any (sealT W xl) _ (HINA.out.2.1.below (below2P (by assumption))) hx1).mono ?_; rintro e w1 ⟨u1, rfl, hr1, hb1⟩; have hq1 := (below2P (by assumption)).trans (hb1.mono (below2P (by assumption)).size); have HRA := Lib.hid hr1; clear hr1 hb1)
      | (go_at_call_of 51 ql; rw [← HQL.out]; refine (treePairs_any (sealT W yl) _ (HINB.out.2.1.below (below2P (by assumption))) hx2).mono ?_; rintro e w2 ⟨u2, rfl, hr2, hb2⟩; have hq2 := (below2P (by assumption)).trans (hb2.mono (below2P (by assumption)).size); have HRA2 := Lib.hid (Kd.R_below HRA.out hb2); have HRB := Lib.hid hr2; clear hr2 hb2)
      | (go_at_call 50; obtain ⟨A3, c3, e3, hc3, hC3⟩ := Kd.R_reads HRA2.out; obtain ⟨A4, c4, e4, hc4, hC4⟩ := Kd.R_reads HRB.out; subst e3 e4; rw [seal_listE] at hC3 hc3 hC4 hc4; rw [seal_listE, seal_listE]; refine (impl_sameMap.calls 4100000 A3 c3 _ A4 c4 _ _ _ hC3 hc3 hC4 hc4 HSL.out).mono ?_; rintro e w3 ⟨rfl, hb3⟩; have hq3 := (below2P (by assumption)).trans (hb3.mono (below2P (by assumption)).size); clear hb3))
    go_wp2
    go_region_held3 (fun w' => w'.cell? ⟨b, 35, none⟩ = some pr ∧ w'.cell? ⟨d, 35, none⟩ = some qr ∧ Below wr.heap.size wr w')
     (first | (with_reducible exact cells2P c35 d35 (by assumption)) | (with_reducible exact cells2P c35 d35 hq3.drew)) (fail)
    go_wp2
    go_roundg (mapS er xr).list.length
    case measure => omega
    case rel => exact ⟨xr, yr, ⟨HPR.out.symm, HQR.out.symm, HINA.out.2.2.below (below2P (by assumption)), HINB.out.2.2.below (below2P (by assumption)), HC2.out, HR2.out, Nat.le_refl _, HWB.out.trans ((below2P (by assumption)).mono HWB.out.size)⟩⟩
   ·rw [if_neg hs] at hres; have HR2 := Lib.hid hres; have HC2 := Lib.hid (hcl.left hW1 hW2 hee hs); rw [seal_listE, seal_listE, decide_eq_false hs] at HSL; clear hres hcl hee hs
    go_wp2
    go_region_held3 (fun w' => w'.cell? ⟨b, 36, none⟩ = some (.string ea) ∧ w'.cell? ⟨d, 36, none⟩ = some (.string eb) ∧ Below wr.heap.size wr w')
     (first | (with_reducible exact cells2P c36 d36 (by assumption)) | (with_reducible exact cells2P c36 d36 (Below.refl _ _).drew)) (fail)
    go_wp2
    go_region_held3 (fun w' => w'.cell? ⟨b, 34, none⟩ = some pl ∧ w'.cell? ⟨d, 34, none⟩ = some ql ∧ Below wr.heap.size wr w')
     (first | (with_reducible exact cells2P c34 d34 (by assumption)) | (with_reducible exact cells2P c34 d34 (Below.refl _ _).drew.drew))
     (first
      | (go_at_call_of 51 pl; rw [← HPL.out]; refine (treePairs_any (sealT W xl) _ (HINA.out.2.1.below (below2P (by assumption))) hx1).mono ?_; rintro e w1 ⟨u1, rfl, hr1, hb1⟩; have hq1 := (below2P (by assumption)).trans (hb1.mono (below2P (by assumption)).size); have HRA := Lib.hid hr1; clear hr1 hb1)
      | (go_at_call_of 51 ql; rw [← HQL.out]; refine (treePairs_any (sealT W yl) _ (HINB.out.2.1.below (below2P (by assumption))) hx2).mono ?_; rintro e w2 ⟨u2, rfl, hr2, hb2⟩; have hq2 := (below2P (by assumption)).trans (hb2.mono (below2P (by assumption)).size); have HRA2 := Lib.hid (Kd.R_below HRA.out hb2); have HRB := Lib.hid hr2; clear hr2 hb2)
      | (go_at_call 50; obtain ⟨A3, c3, e3, hc3, hC3⟩ := Kd.R_reads HRA2.out; obtain ⟨A4, c4, e4, hc4, hC4⟩ := Kd.R_reads HRB.out; subst e3 e4; rw [seal_listE] at hC3 hc3 hC4 hc4; rw [seal_listE, seal_listE]; refine (impl_sameMap.calls 4100000 A3 c3 _ A4 c4 _ _ _ hC3 hc3 hC4 hc4 HSL.out).mono ?_; rintro e w3 ⟨rfl, hb3⟩; have hq3 := (below2P (by assumption)).trans (hb3.mono (below2P (by assumption)).size); clear hb3))
    go_wp2
    go_region_held3 (fun w' => w'.cell? ⟨b, 34, none⟩ = some pl ∧ w'.cell? ⟨d, 34, none⟩ = some ql ∧ Below wr.heap.size wr w')
     (first | (with_reducible exact cells2P c34 d34 (by assumption)) | (with_reducible exact cells2P c34 d34 hq3.drew)) (fail)
    go_wp2
    go_roundg (mapS er xl).list.length
    case measure => omega
    case rel => exact ⟨xl, yl, ⟨HPL.out.symm, HQL.out.symm, HINA.out.2.1.below (below2P (by assumption)), HINB.out.2.1.below (below2P (by assumption)), HC2.out, HR2.out, Nat.le_refl _, HWB.out.trans ((below2P (by assumption)).mono HWB.out.size)⟩⟩
end Go.Proofs.YthnnphinfiobmaaDoor.Z
end
section
namespace Go.Proofs.YthnnphinfiobmaaDoor.Z
open RowKit YthnnphinfiobmaaDoorW.PrintWords YthnnphinfiobmaaDoorW.PrintLast YthnnphinfiobmaaDoorW.PrintMore
attribute [local go_sem] max2_int min2_int max_two min_two max_three min_three max_four min_four
set_option linter.all false
def laws_eqPair.f (a0_0 : ByteArray) (a0_1 : ByteArray) (a1_0 : ByteArray) (a1_1 : ByteArray) : Option (Bool) := if a0_0.toList = a1_0.toList then (if a0_1.toList = a1_1.toList then (some true) else (some false)) else (some false)
set_option maxHeartbeats 8000000 in
set_option maxRecDepth 100000 in
theorem laws_eqPair.calls (a0_0 : ByteArray) (a0_1 : ByteArray) (a1_0 : ByteArray) (a1_1 : ByteArray) (r : Bool) (w : World) (h : laws_eqPair.f a0_0 a0_1 a1_0 a1_1 = some r) :
  Calls Tryd.prog 45 #[.agg #[.string a0_0, .string a0_1], .agg #[.string a1_0, .string a1_1]] w fun e w' => e = .returned (.bool r) ∧ Below w.heap.size w w' := by
 have hu65 := Tryd.underlying65; have HB := Aside0.mk (Below.refl w.heap.size w); have H : (if a0_0.toList = a1_0.toList then (if a0_1.toList = a1_1.toList then (some true) else (some false)) else (some false)) = some r := h; clear h
 by_cases c3 : a0_0.toList = a1_0.toList
 ·rw [if_pos c3] at H; have c3b0 : (a0_0.toList == a1_0.toList) = true := beq_iff_eq.mpr c3; have c3b1 : (a0_0.toList != a1_0.toList) = false := bne_eq_false_iff_eq.mpr c3; clear c3
  by_cases c4 : a0_1.toList = a1_1.toList
  ·rw [if_pos c4] at H; have c4b0 : (a0_1.toList == a1_1.toList) = true := beq_iff_eq.mpr c4; have c4b1 : (a0_1.toList != a1_1.toList) = false := bne_eq_false_iff_eq.mpr c4; clear c4; obtain rfl := Option.some.inj H
   go_enter Tryd.func45, Tryd.ntmps45
   go_wp2_with (first | ((with_reducible refine gate_dst (N := 2) rfl ?_); refine box_event ?hg (N := 2) ?hd (cs := #[.string a0_0, .string a0_1]) (t := 65) ?hr ?_; (case hd => rfl); (case hg => rfl); (case hr => exact zq_12); intro gb450001 hg w5 hbox hb; have n0_ := Aside0.mk (below_step zq_0 hb); have n1_ := Aside0.mk (hbox); have n2_ := Aside0.mk ((by rw [hg]; exact (below_size zq_0) : w.heap.size ≤ gb450001)); have n3_ := Aside0.mk ((by rw [hg]; exact (below_size zq_0) : w.heap.size ≤ gb450001)); clear HB; have HB := n0_; have BK450001 := n1_; have GW450001 := n2_; have GE450001 := n3_; clear n0_ n1_ n2_ n3_; clear hb hbox hg) | ((with_reducible refine gate_dst (N := 3) rfl ?_); refine box_event ?hg (N := 3) ?hd (cs := #[.string a1_0, .string a1_1]) (t := 65) ?hr ?_; (case hd => rfl); (case hg => rfl); (case hr => exact zq_12); intro gb450002 hg w6 hbox hb; have n0_ := Aside0.mk (blk_below (g := gb450001) (o := .cells #[.string a0_0, .string a0_1] 65 (0, 0)) zq_13 hb); have n1_ := Aside0.mk (below_step zq_10 hb); have n2_ := Aside0.mk (hbox); have n3_ := Aside0.mk ((by rw [hg]; exact (below_size zq_10) : w.heap.size ≤ gb450002)); have n4_ := Aside0.mk ((by rw [hg]; exact (below_size zq_10) : w.heap.size ≤ gb450002)); have n5_ := Aside0.mk ((by rw [hg]; exact Nat.ne_of_lt (blk_lt (g := gb450001) (o := .cells #[.string a0_0, .string a0_1] 65 (0, 0)) zq_13) : gb450001 ≠ gb450002)); have n6_ := Aside0.mk ((by rw [hg]; exact Nat.ne_of_gt (blk_lt (g := gb450001) (o := .cells #[.string a0_0, .string a0_1] 65 (0, 0)) zq_13) : gb450002 ≠ gb450001)); clear BK450001; clear HB; have BK450001 := n0_; have HB := n1_; have BK450002 := n2_; have GW450002 := n3_; have GE450002 := n4_; have NB450001_450002 := n5_; have NB450002_450001 := n6_; clear n0_ n1_ n2_ n3_ n4_ n5_ n6_; clear hb hbox hg; have hnb7 := NB450001_450002.out; have hnc7 := NB450002_450001.out; have hcz8_0 : w6.cell? ⟨gb450001, 0, none⟩ = some (.string a0_0) := (blk_cell BK450001.out 0).trans rfl; have hcz8_1 : w6.cell? ⟨gb450001, 1, none⟩ = some (.string a0_1) := (blk_cell BK450001.out 1).trans rfl; have hfz8_0 := blk_frozen BK450001.out 0; have hfz8_1 := blk_frozen BK450001.out 1; have hcz9_0 : w6.cell? ⟨gb450002, 0, none⟩ = some (.string a1_0) := (blk_cell BK450002.out 0).trans rfl; have hcz9_1 : w6.cell? ⟨gb450002, 1, none⟩ = some (.string a1_1) := (blk_cell BK450002.out 1).trans rfl; have hfz9_0 := blk_frozen BK450002.out 0; have hfz9_1 := blk_frozen BK450002.out 1))
   go_ret
   exact ⟨by first | rfl | (simp [errW_none, errW_some] <;> rfl) | (simp [*, errW_none, errW_some] <;> rfl), by repeat (first | (with_reducible first | exact HB.out | apply below_alloc | apply pw_below_drewN | apply below_drew1 | refine below_set ?_ GE450001.out | refine below_set ?_ GE450002.out) | exact HB.out)⟩
  ·rw [if_neg c4] at H; have c4b0 : (a0_1.toList == a1_1.toList) = false := beq_eq_false_iff_ne.mpr c4; have c4b1 : (a0_1.toList != a1_1.toList) = true := bne_iff_ne.mpr c4; obtain rfl := Option.some.inj H
   go_enter Tryd.func45, Tryd.ntmps45
   go_wp2_with (first | ((with_reducible refine gate_dst (N := 2) rfl ?_); refine box_event ?hg (N := 2) ?hd (cs := #[.string a0_0, .string a0_1]) (t := 65) ?hr ?_; (case hd => rfl); (case hg => rfl); (case hr => exact zq_12); intro gb450001 hg w10 hbox hb; have n0_ := Aside0.mk (below_step zq_0 hb); have n1_ := Aside0.mk (hbox); have n2_ := Aside0.mk ((by rw [hg]; exact (below_size zq_0) : w.heap.size ≤ gb450001)); have n3_ := Aside0.mk ((by rw [hg]; exact (below_size zq_0) : w.heap.size ≤ gb450001)); clear HB; have HB := n0_; have BK450001 := n1_; have GW450001 := n2_; have GE450001 := n3_; clear n0_ n1_ n2_ n3_; clear hb hbox hg) | ((with_reducible refine gate_dst (N := 3) rfl ?_); refine box_event ?hg (N := 3) ?hd (cs := #[.string a1_0, .string a1_1]) (t := 65) ?hr ?_; (case hd => rfl); (case hg => rfl); (case hr => exact zq_12); intro gb450002 hg w11 hbox hb; have n0_ := Aside0.mk (blk_below (g := gb450001) (o := .cells #[.string a0_0, .string a0_1] 65 (0, 0)) zq_13 hb); have n1_ := Aside0.mk (below_step zq_10 hb); have n2_ := Aside0.mk (hbox); have n3_ := Aside0.mk ((by rw [hg]; exact (below_size zq_10) : w.heap.size ≤ gb450002)); have n4_ := Aside0.mk ((by rw [hg]; exact (below_size zq_10) : w.heap.size ≤ gb450002)); have n5_ := Aside0.mk ((by rw [hg]; exact Nat.ne_of_lt (blk_lt (g := gb450001) (o := .cells #[.string a0_0, .string a0_1] 65 (0, 0)) zq_13) : gb450001 ≠ gb450002)); have n6_ := Aside0.mk ((by rw [hg]; exact Nat.ne_of_gt (blk_lt (g := gb450001) (o := .cells #[.string a0_0, .string a0_1] 65 (0, 0)) zq_13) : gb450002 ≠ gb450001)); clear BK450001; clear HB; have BK450001 := n0_; have HB := n1_; have BK450002 := n2_; have GW450002 := n3_; have GE450002 := n4_; have NB450001_450002 := n5_; have NB450002_450001 := n6_; clear n0_ n1_ n2_ n3_ n4_ n5_ n6_; clear hb hbox hg; have hnb12 := NB450001_450002.out; have hnc12 := NB450002_450001.out; have hcz13_0 : w11.cell? ⟨gb450001, 0, none⟩ = some (.string a0_0) := (blk_cell BK450001.out 0).trans rfl; have hcz13_1 : w11.cell? ⟨gb450001, 1, none⟩ = some (.string a0_1) := (blk_cell BK450001.out 1).trans rfl; have hfz13_0 := blk_frozen BK450001.out 0; have hfz13_1 := blk_frozen BK450001.out 1; have hcz14_0 : w11.cell? ⟨gb450002, 0, none⟩ = some (.string a1_0) := (blk_cell BK450002.out 0).trans rfl; have hcz14_1 : w11.cell? ⟨gb450002, 1, none⟩ = some (.string a1_1) := (blk_cell BK450002.out 1).trans rfl; have hfz14_0 := blk_frozen BK450002.out 0; have hfz14_1 := blk_frozen BK450002.out 1))
   go_ret
   exact ⟨by first | rfl | (simp [errW_none, errW_some] <;> rfl) | (simp [*, errW_none, errW_some] <;> rfl), by repeat (first | (with_reducible first | exact HB.out | apply below_alloc | apply pw_below_drewN | apply below_drew1 | refine below_set ?_ GE450001.out | refine below_set ?_ GE450002.out) | exact HB.out)⟩
 ·rw [if_neg c3] at H; have c3b0 : (a0_0.toList == a1_0.toList) = false := beq_eq_false_iff_ne.mpr c3; have c3b1 : (a0_0.toList != a1_0.toList) = true := bne_iff_ne.mpr c3; obtain rfl := Option.some.inj H
  go_enter Tryd.func45, Tryd.ntmps45
  go_wp2_with (first | ((with_reducible refine gate_dst (N := 2) rfl ?_); refine box_event ?hg (N := 2) ?hd (cs := #[.string a0_0, .string a0_1]) (t := 65) ?hr ?_; (case hd => rfl); (case hg => rfl); (case hr => exact zq_12); intro gb450001 hg w15 hbox hb; have n0_ := Aside0.mk (below_step zq_0 hb); have n1_ := Aside0.mk (hbox); have n2_ := Aside0.mk ((by rw [hg]; exact (below_size zq_0) : w.heap.size ≤ gb450001)); have n3_ := Aside0.mk ((by rw [hg]; exact (below_size zq_0) : w.heap.size ≤ gb450001)); clear HB; have HB := n0_; have BK450001 := n1_; have GW450001 := n2_; have GE450001 := n3_; clear n0_ n1_ n2_ n3_; clear hb hbox hg) | ((with_reducible refine gate_dst (N := 3) rfl ?_); refine box_event ?hg (N := 3) ?hd (cs := #[.string a1_0, .string a1_1]) (t := 65) ?hr ?_; (case hd => rfl); (case hg => rfl); (case hr => exact zq_12); intro gb450002 hg w16 hbox hb; have n0_ := Aside0.mk (blk_below (g := gb450001) (o := .cells #[.string a0_0, .string a0_1] 65 (0, 0)) zq_13 hb); have n1_ := Aside0.mk (below_step zq_10 hb); have n2_ := Aside0.mk (hbox); have n3_ := Aside0.mk ((by rw [hg]; exact (below_size zq_10) : w.heap.size ≤ gb450002)); have n4_ := Aside0.mk ((by rw [hg]; exact (below_size zq_10) : w.heap.size ≤ gb450002)); have n5_ := Aside0.mk ((by rw [hg]; exact Nat.ne_of_lt (blk_lt (g := gb450001) (o := .cells #[.string a0_0, .string a0_1] 65 (0, 0)) zq_13) : gb450001 ≠ gb450002)); have n6_ := Aside0.mk ((by rw [hg]; exact Nat.ne_of_gt (blk_lt (g := gb450001) (o := .cells #[.string a0_0, .string a0_1] 65 (0, 0)) zq_13) : gb450002 ≠ gb450001)); clear BK450001; clear HB; have BK450001 := n0_; have HB := n1_; have BK450002 := n2_; have GW450002 := n3_; have GE450002 := n4_; have NB450001_450002 := n5_; have NB450002_450001 := n6_; clear n0_ n1_ n2_ n3_ n4_ n5_ n6_; clear hb hbox hg; have hnb17 := NB450001_450002.out; have hnc17 := NB450002_450001.out; have hcz18_0 : w16.cell? ⟨gb450001, 0, none⟩ = some (.string a0_0) := (blk_cell BK450001.out 0).trans rfl; have hcz18_1 : w16.cell? ⟨gb450001, 1, none⟩ = some (.string a0_1) := (blk_cell BK450001.out 1).trans rfl; have hfz18_0 := blk_frozen BK450001.out 0; have hfz18_1 := blk_frozen BK450001.out 1; have hcz19_0 : w16.cell? ⟨gb450002, 0, none⟩ = some (.string a1_0) := (blk_cell BK450002.out 0).trans rfl; have hcz19_1 : w16.cell? ⟨gb450002, 1, none⟩ = some (.string a1_1) := (blk_cell BK450002.out 1).trans rfl; have hfz19_0 := blk_frozen BK450002.out 0; have hfz19_1 := blk_frozen BK450002.out 1))
  go_ret
  exact ⟨by first | rfl | (simp [errW_none, errW_some] <;> rfl) | (simp [*, errW_none, errW_some] <;> rfl), by repeat (first | (with_reducible first | exact HB.out | apply below_alloc | apply pw_below_drewN | apply below_drew1 | refine below_set ?_ GE450001.out | refine below_set ?_ GE450002.out) | exact HB.out)⟩
def laws_eqPairS.l0 : Nat → List (S65) → List (S65) → Int → Option (Bool)
 | 0, _, _, _ => none
 | k + 1, x0, x1, x5 => if x5 < (x0.length : Int) then (if 0 ≤ x5 then (if x5 < (x1.length : Int) then ((laws_eqPair.f ((rd_T65 x0 x5).f0) ((rd_T65 x0 x5).f1) ((rd_T65 x1 x5).f0) ((rd_T65 x1 x5).f1)).bind fun t130003 => (if t130003 = true then (laws_eqPairS.l0 k x0 x1 (wrap64 (x5 + 1))) else (some false))) else (none)) else (none)) else (some true)
def laws_eqPairS.f (k : Nat) (l0 : List (S65)) (l1 : List (S65)) : Option (Bool) := if (l0.length : Int) = (l1.length : Int) then (laws_eqPairS.l0 k l0 l1 0) else (some false)
def laws_eqPairS.T6 : Bool × List (List Nat × List Nat) := (true, [([], []), ([], []), ([0, 1], [0, 1]), ([2], [2]), ([], []), ([], []), ([4, 5], [4, 5]), ([6], [6]), ([3, 7], [3, 7]), ([8], [8])])
def laws_eqPairS.B6 : List Nat := [0, 0, 3, 7, 0, 0, 48, 112, 255, 511]
theorem laws_eqPairS.tab6 : rtab .any (opsOf Tryd.f13 6) = laws_eqPairS.T6 := by kernel_rfl
theorem laws_eqPairS.bits6 : waitsOk laws_eqPairS.T6.2 laws_eqPairS.B6 = true := by kernel_rfl
set_option maxHeartbeats 8000000 in
set_option maxRecDepth 100000 in
theorem laws_eqPairS.calls (k : Nat) (A0 : Option Addr) (c0 : Nat) (l0 : List (S65)) (A1 : Option Addr) (c1 : Nat) (l1 : List (S65)) (r : Bool) (w : World) (hr0 : Kd.C k65 w A0 l0.length l0) (hc0 : l0.length ≤ c0) (hr1 : Kd.C k65 w A1 l1.length l1) (hc1 : l1.length ≤ c1) (h : laws_eqPairS.f k l0 l1 = some r) :
  Calls Tryd.prog 13 #[.slice A0 l0.length c0, .slice A1 l1.length c1] w fun e w' => e = .returned (.bool r) ∧ Below w.heap.size w w' := by
 have hu65 := Tryd.underlying65; have HR0 := Aside0.mk hr0; have HC0 := Aside0.mk hc0; clear hr0 hc0; have HR1 := Aside0.mk hr1; have HC1 := Aside0.mk hc1; clear hr1 hc1; have HB := Aside0.mk (Below.refl w.heap.size w); have H : (if (l0.length : Int) = (l1.length : Int) then (laws_eqPairS.l0 k l0 l1 0) else (some false)) = some r := h; clear h
 by_cases c3 : (l0.length : Int) = (l1.length : Int)
 ·rw [if_pos c3] at H; have c3b0 : ((l0.length : Int) == (l1.length : Int)) = true := beq_iff_eq.mpr c3; have c3b1 : ((l0.length : Int) != (l1.length : Int)) = false := bne_eq_false_iff_eq.mpr c3; have c3b2 : (l0.length == l1.length) = true := by first | simpa using c3 | (simp at c3 ⊢; omega)
  clear c3; have H' := Aside0.mk H; clear H
  go_enter Tryd.func13, Tryd.ntmps13
  go_wp2
  go_loopg [5] k (fun kq v5 w' => ∃ (x5_1 : Int), v5 = .int .i64 x5_1 ∧ Aside0 (laws_eqPairS.l0 kq l0 l1 x5_1 = some r) ∧ Aside0 (kq ≤ k) ∧ Aside0 (Below w.heap.size w w'))
  case atStart => exact ⟨(0), zq_3, H', ⟨Nat.le_refl _⟩, ⟨by repeat (first | (with_reducible first | exact HB.out | apply below_alloc | apply pw_below_drewN | apply below_drew1) | exact HB.out)⟩⟩
  case round =>
   clear H'
   try clear c1
   try clear p2
   try clear c3
   try clear c3b0
   try clear c3b1
   try clear c3b2
   obtain ⟨x5_1, rfl, HA, HK1, HB⟩ := hrel
   cases gk with
   | zero => exact absurd HA.out (by simp [laws_eqPairS.l0])
   | succ k1 =>
    have H := HA.out; clear HA; simp only [laws_eqPairS.l0] at H
    by_cases c4 : x5_1 < (l0.length : Int)
    ·rw [if_pos c4] at H; have c4b0 : decide (x5_1 < (l0.length : Int)) = true := decide_eq_true c4; clear c4
     by_cases c5 : 0 ≤ x5_1
     ·rw [if_pos c5] at H; have c5b0 : decide (0 ≤ x5_1) = true := decide_eq_true c5; clear c5
      by_cases c6 : x5_1 < (l1.length : Int)
      ·rw [if_pos c6] at H; have c6b0 : decide (x5_1 < (l1.length : Int)) = true := decide_eq_true c6; clear c6; replace H := Option.bind_eq_some_iff.mp H; obtain ⟨t130003, A70, H⟩ := H; (try dsimp only at H); have A7 := Aside0.mk A70; clear A70
       by_cases c8 : t130003 = true
       ·subst c8; have H1 : (laws_eqPairS.l0 k1 l0 l1 (wrap64 (x5_1 + 1))) = some r := by rw [if_pos rfl] at H; exact H
        clear H; have H := H1; clear H1; have H' := Aside0.mk H; clear H
        try go_wp2
        have n0_ := Aside0.mk (below_drew1 HB.out); clear HB; have HB := n0_; clear n0_; have p130001 : 0 ≤ (x5_1 : Int) := of_decide_eq_true zq_2; have q130001 : x5_1 < (l0.length : Int) := of_decide_eq_true zq_2; obtain ⟨ad130001, e130001, hx130001_0, hx130001_1⟩ := at_T65 HR0.out x5_1 p130001 q130001; have hw130001_1 := hx130001_1; have hw130001_0 := hx130001_0
        cases e130001
        replace hx130001_0 := (HB.out.cell (World.block_lt_of_cell? w _ hx130001_0)).trans hx130001_0; replace hx130001_1 := (HB.out.cell (World.block_lt_of_cell? w _ hx130001_1)).trans hx130001_1; replace p130001 := eq_true p130001; replace q130001 := eq_true q130001; have p130002 : 0 ≤ (x5_1 : Int) := of_decide_eq_true zq_2; have q130002 : x5_1 < (l1.length : Int) := of_decide_eq_true zq_2; obtain ⟨ad130002, e130002, hx130002_0, hx130002_1⟩ := at_T65 HR1.out x5_1 p130002 q130002; have hw130002_1 := hx130002_1; have hw130002_0 := hx130002_0
        cases e130002
        replace hx130002_0 := (HB.out.cell (World.block_lt_of_cell? w _ hx130002_0)).trans hx130002_0; replace hx130002_1 := (HB.out.cell (World.block_lt_of_cell? w _ hx130002_1)).trans hx130002_1; replace p130002 := eq_true p130002; replace q130002 := eq_true q130002; refine start_ (n := 10) (S := fun w' => w'.cell? (ad130001.add ((x5_1).toNat * 2)) = some (.string ((rd_T65 l0 x5_1).f0)) ∧ w'.cell? ⟨(ad130001.add ((x5_1).toNat * 2)).block, (ad130001.add ((x5_1).toNat * 2)).off + 1, none⟩ = some (.string ((rd_T65 l0 x5_1).f1)) ∧ w'.cell? (ad130002.add ((x5_1).toNat * 2)) = some (.string ((rd_T65 l1 x5_1).f0)) ∧ w'.cell? ⟨(ad130002.add ((x5_1).toNat * 2)).block, (ad130002.add ((x5_1).toNat * 2)).off + 1, none⟩ = some (.string ((rd_T65 l1 x5_1).f1))) (ds := []) #[false, false, false, false, false, false, false, false, false, false] (by kernel_rfl) rfl rfl ⟨((HB.out.cell (World.block_lt_of_cell? w _ hw130001_0)).trans hw130001_0), ((HB.out.cell (World.block_lt_of_cell? w _ hw130001_1)).trans hw130001_1), ((HB.out.cell (World.block_lt_of_cell? w _ hw130002_0)).trans hw130002_0), ((HB.out.cell (World.block_lt_of_cell? w _ hw130002_1)).trans hw130002_1)⟩ (fun hHeld => ?_); refine with_tabW laws_eqPairS.tab6 laws_eqPairS.bits6 (fun HT_ HW_ => ?_); generalize wr.drew = w9 at HB hx130001_0 hx130001_1 hx130002_0 hx130002_1 hHeld ⊢; refine pq_ (i := 0) (N := some 17) HT_.out ?_; refine pq_ (i := 1) (N := some 18) HT_.out ?_; refine pq_ (i := 2) (N := some 19) HT_.out ?_; refine pq_ (i := 4) (N := some 21) HT_.out ?_; refine pq_ (i := 5) (N := some 22) HT_.out ?_; refine pq_ (i := 6) (N := some 23) HT_.out ?_; refine tq_ (i := 3) (N := some 20) HT_.out HW_.out hHeld (hy := by rintro w' ⟨s0, s1, s2, s3⟩; go_simp; with_reducible rfl) (h := ?_); refine tq_ (i := 7) (N := some 24) HT_.out HW_.out hHeld (hy := by rintro w' ⟨s0, s1, s2, s3⟩; go_simp; with_reducible rfl) (h := ?_); refine one_ (i := 8) (N := some 25) #[true, true, true, true, true, true, true, true, true, false] rfl rfl (one_of HT_.out (by kernel_rfl)) (by decide) (fun K hK => ?_); refine goes_ Tryd.func45 (by kernel_rfl) rfl #[.agg #[.string ((rd_T65 l0 x5_1).f0), .string ((rd_T65 l0 x5_1).f1)], .agg #[.string ((rd_T65 l1 x5_1).f0), .string ((rd_T65 l1 x5_1).f1)]] (by rfl) rfl rfl zq_1 ?_
        with_reducible refine (laws_eqPair.calls ((rd_T65 l0 x5_1).f0) ((rd_T65 l0 x5_1).f1) ((rd_T65 l1 x5_1).f0) ((rd_T65 l1 x5_1).f1) true _ A7.out).mono ?_
        rintro e w10 ⟨rfl, hb⟩; refine ⟨_, rfl, ?_⟩; have n0_ := Aside0.mk (below_step zq_0 hb); clear HB; have HB := n0_; clear n0_; (try clear hb); (try clear hb2); (try clear hk); (try clear hi); refine hK.out _ _ ⟨((HB.out.cell (World.block_lt_of_cell? w _ hw130001_0)).trans hw130001_0), ((HB.out.cell (World.block_lt_of_cell? w _ hw130001_1)).trans hw130001_1), ((HB.out.cell (World.block_lt_of_cell? w _ hw130002_0)).trans hw130002_0), ((HB.out.cell (World.block_lt_of_cell? w _ hw130002_1)).trans hw130002_1)⟩ (fun hHeld => ?_); clear hK K; refine norm_ (a' := ?_) ?_ ?_; rotate_left
        ·show Act.put _ (some 25) _ = _; simp only [Act.put, List.setIfInBounds_toArray, List.set_cons_zero, List.set_cons_succ, i64_w, i32_w]; rfl
        refine pq_ (i := 9) (N := some 26) HT_.out ?_; refine done_ (done_of HT_.out (by kernel_rfl)) ?_
        try go_wp2
        go_roundg k1
        case measure => have := HK1.out; omega
        case rel => exact ⟨(wrap64 (x5_1 + 1)), zq_3, H', ⟨by have := HK1.out; omega⟩, ⟨by repeat (first | (with_reducible first | exact HB.out | apply below_alloc | apply pw_below_drewN | apply below_drew1) | exact HB.out)⟩⟩
       ·replace c8 := Bool.eq_false_iff.mpr c8; subst c8; have H1 : (some false) = some r := by rw [if_neg (show ¬ (false = true) by decide)] at H; exact H
        clear H; have H := H1; clear H1; obtain rfl := Option.some.inj H
        try go_wp2
        have n0_ := Aside0.mk (below_drew1 HB.out); clear HB; have HB := n0_; clear n0_; have p130001 : 0 ≤ (x5_1 : Int) := of_decide_eq_true zq_2; have q130001 : x5_1 < (l0.length : Int) := of_decide_eq_true zq_2; obtain ⟨ad130001, e130001, hx130001_0, hx130001_1⟩ := at_T65 HR0.out x5_1 p130001 q130001; have hw130001_1 := hx130001_1; have hw130001_0 := hx130001_0
        cases e130001
        replace hx130001_0 := (HB.out.cell (World.block_lt_of_cell? w _ hx130001_0)).trans hx130001_0; replace hx130001_1 := (HB.out.cell (World.block_lt_of_cell? w _ hx130001_1)).trans hx130001_1; replace p130001 := eq_true p130001; replace q130001 := eq_true q130001; have p130002 : 0 ≤ (x5_1 : Int) := of_decide_eq_true zq_2; have q130002 : x5_1 < (l1.length : Int) := of_decide_eq_true zq_2; obtain ⟨ad130002, e130002, hx130002_0, hx130002_1⟩ := at_T65 HR1.out x5_1 p130002 q130002; have hw130002_1 := hx130002_1; have hw130002_0 := hx130002_0
        cases e130002
        replace hx130002_0 := (HB.out.cell (World.block_lt_of_cell? w _ hx130002_0)).trans hx130002_0; replace hx130002_1 := (HB.out.cell (World.block_lt_of_cell? w _ hx130002_1)).trans hx130002_1; replace p130002 := eq_true p130002; replace q130002 := eq_true q130002; refine start_ (n := 10) (S := fun w' => w'.cell? (ad130001.add ((x5_1).toNat * 2)) = some (.string ((rd_T65 l0 x5_1).f0)) ∧ w'.cell? ⟨(ad130001.add ((x5_1).toNat * 2)).block, (ad130001.add ((x5_1).toNat * 2)).off + 1, none⟩ = some (.string ((rd_T65 l0 x5_1).f1)) ∧ w'.cell? (ad130002.add ((x5_1).toNat * 2)) = some (.string ((rd_T65 l1 x5_1).f0)) ∧ w'.cell? ⟨(ad130002.add ((x5_1).toNat * 2)).block, (ad130002.add ((x5_1).toNat * 2)).off + 1, none⟩ = some (.string ((rd_T65 l1 x5_1).f1))) (ds := []) #[false, false, false, false, false, false, false, false, false, false] (by kernel_rfl) rfl rfl ⟨((HB.out.cell (World.block_lt_of_cell? w _ hw130001_0)).trans hw130001_0), ((HB.out.cell (World.block_lt_of_cell? w _ hw130001_1)).trans hw130001_1), ((HB.out.cell (World.block_lt_of_cell? w _ hw130002_0)).trans hw130002_0), ((HB.out.cell (World.block_lt_of_cell? w _ hw130002_1)).trans hw130002_1)⟩ (fun hHeld => ?_); refine with_tabW laws_eqPairS.tab6 laws_eqPairS.bits6 (fun HT_ HW_ => ?_); generalize wr.drew = w11 at HB hx130001_0 hx130001_1 hx130002_0 hx130002_1 hHeld ⊢; refine pq_ (i := 0) (N := some 17) HT_.out ?_; refine pq_ (i := 1) (N := some 18) HT_.out ?_; refine pq_ (i := 2) (N := some 19) HT_.out ?_; refine pq_ (i := 4) (N := some 21) HT_.out ?_; refine pq_ (i := 5) (N := some 22) HT_.out ?_; refine pq_ (i := 6) (N := some 23) HT_.out ?_; refine tq_ (i := 3) (N := some 20) HT_.out HW_.out hHeld (hy := by rintro w' ⟨s0, s1, s2, s3⟩; go_simp; with_reducible rfl) (h := ?_); refine tq_ (i := 7) (N := some 24) HT_.out HW_.out hHeld (hy := by rintro w' ⟨s0, s1, s2, s3⟩; go_simp; with_reducible rfl) (h := ?_); refine one_ (i := 8) (N := some 25) #[true, true, true, true, true, true, true, true, true, false] rfl rfl (one_of HT_.out (by kernel_rfl)) (by decide) (fun K hK => ?_); refine goes_ Tryd.func45 (by kernel_rfl) rfl #[.agg #[.string ((rd_T65 l0 x5_1).f0), .string ((rd_T65 l0 x5_1).f1)], .agg #[.string ((rd_T65 l1 x5_1).f0), .string ((rd_T65 l1 x5_1).f1)]] (by rfl) rfl rfl zq_1 ?_
        with_reducible refine (laws_eqPair.calls ((rd_T65 l0 x5_1).f0) ((rd_T65 l0 x5_1).f1) ((rd_T65 l1 x5_1).f0) ((rd_T65 l1 x5_1).f1) false _ A7.out).mono ?_
        rintro e w12 ⟨rfl, hb⟩; refine ⟨_, rfl, ?_⟩; have n0_ := Aside0.mk (below_step zq_0 hb); clear HB; have HB := n0_; clear n0_; (try clear hb); (try clear hb2); (try clear hk); (try clear hi); refine hK.out _ _ ⟨((HB.out.cell (World.block_lt_of_cell? w _ hw130001_0)).trans hw130001_0), ((HB.out.cell (World.block_lt_of_cell? w _ hw130001_1)).trans hw130001_1), ((HB.out.cell (World.block_lt_of_cell? w _ hw130002_0)).trans hw130002_0), ((HB.out.cell (World.block_lt_of_cell? w _ hw130002_1)).trans hw130002_1)⟩ (fun hHeld => ?_); clear hK K; refine norm_ (a' := ?_) ?_ ?_; rotate_left
        ·show Act.put _ (some 25) _ = _; simp only [Act.put, List.setIfInBounds_toArray, List.set_cons_zero, List.set_cons_succ, i64_w, i32_w]; rfl
        refine pq_ (i := 9) (N := some 26) HT_.out ?_; refine done_ (done_of HT_.out (by kernel_rfl)) ?_
        try go_wp2
        go_ret
        exact ⟨by first | rfl | (simp [errW_none, errW_some] <;> rfl) | (simp [*, errW_none, errW_some] <;> rfl), by repeat (first | (with_reducible first | exact HB.out | apply below_alloc | apply pw_below_drewN | apply below_drew1) | exact HB.out)⟩
      ·rw [if_neg c6] at H; exact absurd H (by simp)
     ·rw [if_neg c5] at H; exact absurd H (by simp)
    ·rw [if_neg c4] at H; have c4b0 : decide (x5_1 < (l0.length : Int)) = false := decide_eq_false c4; clear c4; obtain rfl := Option.some.inj H
     go_wp2
     go_ret
     exact ⟨by first | rfl | (simp [errW_none, errW_some] <;> rfl) | (simp [*, errW_none, errW_some] <;> rfl), by repeat (first | (with_reducible first | exact HB.out | apply below_alloc | apply pw_below_drewN | apply below_drew1) | exact HB.out)⟩
 ·rw [if_neg c3] at H; have c3b0 : ((l0.length : Int) == (l1.length : Int)) = false := beq_eq_false_iff_ne.mpr c3; have c3b1 : ((l0.length : Int) != (l1.length : Int)) = true := bne_iff_ne.mpr c3; have c3b2 : (l0.length == l1.length) = false := by first | simpa using c3 | (simp at c3 ⊢; omega)
  obtain rfl := Option.some.inj H
  go_enter Tryd.func13, Tryd.ntmps13
  go_wp2
  go_ret
  exact ⟨by first | rfl | (simp [errW_none, errW_some] <;> rfl) | (simp [*, errW_none, errW_some] <;> rfl), by repeat (first | (with_reducible first | exact HB.out | apply below_alloc | apply pw_below_drewN | apply below_drew1) | exact HB.out)⟩
def laws_szPair.f (a0_0 : ByteArray) (a0_1 : ByteArray) (a1 : Int) : Option (Int) := if (wrap64 (a1 - (a0_0.size : Int))) < 0 then (some (-1)) else (if (wrap64 ((wrap64 (a1 - (a0_0.size : Int))) - (a0_1.size : Int))) < 0 then (some (-1)) else (some (wrap64 ((wrap64 (a1 - (a0_0.size : Int))) - (a0_1.size : Int)))))
set_option maxHeartbeats 8000000 in
set_option maxRecDepth 100000 in
theorem laws_szPair.calls (a0_0 : ByteArray) (a0_1 : ByteArray) (a1 : Int) (r : Int) (w : World) (h : laws_szPair.f a0_0 a0_1 a1 = some r) :
  Calls Tryd.prog 36 #[.agg #[.string a0_0, .string a0_1], .int .i64 a1] w fun e w' => e = .returned (.int .i64 r) ∧ Below w.heap.size w w' := by
 have hu60 := Tryd.underlying60; have HB := Aside0.mk (Below.refl w.heap.size w); have H : (if (wrap64 (a1 - (a0_0.size : Int))) < 0 then (some (-1)) else (if (wrap64 ((wrap64 (a1 - (a0_0.size : Int))) - (a0_1.size : Int))) < 0 then (some (-1)) else (some (wrap64 ((wrap64 (a1 - (a0_0.size : Int))) - (a0_1.size : Int)))))) = some r := h; clear h
 by_cases c3 : (wrap64 (a1 - (a0_0.size : Int))) < 0
 ·rw [if_pos c3] at H; have c3b0 : decide ((wrap64 (a1 - (a0_0.size : Int))) < 0) = true := decide_eq_true c3; clear c3; obtain rfl := Option.some.inj H
  go_enter Tryd.func36, Tryd.ntmps36
  go_wp2_with (first | ((with_reducible refine gate_dst (N := 2) rfl ?_); refine box_event ?hg (N := 2) ?hd (cs := #[.string a0_0, .string a0_1]) (t := 60) ?hr ?_; (case hd => rfl); (case hg => rfl); (case hr => exact zq_12); intro gb360001 hg w4 hbox hb; have n0_ := Aside0.mk (below_step zq_0 hb); have n1_ := Aside0.mk (hbox); have n2_ := Aside0.mk ((by rw [hg]; exact (below_size zq_0) : w.heap.size ≤ gb360001)); have n3_ := Aside0.mk ((by rw [hg]; exact (below_size zq_0) : w.heap.size ≤ gb360001)); clear HB; have HB := n0_; have BK360001 := n1_; have GW360001 := n2_; have GE360001 := n3_; clear n0_ n1_ n2_ n3_; clear hb hbox hg; have hcz5_0 : w4.cell? ⟨gb360001, 0, none⟩ = some (.string a0_0) := (blk_cell BK360001.out 0).trans rfl; have hcz5_1 : w4.cell? ⟨gb360001, 1, none⟩ = some (.string a0_1) := (blk_cell BK360001.out 1).trans rfl; have hfz5_0 := blk_frozen BK360001.out 0; have hfz5_1 := blk_frozen BK360001.out 1))
  go_ret
  exact ⟨by first | rfl | (simp [errW_none, errW_some] <;> rfl) | (simp [*, errW_none, errW_some] <;> rfl), by repeat (first | (with_reducible first | exact HB.out | apply below_alloc | apply pw_below_drewN | apply below_drew1 | refine below_set ?_ GE360001.out) | exact HB.out)⟩
 ·rw [if_neg c3] at H; have c3b0 : decide ((wrap64 (a1 - (a0_0.size : Int))) < 0) = false := decide_eq_false c3; clear c3
  by_cases c6 : (wrap64 ((wrap64 (a1 - (a0_0.size : Int))) - (a0_1.size : Int))) < 0
  ·rw [if_pos c6] at H; have c6b0 : decide ((wrap64 ((wrap64 (a1 - (a0_0.size : Int))) - (a0_1.size : Int))) < 0) = true := decide_eq_true c6; clear c6; obtain rfl := Option.some.inj H
   go_enter Tryd.func36, Tryd.ntmps36
   go_wp2_with (first | ((with_reducible refine gate_dst (N := 2) rfl ?_); refine box_event ?hg (N := 2) ?hd (cs := #[.string a0_0, .string a0_1]) (t := 60) ?hr ?_; (case hd => rfl); (case hg => rfl); (case hr => exact zq_12); intro gb360001 hg w7 hbox hb; have n0_ := Aside0.mk (below_step zq_0 hb); have n1_ := Aside0.mk (hbox); have n2_ := Aside0.mk ((by rw [hg]; exact (below_size zq_0) : w.heap.size ≤ gb360001)); have n3_ := Aside0.mk ((by rw [hg]; exact (below_size zq_0) : w.heap.size ≤ gb360001)); clear HB; have HB := n0_; have BK360001 := n1_; have GW360001 := n2_; have GE360001 := n3_; clear n0_ n1_ n2_ n3_; clear hb hbox hg; have hcz8_0 : w7.cell? ⟨gb360001, 0, none⟩ = some (.string a0_0) := (blk_cell BK360001.out 0).trans rfl; have hcz8_1 : w7.cell? ⟨gb360001, 1, none⟩ = some (.string a0_1) := (blk_cell BK360001.out 1).trans rfl; have hfz8_0 := blk_frozen BK360001.out 0; have hfz8_1 := blk_frozen BK360001.out 1))
   go_ret
   exact ⟨by first | rfl | (simp [errW_none, errW_some] <;> rfl) | (simp [*, errW_none, errW_some] <;> rfl), by repeat (first | (with_reducible first | exact HB.out | apply below_alloc | apply pw_below_drewN | apply below_drew1 | refine below_set ?_ GE360001.out) | exact HB.out)⟩
  ·rw [if_neg c6] at H; have c6b0 : decide ((wrap64 ((wrap64 (a1 - (a0_0.size : Int))) - (a0_1.size : Int))) < 0) = false := decide_eq_false c6; clear c6; obtain rfl := Option.some.inj H
   go_enter Tryd.func36, Tryd.ntmps36
   go_wp2_with (first | ((with_reducible refine gate_dst (N := 2) rfl ?_); refine box_event ?hg (N := 2) ?hd (cs := #[.string a0_0, .string a0_1]) (t := 60) ?hr ?_; (case hd => rfl); (case hg => rfl); (case hr => exact zq_12); intro gb360001 hg w9 hbox hb; have n0_ := Aside0.mk (below_step zq_0 hb); have n1_ := Aside0.mk (hbox); have n2_ := Aside0.mk ((by rw [hg]; exact (below_size zq_0) : w.heap.size ≤ gb360001)); have n3_ := Aside0.mk ((by rw [hg]; exact (below_size zq_0) : w.heap.size ≤ gb360001)); clear HB; have HB := n0_; have BK360001 := n1_; have GW360001 := n2_; have GE360001 := n3_; clear n0_ n1_ n2_ n3_; clear hb hbox hg; have hcz10_0 : w9.cell? ⟨gb360001, 0, none⟩ = some (.string a0_0) := (blk_cell BK360001.out 0).trans rfl; have hcz10_1 : w9.cell? ⟨gb360001, 1, none⟩ = some (.string a0_1) := (blk_cell BK360001.out 1).trans rfl; have hfz10_0 := blk_frozen BK360001.out 0; have hfz10_1 := blk_frozen BK360001.out 1))
   go_ret
   exact ⟨by first | rfl | (simp [errW_none, errW_some] <;> rfl) | (simp [*, errW_none, errW_some] <;> rfl), by repeat (first | (with_reducible first | exact HB.out | apply below_alloc | apply pw_below_drewN | apply below_drew1 | refine below_set ?_ GE360001.out) | exact HB.out)⟩
def laws_szPairS.l0 : Nat → List (S60) → Int → Int → Option (Int)
 | 0, _, _, _ => none
 | k + 1, x0, x1, x5 => if x5 < (x0.length : Int) then (if 0 ≤ x5 then ((laws_szPair.f ((rd_T60 x0 x5).f0) ((rd_T60 x0 x5).f1) x1).bind fun t90002 => (if t90002 < 0 then (some (-1)) else (laws_szPairS.l0 k x0 t90002 (wrap64 (x5 + 1))))) else (none)) else (some x1)
def laws_szPairS.f (k : Nat) (l0 : List (S60)) (a1 : Int) : Option (Int) := if (wrap64 (a1 - (l0.length : Int))) < 0 then (some (-1)) else (laws_szPairS.l0 k l0 (wrap64 (a1 - (l0.length : Int))) 0)
set_option maxHeartbeats 8000000 in
set_option maxRecDepth 100000 in
theorem laws_szPairS.calls (k : Nat) (A0 : Option Addr) (c0 : Nat) (l0 : List (S60)) (a1 : Int) (r : Int) (w : World) (hr0 : Kd.C k60 w A0 l0.length l0) (hc0 : l0.length ≤ c0) (h : laws_szPairS.f k l0 a1 = some r) :
  Calls Tryd.prog 9 #[.slice A0 l0.length c0, .int .i64 a1] w fun e w' => e = .returned (.int .i64 r) ∧ Below w.heap.size w w' := by
 have hu60 := Tryd.underlying60; have HR0 := Aside0.mk hr0; have HC0 := Aside0.mk hc0; clear hr0 hc0; have HB := Aside0.mk (Below.refl w.heap.size w); have H : (if (wrap64 (a1 - (l0.length : Int))) < 0 then (some (-1)) else (laws_szPairS.l0 k l0 (wrap64 (a1 - (l0.length : Int))) 0)) = some r := h; clear h
 by_cases c3 : (wrap64 (a1 - (l0.length : Int))) < 0
 ·rw [if_pos c3] at H; have c3b0 : decide ((wrap64 (a1 - (l0.length : Int))) < 0) = true := decide_eq_true c3; clear c3; obtain rfl := Option.some.inj H
  go_enter Tryd.func9, Tryd.ntmps9
  go_wp2
  go_ret
  exact ⟨by first | rfl | (simp [errW_none, errW_some] <;> rfl) | (simp [*, errW_none, errW_some] <;> rfl), by repeat (first | (with_reducible first | exact HB.out | apply below_alloc | apply pw_below_drewN | apply below_drew1) | exact HB.out)⟩
 ·rw [if_neg c3] at H; have c3b0 : decide ((wrap64 (a1 - (l0.length : Int))) < 0) = false := decide_eq_false c3; clear c3; have H' := Aside0.mk H; clear H
  go_enter Tryd.func9, Tryd.ntmps9
  go_wp2
  go_loopg [1, 5] k (fun kq v1 v5 w' => ∃ (x1_1 : Int) (x5_1 : Int), v1 = .int .i64 x1_1 ∧ v5 = .int .i64 x5_1 ∧ Aside0 (laws_szPairS.l0 kq l0 x1_1 x5_1 = some r) ∧ Aside0 (kq ≤ k) ∧ Aside0 (Below w.heap.size w w'))
  case atStart => exact ⟨(wrap64 (a1 - (l0.length : Int))), (0), zq_3, zq_3, H', ⟨Nat.le_refl _⟩, ⟨by repeat (first | (with_reducible first | exact HB.out | apply below_alloc | apply pw_below_drewN | apply below_drew1) | exact HB.out)⟩⟩
  case round =>
   clear H'
   try clear p2
   try clear c3
   try clear c3b0
   obtain ⟨x1_1, x5_1, rfl, rfl, HA, HK1, HB⟩ := hrel
   cases gk with
   | zero => exact absurd HA.out (by simp [laws_szPairS.l0])
   | succ k1 =>
    have H := HA.out; clear HA; simp only [laws_szPairS.l0] at H
    by_cases c4 : x5_1 < (l0.length : Int)
    ·rw [if_pos c4] at H; have c4b0 : decide (x5_1 < (l0.length : Int)) = true := decide_eq_true c4; clear c4
     by_cases c5 : 0 ≤ x5_1
     ·rw [if_pos c5] at H; have c5b0 : decide (0 ≤ x5_1) = true := decide_eq_true c5; clear c5; replace H := Option.bind_eq_some_iff.mp H; obtain ⟨t90002, A60, H⟩ := H; (try dsimp only at H); have A6 := Aside0.mk A60; clear A60
      by_cases c7 : t90002 < 0
      ·rw [if_pos c7] at H; have c7b0 : decide (t90002 < 0) = true := decide_eq_true c7; clear c7; obtain rfl := Option.some.inj H; have p90001 : 0 ≤ (x5_1 : Int) := of_decide_eq_true zq_2; have q90001 : x5_1 < (l0.length : Int) := of_decide_eq_true zq_2; obtain ⟨ad90001, e90001, hx90001_0, hx90001_1⟩ := at_T60 HR0.out x5_1 p90001 q90001
       cases e90001
       replace hx90001_0 := (HB.out.cell (World.block_lt_of_cell? w _ hx90001_0)).trans hx90001_0; replace hx90001_1 := (HB.out.cell (World.block_lt_of_cell? w _ hx90001_1)).trans hx90001_1; replace p90001 := eq_true p90001; replace q90001 := eq_true q90001
       go_wp2_with (first | ((with_reducible refine gate_callee (f := 36) rfl ?_); refine goesL_ (some 23) rfl rfl Tryd.func36 (by kernel_rfl) rfl #[.agg #[.string ((rd_T60 l0 x5_1).f0), .string ((rd_T60 l0 x5_1).f1)], .int .i64 x1_1] rfl zq_1 ?_; (with_reducible refine (laws_szPair.calls ((rd_T60 l0 x5_1).f0) ((rd_T60 l0 x5_1).f1) x1_1 t90002 _ A6.out).mono ?_); rintro e w8 ⟨rfl, hb⟩; refine ⟨_, rfl, ?_⟩; have n0_ := Aside0.mk (below_step zq_0 hb); clear HB; have HB := n0_; clear n0_; (try clear hb); (try clear hb2); (try clear hk); (try clear hi)))
       go_ret
       exact ⟨by first | rfl | (simp [errW_none, errW_some] <;> rfl) | (simp [*, errW_none, errW_some] <;> rfl), by repeat (first | (with_reducible first | exact HB.out | apply below_alloc | apply pw_below_drewN | apply below_drew1) | exact HB.out)⟩
      ·rw [if_neg c7] at H; have c7b0 : decide (t90002 < 0) = false := decide_eq_false c7; clear c7; have H' := Aside0.mk H; clear H; have p90001 : 0 ≤ (x5_1 : Int) := of_decide_eq_true zq_2; have q90001 : x5_1 < (l0.length : Int) := of_decide_eq_true zq_2; obtain ⟨ad90001, e90001, hx90001_0, hx90001_1⟩ := at_T60 HR0.out x5_1 p90001 q90001
       cases e90001
       replace hx90001_0 := (HB.out.cell (World.block_lt_of_cell? w _ hx90001_0)).trans hx90001_0; replace hx90001_1 := (HB.out.cell (World.block_lt_of_cell? w _ hx90001_1)).trans hx90001_1; replace p90001 := eq_true p90001; replace q90001 := eq_true q90001
       go_wp2_with (first | ((with_reducible refine gate_callee (f := 36) rfl ?_); refine goesL_ (some 23) rfl rfl Tryd.func36 (by kernel_rfl) rfl #[.agg #[.string ((rd_T60 l0 x5_1).f0), .string ((rd_T60 l0 x5_1).f1)], .int .i64 x1_1] rfl zq_1 ?_; (with_reducible refine (laws_szPair.calls ((rd_T60 l0 x5_1).f0) ((rd_T60 l0 x5_1).f1) x1_1 t90002 _ A6.out).mono ?_); rintro e w9 ⟨rfl, hb⟩; refine ⟨_, rfl, ?_⟩; have n0_ := Aside0.mk (below_step zq_0 hb); clear HB; have HB := n0_; clear n0_; (try clear hb); (try clear hb2); (try clear hk); (try clear hi)))
       go_roundg k1
       case measure => have := HK1.out; omega
       case rel => exact ⟨(t90002), (wrap64 (x5_1 + 1)), zq_3, zq_3, H', ⟨by have := HK1.out; omega⟩, ⟨by repeat (first | (with_reducible first | exact HB.out | apply below_alloc | apply pw_below_drewN | apply below_drew1) | exact HB.out)⟩⟩
     ·rw [if_neg c5] at H; exact absurd H (by simp)
    ·rw [if_neg c4] at H; have c4b0 : decide (x5_1 < (l0.length : Int)) = false := decide_eq_false c4; clear c4; obtain rfl := Option.some.inj H
     go_wp2
     go_ret
     exact ⟨by first | rfl | (simp [errW_none, errW_some] <;> rfl) | (simp [*, errW_none, errW_some] <;> rfl), by repeat (first | (with_reducible first | exact HB.out | apply below_alloc | apply pw_below_drewN | apply below_drew1) | exact HB.out)⟩
def laws_toPair.f (a0_0 : ByteArray) (a0_1 : ByteArray) : Option (ByteArray × ByteArray) := some (a0_0, a0_1)
set_option maxHeartbeats 8000000 in
set_option maxRecDepth 100000 in
theorem laws_toPair.calls (a0_0 : ByteArray) (a0_1 : ByteArray) (r1 : ByteArray) (r2 : ByteArray) (w : World) (h : laws_toPair.f a0_0 a0_1 = some (r1, r2)) :
  Calls Tryd.prog 40 #[.agg #[.string a0_0, .string a0_1]] w fun e w' => e = .returned (.agg #[.string r1, .string r2]) ∧ Below w.heap.size w w' := by
 have hu60 := Tryd.underlying60; have hu65 := Tryd.underlying65; have HB := Aside0.mk (Below.refl w.heap.size w); have H : (some (a0_0, a0_1)) = some (r1, r2) := h; clear h; simp only [Option.some.injEq, Prod.mk.injEq] at H; obtain ⟨rfl, rfl⟩ := H
 go_enter Tryd.func40, Tryd.ntmps40
 go_wp2_with (first | ((with_reducible refine gate_dst (N := 1) rfl ?_); refine box_event ?hg (N := 1) ?hd (cs := #[.string a0_0, .string a0_1]) (t := 60) ?hr ?_; (case hd => rfl); (case hg => rfl); (case hr => exact zq_12); intro gb400001 hg w2 hbox hb; have n0_ := Aside0.mk (below_step zq_0 hb); have n1_ := Aside0.mk (hbox); have n2_ := Aside0.mk ((by rw [hg]; exact (below_size zq_0) : w.heap.size ≤ gb400001)); have n3_ := Aside0.mk ((by rw [hg]; exact (below_size zq_0) : w.heap.size ≤ gb400001)); clear HB; have HB := n0_; have BK400001 := n1_; have GW400001 := n2_; have GE400001 := n3_; clear n0_ n1_ n2_ n3_; clear hb hbox hg) | ((with_reducible refine gate_dst (N := 2) rfl ?_); refine box_event ?hg (N := 2) ?hd (cs := #[.string (⟨#[]⟩ : ByteArray), .string (⟨#[]⟩ : ByteArray)]) (t := 65) ?hr ?_; (case hd => rfl); (case hg => rfl); (case hr => exact zq_12); intro gb400002 hg w3 hbox hb; have n0_ := Aside0.mk (blk_below (g := gb400001) (o := .cells #[.string a0_0, .string a0_1] 60 (0, 0)) zq_20 hb); have n1_ := Aside0.mk (below_step zq_29 hb); have n2_ := Aside0.mk (hbox); have n3_ := Aside0.mk ((by rw [hg]; exact (below_size zq_29) : w.heap.size ≤ gb400002)); have n4_ := Aside0.mk ((by rw [hg]; exact (below_size zq_29) : w.heap.size ≤ gb400002)); have n5_ := Aside0.mk ((by rw [hg]; exact Nat.ne_of_lt (blk_lt (g := gb400001) (o := .cells #[.string a0_0, .string a0_1] 60 (0, 0)) zq_20) : gb400001 ≠ gb400002)); have n6_ := Aside0.mk ((by rw [hg]; exact Nat.ne_of_gt (blk_lt (g := gb400001) (o := .cells #[.string a0_0, .string a0_1] 60 (0, 0)) zq_20) : gb400002 ≠ gb400001)); clear BK400001; clear HB; have BK400001 := n0_; have HB := n1_; have BK400002 := n2_; have GW400002 := n3_; have GE400002 := n4_; have NB400001_400002 := n5_; have NB400002_400001 := n6_; clear n0_ n1_ n2_ n3_ n4_ n5_ n6_; clear hb hbox hg) | ((with_reducible refine gate_dst (N := 3) rfl ?_); refine box_event ?hg (N := 3) ?hd (cs := #[.string (⟨#[]⟩ : ByteArray), .string (⟨#[]⟩ : ByteArray)]) (t := 65) ?hr ?_; (case hd => rfl); (case hg => rfl); (case hr => exact zq_12); intro gb400003 hg w4 hbox hb; have n0_ := Aside0.mk (blk_below (g := gb400001) (o := .cells #[.string a0_0, .string a0_1] 60 (0, 0)) zq_20 hb); have n1_ := Aside0.mk (blk_below (g := gb400002) (o := .cells #[.string (⟨#[]⟩ : ByteArray), .string (⟨#[]⟩ : ByteArray)] 65 (0, 0)) zq_36 hb); have n2_ := Aside0.mk (below_step zq_25 hb); have n3_ := Aside0.mk (hbox); have n4_ := Aside0.mk ((by rw [hg]; exact (below_size zq_25) : w.heap.size ≤ gb400003)); have n5_ := Aside0.mk ((by rw [hg]; exact (below_size zq_25) : w.heap.size ≤ gb400003)); have n6_ := Aside0.mk ((by rw [hg]; exact Nat.ne_of_lt (blk_lt (g := gb400001) (o := .cells #[.string a0_0, .string a0_1] 60 (0, 0)) zq_20) : gb400001 ≠ gb400003)); have n7_ := Aside0.mk ((by rw [hg]; exact Nat.ne_of_gt (blk_lt (g := gb400001) (o := .cells #[.string a0_0, .string a0_1] 60 (0, 0)) zq_20) : gb400003 ≠ gb400001)); have n8_ := Aside0.mk ((by rw [hg]; exact Nat.ne_of_lt (blk_lt (g := gb400002) (o := .cells #[.string (⟨#[]⟩ : ByteArray), .string (⟨#[]⟩ : ByteArray)] 65 (0, 0)) zq_36) : gb400002 ≠ gb400003)); have n9_ := Aside0.mk ((by rw [hg]; exact Nat.ne_of_gt (blk_lt (g := gb400002) (o := .cells #[.string (⟨#[]⟩ : ByteArray), .string (⟨#[]⟩ : ByteArray)] 65 (0, 0)) zq_36) : gb400003 ≠ gb400002)); clear BK400001; clear BK400002; clear HB; have BK400001 := n0_; have BK400002 := n1_; have HB := n2_; have BK400003 := n3_; have GW400003 := n4_; have GE400003 := n5_; have NB400001_400003 := n6_; have NB400003_400001 := n7_; have NB400002_400003 := n8_; have NB400003_400002 := n9_; clear n0_ n1_ n2_ n3_ n4_ n5_ n6_ n7_ n8_ n9_; clear hb hbox hg; have hnb5 := NB400001_400002.out; have hnc5 := NB400002_400001.out; have hnb6 := NB400001_400003.out; have hnc6 := NB400003_400001.out; have hcz7_0 : w4.cell? ⟨gb400001, 0, none⟩ = some (.string a0_0) := (blk_cell BK400001.out 0).trans rfl; have hcz7_1 : w4.cell? ⟨gb400001, 1, none⟩ = some (.string a0_1) := (blk_cell BK400001.out 1).trans rfl; have hfz7_0 := blk_frozen BK400001.out 0; have hfz7_1 := blk_frozen BK400001.out 1; have hnb8 := NB400003_400002.out; have hnc8 := NB400002_400003.out; have hcz9_0 : w4.cell? ⟨gb400003, 0, none⟩ = some (.string (⟨#[]⟩ : ByteArray)) := (blk_cell BK400003.out 0).trans rfl; have hcz9_1 : w4.cell? ⟨gb400003, 1, none⟩ = some (.string (⟨#[]⟩ : ByteArray)) := (blk_cell BK400003.out 1).trans rfl; have hfz9_0 := blk_frozen BK400003.out 0; have hfz9_1 := blk_frozen BK400003.out 1; have hcz10_0 : w4.cell? ⟨gb400002, 0, none⟩ = some (.string (⟨#[]⟩ : ByteArray)) := (blk_cell BK400002.out 0).trans rfl; have hcz10_1 : w4.cell? ⟨gb400002, 1, none⟩ = some (.string (⟨#[]⟩ : ByteArray)) := (blk_cell BK400002.out 1).trans rfl; have hfz10_0 := blk_frozen BK400002.out 0; have hfz10_1 := blk_frozen BK400002.out 1))
 refine bodyPost_ret (results_cell_row rfl _ _ gb400002 65 #[.string a0_0, .string a0_1] (0, 0) _ rfl (by (with_reducible repeat (first | refine blk_drewN ?_ _ | refine blk_drew ?_ | refine blk_alloc ?_ _)); refine blk_put (cs := #[.string a0_0, .string (⟨#[]⟩ : ByteArray)]) ?_ 1 _ rfl; (with_reducible repeat (first | refine blk_drewN ?_ _ | refine blk_drew ?_ | refine blk_alloc ?_ _)); refine blk_put (cs := #[.string (⟨#[]⟩ : ByteArray), .string (⟨#[]⟩ : ByteArray)]) ?_ 0 _ rfl; (with_reducible repeat (first | refine blk_drewN ?_ _ | refine blk_drew ?_ | refine blk_alloc ?_ _)); refine blk_far ?_ NB400002_400003.out _; (with_reducible repeat (first | refine blk_drewN ?_ _ | refine blk_drew ?_ | refine blk_alloc ?_ _)); refine blk_far ?_ NB400002_400003.out _; (with_reducible repeat (first | refine blk_drewN ?_ _ | refine blk_drew ?_ | refine blk_alloc ?_ _)); exact BK400002.out) Tryd.underlying65 rfl (by kernel_rfl)) rfl ?_; exact ⟨by first | rfl | (simp [errW_none, errW_some] <;> rfl) | (simp [*, errW_none, errW_some] <;> rfl), by repeat (first | (with_reducible first | exact HB.out | apply below_alloc | apply pw_below_drewN | apply below_drew1 | refine below_set ?_ GE400001.out | refine below_set ?_ GE400002.out | refine below_set ?_ GE400003.out) | exact HB.out)⟩
def laws_toPairS.l0 : Nat → List (S60) → List (S65) → Int → Option ((List (S65)))
 | 0, _, _, _ => none
 | k + 1, x0, x3, x4 => if x4 < (x0.length : Int) then (if 0 ≤ x4 then ((laws_toPair.f ((rd_T60 x0 x4).f0) ((rd_T60 x0 x4).f1)).bind fun bt110005 => (if x4 < (x3.length : Int) then (laws_toPairS.l0 k x0 (x3.set (x4 : Int).toNat (⟨bt110005.1, bt110005.2⟩ : S65)) (wrap64 (x4 + 1))) else (none))) else (none)) else (some x3)
def laws_toPairS.f (k : Nat) (l0 : List (S60)) : Option ((List (S65))) := if 0 ≤ (l0.length : Int) then (if ((l0.length : Int) : Int).toNat ≤ 8796093022208 then (laws_toPairS.l0 k l0 (List.replicate ((l0.length : Int) : Int).toNat z65) 0) else (none)) else (none)
set_option maxHeartbeats 8000000 in
set_option maxRecDepth 100000 in
theorem laws_toPairS.calls (k : Nat) (A0 : Option Addr) (c0 : Nat) (l0 : List (S60)) (r : List (S65)) (w : World) (hr0 : Kd.C k60 w A0 l0.length l0) (hc0 : l0.length ≤ c0) (h : laws_toPairS.f k l0 = some r) :
  Calls Tryd.prog 11 #[.slice A0 l0.length c0] w fun e w' => ∃ v0_ : Value, e = .returned (v0_) ∧ Kd.R k65 65 w' w.heap.size (fun _ => True) v0_ r ∧ Below w.heap.size w w' := by
 have hu60 := Tryd.underlying60; have hu65 := Tryd.underlying65; have HR0 := Aside0.mk hr0; have HC0 := Aside0.mk hc0; clear hr0 hc0; have HB := Aside0.mk (Below.refl w.heap.size w); have H : (if 0 ≤ (l0.length : Int) then (if ((l0.length : Int) : Int).toNat ≤ 8796093022208 then (laws_toPairS.l0 k l0 (List.replicate ((l0.length : Int) : Int).toNat z65) 0) else (none)) else (none)) = some r := h; clear h
 by_cases c2 : 0 ≤ (l0.length : Int)
 ·rw [if_pos c2] at H; have c2b0 := eq_true c2; have c2b1 : decide (0 ≤ (l0.length : Int)) = true := decide_eq_true c2; clear c2
  by_cases c3 : ((l0.length : Int) : Int).toNat ≤ 8796093022208
  ·rw [if_pos c3] at H; have c3b0 := eq_true c3; have c3b1 : decide (((l0.length : Int) : Int).toNat ≤ 8796093022208) = true := decide_eq_true c3; clear c3; obtain ⟨y110001, hy110001⟩ : ∃ y_ : List (S65), y_ = (List.replicate ((l0.length : Int) : Int).toNat z65) := ⟨_, rfl⟩
   replace H : (laws_toPairS.l0 k l0 y110001 0) = some r := by first | (rw [hy110001]; with_reducible exact H) | (have H2_ := (Option.bind_some _ _).symm.trans H; rw [hy110001]; with_reducible exact H2_) | (have H2_ := (Option.bind_some _ _).symm.trans H; with_reducible exact H2_) | with_reducible exact H | (rw [hy110001]; exact H) | exact H
   have Ny110001 := Aside0.mk hy110001; clear hy110001; have H' := Aside0.mk H; clear H
   go_enter Tryd.func11, Tryd.ntmps11
   go_wp2_with (first | ((with_reducible refine gate_dst (N := 7) rfl ?_); refine Kd.R_make k65 _ 65 rfl (N := 7) rfl 25 _ _ rfl (l0.length : Int) rfl rfl Tryd.underlying25 (.agg #[(.string ⟨#[]⟩), (.string ⟨#[]⟩)]) 32 info65 rfl (by decide) (by omega) z65 (ok := fun _ => True) (okp := fun _ => True) (k65_mkM _ _ _ z65 ) (fun _ hk => hk) trivial (of_decide_eq_true zq_2) (Nat.le_trans (Nat.mul_le_mul_right _ (of_decide_eq_true zq_2 : (l0.length : Int).toNat ≤ 8796093022208)) (by omega)) (Below.refl _ _) (Nat.le_refl _) ?_; intro v110002 w4 ho5 hb hg_ hnew_; clear hg_ hnew_; (first | rw [← Ny110001.out] at ho5 | (simp only [Int.reduceToNat] at ho5; rw [← Ny110001.out] at ho5)); have n0_ := Aside0.mk (Kd.R_lower ho5 (below_size zq_0)); have n1_ := Aside0.mk (below_step zq_0 hb); clear HB; have HO110003 := n0_; have HB := n1_; clear n0_ n1_; clear hb ho5))
   go_loopg [4] k (fun kq v4 w' => ∃ (x3_1 : List (S65)) (x4_1 : Int), v4 = .int .i64 x4_1 ∧ Aside0 (laws_toPairS.l0 kq l0 x3_1 x4_1 = some r) ∧ Aside0 (kq ≤ k) ∧ Aside0 (Kd.R k65 65 w' w.heap.size (fun _ => True) v110002 x3_1) ∧ Aside0 (Below w.heap.size w w'))
   case atStart => exact ⟨(y110001), (0), zq_3, H', ⟨Nat.le_refl _⟩, ⟨by (with_reducible repeat (first | apply Kd.R_alloc | apply Kd.R_drewN | apply Kd.R_drew)); exact HO110003.out⟩, ⟨by repeat (first | (with_reducible first | exact HB.out | apply below_alloc | apply pw_below_drewN | apply below_drew1) | exact HB.out)⟩⟩
   case round =>
    clear H'
    try clear c1
    try clear c2
    try clear c2b0
    try clear c2b1
    try clear p2
    try clear c3
    try clear c3b0
    try clear c3b1
    obtain ⟨x3_1, x4_1, rfl, HA, HK1, HO_3, HB⟩ := hrel
    cases gk with
    | zero => exact absurd HA.out (by simp [laws_toPairS.l0])
    | succ k1 =>
     have H := HA.out; clear HA; simp only [laws_toPairS.l0] at H
     by_cases c6 : x4_1 < (l0.length : Int)
     ·rw [if_pos c6] at H; have c6b0 : decide (x4_1 < (l0.length : Int)) = true := decide_eq_true c6; clear c6
      by_cases c7 : 0 ≤ x4_1
      ·rw [if_pos c7] at H; have c7b0 : decide (0 ≤ x4_1) = true := decide_eq_true c7; clear c7; replace H := Option.bind_eq_some_iff.mp H; obtain ⟨⟨t110005, t110006⟩, A80, H⟩ := H; (try dsimp only at H); have A8 := Aside0.mk A80; clear A80
       by_cases c9 : x4_1 < (x3_1.length : Int)
       ·rw [if_pos c9] at H; have c9b0 : decide (x4_1 < (x3_1.length : Int)) = true := decide_eq_true c9; clear c9; obtain ⟨y110007, hy110007⟩ : ∃ y_ : List (S65), y_ = (x3_1.set (x4_1 : Int).toNat (⟨t110005, t110006⟩ : S65)) := ⟨_, rfl⟩
        replace H : (laws_toPairS.l0 k1 l0 y110007 (wrap64 (x4_1 + 1))) = some r := by first | (rw [hy110007]; with_reducible exact H) | (have H2_ := (Option.bind_some _ _).symm.trans H; rw [hy110007]; with_reducible exact H2_) | (have H2_ := (Option.bind_some _ _).symm.trans H; with_reducible exact H2_) | with_reducible exact H | (rw [hy110007]; exact H) | exact H
        have Ny110007 := Aside0.mk hy110007; clear hy110007; have H' := Aside0.mk H; clear H; have p110004 : 0 ≤ (x4_1 : Int) := of_decide_eq_true zq_2; have q110004 : x4_1 < (l0.length : Int) := of_decide_eq_true zq_2; obtain ⟨ad110004, e110004, hx110004_0, hx110004_1⟩ := at_T60 HR0.out x4_1 p110004 q110004
        cases e110004
        replace hx110004_0 := (HB.out.cell (World.block_lt_of_cell? w _ hx110004_0)).trans hx110004_0; replace hx110004_1 := (HB.out.cell (World.block_lt_of_cell? w _ hx110004_1)).trans hx110004_1; replace p110004 := eq_true p110004; replace q110004 := eq_true q110004
        go_wp2_with (first | ((with_reducible refine gate_callee (f := 40) rfl ?_); refine goesL_ (some 20) rfl rfl Tryd.func40 (by kernel_rfl) rfl #[.agg #[.string ((rd_T60 l0 x4_1).f0), .string ((rd_T60 l0 x4_1).f1)]] rfl zq_1 ?_; (with_reducible refine (laws_toPair.calls ((rd_T60 l0 x4_1).f0) ((rd_T60 l0 x4_1).f1) t110005 t110006 _ A8.out).mono ?_); rintro e w11 ⟨rfl, hb⟩; refine ⟨_, rfl, ?_⟩; have n0_ := Aside0.mk (Kd.R_below (by (with_reducible repeat (first | apply Kd.R_alloc | apply Kd.R_drewN | apply Kd.R_drew)); exact HO_3.out) hb); have n1_ := Aside0.mk (below_step zq_0 hb); clear HO_3; clear HB; have HO_3 := n0_; have HB := n1_; clear n0_ n1_; (try clear hb); (try clear hb2); (try clear hk); (try clear hi); have p10 : 0 ≤ (x4_1 : Int) := of_decide_eq_true zq_2; have q10 : (x4_1 : Int) < ((x3_1.length : Int) : Int) := of_decide_eq_true zq_2; obtain ⟨go10, co10, eo10, gb10, gl10, cl10, HG10⟩ := Kd.R_form HO_3.out (by omega); (first | cases eo10 | (injection eo10 with ea_ en_ ec_; (first | subst ea_ | (injection ea_ with ea_; subst ea_)); subst ec_; clear en_)); have GB10 := Aside0.mk gb10; have GG10 := Aside0.mk HG10; clear gb10 gl10 HG10; obtain ⟨ce10, hcl10, hM10, hcc10, hfr10⟩ := Kd.R_elem HO_3.out z65 (x4_1 : Int) p10 q10; obtain rfl := k65_openM hM10; have hx10_0 : w11.cell? ⟨go10, (x4_1 : Int).toNat * 2, none⟩ = some (.string ((rd_T65 x3_1 x4_1).f0)) := hcc10 0 _ rfl; have hx10_1 : w11.cell? ⟨go10, (x4_1 : Int).toNat * 2 + 1, none⟩ = some (.string ((rd_T65 x3_1 x4_1).f1)) := hcc10 1 _ rfl; have hf10_0 : w11.frozen? ⟨go10, (x4_1 : Int).toNat * 2, none⟩ = false := hfr10 0; have hf10_1 : w11.frozen? ⟨go10, (x4_1 : Int).toNat * 2 + 1, none⟩ = false := hfr10 1; clear hcl10 hcc10 hfr10 hM10; replace p10 := eq_true p10; replace q10 := eq_true q10; have HX12 := Aside0.mk (show Kd.R k65 65 w11 w.heap.size (fun _ => True) (.slice (some ⟨go10, 0, none⟩) x3_1.length co10) x3_1 from (by (with_reducible repeat (first | apply Kd.R_alloc | apply Kd.R_drewN | apply Kd.R_drew)); exact HO_3.out)); obtain ⟨ce12, hcl12, hM12, hcc12, hfr12⟩ := Kd.R_elem HX12.out z65 (x4_1 : Int) (of_decide_eq_true zq_2) (by have h_ : (x4_1 : Int) < ((x3_1.length : Int) : Int) := of_decide_eq_true zq_2; first | exact h_ | (have e_ := (Kd.R_reads' HO_3.out).1; omega) | simpa using h_); obtain rfl := k65_openM hM12; have HP12 := Kd.R_seg HX12.out (x4_1 : Int) (of_decide_eq_true zq_2) (by have h_ : (x4_1 : Int) < ((x3_1.length : Int) : Int) := of_decide_eq_true zq_2; first | exact h_ | (have e_ := (Kd.R_reads' HO_3.out).1; omega) | simpa using h_) (seg := [.string t110005, .string t110006]) (j := 0) hcl12 hcc12 (show 2 ≤ 2 from by decide) (x' := (⟨t110005, t110006⟩ : S65)) (k65_mkM _ _ _ (⟨t110005, t110006⟩ : S65) ) (fun _ hk => hk); have hx12_0 := hcc12 0 _ rfl; (try simp only [show (k65).sz = 2 from rfl, Nat.mul_one, Nat.add_zero] at hx12_0); have hf12_0 := hfr12 0; (try simp only [show (k65).sz = 2 from rfl, Nat.mul_one, Nat.add_zero] at hf12_0); have hx12_1 := hcc12 1 _ rfl; (try simp only [show (k65).sz = 2 from rfl, Nat.mul_one, Nat.add_zero] at hx12_1); have hf12_1 := hfr12 1; (try simp only [show (k65).sz = 2 from rfl, Nat.mul_one, Nat.add_zero] at hf12_1); clear hcl12 hcc12 hfr12 hM12) | ((with_reducible refine gate_store (t := 65) (p := 21) rfl ?_); refine store_event (t := 65) (p := 21) (v := ?vo_w13) (w1 := ((w11.setCell ⟨go10, (x4_1 : Int).toNat * 2, none⟩ (.string t110005)).setCell ⟨go10, (x4_1 : Int).toNat * 2 + 1, none⟩ (.string t110006))) ?hg ?ho ?hn ?hr ?_; (case ho => rfl); (case hg => rfl); (case hn => rfl); (case hr => exact zq_12); intro w13 hw; have hg : w11.grownBy w13 (some go10) := (by rw [hw]; exact HP12.2); have hp_ : Kd.R k65 65 w13 w.heap.size (fun _ => True) (.slice (some ⟨go10, 0, none⟩) x3_1.length co10) y110007 := (by rw [hw, Ny110007.out]; exact HP12.1); clear HP12; have n0_ := Aside0.mk (hp_); have n1_ := Aside0.mk ((by rw [hw]; exact below_set (below_set (HB.out) GB10.out) GB10.out : Below w.heap.size w w13)); clear HO_3; clear HB; have HO_3 := n0_; have HB := n1_; clear n0_ n1_; clear hg hw hp_))
        go_roundg k1
        case measure => have := HK1.out; omega
        case rel => exact ⟨(y110007), (wrap64 (x4_1 + 1)), zq_3, H', ⟨by have := HK1.out; omega⟩, ⟨by (with_reducible repeat (first | apply Kd.R_alloc | apply Kd.R_drewN | apply Kd.R_drew)); exact HO_3.out⟩, ⟨by repeat (first | (with_reducible first | exact HB.out | apply below_alloc | apply pw_below_drewN | apply below_drew1) | exact HB.out)⟩⟩
       ·rw [if_neg c9] at H; exact absurd H (by simp)
      ·rw [if_neg c7] at H; exact absurd H (by simp)
     ·rw [if_neg c6] at H; have c6b0 : decide (x4_1 < (l0.length : Int)) = false := decide_eq_false c6; clear c6; obtain rfl := Option.some.inj H
      go_wp2
      go_ret
      exact ⟨_, by first | rfl | (simp [errW_none, errW_some] <;> rfl) | (simp [*, errW_none, errW_some] <;> rfl), by (with_reducible repeat (first | apply Kd.R_alloc | apply Kd.R_drewN | apply Kd.R_drew)); exact HO_3.out, by repeat (first | (with_reducible first | exact HB.out | apply below_alloc | apply pw_below_drewN | apply below_drew1) | exact HB.out)⟩
  ·rw [if_neg c3] at H; exact absurd H (by simp)
 ·rw [if_neg c2] at H; exact absurd H (by simp)
def spec_l2Text.f (a0 : ByteArray) : Option (ByteArray) := if 1 + a0.size ≤ 9223372036854775807 then (some ((⟨#[78]⟩ : ByteArray) ++ a0)) else (none)
set_option maxHeartbeats 8000000 in
set_option maxRecDepth 100000 in
theorem spec_l2Text.calls (a0 : ByteArray) (r : ByteArray) (w : World) (h : spec_l2Text.f a0 = some r) :
  Calls Tryd.prog 48 #[.string a0] w fun e w' => e = .returned (.string r) ∧ Drawn0 w w' := by
 have H : (if 1 + a0.size ≤ 9223372036854775807 then (some ((⟨#[78]⟩ : ByteArray) ++ a0)) else (none)) = some r := h; clear h
 by_cases c2 : 1 + a0.size ≤ 9223372036854775807
 ·rw [if_pos c2] at H; have c2b0 := eq_true c2; have c2b1 : decide (1 + a0.size ≤ 9223372036854775807) = true := decide_eq_true c2
  try have c2b2 : (9223372036854775807 < 1 + a0.size) = False := eq_false (Nat.not_lt.2 c2)
  obtain rfl := Option.some.inj H
  go_enter Tryd.func48, Tryd.ntmps48
  go_wp2
  go_ret
  exact ⟨by first | rfl | (simp; done) | (simp [*]; done), by repeat (first | exact Drawn0.refl _ | apply Drawn0.step)⟩
 ·rw [if_neg c2] at H; exact absurd H (by simp)
def spec_l4Top.l0 : Nat → List (S65) → Int → ByteArray → Int → Option (Int)
 | 0, _, _, _, _ => none
 | k + 1, x0, x3, x4, x5 => if x5 < (x0.length : Int) then (if 0 ≤ x5 then ((spec_Sha256.f k ((rd_T65 x0 x5).f0)).bind fun t490004 => ((spec_l1Less.f k x4 t490004).bind fun t490005 => (if t490005 = true then (spec_l4Top.l0 k x0 x5 t490004 (wrap64 (x5 + 1))) else (if t490004.toList = x4.toList then (if 0 ≤ x3 then (if x3 < (x0.length : Int) then ((spec_l1Less.f k ((rd_T65 x0 x5).f0) ((rd_T65 x0 x3).f0)).bind fun t490008 => (if t490008 = true then (spec_l4Top.l0 k x0 x5 t490004 (wrap64 (x5 + 1))) else (spec_l4Top.l0 k x0 x3 x4 (wrap64 (x5 + 1))))) else (none)) else (none)) else (spec_l4Top.l0 k x0 x3 x4 (wrap64 (x5 + 1))))))) else (none)) else (some x3)
def spec_l4Top.f (k : Nat) (l0 : List (S65)) : Option (Int) := if 0 < (l0.length : Int) then ((spec_Sha256.f k ((rd_T65 l0 0).f0)).bind fun t490002 => (spec_l4Top.l0 k l0 0 t490002 1)) else (none)
set_option maxHeartbeats 8000000 in
set_option maxRecDepth 100000 in
theorem spec_l4Top.calls (k : Nat) (A0 : Option Addr) (c0 : Nat) (l0 : List (S65)) (r : Int) (w : World) (hr0 : Kd.C k65 w A0 l0.length l0) (hc0 : l0.length ≤ c0) (h : spec_l4Top.f k l0 = some r) :
  Calls Tryd.prog 49 #[.slice A0 l0.length c0] w fun e w' => e = .returned (.int .i64 r) ∧ Below w.heap.size w w' := by
 have HR0 := Aside0.mk hr0; have HC0 := Aside0.mk hc0; clear hr0 hc0; have HB := Aside0.mk (Below.refl w.heap.size w); have H : (if 0 < (l0.length : Int) then ((spec_Sha256.f k ((rd_T65 l0 0).f0)).bind fun t490002 => (spec_l4Top.l0 k l0 0 t490002 1)) else (none)) = some r := h; clear h
 by_cases c2 : 0 < (l0.length : Int)
 ·rw [if_pos c2] at H; have c2b0 : decide (0 < (l0.length : Int)) = true := decide_eq_true c2; have c2b1 : decide (0 < l0.length) = true := decide_eq_true (by omega); clear c2; replace H := Option.bind_eq_some_iff.mp H; obtain ⟨t490002, A30, H⟩ := H; (try dsimp only at H); have A3 := Aside0.mk A30; clear A30; have H' := Aside0.mk H; clear H; have p490001 : 0 ≤ (0 : Int) := (by omega)
  have q490001 : 0 < (l0.length : Int) := of_decide_eq_true zq_2; obtain ⟨ad490001, e490001, hx490001_0, hx490001_1⟩ := at_T65 HR0.out 0 p490001 q490001
  cases e490001
  have qi490001 : (0 < l0.length) = True := eq_true (by omega); (try rw [show ((0 : Int)).toNat = 0 from rfl] at hx490001_0); (try rw [show 0 * 2 = 0 from rfl] at hx490001_0); (try rw [Addr.add_zero'] at hx490001_0); (try rw [show ((0 : Int)).toNat = 0 from rfl] at hx490001_1); (try rw [show 0 * 2 = 0 from rfl] at hx490001_1); (try rw [Addr.add_zero'] at hx490001_1); replace p490001 := eq_true p490001; replace q490001 := eq_true q490001
  go_enter Tryd.func49, Tryd.ntmps49
  go_wp2_with (first | (go_at_call 90; (with_reducible refine (spec_Sha256.calls k ((rd_T65 l0 0).f0) t490002 _ A3.out).mono ?_); rintro e w4 ⟨rfl, hb⟩; have n0_ := Aside0.mk (below_step zq_0 hb); clear HB; have HB := n0_; clear n0_; (try clear hb); (try clear hb2); (try clear hk); (try clear hi)))
  repeat (go_quiet (first | (go_at_call 90; (with_reducible refine (spec_Sha256.calls k ((rd_T65 l0 0).f0) t490002 _ A3.out).mono ?_); rintro e w4 ⟨rfl, hb⟩; have n0_ := Aside0.mk (below_step zq_0 hb); clear HB; have HB := n0_; clear n0_; (try clear hb); (try clear hb2); (try clear hk); (try clear hi))); try go_wp2_with (first | (go_at_call 90; (with_reducible refine (spec_Sha256.calls k ((rd_T65 l0 0).f0) t490002 _ A3.out).mono ?_); rintro e w4 ⟨rfl, hb⟩; have n0_ := Aside0.mk (below_step zq_0 hb); clear HB; have HB := n0_; clear n0_; (try clear hb); (try clear hb2); (try clear hk); (try clear hi))))
  go_loopg [3, 4, 5] k (fun kq v3 v4 v5 w' => ∃ (x3_1 : Int) (x4_1 : ByteArray) (x5_1 : Int), v3 = .int .i64 x3_1 ∧ v4 = .string x4_1 ∧ v5 = .int .i64 x5_1 ∧ Aside0 (spec_l4Top.l0 kq l0 x3_1 x4_1 x5_1 = some r) ∧ Aside0 (kq ≤ k) ∧ Aside0 (Below w.heap.size w w'))
  case atStart => exact ⟨(0), (t490002), (1), zq_3, zq_3, zq_3, H', ⟨Nat.le_refl _⟩, ⟨by repeat (first | (with_reducible first | exact HB.out | apply below_alloc | apply pw_below_drewN | apply below_drew1) | exact HB.out)⟩⟩
  case round =>
   clear H'
   try clear c2
   try clear c2b0
   try clear c2b1
   try clear p2
   try clear c4
   try clear p4
   try clear q4
   try clear hx4
   try clear qi4
   try clear hx490001_0
   try clear hx490001_1
   try clear p490001
   try clear q490001
   obtain ⟨x3_1, x4_1, x5_1, rfl, rfl, rfl, HA, HK1, HB⟩ := hrel
   cases gk with
   | zero => exact absurd HA.out (by simp [spec_l4Top.l0])
   | succ k1 =>
    have H := HA.out; clear HA; simp only [spec_l4Top.l0] at H
    by_cases c5 : x5_1 < (l0.length : Int)
    ·rw [if_pos c5] at H; have c5b0 : decide (x5_1 < (l0.length : Int)) = true := decide_eq_true c5; clear c5
     by_cases c6 : 0 ≤ x5_1
     ·rw [if_pos c6] at H; have c6b0 : decide (0 ≤ x5_1) = true := decide_eq_true c6; clear c6; replace H := Option.bind_eq_some_iff.mp H; obtain ⟨t490004, A70, H⟩ := H; (try dsimp only at H); have A7 := Aside0.mk A70; clear A70; replace H := Option.bind_eq_some_iff.mp H; obtain ⟨t490005, A80, H⟩ := H; (try dsimp only at H); have A8 := Aside0.mk A80; clear A80
      by_cases c9 : t490005 = true
      ·subst c9; have H1 : (spec_l4Top.l0 k1 l0 x5_1 t490004 (wrap64 (x5_1 + 1))) = some r := by rw [if_pos rfl] at H; exact H
       clear H; have H := H1; clear H1; have H' := Aside0.mk H; clear H; have p490003 : 0 ≤ (x5_1 : Int) := of_decide_eq_true zq_2; have q490003 : x5_1 < (l0.length : Int) := of_decide_eq_true zq_2; obtain ⟨ad490003, e490003, hx490003_0, hx490003_1⟩ := at_T65 HR0.out x5_1 p490003 q490003; obtain rfl : ad490001 = ad490003 := (by injection e490003)
       replace hx490003_0 := (HB.out.cell (World.block_lt_of_cell? w _ hx490003_0)).trans hx490003_0; replace hx490003_1 := (HB.out.cell (World.block_lt_of_cell? w _ hx490003_1)).trans hx490003_1; replace p490003 := eq_true p490003; replace q490003 := eq_true q490003
       go_wp2_with (first | (go_at_call 90; (with_reducible refine (spec_Sha256.calls k1 ((rd_T65 l0 x5_1).f0) t490004 _ A7.out).mono ?_); rintro e w10 ⟨rfl, hb⟩; have n0_ := Aside0.mk (below_step zq_0 hb); clear HB; have HB := n0_; clear n0_; (try clear hb); (try clear hb2); (try clear hk); (try clear hi)) | (go_at_call 82; (with_reducible refine (spec_l1Less.calls k1 x4_1 t490004 true _ A8.out).mono ?_); rintro e w' ⟨rfl, ⟨nd, rfl⟩⟩; (try first | exact ⟨rfl, _, World.drewN_drewN _ _ _⟩ | exact ⟨rfl, _, Eq.trans (World.drewN_drewN _ _ _) (congrArg (World.drewN _) (Nat.add_assoc _ _ _))⟩)))
       repeat (go_quiet (first | (go_at_call 90; (with_reducible refine (spec_Sha256.calls k1 ((rd_T65 l0 x5_1).f0) t490004 _ A7.out).mono ?_); rintro e w10 ⟨rfl, hb⟩; have n0_ := Aside0.mk (below_step zq_0 hb); clear HB; have HB := n0_; clear n0_; (try clear hb); (try clear hb2); (try clear hk); (try clear hi)) | (go_at_call 82; (with_reducible refine (spec_l1Less.calls k1 x4_1 t490004 true _ A8.out).mono ?_); rintro e w' ⟨rfl, ⟨nd, rfl⟩⟩; (try first | exact ⟨rfl, _, World.drewN_drewN _ _ _⟩ | exact ⟨rfl, _, Eq.trans (World.drewN_drewN _ _ _) (congrArg (World.drewN _) (Nat.add_assoc _ _ _))⟩))); try go_wp2_with (first | (go_at_call 90; (with_reducible refine (spec_Sha256.calls k1 ((rd_T65 l0 x5_1).f0) t490004 _ A7.out).mono ?_); rintro e w10 ⟨rfl, hb⟩; have n0_ := Aside0.mk (below_step zq_0 hb); clear HB; have HB := n0_; clear n0_; (try clear hb); (try clear hb2); (try clear hk); (try clear hi)) | (go_at_call 82; (with_reducible refine (spec_l1Less.calls k1 x4_1 t490004 true _ A8.out).mono ?_); rintro e w' ⟨rfl, ⟨nd, rfl⟩⟩; (try first | exact ⟨rfl, _, World.drewN_drewN _ _ _⟩ | exact ⟨rfl, _, Eq.trans (World.drewN_drewN _ _ _) (congrArg (World.drewN _) (Nat.add_assoc _ _ _))⟩))))
       go_roundg k1
       case measure => have := HK1.out; omega
       case rel => exact ⟨(x5_1), (t490004), (wrap64 (x5_1 + 1)), zq_3, zq_3, zq_3, H', ⟨by have := HK1.out; omega⟩, ⟨by repeat (first | (with_reducible first | exact HB.out | apply below_alloc | apply pw_below_drewN | apply below_drew1) | exact HB.out)⟩⟩
      ·replace c9 := Bool.eq_false_iff.mpr c9; subst c9; have H1 : (if t490004.toList = x4_1.toList then (if 0 ≤ x3_1 then (if x3_1 < (l0.length : Int) then ((spec_l1Less.f k1 ((rd_T65 l0 x5_1).f0) ((rd_T65 l0 x3_1).f0)).bind fun t490008 => (if t490008 = true then (spec_l4Top.l0 k1 l0 x5_1 t490004 (wrap64 (x5_1 + 1))) else (spec_l4Top.l0 k1 l0 x3_1 x4_1 (wrap64 (x5_1 + 1))))) else (none)) else (none)) else (spec_l4Top.l0 k1 l0 x3_1 x4_1 (wrap64 (x5_1 + 1)))) = some r := by rw [if_neg (show ¬ (false = true) by decide)] at H; exact H
       clear H; have H := H1; clear H1
       by_cases c11 : t490004.toList = x4_1.toList
       ·rw [if_pos c11] at H; have c11b0 : (t490004.toList == x4_1.toList) = true := beq_iff_eq.mpr c11; have c11b1 : (t490004.toList != x4_1.toList) = false := bne_eq_false_iff_eq.mpr c11; clear c11
        by_cases c12 : 0 ≤ x3_1
        ·rw [if_pos c12] at H; have c12b0 : decide (0 ≤ x3_1) = true := decide_eq_true c12; clear c12
         by_cases c13 : x3_1 < (l0.length : Int)
         ·rw [if_pos c13] at H; have c13b0 : decide (x3_1 < (l0.length : Int)) = true := decide_eq_true c13; clear c13; replace H := Option.bind_eq_some_iff.mp H; obtain ⟨t490008, A140, H⟩ := H; (try dsimp only at H); have A14 := Aside0.mk A140; clear A140
          by_cases c15 : t490008 = true
          ·subst c15; have H1 : (spec_l4Top.l0 k1 l0 x5_1 t490004 (wrap64 (x5_1 + 1))) = some r := by rw [if_pos rfl] at H; exact H
           clear H; have H := H1; clear H1; have H' := Aside0.mk H; clear H; have p490003 : 0 ≤ (x5_1 : Int) := of_decide_eq_true zq_2; have q490003 : x5_1 < (l0.length : Int) := of_decide_eq_true zq_2; obtain ⟨ad490003, e490003, hx490003_0, hx490003_1⟩ := at_T65 HR0.out x5_1 p490003 q490003; obtain rfl : ad490001 = ad490003 := (by injection e490003)
           replace hx490003_0 := (HB.out.cell (World.block_lt_of_cell? w _ hx490003_0)).trans hx490003_0; replace hx490003_1 := (HB.out.cell (World.block_lt_of_cell? w _ hx490003_1)).trans hx490003_1; replace p490003 := eq_true p490003; replace q490003 := eq_true q490003
           go_wp2_with (first | (go_at_call 90; (with_reducible refine (spec_Sha256.calls k1 ((rd_T65 l0 x5_1).f0) t490004 _ A7.out).mono ?_); rintro e w16 ⟨rfl, hb⟩; have n0_ := Aside0.mk (below_step zq_0 hb); clear HB; have HB := n0_; clear n0_; (try clear hb); (try clear hb2); (try clear hk); (try clear hi)) | (go_at_call 82; (with_reducible refine (spec_l1Less.calls k1 x4_1 t490004 false _ A8.out).mono ?_); rintro e w' ⟨rfl, ⟨nd, rfl⟩⟩; (try first | exact ⟨rfl, _, World.drewN_drewN _ _ _⟩ | exact ⟨rfl, _, Eq.trans (World.drewN_drewN _ _ _) (congrArg (World.drewN _) (Nat.add_assoc _ _ _))⟩); have p490006 : 0 ≤ (x5_1 : Int) := of_decide_eq_true zq_2; have q490006 : x5_1 < (l0.length : Int) := of_decide_eq_true zq_2; obtain ⟨ad490006, e490006, hx490006_0, hx490006_1⟩ := at_T65 HR0.out x5_1 p490006 q490006; obtain rfl : ad490001 = ad490006 := (by injection e490006); replace hx490006_0 := (HB.out.cell (World.block_lt_of_cell? w _ hx490006_0)).trans hx490006_0; replace hx490006_1 := (HB.out.cell (World.block_lt_of_cell? w _ hx490006_1)).trans hx490006_1; replace p490006 := eq_true p490006; replace q490006 := eq_true q490006; have p490007 : 0 ≤ (x3_1 : Int) := of_decide_eq_true zq_2; have q490007 : x3_1 < (l0.length : Int) := of_decide_eq_true zq_2; obtain ⟨ad490007, e490007, hx490007_0, hx490007_1⟩ := at_T65 HR0.out x3_1 p490007 q490007; obtain rfl : ad490001 = ad490007 := (by injection e490007); replace hx490007_0 := (HB.out.cell (World.block_lt_of_cell? w _ hx490007_0)).trans hx490007_0; replace hx490007_1 := (HB.out.cell (World.block_lt_of_cell? w _ hx490007_1)).trans hx490007_1; replace p490007 := eq_true p490007; replace q490007 := eq_true q490007) | (go_at_call 82; (with_reducible refine (spec_l1Less.calls k1 ((rd_T65 l0 x5_1).f0) ((rd_T65 l0 x3_1).f0) true _ A14.out).mono ?_); rintro e w' ⟨rfl, ⟨nd, rfl⟩⟩; (try first | exact ⟨rfl, _, World.drewN_drewN _ _ _⟩ | exact ⟨rfl, _, Eq.trans (World.drewN_drewN _ _ _) (congrArg (World.drewN _) (Nat.add_assoc _ _ _))⟩)))
           repeat (go_quiet (first | (go_at_call 90; (with_reducible refine (spec_Sha256.calls k1 ((rd_T65 l0 x5_1).f0) t490004 _ A7.out).mono ?_); rintro e w16 ⟨rfl, hb⟩; have n0_ := Aside0.mk (below_step zq_0 hb); clear HB; have HB := n0_; clear n0_; (try clear hb); (try clear hb2); (try clear hk); (try clear hi)) | (go_at_call 82; (with_reducible refine (spec_l1Less.calls k1 x4_1 t490004 false _ A8.out).mono ?_); rintro e w' ⟨rfl, ⟨nd, rfl⟩⟩; (try first | exact ⟨rfl, _, World.drewN_drewN _ _ _⟩ | exact ⟨rfl, _, Eq.trans (World.drewN_drewN _ _ _) (congrArg (World.drewN _) (Nat.add_assoc _ _ _))⟩); have p490006 : 0 ≤ (x5_1 : Int) := of_decide_eq_true zq_2; have q490006 : x5_1 < (l0.length : Int) := of_decide_eq_true zq_2; obtain ⟨ad490006, e490006, hx490006_0, hx490006_1⟩ := at_T65 HR0.out x5_1 p490006 q490006; obtain rfl : ad490001 = ad490006 := (by injection e490006); replace hx490006_0 := (HB.out.cell (World.block_lt_of_cell? w _ hx490006_0)).trans hx490006_0; replace hx490006_1 := (HB.out.cell (World.block_lt_of_cell? w _ hx490006_1)).trans hx490006_1; replace p490006 := eq_true p490006; replace q490006 := eq_true q490006; have p490007 : 0 ≤ (x3_1 : Int) := of_decide_eq_true zq_2; have q490007 : x3_1 < (l0.length : Int) := of_decide_eq_true zq_2; obtain ⟨ad490007, e490007, hx490007_0, hx490007_1⟩ := at_T65 HR0.out x3_1 p490007 q490007; obtain rfl : ad490001 = ad490007 := (by injection e490007); replace hx490007_0 := (HB.out.cell (World.block_lt_of_cell? w _ hx490007_0)).trans hx490007_0; replace hx490007_1 := (HB.out.cell (World.block_lt_of_cell? w _ hx490007_1)).trans hx490007_1; replace p490007 := eq_true p490007; replace q490007 := eq_true q490007) | (go_at_call 82; (with_reducible refine (spec_l1Less.calls k1 ((rd_T65 l0 x5_1).f0) ((rd_T65 l0 x3_1).f0) true _ A14.out).mono ?_); rintro e w' ⟨rfl, ⟨nd, rfl⟩⟩; (try first | exact ⟨rfl, _, World.drewN_drewN _ _ _⟩ | exact ⟨rfl, _, Eq.trans (World.drewN_drewN _ _ _) (congrArg (World.drewN _) (Nat.add_assoc _ _ _))⟩))); try go_wp2_with (first | (go_at_call 90; (with_reducible refine (spec_Sha256.calls k1 ((rd_T65 l0 x5_1).f0) t490004 _ A7.out).mono ?_); rintro e w16 ⟨rfl, hb⟩; have n0_ := Aside0.mk (below_step zq_0 hb); clear HB; have HB := n0_; clear n0_; (try clear hb); (try clear hb2); (try clear hk); (try clear hi)) | (go_at_call 82; (with_reducible refine (spec_l1Less.calls k1 x4_1 t490004 false _ A8.out).mono ?_); rintro e w' ⟨rfl, ⟨nd, rfl⟩⟩; (try first | exact ⟨rfl, _, World.drewN_drewN _ _ _⟩ | exact ⟨rfl, _, Eq.trans (World.drewN_drewN _ _ _) (congrArg (World.drewN _) (Nat.add_assoc _ _ _))⟩); have p490006 : 0 ≤ (x5_1 : Int) := of_decide_eq_true zq_2; have q490006 : x5_1 < (l0.length : Int) := of_decide_eq_true zq_2; obtain ⟨ad490006, e490006, hx490006_0, hx490006_1⟩ := at_T65 HR0.out x5_1 p490006 q490006; obtain rfl : ad490001 = ad490006 := (by injection e490006); replace hx490006_0 := (HB.out.cell (World.block_lt_of_cell? w _ hx490006_0)).trans hx490006_0; replace hx490006_1 := (HB.out.cell (World.block_lt_of_cell? w _ hx490006_1)).trans hx490006_1; replace p490006 := eq_true p490006; replace q490006 := eq_true q490006; have p490007 : 0 ≤ (x3_1 : Int) := of_decide_eq_true zq_2; have q490007 : x3_1 < (l0.length : Int) := of_decide_eq_true zq_2; obtain ⟨ad490007, e490007, hx490007_0, hx490007_1⟩ := at_T65 HR0.out x3_1 p490007 q490007; obtain rfl : ad490001 = ad490007 := (by injection e490007); replace hx490007_0 := (HB.out.cell (World.block_lt_of_cell? w _ hx490007_0)).trans hx490007_0; replace hx490007_1 := (HB.out.cell (World.block_lt_of_cell? w _ hx490007_1)).trans hx490007_1; replace p490007 := eq_true p490007; replace q490007 := eq_true q490007) | (go_at_call 82; (with_reducible refine (spec_l1Less.calls k1 ((rd_T65 l0 x5_1).f0) ((rd_T65 l0 x3_1).f0) true _ A14.out).mono ?_); rintro e w' ⟨rfl, ⟨nd, rfl⟩⟩; (try first | exact ⟨rfl, _, World.drewN_drewN _ _ _⟩ | exact ⟨rfl, _, Eq.trans (World.drewN_drewN _ _ _) (congrArg (World.drewN _) (Nat.add_assoc _ _ _))⟩))))
           go_roundg k1
           case measure => have := HK1.out; omega
           case rel => exact ⟨(x5_1), (t490004), (wrap64 (x5_1 + 1)), zq_3, zq_3, zq_3, H', ⟨by have := HK1.out; omega⟩, ⟨by repeat (first | (with_reducible first | exact HB.out | apply below_alloc | apply pw_below_drewN | apply below_drew1) | exact HB.out)⟩⟩
          ·replace c15 := Bool.eq_false_iff.mpr c15; subst c15; have H1 : (spec_l4Top.l0 k1 l0 x3_1 x4_1 (wrap64 (x5_1 + 1))) = some r := by rw [if_neg (show ¬ (false = true) by decide)] at H; exact H
           clear H; have H := H1; clear H1; have H' := Aside0.mk H; clear H; have p490003 : 0 ≤ (x5_1 : Int) := of_decide_eq_true zq_2; have q490003 : x5_1 < (l0.length : Int) := of_decide_eq_true zq_2; obtain ⟨ad490003, e490003, hx490003_0, hx490003_1⟩ := at_T65 HR0.out x5_1 p490003 q490003; obtain rfl : ad490001 = ad490003 := (by injection e490003)
           replace hx490003_0 := (HB.out.cell (World.block_lt_of_cell? w _ hx490003_0)).trans hx490003_0; replace hx490003_1 := (HB.out.cell (World.block_lt_of_cell? w _ hx490003_1)).trans hx490003_1; replace p490003 := eq_true p490003; replace q490003 := eq_true q490003
           go_wp2_with (first | (go_at_call 90; (with_reducible refine (spec_Sha256.calls k1 ((rd_T65 l0 x5_1).f0) t490004 _ A7.out).mono ?_); rintro e w17 ⟨rfl, hb⟩; have n0_ := Aside0.mk (below_step zq_0 hb); clear HB; have HB := n0_; clear n0_; (try clear hb); (try clear hb2); (try clear hk); (try clear hi)) | (go_at_call 82; (with_reducible refine (spec_l1Less.calls k1 x4_1 t490004 false _ A8.out).mono ?_); rintro e w' ⟨rfl, ⟨nd, rfl⟩⟩; (try first | exact ⟨rfl, _, World.drewN_drewN _ _ _⟩ | exact ⟨rfl, _, Eq.trans (World.drewN_drewN _ _ _) (congrArg (World.drewN _) (Nat.add_assoc _ _ _))⟩); have p490006 : 0 ≤ (x5_1 : Int) := of_decide_eq_true zq_2; have q490006 : x5_1 < (l0.length : Int) := of_decide_eq_true zq_2; obtain ⟨ad490006, e490006, hx490006_0, hx490006_1⟩ := at_T65 HR0.out x5_1 p490006 q490006; obtain rfl : ad490001 = ad490006 := (by injection e490006); replace hx490006_0 := (HB.out.cell (World.block_lt_of_cell? w _ hx490006_0)).trans hx490006_0; replace hx490006_1 := (HB.out.cell (World.block_lt_of_cell? w _ hx490006_1)).trans hx490006_1; replace p490006 := eq_true p490006; replace q490006 := eq_true q490006; have p490007 : 0 ≤ (x3_1 : Int) := of_decide_eq_true zq_2; have q490007 : x3_1 < (l0.length : Int) := of_decide_eq_true zq_2; obtain ⟨ad490007, e490007, hx490007_0, hx490007_1⟩ := at_T65 HR0.out x3_1 p490007 q490007; obtain rfl : ad490001 = ad490007 := (by injection e490007); replace hx490007_0 := (HB.out.cell (World.block_lt_of_cell? w _ hx490007_0)).trans hx490007_0; replace hx490007_1 := (HB.out.cell (World.block_lt_of_cell? w _ hx490007_1)).trans hx490007_1; replace p490007 := eq_true p490007; replace q490007 := eq_true q490007) | (go_at_call 82; (with_reducible refine (spec_l1Less.calls k1 ((rd_T65 l0 x5_1).f0) ((rd_T65 l0 x3_1).f0) false _ A14.out).mono ?_); rintro e w' ⟨rfl, ⟨nd, rfl⟩⟩; (try first | exact ⟨rfl, _, World.drewN_drewN _ _ _⟩ | exact ⟨rfl, _, Eq.trans (World.drewN_drewN _ _ _) (congrArg (World.drewN _) (Nat.add_assoc _ _ _))⟩)))
           repeat (go_quiet (first | (go_at_call 90; (with_reducible refine (spec_Sha256.calls k1 ((rd_T65 l0 x5_1).f0) t490004 _ A7.out).mono ?_); rintro e w17 ⟨rfl, hb⟩; have n0_ := Aside0.mk (below_step zq_0 hb); clear HB; have HB := n0_; clear n0_; (try clear hb); (try clear hb2); (try clear hk); (try clear hi)) | (go_at_call 82; (with_reducible refine (spec_l1Less.calls k1 x4_1 t490004 false _ A8.out).mono ?_); rintro e w' ⟨rfl, ⟨nd, rfl⟩⟩; (try first | exact ⟨rfl, _, World.drewN_drewN _ _ _⟩ | exact ⟨rfl, _, Eq.trans (World.drewN_drewN _ _ _) (congrArg (World.drewN _) (Nat.add_assoc _ _ _))⟩); have p490006 : 0 ≤ (x5_1 : Int) := of_decide_eq_true zq_2; have q490006 : x5_1 < (l0.length : Int) := of_decide_eq_true zq_2; obtain ⟨ad490006, e490006, hx490006_0, hx490006_1⟩ := at_T65 HR0.out x5_1 p490006 q490006; obtain rfl : ad490001 = ad490006 := (by injection e490006); replace hx490006_0 := (HB.out.cell (World.block_lt_of_cell? w _ hx490006_0)).trans hx490006_0; replace hx490006_1 := (HB.out.cell (World.block_lt_of_cell? w _ hx490006_1)).trans hx490006_1; replace p490006 := eq_true p490006; replace q490006 := eq_true q490006; have p490007 : 0 ≤ (x3_1 : Int) := of_decide_eq_true zq_2; have q490007 : x3_1 < (l0.length : Int) := of_decide_eq_true zq_2; obtain ⟨ad490007, e490007, hx490007_0, hx490007_1⟩ := at_T65 HR0.out x3_1 p490007 q490007; obtain rfl : ad490001 = ad490007 := (by injection e490007); replace hx490007_0 := (HB.out.cell (World.block_lt_of_cell? w _ hx490007_0)).trans hx490007_0; replace hx490007_1 := (HB.out.cell (World.block_lt_of_cell? w _ hx490007_1)).trans hx490007_1; replace p490007 := eq_true p490007; replace q490007 := eq_true q490007) | (go_at_call 82; (with_reducible refine (spec_l1Less.calls k1 ((rd_T65 l0 x5_1).f0) ((rd_T65 l0 x3_1).f0) false _ A14.out).mono ?_); rintro e w' ⟨rfl, ⟨nd, rfl⟩⟩; (try first | exact ⟨rfl, _, World.drewN_drewN _ _ _⟩ | exact ⟨rfl, _, Eq.trans (World.drewN_drewN _ _ _) (congrArg (World.drewN _) (Nat.add_assoc _ _ _))⟩))); try go_wp2_with (first | (go_at_call 90; (with_reducible refine (spec_Sha256.calls k1 ((rd_T65 l0 x5_1).f0) t490004 _ A7.out).mono ?_); rintro e w17 ⟨rfl, hb⟩; have n0_ := Aside0.mk (below_step zq_0 hb); clear HB; have HB := n0_; clear n0_; (try clear hb); (try clear hb2); (try clear hk); (try clear hi)) | (go_at_call 82; (with_reducible refine (spec_l1Less.calls k1 x4_1 t490004 false _ A8.out).mono ?_); rintro e w' ⟨rfl, ⟨nd, rfl⟩⟩; (try first | exact ⟨rfl, _, World.drewN_drewN _ _ _⟩ | exact ⟨rfl, _, Eq.trans (World.drewN_drewN _ _ _) (congrArg (World.drewN _) (Nat.add_assoc _ _ _))⟩); have p490006 : 0 ≤ (x5_1 : Int) := of_decide_eq_true zq_2; have q490006 : x5_1 < (l0.length : Int) := of_decide_eq_true zq_2; obtain ⟨ad490006, e490006, hx490006_0, hx490006_1⟩ := at_T65 HR0.out x5_1 p490006 q490006; obtain rfl : ad490001 = ad490006 := (by injection e490006); replace hx490006_0 := (HB.out.cell (World.block_lt_of_cell? w _ hx490006_0)).trans hx490006_0; replace hx490006_1 := (HB.out.cell (World.block_lt_of_cell? w _ hx490006_1)).trans hx490006_1; replace p490006 := eq_true p490006; replace q490006 := eq_true q490006; have p490007 : 0 ≤ (x3_1 : Int) := of_decide_eq_true zq_2; have q490007 : x3_1 < (l0.length : Int) := of_decide_eq_true zq_2; obtain ⟨ad490007, e490007, hx490007_0, hx490007_1⟩ := at_T65 HR0.out x3_1 p490007 q490007; obtain rfl : ad490001 = ad490007 := (by injection e490007); replace hx490007_0 := (HB.out.cell (World.block_lt_of_cell? w _ hx490007_0)).trans hx490007_0; replace hx490007_1 := (HB.out.cell (World.block_lt_of_cell? w _ hx490007_1)).trans hx490007_1; replace p490007 := eq_true p490007; replace q490007 := eq_true q490007) | (go_at_call 82; (with_reducible refine (spec_l1Less.calls k1 ((rd_T65 l0 x5_1).f0) ((rd_T65 l0 x3_1).f0) false _ A14.out).mono ?_); rintro e w' ⟨rfl, ⟨nd, rfl⟩⟩; (try first | exact ⟨rfl, _, World.drewN_drewN _ _ _⟩ | exact ⟨rfl, _, Eq.trans (World.drewN_drewN _ _ _) (congrArg (World.drewN _) (Nat.add_assoc _ _ _))⟩))))
           go_roundg k1
           case measure => have := HK1.out; omega
           case rel => exact ⟨(x3_1), (x4_1), (wrap64 (x5_1 + 1)), zq_3, zq_3, zq_3, H', ⟨by have := HK1.out; omega⟩, ⟨by repeat (first | (with_reducible first | exact HB.out | apply below_alloc | apply pw_below_drewN | apply below_drew1) | exact HB.out)⟩⟩
         ·rw [if_neg c13] at H; exact absurd H (by simp)
        ·rw [if_neg c12] at H; exact absurd H (by simp)
       ·rw [if_neg c11] at H; have c11b0 : (t490004.toList == x4_1.toList) = false := beq_eq_false_iff_ne.mpr c11; have c11b1 : (t490004.toList != x4_1.toList) = true := bne_iff_ne.mpr c11; have H' := Aside0.mk H; clear H; have p490003 : 0 ≤ (x5_1 : Int) := of_decide_eq_true zq_2; have q490003 : x5_1 < (l0.length : Int) := of_decide_eq_true zq_2; obtain ⟨ad490003, e490003, hx490003_0, hx490003_1⟩ := at_T65 HR0.out x5_1 p490003 q490003; obtain rfl : ad490001 = ad490003 := (by injection e490003)
        replace hx490003_0 := (HB.out.cell (World.block_lt_of_cell? w _ hx490003_0)).trans hx490003_0; replace hx490003_1 := (HB.out.cell (World.block_lt_of_cell? w _ hx490003_1)).trans hx490003_1; replace p490003 := eq_true p490003; replace q490003 := eq_true q490003
        go_wp2_with (first | (go_at_call 90; (with_reducible refine (spec_Sha256.calls k1 ((rd_T65 l0 x5_1).f0) t490004 _ A7.out).mono ?_); rintro e w18 ⟨rfl, hb⟩; have n0_ := Aside0.mk (below_step zq_0 hb); clear HB; have HB := n0_; clear n0_; (try clear hb); (try clear hb2); (try clear hk); (try clear hi)) | (go_at_call 82; (with_reducible refine (spec_l1Less.calls k1 x4_1 t490004 false _ A8.out).mono ?_); rintro e w' ⟨rfl, ⟨nd, rfl⟩⟩; (try first | exact ⟨rfl, _, World.drewN_drewN _ _ _⟩ | exact ⟨rfl, _, Eq.trans (World.drewN_drewN _ _ _) (congrArg (World.drewN _) (Nat.add_assoc _ _ _))⟩)))
        repeat (go_quiet (first | (go_at_call 90; (with_reducible refine (spec_Sha256.calls k1 ((rd_T65 l0 x5_1).f0) t490004 _ A7.out).mono ?_); rintro e w18 ⟨rfl, hb⟩; have n0_ := Aside0.mk (below_step zq_0 hb); clear HB; have HB := n0_; clear n0_; (try clear hb); (try clear hb2); (try clear hk); (try clear hi)) | (go_at_call 82; (with_reducible refine (spec_l1Less.calls k1 x4_1 t490004 false _ A8.out).mono ?_); rintro e w' ⟨rfl, ⟨nd, rfl⟩⟩; (try first | exact ⟨rfl, _, World.drewN_drewN _ _ _⟩ | exact ⟨rfl, _, Eq.trans (World.drewN_drewN _ _ _) (congrArg (World.drewN _) (Nat.add_assoc _ _ _))⟩))); try go_wp2_with (first | (go_at_call 90; (with_reducible refine (spec_Sha256.calls k1 ((rd_T65 l0 x5_1).f0) t490004 _ A7.out).mono ?_); rintro e w18 ⟨rfl, hb⟩; have n0_ := Aside0.mk (below_step zq_0 hb); clear HB; have HB := n0_; clear n0_; (try clear hb); (try clear hb2); (try clear hk); (try clear hi)) | (go_at_call 82; (with_reducible refine (spec_l1Less.calls k1 x4_1 t490004 false _ A8.out).mono ?_); rintro e w' ⟨rfl, ⟨nd, rfl⟩⟩; (try first | exact ⟨rfl, _, World.drewN_drewN _ _ _⟩ | exact ⟨rfl, _, Eq.trans (World.drewN_drewN _ _ _) (congrArg (World.drewN _) (Nat.add_assoc _ _ _))⟩))))
        go_roundg k1
        case measure => have := HK1.out; omega
        case rel => exact ⟨(x3_1), (x4_1), (wrap64 (x5_1 + 1)), zq_3, zq_3, zq_3, H', ⟨by have := HK1.out; omega⟩, ⟨by repeat (first | (with_reducible first | exact HB.out | apply below_alloc | apply pw_below_drewN | apply below_drew1) | exact HB.out)⟩⟩
     ·rw [if_neg c6] at H; exact absurd H (by simp)
    ·rw [if_neg c5] at H; have c5b0 : decide (x5_1 < (l0.length : Int)) = false := decide_eq_false c5; clear c5; obtain rfl := Option.some.inj H
     go_wp2
     repeat (go_quiet (fail); try go_wp2)
     go_ret
     exact ⟨by first | rfl | (simp [errW_none, errW_some] <;> rfl) | (simp [*, errW_none, errW_some] <;> rfl), by repeat (first | (with_reducible first | exact HB.out | apply below_alloc | apply pw_below_drewN | apply below_drew1) | exact HB.out)⟩
 ·rw [if_neg c2] at H; exact absurd H (by simp)
def spec_NodeHash.f (k : Nat) (a0_0 : ByteArray) (a0_1 : ByteArray) (a0_2 : ByteArray) (a0_3 : ByteArray) (a1 : Int) : Option (ByteArray) := (spec_EncodeNode.f a0_0 a0_1 a0_2 a0_3 a1).bind fun t840002 => (if (t840002.size : Int) = 0 then (some (⟨#[]⟩ : ByteArray)) else ((spec_l2Text.f t840002).bind fun t840003 => ((spec_Digest.f k t840003 a1).bind fun t840004 => (some t840004))))
set_option maxHeartbeats 8000000 in
set_option maxRecDepth 100000 in
theorem spec_NodeHash.calls (k : Nat) (a0_0 : ByteArray) (a0_1 : ByteArray) (a0_2 : ByteArray) (a0_3 : ByteArray) (a1 : Int) (r : ByteArray) (w : World) (h : spec_NodeHash.f k a0_0 a0_1 a0_2 a0_3 a1 = some r) :
  Calls Tryd.prog 84 #[.agg #[.string a0_0, .string a0_1, .string a0_2, .string a0_3], .int .i64 a1] w fun e w' => e = .returned (.string r) ∧ Below w.heap.size w w' := by
 have hu99 := Tryd.underlying99; have HB := Aside0.mk (Below.refl w.heap.size w); have H : ((spec_EncodeNode.f a0_0 a0_1 a0_2 a0_3 a1).bind fun t840002 => (if (t840002.size : Int) = 0 then (some (⟨#[]⟩ : ByteArray)) else ((spec_l2Text.f t840002).bind fun t840003 => ((spec_Digest.f k t840003 a1).bind fun t840004 => (some t840004))))) = some r := h; clear h; replace H := Option.bind_eq_some_iff.mp H; obtain ⟨t840002, A30, H⟩ := H; (try dsimp only at H); have A3 := Aside0.mk A30; clear A30
 by_cases c4 : (t840002.size : Int) = 0
 ·rw [if_pos c4] at H; have c4b0 : ((t840002.size : Int) == 0) = true := beq_iff_eq.mpr c4; have c4b1 : ((t840002.size : Int) != 0) = false := bne_eq_false_iff_eq.mpr c4; clear c4; obtain rfl := Option.some.inj H
  go_enter Tryd.func84, Tryd.ntmps84
  go_wp2_with (first | ((with_reducible refine gate_dst (N := 2) rfl ?_); refine box_event ?hg (N := 2) ?hd (cs := #[.string a0_0, .string a0_1, .string a0_2, .string a0_3]) (t := 99) ?hr ?_; (case hd => rfl); (case hg => rfl); (case hr => exact zq_12); intro gb840001 hg w5 hbox hb; have n0_ := Aside0.mk (below_step zq_0 hb); have n1_ := Aside0.mk (hbox); have n2_ := Aside0.mk ((by rw [hg]; exact (below_size zq_0) : w.heap.size ≤ gb840001)); have n3_ := Aside0.mk ((by rw [hg]; exact (below_size zq_0) : w.heap.size ≤ gb840001)); clear HB; have HB := n0_; have BK840001 := n1_; have GW840001 := n2_; have GE840001 := n3_; clear n0_ n1_ n2_ n3_; clear hb hbox hg; have hcz6_0 : w5.cell? ⟨gb840001, 0, none⟩ = some (.string a0_0) := (blk_cell BK840001.out 0).trans rfl; have hcz6_1 : w5.cell? ⟨gb840001, 1, none⟩ = some (.string a0_1) := (blk_cell BK840001.out 1).trans rfl; have hcz6_2 : w5.cell? ⟨gb840001, 2, none⟩ = some (.string a0_2) := (blk_cell BK840001.out 2).trans rfl; have hcz6_3 : w5.cell? ⟨gb840001, 3, none⟩ = some (.string a0_3) := (blk_cell BK840001.out 3).trans rfl; have hfz6_0 := blk_frozen BK840001.out 0; have hfz6_1 := blk_frozen BK840001.out 1; have hfz6_2 := blk_frozen BK840001.out 2; have hfz6_3 := blk_frozen BK840001.out 3) | ((with_reducible refine gate_callee (f := 83) rfl ?_); refine goesL_ (some 8) rfl rfl Tryd.func83 (by kernel_rfl) rfl #[.agg #[.string a0_0, .string a0_1, .string a0_2, .string a0_3], .int .i64 a1] rfl zq_1 ?_; (with_reducible refine (spec_EncodeNode.calls a0_0 a0_1 a0_2 a0_3 a1 t840002 _ A3.out).mono ?_); rintro e w7 ⟨rfl, hb⟩; refine ⟨_, rfl, ?_⟩; have n0_ := Aside0.mk (blk_below (g := gb840001) (o := .cells #[.string a0_0, .string a0_1, .string a0_2, .string a0_3] 99 (0, 0)) zq_37 hb); have n1_ := Aside0.mk (below_step zq_30 hb); clear BK840001; clear HB; have BK840001 := n0_; have HB := n1_; clear n0_ n1_; (try clear hb); (try clear hb2); (try clear hk); (try clear hi)))
  go_ret
  exact ⟨by first | rfl | (simp [errW_none, errW_some] <;> rfl) | (simp [*, errW_none, errW_some] <;> rfl), by repeat (first | (with_reducible first | exact HB.out | apply below_alloc | apply pw_below_drewN | apply below_drew1 | refine below_set ?_ GE840001.out) | exact HB.out)⟩
 ·rw [if_neg c4] at H; have c4b0 : ((t840002.size : Int) == 0) = false := beq_eq_false_iff_ne.mpr c4; have c4b1 : ((t840002.size : Int) != 0) = true := bne_iff_ne.mpr c4; replace H := Option.bind_eq_some_iff.mp H; obtain ⟨t840003, A80, H⟩ := H; (try dsimp only at H); have A8 := Aside0.mk A80; clear A80; replace H := Option.bind_eq_some_iff.mp H; obtain ⟨t840004, A90, H⟩ := H; (try dsimp only at H); have A9 := Aside0.mk A90; clear A90; obtain rfl := Option.some.inj H
  go_enter Tryd.func84, Tryd.ntmps84
  go_wp2_with (first | ((with_reducible refine gate_dst (N := 2) rfl ?_); refine box_event ?hg (N := 2) ?hd (cs := #[.string a0_0, .string a0_1, .string a0_2, .string a0_3]) (t := 99) ?hr ?_; (case hd => rfl); (case hg => rfl); (case hr => exact zq_12); intro gb840001 hg w10 hbox hb; have n0_ := Aside0.mk (below_step zq_0 hb); have n1_ := Aside0.mk (hbox); have n2_ := Aside0.mk ((by rw [hg]; exact (below_size zq_0) : w.heap.size ≤ gb840001)); have n3_ := Aside0.mk ((by rw [hg]; exact (below_size zq_0) : w.heap.size ≤ gb840001)); clear HB; have HB := n0_; have BK840001 := n1_; have GW840001 := n2_; have GE840001 := n3_; clear n0_ n1_ n2_ n3_; clear hb hbox hg; have hcz11_0 : w10.cell? ⟨gb840001, 0, none⟩ = some (.string a0_0) := (blk_cell BK840001.out 0).trans rfl; have hcz11_1 : w10.cell? ⟨gb840001, 1, none⟩ = some (.string a0_1) := (blk_cell BK840001.out 1).trans rfl; have hcz11_2 : w10.cell? ⟨gb840001, 2, none⟩ = some (.string a0_2) := (blk_cell BK840001.out 2).trans rfl; have hcz11_3 : w10.cell? ⟨gb840001, 3, none⟩ = some (.string a0_3) := (blk_cell BK840001.out 3).trans rfl; have hfz11_0 := blk_frozen BK840001.out 0; have hfz11_1 := blk_frozen BK840001.out 1; have hfz11_2 := blk_frozen BK840001.out 2; have hfz11_3 := blk_frozen BK840001.out 3) | ((with_reducible refine gate_callee (f := 83) rfl ?_); refine goesL_ (some 8) rfl rfl Tryd.func83 (by kernel_rfl) rfl #[.agg #[.string a0_0, .string a0_1, .string a0_2, .string a0_3], .int .i64 a1] rfl zq_1 ?_; (with_reducible refine (spec_EncodeNode.calls a0_0 a0_1 a0_2 a0_3 a1 t840002 _ A3.out).mono ?_); rintro e w12 ⟨rfl, hb⟩; refine ⟨_, rfl, ?_⟩; have n0_ := Aside0.mk (blk_below (g := gb840001) (o := .cells #[.string a0_0, .string a0_1, .string a0_2, .string a0_3] 99 (0, 0)) zq_37 hb); have n1_ := Aside0.mk (below_step zq_30 hb); clear BK840001; clear HB; have BK840001 := n0_; have HB := n1_; clear n0_ n1_; (try clear hb); (try clear hb2); (try clear hk); (try clear hi)) | ((with_reducible refine gate_callee (f := 48) rfl ?_); refine goesL_ (some 13) rfl rfl Tryd.func48 (by kernel_rfl) rfl #[.string t840002] rfl zq_1 ?_; (with_reducible refine (spec_l2Text.calls t840002 t840003 _ A8.out).mono ?_); rintro e w' ⟨rfl, ⟨nd, rfl⟩⟩; refine ⟨_, rfl, ?_⟩) | ((with_reducible refine gate_callee (f := 70) rfl ?_); refine goesL_ (some 15) rfl rfl Tryd.func70 (by kernel_rfl) rfl #[.string t840003, .int .i64 a1] rfl zq_1 ?_; (with_reducible refine (spec_Digest.calls k t840003 a1 t840004 _ A9.out).mono ?_); rintro e w13 ⟨rfl, hb⟩; refine ⟨_, rfl, ?_⟩; have n0_ := Aside0.mk (blk_below (g := gb840001) (o := .cells #[.string a0_0, .string a0_1, .string a0_2, .string a0_3] 99 (0, 0)) zq_37 hb); have n1_ := Aside0.mk (below_step zq_30 hb); clear BK840001; clear HB; have BK840001 := n0_; have HB := n1_; clear n0_ n1_; (try clear hb); (try clear hb2); (try clear hk); (try clear hi)))
  go_ret
  exact ⟨by first | rfl | (simp [errW_none, errW_some] <;> rfl) | (simp [*, errW_none, errW_some] <;> rfl), by repeat (first | (with_reducible first | exact HB.out | apply below_alloc | apply pw_below_drewN | apply below_drew1 | refine below_set ?_ GE840001.out) | exact HB.out)⟩
end Go.Proofs.YthnnphinfiobmaaDoor.Z
end
