/- Own texts, joined. -/
import Derived.Test.YtaepebkeijmjgaaDoorYFnClash27
import Derived.Test.YtaepebkeijmjgaaDoorYFnClash28
import Derived.Test.YtaepebkeijmjgaaDoorYFnClash21
import Derived.WalkLawsBesides
import Derived.Test.YtaepebkeijmjgaaDoorYFnClash22
import Derived.Deep.LoopGhost
section
namespace Go.Proofs.YtaepebkeijmjgaaDoor.Z
open RowKit YtaepebkeijmjgaaDoorW.PrintWords YtaepebkeijmjgaaDoorW.PrintLast YtaepebkeijmjgaaDoorW.PrintMore
attribute [local go_sem] max2_int min2_int max_two min_two max_three min_three max_four min_four
set_option linter.all false
mutual
def impl_changes.l0 : Nat → List (S77) → List (S77) → List (S219) → Option ((List (S219)))
 | 0, _, _, _ => none
 | k + 1, x0, x1, x5 => if (x0.length : Int) > 0 then (impl_changes.j1 k x0 x1 x5 true) else (impl_changes.j1 k x0 x1 x5 (decide ((x1.length : Int) > 0)))
def impl_changes.j1 : Nat → List (S77) → List (S77) → List (S219) → Bool → Option ((List (S219)))
 | 0, _, _, _, _ => none
 | k + 1, x0, x1, x5, x13 => if x13 = true then (if (x1.length : Int) = 0 then (impl_changes.j2 k x0 x1 x5 true) else (if (x0.length : Int) > 0 then (if 0 < (x0.length : Int) then (if 0 < (x1.length : Int) then (impl_changes.j2 k x0 x1 x5 (Op.bytesLess (((rd_T77 x0 0).f0).toList) (((rd_T77 x1 0).f0).toList))) else (none)) else (none)) else (impl_changes.j2 k x0 x1 x5 false))) else (some x5)
def impl_changes.j2 : Nat → List (S77) → List (S77) → List (S219) → Bool → Option ((List (S219)))
 | 0, _, _, _, _ => none
 | k + 1, x0, x1, x5, x43 => if x43 = true then (if 0 < (x0.length : Int) then (if x5.length < 2199023255552 then (if 1 ≤ (x0.length : Int) then (impl_changes.l0 k (x0.drop 1) x1 (x5 ++ [(⟨(rd_T77 x0 0).f0, true, (rd_T77 x0 0).f1, false, (⟨#[]⟩ : ByteArray)⟩ : S219)])) else (none)) else (none)) else (none)) else (if (x0.length : Int) = 0 then (impl_changes.j3 k x0 x1 x5 true) else (if 0 < (x1.length : Int) then (if 0 < (x0.length : Int) then (impl_changes.j3 k x0 x1 x5 (Op.bytesLess (((rd_T77 x1 0).f0).toList) (((rd_T77 x0 0).f0).toList))) else (none)) else (none)))
def impl_changes.j3 : Nat → List (S77) → List (S77) → List (S219) → Bool → Option ((List (S219)))
 | 0, _, _, _, _ => none
 | k + 1, x0, x1, x5, x77 => if x77 = true then (if 0 < (x1.length : Int) then (if x5.length < 2199023255552 then (if 1 ≤ (x1.length : Int) then (impl_changes.l0 k x0 (x1.drop 1) (x5 ++ [(⟨(rd_T77 x1 0).f0, false, (⟨#[]⟩ : ByteArray), true, (rd_T77 x1 0).f1⟩ : S219)])) else (none)) else (none)) else (none)) else (if 0 < (x0.length : Int) then (if 0 < (x1.length : Int) then (if ((rd_T77 x0 0).f1).toList = ((rd_T77 x1 0).f1).toList then (if 1 ≤ (x0.length : Int) then (if 1 ≤ (x1.length : Int) then (impl_changes.l0 k (x0.drop 1) (x1.drop 1) x5) else (none)) else (none)) else (if x5.length < 2199023255552 then (if 1 ≤ (x0.length : Int) then (if 1 ≤ (x1.length : Int) then (impl_changes.l0 k (x0.drop 1) (x1.drop 1) (x5 ++ [(⟨(rd_T77 x0 0).f0, true, (rd_T77 x0 0).f1, true, (rd_T77 x1 0).f1⟩ : S219)])) else (none)) else (none)) else (none))) else (none)) else (none))
end
def impl_changes.f (k : Nat) (l0 : List (S77)) (l1 : List (S77)) : Option ((List (S219))) := impl_changes.l0 k l0 l1 ([] : List (S219))
def impl_changes.T3 : Bool × List (List Nat × List Nat) := (true, [([], []), ([0], [0]), ([1], [1]), ([2], [2]), ([], []), ([4], [4]), ([5], [5]), ([6], [6]), ([3, 7], [3, 7])])
def impl_changes.B3 : List Nat := [0, 1, 3, 7, 0, 16, 48, 112, 255]
theorem impl_changes.tab3 : rtab .any (opsOf Tryd.f122 3) = impl_changes.T3 := by kernel_rfl
theorem impl_changes.bits3 : waitsOk impl_changes.T3.2 impl_changes.B3 = true := by kernel_rfl
def impl_changes.T4 : Bool × List (List Nat × List Nat) := (true, [([], []), ([], []), ([1], [1]), ([2], [2]), ([3], [3]), ([], []), ([5], [5]), ([6], [6]), ([7], [7]), ([], []), ([9], [9]), ([10], [10]), ([11], [11]), ([4, 8, 12], [4, 8, 12]), ([13], [13]), ([0, 14], [0, 14]), ([15, 15, 0, 1, 2, 3, 4, 5, 6, 7, 8, 9, 10, 11, 12, 13, 14, 15], [0, 15])])
def impl_changes.B4 : List Nat := [0, 0, 2, 6, 14, 0, 32, 96, 224, 0, 512, 1536, 3584, 8190, 16382, 32767, 65535]
theorem impl_changes.tab4 : rtab .any (opsOf Tryd.f122 4) = impl_changes.T4 := by kernel_rfl
theorem impl_changes.bits4 : waitsOk impl_changes.T4.2 impl_changes.B4 = true := by kernel_rfl
def impl_changes.T6 : Bool × List (List Nat × List Nat) := (true, [([], []), ([0], [0]), ([1], [1]), ([2], [2]), ([3], [3]), ([4, 3], [3, 4]), ([5, 3], [3, 5]), ([6, 3, 3], [3, 6]), ([7], [7]), ([8, 7], [7, 8]), ([9, 7], [7, 9]), ([10, 7], [7, 10]), ([7], [7]), ([12, 7], [7, 12]), ([13, 7], [7, 13]), ([14, 7], [7, 14]), ([11, 15, 7], [7, 11, 15]), ([7, 16, 3], [3, 7, 16]), ([3, 17], [3, 17]), ([18, 7], [18])])
def impl_changes.B6 : List Nat := [0, 1, 3, 7, 15, 31, 63, 127, 255, 511, 1023, 2047, 255, 4351, 12543, 28927, 65535, 131071, 262143, 524287]
theorem impl_changes.tab6 : rtab .any (opsOf Tryd.f122 6) = impl_changes.T6 := by kernel_rfl
theorem impl_changes.bits6 : waitsOk impl_changes.T6.2 impl_changes.B6 = true := by kernel_rfl
def impl_changes.T7 : Bool × List (List Nat × List Nat) := (true, [([], []), ([], []), ([1], [1]), ([2], [2]), ([3], [3]), ([], []), ([5], [5]), ([6], [6]), ([7], [7]), ([4, 8], [4, 8]), ([9], [9]), ([0, 10], [0, 10]), ([11, 11, 0, 1, 2, 3, 4, 5, 6, 7, 8, 9, 10, 11], [0, 11])])
def impl_changes.B7 : List Nat := [0, 0, 2, 6, 14, 0, 32, 96, 224, 510, 1022, 2047, 4095]
theorem impl_changes.tab7 : rtab .any (opsOf Tryd.f122 7) = impl_changes.T7 := by kernel_rfl
theorem impl_changes.bits7 : waitsOk impl_changes.T7.2 impl_changes.B7 = true := by kernel_rfl
def impl_changes.T9 : Bool × List (List Nat × List Nat) := (true, [([], []), ([0], [0]), ([1], [1]), ([2], [2]), ([3], [3]), ([4, 3], [3, 4]), ([5, 3], [3, 5]), ([6, 3], [3, 6]), ([3], [3]), ([8, 3], [3, 8]), ([9, 3], [3, 9]), ([10, 3], [3, 10]), ([7, 11, 3], [3, 7, 11]), ([3, 12], [3, 12]), ([13, 3], [13])])
def impl_changes.B9 : List Nat := [0, 1, 3, 7, 15, 31, 63, 127, 15, 271, 783, 1807, 4095, 8191, 16383]
theorem impl_changes.tab9 : rtab .any (opsOf Tryd.f122 9) = impl_changes.T9 := by kernel_rfl
theorem impl_changes.bits9 : waitsOk impl_changes.T9.2 impl_changes.B9 = true := by kernel_rfl
def impl_changes.T10 : Bool × List (List Nat × List Nat) := (true, [([], []), ([], []), ([1], [1]), ([2], [2]), ([3], [3]), ([], []), ([5], [5]), ([6], [6]), ([7], [7]), ([4, 8], [4, 8]), ([9], [9]), ([0, 10], [0, 10]), ([11, 11, 0, 1, 2, 3, 4, 5, 6, 7, 8, 9, 10, 11], [0, 11])])
def impl_changes.B10 : List Nat := [0, 0, 2, 6, 14, 0, 32, 96, 224, 510, 1022, 2047, 4095]
theorem impl_changes.tab10 : rtab .any (opsOf Tryd.f122 10) = impl_changes.T10 := by kernel_rfl
theorem impl_changes.bits10 : waitsOk impl_changes.T10.2 impl_changes.B10 = true := by kernel_rfl
set_option maxHeartbeats 8000000 in
set_option maxRecDepth 100000 in
theorem impl_changes.calls (k : Nat) (P0_ : Nat → Prop) (A0 : Option Addr) (c0 : Nat) (l0 : List (S77)) (P1_ : Nat → Prop) (A1 : Option Addr) (c1 : Nat) (l1 : List (S77)) (r : List (S219)) (w : World) (hs0 : Kd.V k77 77 w w.heap.size (fun k_ => P0_ k_) (.slice A0 l0.length c0) l0) (hs1 : Kd.V k77 77 w w.heap.size (fun k_ => P1_ k_) (.slice A1 l1.length c1) l1) (h : impl_changes.f k l0 l1 = some r) :
  Calls Tryd.prog 122 #[.slice A0 l0.length c0, .slice A1 l1.length c1] w fun e w' => ∃ v0_ : Value, e = .returned (v0_) ∧ Kd.R k219 219 w' w.heap.size (fun k_ => (w.heap.size ≤ k_)) v0_ r ∧ Below w.heap.size w w' := by
 have hu219 := Tryd.underlying219; have HO0 := Aside0.mk (show Kd.V k77 77 w w.heap.size (fun k_ => ((P0_ k_ ∨ P1_ k_) ∨ w.heap.size ≤ k_)) (.slice A0 l0.length c0) l0 from Kd.V_mono hs0 (fun k_ hk => .inl (.inl hk))); have HO1 := Aside0.mk (show Kd.V k77 77 w w.heap.size (fun k_ => ((P0_ k_ ∨ P1_ k_) ∨ w.heap.size ≤ k_)) (.slice A1 l1.length c1) l1 from Kd.V_mono hs1 (fun k_ hk => .inl (.inr hk))); have HB := Aside0.mk (Below.refl w.heap.size w); have H : (impl_changes.l0 k l0 l1 ([] : List (S219))) = some r := h; clear h; have H' := Aside0.mk H; clear H
 go_enter Tryd.func122, Tryd.ntmps122
 go_wp2
 go_loopg [0, 1, 5] k (fun kq v0 v1 v5 w' => ∃ (x0_1 : List (S77)) (x1_1 : List (S77)) (x5_1 : List (S219)), Aside0 (impl_changes.l0 kq x0_1 x1_1 x5_1 = some r) ∧ Aside0 (kq ≤ k) ∧ Aside0 (Kd.V k77 77 w' w.heap.size (fun k_ => ((P0_ k_ ∨ P1_ k_) ∨ w.heap.size ≤ k_) ∧ some k_ ≠ (v5 : Value).ownBlock) v0 x0_1) ∧ Aside0 (Kd.V k77 77 w' w.heap.size (fun k_ => ((P0_ k_ ∨ P1_ k_) ∨ w.heap.size ≤ k_) ∧ some k_ ≠ (v5 : Value).ownBlock) v1 x1_1) ∧ Aside0 (Kd.R k219 219 w' w.heap.size (fun k_ => (w.heap.size ≤ k_)) v5 x5_1) ∧ Aside0 (Below w.heap.size w w'))
 case atStart => exact ⟨(l0), (l1), (([] : List (S219))), H', ⟨Nat.le_refl _⟩, ⟨by (with_reducible repeat (first | apply Kd.V_alloc | apply Kd.V_drewN | apply Kd.V_drew)); exact Kd.V_mono HO0.out (fun _ hk => ⟨hk, (by simp [Value.ownBlock])⟩)⟩, ⟨by (with_reducible repeat (first | apply Kd.V_alloc | apply Kd.V_drewN | apply Kd.V_drew)); exact Kd.V_mono HO1.out (fun _ hk => ⟨hk, (by simp [Value.ownBlock])⟩)⟩, ⟨by first | exact Kd.R_nil _ _ _ _ _ | exact Kd.N_nil _ _ _ _ _ | exact Kd.V_nil _ _ _ _ _ | exact Kd.Q_nil _ _ _ _ _ | exact Kd.S_nil _ _ _ _ _⟩, ⟨by repeat (first | (with_reducible first | exact HB.out | apply below_alloc | apply pw_below_drewN | apply below_drew1) | exact HB.out)⟩⟩
 case round =>
  clear H'
  try clear c1
  try clear p2
  obtain ⟨x0_1, x1_1, x5_1, HA, HK1, HO_0, HO_1, HO_5, HB⟩ := hrel
  cases gk with
  | zero => exact absurd HA.out (by simp [impl_changes.l0])
  | succ k1 =>
   have H := HA.out; clear HA; simp only [impl_changes.l0] at H; have HC3 := Aside0.mk H; clear H
   go_upto_region 2 with (fail)
   go_cut [13] (fun v13 wc => ∃ (kq : Nat) (x13_2 : Bool), v13 = .bool x13_2 ∧ Aside0 (impl_changes.j1 kq x0_1 x1_1 x5_1 x13_2 = some r) ∧ Aside0 (kq ≤ k1) ∧ Aside0 (Kd.V k77 77 wc w.heap.size (fun k_ => ((P0_ k_ ∨ P1_ k_) ∨ w.heap.size ≤ k_) ∧ some k_ ≠ (u5 : Value).ownBlock) u0 x0_1) ∧ Aside0 (Kd.V k77 77 wc w.heap.size (fun k_ => ((P0_ k_ ∨ P1_ k_) ∨ w.heap.size ≤ k_) ∧ some k_ ≠ (u5 : Value).ownBlock) u1 x1_1) ∧ Aside0 (Kd.R k219 219 wc w.heap.size (fun k_ => (w.heap.size ≤ k_)) u5 x5_1) ∧ Aside0 (Below w.heap.size w wc))
   case first =>
    have H := HC3.out; clear HC3
    by_cases c4 : (x0_1.length : Int) > 0
    ·rw [if_pos c4] at H; have c4b0 : decide (0 < (x0_1.length : Int)) = true := decide_eq_true c4; have c4b1 : decide (0 < x0_1.length) = true := decide_eq_true (by omega); clear c4; (first | rw [c4b0] | (simp only [i64_w, i32_w]; rw [c4b0]) | skip); have H' := Aside0.mk H; clear H; obtain ⟨Ao5, co5, eo5⟩ := Kd.V_slice HO_0.out; subst eo5
     go_wp2
     go_meet
     case rel => exact ⟨_, (true), zq_4, H', ⟨by have := HK1.out; first | omega | exact Nat.le_refl _⟩, ⟨by (with_reducible repeat (first | apply Kd.V_alloc | apply Kd.V_drewN | apply Kd.V_drew)); exact HO_0.out⟩, ⟨by (with_reducible repeat (first | apply Kd.V_alloc | apply Kd.V_drewN | apply Kd.V_drew)); exact HO_1.out⟩, ⟨by (with_reducible repeat (first | apply Kd.R_alloc | apply Kd.R_drewN | apply Kd.R_drew)); exact HO_5.out⟩, ⟨by repeat (first | (with_reducible first | exact HB.out | apply below_alloc | apply pw_below_drewN | apply below_drew1) | exact HB.out)⟩⟩
    ·rw [if_neg c4] at H; have c4b0 : decide (0 < (x0_1.length : Int)) = false := decide_eq_false c4; have c4b1 : decide (0 < x0_1.length) = false := decide_eq_false (by omega); clear c4; (first | rw [c4b0] | (simp only [i64_w, i32_w]; rw [c4b0]) | skip); have H' := Aside0.mk H; clear H; obtain ⟨Ao6, co6, eo6⟩ := Kd.V_slice HO_0.out; subst eo6; obtain ⟨Ao7, co7, eo7⟩ := Kd.V_slice HO_1.out; subst eo7
     go_wp2
     go_meet
     case rel => exact ⟨_, (decide ((x1_1.length : Int) > 0)), zq_4, H', ⟨by have := HK1.out; first | omega | exact Nat.le_refl _⟩, ⟨by (with_reducible repeat (first | apply Kd.V_alloc | apply Kd.V_drewN | apply Kd.V_drew)); exact HO_0.out⟩, ⟨by (with_reducible repeat (first | apply Kd.V_alloc | apply Kd.V_drewN | apply Kd.V_drew)); exact HO_1.out⟩, ⟨by (with_reducible repeat (first | apply Kd.R_alloc | apply Kd.R_drewN | apply Kd.R_drew)); exact HO_5.out⟩, ⟨by repeat (first | (with_reducible first | exact HB.out | apply below_alloc | apply pw_below_drewN | apply below_drew1) | exact HB.out)⟩⟩
   case rest =>
    clear HC3
    try clear c1
    try clear p2
    try clear c4
    try clear c4b0
    try clear c4b1
    try clear p2
    obtain ⟨kq, x13_2, rfl, HA, HJ2, HO_0, HO_1, HO_5, HB⟩ := hcut
    cases kq with
    | zero => exact absurd HA.out (by simp [impl_changes.j1])
    | succ kj2 =>
     have H := HA.out; clear HA; simp only [impl_changes.j1] at H
     by_cases c8 : x13_2 = true
     ·subst c8; have H1 : (if (x1_1.length : Int) = 0 then (impl_changes.j2 kj2 x0_1 x1_1 x5_1 true) else (if (x0_1.length : Int) > 0 then (if 0 < (x0_1.length : Int) then (if 0 < (x1_1.length : Int) then (impl_changes.j2 kj2 x0_1 x1_1 x5_1 (Op.bytesLess (((rd_T77 x0_1 0).f0).toList) (((rd_T77 x1_1 0).f0).toList))) else (none)) else (none)) else (impl_changes.j2 kj2 x0_1 x1_1 x5_1 false))) = some r := by rw [if_pos rfl] at H; exact H
      clear H; have H := H1; clear H1; have HC9 := Aside0.mk H; clear H
      go_upto_region 6 with (fail)
      go_cut [43] (fun v43 wc => ∃ (kq : Nat) (x43_8 : Bool), v43 = .bool x43_8 ∧ Aside0 (impl_changes.j2 kq x0_1 x1_1 x5_1 x43_8 = some r) ∧ Aside0 (kq ≤ kj2) ∧ Aside0 (Kd.V k77 77 wc w.heap.size (fun k_ => ((P0_ k_ ∨ P1_ k_) ∨ w.heap.size ≤ k_) ∧ some k_ ≠ (u5 : Value).ownBlock) u0 x0_1) ∧ Aside0 (Kd.V k77 77 wc w.heap.size (fun k_ => ((P0_ k_ ∨ P1_ k_) ∨ w.heap.size ≤ k_) ∧ some k_ ≠ (u5 : Value).ownBlock) u1 x1_1) ∧ Aside0 (Kd.R k219 219 wc w.heap.size (fun k_ => (w.heap.size ≤ k_)) u5 x5_1) ∧ Aside0 (Below w.heap.size w wc))
      case first =>
       have H := HC9.out; clear HC9
       by_cases c10 : (x1_1.length : Int) = 0
       ·rw [if_pos c10] at H; have c10b0 : ((x1_1.length : Int) == 0) = true := beq_iff_eq.mpr c10; have c10b1 : ((x1_1.length : Int) != 0) = false := bne_eq_false_iff_eq.mpr c10; clear c10; (first | rw [c10b0] | (simp only [i64_w, i32_w]; rw [c10b0]) | skip); have H' := Aside0.mk H; clear H
        try go_wp2
        have n0_ := Aside0.mk (Kd.V_drew HO_0.out); have n1_ := Aside0.mk (Kd.V_drew HO_1.out); have n2_ := Aside0.mk (Kd.R_drew HO_5.out); have n3_ := Aside0.mk (below_drew1 HB.out); clear HO_0; clear HO_1; clear HO_5; clear HB; have HO_0 := n0_; have HO_1 := n1_; have HO_5 := n2_; have HB := n3_; clear n0_ n1_ n2_ n3_; obtain ⟨Ao12, co12, eo12⟩ := Kd.V_slice HO_1.out; (first | subst eo12 | (injection eo12 with f1_ f2_ f3_; have f4_ := f1_.symm; have f5_ := f3_.symm; clear f1_ f2_ f3_; subst f4_; subst f5_)); refine start_ (n := 20) (S := fun w' => True) (ds := []) #[false, false, false, false, false, false, false, false, false, false, false, false, false, false, false, false, false, false, false, false] (by kernel_rfl) rfl rfl trivial (fun hHeld => ?_); refine with_tabW impl_changes.tab6 impl_changes.bits6 (fun HT_ HW_ => ?_); generalize wc.drew = w11 at HO_0 HO_1 HO_5 HB hHeld ⊢; refine pq_ (i := 0) (N := some 44) HT_.out ?_; refine pq_ (i := 1) (N := some 45) HT_.out ?_; refine pq_ (i := 2) (N := some 46) HT_.out ?_; refine pq_ (i := 3) (N := some 47) HT_.out ?_; refine pu_ (i := 4) (N := some 48) HT_.out ?_; refine pu_ (i := 5) (N := some 49) HT_.out ?_; refine pu_ (i := 6) (N := some 50) HT_.out ?_; refine pu_ (i := 7) (N := some 51) HT_.out ?_; refine pu_ (i := 8) (N := some 52) HT_.out ?_; refine pu_ (i := 9) (N := some 53) HT_.out ?_; refine pu_ (i := 10) (N := some 54) HT_.out ?_; refine pu_ (i := 11) (N := some 55) HT_.out ?_; refine pu_ (i := 12) (N := some 56) HT_.out ?_; refine pu_ (i := 13) (N := some 57) HT_.out ?_; refine pu_ (i := 14) (N := some 58) HT_.out ?_; refine pu_ (i := 15) (N := some 59) HT_.out ?_; refine pu_ (i := 16) (N := some 60) HT_.out ?_; refine pu_ (i := 17) (N := some 61) HT_.out ?_; refine pq_ (i := 18) (N := some 62) HT_.out ?_; refine pq_ (i := 19) (N := some 43) HT_.out ?_; refine done_ (done_of HT_.out (by kernel_rfl)) ?_
        try go_wp2
        go_meet
        case rel => exact ⟨_, (true), zq_4, H', ⟨by have := HK1.out; have := HJ2.out; first | omega | exact Nat.le_refl _⟩, ⟨by (with_reducible repeat (first | apply Kd.V_alloc | apply Kd.V_drewN | apply Kd.V_drew)); exact HO_0.out⟩, ⟨by (with_reducible repeat (first | apply Kd.V_alloc | apply Kd.V_drewN | apply Kd.V_drew)); exact HO_1.out⟩, ⟨by (with_reducible repeat (first | apply Kd.R_alloc | apply Kd.R_drewN | apply Kd.R_drew)); exact HO_5.out⟩, ⟨by repeat (first | (with_reducible first | exact HB.out | apply below_alloc | apply pw_below_drewN | apply below_drew1) | exact HB.out)⟩⟩
       ·rw [if_neg c10] at H; have c10b0 : ((x1_1.length : Int) == 0) = false := beq_eq_false_iff_ne.mpr c10; have c10b1 : ((x1_1.length : Int) != 0) = true := bne_iff_ne.mpr c10; have c10b2 : ¬ (x1_1 = []) := fun h_ => c10 (by rw [h_]; rfl)
        (first | rw [c10b0] | (simp only [i64_w, i32_w]; rw [c10b0]) | skip)
        by_cases c13 : (x0_1.length : Int) > 0
        ·rw [if_pos c13] at H; have c13b0 : decide (0 < (x0_1.length : Int)) = true := decide_eq_true c13; have c13b1 : decide (0 < x0_1.length) = true := decide_eq_true (by omega); clear c13
         by_cases c14 : 0 < (x0_1.length : Int)
         ·rw [if_pos c14] at H; have c14b0 : decide (0 < (x0_1.length : Int)) = true := decide_eq_true c14; have c14b1 : decide (0 < x0_1.length) = true := decide_eq_true (by omega); clear c14
          by_cases c15 : 0 < (x1_1.length : Int)
          ·rw [if_pos c15] at H; have c15b0 : decide (0 < (x1_1.length : Int)) = true := decide_eq_true c15; have c15b1 : decide (0 < x1_1.length) = true := decide_eq_true (by omega); clear c15; have H' := Aside0.mk H; clear H
           try go_wp2
           have n0_ := Aside0.mk (Kd.V_drew HO_0.out); have n1_ := Aside0.mk (Kd.V_drew HO_1.out); have n2_ := Aside0.mk (Kd.R_drew HO_5.out); have n3_ := Aside0.mk (below_drew1 HB.out); clear HO_0; clear HO_1; clear HO_5; clear HB; have HO_0 := n0_; have HO_1 := n1_; have HO_5 := n2_; have HB := n3_; clear n0_ n1_ n2_ n3_; obtain ⟨Ao17, co17, eo17⟩ := Kd.V_slice HO_1.out; (first | subst eo17 | (injection eo17 with f1_ f2_ f3_; have f4_ := f1_.symm; have f5_ := f3_.symm; clear f1_ f2_ f3_; subst f4_; subst f5_)); obtain ⟨Ao18, co18, eo18⟩ := Kd.V_slice HO_0.out; (first | subst eo18 | (injection eo18 with f1_ f2_ f3_; have f4_ := f1_.symm; have f5_ := f3_.symm; clear f1_ f2_ f3_; subst f4_; subst f5_)); have p1220001 : 0 ≤ (0 : Int) := (by omega)
           have q1220001 : 0 < (x0_1.length : Int) := of_decide_eq_true zq_2; obtain ⟨ad1220001, e1220001, hx1220001_0, hx1220001_1⟩ := at_T77 (Kd.V_reads' HO_0.out).2.2 0 p1220001 q1220001
           cases e1220001
           have qi1220001 : (0 < x0_1.length) = True := eq_true (by omega); (try rw [show ((0 : Int)).toNat = 0 from rfl] at hx1220001_0); (try rw [show 0 * 2 = 0 from rfl] at hx1220001_0); (try rw [Addr.add_zero'] at hx1220001_0); (try rw [show ((0 : Int)).toNat = 0 from rfl] at hx1220001_1); (try rw [show 0 * 2 = 0 from rfl] at hx1220001_1); (try rw [Addr.add_zero'] at hx1220001_1); replace p1220001 := eq_true p1220001; replace q1220001 := eq_true q1220001; have p1220002 : 0 ≤ (0 : Int) := (by omega)
           have q1220002 : 0 < (x1_1.length : Int) := of_decide_eq_true zq_2; obtain ⟨ad1220002, e1220002, hx1220002_0, hx1220002_1⟩ := at_T77 (Kd.V_reads' HO_1.out).2.2 0 p1220002 q1220002
           cases e1220002
           have qi1220002 : (0 < x1_1.length) = True := eq_true (by omega); (try rw [show ((0 : Int)).toNat = 0 from rfl] at hx1220002_0); (try rw [show 0 * 2 = 0 from rfl] at hx1220002_0); (try rw [Addr.add_zero'] at hx1220002_0); (try rw [show ((0 : Int)).toNat = 0 from rfl] at hx1220002_1); (try rw [show 0 * 2 = 0 from rfl] at hx1220002_1); (try rw [Addr.add_zero'] at hx1220002_1); replace p1220002 := eq_true p1220002; replace q1220002 := eq_true q1220002; refine start_ (n := 20) (S := fun w' => w'.cell? ad1220001 = some (.string ((rd_T77 x0_1 0).f0)) ∧ w'.cell? ⟨ad1220001.block, ad1220001.off + 1, none⟩ = some (.string ((rd_T77 x0_1 0).f1)) ∧ w'.cell? ad1220002 = some (.string ((rd_T77 x1_1 0).f0)) ∧ w'.cell? ⟨ad1220002.block, ad1220002.off + 1, none⟩ = some (.string ((rd_T77 x1_1 0).f1))) (ds := []) #[false, false, false, false, false, false, false, false, false, false, false, false, false, false, false, false, false, false, false, false] (by kernel_rfl) rfl rfl ⟨hx1220001_0, hx1220001_1, hx1220002_0, hx1220002_1⟩ (fun hHeld => ?_); refine with_tabW impl_changes.tab6 impl_changes.bits6 (fun HT_ HW_ => ?_); generalize wc.drew = w16 at HO_0 HO_1 HO_5 HB hx1220001_0 hx1220001_1 hx1220002_0 hx1220002_1 hHeld ⊢; refine pq_ (i := 0) (N := some 44) HT_.out ?_; refine pq_ (i := 1) (N := some 45) HT_.out ?_; refine pq_ (i := 2) (N := some 46) HT_.out ?_; refine pq_ (i := 3) (N := some 47) HT_.out ?_; refine pq_ (i := 4) (N := some 48) HT_.out ?_; refine pq_ (i := 5) (N := some 49) HT_.out ?_; refine pq_ (i := 6) (N := some 50) HT_.out ?_; refine pq_ (i := 7) (N := some 51) HT_.out ?_; refine pq_ (i := 8) (N := some 52) HT_.out ?_; refine pq_ (i := 9) (N := some 53) HT_.out ?_; refine pq_ (i := 10) (N := some 54) HT_.out ?_; refine pq_ (i := 12) (N := some 56) HT_.out ?_; refine pq_ (i := 13) (N := some 57) HT_.out ?_; refine pq_ (i := 14) (N := some 58) HT_.out ?_; refine tq_ (i := 11) (N := some 55) HT_.out HW_.out hHeld (hy := by rintro w' ⟨s0, s1, s2, s3⟩; go_simp; with_reducible rfl) (h := ?_); refine tq_ (i := 15) (N := some 59) HT_.out HW_.out hHeld (hy := by rintro w' ⟨s0, s1, s2, s3⟩; go_simp; with_reducible rfl) (h := ?_); refine pq_ (i := 16) (N := some 60) HT_.out ?_; refine pq_ (i := 17) (N := some 61) HT_.out ?_; refine pq_ (i := 18) (N := some 62) HT_.out ?_; refine pq_ (i := 19) (N := some 43) HT_.out ?_; refine done_ (done_of HT_.out (by kernel_rfl)) ?_
           try go_wp2
           go_meet
           case rel => exact ⟨_, ((Op.bytesLess (((rd_T77 x0_1 0).f0).toList) (((rd_T77 x1_1 0).f0).toList))), zq_4, H', ⟨by have := HK1.out; have := HJ2.out; first | omega | exact Nat.le_refl _⟩, ⟨by (with_reducible repeat (first | apply Kd.V_alloc | apply Kd.V_drewN | apply Kd.V_drew)); exact HO_0.out⟩, ⟨by (with_reducible repeat (first | apply Kd.V_alloc | apply Kd.V_drewN | apply Kd.V_drew)); exact HO_1.out⟩, ⟨by (with_reducible repeat (first | apply Kd.R_alloc | apply Kd.R_drewN | apply Kd.R_drew)); exact HO_5.out⟩, ⟨by repeat (first | (with_reducible first | exact HB.out | apply below_alloc | apply pw_below_drewN | apply below_drew1) | exact HB.out)⟩⟩
          ·rw [if_neg c15] at H; exact absurd H (by simp)
         ·rw [if_neg c14] at H; exact absurd H (by simp)
        ·rw [if_neg c13] at H; have c13b0 : decide (0 < (x0_1.length : Int)) = false := decide_eq_false c13; have c13b1 : decide (0 < x0_1.length) = false := decide_eq_false (by omega); clear c13; have H' := Aside0.mk H; clear H
         try go_wp2
         have n0_ := Aside0.mk (Kd.V_drew HO_0.out); have n1_ := Aside0.mk (Kd.V_drew HO_1.out); have n2_ := Aside0.mk (Kd.R_drew HO_5.out); have n3_ := Aside0.mk (below_drew1 HB.out); clear HO_0; clear HO_1; clear HO_5; clear HB; have HO_0 := n0_; have HO_1 := n1_; have HO_5 := n2_; have HB := n3_; clear n0_ n1_ n2_ n3_; obtain ⟨Ao20, co20, eo20⟩ := Kd.V_slice HO_1.out; (first | subst eo20 | (injection eo20 with f1_ f2_ f3_; have f4_ := f1_.symm; have f5_ := f3_.symm; clear f1_ f2_ f3_; subst f4_; subst f5_)); obtain ⟨Ao21, co21, eo21⟩ := Kd.V_slice HO_0.out; (first | subst eo21 | (injection eo21 with f1_ f2_ f3_; have f4_ := f1_.symm; have f5_ := f3_.symm; clear f1_ f2_ f3_; subst f4_; subst f5_)); refine start_ (n := 20) (S := fun w' => True) (ds := []) #[false, false, false, false, false, false, false, false, false, false, false, false, false, false, false, false, false, false, false, false] (by kernel_rfl) rfl rfl trivial (fun hHeld => ?_); refine with_tabW impl_changes.tab6 impl_changes.bits6 (fun HT_ HW_ => ?_); generalize wc.drew = w19 at HO_0 HO_1 HO_5 HB hHeld ⊢; refine pq_ (i := 0) (N := some 44) HT_.out ?_; refine pq_ (i := 1) (N := some 45) HT_.out ?_; refine pq_ (i := 2) (N := some 46) HT_.out ?_; refine pq_ (i := 3) (N := some 47) HT_.out ?_; refine pq_ (i := 4) (N := some 48) HT_.out ?_; refine pq_ (i := 5) (N := some 49) HT_.out ?_; refine pq_ (i := 6) (N := some 50) HT_.out ?_; refine pq_ (i := 7) (N := some 51) HT_.out ?_; refine pu_ (i := 8) (N := some 52) HT_.out ?_; refine pu_ (i := 9) (N := some 53) HT_.out ?_; refine pu_ (i := 10) (N := some 54) HT_.out ?_; refine pu_ (i := 11) (N := some 55) HT_.out ?_; refine pu_ (i := 12) (N := some 56) HT_.out ?_; refine pu_ (i := 13) (N := some 57) HT_.out ?_; refine pu_ (i := 14) (N := some 58) HT_.out ?_; refine pu_ (i := 15) (N := some 59) HT_.out ?_; refine pu_ (i := 16) (N := some 60) HT_.out ?_; refine pq_ (i := 17) (N := some 61) HT_.out ?_; refine pq_ (i := 18) (N := some 62) HT_.out ?_; refine pq_ (i := 19) (N := some 43) HT_.out ?_; refine done_ (done_of HT_.out (by kernel_rfl)) ?_
         try go_wp2
         go_meet
         case rel => exact ⟨_, (false), zq_4, H', ⟨by have := HK1.out; have := HJ2.out; first | omega | exact Nat.le_refl _⟩, ⟨by (with_reducible repeat (first | apply Kd.V_alloc | apply Kd.V_drewN | apply Kd.V_drew)); exact HO_0.out⟩, ⟨by (with_reducible repeat (first | apply Kd.V_alloc | apply Kd.V_drewN | apply Kd.V_drew)); exact HO_1.out⟩, ⟨by (with_reducible repeat (first | apply Kd.R_alloc | apply Kd.R_drewN | apply Kd.R_drew)); exact HO_5.out⟩, ⟨by repeat (first | (with_reducible first | exact HB.out | apply below_alloc | apply pw_below_drewN | apply below_drew1) | exact HB.out)⟩⟩
      case rest =>
       clear HC9
       try clear c1
       try clear p1
       try clear q1
       try clear hx1
       try clear qi1
       try clear p2
       try clear c4
       try clear c4b0
       try clear c4b1
       try clear c8
       try clear c10
       try clear c10b0
       try clear c10b1
       try clear c10b2
       try clear p12
       try clear q12
       try clear hx12
       try clear qi12
       try clear c13
       try clear c13b0
       try clear c13b1
       try clear c14
       try clear c14b0
       try clear c14b1
       try clear c15
       try clear c15b0
       try clear c15b1
       try clear hx1220001_0
       try clear hx1220001_1
       try clear hx1220002_0
       try clear hx1220002_1
       try clear p1220001
       try clear p1220002
       try clear p2
       try clear q1220001
       try clear q1220002
       obtain ⟨kq, x43_8, rfl, HA, HJ8, HO_0, HO_1, HO_5, HB⟩ := hcut
       cases kq with
       | zero => exact absurd HA.out (by simp [impl_changes.j2])
       | succ kj8 =>
        have H := HA.out; clear HA; simp only [impl_changes.j2] at H
        by_cases c22 : x43_8 = true
        ·subst c22; have H1 : (if 0 < (x0_1.length : Int) then (if x5_1.length < 2199023255552 then (if 1 ≤ (x0_1.length : Int) then (impl_changes.l0 kj8 (x0_1.drop 1) x1_1 (x5_1 ++ [(⟨(rd_T77 x0_1 0).f0, true, (rd_T77 x0_1 0).f1, false, (⟨#[]⟩ : ByteArray)⟩ : S219)])) else (none)) else (none)) else (none)) = some r := by rw [if_pos rfl] at H; exact H
         clear H; have H := H1; clear H1
         by_cases c23 : 0 < (x0_1.length : Int)
         ·rw [if_pos c23] at H; have c23b0 : decide (0 < (x0_1.length : Int)) = true := decide_eq_true c23; have c23b1 : decide (0 < x0_1.length) = true := decide_eq_true (by omega); clear c23
          by_cases c24 : x5_1.length < 2199023255552
          ·rw [if_pos c24] at H; have LMc24 := Aside0.mk c24; clear c24; obtain ⟨y1220005, hy1220005⟩ : ∃ y_ : List (S219), y_ = (x5_1 ++ [(⟨(rd_T77 x0_1 0).f0, true, (rd_T77 x0_1 0).f1, false, (⟨#[]⟩ : ByteArray)⟩ : S219)]) := ⟨_, rfl⟩
           replace H : (if 1 ≤ (x0_1.length : Int) then (impl_changes.l0 kj8 (x0_1.drop 1) x1_1 y1220005) else (none)) = some r := by first | (rw [hy1220005]; with_reducible exact H) | (have H2_ := (Option.bind_some _ _).symm.trans H; rw [hy1220005]; with_reducible exact H2_) | (have H2_ := (Option.bind_some _ _).symm.trans H; with_reducible exact H2_) | with_reducible exact H | (rw [hy1220005]; exact H) | exact H
           have Ny1220005 := Aside0.mk hy1220005; clear hy1220005
           by_cases c25 : 1 ≤ (x0_1.length : Int)
           ·rw [if_pos c25] at H; have c25b0 := eq_true c25; have c25b1 : decide (1 ≤ (x0_1.length : Int)) = true := decide_eq_true c25; clear c25; obtain ⟨y1220008, hy1220008⟩ : ∃ y_ : List (S77), y_ = (x0_1.drop 1) := ⟨_, rfl⟩
            replace H : (impl_changes.l0 kj8 y1220008 x1_1 y1220005) = some r := by first | (rw [hy1220008]; with_reducible exact H) | (have H2_ := (Option.bind_some _ _).symm.trans H; rw [hy1220008]; with_reducible exact H2_) | (have H2_ := (Option.bind_some _ _).symm.trans H; with_reducible exact H2_) | with_reducible exact H | (rw [hy1220008]; exact H) | exact H
            have Ny1220008 := Aside0.mk hy1220008; clear hy1220008; have H' := Aside0.mk H; clear H
            try go_wp2
            have n0_ := Aside0.mk (Kd.V_drew HO_0.out); have n1_ := Aside0.mk (Kd.V_drew HO_1.out); have n2_ := Aside0.mk (Kd.R_drew HO_5.out); have n3_ := Aside0.mk (below_drew1 HB.out); clear HO_0; clear HO_1; clear HO_5; clear HB; have HO_0 := n0_; have HO_1 := n1_; have HO_5 := n2_; have HB := n3_; clear n0_ n1_ n2_ n3_; obtain ⟨Ao27, co27, eo27⟩ := Kd.V_slice HO_0.out; (first | subst eo27 | (injection eo27 with f1_ f2_ f3_; have f4_ := f1_.symm; have f5_ := f3_.symm; clear f1_ f2_ f3_; subst f4_; subst f5_)); have p1220003 : 0 ≤ (0 : Int) := (by omega)
            have q1220003 : 0 < (x0_1.length : Int) := of_decide_eq_true zq_2; obtain ⟨ad1220003, e1220003, hx1220003_0, hx1220003_1⟩ := at_T77 (Kd.V_reads' HO_0.out).2.2 0 p1220003 q1220003
            cases e1220003
            have qi1220003 : (0 < x0_1.length) = True := eq_true (by omega); (try rw [show ((0 : Int)).toNat = 0 from rfl] at hx1220003_0); (try rw [show 0 * 2 = 0 from rfl] at hx1220003_0); (try rw [Addr.add_zero'] at hx1220003_0); (try rw [show ((0 : Int)).toNat = 0 from rfl] at hx1220003_1); (try rw [show 0 * 2 = 0 from rfl] at hx1220003_1); (try rw [Addr.add_zero'] at hx1220003_1); replace p1220003 := eq_true p1220003; replace q1220003 := eq_true q1220003; have p1220004 : 0 ≤ (0 : Int) := (by omega)
            have q1220004 : 0 < (x0_1.length : Int) := of_decide_eq_true zq_2; obtain ⟨ad1220004, e1220004, hx1220004_0, hx1220004_1⟩ := at_T77 (Kd.V_reads' HO_0.out).2.2 0 p1220004 q1220004; obtain rfl : ad1220003 = ad1220004 := (by injection e1220004)
            have qi1220004 : (0 < x0_1.length) = True := eq_true (by omega); (try rw [show ((0 : Int)).toNat = 0 from rfl] at hx1220004_0); (try rw [show 0 * 2 = 0 from rfl] at hx1220004_0); (try rw [Addr.add_zero'] at hx1220004_0); (try rw [show ((0 : Int)).toNat = 0 from rfl] at hx1220004_1); (try rw [show 0 * 2 = 0 from rfl] at hx1220004_1); (try rw [Addr.add_zero'] at hx1220004_1); replace p1220004 := eq_true p1220004; replace q1220004 := eq_true q1220004; refine start_ (n := 13) (S := fun w' => w'.cell? ad1220003 = some (.string ((rd_T77 x0_1 0).f0)) ∧ w'.cell? ⟨ad1220003.block, ad1220003.off + 1, none⟩ = some (.string ((rd_T77 x0_1 0).f1)) ∧ w'.cell? ad1220003 = some (.string ((rd_T77 x0_1 0).f0)) ∧ w'.cell? ⟨ad1220003.block, ad1220003.off + 1, none⟩ = some (.string ((rd_T77 x0_1 0).f1))) (ds := [10, 11]) #[false, false, false, false, false, false, false, false, false, false, false, false, false] (by kernel_rfl) rfl rfl ⟨hx1220003_0, hx1220003_1, hx1220004_0, hx1220004_1⟩ (fun hHeld => ?_); refine with_tabW impl_changes.tab7 impl_changes.bits7 (fun HT_ HW_ => ?_); generalize wc.drew = w26 at HO_0 HO_1 HO_5 HB hx1220003_0 hx1220003_1 hx1220004_0 hx1220004_1 hHeld ⊢; refine pq_ (i := 0) (N := some 63) HT_.out ?_; refine pq_ (i := 1) (N := some 64) HT_.out ?_; refine pq_ (i := 2) (N := some 65) HT_.out ?_; refine pq_ (i := 3) (N := some 66) HT_.out ?_; refine pq_ (i := 5) (N := some 68) HT_.out ?_; refine pq_ (i := 6) (N := some 69) HT_.out ?_; refine pq_ (i := 7) (N := some 70) HT_.out ?_; refine tq_ (i := 4) (N := some 67) HT_.out HW_.out hHeld (hy := by rintro w' ⟨s0, s1, s2, s3⟩; go_simp; with_reducible rfl) (h := ?_); refine tq_ (i := 8) (N := some 71) HT_.out HW_.out hHeld (hy := by rintro w' ⟨s0, s1, s2, s3⟩; go_simp; with_reducible rfl) (h := ?_); refine pq_ (i := 9) (N := some 72) HT_.out ?_; refine last_ (i := 10) (N := some 73) #[true, true, true, true, true, true, true, true, true, true, true, false, false] rfl rfl (one_of HT_.out (by kernel_rfl)) (by decide) (fun K hK => ?_); refine value_ (w1 := ?_) (v := ?_) (by rfl) rfl ?_ ?_; rotate_left 2
            ·go_simp
             constructor
             ·rfl
             ·rfl
            refine hK.out _ _ ?_; clear hK K; refine norm_ (a' := ?_) ?_ ?_; rotate_left
            ·show Act.put _ (some 73) _ = _; simp only [Act.put, List.setIfInBounds_toArray, List.set_cons_zero, List.set_cons_succ, i64_w, i32_w]; rfl
            refine last_ (i := 11) (N := some 74) #[true, true, true, true, true, true, true, true, true, true, true, true, false] rfl rfl (one_of HT_.out (by kernel_rfl)) (by decide) (fun K hK => ?_); refine Kd.R_append_step k219 (w0 := w) w.heap.size (by rfl) (.tmp 63) (.tmp 73) 188 219 (.agg #[(.string ⟨#[]⟩), (.bool false), (.string ⟨#[]⟩), (.bool false), (.string ⟨#[]⟩)]) 64 rfl Tryd.underlying188 info219 rfl (by decide) (by omega) u5 x5_1 (⟨(rd_T77 x0_1 0).f0, true, (rd_T77 x0_1 0).f1, false, (⟨#[]⟩ : ByteArray)⟩ : S219) [.string ((rd_T77 x0_1 0).f0), .bool true, .string ((rd_T77 x0_1 0).f1), .bool false, .string (⟨#[]⟩ : ByteArray)] (fun k_ => (w.heap.size ≤ k_)) (fun _ => False) rfl rfl ?aP (fun _ hk => hk.elim) ?aF ?aO ?aB ?aS ?aL ?_; (case aP => exact k219_mkM _ _ _ (⟨(rd_T77 x0_1 0).f0, true, (rd_T77 x0_1 0).f1, false, (⟨#[]⟩ : ByteArray)⟩ : S219)); (case aB => exact zq_0); (case aF => exact (fun k_ hk => (Nat.le_trans (below_size zq_0) hk))); (case aO => exact zq_24); (case aS => exact (below_size zq_0)); (case aL => have := LMc24.out; omega); intro v1220006 w28 ho hb hg hat; rw [← Ny1220005.out] at ho; have n0_ := Aside0.mk (Kd.V_afterv (ok := (fun k_ => ((P0_ k_ ∨ P1_ k_) ∨ w.heap.size ≤ k_))) zq_9 hg hat); have n1_ := Aside0.mk (Kd.V_afterv (ok := (fun k_ => ((P0_ k_ ∨ P1_ k_) ∨ w.heap.size ≤ k_))) (by (with_reducible repeat (first | apply Kd.V_alloc | apply Kd.V_drewN | apply Kd.V_drew)); exact HO_1.out) hg hat); have n2_ := Aside0.mk (hb); have n3_ := Aside0.mk (ho); clear HO_0; clear HO_1; clear HB; clear HO_5; have HO_0 := n0_; have HO_1 := n1_; have HB := n2_; have HO1220007 := n3_; clear n0_ n1_ n2_ n3_; clear ho hb hg hat; refine hK.out _ _ ?_; clear hK K; refine norm_ (a' := ?_) ?_ ?_; rotate_left
            ·show Act.put _ (some 74) _ = _; simp only [Act.put, List.setIfInBounds_toArray, List.set_cons_zero, List.set_cons_succ, i64_w, i32_w]; rfl
            refine pq_ (i := 12) (N := some 5) HT_.out ?_; refine done_ (done_of HT_.out (by kernel_rfl)) ?_; have q29 : (1 : Int) ≤ ((x0_1.length : Int) : Int) := of_decide_eq_true zq_2; obtain ⟨i029, hi029, _, hsz29, _⟩ := info_parts info77; have hroom29 : x0_1.length ≤ co27 := (Kd.V_reads' HO_0.out).2.1; have hC29 : Kd.F k77 _ _ (some ad1220003) x0_1.length x0_1 := (Kd.V_at (base := w.heap.size) HO_0.out).2.2; have hcut29 := cut_from (P := Tryd.prog) 22 77 .i64 Tryd.underlying22 hi029 2 hsz29 (some ad1220003) x0_1.length co27 1 (by omega) q29; have hr29 := Kd.F_cut (m := (1 : Int).toNat) (c := co27) hC29 (by omega) hroom29; obtain ⟨A29, hA29⟩ : ∃ Az_, Az_ = (if co27 = (1 : Int).toNat then (some ad1220003) else ((some ad1220003) : Option Addr).map (·.add ((1 : Int).toNat * 2))) := ⟨_, rfl⟩
            obtain ⟨c29, hc29⟩ : ∃ cz_, cz_ = co27 - (1 : Int).toNat := ⟨_, rfl⟩
            have hy29 : y1220008.length = x0_1.length - (1 : Int).toNat := (by rw [Ny1220008.out, List.length_drop] <;> omega)
            rw [show (x0_1).drop (1 : Int).toNat = y1220008 from Ny1220008.out.symm] at hr29; replace hr29 : Kd.F k77 _ _ A29 y1220008.length y1220008 := (by rw [hA29]; exact hr29)
            rw [← hy29, ← hA29, ← hc29] at hcut29; have HO1220012 := Aside0.mk (show Kd.V k77 77 _ w.heap.size _ (.slice A29 y1220008.length c29) y1220008 from Kd.V_mk (by rw [hy29, hc29]; exact Nat.sub_le_sub_right hroom29 _) hr29); have HC1220012 := Aside0.mk (show y1220008.length ≤ c29 from by rw [hy29, hc29]; exact Nat.sub_le_sub_right hroom29 _); clear hr29 hC29 hroom29 hi029 hsz29 hc29; have KY29 := Aside0.mk hy29; have KA29 := Aside0.mk hA29; clear hy29 hA29; replace q29 := eq_true q29
            try go_wp2
            go_roundg kj8
            case measure => have := HK1.out; have := HJ2.out; have := HJ8.out; omega
            case rel => exact ⟨(y1220008), (x1_1), (y1220005), H', ⟨by have := HK1.out; have := HJ2.out; have := HJ8.out; omega⟩, ⟨by (with_reducible repeat (first | apply Kd.V_alloc | apply Kd.V_drewN | apply Kd.V_drew)); exact HO1220012.out⟩, ⟨by (with_reducible repeat (first | apply Kd.V_alloc | apply Kd.V_drewN | apply Kd.V_drew)); exact HO_1.out⟩, ⟨by (with_reducible repeat (first | apply Kd.R_alloc | apply Kd.R_drewN | apply Kd.R_drew)); exact HO1220007.out⟩, ⟨by repeat (first | (with_reducible first | exact HB.out | apply below_alloc | apply pw_below_drewN | apply below_drew1) | exact HB.out)⟩⟩
           ·rw [if_neg c25] at H; exact absurd H (by simp)
          ·rw [if_neg c24] at H; exact absurd H (by simp)
         ·rw [if_neg c23] at H; exact absurd H (by simp)
        ·replace c22 := Bool.eq_false_iff.mpr c22; subst c22; have H1 : (if (x0_1.length : Int) = 0 then (impl_changes.j3 kj8 x0_1 x1_1 x5_1 true) else (if 0 < (x1_1.length : Int) then (if 0 < (x0_1.length : Int) then (impl_changes.j3 kj8 x0_1 x1_1 x5_1 (Op.bytesLess (((rd_T77 x1_1 0).f0).toList) (((rd_T77 x0_1 0).f0).toList))) else (none)) else (none))) = some r := by rw [if_neg (show ¬ (false = true) by decide)] at H; exact H
         clear H; have H := H1; clear H1; have HC30 := Aside0.mk H; clear H
         go_upto_region 9 with (fail)
         go_cut [77] (fun v77 wc => ∃ (kq : Nat) (x77_29 : Bool), v77 = .bool x77_29 ∧ Aside0 (impl_changes.j3 kq x0_1 x1_1 x5_1 x77_29 = some r) ∧ Aside0 (kq ≤ kj8) ∧ Aside0 (Kd.V k77 77 wc w.heap.size (fun k_ => ((P0_ k_ ∨ P1_ k_) ∨ w.heap.size ≤ k_) ∧ some k_ ≠ (u5 : Value).ownBlock) u0 x0_1) ∧ Aside0 (Kd.V k77 77 wc w.heap.size (fun k_ => ((P0_ k_ ∨ P1_ k_) ∨ w.heap.size ≤ k_) ∧ some k_ ≠ (u5 : Value).ownBlock) u1 x1_1) ∧ Aside0 (Kd.R k219 219 wc w.heap.size (fun k_ => (w.heap.size ≤ k_)) u5 x5_1) ∧ Aside0 (Below w.heap.size w wc))
         case first =>
          have H := HC30.out; clear HC30
          by_cases c31 : (x0_1.length : Int) = 0
          ·rw [if_pos c31] at H; have c31b0 : ((x0_1.length : Int) == 0) = true := beq_iff_eq.mpr c31; have c31b1 : ((x0_1.length : Int) != 0) = false := bne_eq_false_iff_eq.mpr c31; clear c31; (first | rw [c31b0] | (simp only [i64_w, i32_w]; rw [c31b0]) | skip); have H' := Aside0.mk H; clear H
           try go_wp2
           have n0_ := Aside0.mk (Kd.V_drew HO_0.out); have n1_ := Aside0.mk (Kd.V_drew HO_1.out); have n2_ := Aside0.mk (Kd.R_drew HO_5.out); have n3_ := Aside0.mk (below_drew1 HB.out); clear HO_0; clear HO_1; clear HO_5; clear HB; have HO_0 := n0_; have HO_1 := n1_; have HO_5 := n2_; have HB := n3_; clear n0_ n1_ n2_ n3_; obtain ⟨Ao33, co33, eo33⟩ := Kd.V_slice HO_0.out; (first | subst eo33 | (injection eo33 with f1_ f2_ f3_; have f4_ := f1_.symm; have f5_ := f3_.symm; clear f1_ f2_ f3_; subst f4_; subst f5_)); refine start_ (n := 15) (S := fun w' => True) (ds := []) #[false, false, false, false, false, false, false, false, false, false, false, false, false, false, false] (by kernel_rfl) rfl rfl trivial (fun hHeld => ?_); refine with_tabW impl_changes.tab9 impl_changes.bits9 (fun HT_ HW_ => ?_); generalize wc.drew = w32 at HO_0 HO_1 HO_5 HB hHeld ⊢; refine pq_ (i := 0) (N := some 78) HT_.out ?_; refine pq_ (i := 1) (N := some 79) HT_.out ?_; refine pq_ (i := 2) (N := some 80) HT_.out ?_; refine pq_ (i := 3) (N := some 81) HT_.out ?_; refine pu_ (i := 4) (N := some 82) HT_.out ?_; refine pu_ (i := 5) (N := some 83) HT_.out ?_; refine pu_ (i := 6) (N := some 84) HT_.out ?_; refine pu_ (i := 7) (N := some 85) HT_.out ?_; refine pu_ (i := 8) (N := some 86) HT_.out ?_; refine pu_ (i := 9) (N := some 87) HT_.out ?_; refine pu_ (i := 10) (N := some 88) HT_.out ?_; refine pu_ (i := 11) (N := some 89) HT_.out ?_; refine pu_ (i := 12) (N := some 90) HT_.out ?_; refine pq_ (i := 13) (N := some 91) HT_.out ?_; refine pq_ (i := 14) (N := some 77) HT_.out ?_; refine done_ (done_of HT_.out (by kernel_rfl)) ?_
           try go_wp2
           go_meet
           case rel => exact ⟨_, (true), zq_4, H', ⟨by have := HK1.out; have := HJ2.out; have := HJ8.out; first | omega | exact Nat.le_refl _⟩, ⟨by (with_reducible repeat (first | apply Kd.V_alloc | apply Kd.V_drewN | apply Kd.V_drew)); exact HO_0.out⟩, ⟨by (with_reducible repeat (first | apply Kd.V_alloc | apply Kd.V_drewN | apply Kd.V_drew)); exact HO_1.out⟩, ⟨by (with_reducible repeat (first | apply Kd.R_alloc | apply Kd.R_drewN | apply Kd.R_drew)); exact HO_5.out⟩, ⟨by repeat (first | (with_reducible first | exact HB.out | apply below_alloc | apply pw_below_drewN | apply below_drew1) | exact HB.out)⟩⟩
          ·rw [if_neg c31] at H; have c31b0 : ((x0_1.length : Int) == 0) = false := beq_eq_false_iff_ne.mpr c31; have c31b1 : ((x0_1.length : Int) != 0) = true := bne_iff_ne.mpr c31; have c31b2 : ¬ (x0_1 = []) := fun h_ => c31 (by rw [h_]; rfl)
           (first | rw [c31b0] | (simp only [i64_w, i32_w]; rw [c31b0]) | skip)
           by_cases c34 : 0 < (x1_1.length : Int)
           ·rw [if_pos c34] at H; have c34b0 : decide (0 < (x1_1.length : Int)) = true := decide_eq_true c34; have c34b1 : decide (0 < x1_1.length) = true := decide_eq_true (by omega); clear c34
            by_cases c35 : 0 < (x0_1.length : Int)
            ·rw [if_pos c35] at H; have c35b0 : decide (0 < (x0_1.length : Int)) = true := decide_eq_true c35; have c35b1 : decide (0 < x0_1.length) = true := decide_eq_true (by omega); clear c35; have H' := Aside0.mk H; clear H
             try go_wp2
             have n0_ := Aside0.mk (Kd.V_drew HO_0.out); have n1_ := Aside0.mk (Kd.V_drew HO_1.out); have n2_ := Aside0.mk (Kd.R_drew HO_5.out); have n3_ := Aside0.mk (below_drew1 HB.out); clear HO_0; clear HO_1; clear HO_5; clear HB; have HO_0 := n0_; have HO_1 := n1_; have HO_5 := n2_; have HB := n3_; clear n0_ n1_ n2_ n3_; obtain ⟨Ao37, co37, eo37⟩ := Kd.V_slice HO_0.out; (first | subst eo37 | (injection eo37 with f1_ f2_ f3_; have f4_ := f1_.symm; have f5_ := f3_.symm; clear f1_ f2_ f3_; subst f4_; subst f5_)); obtain ⟨Ao38, co38, eo38⟩ := Kd.V_slice HO_1.out; (first | subst eo38 | (injection eo38 with f1_ f2_ f3_; have f4_ := f1_.symm; have f5_ := f3_.symm; clear f1_ f2_ f3_; subst f4_; subst f5_)); have p1220013 : 0 ≤ (0 : Int) := (by omega)
             have q1220013 : 0 < (x1_1.length : Int) := of_decide_eq_true zq_2; obtain ⟨ad1220013, e1220013, hx1220013_0, hx1220013_1⟩ := at_T77 (Kd.V_reads' HO_1.out).2.2 0 p1220013 q1220013
             cases e1220013
             have qi1220013 : (0 < x1_1.length) = True := eq_true (by omega); (try rw [show ((0 : Int)).toNat = 0 from rfl] at hx1220013_0); (try rw [show 0 * 2 = 0 from rfl] at hx1220013_0); (try rw [Addr.add_zero'] at hx1220013_0); (try rw [show ((0 : Int)).toNat = 0 from rfl] at hx1220013_1); (try rw [show 0 * 2 = 0 from rfl] at hx1220013_1); (try rw [Addr.add_zero'] at hx1220013_1); replace p1220013 := eq_true p1220013; replace q1220013 := eq_true q1220013; have p1220014 : 0 ≤ (0 : Int) := (by omega)
             have q1220014 : 0 < (x0_1.length : Int) := of_decide_eq_true zq_2; obtain ⟨ad1220014, e1220014, hx1220014_0, hx1220014_1⟩ := at_T77 (Kd.V_reads' HO_0.out).2.2 0 p1220014 q1220014
             cases e1220014
             have qi1220014 : (0 < x0_1.length) = True := eq_true (by omega); (try rw [show ((0 : Int)).toNat = 0 from rfl] at hx1220014_0); (try rw [show 0 * 2 = 0 from rfl] at hx1220014_0); (try rw [Addr.add_zero'] at hx1220014_0); (try rw [show ((0 : Int)).toNat = 0 from rfl] at hx1220014_1); (try rw [show 0 * 2 = 0 from rfl] at hx1220014_1); (try rw [Addr.add_zero'] at hx1220014_1); replace p1220014 := eq_true p1220014; replace q1220014 := eq_true q1220014; refine start_ (n := 15) (S := fun w' => w'.cell? ad1220013 = some (.string ((rd_T77 x1_1 0).f0)) ∧ w'.cell? ⟨ad1220013.block, ad1220013.off + 1, none⟩ = some (.string ((rd_T77 x1_1 0).f1)) ∧ w'.cell? ad1220014 = some (.string ((rd_T77 x0_1 0).f0)) ∧ w'.cell? ⟨ad1220014.block, ad1220014.off + 1, none⟩ = some (.string ((rd_T77 x0_1 0).f1))) (ds := []) #[false, false, false, false, false, false, false, false, false, false, false, false, false, false, false] (by kernel_rfl) rfl rfl ⟨hx1220013_0, hx1220013_1, hx1220014_0, hx1220014_1⟩ (fun hHeld => ?_); refine with_tabW impl_changes.tab9 impl_changes.bits9 (fun HT_ HW_ => ?_); generalize wc.drew = w36 at HO_0 HO_1 HO_5 HB hx1220013_0 hx1220013_1 hx1220014_0 hx1220014_1 hHeld ⊢; refine pq_ (i := 0) (N := some 78) HT_.out ?_; refine pq_ (i := 1) (N := some 79) HT_.out ?_; refine pq_ (i := 2) (N := some 80) HT_.out ?_; refine pq_ (i := 3) (N := some 81) HT_.out ?_; refine pq_ (i := 4) (N := some 82) HT_.out ?_; refine pq_ (i := 5) (N := some 83) HT_.out ?_; refine pq_ (i := 6) (N := some 84) HT_.out ?_; refine pq_ (i := 8) (N := some 86) HT_.out ?_; refine pq_ (i := 9) (N := some 87) HT_.out ?_; refine pq_ (i := 10) (N := some 88) HT_.out ?_; refine tq_ (i := 7) (N := some 85) HT_.out HW_.out hHeld (hy := by rintro w' ⟨s0, s1, s2, s3⟩; go_simp; with_reducible rfl) (h := ?_); refine tq_ (i := 11) (N := some 89) HT_.out HW_.out hHeld (hy := by rintro w' ⟨s0, s1, s2, s3⟩; go_simp; with_reducible rfl) (h := ?_); refine pq_ (i := 12) (N := some 90) HT_.out ?_; refine pq_ (i := 13) (N := some 91) HT_.out ?_; refine pq_ (i := 14) (N := some 77) HT_.out ?_; refine done_ (done_of HT_.out (by kernel_rfl)) ?_
             try go_wp2
             go_meet
             case rel => exact ⟨_, ((Op.bytesLess (((rd_T77 x1_1 0).f0).toList) (((rd_T77 x0_1 0).f0).toList))), zq_4, H', ⟨by have := HK1.out; have := HJ2.out; have := HJ8.out; first | omega | exact Nat.le_refl _⟩, ⟨by (with_reducible repeat (first | apply Kd.V_alloc | apply Kd.V_drewN | apply Kd.V_drew)); exact HO_0.out⟩, ⟨by (with_reducible repeat (first | apply Kd.V_alloc | apply Kd.V_drewN | apply Kd.V_drew)); exact HO_1.out⟩, ⟨by (with_reducible repeat (first | apply Kd.R_alloc | apply Kd.R_drewN | apply Kd.R_drew)); exact HO_5.out⟩, ⟨by repeat (first | (with_reducible first | exact HB.out | apply below_alloc | apply pw_below_drewN | apply below_drew1) | exact HB.out)⟩⟩
            ·rw [if_neg c35] at H; exact absurd H (by simp)
           ·rw [if_neg c34] at H; exact absurd H (by simp)
         case rest =>
          clear HC30
          try clear c1
          try clear p1
          try clear q1
          try clear hx1
          try clear qi1
          try clear c2
          try clear p2
          try clear q2
          try clear c3
          try clear c4
          try clear c4b0
          try clear c4b1
          try clear c8
          try clear c10
          try clear c10b0
          try clear c10b1
          try clear c10b2
          try clear p12
          try clear q12
          try clear hx12
          try clear qi12
          try clear c13
          try clear c13b0
          try clear c13b1
          try clear c14
          try clear c14b0
          try clear c14b1
          try clear c15
          try clear c15b0
          try clear c15b1
          try clear c22
          try clear c23
          try clear c23b0
          try clear c23b1
          try clear c24
          try clear c25
          try clear c25b0
          try clear c25b1
          try clear c29
          try clear q29
          try clear c31
          try clear c31b0
          try clear c31b1
          try clear c31b2
          try clear c34
          try clear c34b0
          try clear c34b1
          try clear c35
          try clear c35b0
          try clear c35b1
          try clear hx1220001_0
          try clear hx1220001_1
          try clear hx1220002_0
          try clear hx1220002_1
          try clear hx1220003_0
          try clear hx1220003_1
          try clear hx1220004_0
          try clear hx1220004_1
          try clear hx1220013_0
          try clear hx1220013_1
          try clear hx1220014_0
          try clear hx1220014_1
          try clear p1
          try clear p12
          try clear p1220001
          try clear p1220002
          try clear p1220003
          try clear p1220004
          try clear p1220013
          try clear p1220014
          try clear p2
          try clear q1
          try clear q12
          try clear q1220001
          try clear q1220002
          try clear q1220003
          try clear q1220004
          try clear q1220013
          try clear q1220014
          try clear q29
          obtain ⟨kq, x77_29, rfl, HA, HJ29, HO_0, HO_1, HO_5, HB⟩ := hcut
          cases kq with
          | zero => exact absurd HA.out (by simp [impl_changes.j3])
          | succ kj29 =>
           have H := HA.out; clear HA; simp only [impl_changes.j3] at H
           by_cases c39 : x77_29 = true
           ·subst c39; have H1 : (if 0 < (x1_1.length : Int) then (if x5_1.length < 2199023255552 then (if 1 ≤ (x1_1.length : Int) then (impl_changes.l0 kj29 x0_1 (x1_1.drop 1) (x5_1 ++ [(⟨(rd_T77 x1_1 0).f0, false, (⟨#[]⟩ : ByteArray), true, (rd_T77 x1_1 0).f1⟩ : S219)])) else (none)) else (none)) else (none)) = some r := by rw [if_pos rfl] at H; exact H
            clear H; have H := H1; clear H1
            by_cases c40 : 0 < (x1_1.length : Int)
            ·rw [if_pos c40] at H; have c40b0 : decide (0 < (x1_1.length : Int)) = true := decide_eq_true c40; have c40b1 : decide (0 < x1_1.length) = true := decide_eq_true (by omega); clear c40
             by_cases c41 : x5_1.length < 2199023255552
             ·rw [if_pos c41] at H; have LMc41 := Aside0.mk c41; clear c41; obtain ⟨y1220017, hy1220017⟩ : ∃ y_ : List (S219), y_ = (x5_1 ++ [(⟨(rd_T77 x1_1 0).f0, false, (⟨#[]⟩ : ByteArray), true, (rd_T77 x1_1 0).f1⟩ : S219)]) := ⟨_, rfl⟩
              replace H : (if 1 ≤ (x1_1.length : Int) then (impl_changes.l0 kj29 x0_1 (x1_1.drop 1) y1220017) else (none)) = some r := by first | (rw [hy1220017]; with_reducible exact H) | (have H2_ := (Option.bind_some _ _).symm.trans H; rw [hy1220017]; with_reducible exact H2_) | (have H2_ := (Option.bind_some _ _).symm.trans H; with_reducible exact H2_) | with_reducible exact H | (rw [hy1220017]; exact H) | exact H
              have Ny1220017 := Aside0.mk hy1220017; clear hy1220017
              by_cases c42 : 1 ≤ (x1_1.length : Int)
              ·rw [if_pos c42] at H; have c42b0 := eq_true c42; have c42b1 : decide (1 ≤ (x1_1.length : Int)) = true := decide_eq_true c42; clear c42; obtain ⟨y1220020, hy1220020⟩ : ∃ y_ : List (S77), y_ = (x1_1.drop 1) := ⟨_, rfl⟩
               replace H : (impl_changes.l0 kj29 x0_1 y1220020 y1220017) = some r := by first | (rw [hy1220020]; with_reducible exact H) | (have H2_ := (Option.bind_some _ _).symm.trans H; rw [hy1220020]; with_reducible exact H2_) | (have H2_ := (Option.bind_some _ _).symm.trans H; with_reducible exact H2_) | with_reducible exact H | (rw [hy1220020]; exact H) | exact H
               have Ny1220020 := Aside0.mk hy1220020; clear hy1220020; have H' := Aside0.mk H; clear H
               try go_wp2
               have n0_ := Aside0.mk (Kd.V_drew HO_0.out); have n1_ := Aside0.mk (Kd.V_drew HO_1.out); have n2_ := Aside0.mk (Kd.R_drew HO_5.out); have n3_ := Aside0.mk (below_drew1 HB.out); clear HO_0; clear HO_1; clear HO_5; clear HB; have HO_0 := n0_; have HO_1 := n1_; have HO_5 := n2_; have HB := n3_; clear n0_ n1_ n2_ n3_; obtain ⟨Ao44, co44, eo44⟩ := Kd.V_slice HO_1.out; (first | subst eo44 | (injection eo44 with f1_ f2_ f3_; have f4_ := f1_.symm; have f5_ := f3_.symm; clear f1_ f2_ f3_; subst f4_; subst f5_)); have p1220015 : 0 ≤ (0 : Int) := (by omega)
               have q1220015 : 0 < (x1_1.length : Int) := of_decide_eq_true zq_2; obtain ⟨ad1220015, e1220015, hx1220015_0, hx1220015_1⟩ := at_T77 (Kd.V_reads' HO_1.out).2.2 0 p1220015 q1220015
               cases e1220015
               have qi1220015 : (0 < x1_1.length) = True := eq_true (by omega); (try rw [show ((0 : Int)).toNat = 0 from rfl] at hx1220015_0); (try rw [show 0 * 2 = 0 from rfl] at hx1220015_0); (try rw [Addr.add_zero'] at hx1220015_0); (try rw [show ((0 : Int)).toNat = 0 from rfl] at hx1220015_1); (try rw [show 0 * 2 = 0 from rfl] at hx1220015_1); (try rw [Addr.add_zero'] at hx1220015_1); replace p1220015 := eq_true p1220015; replace q1220015 := eq_true q1220015; have p1220016 : 0 ≤ (0 : Int) := (by omega)
               have q1220016 : 0 < (x1_1.length : Int) := of_decide_eq_true zq_2; obtain ⟨ad1220016, e1220016, hx1220016_0, hx1220016_1⟩ := at_T77 (Kd.V_reads' HO_1.out).2.2 0 p1220016 q1220016; obtain rfl : ad1220015 = ad1220016 := (by injection e1220016)
               have qi1220016 : (0 < x1_1.length) = True := eq_true (by omega); (try rw [show ((0 : Int)).toNat = 0 from rfl] at hx1220016_0); (try rw [show 0 * 2 = 0 from rfl] at hx1220016_0); (try rw [Addr.add_zero'] at hx1220016_0); (try rw [show ((0 : Int)).toNat = 0 from rfl] at hx1220016_1); (try rw [show 0 * 2 = 0 from rfl] at hx1220016_1); (try rw [Addr.add_zero'] at hx1220016_1); replace p1220016 := eq_true p1220016; replace q1220016 := eq_true q1220016; refine start_ (n := 13) (S := fun w' => w'.cell? ad1220015 = some (.string ((rd_T77 x1_1 0).f0)) ∧ w'.cell? ⟨ad1220015.block, ad1220015.off + 1, none⟩ = some (.string ((rd_T77 x1_1 0).f1)) ∧ w'.cell? ad1220015 = some (.string ((rd_T77 x1_1 0).f0)) ∧ w'.cell? ⟨ad1220015.block, ad1220015.off + 1, none⟩ = some (.string ((rd_T77 x1_1 0).f1))) (ds := [10, 11]) #[false, false, false, false, false, false, false, false, false, false, false, false, false] (by kernel_rfl) rfl rfl ⟨hx1220015_0, hx1220015_1, hx1220016_0, hx1220016_1⟩ (fun hHeld => ?_); refine with_tabW impl_changes.tab10 impl_changes.bits10 (fun HT_ HW_ => ?_); generalize wc.drew = w43 at HO_0 HO_1 HO_5 HB hx1220015_0 hx1220015_1 hx1220016_0 hx1220016_1 hHeld ⊢; refine pq_ (i := 0) (N := some 92) HT_.out ?_; refine pq_ (i := 1) (N := some 93) HT_.out ?_; refine pq_ (i := 2) (N := some 94) HT_.out ?_; refine pq_ (i := 3) (N := some 95) HT_.out ?_; refine pq_ (i := 5) (N := some 97) HT_.out ?_; refine pq_ (i := 6) (N := some 98) HT_.out ?_; refine pq_ (i := 7) (N := some 99) HT_.out ?_; refine tq_ (i := 4) (N := some 96) HT_.out HW_.out hHeld (hy := by rintro w' ⟨s0, s1, s2, s3⟩; go_simp; with_reducible rfl) (h := ?_); refine tq_ (i := 8) (N := some 100) HT_.out HW_.out hHeld (hy := by rintro w' ⟨s0, s1, s2, s3⟩; go_simp; with_reducible rfl) (h := ?_); refine pq_ (i := 9) (N := some 101) HT_.out ?_; refine last_ (i := 10) (N := some 102) #[true, true, true, true, true, true, true, true, true, true, true, false, false] rfl rfl (one_of HT_.out (by kernel_rfl)) (by decide) (fun K hK => ?_); refine value_ (w1 := ?_) (v := ?_) (by rfl) rfl ?_ ?_; rotate_left 2
               ·go_simp
                constructor
                ·rfl
                ·rfl
               refine hK.out _ _ ?_; clear hK K; refine norm_ (a' := ?_) ?_ ?_; rotate_left
               ·show Act.put _ (some 102) _ = _; simp only [Act.put, List.setIfInBounds_toArray, List.set_cons_zero, List.set_cons_succ, i64_w, i32_w]; rfl
               refine last_ (i := 11) (N := some 103) #[true, true, true, true, true, true, true, true, true, true, true, true, false] rfl rfl (one_of HT_.out (by kernel_rfl)) (by decide) (fun K hK => ?_); refine Kd.R_append_step k219 (w0 := w) w.heap.size (by rfl) (.tmp 92) (.tmp 102) 188 219 (.agg #[(.string ⟨#[]⟩), (.bool false), (.string ⟨#[]⟩), (.bool false), (.string ⟨#[]⟩)]) 64 rfl Tryd.underlying188 info219 rfl (by decide) (by omega) u5 x5_1 (⟨(rd_T77 x1_1 0).f0, false, (⟨#[]⟩ : ByteArray), true, (rd_T77 x1_1 0).f1⟩ : S219) [.string ((rd_T77 x1_1 0).f0), .bool false, .string (⟨#[]⟩ : ByteArray), .bool true, .string ((rd_T77 x1_1 0).f1)] (fun k_ => (w.heap.size ≤ k_)) (fun _ => False) rfl rfl ?aP (fun _ hk => hk.elim) ?aF ?aO ?aB ?aS ?aL ?_; (case aP => exact k219_mkM _ _ _ (⟨(rd_T77 x1_1 0).f0, false, (⟨#[]⟩ : ByteArray), true, (rd_T77 x1_1 0).f1⟩ : S219)); (case aB => exact zq_0); (case aF => exact (fun k_ hk => (Nat.le_trans (below_size zq_0) hk))); (case aO => exact zq_24); (case aS => exact (below_size zq_0)); (case aL => have := LMc41.out; omega); intro v1220018 w45 ho hb hg hat; rw [← Ny1220017.out] at ho; have n0_ := Aside0.mk (Kd.V_afterv (ok := (fun k_ => ((P0_ k_ ∨ P1_ k_) ∨ w.heap.size ≤ k_))) zq_9 hg hat); have n1_ := Aside0.mk (Kd.V_afterv (ok := (fun k_ => ((P0_ k_ ∨ P1_ k_) ∨ w.heap.size ≤ k_))) (by (with_reducible repeat (first | apply Kd.V_alloc | apply Kd.V_drewN | apply Kd.V_drew)); exact HO_1.out) hg hat); have n2_ := Aside0.mk (hb); have n3_ := Aside0.mk (ho); clear HO_0; clear HO_1; clear HB; clear HO_5; have HO_0 := n0_; have HO_1 := n1_; have HB := n2_; have HO1220019 := n3_; clear n0_ n1_ n2_ n3_; clear ho hb hg hat; refine hK.out _ _ ?_; clear hK K; refine norm_ (a' := ?_) ?_ ?_; rotate_left
               ·show Act.put _ (some 103) _ = _; simp only [Act.put, List.setIfInBounds_toArray, List.set_cons_zero, List.set_cons_succ, i64_w, i32_w]; rfl
               refine pq_ (i := 12) (N := some 5) HT_.out ?_; refine done_ (done_of HT_.out (by kernel_rfl)) ?_; have q46 : (1 : Int) ≤ ((x1_1.length : Int) : Int) := of_decide_eq_true zq_2; obtain ⟨i046, hi046, _, hsz46, _⟩ := info_parts info77; have hroom46 : x1_1.length ≤ co44 := (Kd.V_reads' HO_1.out).2.1; have hC46 : Kd.F k77 _ _ (some ad1220015) x1_1.length x1_1 := (Kd.V_at (base := w.heap.size) HO_1.out).2.2; have hcut46 := cut_from (P := Tryd.prog) 22 77 .i64 Tryd.underlying22 hi046 2 hsz46 (some ad1220015) x1_1.length co44 1 (by omega) q46; have hr46 := Kd.F_cut (m := (1 : Int).toNat) (c := co44) hC46 (by omega) hroom46; obtain ⟨A46, hA46⟩ : ∃ Az_, Az_ = (if co44 = (1 : Int).toNat then (some ad1220015) else ((some ad1220015) : Option Addr).map (·.add ((1 : Int).toNat * 2))) := ⟨_, rfl⟩
               obtain ⟨c46, hc46⟩ : ∃ cz_, cz_ = co44 - (1 : Int).toNat := ⟨_, rfl⟩
               have hy46 : y1220020.length = x1_1.length - (1 : Int).toNat := (by rw [Ny1220020.out, List.length_drop] <;> omega)
               rw [show (x1_1).drop (1 : Int).toNat = y1220020 from Ny1220020.out.symm] at hr46; replace hr46 : Kd.F k77 _ _ A46 y1220020.length y1220020 := (by rw [hA46]; exact hr46)
               rw [← hy46, ← hA46, ← hc46] at hcut46; have HO1220024 := Aside0.mk (show Kd.V k77 77 _ w.heap.size _ (.slice A46 y1220020.length c46) y1220020 from Kd.V_mk (by rw [hy46, hc46]; exact Nat.sub_le_sub_right hroom46 _) hr46); have HC1220024 := Aside0.mk (show y1220020.length ≤ c46 from by rw [hy46, hc46]; exact Nat.sub_le_sub_right hroom46 _); clear hr46 hC46 hroom46 hi046 hsz46 hc46; have KY46 := Aside0.mk hy46; have KA46 := Aside0.mk hA46; clear hy46 hA46; replace q46 := eq_true q46
               try go_wp2
               go_roundg kj29
               case measure => have := HK1.out; have := HJ2.out; have := HJ8.out; have := HJ29.out; omega
               case rel => exact ⟨(x0_1), (y1220020), (y1220017), H', ⟨by have := HK1.out; have := HJ2.out; have := HJ8.out; have := HJ29.out; omega⟩, ⟨by (with_reducible repeat (first | apply Kd.V_alloc | apply Kd.V_drewN | apply Kd.V_drew)); exact HO_0.out⟩, ⟨by (with_reducible repeat (first | apply Kd.V_alloc | apply Kd.V_drewN | apply Kd.V_drew)); exact HO1220024.out⟩, ⟨by (with_reducible repeat (first | apply Kd.R_alloc | apply Kd.R_drewN | apply Kd.R_drew)); exact HO1220019.out⟩, ⟨by repeat (first | (with_reducible first | exact HB.out | apply below_alloc | apply pw_below_drewN | apply below_drew1) | exact HB.out)⟩⟩
              ·rw [if_neg c42] at H; exact absurd H (by simp)
             ·rw [if_neg c41] at H; exact absurd H (by simp)
            ·rw [if_neg c40] at H; exact absurd H (by simp)
           ·replace c39 := Bool.eq_false_iff.mpr c39; subst c39; have H1 : (if 0 < (x0_1.length : Int) then (if 0 < (x1_1.length : Int) then (if ((rd_T77 x0_1 0).f1).toList = ((rd_T77 x1_1 0).f1).toList then (if 1 ≤ (x0_1.length : Int) then (if 1 ≤ (x1_1.length : Int) then (impl_changes.l0 kj29 (x0_1.drop 1) (x1_1.drop 1) x5_1) else (none)) else (none)) else (if x5_1.length < 2199023255552 then (if 1 ≤ (x0_1.length : Int) then (if 1 ≤ (x1_1.length : Int) then (impl_changes.l0 kj29 (x0_1.drop 1) (x1_1.drop 1) (x5_1 ++ [(⟨(rd_T77 x0_1 0).f0, true, (rd_T77 x0_1 0).f1, true, (rd_T77 x1_1 0).f1⟩ : S219)])) else (none)) else (none)) else (none))) else (none)) else (none)) = some r := by rw [if_neg (show ¬ (false = true) by decide)] at H; exact H
            clear H; have H := H1; clear H1
            by_cases c47 : 0 < (x0_1.length : Int)
            ·rw [if_pos c47] at H; have c47b0 : decide (0 < (x0_1.length : Int)) = true := decide_eq_true c47; have c47b1 : decide (0 < x0_1.length) = true := decide_eq_true (by omega); clear c47
             by_cases c48 : 0 < (x1_1.length : Int)
             ·rw [if_pos c48] at H; have c48b0 : decide (0 < (x1_1.length : Int)) = true := decide_eq_true c48; have c48b1 : decide (0 < x1_1.length) = true := decide_eq_true (by omega); clear c48
              by_cases c49 : ((rd_T77 x0_1 0).f1).toList = ((rd_T77 x1_1 0).f1).toList
              ·rw [if_pos c49] at H; have c49b0 : (((rd_T77 x0_1 0).f1).toList == ((rd_T77 x1_1 0).f1).toList) = true := beq_iff_eq.mpr c49; have c49b1 : (((rd_T77 x0_1 0).f1).toList != ((rd_T77 x1_1 0).f1).toList) = false := bne_eq_false_iff_eq.mpr c49; clear c49
               by_cases c50 : 1 ≤ (x0_1.length : Int)
               ·rw [if_pos c50] at H; have c50b0 := eq_true c50; have c50b1 : decide (1 ≤ (x0_1.length : Int)) = true := decide_eq_true c50; clear c50; obtain ⟨y1220027, hy1220027⟩ : ∃ y_ : List (S77), y_ = (x0_1.drop 1) := ⟨_, rfl⟩
                replace H : (if 1 ≤ (x1_1.length : Int) then (impl_changes.l0 kj29 y1220027 (x1_1.drop 1) x5_1) else (none)) = some r := by first | (rw [hy1220027]; with_reducible exact H) | (have H2_ := (Option.bind_some _ _).symm.trans H; rw [hy1220027]; with_reducible exact H2_) | (have H2_ := (Option.bind_some _ _).symm.trans H; with_reducible exact H2_) | with_reducible exact H | (rw [hy1220027]; exact H) | exact H
                have Ny1220027 := Aside0.mk hy1220027; clear hy1220027
                by_cases c51 : 1 ≤ (x1_1.length : Int)
                ·rw [if_pos c51] at H; have c51b0 := eq_true c51; have c51b1 : decide (1 ≤ (x1_1.length : Int)) = true := decide_eq_true c51; clear c51; obtain ⟨y1220032, hy1220032⟩ : ∃ y_ : List (S77), y_ = (x1_1.drop 1) := ⟨_, rfl⟩
                 replace H : (impl_changes.l0 kj29 y1220027 y1220032 x5_1) = some r := by first | (rw [hy1220032]; with_reducible exact H) | (have H2_ := (Option.bind_some _ _).symm.trans H; rw [hy1220032]; with_reducible exact H2_) | (have H2_ := (Option.bind_some _ _).symm.trans H; with_reducible exact H2_) | with_reducible exact H | (rw [hy1220032]; exact H) | exact H
                 have Ny1220032 := Aside0.mk hy1220032; clear hy1220032; have H' := Aside0.mk H; clear H
                 try go_wp2
                 have n0_ := Aside0.mk (Kd.V_drew HO_0.out); have n1_ := Aside0.mk (Kd.V_drew HO_1.out); have n2_ := Aside0.mk (Kd.R_drew HO_5.out); have n3_ := Aside0.mk (below_drew1 HB.out); clear HO_0; clear HO_1; clear HO_5; clear HB; have HO_0 := n0_; have HO_1 := n1_; have HO_5 := n2_; have HB := n3_; clear n0_ n1_ n2_ n3_; obtain ⟨Ao53, co53, eo53⟩ := Kd.V_slice HO_0.out; (first | subst eo53 | (injection eo53 with f1_ f2_ f3_; have f4_ := f1_.symm; have f5_ := f3_.symm; clear f1_ f2_ f3_; subst f4_; subst f5_)); have p1220025 : 0 ≤ (0 : Int) := (by omega)
                 have q1220025 : 0 < (x0_1.length : Int) := of_decide_eq_true zq_2; obtain ⟨ad1220025, e1220025, hx1220025_0, hx1220025_1⟩ := at_T77 (Kd.V_reads' HO_0.out).2.2 0 p1220025 q1220025
                 cases e1220025
                 have qi1220025 : (0 < x0_1.length) = True := eq_true (by omega); (try rw [show ((0 : Int)).toNat = 0 from rfl] at hx1220025_0); (try rw [show 0 * 2 = 0 from rfl] at hx1220025_0); (try rw [Addr.add_zero'] at hx1220025_0); (try rw [show ((0 : Int)).toNat = 0 from rfl] at hx1220025_1); (try rw [show 0 * 2 = 0 from rfl] at hx1220025_1); (try rw [Addr.add_zero'] at hx1220025_1); replace p1220025 := eq_true p1220025; replace q1220025 := eq_true q1220025; obtain ⟨Ao54, co54, eo54⟩ := Kd.V_slice HO_1.out; (first | subst eo54 | (injection eo54 with f1_ f2_ f3_; have f4_ := f1_.symm; have f5_ := f3_.symm; clear f1_ f2_ f3_; subst f4_; subst f5_)); have p1220026 : 0 ≤ (0 : Int) := (by omega)
                 have q1220026 : 0 < (x1_1.length : Int) := of_decide_eq_true zq_2; obtain ⟨ad1220026, e1220026, hx1220026_0, hx1220026_1⟩ := at_T77 (Kd.V_reads' HO_1.out).2.2 0 p1220026 q1220026
                 cases e1220026
                 have qi1220026 : (0 < x1_1.length) = True := eq_true (by omega); (try rw [show ((0 : Int)).toNat = 0 from rfl] at hx1220026_0); (try rw [show 0 * 2 = 0 from rfl] at hx1220026_0); (try rw [Addr.add_zero'] at hx1220026_0); (try rw [show ((0 : Int)).toNat = 0 from rfl] at hx1220026_1); (try rw [show 0 * 2 = 0 from rfl] at hx1220026_1); (try rw [Addr.add_zero'] at hx1220026_1); replace p1220026 := eq_true p1220026; replace q1220026 := eq_true q1220026; refine start_ (n := 9) (S := fun w' => w'.cell? ad1220025 = some (.string ((rd_T77 x0_1 0).f0)) ∧ w'.cell? ⟨ad1220025.block, ad1220025.off + 1, none⟩ = some (.string ((rd_T77 x0_1 0).f1)) ∧ w'.cell? ad1220026 = some (.string ((rd_T77 x1_1 0).f0)) ∧ w'.cell? ⟨ad1220026.block, ad1220026.off + 1, none⟩ = some (.string ((rd_T77 x1_1 0).f1))) (ds := []) #[false, false, false, false, false, false, false, false, false] (by kernel_rfl) rfl rfl ⟨hx1220025_0, hx1220025_1, hx1220026_0, hx1220026_1⟩ (fun hHeld => ?_); refine with_tabW impl_changes.tab3 impl_changes.bits3 (fun HT_ HW_ => ?_); generalize wc.drew = w52 at HO_0 HO_1 HO_5 HB hx1220025_0 hx1220025_1 hx1220026_0 hx1220026_1 hHeld ⊢; refine pq_ (i := 0) (N := some 14) HT_.out ?_; refine pq_ (i := 1) (N := some 15) HT_.out ?_; refine pq_ (i := 2) (N := some 16) HT_.out ?_; refine pq_ (i := 4) (N := some 18) HT_.out ?_; refine pq_ (i := 5) (N := some 19) HT_.out ?_; refine pq_ (i := 6) (N := some 20) HT_.out ?_; refine tq_ (i := 3) (N := some 17) HT_.out HW_.out hHeld (hy := by rintro w' ⟨s0, s1, s2, s3⟩; go_simp; with_reducible rfl) (h := ?_); refine tq_ (i := 7) (N := some 21) HT_.out HW_.out hHeld (hy := by rintro w' ⟨s0, s1, s2, s3⟩; go_simp; with_reducible rfl) (h := ?_); refine pq_ (i := 8) (N := some 22) HT_.out ?_; refine done_ (done_of HT_.out (by kernel_rfl)) ?_
                 try go_wp2
                 have n0_ := Aside0.mk (Kd.V_drew HO_0.out); have n1_ := Aside0.mk (Kd.V_drew HO_1.out); have n2_ := Aside0.mk (Kd.R_drew HO_5.out); have n3_ := Aside0.mk (below_drew1 HB.out); clear HO_0; clear HO_1; clear HO_5; clear HB; have HO_0 := n0_; have HO_1 := n1_; have HO_5 := n2_; have HB := n3_; clear n0_ n1_ n2_ n3_; have q56 : (1 : Int) ≤ ((x0_1.length : Int) : Int) := of_decide_eq_true zq_2; obtain ⟨i056, hi056, _, hsz56, _⟩ := info_parts info77; have hroom56 : x0_1.length ≤ co53 := (Kd.V_reads' HO_0.out).2.1; have hC56 : Kd.F k77 _ _ (some ad1220025) x0_1.length x0_1 := (Kd.V_at (base := w.heap.size) HO_0.out).2.2; have hcut56 := cut_from (P := Tryd.prog) 22 77 .i64 Tryd.underlying22 hi056 2 hsz56 (some ad1220025) x0_1.length co53 1 (by omega) q56; have hr56 := Kd.F_cut (m := (1 : Int).toNat) (c := co53) hC56 (by omega) hroom56; obtain ⟨A56, hA56⟩ : ∃ Az_, Az_ = (if co53 = (1 : Int).toNat then (some ad1220025) else ((some ad1220025) : Option Addr).map (·.add ((1 : Int).toNat * 2))) := ⟨_, rfl⟩
                 obtain ⟨c56, hc56⟩ : ∃ cz_, cz_ = co53 - (1 : Int).toNat := ⟨_, rfl⟩
                 have hy56 : y1220027.length = x0_1.length - (1 : Int).toNat := (by rw [Ny1220027.out, List.length_drop] <;> omega)
                 rw [show (x0_1).drop (1 : Int).toNat = y1220027 from Ny1220027.out.symm] at hr56; replace hr56 : Kd.F k77 _ _ A56 y1220027.length y1220027 := (by rw [hA56]; exact hr56)
                 rw [← hy56, ← hA56, ← hc56] at hcut56; have HO1220031 := Aside0.mk (show Kd.V k77 77 _ w.heap.size _ (.slice A56 y1220027.length c56) y1220027 from Kd.V_mk (by rw [hy56, hc56]; exact Nat.sub_le_sub_right hroom56 _) hr56); have HC1220031 := Aside0.mk (show y1220027.length ≤ c56 from by rw [hy56, hc56]; exact Nat.sub_le_sub_right hroom56 _); clear hr56 hC56 hroom56 hi056 hsz56 hc56; have KY56 := Aside0.mk hy56; have KA56 := Aside0.mk hA56; clear hy56 hA56; replace q56 := eq_true q56; have q57 : (1 : Int) ≤ ((x1_1.length : Int) : Int) := of_decide_eq_true zq_2; obtain ⟨i057, hi057, _, hsz57, _⟩ := info_parts info77; have hroom57 : x1_1.length ≤ co54 := (Kd.V_reads' HO_1.out).2.1; have hC57 : Kd.F k77 _ _ (some ad1220026) x1_1.length x1_1 := (Kd.V_at (base := w.heap.size) HO_1.out).2.2; have hcut57 := cut_from (P := Tryd.prog) 22 77 .i64 Tryd.underlying22 hi057 2 hsz57 (some ad1220026) x1_1.length co54 1 (by omega) q57; have hr57 := Kd.F_cut (m := (1 : Int).toNat) (c := co54) hC57 (by omega) hroom57; obtain ⟨A57, hA57⟩ : ∃ Az_, Az_ = (if co54 = (1 : Int).toNat then (some ad1220026) else ((some ad1220026) : Option Addr).map (·.add ((1 : Int).toNat * 2))) := ⟨_, rfl⟩
                 obtain ⟨c57, hc57⟩ : ∃ cz_, cz_ = co54 - (1 : Int).toNat := ⟨_, rfl⟩
                 have hy57 : y1220032.length = x1_1.length - (1 : Int).toNat := (by rw [Ny1220032.out, List.length_drop] <;> omega)
                 rw [show (x1_1).drop (1 : Int).toNat = y1220032 from Ny1220032.out.symm] at hr57; replace hr57 : Kd.F k77 _ _ A57 y1220032.length y1220032 := (by rw [hA57]; exact hr57)
                 rw [← hy57, ← hA57, ← hc57] at hcut57; have HO1220036 := Aside0.mk (show Kd.V k77 77 _ w.heap.size _ (.slice A57 y1220032.length c57) y1220032 from Kd.V_mk (by rw [hy57, hc57]; exact Nat.sub_le_sub_right hroom57 _) hr57); have HC1220036 := Aside0.mk (show y1220032.length ≤ c57 from by rw [hy57, hc57]; exact Nat.sub_le_sub_right hroom57 _); clear hr57 hC57 hroom57 hi057 hsz57 hc57; have KY57 := Aside0.mk hy57; have KA57 := Aside0.mk hA57; clear hy57 hA57; replace q57 := eq_true q57; refine start_ (n := 6) (S := fun w' => True) (ds := []) #[false, false, false, false, false, false] (by kernel_rfl) rfl rfl trivial (fun hHeld => ?_); generalize w52.drew = w55 at HO_0 HO_1 HO_5 HB HO1220031 HO1220036 hHeld ⊢; refine pure_ (i := 0) (N := some 39) (v := ?_) (a' := ?_) #[true, false, false, false, false, false] rfl rfl (by kernel_rfl) (fun _ _ _ h => h) (Or.inl ⟨by rfl, ?_⟩) ?_ ?_; rotate_left
                 ·intro w'; go_simp
                  with_reducible rfl
                 rotate_left
                 ·simp only [Act.put, List.setIfInBounds_toArray, List.set_cons_zero, List.set_cons_succ, i64_w, i32_w]; rfl
                 refine pure_ (i := 1) (N := some 40) (v := ?_) (a' := ?_) #[true, true, false, false, false, false] rfl rfl (by kernel_rfl) (fun _ _ _ h => h) (Or.inl ⟨by rfl, ?_⟩) ?_ ?_; rotate_left
                 ·intro w'; go_simp
                  with_reducible rfl
                 rotate_left
                 ·simp only [Act.put, List.setIfInBounds_toArray, List.set_cons_zero, List.set_cons_succ, i64_w, i32_w]; rfl
                 refine pure_ (i := 2) (N := some 41) (v := ?_) (a' := ?_) #[true, true, true, false, false, false] rfl rfl (by kernel_rfl) (fun _ _ _ h => h) (Or.inl ⟨by rfl, ?_⟩) ?_ ?_; rotate_left
                 ·intro w'; go_simp
                  with_reducible rfl
                 rotate_left
                 ·simp only [Act.put, List.setIfInBounds_toArray, List.set_cons_zero, List.set_cons_succ, i64_w, i32_w]; rfl
                 refine pure_ (i := 3) (N := some 42) (v := ?_) (a' := ?_) #[true, true, true, true, false, false] rfl rfl (by kernel_rfl) (fun _ _ _ h => h) (Or.inl ⟨by rfl, ?_⟩) ?_ ?_; rotate_left
                 ·intro w'; go_simp
                  with_reducible rfl
                 rotate_left
                 ·simp only [Act.put, List.setIfInBounds_toArray, List.set_cons_zero, List.set_cons_succ, i64_w, i32_w]; rfl
                 refine pure_ (i := 4) (N := some 0) (v := ?_) (a' := ?_) #[true, true, true, true, true, false] rfl rfl (by kernel_rfl) (fun _ _ _ h => h) (Or.inl ⟨by rfl, ?_⟩) ?_ ?_; rotate_left
                 ·intro w'; go_simp
                  with_reducible rfl
                 rotate_left
                 ·simp only [Act.put, List.setIfInBounds_toArray, List.set_cons_zero, List.set_cons_succ, i64_w, i32_w]; rfl
                 refine pure_ (i := 5) (N := some 1) (v := ?_) (a' := ?_) #[true, true, true, true, true, true] rfl rfl (by kernel_rfl) (fun _ _ _ h => h) (Or.inl ⟨by rfl, ?_⟩) ?_ ?_; rotate_left
                 ·intro w'; go_simp
                  with_reducible rfl
                 rotate_left
                 ·simp only [Act.put, List.setIfInBounds_toArray, List.set_cons_zero, List.set_cons_succ, i64_w, i32_w]; rfl
                 refine done_ (by kernel_rfl) ?_
                 try go_wp2
                 go_roundg kj29
                 case measure => have := HK1.out; have := HJ2.out; have := HJ8.out; have := HJ29.out; omega
                 case rel => exact ⟨(y1220027), (y1220032), (x5_1), H', ⟨by have := HK1.out; have := HJ2.out; have := HJ8.out; have := HJ29.out; omega⟩, ⟨by (with_reducible repeat (first | apply Kd.V_alloc | apply Kd.V_drewN | apply Kd.V_drew)); exact HO1220031.out⟩, ⟨by (with_reducible repeat (first | apply Kd.V_alloc | apply Kd.V_drewN | apply Kd.V_drew)); exact HO1220036.out⟩, ⟨by (with_reducible repeat (first | apply Kd.R_alloc | apply Kd.R_drewN | apply Kd.R_drew)); exact HO_5.out⟩, ⟨by repeat (first | (with_reducible first | exact HB.out | apply below_alloc | apply pw_below_drewN | apply below_drew1) | exact HB.out)⟩⟩
                ·rw [if_neg c51] at H; exact absurd H (by simp)
               ·rw [if_neg c50] at H; exact absurd H (by simp)
              ·rw [if_neg c49] at H; have c49b0 : (((rd_T77 x0_1 0).f1).toList == ((rd_T77 x1_1 0).f1).toList) = false := beq_eq_false_iff_ne.mpr c49; have c49b1 : (((rd_T77 x0_1 0).f1).toList != ((rd_T77 x1_1 0).f1).toList) = true := bne_iff_ne.mpr c49
               by_cases c58 : x5_1.length < 2199023255552
               ·rw [if_pos c58] at H; have LMc58 := Aside0.mk c58; clear c58; obtain ⟨y1220040, hy1220040⟩ : ∃ y_ : List (S219), y_ = (x5_1 ++ [(⟨(rd_T77 x0_1 0).f0, true, (rd_T77 x0_1 0).f1, true, (rd_T77 x1_1 0).f1⟩ : S219)]) := ⟨_, rfl⟩
                replace H : (if 1 ≤ (x0_1.length : Int) then (if 1 ≤ (x1_1.length : Int) then (impl_changes.l0 kj29 (x0_1.drop 1) (x1_1.drop 1) y1220040) else (none)) else (none)) = some r := by first | (rw [hy1220040]; with_reducible exact H) | (have H2_ := (Option.bind_some _ _).symm.trans H; rw [hy1220040]; with_reducible exact H2_) | (have H2_ := (Option.bind_some _ _).symm.trans H; with_reducible exact H2_) | with_reducible exact H | (rw [hy1220040]; exact H) | exact H
                have Ny1220040 := Aside0.mk hy1220040; clear hy1220040
                by_cases c59 : 1 ≤ (x0_1.length : Int)
                ·rw [if_pos c59] at H; have c59b0 := eq_true c59; have c59b1 : decide (1 ≤ (x0_1.length : Int)) = true := decide_eq_true c59; clear c59; obtain ⟨y1220043, hy1220043⟩ : ∃ y_ : List (S77), y_ = (x0_1.drop 1) := ⟨_, rfl⟩
                 replace H : (if 1 ≤ (x1_1.length : Int) then (impl_changes.l0 kj29 y1220043 (x1_1.drop 1) y1220040) else (none)) = some r := by first | (rw [hy1220043]; with_reducible exact H) | (have H2_ := (Option.bind_some _ _).symm.trans H; rw [hy1220043]; with_reducible exact H2_) | (have H2_ := (Option.bind_some _ _).symm.trans H; with_reducible exact H2_) | with_reducible exact H | (rw [hy1220043]; exact H) | exact H
                 have Ny1220043 := Aside0.mk hy1220043; clear hy1220043
                 by_cases c60 : 1 ≤ (x1_1.length : Int)
                 ·rw [if_pos c60] at H; have c60b0 := eq_true c60; have c60b1 : decide (1 ≤ (x1_1.length : Int)) = true := decide_eq_true c60; clear c60; obtain ⟨y1220048, hy1220048⟩ : ∃ y_ : List (S77), y_ = (x1_1.drop 1) := ⟨_, rfl⟩
                  replace H : (impl_changes.l0 kj29 y1220043 y1220048 y1220040) = some r := by first | (rw [hy1220048]; with_reducible exact H) | (have H2_ := (Option.bind_some _ _).symm.trans H; rw [hy1220048]; with_reducible exact H2_) | (have H2_ := (Option.bind_some _ _).symm.trans H; with_reducible exact H2_) | with_reducible exact H | (rw [hy1220048]; exact H) | exact H
                  have Ny1220048 := Aside0.mk hy1220048; clear hy1220048; have H' := Aside0.mk H; clear H
                  try go_wp2
                  have n0_ := Aside0.mk (Kd.V_drew HO_0.out); have n1_ := Aside0.mk (Kd.V_drew HO_1.out); have n2_ := Aside0.mk (Kd.R_drew HO_5.out); have n3_ := Aside0.mk (below_drew1 HB.out); clear HO_0; clear HO_1; clear HO_5; clear HB; have HO_0 := n0_; have HO_1 := n1_; have HO_5 := n2_; have HB := n3_; clear n0_ n1_ n2_ n3_; obtain ⟨Ao62, co62, eo62⟩ := Kd.V_slice HO_0.out; (first | subst eo62 | (injection eo62 with f1_ f2_ f3_; have f4_ := f1_.symm; have f5_ := f3_.symm; clear f1_ f2_ f3_; subst f4_; subst f5_)); have p1220025 : 0 ≤ (0 : Int) := (by omega)
                  have q1220025 : 0 < (x0_1.length : Int) := of_decide_eq_true zq_2; obtain ⟨ad1220025, e1220025, hx1220025_0, hx1220025_1⟩ := at_T77 (Kd.V_reads' HO_0.out).2.2 0 p1220025 q1220025
                  cases e1220025
                  have qi1220025 : (0 < x0_1.length) = True := eq_true (by omega); (try rw [show ((0 : Int)).toNat = 0 from rfl] at hx1220025_0); (try rw [show 0 * 2 = 0 from rfl] at hx1220025_0); (try rw [Addr.add_zero'] at hx1220025_0); (try rw [show ((0 : Int)).toNat = 0 from rfl] at hx1220025_1); (try rw [show 0 * 2 = 0 from rfl] at hx1220025_1); (try rw [Addr.add_zero'] at hx1220025_1); replace p1220025 := eq_true p1220025; replace q1220025 := eq_true q1220025; obtain ⟨Ao63, co63, eo63⟩ := Kd.V_slice HO_1.out; (first | subst eo63 | (injection eo63 with f1_ f2_ f3_; have f4_ := f1_.symm; have f5_ := f3_.symm; clear f1_ f2_ f3_; subst f4_; subst f5_)); have p1220026 : 0 ≤ (0 : Int) := (by omega)
                  have q1220026 : 0 < (x1_1.length : Int) := of_decide_eq_true zq_2; obtain ⟨ad1220026, e1220026, hx1220026_0, hx1220026_1⟩ := at_T77 (Kd.V_reads' HO_1.out).2.2 0 p1220026 q1220026
                  cases e1220026
                  have qi1220026 : (0 < x1_1.length) = True := eq_true (by omega); (try rw [show ((0 : Int)).toNat = 0 from rfl] at hx1220026_0); (try rw [show 0 * 2 = 0 from rfl] at hx1220026_0); (try rw [Addr.add_zero'] at hx1220026_0); (try rw [show ((0 : Int)).toNat = 0 from rfl] at hx1220026_1); (try rw [show 0 * 2 = 0 from rfl] at hx1220026_1); (try rw [Addr.add_zero'] at hx1220026_1); replace p1220026 := eq_true p1220026; replace q1220026 := eq_true q1220026; refine start_ (n := 9) (S := fun w' => w'.cell? ad1220025 = some (.string ((rd_T77 x0_1 0).f0)) ∧ w'.cell? ⟨ad1220025.block, ad1220025.off + 1, none⟩ = some (.string ((rd_T77 x0_1 0).f1)) ∧ w'.cell? ad1220026 = some (.string ((rd_T77 x1_1 0).f0)) ∧ w'.cell? ⟨ad1220026.block, ad1220026.off + 1, none⟩ = some (.string ((rd_T77 x1_1 0).f1))) (ds := []) #[false, false, false, false, false, false, false, false, false] (by kernel_rfl) rfl rfl ⟨hx1220025_0, hx1220025_1, hx1220026_0, hx1220026_1⟩ (fun hHeld => ?_); refine with_tabW impl_changes.tab3 impl_changes.bits3 (fun HT_ HW_ => ?_); generalize wc.drew = w61 at HO_0 HO_1 HO_5 HB hx1220025_0 hx1220025_1 hx1220026_0 hx1220026_1 hHeld ⊢; refine pq_ (i := 0) (N := some 14) HT_.out ?_; refine pq_ (i := 1) (N := some 15) HT_.out ?_; refine pq_ (i := 2) (N := some 16) HT_.out ?_; refine pq_ (i := 4) (N := some 18) HT_.out ?_; refine pq_ (i := 5) (N := some 19) HT_.out ?_; refine pq_ (i := 6) (N := some 20) HT_.out ?_; refine tq_ (i := 3) (N := some 17) HT_.out HW_.out hHeld (hy := by rintro w' ⟨s0, s1, s2, s3⟩; go_simp; with_reducible rfl) (h := ?_); refine tq_ (i := 7) (N := some 21) HT_.out HW_.out hHeld (hy := by rintro w' ⟨s0, s1, s2, s3⟩; go_simp; with_reducible rfl) (h := ?_); refine pq_ (i := 8) (N := some 22) HT_.out ?_; refine done_ (done_of HT_.out (by kernel_rfl)) ?_
                  try go_wp2
                  have n0_ := Aside0.mk (Kd.V_drew HO_0.out); have n1_ := Aside0.mk (Kd.V_drew HO_1.out); have n2_ := Aside0.mk (Kd.R_drew HO_5.out); have n3_ := Aside0.mk (below_drew1 HB.out); clear HO_0; clear HO_1; clear HO_5; clear HB; have HO_0 := n0_; have HO_1 := n1_; have HO_5 := n2_; have HB := n3_; clear n0_ n1_ n2_ n3_; have p1220037 : 0 ≤ (0 : Int) := (by omega)
                  have q1220037 : 0 < (x0_1.length : Int) := of_decide_eq_true zq_2; obtain ⟨ad1220037, e1220037, hx1220037_0, hx1220037_1⟩ := at_T77 (Kd.V_reads' HO_0.out).2.2 0 p1220037 q1220037; obtain rfl : ad1220025 = ad1220037 := (by injection e1220037)
                  have qi1220037 : (0 < x0_1.length) = True := eq_true (by omega); (try rw [show ((0 : Int)).toNat = 0 from rfl] at hx1220037_0); (try rw [show 0 * 2 = 0 from rfl] at hx1220037_0); (try rw [Addr.add_zero'] at hx1220037_0); (try rw [show ((0 : Int)).toNat = 0 from rfl] at hx1220037_1); (try rw [show 0 * 2 = 0 from rfl] at hx1220037_1); (try rw [Addr.add_zero'] at hx1220037_1); replace p1220037 := eq_true p1220037; replace q1220037 := eq_true q1220037; have p1220038 : 0 ≤ (0 : Int) := (by omega)
                  have q1220038 : 0 < (x0_1.length : Int) := of_decide_eq_true zq_2; obtain ⟨ad1220038, e1220038, hx1220038_0, hx1220038_1⟩ := at_T77 (Kd.V_reads' HO_0.out).2.2 0 p1220038 q1220038; obtain rfl : ad1220025 = ad1220038 := (by injection e1220038)
                  have qi1220038 : (0 < x0_1.length) = True := eq_true (by omega); (try rw [show ((0 : Int)).toNat = 0 from rfl] at hx1220038_0); (try rw [show 0 * 2 = 0 from rfl] at hx1220038_0); (try rw [Addr.add_zero'] at hx1220038_0); (try rw [show ((0 : Int)).toNat = 0 from rfl] at hx1220038_1); (try rw [show 0 * 2 = 0 from rfl] at hx1220038_1); (try rw [Addr.add_zero'] at hx1220038_1); replace p1220038 := eq_true p1220038; replace q1220038 := eq_true q1220038; have p1220039 : 0 ≤ (0 : Int) := (by omega)
                  have q1220039 : 0 < (x1_1.length : Int) := of_decide_eq_true zq_2; obtain ⟨ad1220039, e1220039, hx1220039_0, hx1220039_1⟩ := at_T77 (Kd.V_reads' HO_1.out).2.2 0 p1220039 q1220039; obtain rfl : ad1220026 = ad1220039 := (by injection e1220039)
                  have qi1220039 : (0 < x1_1.length) = True := eq_true (by omega); (try rw [show ((0 : Int)).toNat = 0 from rfl] at hx1220039_0); (try rw [show 0 * 2 = 0 from rfl] at hx1220039_0); (try rw [Addr.add_zero'] at hx1220039_0); (try rw [show ((0 : Int)).toNat = 0 from rfl] at hx1220039_1); (try rw [show 0 * 2 = 0 from rfl] at hx1220039_1); (try rw [Addr.add_zero'] at hx1220039_1); replace p1220039 := eq_true p1220039; replace q1220039 := eq_true q1220039; refine start_ (n := 17) (S := fun w' => w'.cell? ad1220025 = some (.string ((rd_T77 x0_1 0).f0)) ∧ w'.cell? ⟨ad1220025.block, ad1220025.off + 1, none⟩ = some (.string ((rd_T77 x0_1 0).f1)) ∧ w'.cell? ad1220025 = some (.string ((rd_T77 x0_1 0).f0)) ∧ w'.cell? ⟨ad1220025.block, ad1220025.off + 1, none⟩ = some (.string ((rd_T77 x0_1 0).f1)) ∧ w'.cell? ad1220026 = some (.string ((rd_T77 x1_1 0).f0)) ∧ w'.cell? ⟨ad1220026.block, ad1220026.off + 1, none⟩ = some (.string ((rd_T77 x1_1 0).f1))) (ds := [14, 15]) #[false, false, false, false, false, false, false, false, false, false, false, false, false, false, false, false, false] (by kernel_rfl) rfl rfl ⟨hx1220037_0, hx1220037_1, hx1220038_0, hx1220038_1, hx1220039_0, hx1220039_1⟩ (fun hHeld => ?_); refine with_tabW impl_changes.tab4 impl_changes.bits4 (fun HT_ HW_ => ?_); generalize w61.drew = w64 at HO_0 HO_1 HO_5 HB hx1220037_0 hx1220037_1 hx1220038_0 hx1220038_1 hx1220039_0 hx1220039_1 hHeld ⊢; refine pq_ (i := 0) (N := some 23) HT_.out ?_; refine pq_ (i := 1) (N := some 24) HT_.out ?_; refine pq_ (i := 2) (N := some 25) HT_.out ?_; refine pq_ (i := 3) (N := some 26) HT_.out ?_; refine pq_ (i := 5) (N := some 28) HT_.out ?_; refine pq_ (i := 6) (N := some 29) HT_.out ?_; refine pq_ (i := 7) (N := some 30) HT_.out ?_; refine pq_ (i := 9) (N := some 32) HT_.out ?_; refine pq_ (i := 10) (N := some 33) HT_.out ?_; refine pq_ (i := 11) (N := some 34) HT_.out ?_; refine tq_ (i := 4) (N := some 27) HT_.out HW_.out hHeld (hy := by rintro w' ⟨s0, s1, s2, s3, s4, s5⟩; go_simp; with_reducible rfl) (h := ?_); refine tq_ (i := 8) (N := some 31) HT_.out HW_.out hHeld (hy := by rintro w' ⟨s0, s1, s2, s3, s4, s5⟩; go_simp; with_reducible rfl) (h := ?_); refine tq_ (i := 12) (N := some 35) HT_.out HW_.out hHeld (hy := by rintro w' ⟨s0, s1, s2, s3, s4, s5⟩; go_simp; with_reducible rfl) (h := ?_); refine pq_ (i := 13) (N := some 36) HT_.out ?_
                  refine last_ (i := 14) (N := some 37) #[true, true, true, true, true, true, true, true, true, true, true, true, true, true, true, false, false] rfl rfl (one_of HT_.out (by kernel_rfl)) (by decide) (fun K hK => ?_); refine value_ (w1 := ?_) (v := ?_) (by rfl) rfl ?_ ?_; rotate_left 2
                  ·go_simp
                   constructor
                   ·rfl
                   ·rfl
                  refine hK.out _ _ ?_; clear hK K; refine norm_ (a' := ?_) ?_ ?_; rotate_left
                  ·show Act.put _ (some 37) _ = _; simp only [Act.put, List.setIfInBounds_toArray, List.set_cons_zero, List.set_cons_succ, i64_w, i32_w]; rfl
                  refine last_ (i := 15) (N := some 38) #[true, true, true, true, true, true, true, true, true, true, true, true, true, true, true, true, false] rfl rfl (one_of HT_.out (by kernel_rfl)) (by decide) (fun K hK => ?_); refine Kd.R_append_step k219 (w0 := w) w.heap.size (by rfl) (.tmp 23) (.tmp 37) 188 219 (.agg #[(.string ⟨#[]⟩), (.bool false), (.string ⟨#[]⟩), (.bool false), (.string ⟨#[]⟩)]) 64 rfl Tryd.underlying188 info219 rfl (by decide) (by omega) u5 x5_1 (⟨(rd_T77 x0_1 0).f0, true, (rd_T77 x0_1 0).f1, true, (rd_T77 x1_1 0).f1⟩ : S219) [.string ((rd_T77 x0_1 0).f0), .bool true, .string ((rd_T77 x0_1 0).f1), .bool true, .string ((rd_T77 x1_1 0).f1)] (fun k_ => (w.heap.size ≤ k_)) (fun _ => False) rfl rfl ?aP (fun _ hk => hk.elim) ?aF ?aO ?aB ?aS ?aL ?_; (case aP => exact k219_mkM _ _ _ (⟨(rd_T77 x0_1 0).f0, true, (rd_T77 x0_1 0).f1, true, (rd_T77 x1_1 0).f1⟩ : S219)); (case aB => exact zq_0); (case aF => exact (fun k_ hk => (Nat.le_trans (below_size zq_0) hk))); (case aO => exact zq_24); (case aS => exact (below_size zq_0)); (case aL => have := LMc58.out; omega); intro v1220041 w65 ho hb hg hat; rw [← Ny1220040.out] at ho; have n0_ := Aside0.mk (Kd.V_afterv (ok := (fun k_ => ((P0_ k_ ∨ P1_ k_) ∨ w.heap.size ≤ k_))) zq_9 hg hat); have n1_ := Aside0.mk (Kd.V_afterv (ok := (fun k_ => ((P0_ k_ ∨ P1_ k_) ∨ w.heap.size ≤ k_))) (by (with_reducible repeat (first | apply Kd.V_alloc | apply Kd.V_drewN | apply Kd.V_drew)); exact HO_1.out) hg hat); have n2_ := Aside0.mk (hb); have n3_ := Aside0.mk (ho); clear HO_0; clear HO_1; clear HB; clear HO_5; have HO_0 := n0_; have HO_1 := n1_; have HB := n2_; have HO1220042 := n3_; clear n0_ n1_ n2_ n3_; clear ho hb hg hat; refine hK.out _ _ ?_; clear hK K; refine norm_ (a' := ?_) ?_ ?_; rotate_left
                  ·show Act.put _ (some 38) _ = _; simp only [Act.put, List.setIfInBounds_toArray, List.set_cons_zero, List.set_cons_succ, i64_w, i32_w]; rfl
                  refine pq_ (i := 16) (N := some 5) HT_.out ?_; refine done_ (done_of HT_.out (by kernel_rfl)) ?_
                  try go_wp2
                  have n0_ := Aside0.mk (Kd.V_drew HO_0.out); have n1_ := Aside0.mk (Kd.V_drew HO_1.out); have n2_ := Aside0.mk (Kd.R_drew HO1220042.out); have n3_ := Aside0.mk (below_drew1 HB.out); clear HO_0; clear HO_1; clear HO1220042; clear HB; have HO_0 := n0_; have HO_1 := n1_; have HO1220042 := n2_; have HB := n3_; clear n0_ n1_ n2_ n3_; have q67 : (1 : Int) ≤ ((x0_1.length : Int) : Int) := of_decide_eq_true zq_2; obtain ⟨i067, hi067, _, hsz67, _⟩ := info_parts info77; have hroom67 : x0_1.length ≤ co62 := (Kd.V_reads' HO_0.out).2.1; have hC67 : Kd.F k77 _ _ (some ad1220025) x0_1.length x0_1 := (Kd.V_at (base := w.heap.size) HO_0.out).2.2; have hcut67 := cut_from (P := Tryd.prog) 22 77 .i64 Tryd.underlying22 hi067 2 hsz67 (some ad1220025) x0_1.length co62 1 (by omega) q67; have hr67 := Kd.F_cut (m := (1 : Int).toNat) (c := co62) hC67 (by omega) hroom67; obtain ⟨A67, hA67⟩ : ∃ Az_, Az_ = (if co62 = (1 : Int).toNat then (some ad1220025) else ((some ad1220025) : Option Addr).map (·.add ((1 : Int).toNat * 2))) := ⟨_, rfl⟩
                  obtain ⟨c67, hc67⟩ : ∃ cz_, cz_ = co62 - (1 : Int).toNat := ⟨_, rfl⟩
                  have hy67 : y1220043.length = x0_1.length - (1 : Int).toNat := (by rw [Ny1220043.out, List.length_drop] <;> omega)
                  rw [show (x0_1).drop (1 : Int).toNat = y1220043 from Ny1220043.out.symm] at hr67; replace hr67 : Kd.F k77 _ _ A67 y1220043.length y1220043 := (by rw [hA67]; exact hr67)
                  rw [← hy67, ← hA67, ← hc67] at hcut67; have HO1220047 := Aside0.mk (show Kd.V k77 77 _ w.heap.size _ (.slice A67 y1220043.length c67) y1220043 from Kd.V_mk (by rw [hy67, hc67]; exact Nat.sub_le_sub_right hroom67 _) hr67); have HC1220047 := Aside0.mk (show y1220043.length ≤ c67 from by rw [hy67, hc67]; exact Nat.sub_le_sub_right hroom67 _); clear hr67 hC67 hroom67 hi067 hsz67 hc67; have KY67 := Aside0.mk hy67; have KA67 := Aside0.mk hA67; clear hy67 hA67; replace q67 := eq_true q67; have q68 : (1 : Int) ≤ ((x1_1.length : Int) : Int) := of_decide_eq_true zq_2; obtain ⟨i068, hi068, _, hsz68, _⟩ := info_parts info77; have hroom68 : x1_1.length ≤ co63 := (Kd.V_reads' HO_1.out).2.1; have hC68 : Kd.F k77 _ _ (some ad1220026) x1_1.length x1_1 := (Kd.V_at (base := w.heap.size) HO_1.out).2.2; have hcut68 := cut_from (P := Tryd.prog) 22 77 .i64 Tryd.underlying22 hi068 2 hsz68 (some ad1220026) x1_1.length co63 1 (by omega) q68; have hr68 := Kd.F_cut (m := (1 : Int).toNat) (c := co63) hC68 (by omega) hroom68; obtain ⟨A68, hA68⟩ : ∃ Az_, Az_ = (if co63 = (1 : Int).toNat then (some ad1220026) else ((some ad1220026) : Option Addr).map (·.add ((1 : Int).toNat * 2))) := ⟨_, rfl⟩
                  obtain ⟨c68, hc68⟩ : ∃ cz_, cz_ = co63 - (1 : Int).toNat := ⟨_, rfl⟩
                  have hy68 : y1220048.length = x1_1.length - (1 : Int).toNat := (by rw [Ny1220048.out, List.length_drop] <;> omega)
                  rw [show (x1_1).drop (1 : Int).toNat = y1220048 from Ny1220048.out.symm] at hr68; replace hr68 : Kd.F k77 _ _ A68 y1220048.length y1220048 := (by rw [hA68]; exact hr68)
                  rw [← hy68, ← hA68, ← hc68] at hcut68; have HO1220052 := Aside0.mk (show Kd.V k77 77 _ w.heap.size _ (.slice A68 y1220048.length c68) y1220048 from Kd.V_mk (by rw [hy68, hc68]; exact Nat.sub_le_sub_right hroom68 _) hr68); have HC1220052 := Aside0.mk (show y1220048.length ≤ c68 from by rw [hy68, hc68]; exact Nat.sub_le_sub_right hroom68 _); clear hr68 hC68 hroom68 hi068 hsz68 hc68; have KY68 := Aside0.mk hy68; have KA68 := Aside0.mk hA68; clear hy68 hA68; replace q68 := eq_true q68; refine start_ (n := 6) (S := fun w' => True) (ds := []) #[false, false, false, false, false, false] (by kernel_rfl) rfl rfl trivial (fun hHeld => ?_); generalize w65.drew = w66 at HO_0 HO_1 HO1220042 HB HO1220047 HO1220052 hHeld ⊢; refine pure_ (i := 0) (N := some 39) (v := ?_) (a' := ?_) #[true, false, false, false, false, false] rfl rfl (by kernel_rfl) (fun _ _ _ h => h) (Or.inl ⟨by rfl, ?_⟩) ?_ ?_; rotate_left
                  ·intro w'; go_simp
                   with_reducible rfl
                  rotate_left
                  ·simp only [Act.put, List.setIfInBounds_toArray, List.set_cons_zero, List.set_cons_succ, i64_w, i32_w]; rfl
                  refine pure_ (i := 1) (N := some 40) (v := ?_) (a' := ?_) #[true, true, false, false, false, false] rfl rfl (by kernel_rfl) (fun _ _ _ h => h) (Or.inl ⟨by rfl, ?_⟩) ?_ ?_; rotate_left
                  ·intro w'; go_simp
                   with_reducible rfl
                  rotate_left
                  ·simp only [Act.put, List.setIfInBounds_toArray, List.set_cons_zero, List.set_cons_succ, i64_w, i32_w]; rfl
                  refine pure_ (i := 2) (N := some 41) (v := ?_) (a' := ?_) #[true, true, true, false, false, false] rfl rfl (by kernel_rfl) (fun _ _ _ h => h) (Or.inl ⟨by rfl, ?_⟩) ?_ ?_; rotate_left
                  ·intro w'; go_simp
                   with_reducible rfl
                  rotate_left
                  ·simp only [Act.put, List.setIfInBounds_toArray, List.set_cons_zero, List.set_cons_succ, i64_w, i32_w]; rfl
                  refine pure_ (i := 3) (N := some 42) (v := ?_) (a' := ?_) #[true, true, true, true, false, false] rfl rfl (by kernel_rfl) (fun _ _ _ h => h) (Or.inl ⟨by rfl, ?_⟩) ?_ ?_; rotate_left
                  ·intro w'; go_simp
                   with_reducible rfl
                  rotate_left
                  ·simp only [Act.put, List.setIfInBounds_toArray, List.set_cons_zero, List.set_cons_succ, i64_w, i32_w]; rfl
                  refine pure_ (i := 4) (N := some 0) (v := ?_) (a' := ?_) #[true, true, true, true, true, false] rfl rfl (by kernel_rfl) (fun _ _ _ h => h) (Or.inl ⟨by rfl, ?_⟩) ?_ ?_; rotate_left
                  ·intro w'; go_simp
                   with_reducible rfl
                  rotate_left
                  ·simp only [Act.put, List.setIfInBounds_toArray, List.set_cons_zero, List.set_cons_succ, i64_w, i32_w]; rfl
                  refine pure_ (i := 5) (N := some 1) (v := ?_) (a' := ?_) #[true, true, true, true, true, true] rfl rfl (by kernel_rfl) (fun _ _ _ h => h) (Or.inl ⟨by rfl, ?_⟩) ?_ ?_; rotate_left
                  ·intro w'; go_simp
                   with_reducible rfl
                  rotate_left
                  ·simp only [Act.put, List.setIfInBounds_toArray, List.set_cons_zero, List.set_cons_succ, i64_w, i32_w]; rfl
                  refine done_ (by kernel_rfl) ?_
                  try go_wp2
                  go_roundg kj29
                  case measure => have := HK1.out; have := HJ2.out; have := HJ8.out; have := HJ29.out; omega
                  case rel => exact ⟨(y1220043), (y1220048), (y1220040), H', ⟨by have := HK1.out; have := HJ2.out; have := HJ8.out; have := HJ29.out; omega⟩, ⟨by (with_reducible repeat (first | apply Kd.V_alloc | apply Kd.V_drewN | apply Kd.V_drew)); exact HO1220047.out⟩, ⟨by (with_reducible repeat (first | apply Kd.V_alloc | apply Kd.V_drewN | apply Kd.V_drew)); exact HO1220052.out⟩, ⟨by (with_reducible repeat (first | apply Kd.R_alloc | apply Kd.R_drewN | apply Kd.R_drew)); exact HO1220042.out⟩, ⟨by repeat (first | (with_reducible first | exact HB.out | apply below_alloc | apply pw_below_drewN | apply below_drew1) | exact HB.out)⟩⟩
                 ·rw [if_neg c60] at H; exact absurd H (by simp)
                ·rw [if_neg c59] at H; exact absurd H (by simp)
               ·rw [if_neg c58] at H; exact absurd H (by simp)
             ·rw [if_neg c48] at H; exact absurd H (by simp)
            ·rw [if_neg c47] at H; exact absurd H (by simp)
     ·replace c8 := Bool.eq_false_iff.mpr c8; subst c8; have H1 : (some x5_1) = some r := by rw [if_neg (show ¬ (false = true) by decide)] at H; exact H
      clear H; have H := H1; clear H1; obtain rfl := Option.some.inj H
      go_wp2
      go_ret
      exact ⟨_, by first | rfl | (simp [errW_none, errW_some] <;> rfl) | (simp [*, errW_none, errW_some] <;> rfl), by (with_reducible repeat (first | apply Kd.R_alloc | apply Kd.R_drewN | apply Kd.R_drew)); exact HO_5.out, by repeat (first | (with_reducible first | exact HB.out | apply below_alloc | apply pw_below_drewN | apply below_drew1) | exact HB.out)⟩
end Go.Proofs.YtaepebkeijmjgaaDoor.Z
end
section
namespace Go.Proofs.YtaepebkeijmjgaaDoor.Z
open RowKit YtaepebkeijmjgaaDoor YtaepebkeijmjgaaDoorW.PrintWords YtaepebkeijmjgaaDoorW.PrintLast
set_option linter.all false
theorem rdC (l : List S77) (i : Nat) : rd_T77 l (i : Int) = l.getD i z77 := by
 unfold rd_T77; rw [Int.toNat_natCast]
theorem dropC (l : List S77) (i : Nat) (h : i < l.length) : l.drop i = l.getD i z77 :: l.drop (i + 1) := by
 rw [List.drop_eq_getElem_cons h, List.getD_eq_getElem?_getD, List.getElem?_eq_getElem h]; rfl
theorem l4Without_loop (l : List S77) (key : ByteArray) (hl : l.length ≤ 1048576) : ∀ (d i k : Nat) (acc : List S77), l.length = i + d → d < k → acc.length + d ≤ 2097152 →
  spec_l4Without.l0 k l key acc (i : Int) = some (acc ++ outP key (l.drop i)) := by
 intro d
 induction d with
 | zero =>
  intro i k acc h hk ha; obtain ⟨k, rfl⟩ : ∃ j, k = j + 1 := ⟨k - 1, by omega⟩
  simp only [spec_l4Without.l0]; rw [if_neg (by omega), List.drop_of_length_le (by omega)]; simp [outP]
 | succ d ih =>
  intro i k acc h hk ha; obtain ⟨k, rfl⟩ : ∃ j, k = j + 1 := ⟨k - 1, by omega⟩
  simp only [spec_l4Without.l0]; rw [if_pos (by omega), if_pos (by omega), wN (n := i + 1) (by omega) (by omega), rdC, dropC l i (by omega), ih (i + 1) k acc (by omega) (by omega) (by omega), ih (i + 1) k _ (by omega) (by omega) zq_33]
  by_cases he : (l.getD i z77).f0 = key
  ·rw [if_pos (listK.2 he)]; unfold outP; rw [List.filter_cons_of_neg (by rw [decide_eq_true he]; decide)]
  ·rw [if_neg (fun h => he (listK.1 h)), if_pos (by omega)]; unfold outP; rw [List.filter_cons_of_pos (by rw [decide_eq_false he]; rfl)]; simp
theorem l4Without_f (l : List S77) (key : ByteArray) (hl : l.length ≤ 1048576) (k : Nat) (hk : l.length < k) : spec_l4Without.f k l key = some (outP key l) := by
 unfold spec_l4Without.f; have h := l4Without_loop l key hl l.length 0 k [] (by omega) hk (by simp; omega)
 simpa using h
theorem l4With_done (l : List S77) (key v : ByteArray) (hl : l.length ≤ 1048576) : ∀ (d i k : Nat) (acc : List S77), l.length = i + d → d < k → acc.length + d ≤ 2097153 →
  spec_l4With.l0 k key v l acc true (i : Int) = some (acc ++ l.drop i) := by
 intro d
 induction d with
 | zero =>
  intro i k acc h hk ha; obtain ⟨k, rfl⟩ : ∃ j, k = j + 1 := ⟨k - 1, by omega⟩
  simp only [spec_l4With.l0, if_true, if_false, Bool.false_eq_true]; rw [if_neg (by omega), List.drop_of_length_le (by omega), List.append_nil]
 | succ d ih =>
  intro i k acc h hk ha; obtain ⟨k, rfl⟩ : ∃ j, k = j + 1 := ⟨k - 1, by omega⟩
  simp only [spec_l4With.l0, if_true, if_false, Bool.false_eq_true]; rw [if_pos (by omega), if_pos (by omega), wN (n := i + 1) (by omega) (by omega), rdC, dropC l i (by omega), ih (i + 1) k _ (by omega) (by omega) zq_33, if_pos (by omega)]; simp
theorem l4With_loop (l : List S77) (key v : ByteArray) (hl : l.length ≤ 1048576) (hkey : key.size ≤ 1048576) : ∀ (d i k : Nat) (acc : List S77), l.length = i + d → d + 2100000 < k → acc.length + d ≤ 2097152 →
  spec_l4With.l0 k key v l acc false (i : Int) = some (acc ++ insP key v (l.drop i)) := by
 intro d
 induction d with
 | zero =>
  intro i k acc h hk ha; obtain ⟨k, rfl⟩ : ∃ j, k = j + 1 := ⟨k - 1, by omega⟩
  simp only [spec_l4With.l0, if_true, if_false, Bool.false_eq_true]; rw [if_neg (by omega), List.drop_of_length_le (by omega), if_pos (by omega)]; rfl
 | succ d ih =>
  intro i k acc h hk ha; obtain ⟨k, rfl⟩ : ∃ j, k = j + 1 := ⟨k - 1, by omega⟩
  simp only [spec_l4With.l0, if_true, if_false, Bool.false_eq_true]; rw [if_pos (by omega), if_pos (by omega), wN (n := i + 1) (by omega) (by omega), rdC, dropC l i (by omega), spec_l1Less_f _ _ (by omega) k (by omega), Option.bind_some, insP, ltK]
  cases hc : Op.bytesLess key.toList (l.getD i z77).f0.toList
  ·rw [if_neg (show ¬ (false = true) by decide), if_neg (show ¬ (false = true) by decide), if_pos (by omega), ih (i + 1) k _ (by omega) (by omega) zq_33]; simp
  ·rw [if_pos (show true = true from rfl), if_pos (show true = true from rfl), if_pos (by omega), Option.bind_some, if_pos zq_33, l4With_done l key v hl d (i + 1) k _ (by omega) (by omega) (by rw [List.length_append, List.length_append, List.length_singleton, List.length_singleton]; omega)]; simp
theorem l4With_f (l : List S77) (key v : ByteArray) (hl : l.length ≤ 1000000) (hkey : key.size ≤ 1048576) (k : Nat) (hk : 3200000 < k) : spec_l4With.f k l key v = some (withP l key v) := by
 unfold spec_l4With.f withP; have h1 : (outP key l).length ≤ l.length := List.length_filter_le _ _; rw [l4Without_f l key (by omega) k (by omega), Option.bind_some]; have h := l4With_loop (outP key l) key v (by omega) hkey (outP key l).length 0 k [] (by omega) (by omega) (by simp; omega)
 simpa using h
theorem changes_loop : ∀ (n : Nat) (ps qs : List S77) (acc : List S219) (k : Nat), ps.length + qs.length ≤ n → 4 * n + 4 < k → acc.length + n ≤ 2097152 →
  impl_changes.l0 k ps qs acc = some (acc ++ chgP ps qs) := by
 intro n
 induction n with
 | zero =>
  intro ps qs acc k hn hk ha; obtain ⟨k, rfl⟩ : ∃ j, k = j + 2 := ⟨k - 2, by omega⟩
  have h1 : ps = [] := List.length_eq_zero_iff.1 (by omega); have h2 : qs = [] := List.length_eq_zero_iff.1 (by omega); subst h1; subst h2; simp [impl_changes.l0, impl_changes.j1, chgP]
 | succ n ih =>
  intro ps qs acc k hn hk ha; obtain ⟨k, rfl⟩ : ∃ j, k = j + 4 := ⟨k - 4, by omega⟩
  have ha2 : acc.length < 2199023255552 := by omega
  cases ps with
  | nil =>
   cases qs with
   | nil => simp [impl_changes.l0, impl_changes.j1, chgP]
   | cons q qs =>
    have e := ih [] qs (acc ++ [⟨q.f0, false, ⟨#[]⟩, true, q.f1⟩]) k (by simp only [List.length_cons, List.length_nil] at hn ⊢; omega) (by omega) zq_33; have hr : rd_T77 (q :: qs) 0 = q := rfl; have g1 : (0 : Int) < (qs.length : Int) + 1 := by omega
    have g2 : ¬ ((qs.length : Int) + 1 = 0) := by omega
    have g3 : (1 : Int) ≤ (qs.length : Int) + 1 := by omega
    rw [impl_changes.l0]; simp only [impl_changes.j1, impl_changes.j2, impl_changes.j3, List.length_cons, List.length_nil, Int.natCast_add, Int.cast_ofNat_Int, Int.natCast_succ, gt_iff_lt, g1, g2, g3, ha2, hr, List.drop_one, List.tail_cons, e, chgP]; simp
  | cons p ps =>
   have hr1 : rd_T77 (p :: ps) 0 = p := rfl; have f1 : (0 : Int) < (ps.length : Int) + 1 := by omega
   have f2 : ¬ ((ps.length : Int) + 1 = 0) := by omega
   have f3 : (1 : Int) ≤ (ps.length : Int) + 1 := by omega
   cases qs with
   | nil =>
    have e := ih ps [] (acc ++ [⟨p.f0, true, p.f1, false, ⟨#[]⟩⟩]) (k + 1) (by simp only [List.length_cons, List.length_nil] at hn ⊢; omega) (by omega) zq_33; rw [impl_changes.l0]; simp only [impl_changes.j1, impl_changes.j2, List.length_cons, List.length_nil, Int.natCast_add, Int.cast_ofNat_Int, Int.natCast_succ, gt_iff_lt, f1, f2, f3, ha2, hr1, List.drop_one, List.tail_cons, e, chgP]; simp
   | cons q qs =>
    have hr2 : rd_T77 (q :: qs) 0 = q := rfl; have g1 : (0 : Int) < (qs.length : Int) + 1 := by omega
    have g2 : ¬ ((qs.length : Int) + 1 = 0) := by omega
    have g3 : (1 : Int) ≤ (qs.length : Int) + 1 := by omega
    simp only [List.length_cons] at hn; have e1 := ih ps (q :: qs) (acc ++ [⟨p.f0, true, p.f1, false, ⟨#[]⟩⟩]) (k + 1) (by simp only [List.length_cons]; omega) (by omega) zq_33; have e2 := ih (p :: ps) qs (acc ++ [⟨q.f0, false, ⟨#[]⟩, true, q.f1⟩]) k (by simp only [List.length_cons]; omega) (by omega) zq_33; have e3 := ih ps qs acc k (by omega) (by omega) (by omega); have e4 := ih ps qs (acc ++ [⟨p.f0, true, p.f1, true, q.f1⟩]) k (by omega) (by omega) zq_33; rw [impl_changes.l0]; simp only [impl_changes.j1, impl_changes.j2, impl_changes.j3, List.length_cons, List.length_nil, Int.natCast_add, Int.cast_ofNat_Int, Int.natCast_succ, gt_iff_lt, f1, f2, f3, g1, g2, g3, ha2, hr1, hr2, List.drop_one, List.tail_cons, e1, e2, e3, e4, chgP, ltK, if_true, if_false]
    by_cases h1 : Op.bytesLess p.f0.toList q.f0.toList = true
    ·simp [h1]
    ·by_cases h2 : Op.bytesLess q.f0.toList p.f0.toList = true
     ·simp [h1, h2]
     ·by_cases h3 : p.f1 = q.f1
      ·simp [h1, h2, h3]
      ·simp [h1, h2, h3, listK]
theorem changes_f (ps qs : List S77) (hp : ps.length ≤ 500000) (hq : qs.length ≤ 500000) (k : Nat) (hk : 4000008 < k) : impl_changes.f k ps qs = some (chgP ps qs) := by
 unfold impl_changes.f; have h := changes_loop (ps.length + qs.length) ps qs [] k (by omega) (by omega) (by simp; omega)
 simpa using h
end Go.Proofs.YtaepebkeijmjgaaDoor.Z
end
section
namespace Go.Proofs.YtaepebkeijmjgaaDoor.Z
open RowKit YtaepebkeijmjgaaDoorW.PrintWords YtaepebkeijmjgaaDoorW.PrintLast YtaepebkeijmjgaaDoorW.PrintMore
attribute [local go_sem] max2_int min2_int max_two min_two max_three min_three max_four min_four
set_option linter.all false
def impl_sameMap.f (k : Nat) (l0 : List (S77)) (l1 : List (S77)) : Option (Bool) := (impl_changes.f k l0 l1).bind fun t640001 => (some ((t640001.length : Int) == 0))
set_option maxHeartbeats 8000000 in
set_option maxRecDepth 100000 in
theorem impl_sameMap.calls (k : Nat) (A0 : Option Addr) (c0 : Nat) (l0 : List (S77)) (A1 : Option Addr) (c1 : Nat) (l1 : List (S77)) (r : Bool) (w : World) (hr0 : Kd.C k77 w A0 l0.length l0) (hc0 : l0.length ≤ c0) (hr1 : Kd.C k77 w A1 l1.length l1) (hc1 : l1.length ≤ c1) (h : impl_sameMap.f k l0 l1 = some r) :
  Calls Tryd.prog 64 #[.slice A0 l0.length c0, .slice A1 l1.length c1] w fun e w' => e = .returned (.bool r) ∧ Below w.heap.size w w' := by
 have HR0 := Aside0.mk hr0; have HC0 := Aside0.mk hc0; clear hr0 hc0; have HR1 := Aside0.mk hr1; have HC1 := Aside0.mk hc1; clear hr1 hc1; have HB := Aside0.mk (Below.refl w.heap.size w); have H : ((impl_changes.f k l0 l1).bind fun t640001 => (some ((t640001.length : Int) == 0))) = some r := h; clear h; replace H := Option.bind_eq_some_iff.mp H; obtain ⟨t640001, A30, H⟩ := H; (try dsimp only at H); have A3 := Aside0.mk A30; clear A30; obtain rfl := Option.some.inj H
 go_enter Tryd.func64, Tryd.ntmps64
 go_wp2_with (first | ((with_reducible refine gate_callee (f := 122) rfl ?_); refine goesL_ (some 7) rfl rfl Tryd.func122 (by kernel_rfl) rfl #[.slice A0 l0.length c0, .slice A1 l1.length c1] rfl zq_1 ?_; (with_reducible refine (impl_changes.calls k (fun k_ => k_ < w.heap.size) _ _ l0 (fun k_ => k_ < w.heap.size) _ _ l1 t640001 _ ?side1 ?side2 A3.out).mono ?_); (case side1 => exact Kd.V_mk HC0.out (Kd.F_below (Kd.C_F k77_heap HR0.out) zq_0)); (case side2 => exact Kd.V_mk HC1.out (Kd.F_below (Kd.C_F k77_heap HR1.out) zq_0)); rintro e w4 ⟨v640002, rfl, ho0, hb⟩; refine ⟨_, rfl, ?_⟩; have n0_ := Aside0.mk (Kd.R_lower (Kd.R_mono (ok' := fun k_ => True) ho0 (fun _ hk_ => trivial)) (below_size zq_0)); have n1_ := Aside0.mk (below_step zq_0 hb); clear HB; have HO640003 := n0_; have HB := n1_; clear n0_ n1_; (try clear hb); (try clear hb2); (try clear hk); (try clear hi); (try clear ho0); obtain ⟨Ao5, co5, eo5⟩ := Kd.R_slice HO640003.out; subst eo5))
 go_ret
 exact ⟨by first | rfl | (simp [errW_none, errW_some] <;> rfl) | (simp [*, errW_none, errW_some] <;> rfl), by repeat (first | (with_reducible first | exact HB.out | apply below_alloc | apply pw_below_drewN | apply below_drew1) | exact HB.out)⟩
end Go.Proofs.YtaepebkeijmjgaaDoor.Z
end
section
namespace Go.Proofs.YtaepebkeijmjgaaDoor.Z
open RowKit YtaepebkeijmjgaaDoor YtaepebkeijmjgaaDoorW.PrintWords YtaepebkeijmjgaaDoorW.PrintLast
set_option linter.all false
theorem bytes_ext {a b : ByteArray} (h : a.data.toList = b.data.toList) : a = b := ByteArray.ext (Array.toList_inj.mp h)
theorem app_list (a b : ByteArray) : (a ++ b).data.toList = a.data.toList ++ b.data.toList := by simp
theorem size_list (a : ByteArray) : a.data.toList.length = a.size := rfl
theorem u8_inj {m n : Nat} (hm : m < 256) (hn : n < 256) (h : UInt8.ofNat m = UInt8.ofNat n) : m = n := by
 have := congrArg UInt8.toNat h; simp only [UInt8.toNat_ofNat'] at this; omega
theorem byteS_list (x : Int) : (byteS x).data.toList = [UInt8.ofNat x.toNat] := rfl
theorem sized_inj {a b : ByteArray} {x y : List UInt8} (ha : a.size ≤ 65535) (hb : b.size ≤ 65535) (h : (sizedS a).data.toList ++ x = (sizedS b).data.toList ++ y) : a = b ∧ x = y := by
 unfold sizedS at h; simp only [app_list, byteS_list, List.cons_append, List.nil_append, List.cons.injEq, List.append_assoc] at h; obtain ⟨h1, h2, h3⟩ := h; have e1 := u8_inj (by omega) (by omega) h1; have e2 := u8_inj (by omega) (by omega) h2; have e : a.size = b.size := by omega
 obtain ⟨h4, h5⟩ := List.append_inj h3 (by rw [size_list, size_list]; exact e); exact ⟨bytes_ext h4, h5⟩
theorem encNode_inj {k v l r k' v' l' r' : ByteArray} {W : Int} (h1 : nodeOk k v l r W = true) (h2 : nodeOk k' v' l' r' W = true) (h : encNode k v l r W = encNode k' v' l' r' W) : k = k' ∧ v = v' ∧ l = l' ∧ r = r' := by
 unfold encNode at h; rw [if_pos h1, if_pos h2] at h; unfold nodeOk hOk isW at h1 h2; simp only [Bool.and_eq_true, Bool.or_eq_true, decide_eq_true_eq] at h1 h2; have h := congrArg (fun b : ByteArray => b.data.toList) h; simp only [app_list, List.append_assoc] at h; obtain ⟨e1, h⟩ := sized_inj (by omega) (by omega) h; obtain ⟨e2, h⟩ := sized_inj (by omega) (by omega) h; simp only [byteS_list, List.cons_append, List.nil_append, List.cons.injEq] at h; obtain ⟨hf, h⟩ := h; have hfl : ∀ a b : ByteArray, (flagsOf a b).toNat < 256 := fun a b => by unfold flagsOf; split <;> split <;> omega
 have hf := u8_inj (hfl _ _) (hfl _ _) hf; have hz : (l.size = 0 ↔ l'.size = 0) := by
  unfold flagsOf at hf
  split at hf <;> split at hf <;> split at hf <;> split at hf <;> omega
 obtain ⟨e3, e4⟩ := List.append_inj h (by rw [size_list, size_list]; omega); exact ⟨e1, e2, bytes_ext e3, bytes_ext e4⟩
instance : DecidableEq S77 := fun a b => if h : a.f0 = b.f0 ∧ a.f1 = b.f1 then isTrue (by cases a; cases b; simp_all) else isFalse (fun e => h (by rw [e]; exact ⟨rfl, rfl⟩))
def encSh (W : Int) : Sh S77 → ByteArray
 | .nil => ⟨#[]⟩
 | .node p l r => encNode p.f0 p.f1 (hashSh W l) (hashSh W r) W
def clashS (W : Int) : Sh S77 → Sh S77 → ByteArray × ByteArray
 | .node p l r, .node q l' r' => if encSh W (.node p l r) = encSh W (.node q l' r') then (if l.list = l'.list then clashS W r r' else clashS W l l') else (encSh W (.node p l r), encSh W (.node q l' r'))
 | _, _ => (⟨#[]⟩, ⟨#[]⟩)
def okT (t : Sh S77) : Prop := ∀ p ∈ t.list, 1 ≤ p.f0.size ∧ p.f0.size ≤ 256 ∧ p.f1.size ≤ 2000
structure Cl (W : Nat) (a b : Sh S77) : Prop where
 hash : hashSh W a = hashSh W b
 ne : a.list ≠ b.list
 oka : okT a
 okb : okT b
 la : a.list.length ≤ 500
 lb : b.list.length ≤ 500
theorem hashSh_size (W : Nat) (hW : W ≤ 32) (p : S77) (l r : Sh S77) : (hashSh W (.node p l r)).size = W := by
 rw [hashSh, Int.toNat_natCast, ByteArray.size_extract, shaV_size]; omega
theorem hashSh_hOk (W : Nat) (hW : W ≤ 32) (t : Sh S77) : hOk (hashSh W t) W = true := by
 unfold hOk
 cases t with
 | nil => rfl
 | node p l r => rw [hashSh_size W hW]; simp
theorem Cl.nodes {W : Nat} (h1 : 1 ≤ W) (h2 : W ≤ 32) {a b : Sh S77} (h : Cl W a b) : (∃ p l r, a = .node p l r) ∧ ∃ p l r, b = .node p l r := by
 have hh := h.hash; have hn := h.ne
 match a, b with
 | .nil, .nil => exact absurd rfl hn
 | .nil, .node p l r => have := congrArg ByteArray.size hh; rw [hashSh_size W h2] at this; have : (hashSh W (.nil : Sh S77)).size = 0 := rfl; omega
 | .node p l r, .nil => have := congrArg ByteArray.size hh; rw [hashSh_size W h2] at this; have : (hashSh W (.nil : Sh S77)).size = 0 := rfl; omega
 | .node p l r, .node q l' r' => exact ⟨⟨_, _, _, rfl⟩, ⟨_, _, _, rfl⟩⟩
theorem enc_nodeOk {W : Nat} (h1 : 1 ≤ W) (h2 : W ≤ 32) {p : S77} {l r : Sh S77} (h : okT (.node p l r)) : nodeOk p.f0 p.f1 (hashSh W l) (hashSh W r) W = true := by
 have := h p (by simp [Sh.list]); unfold nodeOk isW; rw [hashSh_hOk W h2, hashSh_hOk W h2]; simp only [Bool.and_eq_true, decide_eq_true_eq, Bool.and_true]; omega
theorem Cl.parts {W : Nat} (h1 : 1 ≤ W) (h2 : W ≤ 32) {p q : S77} {l r l' r' : Sh S77} (h : Cl W (.node p l r) (.node q l' r')) (he : encSh W (.node p l r) = encSh W (.node q l' r')) : p = q ∧ hashSh W l = hashSh W l' ∧ hashSh W r = hashSh W r' := by
 obtain ⟨e1, e2, e3, e4⟩ := encNode_inj (enc_nodeOk h1 h2 h.oka) (enc_nodeOk h1 h2 h.okb) he; refine ⟨?_, e3, e4⟩
 cases p; cases q; cases e1; cases e2; rfl
theorem okT_l {p : S77} {l r : Sh S77} (h : okT (.node p l r)) : okT l := fun x hx => h x (by simp [Sh.list, hx])
theorem okT_r {p : S77} {l r : Sh S77} (h : okT (.node p l r)) : okT r := fun x hx => h x (by simp [Sh.list, hx])
theorem len_l {p : S77} {l r : Sh S77} : (Sh.node p l r).list.length = l.list.length + r.list.length + 1 := by simp [Sh.list]; omega
theorem Cl.left {W : Nat} (h1 : 1 ≤ W) (h2 : W ≤ 32) {p q : S77} {l r l' r' : Sh S77} (h : Cl W (.node p l r) (.node q l' r')) (he : encSh W (.node p l r) = encSh W (.node q l' r')) (hl : l.list ≠ l'.list) : Cl W l l' := by
 have ha := h.la; have hb := h.lb; rw [len_l] at ha hb; exact ⟨(h.parts h1 h2 he).2.1, hl, okT_l h.oka, okT_l h.okb, by omega, by omega⟩
theorem Cl.right {W : Nat} (h1 : 1 ≤ W) (h2 : W ≤ 32) {p q : S77} {l r l' r' : Sh S77} (h : Cl W (.node p l r) (.node q l' r')) (he : encSh W (.node p l r) = encSh W (.node q l' r')) (hl : l.list = l'.list) : Cl W r r' := by
 have ha := h.la; have hb := h.lb; rw [len_l] at ha hb; have hp := h.parts h1 h2 he; exact ⟨hp.2.2, fun e => h.ne (by rw [Sh.list, Sh.list, hl, hp.1, e]), okT_r h.oka, okT_r h.okb, by omega, by omega⟩
theorem chgP_nil : ∀ (ps qs : List S77), chgP ps qs = [] ↔ ps = qs
 | [], [] => by simp [chgP]
 | [], q :: qs => by simp [chgP]
 | p :: ps, [] => by simp [chgP]
 | p :: ps, q :: qs => by
  rw [chgP]
  split
  ·rename_i h; simp; intro e; rw [e] at h; rw [ltK_irr] at h; exact absurd h (by decide)
  ·split
   ·rename_i h; simp; intro e; rw [e] at h; rw [ltK_irr] at h; exact absurd h (by decide)
   ·rename_i h1 h2
    have e := ltK_tri (Bool.eq_false_iff.mpr h1) (Bool.eq_false_iff.mpr h2)
    split
    ·rename_i h3; rw [chgP_nil ps qs]; simp; intro _; cases p; cases q; simp_all
    ·rename_i h3; simp; intro e2; rw [e2] at h3; exact absurd rfl h3
theorem sameMap_f (ps qs : List S77) (hp : ps.length ≤ 500000) (hq : qs.length ≤ 500000) (k : Nat) (hk : 4000008 < k) : impl_sameMap.f k ps qs = some (decide (ps = qs)) := by
 unfold impl_sameMap.f; rw [changes_f ps qs hp hq k hk, Option.bind_some]; refine congrArg some ?_; rw [Bool.eq_iff_iff, beq_iff_eq, decide_eq_true_eq, ← chgP_nil]
 constructor
 ·intro h; exact List.eq_nil_of_length_eq_zero (by omega)
 ·intro h; rw [h]; rfl
def clashR (l0 l1 : List S77) (W : Int) : ByteArray × ByteArray × Bool :=
 if mapOk l0 = true ∧ mapOk l1 = true ∧ isW W = true ∧ l0 ≠ l1 ∧ hashSh W (cart abP l0) = hashSh W (cart abP l1) then (nText (clashS W (cart abP l0) (cart abP l1)).1, nText (clashS W (cart abP l0) (cart abP l1)).2, true) else (⟨#[]⟩, ⟨#[]⟩, false)
end Go.Proofs.YtaepebkeijmjgaaDoor.Z
end
section
namespace Go.Proofs.YtaepebkeijmjgaaDoor.Z
open RowKit YtaepebkeijmjgaaDoor YtaepebkeijmjgaaDoorW.PrintWords YtaepebkeijmjgaaDoorW.PrintLast
set_option linter.all false
set_option maxRecDepth 100000
theorem seenP {w u : World} {b : Nat} {k v : ByteArray} {pl pr : Value} (h0 : w.cell? ⟨b, 0, none⟩ = some (.string k)) (h1 : w.cell? ⟨b, 1, none⟩ = some (.string v)) (h2 : w.cell? ⟨b, 34, none⟩ = some pl) (h3 : w.cell? ⟨b, 35, none⟩ = some pr) (hb : Below w.heap.size w u) :
  u.cell? ⟨b, 0, none⟩ = some (.string k) ∧ u.cell? ⟨b, 1, none⟩ = some (.string v) ∧ u.cell? ⟨b, 34, none⟩ = some pl ∧ u.cell? ⟨b, 35, none⟩ = some pr ∧ Below w.heap.size w u := ⟨cellB hb h0, cellB hb h1, cellB hb h2, cellB hb h3, hb⟩
theorem belowP {w u : World} {b : Nat} {k v : ByteArray} {pl pr : Value} (h : u.cell? ⟨b, 0, none⟩ = some (.string k) ∧ u.cell? ⟨b, 1, none⟩ = some (.string v) ∧ u.cell? ⟨b, 34, none⟩ = some pl ∧ u.cell? ⟨b, 35, none⟩ = some pr ∧ Below w.heap.size w u) : Below w.heap.size w u := h.2.2.2.2
theorem pairRow {W : World} {g : Nat} {p : S77} {T : TypeId} (h : W.heap[g]? = some (.cells #[.string p.f0, .string p.f1] T (0, 0))) : ReadsRow (Kd.K k77 W) (Kd.sz k77) W (some ⟨g, 0, none⟩) 1 [p] := by
 refine ⟨rfl, by omega, fun _ => ⟨_, rfl, fun j q hj => ?_⟩⟩; have e : j = 0 := by
  rcases j with _ | j
  ·rfl
  ·simp at hj
 subst e; obtain rfl : p = q := by simpa using hj
 refine ⟨[.string p.f0, .string p.f1], rfl, Kd.K_of_M k77 (k77_mkM W 0 (fun _ => False) p), fun i u hu => ?_⟩; rw [Nat.zero_mul, Nat.zero_add, show (⟨g, 0, none⟩ : Addr).add i = ⟨g, i, none⟩ by (simp [Addr.add]; omega), cell_of_row _ _ _ _ _ _ h]
 simpa using hu
theorem pairKM2 (W : World) (base : Nat) (x : S77) (cs : List Value) (h : Kd.K k77 W x cs) : Kd.M k77 W base (fun _ => False) x cs := by
 rw [k77_open h]; exact k77_mkM _ _ _ x
theorem pairsRight {U w2 : World} {u1 u2 : Value} {base : Nat} {xs ys : List S77} (h1 : Kd.R k77 77 U base (fun _ => True) u1 xs) (h2 : Kd.R k77 77 w2 U.heap.size (fun _ => True) u2 ys) (hb : Below U.heap.size U w2) (hbase : base ≤ U.heap.size) :
  Kd.R k77 77 w2 base (fun _ => True) u1 xs ∧ Kd.R k77 77 w2 base (fun k => True ∧ some k ≠ u1.ownBlock) u2 ys :=
 ⟨Kd.R_below h1 hb, Kd.R_lower (Kd.R_mono (Kd.R_bound h2) (fun k hk => ⟨trivial, fun e => by have h3 := Kd.R_lt h1 k e.symm; have := hk.2.1; omega⟩)) hbase⟩
set_option maxHeartbeats 4000000 in
theorem treePairs_any : ∀ (t : Sh Nd) (w : World), InM w t → t.list.length ≤ 100000 →
  Calls Tryd.prog 94 #[ptrT t] w fun e w' => ∃ u, e = .returned u ∧ Kd.R k77 77 w' w.heap.size (fun _ => True) u (t.list.map er) ∧ Below w.heap.size w w' := by
 intro t
 induction t with
 | nil =>
  intro w _ _; unfold ptrT
  go_enter Tryd.func94, Tryd.ntmps94
  go_wp2
  go_ret
  exact ⟨_, rfl, Kd.R_nil _ _ _ _ _, Below.refl _ _⟩
 | node x l r ihl ihr =>
  intro w hi hlen; rw [Sh.list, List.length_append, List.length_cons] at hlen; have c0 := (cell_of_row _ _ _ _ _ _ hi.1).trans (rowT_key _ _ _); have c1 := (cell_of_row _ _ _ _ _ _ hi.1).trans (rowT_val _ _ _); have c34 := (cell_of_row _ _ _ _ _ _ hi.1).trans (rowT_left _ _ _); have c35 := (cell_of_row _ _ _ _ _ _ hi.1).trans (rowT_right _ _ _); have HXL := Lib.hid hi.2.1; have HXR := Lib.hid hi.2.2; have HL := Lib.hid ihl; have HR := Lib.hid ihr; clear ihl ihr hi; obtain ⟨pl, hpl⟩ : ∃ p, ptrT l = p := ⟨_, rfl⟩
  obtain ⟨pr, hpr⟩ : ∃ p, ptrT r = p := ⟨_, rfl⟩
  obtain ⟨b, hb⟩ : ∃ b, x.b = b := ⟨_, rfl⟩
  show Calls Tryd.prog 94 #[ptrB x.b] w _; unfold ptrB; rw [hb, hpl] at c34; rw [hb, hpr] at c35; rw [hb] at c0 c1 ⊢; have HPL := Lib.hid hpl; have HPR := Lib.hid hpr; clear hb hpl hpr
  go_enter Tryd.func94, Tryd.ntmps94
  go_wp2
  go_region_held3 (fun w' => w'.cell? ⟨b, 0, none⟩ = some (.string x.key) ∧ w'.cell? ⟨b, 1, none⟩ = some (.string x.val) ∧ w'.cell? ⟨b, 34, none⟩ = some pl ∧ w'.cell? ⟨b, 35, none⟩ = some pr ∧ Below w.heap.size w w')
   (first | (with_reducible exact seenP c0 c1 c34 c35 (by assumption)) | (with_reducible exact seenP c0 c1 c34 c35 (Below.refl _ _).drew) | exact seenP c0 c1 c34 c35 (below_new2 (belowP (by assumption)) _))
   (first
    | (go_at_call_of 94 pl; rw [← HPL.out]; refine (HL.out _ (HXL.out.below (belowP (by assumption))) (by omega)).mono ?_; rintro e w1 ⟨u1, rfl, hr1, hb1⟩; have HR1 := Lib.hid (Kd.R_lower hr1 (belowP (by assumption)).size); have hq1 := (belowP (by assumption)).trans (hb1.mono (belowP (by assumption)).size); (try have HBK := Lib.hid ((hb1.block _ (by simp)).trans (heap_alloc_new _ _))); clear hr1 hb1)
    | (go_at_call_of 94 pr; rw [← HPR.out]; refine (HR.out _ (HXR.out.below (belowP (by assumption))) (by omega)).mono ?_; rintro e w2 ⟨u2, rfl, hr2, hb2⟩; have hq2 := (belowP (by assumption)).trans (hb2.mono (belowP (by assumption)).size); obtain ⟨hr1, hr3⟩ := pairsRight (by first | exact HR1.out | exact Kd.R_alloc HR1.out _) hr2 hb2 (belowP (by assumption)).size; clear HR1; have HR1 := Lib.hid hr1; have HR2 := Lib.hid hr3; (first | (replace HBK := Lib.hid ((hb2.block _ (lt_of_block HBK.out)).trans HBK.out)) | (have HBK := Lib.hid ((hb2.block _ (by simp)).trans (heap_alloc_new _ _))) | skip); clear hr1 hr2 hr3 hb2)
    | (refine Kd.R_append_rows_step k77 (w0 := w) w.heap.size (by rfl) (.tmp 9) (.tmp 14) 22 77 (.agg #[(.string ⟨#[]⟩), (.string ⟨#[]⟩)]) 32 (by rfl) Tryd.underlying22 info77 rfl (by decide) (by omega) _ (l.list.map er) [er x] _ 1 1 (fun _ => True) (fun _ => False) (by rfl) (by rfl) (by first | exact HR1.out | exact Kd.R_alloc HR1.out _) (by first | exact pairRow HBK.out | exact pairRow (heap_alloc_new _ _)) (pairKM2 _ _) (fun _ h => h.elim) (fun _ _ => trivial) (belowP (by assumption)) (belowP (by assumption)).size (by rw [List.length_map]; omega) ?_; intro v3 w3 ho3 hb3 hg3 ha3; clear HR1; have HR1 := Lib.hid ho3; (try (have hr3 := Lib.hid (Kd.R_after (by first | exact HR2.out | exact Kd.R_alloc HR2.out _) hg3 ha3); clear HR2; have HR2 := hr3; clear hr3)); clear ho3 hg3 ha3)
    | (obtain ⟨A2, c2, e2, hc2, hC2⟩ := Kd.R_reads HR2.out; subst e2; refine Kd.R_append_rows_step k77 (w0 := w) w.heap.size (by rfl) (.tmp 15) (.tmp 20) 22 77 (.agg #[(.string ⟨#[]⟩), (.string ⟨#[]⟩)]) 32 (by rfl) Tryd.underlying22 info77 rfl (by decide) (by omega) _ (l.list.map er ++ [er x]) (r.list.map er) A2 _ c2 (fun _ => True) (fun _ => False) (by rfl) (by rfl) HR1.out hC2 (pairKM2 _ _) (fun _ h => h.elim) (fun _ _ => trivial) (belowP (by assumption)) (belowP (by assumption)).size (by simp only [List.length_append, List.length_map, List.length_singleton]; omega) ?_; intro v4 w4 ho4 hb4 hg4 ha4; have HO4 := Lib.hid ho4; clear ho4 hg4 ha4))
  all_goals
   go_wp2
   go_ret
   refine ⟨_, rfl, ?_, by assumption⟩; have h := HO4.out; rw [List.append_assoc] at h; rw [Sh.list, List.map_append, List.map_cons]; exact h
end Go.Proofs.YtaepebkeijmjgaaDoor.Z
end
section
namespace Go.Proofs.YtaepebkeijmjgaaDoor.Z
open RowKit YtaepebkeijmjgaaDoorW.PrintWords YtaepebkeijmjgaaDoorW.PrintLast YtaepebkeijmjgaaDoorW.PrintMore
attribute [local go_sem] max2_int min2_int max_two min_two max_three min_three max_four min_four
set_option linter.all false
def impl_textOf.f (a0 : ByteArray) : Option (ByteArray) := if 1 + a0.size ≤ 9223372036854775807 then (some ((⟨#[78]⟩ : ByteArray) ++ a0)) else (none)
set_option maxHeartbeats 8000000 in
set_option maxRecDepth 100000 in
theorem impl_textOf.calls (a0 : ByteArray) (r : ByteArray) (w : World) (h : impl_textOf.f a0 = some r) :
  Calls Tryd.prog 66 #[.string a0] w fun e w' => e = .returned (.string r) ∧ Drawn0 w w' := by
 have H : (if 1 + a0.size ≤ 9223372036854775807 then (some ((⟨#[78]⟩ : ByteArray) ++ a0)) else (none)) = some r := h; clear h
 by_cases c2 : 1 + a0.size ≤ 9223372036854775807
 ·rw [if_pos c2] at H; have c2b0 := eq_true c2; have c2b1 : decide (1 + a0.size ≤ 9223372036854775807) = true := decide_eq_true c2
  try have c2b2 : (9223372036854775807 < 1 + a0.size) = False := eq_false (Nat.not_lt.2 c2)
  obtain rfl := Option.some.inj H
  go_enter Tryd.func66, Tryd.ntmps66
  go_wp2
  go_ret
  exact ⟨by first | rfl | (simp; done) | (simp [*]; done), by repeat (first | exact Drawn0.refl _ | apply Drawn0.step)⟩
 ·rw [if_neg c2] at H; exact absurd H (by simp)
end Go.Proofs.YtaepebkeijmjgaaDoor.Z
end
section
namespace Go.Proofs.YtaepebkeijmjgaaDoor.Z
open RowKit YtaepebkeijmjgaaDoor YtaepebkeijmjgaaDoorW.PrintWords YtaepebkeijmjgaaDoorW.PrintLast
set_option linter.all false
set_option maxRecDepth 100000
theorem seal_listE (W : Int) : ∀ t : Sh Nd, (sealT W t).list.map er = (mapS er t).list
 | .nil => rfl
 | .node x l r => by rw [sealT, Sh.list, List.map_append, List.map_cons, seal_listE W l, seal_listE W r, mapS, Sh.list]; rfl
theorem seal_len (W : Int) (t : Sh Nd) : (sealT W t).list.length = (mapS er t).list.length := by rw [← seal_listE W t, List.length_map]
theorem seal_enc (W : Int) (x : Nd) (l r : Sh Nd) : (sealN W x (rootT (sealT W l)) (rootT (sealT W r))).enc = encSh W (mapS er (.node x l r)) := by
 rw [mapS, encSh, ← seal_hash, ← seal_hash]; rfl
theorem textOf_f (s : ByteArray) (h : s.size ≤ 1048576) : impl_textOf.f s = some (nText s) := by
 unfold impl_textOf.f; rw [if_pos (by omega)]; rfl
structure ClIs (W : Nat) (res : ByteArray × ByteArray) (k : Nat) (v u : Value) (w0 : World) (ta tb : Sh Nd) (w : World) : Prop where
 pa : v = ptrT (sealT W ta)
 pb : u = ptrT (sealT W tb)
 ina : InM w (sealT W ta)
 inb : InM w (sealT W tb)
 cl : Cl W (mapS er ta) (mapS er tb)
 res : clashS W (mapS er ta) (mapS er tb) = res
 few : (mapS er ta).list.length ≤ k
 below : Below w0.heap.size w0 w
def impl_Clash.f (l0 l1 : List S77) (a2 : Int) : Option (ByteArray × ByteArray × Bool) := some (clashR l0 l1 a2)
set_option maxHeartbeats 8000000 in
theorem impl_Clash.calls (A0 : Option Addr) (c0 : Nat) (l0 : List S77) (A1 : Option Addr) (c1 : Nat) (l1 : List S77) (a2 : Int) (r1 r2 : ByteArray) (r3 : Bool) (w : World) (hr0 : Kd.C k77 w A0 l0.length l0) (hc0 : l0.length ≤ c0) (hr1 : Kd.C k77 w A1 l1.length l1) (hc1 : l1.length ≤ c1) (h : impl_Clash.f l0 l1 a2 = some (r1, r2, r3)) (hTab : Tab w := by exact Tab.below (by assumption) (by repeat (first | (with_reducible first | exact HB.out | apply below_alloc | apply pw_below_drewN | apply below_drew1 | refine below_set ?_ (Aside0.out (by assumption))) | exact HB.out))) :
  Calls Tryd.prog 33 #[.slice A0 l0.length c0, .slice A1 l1.length c1, .int .i64 a2] w fun e w' => e = .returned (.tuple #[.string r1, .string r2, .bool r3]) ∧ Below w.heap.size w w' := by
 have h := Option.some.inj h; have HT := Lib.hid hTab; clear hTab; have HR0 := Lib.hid hr0; clear hr0; have HR1 := Lib.hid hr1; clear hr1; have HM0 := Lib.hid (isMap_f l0 1000 (by decide)); have HM1 := Lib.hid (isMap_f l1 1000 (by decide))
 by_cases hall : mapOk l0 = true ∧ mapOk l1 = true ∧ isW a2 = true ∧ l0 ≠ l1 ∧ hashSh a2 (cart abP l0) = hashSh a2 (cart abP l1)
 rotate_left
 ·have h2 : clashR l0 l1 a2 = (⟨#[]⟩, ⟨#[]⟩, false) := by unfold clashR; rw [if_neg hall]
  rw [h2] at h; simp only [Prod.mk.injEq] at h; obtain ⟨rfl, rfl, rfl⟩ := h; clear h2; have HALL := Lib.hid hall; clear hall
  cases hm0 : mapOk l0
  ·rw [hm0] at HM0; clear hm0 HALL
   go_enter Tryd.func33, Tryd.ntmps33
   go_wp2_with (first | (go_at_call_of 75 (Value.slice A0 l0.length c0); refine (impl_isMap.calls 1000 A0 c0 l0 _ _ HR0.out hc0 HM0.out).mono ?_; rintro e w1 ⟨rfl, hb1⟩; have HB0 := Lib.hid hb1; clear hb1))
   refine bodyPost_ret (v := .tuple #[.string ⟨#[]⟩, .string ⟨#[]⟩, .bool false]) zq_44 rfl ⟨?_, ?_⟩
   ·rfl
   ·exact HB0.out
  cases hm1 : mapOk l1
  ·rw [hm0] at HM0; rw [hm1] at HM1; clear hm0 hm1 HALL
   go_enter Tryd.func33, Tryd.ntmps33
   go_wp2_with (first | (go_at_call_of 75 (Value.slice A0 l0.length c0); refine (impl_isMap.calls 1000 A0 c0 l0 _ _ HR0.out hc0 HM0.out).mono ?_; rintro e w1 ⟨rfl, hb1⟩; have HB0 := Lib.hid hb1; clear hb1) | (go_at_call_of 75 (Value.slice A1 l1.length c1); refine (impl_isMap.calls 1000 A1 c1 l1 _ _ (Kd.C_below HR1.out HB0.out) hc1 HM1.out).mono ?_; rintro e w1 ⟨rfl, hb1⟩; have HB1 := Lib.hid (HB0.out.trans (hb1.mono HB0.out.size)); clear hb1) | (go_at_call 93; go_loud (refine (isWidth_any _ _).mono ?_; rintro e w2 ⟨rfl, rfl⟩; rw [HW.out])) | (go_at_call 64; refine (impl_sameMap.calls 4100000 A0 c0 l0 A1 c1 l1 _ _ (Kd.C_below HR0.out HB1.out) hc0 (Kd.C_below HR1.out HB1.out) hc1 HSM.out).mono ?_; rintro e w3 ⟨rfl, hb3⟩; have HBS := Lib.hid (HB1.out.trans (hb3.mono HB1.out.size)); clear hb3))
   refine bodyPost_ret (v := .tuple #[.string ⟨#[]⟩, .string ⟨#[]⟩, .bool false]) zq_44 rfl ⟨?_, ?_⟩
   ·rfl
   ·exact HB1.out
  cases hw : isW a2
  ·rw [hm0] at HM0; rw [hm1] at HM1; have HW := Lib.hid ((widB_isW a2).trans hw); clear hm0 hm1 HALL hw
   go_enter Tryd.func33, Tryd.ntmps33
   go_wp2_with (first | (go_at_call_of 75 (Value.slice A0 l0.length c0); refine (impl_isMap.calls 1000 A0 c0 l0 _ _ HR0.out hc0 HM0.out).mono ?_; rintro e w1 ⟨rfl, hb1⟩; have HB0 := Lib.hid hb1; clear hb1) | (go_at_call_of 75 (Value.slice A1 l1.length c1); refine (impl_isMap.calls 1000 A1 c1 l1 _ _ (Kd.C_below HR1.out HB0.out) hc1 HM1.out).mono ?_; rintro e w1 ⟨rfl, hb1⟩; have HB1 := Lib.hid (HB0.out.trans (hb1.mono HB0.out.size)); clear hb1) | (go_at_call 93; go_loud (refine (isWidth_any _ _).mono ?_; rintro e w2 ⟨rfl, rfl⟩; rw [HW.out])) | (go_at_call 64; refine (impl_sameMap.calls 4100000 A0 c0 l0 A1 c1 l1 _ _ (Kd.C_below HR0.out HB1.out) hc0 (Kd.C_below HR1.out HB1.out) hc1 HSM.out).mono ?_; rintro e w3 ⟨rfl, hb3⟩; have HBS := Lib.hid (HB1.out.trans (hb3.mono HB1.out.size)); clear hb3))
   refine bodyPost_ret (v := .tuple #[.string ⟨#[]⟩, .string ⟨#[]⟩, .bool false]) zq_44 rfl ⟨?_, ?_⟩
   ·rfl
   ·exact HB1.out
  have HW := Lib.hid ((widB_isW a2).trans hw); have hp0 := mapOk_pair hm0; have hp1 := mapOk_pair hm1; have hl0 := hp0.1; have hl1 := hp1.1
  by_cases he : l0 = l1
  ·have HSM := Lib.hid ((sameMap_f l0 l1 (by omega) (by omega) 4100000 (by decide)).trans (congrArg some (decide_eq_true he))); rw [hm0] at HM0; rw [hm1] at HM1; clear hm0 hm1 HALL hw he hp0 hp1
   go_enter Tryd.func33, Tryd.ntmps33
   go_wp2_with (first | (go_at_call_of 75 (Value.slice A0 l0.length c0); refine (impl_isMap.calls 1000 A0 c0 l0 _ _ HR0.out hc0 HM0.out).mono ?_; rintro e w1 ⟨rfl, hb1⟩; have HB0 := Lib.hid hb1; clear hb1) | (go_at_call_of 75 (Value.slice A1 l1.length c1); refine (impl_isMap.calls 1000 A1 c1 l1 _ _ (Kd.C_below HR1.out HB0.out) hc1 HM1.out).mono ?_; rintro e w1 ⟨rfl, hb1⟩; have HB1 := Lib.hid (HB0.out.trans (hb1.mono HB0.out.size)); clear hb1) | (go_at_call 93; go_loud (refine (isWidth_any _ _).mono ?_; rintro e w2 ⟨rfl, rfl⟩; rw [HW.out])) | (go_at_call 64; refine (impl_sameMap.calls 4100000 A0 c0 l0 A1 c1 l1 _ _ (Kd.C_below HR0.out HB1.out) hc0 (Kd.C_below HR1.out HB1.out) hc1 HSM.out).mono ?_; rintro e w3 ⟨rfl, hb3⟩; have HBS := Lib.hid (HB1.out.trans (hb3.mono HB1.out.size)); clear hb3))
   refine bodyPost_ret (v := .tuple #[.string ⟨#[]⟩, .string ⟨#[]⟩, .bool false]) zq_44 rfl ⟨?_, ?_⟩
   ·rfl
   ·exact HBS.out
  have HSM := Lib.hid ((sameMap_f l0 l1 (by omega) (by omega) 4100000 (by decide)).trans (congrArg some (decide_eq_false he))); have HNE : Hid (((hashSh a2 (cart abP l0)).toList == (hashSh a2 (cart abP l1)).toList) = false) := Lib.hid (beq_eq_false_iff_ne.mpr (fun e => HALL.out ⟨hm0, hm1, hw, he, listK.mp e⟩)); rw [hm0] at HM0; rw [hm1] at HM1; unfold isW at hw; simp only [Bool.and_eq_true, decide_eq_true_eq] at hw; obtain ⟨W, hWn⟩ : ∃ W : Nat, a2 = (W : Int) := ⟨a2.toNat, by omega⟩
  subst hWn; have HP0 := Lib.hid hp0.2; have HP1 := Lib.hid hp1.2; clear hm0 hm1 HALL he hp0 hp1
  go_enter Tryd.func33, Tryd.ntmps33
  go_wp2_with (first | (go_at_call_of 75 (Value.slice A0 l0.length c0); refine (impl_isMap.calls 1000 A0 c0 l0 _ _ HR0.out hc0 HM0.out).mono ?_; rintro e w1 ⟨rfl, hb1⟩; have HB0 := Lib.hid hb1; clear hb1) | (go_at_call_of 75 (Value.slice A1 l1.length c1); refine (impl_isMap.calls 1000 A1 c1 l1 _ _ (Kd.C_below HR1.out HB0.out) hc1 HM1.out).mono ?_; rintro e w1 ⟨rfl, hb1⟩; have HB1 := Lib.hid (HB0.out.trans (hb1.mono HB0.out.size)); clear hb1) | (go_at_call 93; go_loud (refine (isWidth_any _ _).mono ?_; rintro e w2 ⟨rfl, rfl⟩; rw [HW.out])) | (go_at_call 64; refine (impl_sameMap.calls 4100000 A0 c0 l0 A1 c1 l1 _ _ (Kd.C_below HR0.out HB1.out) hc0 (Kd.C_below HR1.out HB1.out) hc1 HSM.out).mono ?_; rintro e w3 ⟨rfl, hb3⟩; have HBS := Lib.hid (HB1.out.trans (hb3.mono HB1.out.size)); clear hb3) | (go_at_call_of 76 (Value.slice A0 l0.length c0); refine (grow_any A0 c0 l0 W (by omega) (by omega) _ (Kd.C_below HR0.out HBS.out) hc0 (by omega) (fun p hp => by have := HP0.out p hp; omega) (HT.out.below HBS.out)).mono ?_; rintro e w5 ⟨ta, rfl, hi, hn, hg, hs, hb⟩; have HIA := Lib.hid hi; have HSA := Lib.hid hs; have HBA := Lib.hid (HBS.out.trans (hb.mono HBS.out.size)); clear hi hn hg hs hb) | (go_at_call_of 76 (Value.slice A1 l1.length c1); refine (grow_any A1 c1 l1 W (by omega) (by omega) _ (Kd.C_below HR1.out HBA.out) hc1 (by omega) (fun p hp => by have := HP1.out p hp; omega) (HT.out.below HBA.out)).mono ?_; rintro e w6 ⟨tb, rfl, hi, hn, hg, hs, hb⟩; have HIB := Lib.hid hi; have HSB := Lib.hid hs; have HIA2 := Lib.hid (HIA.out.below hb); have HBG := Lib.hid (HBA.out.trans (hb.mono HBA.out.size)); clear hi hn hg hs hb; obtain ⟨pa, hpa⟩ : ∃ p, ptrT (sealT W ta) = p := ⟨_, rfl⟩; obtain ⟨pb, hpb⟩ : ∃ p, ptrT (sealT W tb) = p := ⟨_, rfl⟩; rw [hpa, hpb]; have HPA := Lib.hid hpa; have HPB := Lib.hid hpb; clear hpa hpb; obtain ⟨ha, hha⟩ : ∃ s, hashSh W (cart abP l0) = s := ⟨_, rfl⟩; obtain ⟨hb, hhb⟩ : ∃ s, hashSh W (cart abP l1) = s := ⟨_, rfl⟩; have HEQ := HNE.out; rw [hha, hhb] at HEQ; have HHA := Lib.hid hha; have HHB := Lib.hid hhb; clear hha hhb) | (go_at_call_of 82 pa; rw [← HPA.out]; refine (treeHash_any _ ha _ (by have := RootIs.of HIA2.out; rw [seal_hash, HSA.out, HHA.out] at this; exact this)).mono ?_; rintro e w7 ⟨rfl, rfl⟩) | (go_at_call_of 82 pb; rw [← HPB.out]; refine (treeHash_any _ hb _ (by have := RootIs.of HIB.out; rw [seal_hash, HSB.out, HHB.out] at this; exact this)).mono ?_; rintro e w8 ⟨rfl, rfl⟩))
  refine bodyPost_ret (v := .tuple #[.string ⟨#[]⟩, .string ⟨#[]⟩, .bool false]) zq_44 rfl ⟨?_, ?_⟩
  ·rfl
  ·exact HBG.out
 have h2 : clashR l0 l1 a2 = (nText (clashS a2 (cart abP l0) (cart abP l1)).1, nText (clashS a2 (cart abP l0) (cart abP l1)).2, true) := by unfold clashR; rw [if_pos hall]
 rw [h2] at h; simp only [Prod.mk.injEq] at h; obtain ⟨rfl, rfl, rfl⟩ := h; clear h2; obtain ⟨hm0, hm1, hw, he, hh⟩ := hall; have HW := Lib.hid ((widB_isW a2).trans hw); have hp0 := mapOk_pair hm0; have hp1 := mapOk_pair hm1; have hl0 := hp0.1; have hl1 := hp1.1; have HSM := Lib.hid ((sameMap_f l0 l1 (by omega) (by omega) 4100000 (by decide)).trans (congrArg some (decide_eq_false he))); rw [hm0] at HM0; rw [hm1] at HM1; unfold isW at hw; simp only [Bool.and_eq_true, decide_eq_true_eq] at hw; obtain ⟨W, hWn⟩ : ∃ W : Nat, a2 = (W : Int) := ⟨a2.toNat, by omega⟩
 subst hWn; have hW1 : 1 ≤ W := by omega
 have hW2 : W ≤ 32 := by omega
 have HP0 := Lib.hid hp0.2; have HP1 := Lib.hid hp1.2; have HCL : Hid (Cl W (cart abP l0) (cart abP l1)) := Lib.hid ⟨hh, by rw [cart_list _ _ (Nat.le_refl _), cart_list _ _ (Nat.le_refl _)]; exact he, by unfold okT; rw [cart_list _ _ (Nat.le_refl _)]; exact hp0.2, by unfold okT; rw [cart_list _ _ (Nat.le_refl _)]; exact hp1.2, by rw [cart_list _ _ (Nat.le_refl _)]; omega, by rw [cart_list _ _ (Nat.le_refl _)]; omega⟩; have HNE : Hid (((hashSh W (cart abP l0)).toList == (hashSh W (cart abP l1)).toList) = true) := Lib.hid (beq_iff_eq.mpr (by rw [hh])); clear hm0 hm1 he hh hp0 hp1; obtain ⟨res, hres⟩ : ∃ res, clashS W (cart abP l0) (cart abP l1) = res := ⟨_, rfl⟩
 rw [hres]; have HRES := Lib.hid hres; clear hres
 go_enter Tryd.func33, Tryd.ntmps33
 go_wp2_with (first | (go_at_call_of 75 (Value.slice A0 l0.length c0); refine (impl_isMap.calls 1000 A0 c0 l0 _ _ HR0.out hc0 HM0.out).mono ?_; rintro e w1 ⟨rfl, hb1⟩; have HB0 := Lib.hid hb1; clear hb1) | (go_at_call_of 75 (Value.slice A1 l1.length c1); refine (impl_isMap.calls 1000 A1 c1 l1 _ _ (Kd.C_below HR1.out HB0.out) hc1 HM1.out).mono ?_; rintro e w1 ⟨rfl, hb1⟩; have HB1 := Lib.hid (HB0.out.trans (hb1.mono HB0.out.size)); clear hb1) | (go_at_call 93; go_loud (refine (isWidth_any _ _).mono ?_; rintro e w2 ⟨rfl, rfl⟩; rw [HW.out])) | (go_at_call 64; refine (impl_sameMap.calls 4100000 A0 c0 l0 A1 c1 l1 _ _ (Kd.C_below HR0.out HB1.out) hc0 (Kd.C_below HR1.out HB1.out) hc1 HSM.out).mono ?_; rintro e w3 ⟨rfl, hb3⟩; have HBS := Lib.hid (HB1.out.trans (hb3.mono HB1.out.size)); clear hb3) | (go_at_call_of 76 (Value.slice A0 l0.length c0); refine (grow_any A0 c0 l0 W (by omega) (by omega) _ (Kd.C_below HR0.out HBS.out) hc0 (by omega) (fun p hp => by have := HP0.out p hp; omega) (HT.out.below HBS.out)).mono ?_; rintro e w5 ⟨ta, rfl, hi, hn, hg, hs, hb⟩; have HIA := Lib.hid hi; have HSA := Lib.hid hs; have HBA := Lib.hid (HBS.out.trans (hb.mono HBS.out.size)); clear hi hn hg hs hb) | (go_at_call_of 76 (Value.slice A1 l1.length c1); refine (grow_any A1 c1 l1 W (by omega) (by omega) _ (Kd.C_below HR1.out HBA.out) hc1 (by omega) (fun p hp => by have := HP1.out p hp; omega) (HT.out.below HBA.out)).mono ?_; rintro e w6 ⟨tb, rfl, hi, hn, hg, hs, hb⟩; have HIB := Lib.hid hi; have HSB := Lib.hid hs; have HIA2 := Lib.hid (HIA.out.below hb); have HBG := Lib.hid (HBA.out.trans (hb.mono HBA.out.size)); clear hi hn hg hs hb; obtain ⟨pa, hpa⟩ : ∃ p, ptrT (sealT W ta) = p := ⟨_, rfl⟩; obtain ⟨pb, hpb⟩ : ∃ p, ptrT (sealT W tb) = p := ⟨_, rfl⟩; rw [hpa, hpb]; have HPA := Lib.hid hpa; have HPB := Lib.hid hpb; clear hpa hpb; obtain ⟨ha, hha⟩ : ∃ s, hashSh W (cart abP l0) = s := ⟨_, rfl⟩; obtain ⟨hb, hhb⟩ : ∃ s, hashSh W (cart abP l1) = s := ⟨_, rfl⟩; have HEQ := HNE.out; rw [hha, hhb] at HEQ; have HHA := Lib.hid hha; have HHB := Lib.hid hhb; clear hha hhb) | (go_at_call_of 82 pa; rw [← HPA.out]; refine (treeHash_any _ ha _ (by have := RootIs.of HIA2.out; rw [seal_hash, HSA.out, HHA.out] at this; exact this)).mono ?_; rintro e w7 ⟨rfl, rfl⟩) | (go_at_call_of 82 pb; rw [← HPB.out]; refine (treeHash_any _ hb _ (by have := RootIs.of HIB.out; rw [seal_hash, HSB.out, HHB.out] at this; exact this)).mono ?_; rintro e w8 ⟨rfl, rfl⟩))
 have hcl0 := HCL.out; rw [← HSA.out, ← HSB.out] at hcl0; have hres0 := HRES.out; rw [← HSA.out, ← HSB.out] at hres0; have HC0 : Hid (ClIs W res (mapS er ta).list.length (ptrT (sealT W ta)) (ptrT (sealT W tb)) w ta tb w6) := Lib.hid ⟨rfl, rfl, HIA2.out, HIB.out, hcl0, hres0, Nat.le_refl _, HBG.out⟩; clear hcl0 hres0 HEQ
 go_loopg [9, 10] (mapS er ta).list.length (fun kq v u w' => ∃ ta tb : Sh Nd, ClIs W res kq v u w ta tb w')
 case atStart => exact ⟨ta, tb, HC0.out⟩
 case round =>
  clear HC0 HSA HSB HPA HPB HIA2 HIB HIA; obtain ⟨xa, xb, hC⟩ := hrel; obtain ⟨⟨p, l, r, ea⟩, ⟨q, l', r', eb⟩⟩ := hC.cl.nodes hW1 hW2
  match xa, ea, xb, eb, hC with
  | .node x xl xr, ea, .node y yl yr, eb, hC =>
  have hina := hC.ina; have hinb := hC.inb; rw [sealT] at hina hinb; have c36 := (cell_of_row _ _ _ _ _ _ hina.1).trans (rowT_enc _ _ _); have d36 := (cell_of_row _ _ _ _ _ _ hinb.1).trans (rowT_enc _ _ _); have c34 := (cell_of_row _ _ _ _ _ _ hina.1).trans (rowT_left _ _ _); have d34 := (cell_of_row _ _ _ _ _ _ hinb.1).trans (rowT_left _ _ _); have c35 := (cell_of_row _ _ _ _ _ _ hina.1).trans (rowT_right _ _ _); have d35 := (cell_of_row _ _ _ _ _ _ hinb.1).trans (rowT_right _ _ _); rw [seal_enc] at c36 d36; obtain ⟨b, hb⟩ : ∃ b, x.b = b := ⟨_, rfl⟩
  obtain ⟨d, hd⟩ : ∃ d, y.b = d := ⟨_, rfl⟩
  have hb' : (sealN W x (rootT (sealT W xl)) (rootT (sealT W xr))).b = b := hb; have hd' : (sealN W y (rootT (sealT W yl)) (rootT (sealT W yr))).b = d := hd; rw [hb'] at c34 c35 c36; rw [hd'] at d34 d35 d36; have hpa := hC.pa; have hpb := hC.pb; rw [sealT, ptrT, hb'] at hpa; rw [sealT, ptrT, hd'] at hpb; unfold ptrB at hpa hpb; subst hpa hpb; obtain ⟨ea, hea⟩ : ∃ e, encSh W (mapS er (.node x xl xr)) = e := ⟨_, rfl⟩
  obtain ⟨eb, heb⟩ : ∃ e, encSh W (mapS er (.node y yl yr)) = e := ⟨_, rfl⟩
  rw [hea] at c36; rw [heb] at d36; have HINA := Lib.hid hina; have HINB := Lib.hid hinb; have HEA := Lib.hid hea; have HEB := Lib.hid heb; obtain ⟨pl, hpl⟩ : ∃ p, ptrT (sealT W xl) = p := ⟨_, rfl⟩
  obtain ⟨pr, hpr⟩ : ∃ p, ptrT (sealT W xr) = p := ⟨_, rfl⟩
  obtain ⟨ql, hql⟩ : ∃ p, ptrT (sealT W yl) = p := ⟨_, rfl⟩
  obtain ⟨qr, hqr⟩ : ∃ p, ptrT (sealT W yr) = p := ⟨_, rfl⟩
  rw [hpl] at c34; rw [hpr] at c35; rw [hql] at d34; rw [hqr] at d35; have HPL := Lib.hid hpl; have HPR := Lib.hid hpr; have HQL := Lib.hid hql; have HQR := Lib.hid hqr; have HC := Lib.hid hC; clear hC hina hinb hea heb hpl hpr hql hqr hb hd hb' hd'; have hsa : ea.size ≤ 4000 := by rw [← HEA.out, mapS, encSh]; exact encNode_size_le _ _ _ _ _
  have hsb : eb.size ≤ 4000 := by rw [← HEB.out, mapS, encSh]; exact encNode_size_le _ _ _ _ _
  have HTA := Lib.hid (textOf_f ea (by omega)); have HTB := Lib.hid (textOf_f eb (by omega))
  cases he : (ea.toList == eb.toList)
  ·have HRS : Hid (res = (ea, eb)) := Lib.hid (by
    rw [← HC.out.res, mapS, mapS, clashS, if_neg (fun e => ?_)]
    ·rw [← HEA.out, ← HEB.out]; rfl
    ·have h1 := HEA.out; have h2 := HEB.out; rw [mapS] at h1 h2; rw [h1, h2] at e; rw [e] at he; simp at he)
   have HWB := HC.out.below; have HWB := Lib.hid HWB; clear c34 c35 d34 d35 hsa hsb
   go_wp2
   go_region_held3 (fun w' => w'.cell? ⟨b, 36, none⟩ = some (.string ea) ∧ w'.cell? ⟨d, 36, none⟩ = some (.string eb) ∧ Below wr.heap.size wr w')
    (first | (with_reducible exact cells2P c36 d36 (by assumption)) | (with_reducible exact cells2P c36 d36 (Below.refl _ _).drew)) (fail)
   go_wp2
   go_region_held3 (fun w' => w'.cell? ⟨b, 36, none⟩ = some (.string ea) ∧ w'.cell? ⟨d, 36, none⟩ = some (.string eb) ∧ Below wr.heap.size wr w')
    (first | (with_reducible exact cells2P c36 d36 (by assumption)) | (with_reducible exact cells2P c36 d36 (Below.refl _ _).drew.drew))
    (first
     | (go_at_call_of 66 (Value.string ea); refine (impl_textOf.calls ea (nText ea) _ HTA.out).mono ?_; rintro e w1 ⟨rfl, hb1⟩; have hq1 := (below2P (by assumption)).trans (hb1.below.mono (below2P (by assumption)).size); clear hb1)
     | (go_at_call_of 66 (Value.string eb); refine (impl_textOf.calls eb (nText eb) _ HTB.out).mono ?_; rintro e w2 ⟨rfl, hb2⟩; have hq2 := (below2P (by assumption)).trans (hb2.below.mono (below2P (by assumption)).size); clear hb2))
   all_goals
    go_wp2
    refine bodyPost_ret (v := .tuple #[.string (nText ea), .string (nText eb), .bool true]) zq_44 rfl ⟨?_, ?_⟩
    ·rw [HRS.out]
    ·exact HWB.out.trans ((below2P (by assumption)).mono HWB.out.size)
  ·have HEE : Hid (encSh W (mapS er (.node x xl xr)) = encSh W (mapS er (.node y yl yr))) := Lib.hid (by rw [HEA.out, HEB.out]; exact listK.mp (beq_iff_eq.mp he)); have hres := HC.out.res; rw [mapS, mapS, clashS, if_pos (by have h := HEE.out; rw [mapS, mapS] at h; exact h)] at hres; have hcl := HC.out.cl; rw [mapS, mapS] at hcl; have hee := HEE.out; rw [mapS, mapS] at hee; have hfew := HC.out.few; have hlb := HC.out.cl.lb; have hla := HC.out.cl.la; rw [mapS, len_l] at hfew hlb hla; have HSL := Lib.hid (sameMap_f ((sealT W xl).list.map er) ((sealT W yl).list.map er) (by rw [seal_listE]; omega) (by rw [seal_listE]; omega) 4100000 (by decide)); have hx1 : (sealT W xl).list.length ≤ 100000 := by rw [seal_len]; omega
   have hx2 : (sealT W yl).list.length ≤ 100000 := by rw [seal_len]; omega
   have HWB := Lib.hid HC.out.below; clear hsa hsb HTA HTB hlb hla
   by_cases hs : (mapS er xl).list = (mapS er yl).list
   ·rw [if_pos hs] at hres; have HR2 := Lib.hid hres; have HC2 := Lib.hid (hcl.right hW1 hW2 hee hs); rw [seal_listE, seal_listE, decide_eq_true hs] at HSL; clear hres hcl hee hs
    go_wp2
    go_region_held3 (fun w' => w'.cell? ⟨b, 36, none⟩ = some (.string ea) ∧ w'.cell? ⟨d, 36, none⟩ = some (.string eb) ∧ Below wr.heap.size wr w')
     (first | (with_reducible exact cells2P c36 d36 (by assumption)) | (with_reducible exact cells2P c36 d36 (Below.refl _ _).drew)) (fail)
    go_wp2
    go_region_held3 (fun w' => w'.cell? ⟨b, 34, none⟩ = some pl ∧ w'.cell? ⟨d, 34, none⟩ = some ql ∧ Below wr.heap.size wr w')
     (first | (with_reducible exact cells2P c34 d34 (by assumption)) | (with_reducible exact cells2P c34 d34 (Below.refl _ _).drew.drew))
     (first
      | (go_at_call_of 94 pl; rw [← HPL.out]; refine (treePairs_any (sealT W xl) _ (HINA.out.2.1.below (below2P (by assumption))) hx1).mono ?_; rintro e w1 ⟨u1, rfl, hr1, hb1⟩; have hq1 := (below2P (by assumption)).trans (hb1.mono (below2P (by assumption)).size); have HRA := Lib.hid hr1; clear hr1 hb1)
      | (go_at_call_of 94 ql; rw [← HQL.out]; refine (treePairs_any (sealT W yl) _ (HINB.out.2.1.below (below2P (by assumption))) hx2).mono ?_; rintro e w2 ⟨u2, rfl, hr2, hb2⟩; have hq2 := (below2P (by assumption)).trans (hb2.mono (below2P (by assumption)).size); have HRA2 := Lib.hid (Kd.R_below HRA.out hb2); have HRB := Lib.hid hr2; clear hr2 hb2)
      | (go_at_call 64; obtain ⟨A3, c3, e3, hc3, hC3⟩ := Kd.R_reads HRA2.out; obtain ⟨A4, c4, e4, hc4, hC4⟩ := Kd.R_reads HRB.out; subst e3 e4; rw [seal_listE] at hC3 hc3 hC4 hc4; rw [seal_listE, seal_listE]; refine (impl_sameMap.calls 4100000 A3 c3 _ A4 c4 _ _ _ hC3 hc3 hC4 hc4 HSL.out).mono ?_; rintro e w3 ⟨rfl, hb3⟩; have hq3 := (below2P (by assumption)).trans (hb3.mono (below2P (by assumption)).size); clear hb3))
    go_wp2
    go_region_held3 (fun w' => w'.cell? ⟨b, 35, none⟩ = some pr ∧ w'.cell? ⟨d, 35, none⟩ = some qr ∧ Below wr.heap.size wr w')
     (first | (with_reducible exact cells2P c35 d35 (by assumption)) | (with_reducible exact cells2P c35 d35 hq3.drew)) (fail)
    go_wp2
    go_roundg (mapS er xr).list.length
    case measure => omega
    case rel => exact ⟨xr, yr, ⟨HPR.out.symm, HQR.out.symm, HINA.out.2.2.below (below2P (by assumption)), HINB.out.2.2.below (below2P (by assumption)), HC2.out, HR2.out, Nat.le_refl _, HWB.out.trans ((below2P (by assumption)).mono HWB.out.size)⟩⟩
   ·rw [if_neg hs] at hres; have HR2 := Lib.hid hres; have HC2 := Lib.hid (hcl.left hW1 hW2 hee hs); rw [seal_listE, seal_listE, decide_eq_false hs] at HSL; clear hres hcl hee hs
    go_wp2
    go_region_held3 (fun w' => w'.cell? ⟨b, 36, none⟩ = some (.string ea) ∧ w'.cell? ⟨d, 36, none⟩ = some (.string eb) ∧ Below wr.heap.size wr w')
     (first | (with_reducible exact cells2P c36 d36 (by assumption)) | (with_reducible exact cells2P c36 d36 (Below.refl _ _).drew)) (fail)
    go_wp2
    go_region_held3 (fun w' => w'.cell? ⟨b, 34, none⟩ = some pl ∧ w'.cell? ⟨d, 34, none⟩ = some ql ∧ Below wr.heap.size wr w')
     (first | (with_reducible exact cells2P c34 d34 (by assumption)) | (with_reducible exact cells2P c34 d34 (Below.refl _ _).drew.drew))
     (first
      | (go_at_call_of 94 pl; rw [← HPL.out]; refine (treePairs_any (sealT W xl) _ (HINA.out.2.1.below (below2P (by assumption))) hx1).mono ?_; rintro e w1 ⟨u1, rfl, hr1, hb1⟩; have hq1 := (below2P (by assumption)).trans (hb1.mono (below2P (by assumption)).size); have HRA := Lib.hid hr1; clear hr1 hb1)
      | (go_at_call_of 94 ql; rw [← HQL.out]; refine (treePairs_any (sealT W yl) _ (HINB.out.2.1.below (below2P (by assumption))) hx2).mono ?_; rintro e w2 ⟨u2, rfl, hr2, hb2⟩; have hq2 := (below2P (by assumption)).trans (hb2.mono (below2P (by assumption)).size); have HRA2 := Lib.hid (Kd.R_below HRA.out hb2); have HRB := Lib.hid hr2; clear hr2 hb2)
      | (go_at_call 64; obtain ⟨A3, c3, e3, hc3, hC3⟩ := Kd.R_reads HRA2.out; obtain ⟨A4, c4, e4, hc4, hC4⟩ := Kd.R_reads HRB.out; subst e3 e4; rw [seal_listE] at hC3 hc3 hC4 hc4; rw [seal_listE, seal_listE]; refine (impl_sameMap.calls 4100000 A3 c3 _ A4 c4 _ _ _ hC3 hc3 hC4 hc4 HSL.out).mono ?_; rintro e w3 ⟨rfl, hb3⟩; have hq3 := (below2P (by assumption)).trans (hb3.mono (below2P (by assumption)).size); clear hb3))
    go_wp2
    go_region_held3 (fun w' => w'.cell? ⟨b, 34, none⟩ = some pl ∧ w'.cell? ⟨d, 34, none⟩ = some ql ∧ Below wr.heap.size wr w')
     (first | (with_reducible exact cells2P c34 d34 (by assumption)) | (with_reducible exact cells2P c34 d34 hq3.drew)) (fail)
    go_wp2
    go_roundg (mapS er xl).list.length
    case measure => omega
    case rel => exact ⟨xl, yl, ⟨HPL.out.symm, HQL.out.symm, HINA.out.2.1.below (below2P (by assumption)), HINB.out.2.1.below (below2P (by assumption)), HC2.out, HR2.out, Nat.le_refl _, HWB.out.trans ((below2P (by assumption)).mono HWB.out.size)⟩⟩
end Go.Proofs.YtaepebkeijmjgaaDoor.Z
end
section
namespace Go.Proofs.YtaepebkeijmjgaaDoor.Z
open RowKit YtaepebkeijmjgaaDoorW.PrintWords YtaepebkeijmjgaaDoorW.PrintLast YtaepebkeijmjgaaDoorW.PrintMore
attribute [local go_sem] max2_int min2_int max_two min_two max_three min_three max_four min_four
set_option linter.all false
def spec_l1Take.j0 : Nat → List Int → Int → Int → Bool → Option (Int × Int)
 | 0, _, _, _, _ => none
 | k + 1, x0, x1, x2, x17 => if x17 = true then (some (0, wrap64 (x1 + 1))) else (if x1 < (x0.length : Int) then (if x2 ≤ 256 then (if 0 ≤ x1 then (if x2 = 0 then (none) else (some (Int.tmod (wrap64 (rd x0 x1)) x2, wrap64 (x1 + 1)))) else (none)) else (if (x0.length : Int) = 0 then (none) else (if 0 ≤ (Int.tmod x1 (x0.length : Int)) then (if (Int.tmod x1 (x0.length : Int)) < (x0.length : Int) then (if 0 ≤ (Int.tmod (wrap64 ((wrap64 (x1 * 7)) + 3)) (x0.length : Int)) then (if (Int.tmod (wrap64 ((wrap64 (x1 * 7)) + 3)) (x0.length : Int)) < (x0.length : Int) then (if x2 = 0 then (none) else (some (Int.tmod (Go.bits .xor .i64 (wrap64 ((wrap64 ((wrap64 ((wrap64 ((wrap64 (rd x0 (Int.tmod x1 (x0.length : Int)))) * 131)) + (wrap64 ((wrap64 (rd x0 (Int.tmod (wrap64 ((wrap64 (x1 * 7)) + 3)) (x0.length : Int)))) * 1117)))) + (wrap64 (x1 * 29)))) + (wrap64 ((wrap64 (Int.tdiv x1 (x0.length : Int))) * 53)))) (wrap64 (Int.tdiv (wrap64 ((wrap64 ((wrap64 ((wrap64 ((wrap64 (rd x0 (Int.tmod x1 (x0.length : Int)))) * 131)) + (wrap64 ((wrap64 (rd x0 (Int.tmod (wrap64 ((wrap64 (x1 * 7)) + 3)) (x0.length : Int)))) * 1117)))) + (wrap64 (x1 * 29)))) + (wrap64 ((wrap64 (Int.tdiv x1 (x0.length : Int))) * 53)))) 64))) x2, wrap64 (x1 + 1)))) else (none)) else (none)) else (none)) else (none)))) else (if (x0.length : Int) = 0 then (none) else (if 0 ≤ (Int.tmod x1 (x0.length : Int)) then (if (Int.tmod x1 (x0.length : Int)) < (x0.length : Int) then (if 0 ≤ (Int.tmod (wrap64 ((wrap64 (x1 * 7)) + 3)) (x0.length : Int)) then (if (Int.tmod (wrap64 ((wrap64 (x1 * 7)) + 3)) (x0.length : Int)) < (x0.length : Int) then (if x2 = 0 then (none) else (some (Int.tmod (Go.bits .xor .i64 (wrap64 ((wrap64 ((wrap64 ((wrap64 ((wrap64 (rd x0 (Int.tmod x1 (x0.length : Int)))) * 131)) + (wrap64 ((wrap64 (rd x0 (Int.tmod (wrap64 ((wrap64 (x1 * 7)) + 3)) (x0.length : Int)))) * 1117)))) + (wrap64 (x1 * 29)))) + (wrap64 ((wrap64 (Int.tdiv x1 (x0.length : Int))) * 53)))) (wrap64 (Int.tdiv (wrap64 ((wrap64 ((wrap64 ((wrap64 ((wrap64 (rd x0 (Int.tmod x1 (x0.length : Int)))) * 131)) + (wrap64 ((wrap64 (rd x0 (Int.tmod (wrap64 ((wrap64 (x1 * 7)) + 3)) (x0.length : Int)))) * 1117)))) + (wrap64 (x1 * 29)))) + (wrap64 ((wrap64 (Int.tdiv x1 (x0.length : Int))) * 53)))) 64))) x2, wrap64 (x1 + 1)))) else (none)) else (none)) else (none)) else (none))))
def spec_l1Take.f (k : Nat) (l0 : List Int) (a1 : Int) (a2 : Int) : Option (Int × Int) := if a2 < 1 then (spec_l1Take.j0 k l0 a1 a2 true) else (spec_l1Take.j0 k l0 a1 a2 ((l0.length : Int) == 0))
set_option maxHeartbeats 8000000 in
set_option maxRecDepth 100000 in
theorem spec_l1Take.calls (k : Nat) (A0 : Option Addr) (c0 : Nat) (l0 : List Int) (a1 : Int) (a2 : Int) (r1 : Int) (r2 : Int) (w : World) (hr0 : Kd.C (Kd.int .u8) w A0 l0.length l0) (hc0 : l0.length ≤ c0) (h : spec_l1Take.f k l0 a1 a2 = some (r1, r2)) :
  Calls Tryd.prog 85 #[.slice A0 l0.length c0, .int .i64 a1, .int .i64 a2] w fun e w' => e = .returned (.tuple #[.int .i64 r1, .int .i64 r2]) ∧ Drawn0 w w' := by
 have HR0 := Aside0.mk hr0; have HC0 := Aside0.mk hc0; clear hr0 hc0; have H : (if a2 < 1 then (spec_l1Take.j0 k l0 a1 a2 true) else (spec_l1Take.j0 k l0 a1 a2 ((l0.length : Int) == 0))) = some (r1, r2) := h; clear h; have HC4 := Aside0.mk H; clear H
 go_enter Tryd.func85, Tryd.ntmps85
 go_upto_region 1 with (fail)
 go_cut [17] (fun v17 wc => ∃ (kq : Nat) (x17_3 : Bool), v17 = .bool x17_3 ∧ Aside0 (spec_l1Take.j0 kq l0 a1 a2 x17_3 = some (r1, r2)) ∧ Aside0 (kq ≤ k) ∧ Drawn0 w wc)
 case first =>
  have H := HC4.out; clear HC4
  by_cases c5 : a2 < 1
  ·rw [if_pos c5] at H; have c5b0 : decide (a2 < 1) = true := decide_eq_true c5; clear c5; (first | rw [c5b0] | (simp only [i64_w, i32_w]; rw [c5b0]) | skip); have H' := Aside0.mk H; clear H
   go_wp2
   go_meet
   case rel => exact ⟨_, (true), zq_4, H', ⟨by first | omega | exact Nat.le_refl _⟩, by repeat (first | exact Drawn0.refl _ | apply Drawn0.step)⟩
  ·rw [if_neg c5] at H; have c5b0 : decide (a2 < 1) = false := decide_eq_false c5; clear c5; (first | rw [c5b0] | (simp only [i64_w, i32_w]; rw [c5b0]) | skip); have H' := Aside0.mk H; clear H
   go_wp2
   go_meet
   case rel => exact ⟨_, (((l0.length : Int) == 0)), zq_4, H', ⟨by first | omega | exact Nat.le_refl _⟩, by repeat (first | exact Drawn0.refl _ | apply Drawn0.step)⟩
 case rest =>
  clear HC4
  try clear p2
  try clear c5
  try clear c5b0
  obtain ⟨kq, x17_3, rfl, HA, HJ3, ⟨mc3, rfl⟩⟩ := hcut
  cases kq with
  | zero => exact absurd HA.out (by simp [spec_l1Take.j0])
  | succ kj3 =>
   have H := HA.out; clear HA; simp only [spec_l1Take.j0] at H
   by_cases c6 : x17_3 = true
   ·subst c6; have H1 : (some (0, wrap64 (a1 + 1))) = some (r1, r2) := by rw [if_pos rfl] at H; exact H
    clear H; have H := H1; clear H1; simp only [Option.some.injEq, Prod.mk.injEq] at H; obtain ⟨rfl, rfl⟩ := H
    go_wp2
    go_ret2
    exact ⟨by first | rfl | (simp; done) | (simp [*]; done), by repeat (first | exact Drawn0.refl _ | apply Drawn0.step)⟩
   ·replace c6 := Bool.eq_false_iff.mpr c6; subst c6; have H1 : (if a1 < (l0.length : Int) then (if a2 ≤ 256 then (if 0 ≤ a1 then (if a2 = 0 then (none) else (some (Int.tmod (wrap64 (rd l0 a1)) a2, wrap64 (a1 + 1)))) else (none)) else (if (l0.length : Int) = 0 then (none) else (if 0 ≤ (Int.tmod a1 (l0.length : Int)) then (if (Int.tmod a1 (l0.length : Int)) < (l0.length : Int) then (if 0 ≤ (Int.tmod (wrap64 ((wrap64 (a1 * 7)) + 3)) (l0.length : Int)) then (if (Int.tmod (wrap64 ((wrap64 (a1 * 7)) + 3)) (l0.length : Int)) < (l0.length : Int) then (if a2 = 0 then (none) else (some (Int.tmod (Go.bits .xor .i64 (wrap64 ((wrap64 ((wrap64 ((wrap64 ((wrap64 (rd l0 (Int.tmod a1 (l0.length : Int)))) * 131)) + (wrap64 ((wrap64 (rd l0 (Int.tmod (wrap64 ((wrap64 (a1 * 7)) + 3)) (l0.length : Int)))) * 1117)))) + (wrap64 (a1 * 29)))) + (wrap64 ((wrap64 (Int.tdiv a1 (l0.length : Int))) * 53)))) (wrap64 (Int.tdiv (wrap64 ((wrap64 ((wrap64 ((wrap64 ((wrap64 (rd l0 (Int.tmod a1 (l0.length : Int)))) * 131)) + (wrap64 ((wrap64 (rd l0 (Int.tmod (wrap64 ((wrap64 (a1 * 7)) + 3)) (l0.length : Int)))) * 1117)))) + (wrap64 (a1 * 29)))) + (wrap64 ((wrap64 (Int.tdiv a1 (l0.length : Int))) * 53)))) 64))) a2, wrap64 (a1 + 1)))) else (none)) else (none)) else (none)) else (none)))) else (if (l0.length : Int) = 0 then (none) else (if 0 ≤ (Int.tmod a1 (l0.length : Int)) then (if (Int.tmod a1 (l0.length : Int)) < (l0.length : Int) then (if 0 ≤ (Int.tmod (wrap64 ((wrap64 (a1 * 7)) + 3)) (l0.length : Int)) then (if (Int.tmod (wrap64 ((wrap64 (a1 * 7)) + 3)) (l0.length : Int)) < (l0.length : Int) then (if a2 = 0 then (none) else (some (Int.tmod (Go.bits .xor .i64 (wrap64 ((wrap64 ((wrap64 ((wrap64 ((wrap64 (rd l0 (Int.tmod a1 (l0.length : Int)))) * 131)) + (wrap64 ((wrap64 (rd l0 (Int.tmod (wrap64 ((wrap64 (a1 * 7)) + 3)) (l0.length : Int)))) * 1117)))) + (wrap64 (a1 * 29)))) + (wrap64 ((wrap64 (Int.tdiv a1 (l0.length : Int))) * 53)))) (wrap64 (Int.tdiv (wrap64 ((wrap64 ((wrap64 ((wrap64 ((wrap64 (rd l0 (Int.tmod a1 (l0.length : Int)))) * 131)) + (wrap64 ((wrap64 (rd l0 (Int.tmod (wrap64 ((wrap64 (a1 * 7)) + 3)) (l0.length : Int)))) * 1117)))) + (wrap64 (a1 * 29)))) + (wrap64 ((wrap64 (Int.tdiv a1 (l0.length : Int))) * 53)))) 64))) a2, wrap64 (a1 + 1)))) else (none)) else (none)) else (none)) else (none)))) = some (r1, r2) := by rw [if_neg (show ¬ (false = true) by decide)] at H; exact H
    clear H; have H := H1; clear H1
    by_cases c7 : a1 < (l0.length : Int)
    ·rw [if_pos c7] at H; have c7b0 : decide (a1 < (l0.length : Int)) = true := decide_eq_true c7; clear c7
     by_cases c8 : a2 ≤ 256
     ·rw [if_pos c8] at H; have c8b0 : decide (a2 ≤ 256) = true := decide_eq_true c8; clear c8
      by_cases c9 : 0 ≤ a1
      ·rw [if_pos c9] at H; have c9b0 : decide (0 ≤ a1) = true := decide_eq_true c9; clear c9
       by_cases c10 : a2 = 0
       ·rw [if_pos c10] at H; exact absurd H (by simp)
       ·rw [if_neg c10] at H; have c10b0 : (a2 == 0) = false := beq_eq_false_iff_ne.mpr c10; have c10b1 : (a2 != 0) = true := bne_iff_ne.mpr c10; simp only [Option.some.injEq, Prod.mk.injEq] at H; obtain ⟨rfl, rfl⟩ := H; have p850001 : 0 ≤ (a1 : Int) := of_decide_eq_true zq_2; have q850001 : a1 < (l0.length : Int) := of_decide_eq_true zq_2; obtain ⟨ad850001, e850001, hx850001_0⟩ := Kd.at_int HR0.out a1 p850001 q850001
        cases e850001
        replace p850001 := eq_true p850001; replace q850001 := eq_true q850001
        go_wp2
        go_ret2
        exact ⟨by first | rfl | (simp; done) | (simp [*]; done), by repeat (first | exact Drawn0.refl _ | apply Drawn0.step)⟩
      ·rw [if_neg c9] at H; exact absurd H (by simp)
     ·rw [if_neg c8] at H; have c8b0 : decide (a2 ≤ 256) = false := decide_eq_false c8; clear c8
      by_cases c11 : (l0.length : Int) = 0
      ·rw [if_pos c11] at H; exact absurd H (by simp)
      ·rw [if_neg c11] at H; have c11b0 : ((l0.length : Int) == 0) = false := beq_eq_false_iff_ne.mpr c11; have c11b1 : ((l0.length : Int) != 0) = true := bne_iff_ne.mpr c11; have c11b2 : ¬ (l0 = []) := fun h_ => c11 (by rw [h_]; rfl)
       obtain ⟨ji12, hji12⟩ : ∃ j_ : Int, (Int.tmod a1 (l0.length : Int)) = j_ := ⟨_, rfl⟩
       replace H : (if 0 ≤ (ji12) then (if (ji12) < (l0.length : Int) then (if 0 ≤ (Int.tmod (wrap64 ((wrap64 (a1 * 7)) + 3)) (l0.length : Int)) then (if (Int.tmod (wrap64 ((wrap64 (a1 * 7)) + 3)) (l0.length : Int)) < (l0.length : Int) then (if a2 = 0 then (none) else (some (Int.tmod (Go.bits .xor .i64 (wrap64 ((wrap64 ((wrap64 ((wrap64 ((wrap64 (rd l0 (ji12))) * 131)) + (wrap64 ((wrap64 (rd l0 (Int.tmod (wrap64 ((wrap64 (a1 * 7)) + 3)) (l0.length : Int)))) * 1117)))) + (wrap64 (a1 * 29)))) + (wrap64 ((wrap64 (Int.tdiv a1 (l0.length : Int))) * 53)))) (wrap64 (Int.tdiv (wrap64 ((wrap64 ((wrap64 ((wrap64 ((wrap64 (rd l0 (ji12))) * 131)) + (wrap64 ((wrap64 (rd l0 (Int.tmod (wrap64 ((wrap64 (a1 * 7)) + 3)) (l0.length : Int)))) * 1117)))) + (wrap64 (a1 * 29)))) + (wrap64 ((wrap64 (Int.tdiv a1 (l0.length : Int))) * 53)))) 64))) a2, wrap64 (a1 + 1)))) else (none)) else (none)) else (none)) else (none)) = some (r1, r2) := by first | (rw [hji12] at H; exact H) | (simp only [hji12] at H ⊢; exact H)
       by_cases c13 : 0 ≤ (ji12)
       ·rw [if_pos c13] at H; have c13b0 : decide (0 ≤ (ji12)) = true := decide_eq_true c13; clear c13
        by_cases c14 : (ji12) < (l0.length : Int)
        ·rw [if_pos c14] at H; have c14b0 : decide ((ji12) < (l0.length : Int)) = true := decide_eq_true c14; clear c14; obtain ⟨ji15, hji15⟩ : ∃ j_ : Int, (Int.tmod (wrap64 ((wrap64 (a1 * 7)) + 3)) (l0.length : Int)) = j_ := ⟨_, rfl⟩
         replace H : (if 0 ≤ (ji15) then (if (ji15) < (l0.length : Int) then (if a2 = 0 then (none) else (some (Int.tmod (Go.bits .xor .i64 (wrap64 ((wrap64 ((wrap64 ((wrap64 ((wrap64 (rd l0 (ji12))) * 131)) + (wrap64 ((wrap64 (rd l0 (ji15))) * 1117)))) + (wrap64 (a1 * 29)))) + (wrap64 ((wrap64 (Int.tdiv a1 (l0.length : Int))) * 53)))) (wrap64 (Int.tdiv (wrap64 ((wrap64 ((wrap64 ((wrap64 ((wrap64 (rd l0 (ji12))) * 131)) + (wrap64 ((wrap64 (rd l0 (ji15))) * 1117)))) + (wrap64 (a1 * 29)))) + (wrap64 ((wrap64 (Int.tdiv a1 (l0.length : Int))) * 53)))) 64))) a2, wrap64 (a1 + 1)))) else (none)) else (none)) = some (r1, r2) := by first | (rw [hji15] at H; exact H) | (simp only [hji15] at H ⊢; exact H)
         by_cases c16 : 0 ≤ (ji15)
         ·rw [if_pos c16] at H; have c16b0 : decide (0 ≤ (ji15)) = true := decide_eq_true c16; clear c16
          by_cases c17 : (ji15) < (l0.length : Int)
          ·rw [if_pos c17] at H; have c17b0 : decide ((ji15) < (l0.length : Int)) = true := decide_eq_true c17; clear c17
           by_cases c18 : a2 = 0
           ·rw [if_pos c18] at H; exact absurd H (by simp)
           ·rw [if_neg c18] at H; have c18b0 : (a2 == 0) = false := beq_eq_false_iff_ne.mpr c18; have c18b1 : (a2 != 0) = true := bne_iff_ne.mpr c18; simp only [Option.some.injEq, Prod.mk.injEq] at H; obtain ⟨rfl, rfl⟩ := H; have p850002 : 0 ≤ ((ji12) : Int) := of_decide_eq_true zq_2; have q850002 : (ji12) < (l0.length : Int) := of_decide_eq_true zq_2; obtain ⟨ad850002, e850002, hx850002_0⟩ := Kd.at_int HR0.out (ji12) p850002 q850002
            cases e850002
            replace p850002 := eq_true p850002; replace q850002 := eq_true q850002; have p850003 : 0 ≤ ((ji15) : Int) := of_decide_eq_true zq_2; have q850003 : (ji15) < (l0.length : Int) := of_decide_eq_true zq_2; obtain ⟨ad850003, e850003, hx850003_0⟩ := Kd.at_int HR0.out (ji15) p850003 q850003; obtain rfl : ad850002 = ad850003 := (by injection e850003)
            replace p850003 := eq_true p850003; replace q850003 := eq_true q850003
            go_wp2
            go_ret2
            exact ⟨by first | rfl | (simp; done) | (simp only [← hji12, ← hji15] <;> (first | rfl | simp)) | (simp [*]; done), by repeat (first | exact Drawn0.refl _ | apply Drawn0.step)⟩
          ·rw [if_neg c17] at H; exact absurd H (by simp)
         ·rw [if_neg c16] at H; exact absurd H (by simp)
        ·rw [if_neg c14] at H; exact absurd H (by simp)
       ·rw [if_neg c13] at H; exact absurd H (by simp)
    ·rw [if_neg c7] at H; have c7b0 : decide (a1 < (l0.length : Int)) = false := decide_eq_false c7; clear c7
     by_cases c19 : (l0.length : Int) = 0
     ·rw [if_pos c19] at H; exact absurd H (by simp)
     ·rw [if_neg c19] at H; have c19b0 : ((l0.length : Int) == 0) = false := beq_eq_false_iff_ne.mpr c19; have c19b1 : ((l0.length : Int) != 0) = true := bne_iff_ne.mpr c19; have c19b2 : ¬ (l0 = []) := fun h_ => c19 (by rw [h_]; rfl)
      obtain ⟨ji20, hji20⟩ : ∃ j_ : Int, (Int.tmod a1 (l0.length : Int)) = j_ := ⟨_, rfl⟩
      replace H : (if 0 ≤ (ji20) then (if (ji20) < (l0.length : Int) then (if 0 ≤ (Int.tmod (wrap64 ((wrap64 (a1 * 7)) + 3)) (l0.length : Int)) then (if (Int.tmod (wrap64 ((wrap64 (a1 * 7)) + 3)) (l0.length : Int)) < (l0.length : Int) then (if a2 = 0 then (none) else (some (Int.tmod (Go.bits .xor .i64 (wrap64 ((wrap64 ((wrap64 ((wrap64 ((wrap64 (rd l0 (ji20))) * 131)) + (wrap64 ((wrap64 (rd l0 (Int.tmod (wrap64 ((wrap64 (a1 * 7)) + 3)) (l0.length : Int)))) * 1117)))) + (wrap64 (a1 * 29)))) + (wrap64 ((wrap64 (Int.tdiv a1 (l0.length : Int))) * 53)))) (wrap64 (Int.tdiv (wrap64 ((wrap64 ((wrap64 ((wrap64 ((wrap64 (rd l0 (ji20))) * 131)) + (wrap64 ((wrap64 (rd l0 (Int.tmod (wrap64 ((wrap64 (a1 * 7)) + 3)) (l0.length : Int)))) * 1117)))) + (wrap64 (a1 * 29)))) + (wrap64 ((wrap64 (Int.tdiv a1 (l0.length : Int))) * 53)))) 64))) a2, wrap64 (a1 + 1)))) else (none)) else (none)) else (none)) else (none)) = some (r1, r2) := by first | (rw [hji20] at H; exact H) | (simp only [hji20] at H ⊢; exact H)
      by_cases c21 : 0 ≤ (ji20)
      ·rw [if_pos c21] at H; have c21b0 : decide (0 ≤ (ji20)) = true := decide_eq_true c21; clear c21
       by_cases c22 : (ji20) < (l0.length : Int)
       ·rw [if_pos c22] at H; have c22b0 : decide ((ji20) < (l0.length : Int)) = true := decide_eq_true c22; clear c22; obtain ⟨ji23, hji23⟩ : ∃ j_ : Int, (Int.tmod (wrap64 ((wrap64 (a1 * 7)) + 3)) (l0.length : Int)) = j_ := ⟨_, rfl⟩
        replace H : (if 0 ≤ (ji23) then (if (ji23) < (l0.length : Int) then (if a2 = 0 then (none) else (some (Int.tmod (Go.bits .xor .i64 (wrap64 ((wrap64 ((wrap64 ((wrap64 ((wrap64 (rd l0 (ji20))) * 131)) + (wrap64 ((wrap64 (rd l0 (ji23))) * 1117)))) + (wrap64 (a1 * 29)))) + (wrap64 ((wrap64 (Int.tdiv a1 (l0.length : Int))) * 53)))) (wrap64 (Int.tdiv (wrap64 ((wrap64 ((wrap64 ((wrap64 ((wrap64 (rd l0 (ji20))) * 131)) + (wrap64 ((wrap64 (rd l0 (ji23))) * 1117)))) + (wrap64 (a1 * 29)))) + (wrap64 ((wrap64 (Int.tdiv a1 (l0.length : Int))) * 53)))) 64))) a2, wrap64 (a1 + 1)))) else (none)) else (none)) = some (r1, r2) := by first | (rw [hji23] at H; exact H) | (simp only [hji23] at H ⊢; exact H)
        by_cases c24 : 0 ≤ (ji23)
        ·rw [if_pos c24] at H; have c24b0 : decide (0 ≤ (ji23)) = true := decide_eq_true c24; clear c24
         by_cases c25 : (ji23) < (l0.length : Int)
         ·rw [if_pos c25] at H; have c25b0 : decide ((ji23) < (l0.length : Int)) = true := decide_eq_true c25; clear c25
          by_cases c26 : a2 = 0
          ·rw [if_pos c26] at H; exact absurd H (by simp)
          ·rw [if_neg c26] at H; have c26b0 : (a2 == 0) = false := beq_eq_false_iff_ne.mpr c26; have c26b1 : (a2 != 0) = true := bne_iff_ne.mpr c26; simp only [Option.some.injEq, Prod.mk.injEq] at H; obtain ⟨rfl, rfl⟩ := H; have p850004 : 0 ≤ ((ji20) : Int) := of_decide_eq_true zq_2; have q850004 : (ji20) < (l0.length : Int) := of_decide_eq_true zq_2; obtain ⟨ad850004, e850004, hx850004_0⟩ := Kd.at_int HR0.out (ji20) p850004 q850004
           cases e850004
           replace p850004 := eq_true p850004; replace q850004 := eq_true q850004; have p850005 : 0 ≤ ((ji23) : Int) := of_decide_eq_true zq_2; have q850005 : (ji23) < (l0.length : Int) := of_decide_eq_true zq_2; obtain ⟨ad850005, e850005, hx850005_0⟩ := Kd.at_int HR0.out (ji23) p850005 q850005; obtain rfl : ad850004 = ad850005 := (by injection e850005)
           replace p850005 := eq_true p850005; replace q850005 := eq_true q850005
           go_wp2
           go_ret2
           exact ⟨by first | rfl | (simp; done) | (simp only [← hji20, ← hji23] <;> (first | rfl | simp)) | (simp [*]; done), by repeat (first | exact Drawn0.refl _ | apply Drawn0.step)⟩
         ·rw [if_neg c25] at H; exact absurd H (by simp)
        ·rw [if_neg c24] at H; exact absurd H (by simp)
       ·rw [if_neg c22] at H; exact absurd H (by simp)
      ·rw [if_neg c21] at H; exact absurd H (by simp)
def spec_l2DrawWidth.f (k : Nat) (l0 : List Int) (a1 : Int) : Option (Int × Int) := (spec_l1Take.f k l0 a1 10).bind fun bt860001 => (if bt860001.1 < 3 then (some (1, bt860001.2)) else (if bt860001.1 < 5 then (some (2, bt860001.2)) else (if bt860001.1 < 7 then (some (32, bt860001.2)) else (some (bt860001.1, bt860001.2)))))
set_option maxHeartbeats 8000000 in
set_option maxRecDepth 100000 in
theorem spec_l2DrawWidth.calls (k : Nat) (A0 : Option Addr) (c0 : Nat) (l0 : List Int) (a1 : Int) (r1 : Int) (r2 : Int) (w : World) (hr0 : Kd.C (Kd.int .u8) w A0 l0.length l0) (hc0 : l0.length ≤ c0) (h : spec_l2DrawWidth.f k l0 a1 = some (r1, r2)) :
  Calls Tryd.prog 86 #[.slice A0 l0.length c0, .int .i64 a1] w fun e w' => e = .returned (.tuple #[.int .i64 r1, .int .i64 r2]) ∧ Drawn0 w w' := by
 have HR0 := Aside0.mk hr0; have HC0 := Aside0.mk hc0; clear hr0 hc0; have H : ((spec_l1Take.f k l0 a1 10).bind fun bt860001 => (if bt860001.1 < 3 then (some (1, bt860001.2)) else (if bt860001.1 < 5 then (some (2, bt860001.2)) else (if bt860001.1 < 7 then (some (32, bt860001.2)) else (some (bt860001.1, bt860001.2)))))) = some (r1, r2) := h; clear h; replace H := Option.bind_eq_some_iff.mp H; obtain ⟨⟨t860001, t860002⟩, A30, H⟩ := H; (try dsimp only at H); have A3 := Aside0.mk A30; clear A30
 by_cases c4 : t860001 < 3
 ·rw [if_pos c4] at H; have c4b0 : decide (t860001 < 3) = true := decide_eq_true c4; clear c4; simp only [Option.some.injEq, Prod.mk.injEq] at H; obtain ⟨rfl, rfl⟩ := H
  go_enter Tryd.func86, Tryd.ntmps86
  go_wp2_with (first | ((with_reducible refine gate_callee (f := 85) rfl ?_); refine goesL_ (some 10) rfl rfl Tryd.func85 (by kernel_rfl) rfl #[.slice A0 l0.length c0, .int .i64 a1, .int .i64 10] rfl zq_1 ?_; (with_reducible refine (spec_l1Take.calls k _ _ l0 a1 10 t860001 t860002 _ ?side1 ?side2 A3.out).mono ?_); (case side1 => exact zq_5); (case side2 => exact HC0.out); rintro e w' ⟨rfl, ⟨nd, rfl⟩⟩; refine ⟨_, rfl, ?_⟩))
  go_ret2
  exact ⟨by first | rfl | (simp; done) | (simp [*]; done), by repeat (first | exact Drawn0.refl _ | apply Drawn0.step)⟩
 ·rw [if_neg c4] at H; have c4b0 : decide (t860001 < 3) = false := decide_eq_false c4; clear c4
  by_cases c5 : t860001 < 5
  ·rw [if_pos c5] at H; have c5b0 : decide (t860001 < 5) = true := decide_eq_true c5; clear c5; simp only [Option.some.injEq, Prod.mk.injEq] at H; obtain ⟨rfl, rfl⟩ := H
   go_enter Tryd.func86, Tryd.ntmps86
   go_wp2_with (first | ((with_reducible refine gate_callee (f := 85) rfl ?_); refine goesL_ (some 10) rfl rfl Tryd.func85 (by kernel_rfl) rfl #[.slice A0 l0.length c0, .int .i64 a1, .int .i64 10] rfl zq_1 ?_; (with_reducible refine (spec_l1Take.calls k _ _ l0 a1 10 t860001 t860002 _ ?side1 ?side2 A3.out).mono ?_); (case side1 => exact zq_5); (case side2 => exact HC0.out); rintro e w' ⟨rfl, ⟨nd, rfl⟩⟩; refine ⟨_, rfl, ?_⟩))
   go_ret2
   exact ⟨by first | rfl | (simp; done) | (simp [*]; done), by repeat (first | exact Drawn0.refl _ | apply Drawn0.step)⟩
  ·rw [if_neg c5] at H; have c5b0 : decide (t860001 < 5) = false := decide_eq_false c5; clear c5
   by_cases c6 : t860001 < 7
   ·rw [if_pos c6] at H; have c6b0 : decide (t860001 < 7) = true := decide_eq_true c6; clear c6; simp only [Option.some.injEq, Prod.mk.injEq] at H; obtain ⟨rfl, rfl⟩ := H
    go_enter Tryd.func86, Tryd.ntmps86
    go_wp2_with (first | ((with_reducible refine gate_callee (f := 85) rfl ?_); refine goesL_ (some 10) rfl rfl Tryd.func85 (by kernel_rfl) rfl #[.slice A0 l0.length c0, .int .i64 a1, .int .i64 10] rfl zq_1 ?_; (with_reducible refine (spec_l1Take.calls k _ _ l0 a1 10 t860001 t860002 _ ?side1 ?side2 A3.out).mono ?_); (case side1 => exact zq_5); (case side2 => exact HC0.out); rintro e w' ⟨rfl, ⟨nd, rfl⟩⟩; refine ⟨_, rfl, ?_⟩))
    go_ret2
    exact ⟨by first | rfl | (simp; done) | (simp [*]; done), by repeat (first | exact Drawn0.refl _ | apply Drawn0.step)⟩
   ·rw [if_neg c6] at H; have c6b0 : decide (t860001 < 7) = false := decide_eq_false c6; clear c6; simp only [Option.some.injEq, Prod.mk.injEq] at H; obtain ⟨rfl, rfl⟩ := H
    go_enter Tryd.func86, Tryd.ntmps86
    go_wp2_with (first | ((with_reducible refine gate_callee (f := 85) rfl ?_); refine goesL_ (some 10) rfl rfl Tryd.func85 (by kernel_rfl) rfl #[.slice A0 l0.length c0, .int .i64 a1, .int .i64 10] rfl zq_1 ?_; (with_reducible refine (spec_l1Take.calls k _ _ l0 a1 10 t860001 t860002 _ ?side1 ?side2 A3.out).mono ?_); (case side1 => exact zq_5); (case side2 => exact HC0.out); rintro e w' ⟨rfl, ⟨nd, rfl⟩⟩; refine ⟨_, rfl, ?_⟩))
    go_ret2
    exact ⟨by first | rfl | (simp; done) | (simp [*]; done), by repeat (first | exact Drawn0.refl _ | apply Drawn0.step)⟩
end Go.Proofs.YtaepebkeijmjgaaDoor.Z
end
section
namespace Go.Proofs.YtaepebkeijmjgaaDoor.Z
open RowKit YtaepebkeijmjgaaDoor
set_option linter.all false
def rep (n : Nat) (c : UInt8) : ByteArray := ⟨(List.replicate n c).toArray⟩
theorem rep_size (n : Nat) (c : UInt8) : (rep n c).size = n := by simp [rep, ByteArray.size]
theorem rep_add (m n : Nat) (c : UInt8) : rep m c ++ rep n c = rep (m + n) c := by
 apply ByteArray.ext
 simp [rep, ByteArray.data_append]
set_option maxHeartbeats 400000 in
theorem l1Long_nat (c : UInt8) : ∀ (n : Nat), n ≤ 4294967296 → ∀ w, Calls Tryd.prog 134 #[.int .i64 n, .string (rep 1 c)] w fun e w' => e = .returned (.string (rep n c)) ∧ Below w.heap.size w w' := by
 intro n
 induction n using Nat.strongRecOn with | ind n ih =>
 intro hn w; have HI := Lib.hid ih; clear ih
 by_cases h0 : n = 0
 ·subst h0
  go_enter Tryd.func134, Tryd.ntmps134
  go_wp2
  go_loop [5] (fun s => s = .string ⟨#[]⟩) (fun _ => 0)
  case atStart => rfl
  case round =>
   subst hrel
   go_wp2
   go_ret
   exact ⟨rfl, by (repeat' (first | exact Below.refl _ _ | (with_reducible assumption) | (with_reducible refine Below.setCell ?_ zq_19 _) | refine below_then ?_ (by assumption) | (with_reducible refine below_new2 ?_ _) | (with_reducible refine Below.drew ?_) | (with_reducible refine bdrewN ?_ _)))⟩
 ·have hb0 : decide (0 < n) = true := by simp; omega
  have hb1 : decide ((0:Int) < (n : Int)) = true := by simp; omega
  have hp : 0 < n := by omega
  clear h0
  go_enter Tryd.func134, Tryd.ntmps134
  go_wp2
  go_loop [5] (fun s => ∃ m : Nat, 1 ≤ m ∧ m ≤ n ∧ s = .string (rep m c)) (fun s => match s with | .string b => n - b.size | _ => 0)
  case atStart => exact ⟨1, by omega, by omega, rfl⟩
  case round =>
   obtain ⟨m, h1, hm, rfl⟩ := hrel; have hsz := rep_size m c
   by_cases hc : m * 2 ≤ n
   ·go_wp2
    go_round
    case rel => exact ⟨m + m, by omega, by omega, by rw [rep_add]⟩
    case measure => simp [rep_size, ← rep_add]; omega
   ·by_cases hl : m < n
    ·have hj : m + (n - m) = n := by omega
     have HJ := Lib.hid hj; clear hj; have hq := rep_size (n - m) c; have hsum : (rep m c).size + (rep (n - m) c).size ≤ 9223372036854775807 := by rw [hsz, hq]; omega
     go_wp2_with fail
     rw [show ((n : Int) - (m : Int)) = ((n - m : Nat) : Int) by omega]; refine (HI.out (n - m) (by omega) (by omega) _).mono ?_; rintro e w1 ⟨rfl, hb⟩
     go_wp2
     go_ret
     exact ⟨by rw [rep_add, HJ.out]; rfl, by (repeat' (first | exact Below.refl _ _ | (with_reducible assumption) | (with_reducible refine Below.setCell ?_ zq_19 _) | refine below_then ?_ (by assumption) | (with_reducible refine below_new2 ?_ _) | (with_reducible refine Below.drew ?_) | (with_reducible refine bdrewN ?_ _)))⟩
    ·obtain rfl : m = n := by omega
     go_wp2
     go_ret
     exact ⟨rfl, by (repeat' (first | exact Below.refl _ _ | (with_reducible assumption) | (with_reducible refine Below.setCell ?_ zq_19 _) | refine below_then ?_ (by assumption) | (with_reducible refine below_new2 ?_ _) | (with_reducible refine Below.drew ?_) | (with_reducible refine bdrewN ?_ _)))⟩
def spec_l1Long.f (a0 : Int) (a1 : ByteArray) : Option ByteArray :=
 if 0 ≤ a0 ∧ a0 ≤ 4294967296 ∧ a1.size = 1 then some (rep a0.toNat (a1.data.getD 0 0)) else none
theorem one_byte (s : ByteArray) (h : s.size = 1) : s = rep 1 (s.data.getD 0 0) := by
 obtain ⟨⟨l⟩⟩ := s
 match l, h with
 | [c], _ => rfl
theorem spec_l1Long.calls (a0 : Int) (a1 r : ByteArray) (w : World) (h : spec_l1Long.f a0 a1 = some r) :
  Calls Tryd.prog 134 #[.int .i64 a0, .string a1] w fun e w' => e = .returned (.string r) ∧ Below w.heap.size w w' := by
 unfold spec_l1Long.f at h
 split at h
 ·rename_i hc
  obtain ⟨h0, h1, h2⟩ := hc; obtain ⟨n, rfl⟩ := Int.eq_ofNat_of_zero_le h0; obtain rfl := Option.some.inj h; rw [Int.toNat_natCast]; have := l1Long_nat (a1.data.getD 0 0) n (by omega) w; rw [← one_byte a1 h2] at this; exact this
 ·cases h
end Go.Proofs.YtaepebkeijmjgaaDoor.Z
end
section
namespace Go.Proofs.YtaepebkeijmjgaaDoor.Z
open RowKit YtaepebkeijmjgaaDoorW.PrintWords YtaepebkeijmjgaaDoorW.PrintLast YtaepebkeijmjgaaDoorW.PrintMore
attribute [local go_sem] max2_int min2_int max_two min_two max_three min_three max_four min_four
set_option linter.all false
def spec_l1Count.f (l0 : List Int) (a1 : Int) (a2 : Int) (a3 : Int) : Option (Int) := if a1 = 0 then (none) else (if (wrap64 (a2 + (wrap64 ((l0.length : Int) / a1)))) > a3 then (some a3) else (some (wrap64 (a2 + (wrap64 ((l0.length : Int) / a1))))))
set_option maxHeartbeats 8000000 in
set_option maxRecDepth 100000 in
theorem spec_l1Count.calls (A0 : Option Addr) (c0 : Nat) (l0 : List Int) (a1 : Int) (a2 : Int) (a3 : Int) (r : Int) (w : World) (hr0 : Kd.C (Kd.int .u8) w A0 l0.length l0) (hc0 : l0.length ≤ c0) (h : spec_l1Count.f l0 a1 a2 a3 = some r) :
  Calls Tryd.prog 133 #[.slice A0 l0.length c0, .int .i64 a1, .int .i64 a2, .int .i64 a3] w fun e w' => e = .returned (.int .i64 r) ∧ Drawn0 w w' := by
 have HR0 := Aside0.mk hr0; have HC0 := Aside0.mk hc0; clear hr0 hc0; have H : (if a1 = 0 then (none) else (if (wrap64 (a2 + (wrap64 ((l0.length : Int) / a1)))) > a3 then (some a3) else (some (wrap64 (a2 + (wrap64 ((l0.length : Int) / a1))))))) = some r := h; clear h
 by_cases c5 : a1 = 0
 ·rw [if_pos c5] at H; exact absurd H (by simp)
 ·rw [if_neg c5] at H; have c5b0 : (a1 == 0) = false := beq_eq_false_iff_ne.mpr c5; have c5b1 : (a1 != 0) = true := bne_iff_ne.mpr c5
  by_cases c6 : (wrap64 (a2 + (wrap64 ((l0.length : Int) / a1)))) > a3
  ·rw [if_pos c6] at H; have c6b0 : decide (a3 < (wrap64 (a2 + (wrap64 ((l0.length : Int) / a1))))) = true := decide_eq_true c6; clear c6; obtain rfl := Option.some.inj H
   go_enter Tryd.func133, Tryd.ntmps133
   go_wp2
   go_ret
   exact ⟨by first | rfl | (simp; done) | (simp [*]; done), by repeat (first | exact Drawn0.refl _ | apply Drawn0.step)⟩
  ·rw [if_neg c6] at H; have c6b0 : decide (a3 < (wrap64 (a2 + (wrap64 ((l0.length : Int) / a1))))) = false := decide_eq_false c6; clear c6; obtain rfl := Option.some.inj H
   go_enter Tryd.func133, Tryd.ntmps133
   go_wp2
   go_ret
   exact ⟨by first | rfl | (simp; done) | (simp [*]; done), by repeat (first | exact Drawn0.refl _ | apply Drawn0.step)⟩
def spec_l1DrawKey.f (k : Nat) (l0 : List Int) (a1 : Int) : Option (ByteArray × Int) := (spec_l1Take.f k l0 a1 24).bind fun bt1350001 => (if bt1350001.1 < 20 then (if 0 ≤ bt1350001.1 then (if bt1350001.1 ≤ (wrap64 (bt1350001.1 + 1)) then (if (wrap64 (bt1350001.1 + 1)) ≤ 20 then (some ((⟨#[97, 98, 99, 100, 101, 102, 103, 104, 105, 106, 107, 108, 109, 110, 111, 112, 113, 114, 115, 116]⟩ : ByteArray).extract (bt1350001.1 : Int).toNat ((wrap64 (bt1350001.1 + 1)) : Int).toNat, bt1350001.2)) else (none)) else (none)) else (none)) else (if bt1350001.1 = 20 then (some ((⟨#[97, 98]⟩ : ByteArray), bt1350001.2)) else (if bt1350001.1 = 21 then (some ((⟨#[98, 0]⟩ : ByteArray), bt1350001.2)) else (if bt1350001.1 = 22 then (some ((⟨#[255, 0, 107]⟩ : ByteArray), bt1350001.2)) else ((spec_l1Long.f 70 (⟨#[107]⟩ : ByteArray)).bind fun t1350003 => (some (t1350003, bt1350001.2)))))))
set_option maxHeartbeats 8000000 in
set_option maxRecDepth 100000 in
theorem spec_l1DrawKey.calls (k : Nat) (A0 : Option Addr) (c0 : Nat) (l0 : List Int) (a1 : Int) (r1 : ByteArray) (r2 : Int) (w : World) (hr0 : Kd.C (Kd.int .u8) w A0 l0.length l0) (hc0 : l0.length ≤ c0) (h : spec_l1DrawKey.f k l0 a1 = some (r1, r2)) :
  Calls Tryd.prog 135 #[.slice A0 l0.length c0, .int .i64 a1] w fun e w' => e = .returned (.tuple #[.string r1, .int .i64 r2]) ∧ Below w.heap.size w w' := by
 have HR0 := Aside0.mk hr0; have HC0 := Aside0.mk hc0; clear hr0 hc0; have HB := Aside0.mk (Below.refl w.heap.size w); have H : ((spec_l1Take.f k l0 a1 24).bind fun bt1350001 => (if bt1350001.1 < 20 then (if 0 ≤ bt1350001.1 then (if bt1350001.1 ≤ (wrap64 (bt1350001.1 + 1)) then (if (wrap64 (bt1350001.1 + 1)) ≤ 20 then (some ((⟨#[97, 98, 99, 100, 101, 102, 103, 104, 105, 106, 107, 108, 109, 110, 111, 112, 113, 114, 115, 116]⟩ : ByteArray).extract (bt1350001.1 : Int).toNat ((wrap64 (bt1350001.1 + 1)) : Int).toNat, bt1350001.2)) else (none)) else (none)) else (none)) else (if bt1350001.1 = 20 then (some ((⟨#[97, 98]⟩ : ByteArray), bt1350001.2)) else (if bt1350001.1 = 21 then (some ((⟨#[98, 0]⟩ : ByteArray), bt1350001.2)) else (if bt1350001.1 = 22 then (some ((⟨#[255, 0, 107]⟩ : ByteArray), bt1350001.2)) else ((spec_l1Long.f 70 (⟨#[107]⟩ : ByteArray)).bind fun t1350003 => (some (t1350003, bt1350001.2)))))))) = some (r1, r2) := h; clear h; replace H := Option.bind_eq_some_iff.mp H; obtain ⟨⟨t1350001, t1350002⟩, A30, H⟩ := H; (try dsimp only at H); have A3 := Aside0.mk A30; clear A30
 by_cases c4 : t1350001 < 20
 ·rw [if_pos c4] at H; have c4b0 : decide (t1350001 < 20) = true := decide_eq_true c4; clear c4
  by_cases c5 : 0 ≤ t1350001
  ·rw [if_pos c5] at H; have c5b0 := eq_true c5; have c5b1 : decide (0 ≤ t1350001) = true := decide_eq_true c5; clear c5
   by_cases c6 : t1350001 ≤ (wrap64 (t1350001 + 1))
   ·rw [if_pos c6] at H; have c6b0 := eq_true c6; have c6b1 : decide (t1350001 ≤ (wrap64 (t1350001 + 1))) = true := decide_eq_true c6
    by_cases c7 : (wrap64 (t1350001 + 1)) ≤ 20
    ·rw [if_pos c7] at H; have c7b0 := eq_true c7; have c7b1 : decide ((wrap64 (t1350001 + 1)) ≤ 20) = true := decide_eq_true c7; simp only [Option.some.injEq, Prod.mk.injEq] at H; obtain ⟨rfl, rfl⟩ := H
     go_enter Tryd.func135, Tryd.ntmps135
     go_wp2_with (first | ((with_reducible refine gate_callee (f := 85) rfl ?_); refine goesL_ (some 10) rfl rfl Tryd.func85 (by kernel_rfl) rfl #[.slice A0 l0.length c0, .int .i64 a1, .int .i64 24] rfl zq_1 ?_; (with_reducible refine (spec_l1Take.calls k _ _ l0 a1 24 t1350001 t1350002 _ ?side1 ?side2 A3.out).mono ?_); (case side1 => exact zq_5); (case side2 => exact HC0.out); rintro e w' ⟨rfl, ⟨nd, rfl⟩⟩; refine ⟨_, rfl, ?_⟩))
     go_ret2
     exact ⟨by first | rfl | (simp [errW_none, errW_some] <;> rfl) | (simp [*, errW_none, errW_some] <;> rfl), by repeat (first | (with_reducible first | exact HB.out | apply below_alloc | apply pw_below_drewN | apply below_drew1) | exact HB.out)⟩
    ·rw [if_neg c7] at H; exact absurd H (by simp)
   ·rw [if_neg c6] at H; exact absurd H (by simp)
  ·rw [if_neg c5] at H; exact absurd H (by simp)
 ·rw [if_neg c4] at H; have c4b0 : decide (t1350001 < 20) = false := decide_eq_false c4; clear c4
  by_cases c8 : t1350001 = 20
  ·rw [if_pos c8] at H; have c8b0 : (t1350001 == 20) = true := beq_iff_eq.mpr c8; have c8b1 : (t1350001 != 20) = false := bne_eq_false_iff_eq.mpr c8; clear c8; simp only [Option.some.injEq, Prod.mk.injEq] at H; obtain ⟨rfl, rfl⟩ := H
   go_enter Tryd.func135, Tryd.ntmps135
   go_wp2_with (first | ((with_reducible refine gate_callee (f := 85) rfl ?_); refine goesL_ (some 10) rfl rfl Tryd.func85 (by kernel_rfl) rfl #[.slice A0 l0.length c0, .int .i64 a1, .int .i64 24] rfl zq_1 ?_; (with_reducible refine (spec_l1Take.calls k _ _ l0 a1 24 t1350001 t1350002 _ ?side1 ?side2 A3.out).mono ?_); (case side1 => exact zq_5); (case side2 => exact HC0.out); rintro e w' ⟨rfl, ⟨nd, rfl⟩⟩; refine ⟨_, rfl, ?_⟩))
   go_ret2
   exact ⟨by first | rfl | (simp [errW_none, errW_some] <;> rfl) | (simp [*, errW_none, errW_some] <;> rfl), by repeat (first | (with_reducible first | exact HB.out | apply below_alloc | apply pw_below_drewN | apply below_drew1) | exact HB.out)⟩
  ·rw [if_neg c8] at H; have c8b0 : (t1350001 == 20) = false := beq_eq_false_iff_ne.mpr c8; have c8b1 : (t1350001 != 20) = true := bne_iff_ne.mpr c8
   by_cases c9 : t1350001 = 21
   ·rw [if_pos c9] at H; have c9b0 : (t1350001 == 21) = true := beq_iff_eq.mpr c9; have c9b1 : (t1350001 != 21) = false := bne_eq_false_iff_eq.mpr c9; clear c9; simp only [Option.some.injEq, Prod.mk.injEq] at H; obtain ⟨rfl, rfl⟩ := H
    go_enter Tryd.func135, Tryd.ntmps135
    go_wp2_with (first | ((with_reducible refine gate_callee (f := 85) rfl ?_); refine goesL_ (some 10) rfl rfl Tryd.func85 (by kernel_rfl) rfl #[.slice A0 l0.length c0, .int .i64 a1, .int .i64 24] rfl zq_1 ?_; (with_reducible refine (spec_l1Take.calls k _ _ l0 a1 24 t1350001 t1350002 _ ?side1 ?side2 A3.out).mono ?_); (case side1 => exact zq_5); (case side2 => exact HC0.out); rintro e w' ⟨rfl, ⟨nd, rfl⟩⟩; refine ⟨_, rfl, ?_⟩))
    go_ret2
    exact ⟨by first | rfl | (simp [errW_none, errW_some] <;> rfl) | (simp [*, errW_none, errW_some] <;> rfl), by repeat (first | (with_reducible first | exact HB.out | apply below_alloc | apply pw_below_drewN | apply below_drew1) | exact HB.out)⟩
   ·rw [if_neg c9] at H; have c9b0 : (t1350001 == 21) = false := beq_eq_false_iff_ne.mpr c9; have c9b1 : (t1350001 != 21) = true := bne_iff_ne.mpr c9
    by_cases c10 : t1350001 = 22
    ·rw [if_pos c10] at H; have c10b0 : (t1350001 == 22) = true := beq_iff_eq.mpr c10; have c10b1 : (t1350001 != 22) = false := bne_eq_false_iff_eq.mpr c10; clear c10; simp only [Option.some.injEq, Prod.mk.injEq] at H; obtain ⟨rfl, rfl⟩ := H
     go_enter Tryd.func135, Tryd.ntmps135
     go_wp2_with (first | ((with_reducible refine gate_callee (f := 85) rfl ?_); refine goesL_ (some 10) rfl rfl Tryd.func85 (by kernel_rfl) rfl #[.slice A0 l0.length c0, .int .i64 a1, .int .i64 24] rfl zq_1 ?_; (with_reducible refine (spec_l1Take.calls k _ _ l0 a1 24 t1350001 t1350002 _ ?side1 ?side2 A3.out).mono ?_); (case side1 => exact zq_5); (case side2 => exact HC0.out); rintro e w' ⟨rfl, ⟨nd, rfl⟩⟩; refine ⟨_, rfl, ?_⟩))
     go_ret2
     exact ⟨by first | rfl | (simp [errW_none, errW_some] <;> rfl) | (simp [*, errW_none, errW_some] <;> rfl), by repeat (first | (with_reducible first | exact HB.out | apply below_alloc | apply pw_below_drewN | apply below_drew1) | exact HB.out)⟩
    ·rw [if_neg c10] at H; have c10b0 : (t1350001 == 22) = false := beq_eq_false_iff_ne.mpr c10; have c10b1 : (t1350001 != 22) = true := bne_iff_ne.mpr c10; replace H := Option.bind_eq_some_iff.mp H; obtain ⟨t1350003, A110, H⟩ := H; (try dsimp only at H); have A11 := Aside0.mk A110; clear A110; simp only [Option.some.injEq, Prod.mk.injEq] at H; obtain ⟨rfl, rfl⟩ := H
     go_enter Tryd.func135, Tryd.ntmps135
     go_wp2_with (first | ((with_reducible refine gate_callee (f := 85) rfl ?_); refine goesL_ (some 10) rfl rfl Tryd.func85 (by kernel_rfl) rfl #[.slice A0 l0.length c0, .int .i64 a1, .int .i64 24] rfl zq_1 ?_; (with_reducible refine (spec_l1Take.calls k _ _ l0 a1 24 t1350001 t1350002 _ ?side1 ?side2 A3.out).mono ?_); (case side1 => exact zq_5); (case side2 => exact HC0.out); rintro e w' ⟨rfl, ⟨nd, rfl⟩⟩; refine ⟨_, rfl, ?_⟩) | ((with_reducible refine gate_callee (f := 134) rfl ?_); refine goesL_ (some 29) rfl rfl Tryd.func134 (by kernel_rfl) rfl #[.int .i64 70, .string (⟨#[107]⟩ : ByteArray)] rfl zq_1 ?_; (with_reducible refine (spec_l1Long.calls 70 (⟨#[107]⟩ : ByteArray) t1350003 _ A11.out).mono ?_); rintro e w12 ⟨rfl, hb⟩; refine ⟨_, rfl, ?_⟩; have n0_ := Aside0.mk (below_step zq_0 hb); clear HB; have HB := n0_; clear n0_; (try clear hb); (try clear hb2); (try clear hk); (try clear hi)))
     go_ret2
     exact ⟨by first | rfl | (simp [errW_none, errW_some] <;> rfl) | (simp [*, errW_none, errW_some] <;> rfl), by repeat (first | (with_reducible first | exact HB.out | apply below_alloc | apply pw_below_drewN | apply below_drew1) | exact HB.out)⟩
def spec_l2Byte.f (a0 : Int) : Option (ByteArray) := some (strOfNums (([(a0) % 256] : List Int)))
set_option maxHeartbeats 8000000 in
set_option maxRecDepth 100000 in
theorem spec_l2Byte.calls (a0 : Int) (r : ByteArray) (w : World) (h : spec_l2Byte.f a0 = some r) :
  Calls Tryd.prog 121 #[.int .i64 a0] w fun e w' => e = .returned (.string r) ∧ Below w.heap.size w w' := by
 have HB := Aside0.mk (Below.refl w.heap.size w); have H : (some (strOfNums (([(a0) % 256] : List Int)))) = some r := h; clear h; obtain ⟨y1210001, hy1210001⟩ : ∃ y_ : List Int, y_ = (([(a0) % 256] : List Int)) := ⟨_, rfl⟩
 replace H : (some (strOfNums y1210001)) = some r := by first | (rw [hy1210001]; with_reducible exact H) | (have H2_ := (Option.bind_some _ _).symm.trans H; rw [hy1210001]; with_reducible exact H2_) | (have H2_ := (Option.bind_some _ _).symm.trans H; with_reducible exact H2_) | with_reducible exact H | (rw [hy1210001]; exact H) | exact H
 have Ny1210001 := Aside0.mk hy1210001; clear hy1210001; obtain rfl := Option.some.inj H
 go_enter Tryd.func121, Tryd.ntmps121
 go_wp2_with (first | ((with_reducible refine gate_dst (N := 5) rfl ?_); refine Kd.R_lit (Kd.int .u8) _ 5 ?hg (N := 5) ?hd (xs := ([(a0) % 256] : List Int)) (inner := [.int .u8 ((a0) % 256)]) (ok := fun _ => True) (okp := fun _ => True) ?hr ?hp (fun _ hk => hk) trivial (Below.refl _ _) (Nat.le_refl _) (by simp) ?_; (case hd => rfl); (case hg => rfl); (case hr => exact zq_14); (case hp => exact (Reps.one (show Kd.M (Kd.int .u8) _ _ _ ((a0) % 256) [.int .u8 ((a0) % 256)] from rfl) (Reps.none _ _))); intro v1210002 w2 ho3 hb hg_ hnew_; clear hg_ hnew_; (first | rw [← Ny1210001.out] at ho3 | (simp only [Int.reduceToNat] at ho3; rw [← Ny1210001.out] at ho3)); have n0_ := Aside0.mk (Kd.R_lower ho3 (below_size zq_0)); have n1_ := Aside0.mk (below_step zq_0 hb); clear HB; have HO1210003 := n0_; have HB := n1_; clear n0_ n1_; clear hb ho3; have hcv4 := own_string (P := Tryd.prog) Tryd.underlying51 Tryd.underlying5 Tryd.underlying9 (Kd.own_of_R HO1210003.out)))
 go_ret
 exact ⟨by first | rfl | (simp [errW_none, errW_some] <;> rfl) | (simp [*, errW_none, errW_some] <;> rfl), by repeat (first | (with_reducible first | exact HB.out | apply below_alloc | apply pw_below_drewN | apply below_drew1) | exact HB.out)⟩
def spec_l2Four.f (a0 : Int) : Option (ByteArray) := (spec_l2Byte.f (Int.tmod a0 256)).bind fun t1650001 => ((spec_l2Byte.f (Int.tmod (wrap64 (Int.tdiv a0 256)) 256)).bind fun t1650002 => (if t1650001.size + t1650002.size ≤ 9223372036854775807 then ((spec_l2Byte.f (Int.tmod (wrap64 (Int.tdiv a0 65536)) 256)).bind fun t1650003 => (if (t1650001 ++ t1650002).size + t1650003.size ≤ 9223372036854775807 then ((spec_l2Byte.f (Int.tmod (wrap64 (Int.tdiv a0 16777216)) 256)).bind fun t1650004 => (if ((t1650001 ++ t1650002) ++ t1650003).size + t1650004.size ≤ 9223372036854775807 then (some (((t1650001 ++ t1650002) ++ t1650003) ++ t1650004)) else (none))) else (none))) else (none)))
set_option maxHeartbeats 8000000 in
set_option maxRecDepth 100000 in
theorem spec_l2Four.calls (a0 : Int) (r : ByteArray) (w : World) (h : spec_l2Four.f a0 = some r) :
  Calls Tryd.prog 165 #[.int .i64 a0] w fun e w' => e = .returned (.string r) ∧ Below w.heap.size w w' := by
 have HB := Aside0.mk (Below.refl w.heap.size w); have H : ((spec_l2Byte.f (Int.tmod a0 256)).bind fun t1650001 => ((spec_l2Byte.f (Int.tmod (wrap64 (Int.tdiv a0 256)) 256)).bind fun t1650002 => (if t1650001.size + t1650002.size ≤ 9223372036854775807 then ((spec_l2Byte.f (Int.tmod (wrap64 (Int.tdiv a0 65536)) 256)).bind fun t1650003 => (if (t1650001 ++ t1650002).size + t1650003.size ≤ 9223372036854775807 then ((spec_l2Byte.f (Int.tmod (wrap64 (Int.tdiv a0 16777216)) 256)).bind fun t1650004 => (if ((t1650001 ++ t1650002) ++ t1650003).size + t1650004.size ≤ 9223372036854775807 then (some (((t1650001 ++ t1650002) ++ t1650003) ++ t1650004)) else (none))) else (none))) else (none)))) = some r := h; clear h; replace H := Option.bind_eq_some_iff.mp H; obtain ⟨t1650001, A20, H⟩ := H; (try dsimp only at H); have A2 := Aside0.mk A20; clear A20; replace H := Option.bind_eq_some_iff.mp H; obtain ⟨t1650002, A30, H⟩ := H; (try dsimp only at H); have A3 := Aside0.mk A30; clear A30
 by_cases c4 : t1650001.size + t1650002.size ≤ 9223372036854775807
 ·rw [if_pos c4] at H; have c4b0 := eq_true c4; have c4b1 : decide (t1650001.size + t1650002.size ≤ 9223372036854775807) = true := decide_eq_true c4
  try have c4b2 : (9223372036854775807 < t1650001.size + t1650002.size) = False := eq_false (Nat.not_lt.2 c4)
  replace H := Option.bind_eq_some_iff.mp H; obtain ⟨t1650003, A50, H⟩ := H; (try dsimp only at H); have A5 := Aside0.mk A50; clear A50
  by_cases c6 : (t1650001 ++ t1650002).size + t1650003.size ≤ 9223372036854775807
  ·rw [if_pos c6] at H; have c6b0 := eq_true c6; have c6b1 : decide ((t1650001 ++ t1650002).size + t1650003.size ≤ 9223372036854775807) = true := decide_eq_true c6
   try have c6b2 : (9223372036854775807 < (t1650001 ++ t1650002).size + t1650003.size) = False := eq_false (Nat.not_lt.2 c6)
   try have c6b4 : (9223372036854775807 < t1650001.size + t1650002.size + t1650003.size) = False := eq_false (by have hh := c6; simp only [ByteArray.size_append, ByteArray.size_extract] at hh; omega)
   try (have c6b3 := c6b2; simp only [ByteArray.size_append, ByteArray.size_extract, Nat.min_self] at c6b3)
   replace H := Option.bind_eq_some_iff.mp H; obtain ⟨t1650004, A70, H⟩ := H; (try dsimp only at H); have A7 := Aside0.mk A70; clear A70
   by_cases c8 : ((t1650001 ++ t1650002) ++ t1650003).size + t1650004.size ≤ 9223372036854775807
   ·rw [if_pos c8] at H; have c8b0 := eq_true c8; have c8b1 : decide (((t1650001 ++ t1650002) ++ t1650003).size + t1650004.size ≤ 9223372036854775807) = true := decide_eq_true c8
    try have c8b2 : (9223372036854775807 < ((t1650001 ++ t1650002) ++ t1650003).size + t1650004.size) = False := eq_false (Nat.not_lt.2 c8)
    try have c8b4 : (9223372036854775807 < (t1650001.size + t1650002.size) + t1650003.size + t1650004.size) = False := eq_false (by have hh := c8; simp only [ByteArray.size_append, ByteArray.size_extract] at hh; omega)
    try (have c8b3 := c8b2; simp only [ByteArray.size_append, ByteArray.size_extract, Nat.min_self] at c8b3)
    obtain rfl := Option.some.inj H
    go_enter Tryd.func165, Tryd.ntmps165
    go_wp2_with (first | ((with_reducible refine gate_callee (f := 121) rfl ?_); refine goesL_ (some 5) rfl rfl Tryd.func121 (by kernel_rfl) rfl #[.int .i64 (Int.tmod a0 256)] rfl zq_1 ?_; (with_reducible refine (spec_l2Byte.calls (Int.tmod a0 256) t1650001 _ A2.out).mono ?_); rintro e w9 ⟨rfl, hb⟩; refine ⟨_, rfl, ?_⟩; have n0_ := Aside0.mk (below_step zq_0 hb); clear HB; have HB := n0_; clear n0_; (try clear hb); (try clear hb2); (try clear hk); (try clear hi)) | ((with_reducible refine gate_callee (f := 121) rfl ?_); refine goesL_ (some 9) rfl rfl Tryd.func121 (by kernel_rfl) rfl #[.int .i64 (Int.tmod (wrap64 (Int.tdiv a0 256)) 256)] rfl zq_1 ?_; (with_reducible refine (spec_l2Byte.calls (Int.tmod (wrap64 (Int.tdiv a0 256)) 256) t1650002 _ A3.out).mono ?_); rintro e w10 ⟨rfl, hb⟩; refine ⟨_, rfl, ?_⟩; have n0_ := Aside0.mk (below_step zq_0 hb); clear HB; have HB := n0_; clear n0_; (try clear hb); (try clear hb2); (try clear hk); (try clear hi)) | ((with_reducible refine gate_callee (f := 121) rfl ?_); refine goesL_ (some 14) rfl rfl Tryd.func121 (by kernel_rfl) rfl #[.int .i64 (Int.tmod (wrap64 (Int.tdiv a0 65536)) 256)] rfl zq_1 ?_; (with_reducible refine (spec_l2Byte.calls (Int.tmod (wrap64 (Int.tdiv a0 65536)) 256) t1650003 _ A5.out).mono ?_); rintro e w11 ⟨rfl, hb⟩; refine ⟨_, rfl, ?_⟩; have n0_ := Aside0.mk (below_step zq_0 hb); clear HB; have HB := n0_; clear n0_; (try clear hb); (try clear hb2); (try clear hk); (try clear hi)) | ((with_reducible refine gate_callee (f := 121) rfl ?_); refine goesL_ (some 19) rfl rfl Tryd.func121 (by kernel_rfl) rfl #[.int .i64 (Int.tmod (wrap64 (Int.tdiv a0 16777216)) 256)] rfl zq_1 ?_; (with_reducible refine (spec_l2Byte.calls (Int.tmod (wrap64 (Int.tdiv a0 16777216)) 256) t1650004 _ A7.out).mono ?_); rintro e w12 ⟨rfl, hb⟩; refine ⟨_, rfl, ?_⟩; have n0_ := Aside0.mk (below_step zq_0 hb); clear HB; have HB := n0_; clear n0_; (try clear hb); (try clear hb2); (try clear hk); (try clear hi)))
    go_ret
    exact ⟨by first | rfl | (simp [errW_none, errW_some] <;> rfl) | (simp [*, errW_none, errW_some] <;> rfl), by repeat (first | (with_reducible first | exact HB.out | apply below_alloc | apply pw_below_drewN | apply below_drew1) | exact HB.out)⟩
   ·rw [if_neg c8] at H; exact absurd H (by simp)
  ·rw [if_neg c6] at H; exact absurd H (by simp)
 ·rw [if_neg c4] at H; exact absurd H (by simp)
def spec_l2Marked.l0 : Nat → ByteArray → ByteArray → ByteArray → ByteArray → Int → Option (ByteArray)
 | 0, _, _, _, _, _ => none
 | k + 1, x0, x1, x2, x7, x8 => if x8 < (x0.size : Int) then (if (wrap64 (x8 + 63)) ≤ (x0.size : Int) then (if 0 ≤ x8 then (if x8 ≤ (wrap64 (x8 + 63)) then (if x8 = 0 then (if x7.size + (x0.extract (x8 : Int).toNat ((wrap64 (x8 + 63)) : Int).toNat).size ≤ 9223372036854775807 then (if (x7 ++ (x0.extract (x8 : Int).toNat ((wrap64 (x8 + 63)) : Int).toNat)).size + x1.size ≤ 9223372036854775807 then (spec_l2Marked.l0 k x0 x1 x2 ((x7 ++ (x0.extract (x8 : Int).toNat ((wrap64 (x8 + 63)) : Int).toNat)) ++ x1) (wrap64 (x8 + 63))) else (none)) else (none)) else (if x7.size + (x0.extract (x8 : Int).toNat ((wrap64 (x8 + 63)) : Int).toNat).size ≤ 9223372036854775807 then (if (x7 ++ (x0.extract (x8 : Int).toNat ((wrap64 (x8 + 63)) : Int).toNat)).size + x2.size ≤ 9223372036854775807 then (spec_l2Marked.l0 k x0 x1 x2 ((x7 ++ (x0.extract (x8 : Int).toNat ((wrap64 (x8 + 63)) : Int).toNat)) ++ x2) (wrap64 (x8 + 63))) else (none)) else (none))) else (none)) else (none)) else (if 0 ≤ x8 then (if x8 ≤ (x0.size : Int) then ((spec_l1Long.f (wrap64 ((wrap64 (x8 + 63)) - (x0.size : Int))) (⟨#[0]⟩ : ByteArray)).bind fun t1640001 => (if (x0.extract (x8 : Int).toNat x0.size).size + t1640001.size ≤ 9223372036854775807 then (if x8 = 0 then (if x7.size + ((x0.extract (x8 : Int).toNat x0.size) ++ t1640001).size ≤ 9223372036854775807 then (if (x7 ++ ((x0.extract (x8 : Int).toNat x0.size) ++ t1640001)).size + x1.size ≤ 9223372036854775807 then (spec_l2Marked.l0 k x0 x1 x2 ((x7 ++ ((x0.extract (x8 : Int).toNat x0.size) ++ t1640001)) ++ x1) (wrap64 (x8 + 63))) else (none)) else (none)) else (if x7.size + ((x0.extract (x8 : Int).toNat x0.size) ++ t1640001).size ≤ 9223372036854775807 then (if (x7 ++ ((x0.extract (x8 : Int).toNat x0.size) ++ t1640001)).size + x2.size ≤ 9223372036854775807 then (spec_l2Marked.l0 k x0 x1 x2 ((x7 ++ ((x0.extract (x8 : Int).toNat x0.size) ++ t1640001)) ++ x2) (wrap64 (x8 + 63))) else (none)) else (none))) else (none))) else (none)) else (none))) else (some x7)
def spec_l2Marked.f (k : Nat) (a0 : ByteArray) (a1 : ByteArray) (a2 : ByteArray) : Option (ByteArray) := spec_l2Marked.l0 k a0 a1 a2 (⟨#[]⟩ : ByteArray) 0
def spec_l2Marked.T9 : Bool × List (List Nat × List Nat) := (true, [([], []), ([], []), ([0, 1], [0, 1]), ([], []), ([], []), ([4], [4]), ([3, 5], [3, 5]), ([6], [6]), ([2, 7], [2, 7]), ([8, 7, 0, 1, 2, 3, 4, 5, 6, 7, 8], [8])])
def spec_l2Marked.B9 : List Nat := [0, 0, 3, 0, 0, 16, 56, 120, 255, 511]
theorem spec_l2Marked.tab9 : rtab .any (opsOf Tryd.f164 9) = spec_l2Marked.T9 := by kernel_rfl
theorem spec_l2Marked.bits9 : waitsOk spec_l2Marked.T9.2 spec_l2Marked.B9 = true := by kernel_rfl
set_option maxHeartbeats 8000000 in
set_option maxRecDepth 100000 in
theorem spec_l2Marked.calls (k : Nat) (a0 : ByteArray) (a1 : ByteArray) (a2 : ByteArray) (r : ByteArray) (w : World) (h : spec_l2Marked.f k a0 a1 a2 = some r) :
  Calls Tryd.prog 164 #[.string a0, .string a1, .string a2] w fun e w' => e = .returned (.string r) ∧ Below w.heap.size w w' := by
 have HB := Aside0.mk (Below.refl w.heap.size w); have H : (spec_l2Marked.l0 k a0 a1 a2 (⟨#[]⟩ : ByteArray) 0) = some r := h; clear h; have H' := Aside0.mk H; clear H
 go_enter Tryd.func164, Tryd.ntmps164
 go_wp2
 go_loopg [7, 8] k (fun kq v7 v8 w' => ∃ (x7_1 : ByteArray) (x8_1 : Int), v7 = .string x7_1 ∧ v8 = .int .i64 x8_1 ∧ Aside0 (spec_l2Marked.l0 kq a0 a1 a2 x7_1 x8_1 = some r) ∧ Aside0 (kq ≤ k) ∧ Aside0 (Below w.heap.size w w'))
 case atStart => exact ⟨((⟨#[]⟩ : ByteArray)), (0), zq_4, zq_4, H', ⟨Nat.le_refl _⟩, ⟨by repeat (first | (with_reducible first | exact HB.out | apply below_alloc | apply pw_below_drewN | apply below_drew1) | exact HB.out)⟩⟩
 case round =>
  clear H'
  try clear c1
  try clear p2
  obtain ⟨x7_1, x8_1, rfl, rfl, HA, HK1, HB⟩ := hrel
  cases gk with
  | zero => exact absurd HA.out (by simp [spec_l2Marked.l0])
  | succ k1 =>
   have H := HA.out; clear HA; simp only [spec_l2Marked.l0] at H
   by_cases c4 : x8_1 < (a0.size : Int)
   ·rw [if_pos c4] at H; have c4b0 : decide (x8_1 < (a0.size : Int)) = true := decide_eq_true c4; clear c4
    by_cases c5 : (wrap64 (x8_1 + 63)) ≤ (a0.size : Int)
    ·rw [if_pos c5] at H; have c5b0 : decide ((wrap64 (x8_1 + 63)) ≤ (a0.size : Int)) = true := decide_eq_true c5; clear c5
     by_cases c6 : 0 ≤ x8_1
     ·rw [if_pos c6] at H; have c6b0 := eq_true c6; have c6b1 : decide (0 ≤ x8_1) = true := decide_eq_true c6; clear c6
      by_cases c7 : x8_1 ≤ (wrap64 (x8_1 + 63))
      ·rw [if_pos c7] at H; have c7b0 := eq_true c7; have c7b1 : decide (x8_1 ≤ (wrap64 (x8_1 + 63))) = true := decide_eq_true c7; have c8b0 := eq_true (of_decide_eq_true zq_2 : (wrap64 (x8_1 + 63)) ≤ (a0.size : Int))
       by_cases c9 : x8_1 = 0
       ·rw [if_pos c9] at H; have c9b0 : (x8_1 == 0) = true := beq_iff_eq.mpr c9; have c9b1 : (x8_1 != 0) = false := bne_eq_false_iff_eq.mpr c9; clear c9
        by_cases c10 : x7_1.size + (a0.extract (x8_1 : Int).toNat ((wrap64 (x8_1 + 63)) : Int).toNat).size ≤ 9223372036854775807
        ·rw [if_pos c10] at H; have c10b0 := eq_true c10; have c10b1 : decide (x7_1.size + (a0.extract (x8_1 : Int).toNat ((wrap64 (x8_1 + 63)) : Int).toNat).size ≤ 9223372036854775807) = true := decide_eq_true c10
         try have c10b2 : (9223372036854775807 < x7_1.size + (a0.extract (x8_1 : Int).toNat ((wrap64 (x8_1 + 63)) : Int).toNat).size) = False := eq_false (Nat.not_lt.2 c10)
         try have c10b4 : (9223372036854775807 < x7_1.size + (((wrap64 (x8_1 + 63)) : Int).toNat - x8_1.toNat)) = False := eq_false (by have hh := c10; simp only [ByteArray.size_append, ByteArray.size_extract] at hh; (try have k_c6 := of_eq_true c6b0); (try have k_c7 := of_eq_true c7b0); omega)
         try (have c10b3 := c10b2; simp only [ByteArray.size_append, ByteArray.size_extract, Nat.min_self] at c10b3)
         by_cases c11 : (x7_1 ++ (a0.extract (x8_1 : Int).toNat ((wrap64 (x8_1 + 63)) : Int).toNat)).size + a1.size ≤ 9223372036854775807
         ·rw [if_pos c11] at H; have c11b0 := eq_true c11; have c11b1 : decide ((x7_1 ++ (a0.extract (x8_1 : Int).toNat ((wrap64 (x8_1 + 63)) : Int).toNat)).size + a1.size ≤ 9223372036854775807) = true := decide_eq_true c11
          try have c11b2 : (9223372036854775807 < (x7_1 ++ (a0.extract (x8_1 : Int).toNat ((wrap64 (x8_1 + 63)) : Int).toNat)).size + a1.size) = False := eq_false (Nat.not_lt.2 c11)
          try have c11b4 : (9223372036854775807 < x7_1.size + (((wrap64 (x8_1 + 63)) : Int).toNat - x8_1.toNat) + a1.size) = False := eq_false (by have hh := c11; simp only [ByteArray.size_append, ByteArray.size_extract] at hh; (try have k_c6 := of_eq_true c6b0); (try have k_c7 := of_eq_true c7b0); (try have k_c10 := of_eq_true c10b0); omega)
          try (have c11b3 := c11b2; simp only [ByteArray.size_append, ByteArray.size_extract, Nat.min_self] at c11b3)
          have H' := Aside0.mk H; clear H
          go_wp2
          go_roundg k1
          case measure => have := HK1.out; omega
          case rel => exact ⟨((x7_1 ++ (a0.extract (x8_1 : Int).toNat ((wrap64 (x8_1 + 63)) : Int).toNat)) ++ a1), (wrap64 (x8_1 + 63)), zq_4, zq_4, H', ⟨by have := HK1.out; omega⟩, ⟨by repeat (first | (with_reducible first | exact HB.out | apply below_alloc | apply pw_below_drewN | apply below_drew1) | exact HB.out)⟩⟩
         ·rw [if_neg c11] at H; exact absurd H (by simp)
        ·rw [if_neg c10] at H; exact absurd H (by simp)
       ·rw [if_neg c9] at H; have c9b0 : (x8_1 == 0) = false := beq_eq_false_iff_ne.mpr c9; have c9b1 : (x8_1 != 0) = true := bne_iff_ne.mpr c9
        by_cases c12 : x7_1.size + (a0.extract (x8_1 : Int).toNat ((wrap64 (x8_1 + 63)) : Int).toNat).size ≤ 9223372036854775807
        ·rw [if_pos c12] at H; have c12b0 := eq_true c12; have c12b1 : decide (x7_1.size + (a0.extract (x8_1 : Int).toNat ((wrap64 (x8_1 + 63)) : Int).toNat).size ≤ 9223372036854775807) = true := decide_eq_true c12
         try have c12b2 : (9223372036854775807 < x7_1.size + (a0.extract (x8_1 : Int).toNat ((wrap64 (x8_1 + 63)) : Int).toNat).size) = False := eq_false (Nat.not_lt.2 c12)
         try have c12b4 : (9223372036854775807 < x7_1.size + (((wrap64 (x8_1 + 63)) : Int).toNat - x8_1.toNat)) = False := eq_false (by have hh := c12; simp only [ByteArray.size_append, ByteArray.size_extract] at hh; (try have k_c6 := of_eq_true c6b0); (try have k_c7 := of_eq_true c7b0); (try have k_c10 := of_eq_true c10b0); (try have k_c11 := of_eq_true c11b0); omega)
         try (have c12b3 := c12b2; simp only [ByteArray.size_append, ByteArray.size_extract, Nat.min_self] at c12b3)
         by_cases c13 : (x7_1 ++ (a0.extract (x8_1 : Int).toNat ((wrap64 (x8_1 + 63)) : Int).toNat)).size + a2.size ≤ 9223372036854775807
         ·rw [if_pos c13] at H; have c13b0 := eq_true c13; have c13b1 : decide ((x7_1 ++ (a0.extract (x8_1 : Int).toNat ((wrap64 (x8_1 + 63)) : Int).toNat)).size + a2.size ≤ 9223372036854775807) = true := decide_eq_true c13
          try have c13b2 : (9223372036854775807 < (x7_1 ++ (a0.extract (x8_1 : Int).toNat ((wrap64 (x8_1 + 63)) : Int).toNat)).size + a2.size) = False := eq_false (Nat.not_lt.2 c13)
          try have c13b4 : (9223372036854775807 < x7_1.size + (((wrap64 (x8_1 + 63)) : Int).toNat - x8_1.toNat) + a2.size) = False := eq_false (by have hh := c13; simp only [ByteArray.size_append, ByteArray.size_extract] at hh; (try have k_c6 := of_eq_true c6b0); (try have k_c7 := of_eq_true c7b0); (try have k_c10 := of_eq_true c10b0); (try have k_c11 := of_eq_true c11b0); (try have k_c12 := of_eq_true c12b0); omega)
          try (have c13b3 := c13b2; simp only [ByteArray.size_append, ByteArray.size_extract, Nat.min_self] at c13b3)
          have H' := Aside0.mk H; clear H
          go_wp2
          go_roundg k1
          case measure => have := HK1.out; omega
          case rel => exact ⟨((x7_1 ++ (a0.extract (x8_1 : Int).toNat ((wrap64 (x8_1 + 63)) : Int).toNat)) ++ a2), (wrap64 (x8_1 + 63)), zq_4, zq_4, H', ⟨by have := HK1.out; omega⟩, ⟨by repeat (first | (with_reducible first | exact HB.out | apply below_alloc | apply pw_below_drewN | apply below_drew1) | exact HB.out)⟩⟩
         ·rw [if_neg c13] at H; exact absurd H (by simp)
        ·rw [if_neg c12] at H; exact absurd H (by simp)
      ·rw [if_neg c7] at H; exact absurd H (by simp)
     ·rw [if_neg c6] at H; exact absurd H (by simp)
    ·rw [if_neg c5] at H; have c5b0 : decide ((wrap64 (x8_1 + 63)) ≤ (a0.size : Int)) = false := decide_eq_false c5; clear c5
     by_cases c14 : 0 ≤ x8_1
     ·rw [if_pos c14] at H; have c14b0 := eq_true c14; have c14b1 : decide (0 ≤ x8_1) = true := decide_eq_true c14; clear c14
      by_cases c15 : x8_1 ≤ (a0.size : Int)
      ·rw [if_pos c15] at H; have c15b0 := eq_true c15; have c15b1 : decide (x8_1 ≤ (a0.size : Int)) = true := decide_eq_true c15; clear c15; replace H := Option.bind_eq_some_iff.mp H; obtain ⟨t1640001, A160, H⟩ := H; (try dsimp only at H); have A16 := Aside0.mk A160; clear A160
       by_cases c17 : (a0.extract (x8_1 : Int).toNat a0.size).size + t1640001.size ≤ 9223372036854775807
       ·rw [if_pos c17] at H; have c17b0 := eq_true c17; have c17b1 : decide ((a0.extract (x8_1 : Int).toNat a0.size).size + t1640001.size ≤ 9223372036854775807) = true := decide_eq_true c17
        try have c17b2 : (9223372036854775807 < (a0.extract (x8_1 : Int).toNat a0.size).size + t1640001.size) = False := eq_false (Nat.not_lt.2 c17)
        try have c17b4 : (9223372036854775807 < a0.size - x8_1.toNat + t1640001.size) = False := eq_false (by have hh := c17; simp only [ByteArray.size_append, ByteArray.size_extract] at hh; (try have k_c6 := of_eq_true c6b0); (try have k_c7 := of_eq_true c7b0); (try have k_c10 := of_eq_true c10b0); (try have k_c11 := of_eq_true c11b0); (try have k_c12 := of_eq_true c12b0); (try have k_c13 := of_eq_true c13b0); (try have k_c14 := of_eq_true c14b0); (try have k_c15 := of_eq_true c15b0); omega)
        try (have c17b3 := c17b2; simp only [ByteArray.size_append, ByteArray.size_extract, Nat.min_self] at c17b3)
        by_cases c18 : x8_1 = 0
        ·rw [if_pos c18] at H; have c18b0 : (x8_1 == 0) = true := beq_iff_eq.mpr c18; have c18b1 : (x8_1 != 0) = false := bne_eq_false_iff_eq.mpr c18; clear c18
         by_cases c19 : x7_1.size + ((a0.extract (x8_1 : Int).toNat a0.size) ++ t1640001).size ≤ 9223372036854775807
         ·rw [if_pos c19] at H; have c19b0 := eq_true c19; have c19b1 : decide (x7_1.size + ((a0.extract (x8_1 : Int).toNat a0.size) ++ t1640001).size ≤ 9223372036854775807) = true := decide_eq_true c19
          try have c19b2 : (9223372036854775807 < x7_1.size + ((a0.extract (x8_1 : Int).toNat a0.size) ++ t1640001).size) = False := eq_false (Nat.not_lt.2 c19)
          try have c19b4 : (9223372036854775807 < x7_1.size + ((a0.size - x8_1.toNat) + t1640001.size)) = False := eq_false (by have hh := c19; simp only [ByteArray.size_append, ByteArray.size_extract] at hh; (try have k_c6 := of_eq_true c6b0); (try have k_c7 := of_eq_true c7b0); (try have k_c10 := of_eq_true c10b0); (try have k_c11 := of_eq_true c11b0); (try have k_c12 := of_eq_true c12b0); (try have k_c13 := of_eq_true c13b0); (try have k_c14 := of_eq_true c14b0); (try have k_c15 := of_eq_true c15b0); (try have k_c17 := of_eq_true c17b0); omega)
          try (have c19b3 := c19b2; simp only [ByteArray.size_append, ByteArray.size_extract, Nat.min_self] at c19b3)
          by_cases c20 : (x7_1 ++ ((a0.extract (x8_1 : Int).toNat a0.size) ++ t1640001)).size + a1.size ≤ 9223372036854775807
          ·rw [if_pos c20] at H; have c20b0 := eq_true c20; have c20b1 : decide ((x7_1 ++ ((a0.extract (x8_1 : Int).toNat a0.size) ++ t1640001)).size + a1.size ≤ 9223372036854775807) = true := decide_eq_true c20
           try have c20b2 : (9223372036854775807 < (x7_1 ++ ((a0.extract (x8_1 : Int).toNat a0.size) ++ t1640001)).size + a1.size) = False := eq_false (Nat.not_lt.2 c20)
           try have c20b4 : (9223372036854775807 < x7_1.size + ((a0.size - x8_1.toNat) + t1640001.size) + a1.size) = False := eq_false (by have hh := c20; simp only [ByteArray.size_append, ByteArray.size_extract] at hh; (try have k_c6 := of_eq_true c6b0); (try have k_c7 := of_eq_true c7b0); (try have k_c10 := of_eq_true c10b0); (try have k_c11 := of_eq_true c11b0); (try have k_c12 := of_eq_true c12b0); (try have k_c13 := of_eq_true c13b0); (try have k_c14 := of_eq_true c14b0); (try have k_c15 := of_eq_true c15b0); (try have k_c17 := of_eq_true c17b0); (try have k_c19 := of_eq_true c19b0); omega)
           try (have c20b3 := c20b2; simp only [ByteArray.size_append, ByteArray.size_extract, Nat.min_self] at c20b3)
           have H' := Aside0.mk H; clear H
           try go_wp2
           have n0_ := Aside0.mk (below_drew1 HB.out); clear HB; have HB := n0_; clear n0_; refine start_ (n := 10) (S := fun w' => True) (ds := []) #[false, false, false, false, false, false, false, false, false, false] (by kernel_rfl) rfl rfl trivial (fun hHeld => ?_); refine with_tabW spec_l2Marked.tab9 spec_l2Marked.bits9 (fun HT_ HW_ => ?_); generalize wr.drew = w21 at HB hHeld ⊢; refine pq_ (i := 0) (N := some 27) HT_.out ?_; refine pq_ (i := 1) (N := some 28) HT_.out ?_; refine pq_ (i := 2) (N := some 29) HT_.out ?_; refine pq_ (i := 3) (N := some 30) HT_.out ?_; refine pq_ (i := 4) (N := some 31) HT_.out ?_; refine pq_ (i := 5) (N := some 32) HT_.out ?_; refine pq_ (i := 6) (N := some 33) HT_.out ?_; refine one_ (i := 7) (N := some 34) #[true, true, true, true, true, true, true, true, false, false] rfl rfl (one_of HT_.out (by kernel_rfl)) (by decide) (fun K hK => ?_); refine goes_ Tryd.func134 (by kernel_rfl) rfl #[.int .i64 (wrap64 ((wrap64 (x8_1 + 63)) - (a0.size : Int))), .string (⟨#[0]⟩ : ByteArray)] (by rfl) rfl rfl zq_1 ?_
           with_reducible refine (spec_l1Long.calls (wrap64 ((wrap64 (x8_1 + 63)) - (a0.size : Int))) (⟨#[0]⟩ : ByteArray) t1640001 _ A16.out).mono ?_
           rintro e w22 ⟨rfl, hb⟩; refine ⟨_, rfl, ?_⟩; have n0_ := Aside0.mk (below_step zq_0 hb); clear HB; have HB := n0_; clear n0_; (try clear hb); (try clear hb2); (try clear hk); (try clear hi); refine hK.out _ _ trivial (fun hHeld => ?_); clear hK K; refine norm_ (a' := ?_) ?_ ?_; rotate_left
           ·show Act.put _ (some 34) _ = _; simp only [Act.put, List.setIfInBounds_toArray, List.set_cons_zero, List.set_cons_succ, i64_w, i32_w]; rfl
           refine pq_ (i := 8) (N := some 35) HT_.out ?_; refine pq_ (i := 9) (N := some 10) HT_.out ?_; refine done_ (done_of HT_.out (by kernel_rfl)) ?_
           try go_wp2
           go_roundg k1
           case measure => have := HK1.out; omega
           case rel => exact ⟨((x7_1 ++ ((a0.extract (x8_1 : Int).toNat a0.size) ++ t1640001)) ++ a1), (wrap64 (x8_1 + 63)), zq_4, zq_4, H', ⟨by have := HK1.out; omega⟩, ⟨by repeat (first | (with_reducible first | exact HB.out | apply below_alloc | apply pw_below_drewN | apply below_drew1) | exact HB.out)⟩⟩
          ·rw [if_neg c20] at H; exact absurd H (by simp)
         ·rw [if_neg c19] at H; exact absurd H (by simp)
        ·rw [if_neg c18] at H; have c18b0 : (x8_1 == 0) = false := beq_eq_false_iff_ne.mpr c18; have c18b1 : (x8_1 != 0) = true := bne_iff_ne.mpr c18
         by_cases c23 : x7_1.size + ((a0.extract (x8_1 : Int).toNat a0.size) ++ t1640001).size ≤ 9223372036854775807
         ·rw [if_pos c23] at H; have c23b0 := eq_true c23; have c23b1 : decide (x7_1.size + ((a0.extract (x8_1 : Int).toNat a0.size) ++ t1640001).size ≤ 9223372036854775807) = true := decide_eq_true c23
          try have c23b2 : (9223372036854775807 < x7_1.size + ((a0.extract (x8_1 : Int).toNat a0.size) ++ t1640001).size) = False := eq_false (Nat.not_lt.2 c23)
          try have c23b4 : (9223372036854775807 < x7_1.size + ((a0.size - x8_1.toNat) + t1640001.size)) = False := eq_false (by have hh := c23; simp only [ByteArray.size_append, ByteArray.size_extract] at hh; (try have k_c6 := of_eq_true c6b0); (try have k_c7 := of_eq_true c7b0); (try have k_c10 := of_eq_true c10b0); (try have k_c11 := of_eq_true c11b0); (try have k_c12 := of_eq_true c12b0); (try have k_c13 := of_eq_true c13b0); (try have k_c14 := of_eq_true c14b0); (try have k_c15 := of_eq_true c15b0); (try have k_c17 := of_eq_true c17b0); (try have k_c19 := of_eq_true c19b0); (try have k_c20 := of_eq_true c20b0); omega)
          try (have c23b3 := c23b2; simp only [ByteArray.size_append, ByteArray.size_extract, Nat.min_self] at c23b3)
          by_cases c24 : (x7_1 ++ ((a0.extract (x8_1 : Int).toNat a0.size) ++ t1640001)).size + a2.size ≤ 9223372036854775807
          ·rw [if_pos c24] at H; have c24b0 := eq_true c24; have c24b1 : decide ((x7_1 ++ ((a0.extract (x8_1 : Int).toNat a0.size) ++ t1640001)).size + a2.size ≤ 9223372036854775807) = true := decide_eq_true c24
           try have c24b2 : (9223372036854775807 < (x7_1 ++ ((a0.extract (x8_1 : Int).toNat a0.size) ++ t1640001)).size + a2.size) = False := eq_false (Nat.not_lt.2 c24)
           try have c24b4 : (9223372036854775807 < x7_1.size + ((a0.size - x8_1.toNat) + t1640001.size) + a2.size) = False := eq_false (by have hh := c24; simp only [ByteArray.size_append, ByteArray.size_extract] at hh; (try have k_c6 := of_eq_true c6b0); (try have k_c7 := of_eq_true c7b0); (try have k_c10 := of_eq_true c10b0); (try have k_c11 := of_eq_true c11b0); (try have k_c12 := of_eq_true c12b0); (try have k_c13 := of_eq_true c13b0); (try have k_c14 := of_eq_true c14b0); (try have k_c15 := of_eq_true c15b0); (try have k_c17 := of_eq_true c17b0); (try have k_c19 := of_eq_true c19b0); (try have k_c20 := of_eq_true c20b0); (try have k_c23 := of_eq_true c23b0); omega)
           try (have c24b3 := c24b2; simp only [ByteArray.size_append, ByteArray.size_extract, Nat.min_self] at c24b3)
           have H' := Aside0.mk H; clear H
           try go_wp2
           have n0_ := Aside0.mk (below_drew1 HB.out); clear HB; have HB := n0_; clear n0_; refine start_ (n := 10) (S := fun w' => True) (ds := []) #[false, false, false, false, false, false, false, false, false, false] (by kernel_rfl) rfl rfl trivial (fun hHeld => ?_); refine with_tabW spec_l2Marked.tab9 spec_l2Marked.bits9 (fun HT_ HW_ => ?_); generalize wr.drew = w25 at HB hHeld ⊢; refine pq_ (i := 0) (N := some 27) HT_.out ?_; refine pq_ (i := 1) (N := some 28) HT_.out ?_; refine pq_ (i := 2) (N := some 29) HT_.out ?_; refine pq_ (i := 3) (N := some 30) HT_.out ?_; refine pq_ (i := 4) (N := some 31) HT_.out ?_; refine pq_ (i := 5) (N := some 32) HT_.out ?_; refine pq_ (i := 6) (N := some 33) HT_.out ?_; refine one_ (i := 7) (N := some 34) #[true, true, true, true, true, true, true, true, false, false] rfl rfl (one_of HT_.out (by kernel_rfl)) (by decide) (fun K hK => ?_); refine goes_ Tryd.func134 (by kernel_rfl) rfl #[.int .i64 (wrap64 ((wrap64 (x8_1 + 63)) - (a0.size : Int))), .string (⟨#[0]⟩ : ByteArray)] (by rfl) rfl rfl zq_1 ?_
           with_reducible refine (spec_l1Long.calls (wrap64 ((wrap64 (x8_1 + 63)) - (a0.size : Int))) (⟨#[0]⟩ : ByteArray) t1640001 _ A16.out).mono ?_
           rintro e w26 ⟨rfl, hb⟩; refine ⟨_, rfl, ?_⟩; have n0_ := Aside0.mk (below_step zq_0 hb); clear HB; have HB := n0_; clear n0_; (try clear hb); (try clear hb2); (try clear hk); (try clear hi); refine hK.out _ _ trivial (fun hHeld => ?_); clear hK K; refine norm_ (a' := ?_) ?_ ?_; rotate_left
           ·show Act.put _ (some 34) _ = _; simp only [Act.put, List.setIfInBounds_toArray, List.set_cons_zero, List.set_cons_succ, i64_w, i32_w]; rfl
           refine pq_ (i := 8) (N := some 35) HT_.out ?_; refine pq_ (i := 9) (N := some 10) HT_.out ?_; refine done_ (done_of HT_.out (by kernel_rfl)) ?_
           try go_wp2
           go_roundg k1
           case measure => have := HK1.out; omega
           case rel => exact ⟨((x7_1 ++ ((a0.extract (x8_1 : Int).toNat a0.size) ++ t1640001)) ++ a2), (wrap64 (x8_1 + 63)), zq_4, zq_4, H', ⟨by have := HK1.out; omega⟩, ⟨by repeat (first | (with_reducible first | exact HB.out | apply below_alloc | apply pw_below_drewN | apply below_drew1) | exact HB.out)⟩⟩
          ·rw [if_neg c24] at H; exact absurd H (by simp)
         ·rw [if_neg c23] at H; exact absurd H (by simp)
       ·rw [if_neg c17] at H; exact absurd H (by simp)
      ·rw [if_neg c15] at H; exact absurd H (by simp)
     ·rw [if_neg c14] at H; exact absurd H (by simp)
   ·rw [if_neg c4] at H; have c4b0 : decide (x8_1 < (a0.size : Int)) = false := decide_eq_false c4; clear c4; obtain rfl := Option.some.inj H
    go_wp2
    go_ret
    exact ⟨by first | rfl | (simp [errW_none, errW_some] <;> rfl) | (simp [*, errW_none, errW_some] <;> rfl), by repeat (first | (with_reducible first | exact HB.out | apply below_alloc | apply pw_below_drewN | apply below_drew1) | exact HB.out)⟩
def spec_CommitRecord.j0 : Nat → Int → ByteArray → Bool → Option (ByteArray)
 | 0, _, _, _ => none
 | k + 1, x0, x1, x15 => if x15 = true then (some (⟨#[]⟩ : ByteArray)) else ((spec_l2Four.f x0).bind fun t1430001 => ((spec_l2Byte.f (x1.size : Int)).bind fun t1430002 => (if t1430001.size + t1430002.size ≤ 9223372036854775807 then (if (t1430001 ++ t1430002).size + x1.size ≤ 9223372036854775807 then ((spec_l2Marked.f k ((t1430001 ++ t1430002) ++ x1) (⟨#[67]⟩ : ByteArray) (⟨#[]⟩ : ByteArray)).bind fun t1430003 => (some t1430003)) else (none)) else (none))))
def spec_CommitRecord.f (k : Nat) (a0 : Int) (a1 : ByteArray) : Option (ByteArray) := if a0 < 1 then (spec_CommitRecord.j0 k a0 a1 true) else (if a0 > 1000000 then (spec_CommitRecord.j0 k a0 a1 true) else (spec_CommitRecord.j0 k a0 a1 (decide ((a1.size : Int) > 32))))
set_option maxHeartbeats 8000000 in
set_option maxRecDepth 100000 in
theorem spec_CommitRecord.calls (k : Nat) (a0 : Int) (a1 : ByteArray) (r : ByteArray) (w : World) (h : spec_CommitRecord.f k a0 a1 = some r) :
  Calls Tryd.prog 143 #[.int .i64 a0, .string a1] w fun e w' => e = .returned (.string r) ∧ Below w.heap.size w w' := by
 have HB := Aside0.mk (Below.refl w.heap.size w); have H : (if a0 < 1 then (spec_CommitRecord.j0 k a0 a1 true) else (if a0 > 1000000 then (spec_CommitRecord.j0 k a0 a1 true) else (spec_CommitRecord.j0 k a0 a1 (decide ((a1.size : Int) > 32))))) = some r := h; clear h; have HC3 := Aside0.mk H; clear H
 go_enter Tryd.func143, Tryd.ntmps143
 go_upto_region 1 with (fail)
 go_cut [15] (fun v15 wc => ∃ (kq : Nat) (x15_2 : Bool), v15 = .bool x15_2 ∧ Aside0 (spec_CommitRecord.j0 kq a0 a1 x15_2 = some r) ∧ Aside0 (kq ≤ k) ∧ Aside0 (Below w.heap.size w wc))
 case first =>
  have H := HC3.out; clear HC3
  by_cases c4 : a0 < 1
  ·rw [if_pos c4] at H; have c4b0 : decide (a0 < 1) = true := decide_eq_true c4; clear c4; (first | rw [c4b0] | (simp only [i64_w, i32_w]; rw [c4b0]) | skip); have H' := Aside0.mk H; clear H
   go_wp2
   go_meet
   case rel => exact ⟨_, (true), zq_4, H', ⟨by first | omega | exact Nat.le_refl _⟩, ⟨by repeat (first | (with_reducible first | exact HB.out | apply below_alloc | apply pw_below_drewN | apply below_drew1) | exact HB.out)⟩⟩
  ·rw [if_neg c4] at H; have c4b0 : decide (a0 < 1) = false := decide_eq_false c4; clear c4; (first | rw [c4b0] | (simp only [i64_w, i32_w]; rw [c4b0]) | skip)
   by_cases c5 : a0 > 1000000
   ·rw [if_pos c5] at H; have c5b0 : decide (1000000 < a0) = true := decide_eq_true c5; clear c5; have H' := Aside0.mk H; clear H
    go_wp2
    go_meet
    case rel => exact ⟨_, (true), zq_4, H', ⟨by first | omega | exact Nat.le_refl _⟩, ⟨by repeat (first | (with_reducible first | exact HB.out | apply below_alloc | apply pw_below_drewN | apply below_drew1) | exact HB.out)⟩⟩
   ·rw [if_neg c5] at H; have c5b0 : decide (1000000 < a0) = false := decide_eq_false c5; clear c5; have H' := Aside0.mk H; clear H
    go_wp2
    go_meet
    case rel => exact ⟨_, (decide ((a1.size : Int) > 32)), zq_4, H', ⟨by first | omega | exact Nat.le_refl _⟩, ⟨by repeat (first | (with_reducible first | exact HB.out | apply below_alloc | apply pw_below_drewN | apply below_drew1) | exact HB.out)⟩⟩
 case rest =>
  clear HC3
  try clear c1
  try clear p2
  try clear c4
  try clear c4b0
  try clear c5
  try clear c5b0
  obtain ⟨kq, x15_2, rfl, HA, HJ2, HB⟩ := hcut
  cases kq with
  | zero => exact absurd HA.out (by simp [spec_CommitRecord.j0])
  | succ kj2 =>
   have H := HA.out; clear HA; simp only [spec_CommitRecord.j0] at H
   by_cases c6 : x15_2 = true
   ·subst c6; have H1 : (some (⟨#[]⟩ : ByteArray)) = some r := by rw [if_pos rfl] at H; exact H
    clear H; have H := H1; clear H1; obtain rfl := Option.some.inj H
    go_wp2
    go_ret
    exact ⟨by first | rfl | (simp [errW_none, errW_some] <;> rfl) | (simp [*, errW_none, errW_some] <;> rfl), by repeat (first | (with_reducible first | exact HB.out | apply below_alloc | apply pw_below_drewN | apply below_drew1) | exact HB.out)⟩
   ·replace c6 := Bool.eq_false_iff.mpr c6; subst c6; have H1 : ((spec_l2Four.f a0).bind fun t1430001 => ((spec_l2Byte.f (a1.size : Int)).bind fun t1430002 => (if t1430001.size + t1430002.size ≤ 9223372036854775807 then (if (t1430001 ++ t1430002).size + a1.size ≤ 9223372036854775807 then ((spec_l2Marked.f kj2 ((t1430001 ++ t1430002) ++ a1) (⟨#[67]⟩ : ByteArray) (⟨#[]⟩ : ByteArray)).bind fun t1430003 => (some t1430003)) else (none)) else (none)))) = some r := by rw [if_neg (show ¬ (false = true) by decide)] at H; exact H
    clear H; have H := H1; clear H1; replace H := Option.bind_eq_some_iff.mp H; obtain ⟨t1430001, A70, H⟩ := H; (try dsimp only at H); have A7 := Aside0.mk A70; clear A70; replace H := Option.bind_eq_some_iff.mp H; obtain ⟨t1430002, A80, H⟩ := H; (try dsimp only at H); have A8 := Aside0.mk A80; clear A80
    by_cases c9 : t1430001.size + t1430002.size ≤ 9223372036854775807
    ·rw [if_pos c9] at H; have c9b0 := eq_true c9; have c9b1 : decide (t1430001.size + t1430002.size ≤ 9223372036854775807) = true := decide_eq_true c9
     try have c9b2 : (9223372036854775807 < t1430001.size + t1430002.size) = False := eq_false (Nat.not_lt.2 c9)
     by_cases c10 : (t1430001 ++ t1430002).size + a1.size ≤ 9223372036854775807
     ·rw [if_pos c10] at H; have c10b0 := eq_true c10; have c10b1 : decide ((t1430001 ++ t1430002).size + a1.size ≤ 9223372036854775807) = true := decide_eq_true c10
      try have c10b2 : (9223372036854775807 < (t1430001 ++ t1430002).size + a1.size) = False := eq_false (Nat.not_lt.2 c10)
      try have c10b4 : (9223372036854775807 < t1430001.size + t1430002.size + a1.size) = False := eq_false (by have hh := c10; simp only [ByteArray.size_append, ByteArray.size_extract] at hh; omega)
      try (have c10b3 := c10b2; simp only [ByteArray.size_append, ByteArray.size_extract, Nat.min_self] at c10b3)
      replace H := Option.bind_eq_some_iff.mp H; obtain ⟨t1430003, A110, H⟩ := H; (try dsimp only at H); have A11 := Aside0.mk A110; clear A110; obtain rfl := Option.some.inj H
      go_wp2_with (first | ((with_reducible refine gate_callee (f := 165) rfl ?_); refine goesL_ (some 17) rfl rfl Tryd.func165 (by kernel_rfl) rfl #[.int .i64 a0] rfl zq_1 ?_; (with_reducible refine (spec_l2Four.calls a0 t1430001 _ A7.out).mono ?_); rintro e w12 ⟨rfl, hb⟩; refine ⟨_, rfl, ?_⟩; have n0_ := Aside0.mk (below_step zq_0 hb); clear HB; have HB := n0_; clear n0_; (try clear hb); (try clear hb2); (try clear hk); (try clear hi)) | ((with_reducible refine gate_callee (f := 121) rfl ?_); refine goesL_ (some 20) rfl rfl Tryd.func121 (by kernel_rfl) rfl #[.int .i64 (a1.size : Int)] rfl zq_1 ?_; (with_reducible refine (spec_l2Byte.calls (a1.size : Int) t1430002 _ A8.out).mono ?_); rintro e w13 ⟨rfl, hb⟩; refine ⟨_, rfl, ?_⟩; have n0_ := Aside0.mk (below_step zq_0 hb); clear HB; have HB := n0_; clear n0_; (try clear hb); (try clear hb2); (try clear hk); (try clear hi)) | ((with_reducible refine gate_callee (f := 164) rfl ?_); refine goesL_ (some 24) rfl rfl Tryd.func164 (by kernel_rfl) rfl #[.string ((t1430001 ++ t1430002) ++ a1), .string (⟨#[67]⟩ : ByteArray), .string (⟨#[]⟩ : ByteArray)] rfl zq_1 ?_; (with_reducible refine (spec_l2Marked.calls kj2 ((t1430001 ++ t1430002) ++ a1) (⟨#[67]⟩ : ByteArray) (⟨#[]⟩ : ByteArray) t1430003 _ A11.out).mono ?_); rintro e w14 ⟨rfl, hb⟩; refine ⟨_, rfl, ?_⟩; have n0_ := Aside0.mk (below_step zq_0 hb); clear HB; have HB := n0_; clear n0_; (try clear hb); (try clear hb2); (try clear hk); (try clear hi)))
      go_ret
      exact ⟨by first | rfl | (simp [errW_none, errW_some] <;> rfl) | (simp [*, errW_none, errW_some] <;> rfl), by repeat (first | (with_reducible first | exact HB.out | apply below_alloc | apply pw_below_drewN | apply below_drew1) | exact HB.out)⟩
     ·rw [if_neg c10] at H; exact absurd H (by simp)
    ·rw [if_neg c9] at H; exact absurd H (by simp)
def spec_l2DrawVal.f (k : Nat) (l0 : List Int) (a1 : Int) : Option (ByteArray × Int) := (spec_l1Take.f k l0 a1 16).bind fun bt1360001 => ((spec_l1Take.f k l0 bt1360001.2 120).bind fun bt1360003 => (if bt1360001.1 < 2 then (some ((⟨#[]⟩ : ByteArray), bt1360003.2)) else (if bt1360001.1 = 14 then ((spec_l1Long.f (wrap64 (bt1360003.1 * 2)) (⟨#[118]⟩ : ByteArray)).bind fun t1360005 => (some (t1360005, bt1360003.2))) else (if bt1360001.1 = 15 then ((spec_l1Long.f (Int.tmod bt1360003.1 63) (⟨#[0]⟩ : ByteArray)).bind fun t1360006 => ((spec_CommitRecord.f k (wrap64 ((Int.tmod bt1360003.1 4) + 1)) (⟨#[]⟩ : ByteArray)).bind fun t1360007 => (if t1360006.size + t1360007.size ≤ 9223372036854775807 then ((spec_l1Long.f 1 (⟨#[114]⟩ : ByteArray)).bind fun t1360008 => ((spec_CommitRecord.f k (wrap64 ((Int.tmod bt1360003.1 3) + 1)) t1360008).bind fun t1360009 => (if (t1360006 ++ t1360007).size + t1360009.size ≤ 9223372036854775807 then (some ((t1360006 ++ t1360007) ++ t1360009, bt1360003.2)) else (none)))) else (none)))) else ((spec_l2Byte.f (wrap64 (48 + (Int.tmod bt1360003.1 10)))).bind fun t1360010 => (if 1 + t1360010.size ≤ 9223372036854775807 then ((spec_l2Byte.f (wrap64 (48 + (wrap64 (Int.tdiv bt1360003.1 10))))).bind fun t1360011 => (if ((⟨#[118]⟩ : ByteArray) ++ t1360010).size + t1360011.size ≤ 9223372036854775807 then (some (((⟨#[118]⟩ : ByteArray) ++ t1360010) ++ t1360011, bt1360003.2)) else (none))) else (none)))))))
set_option maxHeartbeats 8000000 in
set_option maxRecDepth 100000 in
theorem spec_l2DrawVal.calls (k : Nat) (A0 : Option Addr) (c0 : Nat) (l0 : List Int) (a1 : Int) (r1 : ByteArray) (r2 : Int) (w : World) (hr0 : Kd.C (Kd.int .u8) w A0 l0.length l0) (hc0 : l0.length ≤ c0) (h : spec_l2DrawVal.f k l0 a1 = some (r1, r2)) :
  Calls Tryd.prog 136 #[.slice A0 l0.length c0, .int .i64 a1] w fun e w' => e = .returned (.tuple #[.string r1, .int .i64 r2]) ∧ Below w.heap.size w w' := by
 have HR0 := Aside0.mk hr0; have HC0 := Aside0.mk hc0; clear hr0 hc0; have HB := Aside0.mk (Below.refl w.heap.size w); have H : ((spec_l1Take.f k l0 a1 16).bind fun bt1360001 => ((spec_l1Take.f k l0 bt1360001.2 120).bind fun bt1360003 => (if bt1360001.1 < 2 then (some ((⟨#[]⟩ : ByteArray), bt1360003.2)) else (if bt1360001.1 = 14 then ((spec_l1Long.f (wrap64 (bt1360003.1 * 2)) (⟨#[118]⟩ : ByteArray)).bind fun t1360005 => (some (t1360005, bt1360003.2))) else (if bt1360001.1 = 15 then ((spec_l1Long.f (Int.tmod bt1360003.1 63) (⟨#[0]⟩ : ByteArray)).bind fun t1360006 => ((spec_CommitRecord.f k (wrap64 ((Int.tmod bt1360003.1 4) + 1)) (⟨#[]⟩ : ByteArray)).bind fun t1360007 => (if t1360006.size + t1360007.size ≤ 9223372036854775807 then ((spec_l1Long.f 1 (⟨#[114]⟩ : ByteArray)).bind fun t1360008 => ((spec_CommitRecord.f k (wrap64 ((Int.tmod bt1360003.1 3) + 1)) t1360008).bind fun t1360009 => (if (t1360006 ++ t1360007).size + t1360009.size ≤ 9223372036854775807 then (some ((t1360006 ++ t1360007) ++ t1360009, bt1360003.2)) else (none)))) else (none)))) else ((spec_l2Byte.f (wrap64 (48 + (Int.tmod bt1360003.1 10)))).bind fun t1360010 => (if 1 + t1360010.size ≤ 9223372036854775807 then ((spec_l2Byte.f (wrap64 (48 + (wrap64 (Int.tdiv bt1360003.1 10))))).bind fun t1360011 => (if ((⟨#[118]⟩ : ByteArray) ++ t1360010).size + t1360011.size ≤ 9223372036854775807 then (some (((⟨#[118]⟩ : ByteArray) ++ t1360010) ++ t1360011, bt1360003.2)) else (none))) else (none)))))))) = some (r1, r2) := h; clear h; replace H := Option.bind_eq_some_iff.mp H; obtain ⟨⟨t1360001, t1360002⟩, A30, H⟩ := H; (try dsimp only at H); have A3 := Aside0.mk A30; clear A30; replace H := Option.bind_eq_some_iff.mp H; obtain ⟨⟨t1360003, t1360004⟩, A40, H⟩ := H; (try dsimp only at H); have A4 := Aside0.mk A40; clear A40
 by_cases c5 : t1360001 < 2
 ·rw [if_pos c5] at H; have c5b0 : decide (t1360001 < 2) = true := decide_eq_true c5; clear c5; simp only [Option.some.injEq, Prod.mk.injEq] at H; obtain ⟨rfl, rfl⟩ := H
  go_enter Tryd.func136, Tryd.ntmps136
  go_wp2_with (first | ((with_reducible refine gate_callee (f := 85) rfl ?_); refine goesL_ (some 11) rfl rfl Tryd.func85 (by kernel_rfl) rfl #[.slice A0 l0.length c0, .int .i64 a1, .int .i64 16] rfl zq_1 ?_; (with_reducible refine (spec_l1Take.calls k _ _ l0 a1 16 t1360001 t1360002 _ ?side1 ?side2 A3.out).mono ?_); (case side1 => exact zq_5); (case side2 => exact HC0.out); rintro e w' ⟨rfl, ⟨nd, rfl⟩⟩; refine ⟨_, rfl, ?_⟩) | ((with_reducible refine gate_callee (f := 85) rfl ?_); refine goesL_ (some 17) rfl rfl Tryd.func85 (by kernel_rfl) rfl #[.slice A0 l0.length c0, .int .i64 t1360002, .int .i64 120] rfl zq_1 ?_; (with_reducible refine (spec_l1Take.calls k _ _ l0 t1360002 120 t1360003 t1360004 _ ?side1 ?side2 A4.out).mono ?_); (case side1 => exact zq_5); (case side2 => exact HC0.out); rintro e w' ⟨rfl, ⟨nd, rfl⟩⟩; refine ⟨_, rfl, ?_⟩))
  go_ret2
  exact ⟨by first | rfl | (simp [errW_none, errW_some] <;> rfl) | (simp [*, errW_none, errW_some] <;> rfl), by repeat (first | (with_reducible first | exact HB.out | apply below_alloc | apply pw_below_drewN | apply below_drew1) | exact HB.out)⟩
 ·rw [if_neg c5] at H; have c5b0 : decide (t1360001 < 2) = false := decide_eq_false c5; clear c5
  by_cases c6 : t1360001 = 14
  ·rw [if_pos c6] at H; have c6b0 : (t1360001 == 14) = true := beq_iff_eq.mpr c6; have c6b1 : (t1360001 != 14) = false := bne_eq_false_iff_eq.mpr c6; clear c6; replace H := Option.bind_eq_some_iff.mp H; obtain ⟨t1360005, A70, H⟩ := H; (try dsimp only at H); have A7 := Aside0.mk A70; clear A70; simp only [Option.some.injEq, Prod.mk.injEq] at H; obtain ⟨rfl, rfl⟩ := H
   go_enter Tryd.func136, Tryd.ntmps136
   go_wp2_with (first | ((with_reducible refine gate_callee (f := 85) rfl ?_); refine goesL_ (some 11) rfl rfl Tryd.func85 (by kernel_rfl) rfl #[.slice A0 l0.length c0, .int .i64 a1, .int .i64 16] rfl zq_1 ?_; (with_reducible refine (spec_l1Take.calls k _ _ l0 a1 16 t1360001 t1360002 _ ?side1 ?side2 A3.out).mono ?_); (case side1 => exact zq_5); (case side2 => exact HC0.out); rintro e w' ⟨rfl, ⟨nd, rfl⟩⟩; refine ⟨_, rfl, ?_⟩) | ((with_reducible refine gate_callee (f := 85) rfl ?_); refine goesL_ (some 17) rfl rfl Tryd.func85 (by kernel_rfl) rfl #[.slice A0 l0.length c0, .int .i64 t1360002, .int .i64 120] rfl zq_1 ?_; (with_reducible refine (spec_l1Take.calls k _ _ l0 t1360002 120 t1360003 t1360004 _ ?side1 ?side2 A4.out).mono ?_); (case side1 => exact zq_5); (case side2 => exact HC0.out); rintro e w' ⟨rfl, ⟨nd, rfl⟩⟩; refine ⟨_, rfl, ?_⟩) | ((with_reducible refine gate_callee (f := 134) rfl ?_); refine goesL_ (some 27) rfl rfl Tryd.func134 (by kernel_rfl) rfl #[.int .i64 (wrap64 (t1360003 * 2)), .string (⟨#[118]⟩ : ByteArray)] rfl zq_1 ?_; (with_reducible refine (spec_l1Long.calls (wrap64 (t1360003 * 2)) (⟨#[118]⟩ : ByteArray) t1360005 _ A7.out).mono ?_); rintro e w8 ⟨rfl, hb⟩; refine ⟨_, rfl, ?_⟩; have n0_ := Aside0.mk (below_step zq_0 hb); clear HB; have HB := n0_; clear n0_; (try clear hb); (try clear hb2); (try clear hk); (try clear hi)))
   go_ret2
   exact ⟨by first | rfl | (simp [errW_none, errW_some] <;> rfl) | (simp [*, errW_none, errW_some] <;> rfl), by repeat (first | (with_reducible first | exact HB.out | apply below_alloc | apply pw_below_drewN | apply below_drew1) | exact HB.out)⟩
  ·rw [if_neg c6] at H; have c6b0 : (t1360001 == 14) = false := beq_eq_false_iff_ne.mpr c6; have c6b1 : (t1360001 != 14) = true := bne_iff_ne.mpr c6
   by_cases c9 : t1360001 = 15
   ·rw [if_pos c9] at H; have c9b0 : (t1360001 == 15) = true := beq_iff_eq.mpr c9; have c9b1 : (t1360001 != 15) = false := bne_eq_false_iff_eq.mpr c9; clear c9; replace H := Option.bind_eq_some_iff.mp H; obtain ⟨t1360006, A100, H⟩ := H; (try dsimp only at H); have A10 := Aside0.mk A100; clear A100; replace H := Option.bind_eq_some_iff.mp H; obtain ⟨t1360007, A110, H⟩ := H; (try dsimp only at H); have A11 := Aside0.mk A110; clear A110
    by_cases c12 : t1360006.size + t1360007.size ≤ 9223372036854775807
    ·rw [if_pos c12] at H; have c12b0 := eq_true c12; have c12b1 : decide (t1360006.size + t1360007.size ≤ 9223372036854775807) = true := decide_eq_true c12
     try have c12b2 : (9223372036854775807 < t1360006.size + t1360007.size) = False := eq_false (Nat.not_lt.2 c12)
     replace H := Option.bind_eq_some_iff.mp H; obtain ⟨t1360008, A130, H⟩ := H; (try dsimp only at H); have A13 := Aside0.mk A130; clear A130; replace H := Option.bind_eq_some_iff.mp H; obtain ⟨t1360009, A140, H⟩ := H; (try dsimp only at H); have A14 := Aside0.mk A140; clear A140
     by_cases c15 : (t1360006 ++ t1360007).size + t1360009.size ≤ 9223372036854775807
     ·rw [if_pos c15] at H; have c15b0 := eq_true c15; have c15b1 : decide ((t1360006 ++ t1360007).size + t1360009.size ≤ 9223372036854775807) = true := decide_eq_true c15
      try have c15b2 : (9223372036854775807 < (t1360006 ++ t1360007).size + t1360009.size) = False := eq_false (Nat.not_lt.2 c15)
      try have c15b4 : (9223372036854775807 < t1360006.size + t1360007.size + t1360009.size) = False := eq_false (by have hh := c15; simp only [ByteArray.size_append, ByteArray.size_extract] at hh; omega)
      try (have c15b3 := c15b2; simp only [ByteArray.size_append, ByteArray.size_extract, Nat.min_self] at c15b3)
      simp only [Option.some.injEq, Prod.mk.injEq] at H; obtain ⟨rfl, rfl⟩ := H
      go_enter Tryd.func136, Tryd.ntmps136
      go_wp2_with (first | ((with_reducible refine gate_callee (f := 85) rfl ?_); refine goesL_ (some 11) rfl rfl Tryd.func85 (by kernel_rfl) rfl #[.slice A0 l0.length c0, .int .i64 a1, .int .i64 16] rfl zq_1 ?_; (with_reducible refine (spec_l1Take.calls k _ _ l0 a1 16 t1360001 t1360002 _ ?side1 ?side2 A3.out).mono ?_); (case side1 => exact zq_5); (case side2 => exact HC0.out); rintro e w' ⟨rfl, ⟨nd, rfl⟩⟩; refine ⟨_, rfl, ?_⟩) | ((with_reducible refine gate_callee (f := 85) rfl ?_); refine goesL_ (some 17) rfl rfl Tryd.func85 (by kernel_rfl) rfl #[.slice A0 l0.length c0, .int .i64 t1360002, .int .i64 120] rfl zq_1 ?_; (with_reducible refine (spec_l1Take.calls k _ _ l0 t1360002 120 t1360003 t1360004 _ ?side1 ?side2 A4.out).mono ?_); (case side1 => exact zq_5); (case side2 => exact HC0.out); rintro e w' ⟨rfl, ⟨nd, rfl⟩⟩; refine ⟨_, rfl, ?_⟩) | ((with_reducible refine gate_callee (f := 134) rfl ?_); refine goesL_ (some 33) rfl rfl Tryd.func134 (by kernel_rfl) rfl #[.int .i64 (Int.tmod t1360003 63), .string (⟨#[0]⟩ : ByteArray)] rfl zq_1 ?_; (with_reducible refine (spec_l1Long.calls (Int.tmod t1360003 63) (⟨#[0]⟩ : ByteArray) t1360006 _ A10.out).mono ?_); rintro e w16 ⟨rfl, hb⟩; refine ⟨_, rfl, ?_⟩; have n0_ := Aside0.mk (below_step zq_0 hb); clear HB; have HB := n0_; clear n0_; (try clear hb); (try clear hb2); (try clear hk); (try clear hi)) | ((with_reducible refine gate_callee (f := 143) rfl ?_); refine goesL_ (some 37) rfl rfl Tryd.func143 (by kernel_rfl) rfl #[.int .i64 (wrap64 ((Int.tmod t1360003 4) + 1)), .string (⟨#[]⟩ : ByteArray)] rfl zq_1 ?_; (with_reducible refine (spec_CommitRecord.calls k (wrap64 ((Int.tmod t1360003 4) + 1)) (⟨#[]⟩ : ByteArray) t1360007 _ A11.out).mono ?_); rintro e w17 ⟨rfl, hb⟩; refine ⟨_, rfl, ?_⟩; have n0_ := Aside0.mk (below_step zq_0 hb); clear HB; have HB := n0_; clear n0_; (try clear hb); (try clear hb2); (try clear hk); (try clear hi)) | ((with_reducible refine gate_callee (f := 134) rfl ?_); refine goesL_ (some 42) rfl rfl Tryd.func134 (by kernel_rfl) rfl #[.int .i64 1, .string (⟨#[114]⟩ : ByteArray)] rfl zq_1 ?_; (with_reducible refine (spec_l1Long.calls 1 (⟨#[114]⟩ : ByteArray) t1360008 _ A13.out).mono ?_); rintro e w18 ⟨rfl, hb⟩; refine ⟨_, rfl, ?_⟩; have n0_ := Aside0.mk (below_step zq_0 hb); clear HB; have HB := n0_; clear n0_; (try clear hb); (try clear hb2); (try clear hk); (try clear hi)) | ((with_reducible refine gate_callee (f := 143) rfl ?_); refine goesL_ (some 43) rfl rfl Tryd.func143 (by kernel_rfl) rfl #[.int .i64 (wrap64 ((Int.tmod t1360003 3) + 1)), .string t1360008] rfl zq_1 ?_; (with_reducible refine (spec_CommitRecord.calls k (wrap64 ((Int.tmod t1360003 3) + 1)) t1360008 t1360009 _ A14.out).mono ?_); rintro e w19 ⟨rfl, hb⟩; refine ⟨_, rfl, ?_⟩; have n0_ := Aside0.mk (below_step zq_0 hb); clear HB; have HB := n0_; clear n0_; (try clear hb); (try clear hb2); (try clear hk); (try clear hi)))
      go_ret2
      exact ⟨by first | rfl | (simp [errW_none, errW_some] <;> rfl) | (simp [*, errW_none, errW_some] <;> rfl), by repeat (first | (with_reducible first | exact HB.out | apply below_alloc | apply pw_below_drewN | apply below_drew1) | exact HB.out)⟩
     ·rw [if_neg c15] at H; exact absurd H (by simp)
    ·rw [if_neg c12] at H; exact absurd H (by simp)
   ·rw [if_neg c9] at H; have c9b0 : (t1360001 == 15) = false := beq_eq_false_iff_ne.mpr c9; have c9b1 : (t1360001 != 15) = true := bne_iff_ne.mpr c9; replace H := Option.bind_eq_some_iff.mp H; obtain ⟨t1360010, A200, H⟩ := H; (try dsimp only at H); have A20 := Aside0.mk A200; clear A200
    by_cases c21 : 1 + t1360010.size ≤ 9223372036854775807
    ·rw [if_pos c21] at H; have c21b0 := eq_true c21; have c21b1 : decide (1 + t1360010.size ≤ 9223372036854775807) = true := decide_eq_true c21
     try have c21b2 : (9223372036854775807 < 1 + t1360010.size) = False := eq_false (Nat.not_lt.2 c21)
     replace H := Option.bind_eq_some_iff.mp H; obtain ⟨t1360011, A220, H⟩ := H; (try dsimp only at H); have A22 := Aside0.mk A220; clear A220
     by_cases c23 : ((⟨#[118]⟩ : ByteArray) ++ t1360010).size + t1360011.size ≤ 9223372036854775807
     ·rw [if_pos c23] at H; have c23b0 := eq_true c23; have c23b1 : decide (((⟨#[118]⟩ : ByteArray) ++ t1360010).size + t1360011.size ≤ 9223372036854775807) = true := decide_eq_true c23
      try have c23b2 : (9223372036854775807 < ((⟨#[118]⟩ : ByteArray) ++ t1360010).size + t1360011.size) = False := eq_false (Nat.not_lt.2 c23)
      try have c23b4 : (9223372036854775807 < 1 + t1360010.size + t1360011.size) = False := eq_false (by have hh := c23; simp only [ByteArray.size_append, ByteArray.size_extract] at hh; (try rw [show ByteArray.size (⟨#[118]⟩ : ByteArray) = 1 from rfl] at hh); omega)
      try (have c23b3 := c23b2; simp only [ByteArray.size_append, ByteArray.size_extract, Nat.min_self] at c23b3)
      simp only [Option.some.injEq, Prod.mk.injEq] at H; obtain ⟨rfl, rfl⟩ := H
      go_enter Tryd.func136, Tryd.ntmps136
      go_wp2_with (first | ((with_reducible refine gate_callee (f := 85) rfl ?_); refine goesL_ (some 11) rfl rfl Tryd.func85 (by kernel_rfl) rfl #[.slice A0 l0.length c0, .int .i64 a1, .int .i64 16] rfl zq_1 ?_; (with_reducible refine (spec_l1Take.calls k _ _ l0 a1 16 t1360001 t1360002 _ ?side1 ?side2 A3.out).mono ?_); (case side1 => exact zq_5); (case side2 => exact HC0.out); rintro e w' ⟨rfl, ⟨nd, rfl⟩⟩; refine ⟨_, rfl, ?_⟩) | ((with_reducible refine gate_callee (f := 85) rfl ?_); refine goesL_ (some 17) rfl rfl Tryd.func85 (by kernel_rfl) rfl #[.slice A0 l0.length c0, .int .i64 t1360002, .int .i64 120] rfl zq_1 ?_; (with_reducible refine (spec_l1Take.calls k _ _ l0 t1360002 120 t1360003 t1360004 _ ?side1 ?side2 A4.out).mono ?_); (case side1 => exact zq_5); (case side2 => exact HC0.out); rintro e w' ⟨rfl, ⟨nd, rfl⟩⟩; refine ⟨_, rfl, ?_⟩) | ((with_reducible refine gate_callee (f := 121) rfl ?_); refine goesL_ (some 49) rfl rfl Tryd.func121 (by kernel_rfl) rfl #[.int .i64 (wrap64 (48 + (Int.tmod t1360003 10)))] rfl zq_1 ?_; (with_reducible refine (spec_l2Byte.calls (wrap64 (48 + (Int.tmod t1360003 10))) t1360010 _ A20.out).mono ?_); rintro e w24 ⟨rfl, hb⟩; refine ⟨_, rfl, ?_⟩; have n0_ := Aside0.mk (below_step zq_0 hb); clear HB; have HB := n0_; clear n0_; (try clear hb); (try clear hb2); (try clear hk); (try clear hi)) | ((with_reducible refine gate_callee (f := 121) rfl ?_); refine goesL_ (some 54) rfl rfl Tryd.func121 (by kernel_rfl) rfl #[.int .i64 (wrap64 (48 + (wrap64 (Int.tdiv t1360003 10))))] rfl zq_1 ?_; (with_reducible refine (spec_l2Byte.calls (wrap64 (48 + (wrap64 (Int.tdiv t1360003 10)))) t1360011 _ A22.out).mono ?_); rintro e w25 ⟨rfl, hb⟩; refine ⟨_, rfl, ?_⟩; have n0_ := Aside0.mk (below_step zq_0 hb); clear HB; have HB := n0_; clear n0_; (try clear hb); (try clear hb2); (try clear hk); (try clear hi)))
      go_ret2
      exact ⟨by first | rfl | (simp [errW_none, errW_some] <;> rfl) | (simp [*, errW_none, errW_some] <;> rfl), by repeat (first | (with_reducible first | exact HB.out | apply below_alloc | apply pw_below_drewN | apply below_drew1) | exact HB.out)⟩
     ·rw [if_neg c23] at H; exact absurd H (by simp)
    ·rw [if_neg c21] at H; exact absurd H (by simp)
end Go.Proofs.YtaepebkeijmjgaaDoor.Z
end
