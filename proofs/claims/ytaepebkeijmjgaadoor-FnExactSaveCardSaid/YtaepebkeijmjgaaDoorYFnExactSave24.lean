/- Own texts, joined. -/
import Derived.Test.YtaepebkeijmjgaaDoorYFnExactSave26
import Derived.Test.YtaepebkeijmjgaaDoorYFnExactSave27
import Derived.Test.YtaepebkeijmjgaaDoorYFnExactSave21
import Derived.Test.YtaepebkeijmjgaaDoorYFnExactSave22
import Derived.Test.YtaepebkeijmjgaaDoorYFnExactSave23
import Derived.Deep.LoopGhost
import Derived.Deep.RegionLaw
section
namespace Go.Proofs.YtaepebkeijmjgaaDoor.Z
open RowKit YtaepebkeijmjgaaDoorW.PrintWords YtaepebkeijmjgaaDoorW.PrintLast YtaepebkeijmjgaaDoorW.PrintMore
attribute [local go_sem] max2_int min2_int max_two min_two max_three min_three max_four min_four
set_option linter.all false
def spec_l4MapOk.l0 : Nat → List (S77) → Int → Option (Bool)
 | 0, _, _ => none
 | k + 1, x0, x3 => if x3 < (x0.length : Int) then (if 0 ≤ x3 then ((spec_l4PairOk.f ((rd_T77 x0 x3).f0) ((rd_T77 x0 x3).f1)).bind fun t700003 => (if t700003 = true then (if x3 > 0 then (if 0 ≤ (wrap64 (x3 - 1)) then (if (wrap64 (x3 - 1)) < (x0.length : Int) then ((spec_l1Less.f k ((rd_T77 x0 (wrap64 (x3 - 1))).f0) ((rd_T77 x0 x3).f0)).bind fun t700006 => (if t700006 = true then (spec_l4MapOk.l0 k x0 (wrap64 (x3 + 1))) else (some false))) else (none)) else (none)) else (spec_l4MapOk.l0 k x0 (wrap64 (x3 + 1)))) else (some false))) else (none)) else (some true)
def spec_l4MapOk.f (k : Nat) (l0 : List (S77)) : Option (Bool) := if (l0.length : Int) > 500 then (some false) else (spec_l4MapOk.l0 k l0 0)
def spec_l4MapOk.T6 : Bool × List (List Nat × List Nat) := (true, [([], []), ([], []), ([0, 1], [0, 1]), ([2], [2]), ([3], [3]), ([], []), ([], []), ([5, 6], [5, 6]), ([7], [7]), ([8], [8]), ([4, 9], [4, 9]), ([10], [10]), ([11, 10], [11]), ([12], [12]), ([13, 12], [12, 13]), ([14, 12, 12], [12, 14]), ([15], [15]), ([15], [15]), ([17, 15], [15, 17]), ([16, 18, 15], [15, 16, 18]), ([19, 15], [15, 19]), ([20, 15], [15, 20]), ([15], [15]), ([15], [15]), ([22, 23, 15], [15, 22, 23]), ([24, 15], [15, 24]), ([25, 15], [15, 25]), ([21, 26, 15, 15], [15, 21, 26]), ([27, 15], [15, 27]), ([15, 28, 12], [12, 15, 28]), ([12, 29], [12, 29])])
def spec_l4MapOk.B6 : List Nat := [0, 0, 3, 7, 15, 0, 0, 96, 224, 480, 1023, 2047, 4095, 8191, 16383, 32767, 65535, 65535, 196607, 524287, 1048575, 2097151, 65535, 65535, 12648447, 29425663, 62980095, 134217727, 268435455, 536870911, 1073741823]
theorem spec_l4MapOk.tab6 : rtab .any (opsOf Tryd.f70 6) = spec_l4MapOk.T6 := by kernel_rfl
theorem spec_l4MapOk.bits6 : waitsOk spec_l4MapOk.T6.2 spec_l4MapOk.B6 = true := by kernel_rfl
set_option maxHeartbeats 8000000 in
set_option maxRecDepth 100000 in
theorem spec_l4MapOk.calls (k : Nat) (A0 : Option Addr) (c0 : Nat) (l0 : List (S77)) (r : Bool) (w : World) (hr0 : Kd.C k77 w A0 l0.length l0) (hc0 : l0.length ≤ c0) (h : spec_l4MapOk.f k l0 = some r) :
  Calls Tryd.prog 70 #[.slice A0 l0.length c0] w fun e w' => e = .returned (.bool r) ∧ Below w.heap.size w w' := by
 have HR0 := Aside0.mk hr0; have HC0 := Aside0.mk hc0; clear hr0 hc0; have HB := Aside0.mk (Below.refl w.heap.size w); have H : (if (l0.length : Int) > 500 then (some false) else (spec_l4MapOk.l0 k l0 0)) = some r := h; clear h
 by_cases c2 : (l0.length : Int) > 500
 ·rw [if_pos c2] at H; have c2b0 : decide (500 < (l0.length : Int)) = true := decide_eq_true c2; have c2b1 : decide (500 < l0.length) = true := decide_eq_true (by omega); clear c2; obtain rfl := Option.some.inj H
  go_enter Tryd.func70, Tryd.ntmps70
  go_wp2
  go_ret
  exact ⟨by first | rfl | (simp [errW_none, errW_some] <;> rfl) | (simp [*, errW_none, errW_some] <;> rfl), by repeat (first | (with_reducible first | exact HB.out | apply below_alloc | apply pw_below_drewN | apply below_drew1) | exact HB.out)⟩
 ·rw [if_neg c2] at H; have c2b0 : decide (500 < (l0.length : Int)) = false := decide_eq_false c2; have c2b1 : decide (500 < l0.length) = false := decide_eq_false (by omega); clear c2; have H' := Aside0.mk H; clear H
  go_enter Tryd.func70, Tryd.ntmps70
  go_wp2
  go_loopg [3] k (fun kq v3 w' => ∃ (x3_1 : Int), v3 = .int .i64 x3_1 ∧ Aside0 (spec_l4MapOk.l0 kq l0 x3_1 = some r) ∧ Aside0 (kq ≤ k) ∧ Aside0 (Below w.heap.size w w'))
  case atStart => exact ⟨(0), zq_5, H', ⟨Nat.le_refl _⟩, ⟨by repeat (first | (with_reducible first | exact HB.out | apply below_alloc | apply pw_below_drewN | apply below_drew1) | exact HB.out)⟩⟩
  case round =>
   clear H'
   try clear c2
   try clear c2b0
   try clear c2b1
   try clear p2
   obtain ⟨x3_1, rfl, HA, HK1, HB⟩ := hrel
   cases gk with
   | zero => exact absurd HA.out (by simp [spec_l4MapOk.l0])
   | succ k1 =>
    have H := HA.out; clear HA; simp only [spec_l4MapOk.l0] at H
    by_cases c3 : x3_1 < (l0.length : Int)
    ·rw [if_pos c3] at H; have c3b0 : decide (x3_1 < (l0.length : Int)) = true := decide_eq_true c3; clear c3
     by_cases c4 : 0 ≤ x3_1
     ·rw [if_pos c4] at H; have c4b0 : decide (0 ≤ x3_1) = true := decide_eq_true c4; clear c4; replace H := Option.bind_eq_some_iff.mp H; obtain ⟨t700003, A50, H⟩ := H; (try dsimp only at H); have A5 := Aside0.mk A50; clear A50
      by_cases c6 : t700003 = true
      ·subst c6; have H1 : (if x3_1 > 0 then (if 0 ≤ (wrap64 (x3_1 - 1)) then (if (wrap64 (x3_1 - 1)) < (l0.length : Int) then ((spec_l1Less.f k1 ((rd_T77 l0 (wrap64 (x3_1 - 1))).f0) ((rd_T77 l0 x3_1).f0)).bind fun t700006 => (if t700006 = true then (spec_l4MapOk.l0 k1 l0 (wrap64 (x3_1 + 1))) else (some false))) else (none)) else (none)) else (spec_l4MapOk.l0 k1 l0 (wrap64 (x3_1 + 1)))) = some r := by rw [if_pos rfl] at H; exact H
       clear H; have H := H1; clear H1
       by_cases c7 : x3_1 > 0
       ·rw [if_pos c7] at H; have c7b0 : decide (0 < x3_1) = true := decide_eq_true c7; clear c7; obtain ⟨ji8, hji8⟩ : ∃ j_ : Int, (wrap64 (x3_1 - 1)) = j_ := ⟨_, rfl⟩
        replace H : (if 0 ≤ (ji8) then (if (ji8) < (l0.length : Int) then ((spec_l1Less.f k1 ((rd_T77 l0 (ji8)).f0) ((rd_T77 l0 x3_1).f0)).bind fun t700006 => (if t700006 = true then (spec_l4MapOk.l0 k1 l0 (wrap64 (x3_1 + 1))) else (some false))) else (none)) else (none)) = some r := by first | (rw [hji8] at H; exact H) | (simp only [hji8] at H ⊢; exact H)
        (try rw [hji8] at A5); have hji8w : (IntKind.i64.wrap (x3_1 - 1)) = ji8 := (i64_w _).trans hji8
        by_cases c9 : 0 ≤ (ji8)
        ·rw [if_pos c9] at H; have c9b0 : decide (0 ≤ (ji8)) = true := decide_eq_true c9; clear c9
         by_cases c10 : (ji8) < (l0.length : Int)
         ·rw [if_pos c10] at H; have c10b0 : decide ((ji8) < (l0.length : Int)) = true := decide_eq_true c10; clear c10; replace H := Option.bind_eq_some_iff.mp H; obtain ⟨t700006, A110, H⟩ := H; (try dsimp only at H); have A11 := Aside0.mk A110; clear A110
          by_cases c12 : t700006 = true
          ·subst c12; have H1 : (spec_l4MapOk.l0 k1 l0 (wrap64 (x3_1 + 1))) = some r := by rw [if_pos rfl] at H; exact H
           clear H; have H := H1; clear H1; have H' := Aside0.mk H; clear H
           try go_wp2
           have n0_ := Aside0.mk (below_drew1 HB.out); clear HB; have HB := n0_; clear n0_; have p700001 : 0 ≤ (x3_1 : Int) := of_decide_eq_true zq_2; have q700001 : x3_1 < (l0.length : Int) := of_decide_eq_true zq_2; obtain ⟨ad700001, e700001, hx700001_0, hx700001_1⟩ := at_T77 HR0.out x3_1 p700001 q700001; have hw700001_1 := hx700001_1; have hw700001_0 := hx700001_0
           cases e700001
           replace hx700001_0 := (HB.out.cell (World.block_lt_of_cell? w _ hx700001_0)).trans hx700001_0; replace hx700001_1 := (HB.out.cell (World.block_lt_of_cell? w _ hx700001_1)).trans hx700001_1; replace p700001 := eq_true p700001; replace q700001 := eq_true q700001; have p700002 : 0 ≤ (x3_1 : Int) := of_decide_eq_true zq_2; have q700002 : x3_1 < (l0.length : Int) := of_decide_eq_true zq_2; obtain ⟨ad700002, e700002, hx700002_0, hx700002_1⟩ := at_T77 HR0.out x3_1 p700002 q700002; have hw700002_1 := hx700002_1; have hw700002_0 := hx700002_0; obtain rfl : ad700001 = ad700002 := (by injection e700002)
           replace hx700002_0 := (HB.out.cell (World.block_lt_of_cell? w _ hx700002_0)).trans hx700002_0; replace hx700002_1 := (HB.out.cell (World.block_lt_of_cell? w _ hx700002_1)).trans hx700002_1; replace p700002 := eq_true p700002; replace q700002 := eq_true q700002; have p700004 : 0 ≤ ((ji8) : Int) := of_decide_eq_true zq_2; have q700004 : (ji8) < (l0.length : Int) := of_decide_eq_true zq_2; obtain ⟨ad700004, e700004, hx700004_0, hx700004_1⟩ := at_T77 HR0.out (ji8) p700004 q700004; have hw700004_1 := hx700004_1; have hw700004_0 := hx700004_0; obtain rfl : ad700001 = ad700004 := (by injection e700004)
           replace hx700004_0 := (HB.out.cell (World.block_lt_of_cell? w _ hx700004_0)).trans hx700004_0; replace hx700004_1 := (HB.out.cell (World.block_lt_of_cell? w _ hx700004_1)).trans hx700004_1; replace p700004 := eq_true p700004; replace q700004 := eq_true q700004; have p700005 : 0 ≤ (x3_1 : Int) := of_decide_eq_true zq_2; have q700005 : x3_1 < (l0.length : Int) := of_decide_eq_true zq_2; obtain ⟨ad700005, e700005, hx700005_0, hx700005_1⟩ := at_T77 HR0.out x3_1 p700005 q700005; have hw700005_1 := hx700005_1; have hw700005_0 := hx700005_0; obtain rfl : ad700001 = ad700005 := (by injection e700005)
           replace hx700005_0 := (HB.out.cell (World.block_lt_of_cell? w _ hx700005_0)).trans hx700005_0; replace hx700005_1 := (HB.out.cell (World.block_lt_of_cell? w _ hx700005_1)).trans hx700005_1; replace p700005 := eq_true p700005; replace q700005 := eq_true q700005; refine start_ (n := 31) (S := fun w' => w'.cell? (ad700001.add ((x3_1).toNat * 2)) = some (.string ((rd_T77 l0 x3_1).f0)) ∧ w'.cell? ⟨(ad700001.add ((x3_1).toNat * 2)).block, (ad700001.add ((x3_1).toNat * 2)).off + 1, none⟩ = some (.string ((rd_T77 l0 x3_1).f1)) ∧ w'.cell? (ad700001.add ((x3_1).toNat * 2)) = some (.string ((rd_T77 l0 x3_1).f0)) ∧ w'.cell? ⟨(ad700001.add ((x3_1).toNat * 2)).block, (ad700001.add ((x3_1).toNat * 2)).off + 1, none⟩ = some (.string ((rd_T77 l0 x3_1).f1)) ∧ w'.cell? (ad700001.add (((ji8)).toNat * 2)) = some (.string ((rd_T77 l0 (ji8)).f0)) ∧ w'.cell? ⟨(ad700001.add (((ji8)).toNat * 2)).block, (ad700001.add (((ji8)).toNat * 2)).off + 1, none⟩ = some (.string ((rd_T77 l0 (ji8)).f1)) ∧ w'.cell? (ad700001.add ((x3_1).toNat * 2)) = some (.string ((rd_T77 l0 x3_1).f0)) ∧ w'.cell? ⟨(ad700001.add ((x3_1).toNat * 2)).block, (ad700001.add ((x3_1).toNat * 2)).off + 1, none⟩ = some (.string ((rd_T77 l0 x3_1).f1))) (ds := []) #[false, false, false, false, false, false, false, false, false, false, false, false, false, false, false, false, false, false, false, false, false, false, false, false, false, false, false, false, false, false, false] (by kernel_rfl) rfl rfl ⟨((HB.out.cell (World.block_lt_of_cell? w _ hw700001_0)).trans hw700001_0), ((HB.out.cell (World.block_lt_of_cell? w _ hw700001_1)).trans hw700001_1), ((HB.out.cell (World.block_lt_of_cell? w _ hw700002_0)).trans hw700002_0), ((HB.out.cell (World.block_lt_of_cell? w _ hw700002_1)).trans hw700002_1), ((HB.out.cell (World.block_lt_of_cell? w _ hw700004_0)).trans hw700004_0), ((HB.out.cell (World.block_lt_of_cell? w _ hw700004_1)).trans hw700004_1), ((HB.out.cell (World.block_lt_of_cell? w _ hw700005_0)).trans hw700005_0), ((HB.out.cell (World.block_lt_of_cell? w _ hw700005_1)).trans hw700005_1)⟩ (fun hHeld => ?_); refine with_tabW spec_l4MapOk.tab6 spec_l4MapOk.bits6 (fun HT_ HW_ => ?_); generalize wr.drew = w13 at HB hx700001_0 hx700001_1 hx700002_0 hx700002_1 hx700004_0 hx700004_1 hx700005_0 hx700005_1 hHeld ⊢; refine pq_ (i := 0) (N := some 13) HT_.out ?_; refine pq_ (i := 1) (N := some 14) HT_.out ?_; refine pq_ (i := 2) (N := some 15) HT_.out ?_; refine pq_ (i := 3) (N := some 16) HT_.out ?_
           refine pq_ (i := 5) (N := some 18) HT_.out ?_; refine pq_ (i := 6) (N := some 19) HT_.out ?_; refine pq_ (i := 7) (N := some 20) HT_.out ?_; refine pq_ (i := 8) (N := some 21) HT_.out ?_; refine tq_ (i := 4) (N := some 17) HT_.out HW_.out hHeld (hy := by rintro w' ⟨s0, s1, s2, s3, s4, s5, s6, s7⟩; go_simp; with_reducible rfl) (h := ?_); refine tq_ (i := 9) (N := some 22) HT_.out HW_.out hHeld (hy := by rintro w' ⟨s0, s1, s2, s3, s4, s5, s6, s7⟩; go_simp; with_reducible rfl) (h := ?_); refine one_ (i := 10) (N := some 23) #[true, true, true, true, true, true, true, true, true, true, true, false, false, false, false, false, false, false, false, false, false, false, false, false, false, false, false, false, false, false, false] rfl rfl (one_of HT_.out (by kernel_rfl)) (by decide) (fun K hK => ?_); refine goes_ Tryd.func125 (by kernel_rfl) rfl #[.string ((rd_T77 l0 x3_1).f0), .string ((rd_T77 l0 x3_1).f1)] (by rfl) rfl rfl zq_1 ?_
           with_reducible refine (spec_l4PairOk.calls ((rd_T77 l0 x3_1).f0) ((rd_T77 l0 x3_1).f1) true _ A5.out).mono ?_
           rintro e w' ⟨rfl, ⟨nd, rfl⟩⟩; refine ⟨_, rfl, ?_⟩; refine hK.out _ _ ⟨((HB.out.cell (World.block_lt_of_cell? w _ hw700001_0)).trans hw700001_0), ((HB.out.cell (World.block_lt_of_cell? w _ hw700001_1)).trans hw700001_1), ((HB.out.cell (World.block_lt_of_cell? w _ hw700002_0)).trans hw700002_0), ((HB.out.cell (World.block_lt_of_cell? w _ hw700002_1)).trans hw700002_1), ((HB.out.cell (World.block_lt_of_cell? w _ hw700004_0)).trans hw700004_0), ((HB.out.cell (World.block_lt_of_cell? w _ hw700004_1)).trans hw700004_1), ((HB.out.cell (World.block_lt_of_cell? w _ hw700005_0)).trans hw700005_0), ((HB.out.cell (World.block_lt_of_cell? w _ hw700005_1)).trans hw700005_1)⟩ (fun hHeld => ?_); clear hK K; refine norm_ (a' := ?_) ?_ ?_; rotate_left
           ·show Act.put _ (some 23) _ = _; simp only [Act.put, List.setIfInBounds_toArray, List.set_cons_zero, List.set_cons_succ, i64_w, i32_w]; rfl
           refine pq_ (i := 11) (N := some 24) HT_.out ?_; refine pq_ (i := 12) (N := some 25) HT_.out ?_; refine pq_ (i := 13) (N := some 26) HT_.out ?_; refine pq_ (i := 14) (N := some 27) HT_.out ?_; refine pq_ (i := 15) (N := some 28) HT_.out ?_; refine pq_ (i := 16) (N := some 29) HT_.out ?_; refine pq_ (i := 17) (N := some 30) HT_.out ?_; refine pq_ (i := 18) (N := some 31) HT_.out ?_; refine pq_ (i := 19) (N := some 32) HT_.out ?_; refine pq_ (i := 20) (N := some 33) HT_.out ?_; refine pq_ (i := 22) (N := some 35) HT_.out ?_; refine pq_ (i := 23) (N := some 36) HT_.out ?_; refine pq_ (i := 24) (N := some 37) HT_.out ?_; refine pq_ (i := 25) (N := some 38) HT_.out ?_; refine tq_ (i := 21) (N := some 34) HT_.out HW_.out hHeld (hy := by rintro w' ⟨s0, s1, s2, s3, s4, s5, s6, s7⟩; go_simp; with_reducible rfl) (h := ?_); refine tq_ (i := 26) (N := some 39) HT_.out HW_.out hHeld (hy := by rintro w' ⟨s0, s1, s2, s3, s4, s5, s6, s7⟩; go_simp; with_reducible rfl) (h := ?_); refine one_ (i := 27) (N := some 40) #[true, true, true, true, true, true, true, true, true, true, true, true, true, true, true, true, true, true, true, true, true, true, true, true, true, true, true, true, false, false, false] rfl rfl (one_of HT_.out (by kernel_rfl)) (by decide) (fun K hK => ?_); refine goes_ Tryd.func103 (by kernel_rfl) rfl #[.string ((rd_T77 l0 (ji8)).f0), .string ((rd_T77 l0 x3_1).f0)] (by rfl) rfl rfl (by (try simp only [List.map_toArray, List.map_cons, List.map_nil]); first | done | (simp only [hji8]; rfl) | rfl | (simp only [List.length_drop, List.length_take]; rfl)) ?_
           with_reducible refine (spec_l1Less.calls k1 ((rd_T77 l0 (ji8)).f0) ((rd_T77 l0 x3_1).f0) true _ A11.out).mono ?_
           rintro e w' ⟨rfl, ⟨nd, rfl⟩⟩; refine ⟨_, rfl, ?_⟩; refine hK.out _ _ ⟨((HB.out.cell (World.block_lt_of_cell? w _ hw700001_0)).trans hw700001_0), ((HB.out.cell (World.block_lt_of_cell? w _ hw700001_1)).trans hw700001_1), ((HB.out.cell (World.block_lt_of_cell? w _ hw700002_0)).trans hw700002_0), ((HB.out.cell (World.block_lt_of_cell? w _ hw700002_1)).trans hw700002_1), ((HB.out.cell (World.block_lt_of_cell? w _ hw700004_0)).trans hw700004_0), ((HB.out.cell (World.block_lt_of_cell? w _ hw700004_1)).trans hw700004_1), ((HB.out.cell (World.block_lt_of_cell? w _ hw700005_0)).trans hw700005_0), ((HB.out.cell (World.block_lt_of_cell? w _ hw700005_1)).trans hw700005_1)⟩ (fun hHeld => ?_); clear hK K; refine norm_ (a' := ?_) ?_ ?_; rotate_left
           ·show Act.put _ (some 40) _ = _; simp only [Act.put, List.setIfInBounds_toArray, List.set_cons_zero, List.set_cons_succ, i64_w, i32_w]; rfl
           refine pq_ (i := 28) (N := some 41) HT_.out ?_; refine pq_ (i := 29) (N := some 42) HT_.out ?_; refine pq_ (i := 30) (N := some 43) HT_.out ?_; refine done_ (done_of HT_.out (by kernel_rfl)) ?_
           try go_wp2
           go_roundg k1
           case measure => have := HK1.out; omega
           case rel => exact ⟨(wrap64 (x3_1 + 1)), zq_5, H', ⟨by have := HK1.out; omega⟩, ⟨by repeat (first | (with_reducible first | exact HB.out | apply below_alloc | apply pw_below_drewN | apply below_drew1) | exact HB.out)⟩⟩
          ·replace c12 := Bool.eq_false_iff.mpr c12; subst c12; have H1 : (some false) = some r := by rw [if_neg (show ¬ (false = true) by decide)] at H; exact H
           clear H; have H := H1; clear H1; obtain rfl := Option.some.inj H
           try go_wp2
           have n0_ := Aside0.mk (below_drew1 HB.out); clear HB; have HB := n0_; clear n0_; have p700001 : 0 ≤ (x3_1 : Int) := of_decide_eq_true zq_2; have q700001 : x3_1 < (l0.length : Int) := of_decide_eq_true zq_2; obtain ⟨ad700001, e700001, hx700001_0, hx700001_1⟩ := at_T77 HR0.out x3_1 p700001 q700001; have hw700001_1 := hx700001_1; have hw700001_0 := hx700001_0
           cases e700001
           replace hx700001_0 := (HB.out.cell (World.block_lt_of_cell? w _ hx700001_0)).trans hx700001_0; replace hx700001_1 := (HB.out.cell (World.block_lt_of_cell? w _ hx700001_1)).trans hx700001_1; replace p700001 := eq_true p700001; replace q700001 := eq_true q700001; have p700002 : 0 ≤ (x3_1 : Int) := of_decide_eq_true zq_2; have q700002 : x3_1 < (l0.length : Int) := of_decide_eq_true zq_2; obtain ⟨ad700002, e700002, hx700002_0, hx700002_1⟩ := at_T77 HR0.out x3_1 p700002 q700002; have hw700002_1 := hx700002_1; have hw700002_0 := hx700002_0; obtain rfl : ad700001 = ad700002 := (by injection e700002)
           replace hx700002_0 := (HB.out.cell (World.block_lt_of_cell? w _ hx700002_0)).trans hx700002_0; replace hx700002_1 := (HB.out.cell (World.block_lt_of_cell? w _ hx700002_1)).trans hx700002_1; replace p700002 := eq_true p700002; replace q700002 := eq_true q700002; have p700004 : 0 ≤ ((ji8) : Int) := of_decide_eq_true zq_2; have q700004 : (ji8) < (l0.length : Int) := of_decide_eq_true zq_2; obtain ⟨ad700004, e700004, hx700004_0, hx700004_1⟩ := at_T77 HR0.out (ji8) p700004 q700004; have hw700004_1 := hx700004_1; have hw700004_0 := hx700004_0; obtain rfl : ad700001 = ad700004 := (by injection e700004)
           replace hx700004_0 := (HB.out.cell (World.block_lt_of_cell? w _ hx700004_0)).trans hx700004_0; replace hx700004_1 := (HB.out.cell (World.block_lt_of_cell? w _ hx700004_1)).trans hx700004_1; replace p700004 := eq_true p700004; replace q700004 := eq_true q700004; have p700005 : 0 ≤ (x3_1 : Int) := of_decide_eq_true zq_2; have q700005 : x3_1 < (l0.length : Int) := of_decide_eq_true zq_2; obtain ⟨ad700005, e700005, hx700005_0, hx700005_1⟩ := at_T77 HR0.out x3_1 p700005 q700005; have hw700005_1 := hx700005_1; have hw700005_0 := hx700005_0; obtain rfl : ad700001 = ad700005 := (by injection e700005)
           replace hx700005_0 := (HB.out.cell (World.block_lt_of_cell? w _ hx700005_0)).trans hx700005_0; replace hx700005_1 := (HB.out.cell (World.block_lt_of_cell? w _ hx700005_1)).trans hx700005_1; replace p700005 := eq_true p700005; replace q700005 := eq_true q700005; refine start_ (n := 31) (S := fun w' => w'.cell? (ad700001.add ((x3_1).toNat * 2)) = some (.string ((rd_T77 l0 x3_1).f0)) ∧ w'.cell? ⟨(ad700001.add ((x3_1).toNat * 2)).block, (ad700001.add ((x3_1).toNat * 2)).off + 1, none⟩ = some (.string ((rd_T77 l0 x3_1).f1)) ∧ w'.cell? (ad700001.add ((x3_1).toNat * 2)) = some (.string ((rd_T77 l0 x3_1).f0)) ∧ w'.cell? ⟨(ad700001.add ((x3_1).toNat * 2)).block, (ad700001.add ((x3_1).toNat * 2)).off + 1, none⟩ = some (.string ((rd_T77 l0 x3_1).f1)) ∧ w'.cell? (ad700001.add (((ji8)).toNat * 2)) = some (.string ((rd_T77 l0 (ji8)).f0)) ∧ w'.cell? ⟨(ad700001.add (((ji8)).toNat * 2)).block, (ad700001.add (((ji8)).toNat * 2)).off + 1, none⟩ = some (.string ((rd_T77 l0 (ji8)).f1)) ∧ w'.cell? (ad700001.add ((x3_1).toNat * 2)) = some (.string ((rd_T77 l0 x3_1).f0)) ∧ w'.cell? ⟨(ad700001.add ((x3_1).toNat * 2)).block, (ad700001.add ((x3_1).toNat * 2)).off + 1, none⟩ = some (.string ((rd_T77 l0 x3_1).f1))) (ds := []) #[false, false, false, false, false, false, false, false, false, false, false, false, false, false, false, false, false, false, false, false, false, false, false, false, false, false, false, false, false, false, false] (by kernel_rfl) rfl rfl ⟨((HB.out.cell (World.block_lt_of_cell? w _ hw700001_0)).trans hw700001_0), ((HB.out.cell (World.block_lt_of_cell? w _ hw700001_1)).trans hw700001_1), ((HB.out.cell (World.block_lt_of_cell? w _ hw700002_0)).trans hw700002_0), ((HB.out.cell (World.block_lt_of_cell? w _ hw700002_1)).trans hw700002_1), ((HB.out.cell (World.block_lt_of_cell? w _ hw700004_0)).trans hw700004_0), ((HB.out.cell (World.block_lt_of_cell? w _ hw700004_1)).trans hw700004_1), ((HB.out.cell (World.block_lt_of_cell? w _ hw700005_0)).trans hw700005_0), ((HB.out.cell (World.block_lt_of_cell? w _ hw700005_1)).trans hw700005_1)⟩ (fun hHeld => ?_); refine with_tabW spec_l4MapOk.tab6 spec_l4MapOk.bits6 (fun HT_ HW_ => ?_); generalize wr.drew = w14 at HB hx700001_0 hx700001_1 hx700002_0 hx700002_1 hx700004_0 hx700004_1 hx700005_0 hx700005_1 hHeld ⊢; refine pq_ (i := 0) (N := some 13) HT_.out ?_; refine pq_ (i := 1) (N := some 14) HT_.out ?_; refine pq_ (i := 2) (N := some 15) HT_.out ?_; refine pq_ (i := 3) (N := some 16) HT_.out ?_
           refine pq_ (i := 5) (N := some 18) HT_.out ?_; refine pq_ (i := 6) (N := some 19) HT_.out ?_; refine pq_ (i := 7) (N := some 20) HT_.out ?_; refine pq_ (i := 8) (N := some 21) HT_.out ?_; refine tq_ (i := 4) (N := some 17) HT_.out HW_.out hHeld (hy := by rintro w' ⟨s0, s1, s2, s3, s4, s5, s6, s7⟩; go_simp; with_reducible rfl) (h := ?_); refine tq_ (i := 9) (N := some 22) HT_.out HW_.out hHeld (hy := by rintro w' ⟨s0, s1, s2, s3, s4, s5, s6, s7⟩; go_simp; with_reducible rfl) (h := ?_); refine one_ (i := 10) (N := some 23) #[true, true, true, true, true, true, true, true, true, true, true, false, false, false, false, false, false, false, false, false, false, false, false, false, false, false, false, false, false, false, false] rfl rfl (one_of HT_.out (by kernel_rfl)) (by decide) (fun K hK => ?_); refine goes_ Tryd.func125 (by kernel_rfl) rfl #[.string ((rd_T77 l0 x3_1).f0), .string ((rd_T77 l0 x3_1).f1)] (by rfl) rfl rfl zq_1 ?_
           with_reducible refine (spec_l4PairOk.calls ((rd_T77 l0 x3_1).f0) ((rd_T77 l0 x3_1).f1) true _ A5.out).mono ?_
           rintro e w' ⟨rfl, ⟨nd, rfl⟩⟩; refine ⟨_, rfl, ?_⟩; refine hK.out _ _ ⟨((HB.out.cell (World.block_lt_of_cell? w _ hw700001_0)).trans hw700001_0), ((HB.out.cell (World.block_lt_of_cell? w _ hw700001_1)).trans hw700001_1), ((HB.out.cell (World.block_lt_of_cell? w _ hw700002_0)).trans hw700002_0), ((HB.out.cell (World.block_lt_of_cell? w _ hw700002_1)).trans hw700002_1), ((HB.out.cell (World.block_lt_of_cell? w _ hw700004_0)).trans hw700004_0), ((HB.out.cell (World.block_lt_of_cell? w _ hw700004_1)).trans hw700004_1), ((HB.out.cell (World.block_lt_of_cell? w _ hw700005_0)).trans hw700005_0), ((HB.out.cell (World.block_lt_of_cell? w _ hw700005_1)).trans hw700005_1)⟩ (fun hHeld => ?_); clear hK K; refine norm_ (a' := ?_) ?_ ?_; rotate_left
           ·show Act.put _ (some 23) _ = _; simp only [Act.put, List.setIfInBounds_toArray, List.set_cons_zero, List.set_cons_succ, i64_w, i32_w]; rfl
           refine pq_ (i := 11) (N := some 24) HT_.out ?_; refine pq_ (i := 12) (N := some 25) HT_.out ?_; refine pq_ (i := 13) (N := some 26) HT_.out ?_; refine pq_ (i := 14) (N := some 27) HT_.out ?_; refine pq_ (i := 15) (N := some 28) HT_.out ?_; refine pq_ (i := 16) (N := some 29) HT_.out ?_; refine pq_ (i := 17) (N := some 30) HT_.out ?_; refine pq_ (i := 18) (N := some 31) HT_.out ?_; refine pq_ (i := 19) (N := some 32) HT_.out ?_; refine pq_ (i := 20) (N := some 33) HT_.out ?_; refine pq_ (i := 22) (N := some 35) HT_.out ?_; refine pq_ (i := 23) (N := some 36) HT_.out ?_; refine pq_ (i := 24) (N := some 37) HT_.out ?_; refine pq_ (i := 25) (N := some 38) HT_.out ?_; refine tq_ (i := 21) (N := some 34) HT_.out HW_.out hHeld (hy := by rintro w' ⟨s0, s1, s2, s3, s4, s5, s6, s7⟩; go_simp; with_reducible rfl) (h := ?_); refine tq_ (i := 26) (N := some 39) HT_.out HW_.out hHeld (hy := by rintro w' ⟨s0, s1, s2, s3, s4, s5, s6, s7⟩; go_simp; with_reducible rfl) (h := ?_); refine one_ (i := 27) (N := some 40) #[true, true, true, true, true, true, true, true, true, true, true, true, true, true, true, true, true, true, true, true, true, true, true, true, true, true, true, true, false, false, false] rfl rfl (one_of HT_.out (by kernel_rfl)) (by decide) (fun K hK => ?_); refine goes_ Tryd.func103 (by kernel_rfl) rfl #[.string ((rd_T77 l0 (ji8)).f0), .string ((rd_T77 l0 x3_1).f0)] (by rfl) rfl rfl (by (try simp only [List.map_toArray, List.map_cons, List.map_nil]); first | done | (simp only [hji8]; rfl) | rfl | (simp only [List.length_drop, List.length_take]; rfl)) ?_
           with_reducible refine (spec_l1Less.calls k1 ((rd_T77 l0 (ji8)).f0) ((rd_T77 l0 x3_1).f0) false _ A11.out).mono ?_
           rintro e w' ⟨rfl, ⟨nd, rfl⟩⟩; refine ⟨_, rfl, ?_⟩; refine hK.out _ _ ⟨((HB.out.cell (World.block_lt_of_cell? w _ hw700001_0)).trans hw700001_0), ((HB.out.cell (World.block_lt_of_cell? w _ hw700001_1)).trans hw700001_1), ((HB.out.cell (World.block_lt_of_cell? w _ hw700002_0)).trans hw700002_0), ((HB.out.cell (World.block_lt_of_cell? w _ hw700002_1)).trans hw700002_1), ((HB.out.cell (World.block_lt_of_cell? w _ hw700004_0)).trans hw700004_0), ((HB.out.cell (World.block_lt_of_cell? w _ hw700004_1)).trans hw700004_1), ((HB.out.cell (World.block_lt_of_cell? w _ hw700005_0)).trans hw700005_0), ((HB.out.cell (World.block_lt_of_cell? w _ hw700005_1)).trans hw700005_1)⟩ (fun hHeld => ?_); clear hK K; refine norm_ (a' := ?_) ?_ ?_; rotate_left
           ·show Act.put _ (some 40) _ = _; simp only [Act.put, List.setIfInBounds_toArray, List.set_cons_zero, List.set_cons_succ, i64_w, i32_w]; rfl
           refine pq_ (i := 28) (N := some 41) HT_.out ?_; refine pq_ (i := 29) (N := some 42) HT_.out ?_; refine pq_ (i := 30) (N := some 43) HT_.out ?_; refine done_ (done_of HT_.out (by kernel_rfl)) ?_
           try go_wp2
           go_ret
           exact ⟨by first | rfl | (simp [errW_none, errW_some] <;> rfl) | (simp only [← hji8]; first | rfl | (simp [errW_none, errW_some] <;> rfl)) | (simp [*, errW_none, errW_some] <;> rfl), by repeat (first | (with_reducible first | exact HB.out | apply below_alloc | apply pw_below_drewN | apply below_drew1) | exact HB.out)⟩
         ·rw [if_neg c10] at H; exact absurd H (by simp)
        ·rw [if_neg c9] at H; exact absurd H (by simp)
       ·rw [if_neg c7] at H; have c7b0 : decide (0 < x3_1) = false := decide_eq_false c7; clear c7; have H' := Aside0.mk H; clear H
        try go_wp2
        have n0_ := Aside0.mk (below_drew1 HB.out); clear HB; have HB := n0_; clear n0_; have p700001 : 0 ≤ (x3_1 : Int) := of_decide_eq_true zq_2; have q700001 : x3_1 < (l0.length : Int) := of_decide_eq_true zq_2; obtain ⟨ad700001, e700001, hx700001_0, hx700001_1⟩ := at_T77 HR0.out x3_1 p700001 q700001; have hw700001_1 := hx700001_1; have hw700001_0 := hx700001_0
        cases e700001
        replace hx700001_0 := (HB.out.cell (World.block_lt_of_cell? w _ hx700001_0)).trans hx700001_0; replace hx700001_1 := (HB.out.cell (World.block_lt_of_cell? w _ hx700001_1)).trans hx700001_1; replace p700001 := eq_true p700001; replace q700001 := eq_true q700001; have p700002 : 0 ≤ (x3_1 : Int) := of_decide_eq_true zq_2; have q700002 : x3_1 < (l0.length : Int) := of_decide_eq_true zq_2; obtain ⟨ad700002, e700002, hx700002_0, hx700002_1⟩ := at_T77 HR0.out x3_1 p700002 q700002; have hw700002_1 := hx700002_1; have hw700002_0 := hx700002_0; obtain rfl : ad700001 = ad700002 := (by injection e700002)
        replace hx700002_0 := (HB.out.cell (World.block_lt_of_cell? w _ hx700002_0)).trans hx700002_0; replace hx700002_1 := (HB.out.cell (World.block_lt_of_cell? w _ hx700002_1)).trans hx700002_1; replace p700002 := eq_true p700002; replace q700002 := eq_true q700002; refine start_ (n := 31) (S := fun w' => w'.cell? (ad700001.add ((x3_1).toNat * 2)) = some (.string ((rd_T77 l0 x3_1).f0)) ∧ w'.cell? ⟨(ad700001.add ((x3_1).toNat * 2)).block, (ad700001.add ((x3_1).toNat * 2)).off + 1, none⟩ = some (.string ((rd_T77 l0 x3_1).f1)) ∧ w'.cell? (ad700001.add ((x3_1).toNat * 2)) = some (.string ((rd_T77 l0 x3_1).f0)) ∧ w'.cell? ⟨(ad700001.add ((x3_1).toNat * 2)).block, (ad700001.add ((x3_1).toNat * 2)).off + 1, none⟩ = some (.string ((rd_T77 l0 x3_1).f1))) (ds := []) #[false, false, false, false, false, false, false, false, false, false, false, false, false, false, false, false, false, false, false, false, false, false, false, false, false, false, false, false, false, false, false] (by kernel_rfl) rfl rfl ⟨((HB.out.cell (World.block_lt_of_cell? w _ hw700001_0)).trans hw700001_0), ((HB.out.cell (World.block_lt_of_cell? w _ hw700001_1)).trans hw700001_1), ((HB.out.cell (World.block_lt_of_cell? w _ hw700002_0)).trans hw700002_0), ((HB.out.cell (World.block_lt_of_cell? w _ hw700002_1)).trans hw700002_1)⟩ (fun hHeld => ?_); refine with_tabW spec_l4MapOk.tab6 spec_l4MapOk.bits6 (fun HT_ HW_ => ?_); generalize wr.drew = w15 at HB hx700001_0 hx700001_1 hx700002_0 hx700002_1 hHeld ⊢; refine pq_ (i := 0) (N := some 13) HT_.out ?_; refine pq_ (i := 1) (N := some 14) HT_.out ?_; refine pq_ (i := 2) (N := some 15) HT_.out ?_; refine pq_ (i := 3) (N := some 16) HT_.out ?_; refine pq_ (i := 5) (N := some 18) HT_.out ?_; refine pq_ (i := 6) (N := some 19) HT_.out ?_; refine pq_ (i := 7) (N := some 20) HT_.out ?_; refine pq_ (i := 8) (N := some 21) HT_.out ?_; refine tq_ (i := 4) (N := some 17) HT_.out HW_.out hHeld (hy := by rintro w' ⟨s0, s1, s2, s3⟩; go_simp; with_reducible rfl) (h := ?_); refine tq_ (i := 9) (N := some 22) HT_.out HW_.out hHeld (hy := by rintro w' ⟨s0, s1, s2, s3⟩; go_simp; with_reducible rfl) (h := ?_); refine one_ (i := 10) (N := some 23) #[true, true, true, true, true, true, true, true, true, true, true, false, false, false, false, false, false, false, false, false, false, false, false, false, false, false, false, false, false, false, false] rfl rfl (one_of HT_.out (by kernel_rfl)) (by decide) (fun K hK => ?_)
        refine goes_ Tryd.func125 (by kernel_rfl) rfl #[.string ((rd_T77 l0 x3_1).f0), .string ((rd_T77 l0 x3_1).f1)] (by rfl) rfl rfl zq_1 ?_
        with_reducible refine (spec_l4PairOk.calls ((rd_T77 l0 x3_1).f0) ((rd_T77 l0 x3_1).f1) true _ A5.out).mono ?_
        rintro e w' ⟨rfl, ⟨nd, rfl⟩⟩; refine ⟨_, rfl, ?_⟩; refine hK.out _ _ ⟨((HB.out.cell (World.block_lt_of_cell? w _ hw700001_0)).trans hw700001_0), ((HB.out.cell (World.block_lt_of_cell? w _ hw700001_1)).trans hw700001_1), ((HB.out.cell (World.block_lt_of_cell? w _ hw700002_0)).trans hw700002_0), ((HB.out.cell (World.block_lt_of_cell? w _ hw700002_1)).trans hw700002_1)⟩ (fun hHeld => ?_); clear hK K; refine norm_ (a' := ?_) ?_ ?_; rotate_left
        ·show Act.put _ (some 23) _ = _; simp only [Act.put, List.setIfInBounds_toArray, List.set_cons_zero, List.set_cons_succ, i64_w, i32_w]; rfl
        refine pq_ (i := 11) (N := some 24) HT_.out ?_; refine pq_ (i := 12) (N := some 25) HT_.out ?_; refine pq_ (i := 13) (N := some 26) HT_.out ?_; refine pq_ (i := 14) (N := some 27) HT_.out ?_; refine pq_ (i := 15) (N := some 28) HT_.out ?_; refine pu_ (i := 16) (N := some 29) HT_.out ?_; refine pu_ (i := 17) (N := some 30) HT_.out ?_; refine pu_ (i := 18) (N := some 31) HT_.out ?_; refine pu_ (i := 19) (N := some 32) HT_.out ?_; refine pu_ (i := 20) (N := some 33) HT_.out ?_; refine pu_ (i := 21) (N := some 34) HT_.out ?_; refine pu_ (i := 22) (N := some 35) HT_.out ?_; refine pu_ (i := 23) (N := some 36) HT_.out ?_; refine pu_ (i := 24) (N := some 37) HT_.out ?_; refine pu_ (i := 25) (N := some 38) HT_.out ?_; refine pu_ (i := 26) (N := some 39) HT_.out ?_; refine pu_ (i := 27) (N := some 40) HT_.out ?_; refine pu_ (i := 28) (N := some 41) HT_.out ?_; refine pq_ (i := 29) (N := some 42) HT_.out ?_; refine pq_ (i := 30) (N := some 43) HT_.out ?_; refine done_ (done_of HT_.out (by kernel_rfl)) ?_
        try go_wp2
        go_roundg k1
        case measure => have := HK1.out; omega
        case rel => exact ⟨(wrap64 (x3_1 + 1)), zq_5, H', ⟨by have := HK1.out; omega⟩, ⟨by repeat (first | (with_reducible first | exact HB.out | apply below_alloc | apply pw_below_drewN | apply below_drew1) | exact HB.out)⟩⟩
      ·replace c6 := Bool.eq_false_iff.mpr c6; subst c6; have H1 : (some false) = some r := by rw [if_neg (show ¬ (false = true) by decide)] at H; exact H
       clear H; have H := H1; clear H1; obtain rfl := Option.some.inj H
       try go_wp2
       have n0_ := Aside0.mk (below_drew1 HB.out); clear HB; have HB := n0_; clear n0_; have p700001 : 0 ≤ (x3_1 : Int) := of_decide_eq_true zq_2; have q700001 : x3_1 < (l0.length : Int) := of_decide_eq_true zq_2; obtain ⟨ad700001, e700001, hx700001_0, hx700001_1⟩ := at_T77 HR0.out x3_1 p700001 q700001; have hw700001_1 := hx700001_1; have hw700001_0 := hx700001_0
       cases e700001
       replace hx700001_0 := (HB.out.cell (World.block_lt_of_cell? w _ hx700001_0)).trans hx700001_0; replace hx700001_1 := (HB.out.cell (World.block_lt_of_cell? w _ hx700001_1)).trans hx700001_1; replace p700001 := eq_true p700001; replace q700001 := eq_true q700001; have p700002 : 0 ≤ (x3_1 : Int) := of_decide_eq_true zq_2; have q700002 : x3_1 < (l0.length : Int) := of_decide_eq_true zq_2; obtain ⟨ad700002, e700002, hx700002_0, hx700002_1⟩ := at_T77 HR0.out x3_1 p700002 q700002; have hw700002_1 := hx700002_1; have hw700002_0 := hx700002_0; obtain rfl : ad700001 = ad700002 := (by injection e700002)
       replace hx700002_0 := (HB.out.cell (World.block_lt_of_cell? w _ hx700002_0)).trans hx700002_0; replace hx700002_1 := (HB.out.cell (World.block_lt_of_cell? w _ hx700002_1)).trans hx700002_1; replace p700002 := eq_true p700002; replace q700002 := eq_true q700002; refine start_ (n := 31) (S := fun w' => w'.cell? (ad700001.add ((x3_1).toNat * 2)) = some (.string ((rd_T77 l0 x3_1).f0)) ∧ w'.cell? ⟨(ad700001.add ((x3_1).toNat * 2)).block, (ad700001.add ((x3_1).toNat * 2)).off + 1, none⟩ = some (.string ((rd_T77 l0 x3_1).f1)) ∧ w'.cell? (ad700001.add ((x3_1).toNat * 2)) = some (.string ((rd_T77 l0 x3_1).f0)) ∧ w'.cell? ⟨(ad700001.add ((x3_1).toNat * 2)).block, (ad700001.add ((x3_1).toNat * 2)).off + 1, none⟩ = some (.string ((rd_T77 l0 x3_1).f1))) (ds := []) #[false, false, false, false, false, false, false, false, false, false, false, false, false, false, false, false, false, false, false, false, false, false, false, false, false, false, false, false, false, false, false] (by kernel_rfl) rfl rfl ⟨((HB.out.cell (World.block_lt_of_cell? w _ hw700001_0)).trans hw700001_0), ((HB.out.cell (World.block_lt_of_cell? w _ hw700001_1)).trans hw700001_1), ((HB.out.cell (World.block_lt_of_cell? w _ hw700002_0)).trans hw700002_0), ((HB.out.cell (World.block_lt_of_cell? w _ hw700002_1)).trans hw700002_1)⟩ (fun hHeld => ?_); refine with_tabW spec_l4MapOk.tab6 spec_l4MapOk.bits6 (fun HT_ HW_ => ?_); generalize wr.drew = w16 at HB hx700001_0 hx700001_1 hx700002_0 hx700002_1 hHeld ⊢; refine pq_ (i := 0) (N := some 13) HT_.out ?_; refine pq_ (i := 1) (N := some 14) HT_.out ?_; refine pq_ (i := 2) (N := some 15) HT_.out ?_; refine pq_ (i := 3) (N := some 16) HT_.out ?_; refine pq_ (i := 5) (N := some 18) HT_.out ?_; refine pq_ (i := 6) (N := some 19) HT_.out ?_; refine pq_ (i := 7) (N := some 20) HT_.out ?_; refine pq_ (i := 8) (N := some 21) HT_.out ?_; refine tq_ (i := 4) (N := some 17) HT_.out HW_.out hHeld (hy := by rintro w' ⟨s0, s1, s2, s3⟩; go_simp; with_reducible rfl) (h := ?_); refine tq_ (i := 9) (N := some 22) HT_.out HW_.out hHeld (hy := by rintro w' ⟨s0, s1, s2, s3⟩; go_simp; with_reducible rfl) (h := ?_); refine one_ (i := 10) (N := some 23) #[true, true, true, true, true, true, true, true, true, true, true, false, false, false, false, false, false, false, false, false, false, false, false, false, false, false, false, false, false, false, false] rfl rfl (one_of HT_.out (by kernel_rfl)) (by decide) (fun K hK => ?_)
       refine goes_ Tryd.func125 (by kernel_rfl) rfl #[.string ((rd_T77 l0 x3_1).f0), .string ((rd_T77 l0 x3_1).f1)] (by rfl) rfl rfl zq_1 ?_
       with_reducible refine (spec_l4PairOk.calls ((rd_T77 l0 x3_1).f0) ((rd_T77 l0 x3_1).f1) false _ A5.out).mono ?_
       rintro e w' ⟨rfl, ⟨nd, rfl⟩⟩; refine ⟨_, rfl, ?_⟩; refine hK.out _ _ ⟨((HB.out.cell (World.block_lt_of_cell? w _ hw700001_0)).trans hw700001_0), ((HB.out.cell (World.block_lt_of_cell? w _ hw700001_1)).trans hw700001_1), ((HB.out.cell (World.block_lt_of_cell? w _ hw700002_0)).trans hw700002_0), ((HB.out.cell (World.block_lt_of_cell? w _ hw700002_1)).trans hw700002_1)⟩ (fun hHeld => ?_); clear hK K; refine norm_ (a' := ?_) ?_ ?_; rotate_left
       ·show Act.put _ (some 23) _ = _; simp only [Act.put, List.setIfInBounds_toArray, List.set_cons_zero, List.set_cons_succ, i64_w, i32_w]; rfl
       refine pq_ (i := 11) (N := some 24) HT_.out ?_; refine pq_ (i := 12) (N := some 25) HT_.out ?_; refine pu_ (i := 13) (N := some 26) HT_.out ?_; refine pu_ (i := 14) (N := some 27) HT_.out ?_; refine pu_ (i := 15) (N := some 28) HT_.out ?_; refine pu_ (i := 16) (N := some 29) HT_.out ?_; refine pu_ (i := 17) (N := some 30) HT_.out ?_; refine pu_ (i := 18) (N := some 31) HT_.out ?_; refine pu_ (i := 19) (N := some 32) HT_.out ?_; refine pu_ (i := 20) (N := some 33) HT_.out ?_; refine pu_ (i := 21) (N := some 34) HT_.out ?_; refine pu_ (i := 22) (N := some 35) HT_.out ?_; refine pu_ (i := 23) (N := some 36) HT_.out ?_; refine pu_ (i := 24) (N := some 37) HT_.out ?_; refine pu_ (i := 25) (N := some 38) HT_.out ?_; refine pu_ (i := 26) (N := some 39) HT_.out ?_; refine pu_ (i := 27) (N := some 40) HT_.out ?_; refine pu_ (i := 28) (N := some 41) HT_.out ?_; refine pu_ (i := 29) (N := some 42) HT_.out ?_; refine pq_ (i := 30) (N := some 43) HT_.out ?_; refine done_ (done_of HT_.out (by kernel_rfl)) ?_
       try go_wp2
       go_ret
       exact ⟨by first | rfl | (simp [errW_none, errW_some] <;> rfl) | (simp [*, errW_none, errW_some] <;> rfl), by repeat (first | (with_reducible first | exact HB.out | apply below_alloc | apply pw_below_drewN | apply below_drew1) | exact HB.out)⟩
     ·rw [if_neg c4] at H; exact absurd H (by simp)
    ·rw [if_neg c3] at H; have c3b0 : decide (x3_1 < (l0.length : Int)) = false := decide_eq_false c3; clear c3; obtain rfl := Option.some.inj H
     go_wp2
     go_ret
     exact ⟨by first | rfl | (simp [errW_none, errW_some] <;> rfl) | (simp [*, errW_none, errW_some] <;> rfl), by repeat (first | (with_reducible first | exact HB.out | apply below_alloc | apply pw_below_drewN | apply below_drew1) | exact HB.out)⟩

end Go.Proofs.YtaepebkeijmjgaaDoor.Z
end
section
namespace Go.Proofs.YtaepebkeijmjgaaDoor.Z
open RowKit YtaepebkeijmjgaaDoor YtaepebkeijmjgaaDoorW.PrintWords YtaepebkeijmjgaaDoorW.PrintLast
set_option linter.all false
theorem l4PairOk_f (k v : ByteArray) : spec_l4PairOk.f k v = some (pairOk k v) := by
 unfold spec_l4PairOk.f pairOk
 by_cases h1 : 1 ≤ k.size
 ·rw [if_pos (by omega), decide_eq_true h1]
  by_cases h2 : k.size ≤ 256
  ·rw [if_pos (by omega), decide_eq_true h2]; refine congrArg some ?_; rw [Bool.true_and, Bool.true_and, decide_eq_decide]; omega
  ·rw [if_neg (by omega), decide_eq_false h2]; rfl
 ·rw [if_neg (by omega), decide_eq_false h1]; rfl
def keysOk (l : List S77) : Prop := ∀ p ∈ l, p.f0.size ≤ 1048576
theorem keysOk_get {l : List S77} (h : keysOk l) (i : Nat) (hi : i < l.length) : (l.getD i zP).f0.size ≤ 1048576 := by
 rw [List.getD_eq_getElem?_getD, List.getElem?_eq_getElem hi]; exact h _ (List.getElem_mem _)
theorem l4MapOk_loop (l : List S77) (hl : l.length ≤ 500) (hs : keysOk l) : ∀ (d i k : Nat), l.length = i + d → d + 2100000 < k → spec_l4MapOk.l0 k l (i : Int) = some (okD l i d) := by
 intro d
 induction d with
 | zero =>
  intro i k h hk; obtain ⟨k, rfl⟩ : ∃ j, k = j + 1 := ⟨k - 1, by omega⟩
  simp only [spec_l4MapOk.l0]; rw [if_neg (by omega)]; rfl
 | succ d ih =>
  intro i k h hk; obtain ⟨k, rfl⟩ : ∃ j, k = j + 1 := ⟨k - 1, by omega⟩
  simp only [spec_l4MapOk.l0]; rw [if_pos (by omega), if_pos (by omega), rdP l i (by omega), l4PairOk_f, Option.bind_some]; rw [okD, okAt]
  cases hp : pairOk (l.getD i zP).f0 (l.getD i zP).f1
  ·rw [if_neg (by decide)]; rfl
  rw [if_pos rfl, show wrap64 ((i : Int) + 1) = ((i + 1 : Nat) : Int) from wN (by omega) (by omega), ih (i + 1) k (by omega) (by omega)]
  by_cases h0 : i = 0
  ·rw [if_neg (by omega), decide_eq_true h0]; rfl
  ·have hk1 := keysOk_get hs (i - 1) (by omega); rw [if_pos (by omega), show wrap64 ((i : Int) - 1) = ((i - 1 : Nat) : Int) from wN (by omega) (by omega), if_pos (by omega), if_pos (by omega), rdP l (i - 1) (by omega), decide_eq_false h0, spec_l1Less_f _ _ (by omega) k (by omega), Option.bind_some]
   cases Op.bytesLess (l.getD (i - 1) zP).f0.toList (l.getD i zP).f0.toList <;> rfl
theorem l4MapOk_f (l : List S77) (hs : keysOk l) (k : Nat) (hk : 2101000 < k) : spec_l4MapOk.f k l = some (mapOk l) := by
 unfold spec_l4MapOk.f mapOk
 by_cases h : l.length ≤ 500
 ·rw [if_neg (by omega), decide_eq_true h]; exact l4MapOk_loop l h hs l.length 0 k (by omega) (by omega)
 ·rw [if_pos (by omega), decide_eq_false h]; rfl
theorem less_irr0 : ∀ x : List UInt8, Op.bytesLess x x = false
 | [] => rfl
 | a :: r => by simp [Op.bytesLess, less_irr0 r]
theorem l4Top_loop (l : List S77) (hl : l.length ≤ 1048576) (hs : keysOk l) : ∀ (d i t k : Nat), l.length = i + d → t < l.length → d + 2100000 < k → spec_l4Top.l0 k l (t : Int) (shaV (l.getD t zP).f0) (i : Int) = some ((bestF abP (l.getD t zP) t i (l.drop i)).2 : Int) := by
 intro d
 induction d with
 | zero =>
  intro i t k h ht hk; obtain ⟨k, rfl⟩ : ∃ j, k = j + 1 := ⟨k - 1, by omega⟩
  simp only [spec_l4Top.l0]; rw [if_neg (by omega), List.drop_of_length_le (by omega)]; rfl
 | succ d ih =>
  intro i t k h ht hk; obtain ⟨k, rfl⟩ : ∃ j, k = j + 1 := ⟨k - 1, by omega⟩
  simp only [spec_l4Top.l0]; have hi := keysOk_get hs i (by omega); have hd : l.drop i = l.getD i zP :: l.drop (i + 1) := by
   rw [List.drop_eq_getElem_cons (by omega), List.getD_eq_getElem?_getD, List.getElem?_eq_getElem (by omega)]; rfl
  rw [if_pos (by omega), if_pos (by omega), rdP l i (by omega), rdP l t ht, spec_Sha256_f _ (by omega) k (by omega), Option.bind_some, spec_l1Less_f _ _ (by rw [shaV_size]; omega) k (by rw [shaV_size]; omega), Option.bind_some, hd, bestF, show abP (l.getD i zP) (l.getD t zP) = highB (l.getD i zP).f0 (l.getD t zP).f0 from rfl, highB_eq]; rw [wN (n := i + 1) (by omega) (by omega), ih (i + 1) i k (by omega) (by omega) (by omega), ih (i + 1) t k (by omega) ht (by omega), spec_l1Less_f _ _ (by omega) k (by omega), if_pos (show (0 : Int) ≤ (t : Int) by omega), if_pos (show (t : Int) < (l.length : Int) by omega), Option.bind_some]
  by_cases he : (shaV (l.getD i zP).f0).toList = (shaV (l.getD t zP).f0).toList
  ·rw [if_pos he, if_pos he, ← he, less_irr0, if_neg (by decide)]
   split <;> rfl
  ·rw [if_neg he, if_neg he]
   split <;> rfl
theorem l4Top_f (a : S77) (r : List S77) (hl : (a :: r).length ≤ 1048576) (hs : keysOk (a :: r)) (k : Nat) (hk : (a :: r).length + 2100000 < k) : spec_l4Top.f k (a :: r) = some ((bestF abP a 0 1 r).2 : Int) := by
 unfold spec_l4Top.f; have h0 := hs a (by simp); have hz : rd_T77 (a :: r) 0 = a := rdP (a :: r) 0 (by simp); rw [if_pos (by rw [List.length_cons]; omega), hz, spec_Sha256_f _ (by omega) k (by omega), Option.bind_some]; have h := l4Top_loop (a :: r) hl hs r.length 1 0 k (by rw [List.length_cons]; omega) (by simp) (by rw [List.length_cons] at hk; omega)
 simpa using h
theorem hashSh_ok (W : Nat) (hW : W ≤ 32) (t : Sh S77) : hOk (hashSh W t) W = true := by
 unfold hOk
 cases t with
 | nil => rfl
 | node p l r =>
  rw [hashSh, Int.toNat_natCast, ByteArray.size_extract, shaV_size]; simp only [Bool.or_eq_true, decide_eq_true_eq]; omega
theorem l4Encs_loop (W : Int) (p : S77) (lh rh : ByteArray) (R : List ByteArray) (hR : R.length ≤ 1048576) : ∀ (d i k : Nat) (acc : List ByteArray), R.length = i + d → d + 5001 < k → acc.length + d ≤ 2097152 →
  spec_l4Encs.l0 k W acc R (i : Int) p.f0 p.f1 lh rh = some (acc ++ R.drop i ++ [encNode p.f0 p.f1 lh rh W], nodeHashV p.f0 p.f1 lh rh W) := by
 intro d
 induction d with
 | zero =>
  intro i k acc h hk ha; obtain ⟨k, rfl⟩ : ∃ j, k = j + 1 := ⟨k - 1, by omega⟩
  simp only [spec_l4Encs.l0]; rw [if_neg (by omega), List.drop_of_length_le (by omega), List.append_nil]; unfold spec_EncodeNode.f; rw [Option.bind_some, if_pos (by omega), spec_NodeHash_f _ _ _ _ _ _ (by omega), Option.bind_some]
 | succ d ih =>
  intro i k acc h hk ha; obtain ⟨k, rfl⟩ : ∃ j, k = j + 1 := ⟨k - 1, by omega⟩
  simp only [spec_l4Encs.l0]; have hd : R.drop i = R[i] :: R.drop (i + 1) := List.drop_eq_getElem_cons (by omega); rw [if_pos (by omega), if_pos (by omega), if_pos (by omega), wN (n := i + 1) (by omega) (by omega), rd_at _ R _ (by omega), ih (i + 1) k _ (by omega) (by omega) (by rw [List.length_append, List.length_singleton]; omega), hd]; simp
theorem l4Encs_f (W : Nat) (hW1 : 1 ≤ W) (hW2 : W ≤ 32) : ∀ (n : Nat) (l : List S77) (k : Nat), l.length ≤ n → l.length ≤ 500 → (∀ p ∈ l, 1 ≤ p.f0.size ∧ p.f0.size ≤ 256 ∧ p.f1.size ≤ 2000) → 2200000 + l.length < k →
  spec_l4Encs.f k l W = some (encsSh W (cart abP l), hashSh W (cart abP l))
 | n, [], k, _, _, _, hk => by
  obtain ⟨k, rfl⟩ : ∃ j, k = j + 1 := ⟨k - 1, by omega⟩
  simp only [spec_l4Encs.f]; rw [if_pos (by rfl)]; rfl
 | 0, a :: r, k, h, _, _, _ => by rw [List.length_cons] at h; omega
 | n + 1, a :: r, k, hn, hl, hp, hk => by
  obtain ⟨k, rfl⟩ : ∃ j, k = j + 1 := ⟨k - 1, by omega⟩
  have hb := bestF_lt abP a r; have hg := bestF_get abP a r; have hks : keysOk (a :: r) := fun p h => by have := hp p h; omega
  have hb' : (bestF abP a 0 1 r).2 ≤ r.length := by rw [List.length_cons] at hb; omega
  have hn' : r.length ≤ n := by rw [List.length_cons] at hn; omega
  have hc : (a :: r).length = r.length + 1 := List.length_cons; simp only [spec_l4Encs.f]; rw [if_neg (by rw [List.length_cons]; omega), l4Top_f a r (by omega) hks k (by omega), Option.bind_some, if_pos (by omega), if_pos (by omega), Int.toNat_natCast]; rw [l4Encs_f W hW1 hW2 n _ k (by rw [List.length_take]; omega) (by rw [List.length_take]; omega) (fun p h => hp p (List.mem_of_mem_take h)) (by rw [List.length_take]; omega), Option.bind_some]; rw [wN (n := (bestF abP a 0 1 r).2 + 1) (by omega) (by omega), if_pos (by omega), if_pos (by omega), Int.toNat_natCast]; rw [l4Encs_f W hW1 hW2 n _ k (by rw [List.length_drop]; omega) (by rw [List.length_drop]; omega) (fun p h => hp p (List.mem_of_mem_drop h)) (by rw [List.length_drop]; omega), Option.bind_some]; rw [if_pos (by omega), rd_pair _ _ hb]; have hx : (a :: r)[(bestF abP a 0 1 r).2] = (bestF abP a 0 1 r).1 := by
   rw [List.getElem?_eq_getElem hb] at hg; exact Option.some.inj hg
  have hmem := hp _ (List.getElem_mem hb); rw [hx] at hmem ⊢; dsimp only; have e1 : (encsSh W (cart abP (List.take (bestF abP a 0 1 r).2 (a :: r)))).length ≤ 500 := by rw [encsSh_length, cart_list _ _ (Nat.le_refl _), List.length_take]; omega
  have e2 : (encsSh W (cart abP (List.drop ((bestF abP a 0 1 r).2 + 1) (a :: r)))).length ≤ 500 := by rw [encsSh_length, cart_list _ _ (Nat.le_refl _), List.length_drop]; omega
  rw [show (0 : Int) = ((0 : Nat) : Int) from rfl, l4Encs_loop W _ _ _ _ (by omega) (encsSh W (cart abP (List.drop ((bestF abP a 0 1 r).2 + 1) (a :: r)))).length 0 k _ (by omega) (by omega) (by omega), List.drop_zero, cart_cons, encsSh, hashSh]; rw [nodeHash_ok]; unfold nodeOk isW; rw [hashSh_ok W hW2, hashSh_ok W hW2]; simp only [Bool.and_eq_true, decide_eq_true_eq, Bool.and_true]; omega
end Go.Proofs.YtaepebkeijmjgaaDoor.Z
end
section
namespace Go.Proofs.YtaepebkeijmjgaaDoor.Z
open RowKit YtaepebkeijmjgaaDoorW.PrintWords YtaepebkeijmjgaaDoorW.PrintLast YtaepebkeijmjgaaDoorW.PrintMore
attribute [local go_sem] max2_int min2_int max_two min_two max_three min_three max_four min_four
set_option linter.all false
def spec_l4At.l0 : Nat → List ByteArray → ByteArray → Int → Option (Int)
 | 0, _, _, _ => none
 | k + 1, x0, x1, x5 => if x5 < (x0.length : Int) then (if 0 ≤ x5 then (if (rdOf ByteArray.empty x0 x5).toList = x1.toList then (some x5) else (spec_l4At.l0 k x0 x1 (wrap64 (x5 + 1)))) else (none)) else (some (-1))
def spec_l4At.f (k : Nat) (l0 : List ByteArray) (a1 : ByteArray) : Option (Int) := spec_l4At.l0 k l0 a1 0
set_option maxHeartbeats 8000000 in
set_option maxRecDepth 100000 in
theorem spec_l4At.calls (k : Nat) (A0 : Option Addr) (c0 : Nat) (l0 : List ByteArray) (a1 : ByteArray) (r : Int) (w : World) (hr0 : Kd.C Kd.string w A0 l0.length l0) (hc0 : l0.length ≤ c0) (h : spec_l4At.f k l0 a1 = some r) :
  Calls Tryd.prog 73 #[.slice A0 l0.length c0, .string a1] w fun e w' => e = .returned (.int .i64 r) ∧ Drawn0 w w' := by
 have HR0 := Aside0.mk hr0; have HC0 := Aside0.mk hc0; clear hr0 hc0; have H : (spec_l4At.l0 k l0 a1 0) = some r := h; clear h; have H' := Aside0.mk H; clear H
 go_enter Tryd.func73, Tryd.ntmps73
 go_wp2
 go_loopg [5] k (fun kq v5 w' => ∃ (x5_1 : Int), v5 = .int .i64 x5_1 ∧ Aside0 (spec_l4At.l0 kq l0 a1 x5_1 = some r) ∧ Aside0 (kq ≤ k) ∧ Drawn0 w w')
 case atStart => exact ⟨(0), zq_5, H', ⟨Nat.le_refl _⟩, by repeat (first | exact Drawn0.refl _ | apply Drawn0.step)⟩
 case round =>
  clear H'
  try clear p2
  obtain ⟨x5_1, rfl, HA, HK1, ⟨m1, rfl⟩⟩ := hrel
  cases gk with
  | zero => exact absurd HA.out (by simp [spec_l4At.l0])
  | succ k1 =>
   have H := HA.out; clear HA; simp only [spec_l4At.l0] at H
   by_cases c3 : x5_1 < (l0.length : Int)
   ·rw [if_pos c3] at H; have c3b0 : decide (x5_1 < (l0.length : Int)) = true := decide_eq_true c3; clear c3
    by_cases c4 : 0 ≤ x5_1
    ·rw [if_pos c4] at H; have c4b0 : decide (0 ≤ x5_1) = true := decide_eq_true c4; clear c4
     by_cases c5 : (rdOf ByteArray.empty l0 x5_1).toList = a1.toList
     ·rw [if_pos c5] at H; have c5b0 : ((rdOf ByteArray.empty l0 x5_1).toList == a1.toList) = true := beq_iff_eq.mpr c5; have c5b1 : ((rdOf ByteArray.empty l0 x5_1).toList != a1.toList) = false := bne_eq_false_iff_eq.mpr c5; clear c5; obtain rfl := Option.some.inj H; have p730001 : 0 ≤ (x5_1 : Int) := of_decide_eq_true zq_2; have q730001 : x5_1 < (l0.length : Int) := of_decide_eq_true zq_2; obtain ⟨ad730001, e730001, hx730001_0⟩ := Kd.at_string HR0.out x5_1 p730001 q730001
      cases e730001
      replace p730001 := eq_true p730001; replace q730001 := eq_true q730001
      go_wp2
      go_ret
      exact ⟨by first | rfl | (simp; done) | (simp [*]; done), by repeat (first | exact Drawn0.refl _ | apply Drawn0.step)⟩
     ·rw [if_neg c5] at H; have c5b0 : ((rdOf ByteArray.empty l0 x5_1).toList == a1.toList) = false := beq_eq_false_iff_ne.mpr c5; have c5b1 : ((rdOf ByteArray.empty l0 x5_1).toList != a1.toList) = true := bne_iff_ne.mpr c5; have H' := Aside0.mk H; clear H; have p730001 : 0 ≤ (x5_1 : Int) := of_decide_eq_true zq_2; have q730001 : x5_1 < (l0.length : Int) := of_decide_eq_true zq_2; obtain ⟨ad730001, e730001, hx730001_0⟩ := Kd.at_string HR0.out x5_1 p730001 q730001
      cases e730001
      replace p730001 := eq_true p730001; replace q730001 := eq_true q730001
      go_wp2
      go_roundg k1
      case measure => have := HK1.out; omega
      case rel => exact ⟨(wrap64 (x5_1 + 1)), zq_5, H', ⟨by have := HK1.out; omega⟩, by repeat (first | exact Drawn0.refl _ | apply Drawn0.step)⟩
    ·rw [if_neg c4] at H; exact absurd H (by simp)
   ·rw [if_neg c3] at H; have c3b0 : decide (x5_1 < (l0.length : Int)) = false := decide_eq_false c3; clear c3; obtain rfl := Option.some.inj H
    go_wp2
    go_ret
    exact ⟨by first | rfl | (simp; done) | (simp [*]; done), by repeat (first | exact Drawn0.refl _ | apply Drawn0.step)⟩
def spec_l4CopyPool.l0 : Nat → List ByteArray → Int → Int → List ByteArray → Option (Int × List ByteArray)
 | 0, _, _, _, _ => none
 | k + 1, x3, x4, x710002000, x710002001 => if x4 < (x710002001.length : Int) then (if 0 ≤ x4 then (if x3.length < 8796093022208 then (spec_l4CopyPool.l0 k (x3 ++ [rdOf ByteArray.empty x710002001 x4]) (wrap64 (x4 + 1)) x710002000 x710002001) else (none)) else (none)) else (some (x710002000, x3))
def spec_l4CopyPool.f (k : Nat) (a0_0 : Int) (l0_1 : List ByteArray) : Option (Int × List ByteArray) := spec_l4CopyPool.l0 k (([] : List ByteArray)) 0 a0_0 l0_1
set_option maxHeartbeats 8000000 in
set_option maxRecDepth 100000 in
theorem spec_l4CopyPool.calls (k : Nat) (a0_0 : Int) (A0_1 : Option Addr) (c0_1 : Nat) (l0_1 : List ByteArray) (r1 : Int) (r2 : List ByteArray) (w : World) (hr0_1 : Kd.C Kd.string w A0_1 l0_1.length l0_1) (hc0_1 : l0_1.length ≤ c0_1) (h : spec_l4CopyPool.f k a0_0 l0_1 = some (r1, r2)) :
  Calls Tryd.prog 71 #[.agg #[.int .i64 a0_0, .slice A0_1 l0_1.length c0_1]] w fun e w' => ∃ v1_ : Value, e = .returned (.agg #[.int .i64 r1, v1_]) ∧ Kd.R Kd.string 9 w' w.heap.size (fun _ => True) v1_ r2 ∧ Below w.heap.size w w' := by
 have hu34 := Tryd.underlying34; have HR0_1 := Aside0.mk hr0_1; have HC0_1 := Aside0.mk hc0_1; clear hr0_1 hc0_1; have HB := Aside0.mk (Below.refl w.heap.size w); have H : (spec_l4CopyPool.l0 k (([] : List ByteArray)) 0 a0_0 l0_1) = some (r1, r2) := h; clear h; obtain ⟨y710003, hy710003⟩ : ∃ y_ : List ByteArray, y_ = (([] : List ByteArray)) := ⟨_, rfl⟩
 replace H : (spec_l4CopyPool.l0 k y710003 0 a0_0 l0_1) = some (r1, r2) := by first | (rw [hy710003]; with_reducible exact H) | (have H2_ := (Option.bind_some _ _).symm.trans H; rw [hy710003]; with_reducible exact H2_) | (have H2_ := (Option.bind_some _ _).symm.trans H; with_reducible exact H2_) | with_reducible exact H | (rw [hy710003]; exact H) | exact H
 have Ny710003 := Aside0.mk hy710003; clear hy710003; have H' := Aside0.mk H; clear H
 go_enter Tryd.func71, Tryd.ntmps71
 go_wp2_with (first | ((with_reducible refine gate_dst (N := 1) rfl ?_); refine box_event ?hg (N := 1) ?hd (cs := #[.int .i64 a0_0, .slice A0_1 l0_1.length c0_1]) (t := 34) ?hr ?_; (case hd => rfl); (case hg => rfl); (case hr => exact zq_9); intro gb710001 hg w2 hbox hb; have n0_ := Aside0.mk (below_step zq_0 hb); have n1_ := Aside0.mk (hbox); have n2_ := Aside0.mk ((by rw [hg]; exact (below_size zq_0) : w.heap.size ≤ gb710001)); have n3_ := Aside0.mk ((by rw [hg]; exact (below_size zq_0) : w.heap.size ≤ gb710001)); clear HB; have HB := n0_; have BK710001 := n1_; have GW710001 := n2_; have GE710001 := n3_; clear n0_ n1_ n2_ n3_; clear hb hbox hg) | ((with_reducible refine gate_dst (N := 2) rfl ?_); refine box_event ?hg (N := 2) ?hd (cs := #[.int .i64 0, .slice none 0 0]) (t := 34) ?hr ?_; (case hd => rfl); (case hg => rfl); (case hr => exact zq_9); intro gb710002 hg w3 hbox hb; have n0_ := Aside0.mk (blk_below (g := gb710001) (o := .cells #[.int .i64 a0_0, .slice A0_1 l0_1.length c0_1] 34 (0, 0)) zq_46 hb); have n1_ := Aside0.mk (below_step zq_58 hb); have n2_ := Aside0.mk (hbox); have n3_ := Aside0.mk ((by rw [hg]; exact (below_size zq_58) : w.heap.size ≤ gb710002)); have n4_ := Aside0.mk ((by rw [hg]; exact (below_size zq_58) : w.heap.size ≤ gb710002)); have n5_ := Aside0.mk ((by rw [hg]; exact Nat.ne_of_lt (blk_lt (g := gb710001) (o := .cells #[.int .i64 a0_0, .slice A0_1 l0_1.length c0_1] 34 (0, 0)) zq_46) : gb710001 ≠ gb710002)); have n6_ := Aside0.mk ((by rw [hg]; exact Nat.ne_of_gt (blk_lt (g := gb710001) (o := .cells #[.int .i64 a0_0, .slice A0_1 l0_1.length c0_1] 34 (0, 0)) zq_46) : gb710002 ≠ gb710001)); clear BK710001; clear HB; have BK710001 := n0_; have HB := n1_; have BK710002 := n2_; have GW710002 := n3_; have GE710002 := n4_; have NB710001_710002 := n5_; have NB710002_710001 := n6_; clear n0_ n1_ n2_ n3_ n4_ n5_ n6_; clear hb hbox hg) | ((with_reducible refine gate_dst (N := 5) rfl ?_); refine Kd.R_lit Kd.string _ 9 ?hg (N := 5) ?hd (xs := ([] : List ByteArray)) (inner := []) (ok := fun _ => True) (okp := fun _ => True) ?hr ?hp (fun _ hk => hk) trivial (Below.refl _ _) (Nat.le_refl _) (by simp) ?_; (case hd => rfl); (case hg => rfl); (case hr => exact zq_9); (case hp => exact (Reps.none _ _)); intro v710004 w4 ho5 hb hg_ hnew_; clear hg_ hnew_; (first | rw [← Ny710003.out] at ho5 | (simp only [Int.reduceToNat] at ho5; rw [← Ny710003.out] at ho5)); have n0_ := Aside0.mk (Kd.R_lower ho5 (below_size zq_39)); have n1_ := Aside0.mk (blk_below (g := gb710001) (o := .cells #[.int .i64 a0_0, .slice A0_1 l0_1.length c0_1] 34 (0, 0)) zq_46 hb); have n2_ := Aside0.mk (blk_below (g := gb710002) (o := .cells #[.int .i64 0, .slice none 0 0] 34 (0, 0)) (by (with_reducible repeat (first | refine blk_drewN ?_ _ | refine blk_drew ?_ | refine blk_alloc ?_ _)); exact BK710002.out) hb); have n3_ := Aside0.mk (below_step zq_39 hb); clear BK710001; clear BK710002; clear HB; have HO710005 := n0_; have BK710001 := n1_; have BK710002 := n2_; have HB := n3_; clear n0_ n1_ n2_ n3_; clear hb ho5))
 go_loopg [3, 4] k (fun kq v3 v4 w' => ∃ (x3_1 : List ByteArray) (x4_1 : Int), v4 = .int .i64 x4_1 ∧ Aside0 (spec_l4CopyPool.l0 kq x3_1 x4_1 a0_0 l0_1 = some (r1, r2)) ∧ Aside0 (kq ≤ k) ∧ Aside0 (Kd.R Kd.string 9 w' w.heap.size (fun _ => True) v3 x3_1) ∧ Aside0 (w'.heap[gb710001]? = some (.cells #[.int .i64 a0_0, (.slice A0_1 l0_1.length c0_1)] 34 (0, 0))) ∧ Aside0 (w'.heap[gb710002]? = some (.cells #[.int .i64 0, (.slice none 0 0)] 34 (0, 0))) ∧ Aside0 (Below w.heap.size w w'))
 case atStart => exact ⟨(y710003), (0), zq_5, H', ⟨Nat.le_refl _⟩, ⟨by (with_reducible repeat (first | apply Kd.R_alloc | apply Kd.R_drewN | apply Kd.R_drew)); exact HO710005.out⟩, ⟨by (with_reducible repeat (first | refine blk_drewN ?_ _ | refine blk_drew ?_ | refine blk_alloc ?_ _)); exact BK710001.out⟩, ⟨by (with_reducible repeat (first | refine blk_drewN ?_ _ | refine blk_drew ?_ | refine blk_alloc ?_ _)); exact BK710002.out⟩, ⟨by repeat (first | (with_reducible first | exact HB.out | apply below_alloc | apply pw_below_drewN | apply below_drew1 | refine below_set ?_ GE710001.out | refine below_set ?_ GE710002.out) | exact HB.out)⟩⟩
 case round =>
  clear H'
  try clear p2
  obtain ⟨x3_1, x4_1, rfl, HA, HK1, HO_3, BK710001, BK710002, HB⟩ := hrel
  cases gk with
  | zero => exact absurd HA.out (by simp [spec_l4CopyPool.l0])
  | succ k1 =>
   have H := HA.out; clear HA; simp only [spec_l4CopyPool.l0] at H
   by_cases c6 : x4_1 < (l0_1.length : Int)
   ·rw [if_pos c6] at H; have c6b0 : decide (x4_1 < (l0_1.length : Int)) = true := decide_eq_true c6; clear c6
    by_cases c7 : 0 ≤ x4_1
    ·rw [if_pos c7] at H; have c7b0 : decide (0 ≤ x4_1) = true := decide_eq_true c7; clear c7
     by_cases c8 : x3_1.length < 8796093022208
     ·rw [if_pos c8] at H; have LMc8 := Aside0.mk c8; clear c8; obtain ⟨y710007, hy710007⟩ : ∃ y_ : List ByteArray, y_ = (x3_1 ++ [rdOf ByteArray.empty l0_1 x4_1]) := ⟨_, rfl⟩
      replace H : (spec_l4CopyPool.l0 k1 y710007 (wrap64 (x4_1 + 1)) a0_0 l0_1) = some (r1, r2) := by first | (rw [hy710007]; with_reducible exact H) | (have H2_ := (Option.bind_some _ _).symm.trans H; rw [hy710007]; with_reducible exact H2_) | (have H2_ := (Option.bind_some _ _).symm.trans H; with_reducible exact H2_) | with_reducible exact H | (rw [hy710007]; exact H) | exact H
      have Ny710007 := Aside0.mk hy710007; clear hy710007; have H' := Aside0.mk H; clear H; have hnb9 := NB710001_710002.out; have hnc9 := NB710002_710001.out; have hcz10_0 : wr.cell? ⟨gb710001, 0, none⟩ = some (.int .i64 a0_0) := (blk_cell BK710001.out 0).trans rfl; have hcz10_1 : wr.cell? ⟨gb710001, 1, none⟩ = some (.slice A0_1 l0_1.length c0_1) := (blk_cell BK710001.out 1).trans rfl; have hfz10_0 := blk_frozen BK710001.out 0; have hfz10_1 := blk_frozen BK710001.out 1; have p710006 : 0 ≤ (x4_1 : Int) := of_decide_eq_true zq_2; have q710006 : x4_1 < (l0_1.length : Int) := of_decide_eq_true zq_2; obtain ⟨ad710006, e710006, hx710006_0⟩ := Kd.at_string HR0_1.out x4_1 p710006 q710006
      cases e710006
      replace hx710006_0 := (HB.out.cell (World.block_lt_of_cell? w _ hx710006_0)).trans hx710006_0; replace p710006 := eq_true p710006; replace q710006 := eq_true q710006
      go_wp2_with (first | ((with_reducible refine gate_builtin (b := .append) (xs := #[.tmp 13, .tmp 19]) rfl ?_); at_builtin; refine Kd.R_append Kd.string (w0 := w) w.heap.size rfl (.tmp 13) (.tmp 19) 28 9 (.string ⟨#[]⟩) 16 rfl Tryd.underlying28 info9 rfl (by decide) (by omega) u3 x3_1 (rdOf ByteArray.empty l0_1 x4_1) [.string (rdOf ByteArray.empty l0_1 x4_1)] (fun _ => True) (fun _ => False) rfl rfl ?aP (fun _ hk => hk.elim) ?aF ?aO ?aB ?aS ?aL ?_; (case aP => exact rfl); (case aB => exact zq_39); (case aF => exact (fun _ _ => trivial)); (case aO => exact zq_50); (case aS => exact (below_size zq_39)); (case aL => have := LMc8.out; omega); intro v710008 w11 ho hb hg hat; rw [← Ny710007.out] at ho; have n0_ := Aside0.mk (blk_grown (g := gb710001) (o := .cells #[.int .i64 a0_0, .slice (some ad710006) l0_1.length c0_1] 34 (0, 0)) zq_46 hg (Kd.R_ne HO_3.out BK710001.out (by decide))); have n1_ := Aside0.mk (blk_grown (g := gb710002) (o := .cells #[.int .i64 0, .slice none 0 0] 34 (0, 0)) (by (with_reducible repeat (first | refine blk_drewN ?_ _ | refine blk_drew ?_ | refine blk_alloc ?_ _)); exact BK710002.out) hg (Kd.R_ne HO_3.out BK710002.out (by decide))); have n2_ := Aside0.mk (hb); have n3_ := Aside0.mk (ho); clear BK710001; clear BK710002; clear HB; clear HO_3; have BK710001 := n0_; have BK710002 := n1_; have HB := n2_; have HO710009 := n3_; clear n0_ n1_ n2_ n3_; clear ho hb hg hat))
      go_roundg k1
      case measure => have := HK1.out; omega
      case rel => exact ⟨(y710007), (wrap64 (x4_1 + 1)), zq_5, H', ⟨by have := HK1.out; omega⟩, ⟨by (with_reducible repeat (first | apply Kd.R_alloc | apply Kd.R_drewN | apply Kd.R_drew)); exact HO710009.out⟩, ⟨by (with_reducible repeat (first | refine blk_drewN ?_ _ | refine blk_drew ?_ | refine blk_alloc ?_ _)); exact BK710001.out⟩, ⟨by (with_reducible repeat (first | refine blk_drewN ?_ _ | refine blk_drew ?_ | refine blk_alloc ?_ _)); exact BK710002.out⟩, ⟨by repeat (first | (with_reducible first | exact HB.out | apply below_alloc | apply pw_below_drewN | apply below_drew1 | refine below_set ?_ GE710001.out | refine below_set ?_ GE710002.out) | exact HB.out)⟩⟩
     ·rw [if_neg c8] at H; exact absurd H (by simp)
    ·rw [if_neg c7] at H; exact absurd H (by simp)
   ·rw [if_neg c6] at H; have c6b0 : decide (x4_1 < (l0_1.length : Int)) = false := decide_eq_false c6; clear c6; simp only [Option.some.injEq, Prod.mk.injEq] at H; obtain ⟨rfl, rfl⟩ := H; have hnb12 := NB710001_710002.out; have hnc12 := NB710002_710001.out; have hcz13_0 : wr.cell? ⟨gb710001, 0, none⟩ = some (.int .i64 a0_0) := (blk_cell BK710001.out 0).trans rfl; have hcz13_1 : wr.cell? ⟨gb710001, 1, none⟩ = some (.slice A0_1 l0_1.length c0_1) := (blk_cell BK710001.out 1).trans rfl; have hfz13_0 := blk_frozen BK710001.out 0; have hfz13_1 := blk_frozen BK710001.out 1; obtain ⟨Ao14, co14, eo14⟩ := Kd.R_slice HO_3.out; subst eo14; have hcz15_0 : wr.cell? ⟨gb710002, 0, none⟩ = some (.int .i64 0) := (blk_cell BK710002.out 0).trans rfl; have hcz15_1 : wr.cell? ⟨gb710002, 1, none⟩ = some (.slice none 0 0) := (blk_cell BK710002.out 1).trans rfl; have hfz15_0 := blk_frozen BK710002.out 0; have hfz15_1 := blk_frozen BK710002.out 1
    go_wp2
    refine bodyPost_ret (results_cell_row rfl _ _ gb710002 34 #[.int .i64 a0_0, .slice Ao14 x3_1.length co14] (0, 0) _ rfl (by (with_reducible repeat (first | refine blk_drewN ?_ _ | refine blk_drew ?_ | refine blk_alloc ?_ _)); refine blk_put (cs := #[.int .i64 a0_0, .slice none 0 0]) ?_ 1 _ rfl; (with_reducible repeat (first | refine blk_drewN ?_ _ | refine blk_drew ?_ | refine blk_alloc ?_ _)); refine blk_put (cs := #[.int .i64 0, .slice none 0 0]) ?_ 0 _ rfl; (with_reducible repeat (first | refine blk_drewN ?_ _ | refine blk_drew ?_ | refine blk_alloc ?_ _)); exact BK710002.out) Tryd.underlying34 rfl (by kernel_rfl)) rfl ?_; exact ⟨_, by first | rfl | (simp [errW_none, errW_some] <;> rfl) | (simp [*, errW_none, errW_some] <;> rfl), by (with_reducible repeat (first | apply Kd.R_alloc | apply Kd.R_drewN | apply Kd.R_drew)); exact Kd.R_mono (Kd.R_far (p := ⟨gb710002, 1, none⟩) (Kd.R_far (p := ⟨gb710002, 0, none⟩) (Kd.R_types HO_3.out BK710002.out (by decide)) (fun _ hk => hk.2) (.int .i64 a0_0)) (fun _ hk => hk.2) (.slice Ao14 x3_1.length co14)) (fun _ hk => trivial), by repeat (first | (with_reducible first | exact HB.out | apply below_alloc | apply pw_below_drewN | apply below_drew1 | refine below_set ?_ GE710001.out | refine below_set ?_ GE710002.out) | exact HB.out)⟩
end Go.Proofs.YtaepebkeijmjgaaDoor.Z
end
section
namespace Go.Proofs.YtaepebkeijmjgaaDoor.Z
open RowKit YtaepebkeijmjgaaDoor YtaepebkeijmjgaaDoorW.PrintWords YtaepebkeijmjgaaDoorW.PrintLast
set_option linter.all false
set_option maxRecDepth 100000
def spec_Save.f (a0_0 : Int) (l0_1 : List ByteArray) (l1 : List S77) : Option (Int × Int × List ByteArray × ByteArray × ByteArray × ByteArray) := if small l0_1 ∧ (∀ p ∈ l1, p.f0.size ≤ 1048576) then some (saveR a0_0 l0_1 l1) else none
theorem firstS_lt : ∀ (H : List ByteArray) (s : ByteArray) (i : Nat), firstS H s = some i → i < H.length
 | [], s, i, h => by cases h
 | h :: r, s, i, hi => by
  rw [firstS] at hi
  split at hi
  ·cases hi; simp
  ·obtain ⟨j, hj, rfl⟩ := Option.map_eq_some_iff.1 hi; have := firstS_lt r s j hj; rw [List.length_cons]; omega
def atI : Option Nat → Int
 | none => -1
 | some i => (i : Int)
theorem l4At_loop (H : List ByteArray) (s : ByteArray) (hl : H.length ≤ 4294967296) : ∀ (d i k : Nat), H.length = i + d → d < k → spec_l4At.l0 k H s (i : Int) = some (atI ((firstS (H.drop i) s).map (fun j => i + j))) := by
 intro d
 induction d with
 | zero =>
  intro i k h hk; obtain ⟨k, rfl⟩ : ∃ j, k = j + 1 := ⟨k - 1, by omega⟩
  simp only [spec_l4At.l0]; rw [if_neg (by omega), List.drop_of_length_le (by omega)]; rfl
 | succ d ih =>
  intro i k h hk; obtain ⟨k, rfl⟩ : ∃ j, k = j + 1 := ⟨k - 1, by omega⟩
  simp only [spec_l4At.l0]; rw [if_pos (by omega), if_pos (by omega), rd_at _ _ _ (by omega), List.drop_eq_getElem_cons (show i < H.length by omega), firstS]
  by_cases he : H[i].toList = s.toList
  ·rw [if_pos he, if_pos he]; rfl
  ·rw [if_neg he, if_neg he, wN (n := i + 1) (by omega) (by omega), ih (i + 1) k (by omega) (by omega)]
   cases firstS (H.drop (i + 1)) s with
   | none => rfl
   | some j => simp only [Option.map_some, atI]; rw [show i + (j + 1) = i + 1 + j by omega]
theorem l4At_f (H : List ByteArray) (s : ByteArray) (hl : H.length ≤ 2000000) (k : Nat) (hk : 2000000 < k) : spec_l4At.f k H s = some (atI (firstS H s)) := by
 unfold spec_l4At.f; have := l4At_loop H s (by omega) H.length 0 k (by omega) (by omega); rw [List.drop_zero] at this; rw [show (0 : Int) = ((0 : Nat) : Int) from rfl, this]
 cases firstS H s with
 | none => rfl
 | some j => simp
theorem l4CopyPool_loop (W : Int) (l : List ByteArray) (hl : l.length ≤ 2000000) : ∀ (d i k : Nat), l.length = i + d → d < k → spec_l4CopyPool.l0 k (l.take i) (i : Int) W l = some (W, l) := by
 intro d
 induction d with
 | zero =>
  intro i k h hk; obtain ⟨k, rfl⟩ : ∃ j, k = j + 1 := ⟨k - 1, by omega⟩
  simp only [spec_l4CopyPool.l0]; rw [if_neg (by omega), List.take_of_length_le (by omega)]
 | succ d ih =>
  intro i k h hk; obtain ⟨k, rfl⟩ : ∃ j, k = j + 1 := ⟨k - 1, by omega⟩
  simp only [spec_l4CopyPool.l0]; rw [if_pos (by omega), if_pos (by omega), if_pos (by rw [List.length_take]; omega), rd_at _ _ _ (by omega), wN (n := i + 1) (by omega) (by omega)]; have := ih (i + 1) k (by omega) (by omega); rw [List.take_succ_eq_append_getElem (by omega)] at this; exact this
theorem l4CopyPool_f (W : Int) (l : List ByteArray) (hl : l.length ≤ 2000000) (k : Nat) (hk : 2000000 < k) : spec_l4CopyPool.f k W l = some (W, l) := by
 unfold spec_l4CopyPool.f; have := l4CopyPool_loop W l hl l.length 0 k (by omega) (by omega); rw [List.take_zero] at this; exact this
theorem digV_size (s : ByteArray) (n : Nat) (hn1 : 1 ≤ n) (hn2 : n ≤ 32) : (digV s n).size = n := by
 have hw : widB (n : Int) = true := by unfold widB; rw [decide_eq_true_eq]; omega
 rw [digV_yes hw, Int.toNat_natCast, ByteArray.size_extract, shaV_size]; omega
theorem first_same (n : Nat) (hn1 : 1 ≤ n) (hn2 : n ≤ 32) (enc : ByteArray) (l : List ByteArray) : firstAt (cuts n l) (cutL enc n) = firstS (hashS n l) (digV (nText enc) n) := by
 have hs := digV_size (nText enc) n hn1 hn2; rw [(cut_root enc _ n hn1 hn2 hs).2 rfl]; exact first_cuts n hn1 hn2 _ hs l
theorem stepF_stop (n : Nat) (s : SaveSt) (h : s.code ≠ 0) : ∀ l : List ByteArray, l.foldl (stepS n) s = s
 | [] => rfl
 | e :: l => by rw [List.foldl_cons, show stepS n s e = s by unfold stepS; rw [if_pos h], stepF_stop n s h l]
theorem l2Text_fS (s : ByteArray) (h : s.size ≤ 1048576) : spec_l2Text.f s = some (nText s) := by
 unfold spec_l2Text.f; rw [if_pos (by omega)]; rfl
theorem nText_size (s : ByteArray) : (nText s).size = 1 + s.size := by unfold nText; rw [ByteArray.size_append]; rfl
theorem stepS_none (n : Nat) (out : List ByteArray) (e : ByteArray) (h : firstAt (cuts n out) (cutL e n) = none) (h2 : ¬ 20000 ≤ out.length) : stepS n ⟨out, 0, ⟨#[]⟩, ⟨#[]⟩⟩ e = ⟨out ++ [e], 0, ⟨#[]⟩, ⟨#[]⟩⟩ := by
 unfold stepS; rw [if_neg (by simp)]; dsimp only; rw [h]; simp [h2]
theorem stepS_same (n : Nat) (out : List ByteArray) (e : ByteArray) (i : Nat) (h : firstAt (cuts n out) (cutL e n) = some i) (h2 : out.getD i ⟨#[]⟩ = e) : stepS n ⟨out, 0, ⟨#[]⟩, ⟨#[]⟩⟩ e = ⟨out, 0, ⟨#[]⟩, ⟨#[]⟩⟩ := by
 unfold stepS; rw [if_neg (by simp)]; dsimp only; rw [h]; dsimp only; rw [if_pos h2]
theorem stepS_hit (n : Nat) (out : List ByteArray) (e x : ByteArray) (i : Nat) (h : firstAt (cuts n out) (cutL e n) = some i) (h1 : out.getD i ⟨#[]⟩ = x) (h2 : x ≠ e) : stepS n ⟨out, 0, ⟨#[]⟩, ⟨#[]⟩⟩ e = ⟨out, 4, nText x, nText e⟩ := by
 unfold stepS; rw [if_neg (by simp)]; dsimp only; rw [h]; dsimp only; rw [h1, if_neg h2]
theorem strOk {e : TypeId} {w : World} {base : Nat} {ok ok' : Nat → Prop} {v : Value} {xs : List ByteArray} (h : Kd.R Kd.string e w base ok v xs) (hk : ∀ k, v.ownBlock = some k → ok' k) : Kd.R Kd.string e w base ok' v xs := ⟨hk, h.2.imp_ (fun _ _ hp => hp)⟩
theorem listKS {a b : ByteArray} (h : a.toList = b.toList) : a = b := by
 rw [ByteArray.toList_eq, ByteArray.toList_eq] at h; exact ByteArray.ext (Array.toList_inj.mp h)
theorem add_block (a : Addr) (k : Nat) : (a.add k).block = a.block := by unfold Addr.add; split <;> rfl
theorem grBelow {w w7 u : World} {R : Nat} (hb : Below w.heap.size w w7) (hR : w.heap.size ≤ R) (hg : w7.grownBy u (some R)) : Below w.heap.size w u :=
 hb.trans (Below.grown (Below.refl _ _) hg hb.size (fun k hk => by cases hk; exact hR))
section
variable {W u : World} {p q r t s : Addr} {a b c d f : Value} {O : Nat}
theorem cells5O (h0 : W.cell? p = some a) (h1 : W.cell? q = some b) (h2 : W.cell? r = some c) (h3 : W.cell? t = some d) (h4 : W.cell? s = some f) (n0 : p.block ≠ O) (n1 : q.block ≠ O) (n2 : r.block ≠ O) (n3 : t.block ≠ O) (n4 : s.block ≠ O) (hg : W.grownBy u (some O)) :
  u.cell? p = some a ∧ u.cell? q = some b ∧ u.cell? r = some c ∧ u.cell? t = some d ∧ u.cell? s = some f ∧ W.grownBy u (some O) :=
 ⟨hg.cell h0 (fun e => n0 (Option.some.inj e)), hg.cell h1 (fun e => n1 (Option.some.inj e)), hg.cell h2 (fun e => n2 (Option.some.inj e)), hg.cell h3 (fun e => n3 (Option.some.inj e)), hg.cell h4 (fun e => n4 (Option.some.inj e)), hg⟩
theorem grown5O (h : u.cell? p = some a ∧ u.cell? q = some b ∧ u.cell? r = some c ∧ u.cell? t = some d ∧ u.cell? s = some f ∧ W.grownBy u (some O)) : W.grownBy u (some O) := h.2.2.2.2.2
theorem grown5P (h0 : W.cell? p = some a) (h1 : W.cell? q = some b) (h2 : W.cell? r = some c) (h3 : W.cell? t = some d) (h4 : W.cell? s = some f) (h : u.cell? p = some a ∧ u.cell? q = some b ∧ u.cell? r = some c ∧ u.cell? t = some d ∧ u.cell? s = some f ∧ W.grownBy u (some O)) : W.grownBy u (some O) := h.2.2.2.2.2
end
structure SsIs (P R Q base : Nat) (pv : Value) (n : Nat) (vE : Value) (E : List ByteArray) (vH : Value) (H : List ByteArray) (vO : Value) (out : List ByteArray) (w0 w : World) : Prop where
 pool : w.heap[P]? = some (.cells #[.int .i64 n, pv] 34 (0, 0))
 res : w.heap[R]? = some (.cells (outRow ⟨[], 0, ⟨#[]⟩, ⟨#[]⟩⟩) 44 (0, 0))
 q : w.heap[Q]? = some (.cells #[.int .i64 n, vO] 34 (0, 0))
 hE : Kd.R Kd.string 9 w base (fun k => vE.ownBlock = some k) vE E
 hH : Kd.R Kd.string 9 w base (fun k => vH.ownBlock = some k) vH H
 hO : Kd.R Kd.string 9 w base (fun k => vO.ownBlock = some k) vO out
 eh : ∀ k, vE.ownBlock = some k → vH.ownBlock ≠ some k ∧ vO.ownBlock ≠ some k
 hx : ∀ k, vH.ownBlock = some k → vO.ownBlock ≠ some k
 nq : vE.ownBlock ≠ some Q ∧ vH.ownBlock ≠ some Q ∧ vO.ownBlock ≠ some Q
 pq : P < base ∧ R < base ∧ P ≠ Q ∧ R ≠ Q
 sz : ∀ s ∈ out, s.size ≤ 1048576
 bl : Below w0.heap.size w0 w
 qb : w0.heap.size ≤ Q ∧ w0.heap.size ≤ base
section
variable {P R Q base : Nat} {pv : Value} {n : Nat} {vE : Value} {E : List ByteArray} {vH vO vH1 vO1 : Value} {H out : List ByteArray} {w0 w w1 w3 : World}
theorem SsIs.below (h : SsIs P R Q base pv n vE E vH H vO out w0 w) (hb : Below w.heap.size w w1) : SsIs P R Q base pv n vE E vH H vO out w0 w1 :=
 { h with pool := (hb.block P (lt_of_block h.pool)).trans h.pool, res := (hb.block R (lt_of_block h.res)).trans h.res, q := (hb.block Q (lt_of_block h.q)).trans h.q, hE := Kd.R_below h.hE hb, hH := Kd.R_below h.hH hb, hO := Kd.R_below h.hO hb, bl := h.bl.trans (hb.mono h.bl.size) }
theorem SsIs.addO (h : SsIs P R Q base pv n vE E vH H vO out w0 w) {s : ByteArray} {okx : Nat → Prop} (hg : w.grownBy w1 vO.ownBlock) (ho : Kd.R Kd.string 9 w1 base okx vO1 (out ++ [s])) (ha : vO1.ownBlock = vO.ownBlock ∨ ∃ b, vO1.ownBlock = some b ∧ w.heap.size ≤ b) (hs : s.size ≤ 1048576) :
  SsIs P R Q base pv n vE E vH H vO1 (out ++ [s]) w0 (w1.setCell ⟨Q, 1, none⟩ vO1) := by
 have hQ := lt_of_block h.q; have nb : ∀ k, k < base → some k ≠ vO.ownBlock := fun k hk e => by have := Kd.R_base h.hO k e.symm; omega
 have n1 : ∀ k, k < w.heap.size → vO.ownBlock ≠ some k → vO1.ownBlock ≠ some k := fun k hk hn e => by
  rcases ha with g | ⟨b, g, hb⟩
  ·exact hn (g.symm.trans e)
  ·rw [g] at e; have := Option.some.inj e; omega
 have oQ := n1 Q hQ h.nq.2.2; have p1 := (hg.block P (lt_of_block h.pool) (nb P h.pq.1)).trans h.pool; have r1 := (hg.block R (lt_of_block h.res) (nb R h.pq.2.1)).trans h.res; have q1 := (hg.block Q hQ (fun e => h.nq.2.2 e.symm)).trans h.q; refine ⟨(heap_setCell_other _ _ _ _ h.pq.2.2.1).trans p1, (heap_setCell_other _ _ _ _ h.pq.2.2.2).trans r1, blk_put q1 1 vO1 rfl, Kd.R_far (Kd.R_grown h.hE hg (fun k hk e => (h.eh k hk).2 e.symm)) (fun k hk e => h.nq.1 (by rw [hk, e])) _, Kd.R_far (Kd.R_grown h.hH hg (fun k hk e => h.hx k hk e.symm)) (fun k hk e => h.nq.2.1 (by rw [hk, e])) _, Kd.R_far (strOk ho (fun k hk => hk)) (fun k hk e => oQ (by rw [hk, e])) _, fun k hk => ⟨(h.eh k hk).1, n1 k (Kd.R_lt h.hE k hk) (h.eh k hk).2⟩, fun k hk => n1 k (Kd.R_lt h.hH k hk) (h.hx k hk), ⟨h.nq.1, h.nq.2.1, oQ⟩, h.pq, ?_, ?_, h.qb⟩
 ·intro x hx
  rcases List.mem_append.1 hx with g | g
  ·exact h.sz x g
  ·rw [List.mem_singleton.1 g]; exact hs
 ·exact (h.bl.trans (Below.grown (Below.refl _ _) hg h.bl.size (fun k hk => Nat.le_trans h.qb.2 (Kd.R_base h.hO k hk)))).setCell h.qb.1 _
theorem SsIs.addH (h : SsIs P R Q base pv n vE E vH H vO out w0 w) {d : ByteArray} {okx : Nat → Prop} (hg : w.grownBy w1 vH.ownBlock) (ho : Kd.R Kd.string 9 w1 base okx vH1 (H ++ [d])) (ha : vH1.ownBlock = vH.ownBlock ∨ ∃ b, vH1.ownBlock = some b ∧ w.heap.size ≤ b) :
  SsIs P R Q base pv n vE E vH1 (H ++ [d]) vO out w0 w1 := by
 have nb : ∀ k, k < base → some k ≠ vH.ownBlock := fun k hk e => by have := Kd.R_base h.hH k e.symm; omega
 have n1 : ∀ k, k < w.heap.size → vH.ownBlock ≠ some k → vH1.ownBlock ≠ some k := fun k hk hn e => by
  rcases ha with g | ⟨b, g, hb⟩
  ·exact hn (g.symm.trans e)
  ·rw [g] at e; have := Option.some.inj e; omega
 refine ⟨(hg.block P (lt_of_block h.pool) (nb P h.pq.1)).trans h.pool, (hg.block R (lt_of_block h.res) (nb R h.pq.2.1)).trans h.res, (hg.block Q (lt_of_block h.q) (fun e => h.nq.2.1 e.symm)).trans h.q, Kd.R_grown h.hE hg (fun k hk e => (h.eh k hk).1 e.symm), strOk ho (fun k hk => hk), Kd.R_grown h.hO hg (fun k hk e => h.hx k e.symm hk), fun k hk => ⟨n1 k (Kd.R_lt h.hE k hk) (h.eh k hk).1, (h.eh k hk).2⟩, fun k hk e => n1 k (Kd.R_lt h.hO k e) (fun g => h.hx k g e) hk, ⟨h.nq.1, n1 Q (lt_of_block h.q) h.nq.2.1, h.nq.2.2⟩, h.pq, h.sz, h.bl.trans (Below.grown (Below.refl _ _) hg h.bl.size (fun k hk => Nat.le_trans h.qb.2 (Kd.R_base h.hH k hk))), h.qb⟩
end
end Go.Proofs.YtaepebkeijmjgaaDoor.Z
end
section
namespace Go.Proofs.YtaepebkeijmjgaaDoor.Z
open RowKit YtaepebkeijmjgaaDoor YtaepebkeijmjgaaDoorW.PrintWords YtaepebkeijmjgaaDoorW.PrintLast
set_option linter.all false
set_option maxRecDepth 100000
set_option maxHeartbeats 8000000 in
theorem spec_Save.calls (a0_0 : Int) (A0_1 : Option Addr) (c0_1 : Nat) (l0_1 : List ByteArray) (A1 : Option Addr) (c1 : Nat) (l1 : List S77) (r1 r2 : Int) (r3 : List ByteArray) (r4 r5 r6 : ByteArray) (w : World) (hr0_1 : Kd.C Kd.string w A0_1 l0_1.length l0_1) (hc0_1 : l0_1.length ≤ c0_1) (hr1 : Kd.C k77 w A1 l1.length l1) (hc1 : l1.length ≤ c1) (h : spec_Save.f a0_0 l0_1 l1 = some (r1, r2, r3, r4, r5, r6)) :
  Calls Tryd.prog 22 #[.agg #[.int .i64 a0_0, .slice A0_1 l0_1.length c0_1], .slice A1 l1.length c1] w fun e w' => ∃ v2_ : Value, e = .returned (.agg #[.int .i64 r1, .int .i64 r2, v2_, .string r4, .string r5, .string r6]) ∧ Kd.R Kd.string 9 w' w.heap.size (fun _ => True) v2_ r3 ∧ Below w.heap.size w w' := by
 unfold spec_Save.f at h
 split at h
 rotate_left
 ·cases h
 rename_i hsm
 have h := Option.some.inj h; have HSM := Lib.hid hsm; clear hsm; have HR := Lib.hid hr0_1; clear hr0_1; have HP := Lib.hid hr1; clear hr1; obtain ⟨W1, hW1⟩ : ∃ W1, W1 = (w.alloc (.cells #[.int .i64 a0_0, .slice A0_1 l0_1.length c0_1] 34)).alloc (.cells (outRow ⟨[], 0, ⟨#[]⟩, ⟨#[]⟩⟩) 44) := ⟨_, rfl⟩
 have hz1 : W1.heap.size = w.heap.size + 2 := by rw [hW1]; simp
 have hp1 : W1.heap[w.heap.size]? = some (.cells #[.int .i64 a0_0, .slice A0_1 l0_1.length c0_1] 34 (0, 0)) := by rw [hW1]; exact heap_alloc2_old _ _ _
 have hn1 : W1.heap[w.heap.size + 1]? = some (.cells (outRow ⟨[], 0, ⟨#[]⟩, ⟨#[]⟩⟩) 44 (0, 0)) := by rw [hW1]; exact heap_alloc2_new _ _ _
 have hB1 : Below w.heap.size w W1 := by rw [hW1]; exact ((Below.refl _ _).alloc (Nat.le_refl _) _).alloc (by simp) _
 have HP1 := Lib.hid hp1; have HN1 := Lib.hid hn1; have HB1 := Lib.hid hB1; have HZ1 := Lib.hid hz1; have p0 : W1.cell? ⟨w.heap.size, 0, none⟩ = some (.int .i64 a0_0) := (cell_of_row _ _ _ _ _ _ hp1).trans rfl; have p1 : W1.cell? ⟨w.heap.size, 1, none⟩ = some (.slice A0_1 l0_1.length c0_1) := (cell_of_row _ _ _ _ _ _ hp1).trans rfl; have HI0 : Hid ((Tryd.prog.info? 44).map (·.size) = some (outRow ⟨[], 1, ⟨#[]⟩, ⟨#[]⟩⟩).size) := Lib.hid (by kernel_rfl); have H10 : Hid ((outRow ⟨[], 1, ⟨#[]⟩, ⟨#[]⟩⟩).all (·.oneCell') = true) := Lib.hid (by simp [outRow, Value.oneCell']); have HRW := Lib.hid (Kd.C_below HR.out hB1); have HPW := Lib.hid (Kd.C_below HP.out hB1); have HWE := Lib.hid hW1; have HMP := Lib.hid (l4MapOk_f l1 HSM.out.2 3300000 (by decide)); have HPV := Lib.hid (l3PoolOk_f a0_0 l0_1); clear hp1 hn1 hB1 hz1 hW1
 go_enter Tryd.func22, Tryd.ntmps22
 go_upto_region 1 with fail
 unfold outRow at HWE; rw [← HWE.out]
 by_cases hok : poolOk a0_0 l0_1 = true ∧ mapOk l1 = true
 rotate_left
 ·have h2 : saveR a0_0 l0_1 l1 = (1, 0, [], ⟨#[]⟩, ⟨#[]⟩, ⟨#[]⟩) := by unfold saveR; rw [if_neg hok]
  rw [h2] at h; simp only [Prod.mk.injEq] at h; obtain ⟨rfl, rfl, rfl, rfl, rfl, rfl⟩ := h; have HOK := Lib.hid hok; clear hok h2
  cases hv : poolOk a0_0 l0_1
  ·rw [hv] at HPV; clear hv
   go_wp2_with (first | (go_at_call 69; refine (spec_l3PoolOk.calls _ A0_1 c0_1 l0_1 _ _ HRW.out hc0_1 HPV.out).mono ?_; rintro e w2 ⟨rfl, hb2⟩; have HB2 := Lib.hid (HB1.out.trans (hb2.mono (by have := HZ1.out; omega))); have HN2 := Lib.hid ((hb2.block _ (by have := HZ1.out; omega)).trans HN1.out); clear hb2) | refine wpList_store_row rfl 44 _ _ rfl (w.heap.size + 1) (outRow ⟨[], 1, ⟨#[]⟩, ⟨#[]⟩⟩) rfl rfl _ _ HN2.out HI0.out rfl H10.out ?_)
   refine bodyPost_ret (results_cell_row rfl _ _ (w.heap.size + 1) 44 (outRow ⟨[], 1, ⟨#[]⟩, ⟨#[]⟩⟩) (0, 0) _ rfl (setRow_heap _ _ _ _ _ _ HN2.out) Tryd.underlying44 rfl HI0.out) rfl ⟨_, rfl, Kd.R_nil _ _ _ _ _, below_setRow HB2.out (by omega) _⟩
  ·have hm : mapOk l1 = false := by
    cases hm : mapOk l1
    ·rfl
    ·exact absurd ⟨hv, hm⟩ HOK.out
   rw [hv] at HPV; rw [hm] at HMP; clear hv hm
   go_wp2_with (first | (go_at_call 69; refine (spec_l3PoolOk.calls _ A0_1 c0_1 l0_1 _ _ HRW.out hc0_1 HPV.out).mono ?_; rintro e w2 ⟨rfl, hb2⟩; have HB2 := Lib.hid (HB1.out.trans (hb2.mono (by have := HZ1.out; omega))); have HN2 := Lib.hid ((hb2.block _ (by have := HZ1.out; omega)).trans HN1.out); have HPW2 := Lib.hid (Kd.C_below HPW.out hb2); clear hb2) | (go_at_call 70; refine (spec_l4MapOk.calls 3300000 A1 c1 l1 _ _ HPW2.out hc1 HMP.out).mono ?_; rintro e w3 ⟨rfl, hb3⟩; have HB3 := Lib.hid (HB2.out.trans (hb3.mono HB2.out.size)); have HN3 := Lib.hid ((hb3.block _ (lt_of_block HN2.out)).trans HN2.out); clear hb3) | refine wpList_store_row rfl 44 _ _ rfl (w.heap.size + 1) (outRow ⟨[], 1, ⟨#[]⟩, ⟨#[]⟩⟩) rfl rfl _ _ HN3.out HI0.out rfl H10.out ?_)
   refine bodyPost_ret (results_cell_row rfl _ _ (w.heap.size + 1) 44 (outRow ⟨[], 1, ⟨#[]⟩, ⟨#[]⟩⟩) (0, 0) _ rfl (setRow_heap _ _ _ _ _ _ HN3.out) Tryd.underlying44 rfl HI0.out) rfl ⟨_, rfl, Kd.R_nil _ _ _ _ _, below_setRow HB3.out (by omega) _⟩
 obtain ⟨hv, hm⟩ := hok; have h2 := h; unfold saveR at h2; rw [if_pos ⟨hv, hm⟩] at h2; have hv1 := poolOk_iff.1 hv; obtain ⟨n, hn⟩ : ∃ n : Nat, a0_0 = (n : Int) := ⟨a0_0.toNat, by omega⟩
 subst hn; rw [Int.toNat_natCast] at h2; have hn1 : 1 ≤ n := by omega
 have hn2 : n ≤ 32 := by omega
 have hll : l0_1.length ≤ 20000 := by omega
 have hmp := mapOk_pair hm; have HCP := Lib.hid (l4CopyPool_f n l0_1 (by omega) 3300000 (by decide)); have HHS := Lib.hid (l3Hashes_f n l0_1 HSM.out.1 3300000 (by decide)); have HEN := Lib.hid (l4Encs_f n hn1 hn2 l1.length l1 3300000 (Nat.le_refl _) hmp.1 hmp.2 (by have := hmp.1; omega)); have hel : (encsSh n (cart abP l1)).length ≤ 500 := by rw [encsSh_length, cart_list _ _ (Nat.le_refl _)]; exact hmp.1
 have hes := encsSh_size n (cart abP l1); obtain ⟨E, hE⟩ : ∃ E, encsSh n (cart abP l1) = E := ⟨_, rfl⟩
 obtain ⟨root, hroot⟩ : ∃ r, hashSh n (cart abP l1) = r := ⟨_, rfl⟩
 unfold saveEnd at h2; rw [hE] at HEN hel hes h2; rw [hroot] at HEN h2; rw [hv] at HPV; rw [hm] at HMP; have HH := Lib.hid h2; have HES := Lib.hid hes; clear h h2 hv hm hv1 hmp hE hroot hes
 go_upto_region 4 with (first | (go_at_call 69; go_loud (refine (spec_l3PoolOk.calls _ A0_1 c0_1 l0_1 _ _ HRW.out hc0_1 HPV.out).mono ?_; rintro e w2 ⟨rfl, hb2⟩; have HB2 := Lib.hid (HB1.out.trans (hb2.mono (by have := HZ1.out; omega))); have HN2 := Lib.hid ((hb2.block _ (by have := HZ1.out; omega)).trans HN1.out); have HP2 := Lib.hid ((hb2.block _ (by have := HZ1.out; omega)).trans HP1.out); have HPW2 := Lib.hid (Kd.C_below HPW.out hb2); clear hb2)) | (go_at_call 70; go_loud (refine (spec_l4MapOk.calls 3300000 A1 c1 l1 _ _ HPW2.out hc1 HMP.out).mono ?_; rintro e w3 ⟨rfl, hb3⟩; have HB3 := Lib.hid (HB2.out.trans (hb3.mono HB2.out.size)); have HN3 := Lib.hid ((hb3.block _ (lt_of_block HN2.out)).trans HN2.out); have HP3 := Lib.hid ((hb3.block _ (lt_of_block HP2.out)).trans HP2.out); have q0 : w3.cell? ⟨w.heap.size, 0, none⟩ = some (.int .i64 (n : Int)) := (cell_of_row _ _ _ _ _ _ HP3.out).trans rfl; have q1 : w3.cell? ⟨w.heap.size, 1, none⟩ = some (.slice A0_1 l0_1.length c0_1) := (cell_of_row _ _ _ _ _ _ HP3.out).trans rfl; clear hb3)) | (go_at_call 71; go_loud (refine (spec_l4CopyPool.calls 3300000 n A0_1 c0_1 l0_1 _ _ w3 (Kd.C_below HR.out HB3.out) hc0_1 HCP.out).mono ?_; rintro e w4 ⟨vO, rfl, hO, hb4⟩; obtain ⟨AO, cO, eO⟩ := Kd.R_slice hO; subst eO; have HO := Lib.hid hO; have HB4 := Lib.hid hb4; have HP4 := Lib.hid ((hb4.block _ (lt_of_block HP3.out)).trans HP3.out); have HN4 := Lib.hid ((hb4.block _ (lt_of_block HN3.out)).trans HN3.out); clear hO hb4)))
 obtain ⟨W5, hW5⟩ : ∃ W5, W5 = w4.alloc (.cells #[.int .i64 (n : Int), .slice AO l0_1.length cO] 34) := ⟨_, rfl⟩
 have hz5 : W5.heap.size = w4.heap.size + 1 := by rw [hW5]; simp
 have hB5 : Below w4.heap.size w4 W5 := by rw [hW5]; exact (Below.refl _ _).alloc (Nat.le_refl _) _
 have hQ5 : W5.heap[w4.heap.size]? = some (.cells #[.int .i64 (n : Int), .slice AO l0_1.length cO] 34 (0, 0)) := by rw [hW5]; exact heap_alloc_new _ _
 rw [← hW5]; clear hW5; have hlt3 : w.heap.size + 2 ≤ w3.heap.size := by have := HB3.out.size; have := lt_of_block HN3.out; omega
 have hb34 := HB4.out.size; have HC4 := Lib.hid (HB3.out.trans (HB4.out.mono HB3.out.size)); have HC5 := Lib.hid (HC4.out.trans (hB5.mono HC4.out.size)); have HP5 := Lib.hid ((hB5.block _ (lt_of_block HP4.out)).trans HP4.out); have HN5 := Lib.hid ((hB5.block _ (lt_of_block HN4.out)).trans HN4.out); have HQ5 := Lib.hid hQ5; have HO5 := Lib.hid (Kd.R_below HO.out hB5); have HZ5 := Lib.hid hz5; have p5 : W5.cell? ⟨w.heap.size, 0, none⟩ = some (.int .i64 (n : Int)) := (cell_of_row _ _ _ _ _ _ HP5.out).trans rfl; have p6 : W5.cell? ⟨w.heap.size, 1, none⟩ = some (.slice A0_1 l0_1.length c0_1) := (cell_of_row _ _ _ _ _ _ HP5.out).trans rfl; clear hB5 hQ5 hz5 q0 q1
 go_wp2_with (first | (go_at_call 49; go_loud (refine (spec_l3Hashes.calls 3300000 n A0_1 c0_1 l0_1 _ W5 (Kd.C_below HR.out HC5.out) hc0_1 HHS.out).mono ?_; rintro e w5 ⟨vH, rfl, hH, hb5⟩; obtain ⟨AH, cH, eH⟩ := Kd.R_slice hH; subst eH; have HHH := Lib.hid hH; have HB5 := Lib.hid hb5; have HP6 := Lib.hid ((hb5.block _ (lt_of_block HP5.out)).trans HP5.out); have p7 : w5.cell? ⟨w.heap.size, 0, none⟩ = some (.int .i64 (n : Int)) := (cell_of_row _ _ _ _ _ _ HP6.out).trans rfl; clear hH hb5)) | (go_at_call 72; go_loud (refine (spec_l4Encs.calls 3300000 A1 c1 l1 n _ _ w5 (Kd.C_below HP.out (HC5.out.trans (HB5.out.mono HC5.out.size))) hc1 HEN.out).mono ?_; rintro e w6 ⟨vE, rfl, hEE, hb6⟩; obtain ⟨AE, cE, eE⟩ := Kd.R_slice hEE; subst eE; have HEE := Lib.hid hEE; have HB6 := Lib.hid hb6; clear hEE hb6)))
 obtain ⟨st, hst⟩ : ∃ st, List.foldl (stepS n) ⟨l0_1, 0, ⟨#[]⟩, ⟨#[]⟩⟩ E = st := ⟨_, rfl⟩
 have hh := HH.out; rw [hst] at hh; have HH2 := Lib.hid hh; have HST := Lib.hid hst; clear hh hst HH p5 p6 p7; have hs5 := HB5.out.size; have hs6 := HB6.out.size; have hz5 := HZ5.out; have hb56 : Below W5.heap.size W5 w6 := HB5.out.trans (HB6.out.mono hs5); have HS6 : Hid (SsIs w.heap.size (w.heap.size + 1) w4.heap.size w3.heap.size (.slice A0_1 l0_1.length c0_1) n (.slice AE E.length cE) E (.slice AH (hashS n l0_1).length cH) (hashS n l0_1) (.slice AO l0_1.length cO) l0_1 w w6) := Lib.hid
  { pool := (hb56.block _ (lt_of_block HP5.out)).trans HP5.out, res := (hb56.block _ (lt_of_block HN5.out)).trans HN5.out, q := (hb56.block _ (lt_of_block HQ5.out)).trans HQ5.out, hE := strOk (Kd.R_lower HEE.out (by omega)) (fun k hk => hk), hH := strOk (Kd.R_lower (Kd.R_below HHH.out HB6.out) (by omega)) (fun k hk => hk), hO := strOk (Kd.R_below HO5.out hb56) (fun k hk => hk), eh := fun k hk => ⟨fun e => by have := Kd.R_base HEE.out k hk; have := Kd.R_lt HHH.out k e; omega, fun e => by have := Kd.R_base HEE.out k hk; have := Kd.R_lt HO.out k e; omega⟩, hx := fun k hk e => by have := Kd.R_base HHH.out k hk; have := Kd.R_lt HO.out k e; omega, nq := ⟨fun e => by have := Kd.R_base HEE.out _ e; omega, fun e => by have := Kd.R_base HHH.out _ e; omega, fun e => by have := Kd.R_lt HO.out _ e; omega⟩, pq := ⟨by omega, by omega, by omega, by omega⟩, sz := HSM.out.1.2, bl := HC5.out.trans (hb56.mono HC5.out.size), qb := ⟨by omega, by omega⟩ }
 clear hs5 hs6 hz5 hb56
 go_loopg [6, 9] E.length (fun kq v6 v9 w' => ∃ (j : Nat) (vO : Value) (out : List ByteArray), v9 = .int .i64 (j : Int) ∧ Aside0 (E.length = j + kq) ∧ Aside0 (SsIs w.heap.size (w.heap.size + 1) w4.heap.size w3.heap.size (.slice A0_1 l0_1.length c0_1) n (.slice AE E.length cE) E v6 (hashS n out) vO out w w') ∧ Aside0 (out.length + kq ≤ 1500000) ∧ Aside0 ((E.drop j).foldl (stepS n) ⟨out, 0, ⟨#[]⟩, ⟨#[]⟩⟩ = st))
 case atStart => exact ⟨0, _, l0_1, rfl, ⟨by omega⟩, ⟨HS6.out⟩, ⟨by omega⟩, ⟨by rw [List.drop_zero]; exact HST.out⟩⟩
 case round =>
  clear HS6; obtain ⟨j, vO, out, rfl, HJ, HS, HOL, HFO⟩ := hrel; obtain ⟨AI, cI, eI⟩ := Kd.R_slice HS.out.hH; subst eI; obtain ⟨AP, cP, eP⟩ := Kd.R_slice HS.out.hO; subst eP; have d0 : wr.cell? ⟨w.heap.size, 0, none⟩ = some (.int .i64 (n : Int)) := (cell_of_row _ _ _ _ _ _ HS.out.pool).trans rfl; have d1 : wr.cell? ⟨w.heap.size, 1, none⟩ = some (.slice A0_1 l0_1.length c0_1) := (cell_of_row _ _ _ _ _ _ HS.out.pool).trans rfl; have q0 : wr.cell? ⟨w4.heap.size, 0, none⟩ = some (.int .i64 (n : Int)) := (cell_of_row _ _ _ _ _ _ HS.out.q).trans rfl; have q1 : wr.cell? ⟨w4.heap.size, 1, none⟩ = some (.slice AP out.length cP) := (cell_of_row _ _ _ _ _ _ HS.out.q).trans rfl
  cases gk with
  | zero =>
   obtain rfl : j = E.length := by have := HJ.out; omega
   have hfo := HFO.out; rw [List.drop_length] at hfo; have hh := HH2.out; rw [← hfo] at hh; simp only [List.foldl_nil, if_true, Prod.mk.injEq] at hh; obtain ⟨rfl, rfl, rfl, rfl, rfl, rfl⟩ := hh; have HIZ : Hid ((Tryd.prog.info? 44).map (·.size) = some (#[Value.int .i64 0, .int .i64 (n : Int), .slice AP out.length cP, .string root, .string ⟨#[]⟩, .string ⟨#[]⟩]).size) := Lib.hid (by kernel_rfl); have HOZ : Hid ((#[Value.int .i64 0, .int .i64 (n : Int), .slice AP out.length cP, .string root, .string ⟨#[]⟩, .string ⟨#[]⟩] : Array Value).all (·.oneCell') = true) := Lib.hid (by simp [Value.oneCell']); clear d0 d1 hfo HFO
   go_wp2_with (refine wpList_store_row rfl 44 _ _ rfl (w.heap.size + 1) #[Value.int .i64 0, .int .i64 (n : Int), .slice AP out.length cP, .string root, .string ⟨#[]⟩, .string ⟨#[]⟩] rfl rfl _ _ HS.out.res HIZ.out rfl HOZ.out ?_)
   refine bodyPost_ret (results_cell_row rfl _ _ (w.heap.size + 1) 44 #[Value.int .i64 0, .int .i64 (n : Int), .slice AP out.length cP, .string root, .string ⟨#[]⟩, .string ⟨#[]⟩] (0, 0) _ rfl (setRow_heap _ _ _ _ _ _ HS.out.res) Tryd.underlying44 rfl HIZ.out) rfl ⟨_, rfl, ?_, below_setRow HS.out.bl (by omega) _⟩; exact Kd.R_mono (Kd.R_lower (Kd.R_grown (Kd.R_bound HS.out.hO) (gRow wr (w.heap.size + 1) _) (fun k hk e => by have := hk.2.1; have := Option.some.inj e; omega)) HS.out.qb.2) (fun _ _ => trivial)
  | succ kq =>
   have hjl : j < E.length := by have := HJ.out; omega
   have hrE := Kd.R_reads' HS.out.hE; obtain ⟨ad, hadE, had⟩ := strs_read hrE.2.2 (by omega); have e0 := had j hjl; obtain ⟨e, he⟩ : ∃ e, E[j] = e := ⟨_, rfl⟩
   rw [he] at e0; have hse : e.size ≤ 4000 := by rw [← he]; exact HES.out _ (List.getElem_mem _)
   have hdrop : E.drop j = e :: E.drop (j + 1) := by rw [List.drop_eq_getElem_cons hjl, he]
   subst hadE; obtain ⟨dg, hdg⟩ : ∃ d, digV (nText e) n = d := ⟨_, rfl⟩
   have HL2 := Lib.hid (l2Text_fS e (by omega)); have HDG := Lib.hid ((spec_Digest_f (nText e) (n : Int) (by rw [nText_size]; omega) 3300000 (by rw [nText_size]; omega)).trans (by rw [hdg])); have HDV := Lib.hid hdg; have HDR := Lib.hid hdrop; have HEJ := Lib.hid he; have j0 : (0 : Int) ≤ (j : Int) := by omega
   have jl : (j : Int) < (E.length : Int) := by omega
   clear hrE had hdg hdrop he
   go_upto_region 9 with fail
   go_region_held3 (fun w' => w'.cell? (ad.add j) = some (.string e) ∧ w'.cell? ⟨w.heap.size, 0, none⟩ = some (.int .i64 (n : Int)) ∧ Below wr.heap.size wr w')
    (first | (with_reducible exact cells2P e0 d0 (by assumption)) | (with_reducible exact cells2P e0 d0 (Below.refl _ _).drew))
    (first
     | (go_at_call 62; refine (spec_l2Text.calls e (nText e) _ HL2.out).mono ?_; rintro e_ w1 ⟨rfl, hb1⟩; have hq1 := (below2P (by assumption)).trans (hb1.below.mono (below2P (by assumption)).size); clear hb1)
     | (go_at_call 34; refine (spec_Digest.calls 3300000 (nText e) n dg _ HDG.out).mono ?_; rintro e_ w2 ⟨rfl, hb2⟩; have hq2 := (below2P (by assumption)).trans (hb2.mono (below2P (by assumption)).size); clear hb2))
   have HS2 := Lib.hid (HS.out.below hq2); have e2 := cellB hq2 e0; clear hq2 e0 d0 d1 q0 q1 HS hq1; have hrH := Kd.R_reads' HS2.out.hH; have hlH : (hashS n out).length = out.length := by unfold hashS; rw [List.length_map]
   have hol := HOL.out; have hat := l4At_f (hashS n out) dg (by omega) 3300000 (by decide); have HLH := Lib.hid hlH; clear hlH; have hfs := first_same n hn1 hn2 e out; rw [HDV.out] at hfs; have HRH := Lib.hid hrH; clear hrH
   cases hq : firstS (hashS n out) dg with
   | none =>
    rw [hq, show atI none = -1 from rfl] at hat; rw [hq] at hfs; have HAT := Lib.hid hat; have HFS := Lib.hid hfs; clear hat hfs hq
    go_upto_region 11 with (go_at_call 73; go_loud (refine (spec_l4At.calls 3300000 AI cI (hashS n out) dg _ w2 HRH.out.2.2 HRH.out.2.1 HAT.out).mono ?_; rintro e_ w7 ⟨rfl, hb7⟩; have HS7 := Lib.hid (HS2.out.below hb7.below); have e7 := cellB hb7.below e2; clear hb7))
    have b1 : w7.cell? ⟨w4.heap.size, 1, none⟩ = some (.slice AP out.length cP) := (cell_of_row _ _ _ _ _ _ HS7.out.q).trans rfl
    by_cases h20 : 20000 ≤ out.length
    ·have hd : decide ((20000 : Int) ≤ (out.length : Int)) = true := decide_eq_true (by omega); have hfo := HFO.out; rw [HDR.out, List.foldl_cons, show stepS n ⟨out, 0, ⟨#[]⟩, ⟨#[]⟩⟩ e = ⟨out, 1, ⟨#[]⟩, ⟨#[]⟩⟩ by unfold stepS; rw [if_neg (by simp)]; dsimp only; rw [HFS.out]; simp [h20], stepF_stop _ _ (by simp)] at hfo; have hh := HH2.out; rw [← hfo, if_neg (by simp), if_neg (by simp)] at hh; simp only [Prod.mk.injEq] at hh; obtain ⟨rfl, rfl, rfl, rfl, rfl, rfl⟩ := hh; clear hfo HFO e2 e7
     go_wp2_with (refine wpList_store_row rfl 44 _ _ rfl (w.heap.size + 1) (outRow ⟨[], 1, ⟨#[]⟩, ⟨#[]⟩⟩) rfl rfl _ _ HS7.out.res HI0.out rfl H10.out ?_)
     refine bodyPost_ret (results_cell_row rfl _ _ (w.heap.size + 1) 44 (outRow ⟨[], 1, ⟨#[]⟩, ⟨#[]⟩⟩) (0, 0) _ rfl (setRow_heap _ _ _ _ _ _ HS7.out.res) Tryd.underlying44 rfl HI0.out) rfl ⟨_, rfl, Kd.R_nil _ _ _ _ _, below_setRow HS7.out.bl (by omega) _⟩
    ·have hd : decide ((20000 : Int) ≤ (out.length : Int)) = false := decide_eq_false (by omega); have hd7 := HS7.out.below (Below.refl _ _).drew; have hbs : w3.heap.size ≤ w7.heap.size := by have := lt_of_block HS7.out.q; omega
     have HD7 := Lib.hid hd7; have hQ7 := lt_of_block HS7.out.q; clear hd7
     go_upto_region 14 with fail
     go_region_law ((refine Kd.R_append_step Kd.string (w0 := w7) w3.heap.size (by rfl) (.tmp 61) (.tmp 66) 28 9 (.string ⟨#[]⟩) 16 (by rfl) Tryd.underlying28 infoStr rfl (by decide) (by omega) (.slice AP out.length cP) out e [.string e] (fun _ => True) (fun _ => False) (by rfl) (by rfl) rfl (fun _ h => h.elim) (fun _ _ => trivial) (strOk HD7.out.hO (fun _ _ => trivial)) (Below.refl _ _).drew hbs (by omega) ?_; intro v8 w8 ho8 hb8 hg8 ha8; obtain ⟨o8, hl8⟩ : ∃ o8, out ++ [e] = o8 := ⟨_, rfl⟩; rw [hl8] at ho8; have HL8 := Lib.hid hl8; clear hl8; obtain ⟨A8, c8, e8⟩ := Kd.R_slice ho8; subst e8; have hq8 := (hg8.block w4.heap.size hQ7 (fun e => HS7.out.nq.2.2 e.symm)).trans HD7.out.q; have q8 := cell_of_row _ _ 1 _ _ _ hq8; have f8 := frozen_of_row _ _ 1 _ _ hq8; simp only [List.getElem?_toArray, List.getElem?_cons_zero, List.getElem?_cons_succ] at q8; have HO8 := Lib.hid ho8; have HG8 := Lib.hid hg8; have HA8 := Lib.hid ha8; clear ho8 hb8 hg8 ha8 hq8))
     all_goals
      have hS9 := SsIs.addO (s := e) HD7.out HG8.out (by rw [HL8.out]; exact HO8.out) HA8.out (by omega); rw [HL8.out] at hS9; obtain ⟨W9, hW9⟩ : ∃ W9, W9 = w8.setCell ⟨w4.heap.size, 1, none⟩ (.slice A8 o8.length c8) := ⟨_, rfl⟩
      rw [← hW9] at hS9 ⊢; have HS9 := Lib.hid hS9; have hbs9 : w3.heap.size ≤ W9.heap.size := by have := lt_of_block hS9.q; omega
      clear hS9 hW9 q8 f8 e2 e7 b1
      go_wp2_with ((with_reducible refine gate_builtin (b := .append) (xs := #[.tmp 69, .tmp 71]) rfl ?_); at_builtin; refine Kd.R_append Kd.string (w0 := W9) w3.heap.size rfl (.tmp 69) (.tmp 71) 28 9 (.string ⟨#[]⟩) 16 rfl Tryd.underlying28 infoStr rfl (by decide) (by omega) (.slice AI (hashS n out).length cI) (hashS n out) dg [.string dg] (fun _ => True) (fun _ => False) rfl rfl rfl (fun _ h => h.elim) (fun _ _ => trivial) (strOk HS9.out.hH (fun _ _ => trivial)) (Below.refl _ _) hbs9 (by rw [HLH.out]; omega) ?_; intro v10 w10 ho10 hb10 hg10 ha10; have HS10 := Lib.hid (SsIs.addH HS9.out hg10 ho10 ha10); clear ho10 hb10 hg10 ha10)
      have HJ2 := Lib.hid (show E.length = j + 1 + kq by have := HJ.out; omega); have HOL2 := Lib.hid (show o8.length + kq ≤ 1500000 by rw [← HL8.out, List.length_append, List.length_singleton]; have := HOL.out; omega); have HHO := Lib.hid (show hashS n out ++ [dg] = hashS n o8 by rw [← HL8.out]; unfold hashS; rw [List.map_append, List.map_cons, List.map_nil, HDV.out]); have hsf := HS10.out; rw [HHO.out] at hsf; have HSF := Lib.hid hsf; clear hsf; have HFO2 := Lib.hid (show (E.drop (j + 1)).foldl (stepS n) ⟨o8, 0, ⟨#[]⟩, ⟨#[]⟩⟩ = st by
       have hfo := HFO.out; rw [HDR.out, List.foldl_cons, stepS_none n out e HFS.out h20, HL8.out] at hfo; exact hfo)
      go_roundg kq
      case measure => exact Nat.lt_succ_self kq
      case rel => exact ⟨j + 1, _, o8, by go_num, ⟨HJ2.out⟩, ⟨HSF.out⟩, ⟨HOL2.out⟩, ⟨HFO2.out⟩⟩
   | some i =>
    rw [hq, show atI (some i) = (i : Int) from rfl] at hat; rw [hq] at hfs; have hil : i < out.length := by have := firstS_lt _ _ _ hq; rw [HLH.out] at this; exact this
    have HAT := Lib.hid hat; have HFS := Lib.hid hfs; clear hat hfs hq
    go_upto_region 11 with (go_at_call 73; go_loud (refine (spec_l4At.calls 3300000 AI cI (hashS n out) dg _ w2 HRH.out.2.2 HRH.out.2.1 HAT.out).mono ?_; rintro e_ w7 ⟨rfl, hb7⟩; have HS7 := Lib.hid (HS2.out.below hb7.below); have e7 := cellB hb7.below e2; clear hb7))
    have b1 : w7.cell? ⟨w4.heap.size, 1, none⟩ = some (.slice AP out.length cP) := (cell_of_row _ _ _ _ _ _ HS7.out.q).trans rfl; have hrO := Kd.R_reads' HS7.out.hO; obtain ⟨ao, haoE, hao⟩ := strs_read hrO.2.2 (by omega); have o7 := hao i hil; obtain ⟨x, hx⟩ : ∃ x, out[i] = x := ⟨_, rfl⟩
    rw [hx] at o7; have hgd : out.getD i ⟨#[]⟩ = x := by rw [List.getD_eq_getElem?_getD, List.getElem?_eq_getElem hil]; exact hx
    have hxs : x.size ≤ 1048576 := by rw [← hx]; exact HS7.out.sz _ (List.getElem_mem _)
    subst haoE; have HGD := Lib.hid hgd; have hd : decide ((i : Int) < 0) = false := decide_eq_false (by omega); have i0 : (0 : Int) ≤ (i : Int) := by omega
    have il : (i : Int) < (out.length : Int) := by omega
    clear hrO hao hx hgd e2
    cases hq : (x.toList == e.toList)
    ·have hxe : x ≠ e := fun h => by rw [h] at hq; simp at hq
     have hfo := HFO.out; rw [HDR.out, List.foldl_cons, stepS_hit n out e x i HFS.out HGD.out hxe, stepF_stop _ _ (by simp)] at hfo; have hh := HH2.out; rw [← hfo, if_neg (by simp), if_pos rfl] at hh; simp only [Prod.mk.injEq] at hh; obtain ⟨rfl, rfl, rfl, rfl, rfl, rfl⟩ := hh; clear hfo HFO
     go_upto_region 16 with fail
     go_quiet (fail)
     generalize hW8 : w7.drewN nq = W8; have hB8 : Below w7.heap.size w7 W8 := by rw [← hW8]; exact bdrewN (Below.refl _ _) nq
     have HS8 := Lib.hid (HS7.out.below hB8); have e8 := cellB hB8 e7; have o8 := cellB hB8 o7; have b8 := cellB hB8 b1; have c8 : W8.cell? ⟨w.heap.size, 0, none⟩ = some (.int .i64 (n : Int)) := (cell_of_row _ _ _ _ _ _ HS8.out.pool).trans rfl; have d8 : W8.cell? ⟨w.heap.size, 1, none⟩ = some (.slice A0_1 l0_1.length c0_1) := (cell_of_row _ _ _ _ _ _ HS8.out.pool).trans rfl; have HTX := Lib.hid (l2Text_fS x hxs); have nP : w.heap.size ≠ w.heap.size + 1 := by omega
     have nQ : w4.heap.size ≠ w.heap.size + 1 := by omega
     have nx : (ao.add i).block ≠ w.heap.size + 1 := by rw [add_block]; have := Kd.R_base HS8.out.hO ao.block rfl; omega
     have ne : (ad.add j).block ≠ w.heap.size + 1 := by rw [add_block]; have := Kd.R_base HS8.out.hE ad.block rfl; omega
     have hR0 : w.heap.size ≤ w.heap.size + 1 := by omega
     clear hB8 hW8 e7 o7 b1 hq hxe
     go_upto_region 17 with fail
     go_region_held3 (fun w' => w'.cell? ⟨w.heap.size, 0, none⟩ = some (.int .i64 (n : Int)) ∧ w'.cell? ⟨w.heap.size, 1, none⟩ = some (.slice A0_1 l0_1.length c0_1) ∧ w'.cell? ⟨w4.heap.size, 1, none⟩ = some (.slice (some ao) out.length cP) ∧ w'.cell? (ao.add i) = some (.string x) ∧ w'.cell? (ad.add j) = some (.string e) ∧ W8.grownBy w' (some (w.heap.size + 1)))
      (first | ((with_reducible refine cells5O c8 d8 b8 o8 e8 nP nP nQ nx ne ?_); with_reducible assumption) | ((with_reducible refine cells5O c8 d8 b8 o8 e8 nP nP nQ nx ne ?_); with_reducible exact gBelow (Below.refl _ _).drew _) | ((with_reducible refine cells5O c8 d8 b8 o8 e8 nP nP nQ nx ne ?_); (repeat (first | ((with_reducible refine grown5P c8 d8 b8 o8 e8 ?_); with_reducible assumption) | (with_reducible refine gTwo ?_ (gSet _ (w.heap.size + 1) _ _) (.inl rfl)) | (with_reducible refine gTwo ?_ (gRow _ (w.heap.size + 1) _) (.inl rfl))))))
      (first
       | (go_at_call 71; refine (spec_l4CopyPool.calls 3300000 n A0_1 c0_1 l0_1 _ _ _ (Kd.C_below HR.out (grBelow HS8.out.bl hR0 (grown5O (by assumption)))) hc0_1 HCP.out).mono ?_; rintro e_ w9 ⟨vC, rfl, hC, hb9⟩; obtain ⟨AC, cC, eC⟩ := Kd.R_slice hC; subst eC; have hg9 := grown5O (by assumption); have HZ9 := Lib.hid (Nat.lt_of_lt_of_le (lt_of_block HS8.out.res) hg9.size); have hq9 := gTwo hg9 (gBelow hb9 (some (w.heap.size + 1))) (.inl rfl); have HC9 := Lib.hid hC; have HR9 := Lib.hid ((hb9.block (w.heap.size + 1) (lt_of_block HS8.out.res)).trans HS8.out.res); clear hb9 hC hg9)
       | (go_at_call_of 62 (Value.string x); refine (spec_l2Text.calls x (nText x) _ HTX.out).mono ?_; rintro e_ w10 ⟨rfl, hb10⟩; have hq10 := gTwo (grown5O (by assumption)) (gBelow hb10.below (some (w.heap.size + 1))) (.inl rfl); have HC10 := Lib.hid (Kd.R_below HC9.out hb10.below); have HR10 := Lib.hid ((hb10.below.block _ (lt_of_block HR9.out)).trans HR9.out); clear hb10)
       | (go_at_call_of 62 (Value.string e); refine (spec_l2Text.calls e (nText e) _ HL2.out).mono ?_; rintro e_ w11 ⟨rfl, hb11⟩; have hq11 := gTwo (grown5O (by assumption)) (gBelow hb11.below (some (w.heap.size + 1))) (.inl rfl); have HC11 := Lib.hid (Kd.R_below HC10.out hb11.below); have hO2 := (hb11.below.block _ (lt_of_block HR10.out)).trans HR10.out; have o0 := cell_of_row _ _ 0 _ _ _ hO2; have o1 := cell_of_row _ _ 1 _ _ _ hO2; have o2 := cell_of_row _ _ 2 _ _ _ hO2; have o3 := cell_of_row _ _ 3 _ _ _ hO2; have o4 := cell_of_row _ _ 4 _ _ _ hO2; have o5 := cell_of_row _ _ 5 _ _ _ hO2; have f0 := frozen_of_row _ _ 0 _ _ hO2; have f1 := frozen_of_row _ _ 1 _ _ hO2; have f2 := frozen_of_row _ _ 2 _ _ hO2; have f3 := frozen_of_row _ _ 3 _ _ hO2; have f4 := frozen_of_row _ _ 4 _ _ hO2; have f5 := frozen_of_row _ _ 5 _ _ hO2; simp only [outRow, List.getElem?_toArray, List.getElem?_cons_zero, List.getElem?_cons_succ] at o0 o1 o2 o3 o4 o5; have HR11 := Lib.hid hO2; clear hb11 hO2))
     have hgr := grown5P c8 d8 b8 o8 e8 (by assumption); have g0 := blk_put HR11.out 0 (.int .i64 4) rfl; have g1 := blk_put g0 1 (.int .i64 (n : Int)) rfl; have g2 := blk_put g1 2 (.slice AC l0_1.length cC) rfl; have g3 := blk_put g2 3 (.string ⟨#[]⟩) rfl; have g4 := blk_put g3 4 (.string (nText x)) rfl; have g5 := blk_put g4 5 (.string (nText e)) rfl; simp only [outRow, List.setIfInBounds_toArray, List.set_cons_zero, List.set_cons_succ] at g5; clear g0 g1 g2 g3 g4
     with_reducible generalize hWE : (((((w11.setCell ⟨w.heap.size + 1, 0, none⟩ (.int .i64 4)).setCell ⟨w.heap.size + 1, 1, none⟩ (.int .i64 (n : Int))).setCell ⟨w.heap.size + 1, 2, none⟩ (.slice AC l0_1.length cC)).setCell ⟨w.heap.size + 1, 3, none⟩ (.string ⟨#[]⟩)).setCell ⟨w.heap.size + 1, 4, none⟩ (.string (nText x))).setCell ⟨w.heap.size + 1, 5, none⟩ (.string (nText e)) = WE at g5 hgr ⊢
     have hge : w11.grownBy WE (some (w.heap.size + 1)) := by
      rw [← hWE]
      with_reducible exact gTwo (gTwo (gTwo (gTwo (gTwo (gSet _ _ _ _) (gSet _ _ _ _) (.inl rfl)) (gSet _ _ _ _) (.inl rfl)) (gSet _ _ _ _) (.inl rfl)) (gSet _ _ _ _) (.inl rfl)) (gSet _ _ _ _) (.inl rfl)
     have HGE := Lib.hid hge; have HBE := Lib.hid (grBelow HS8.out.bl hR0 hgr); have HG5 := Lib.hid g5; have HIZ : Hid ((Tryd.prog.info? 44).map (·.size) = some (#[Value.int .i64 4, .int .i64 (n : Int), .slice AC l0_1.length cC, .string ⟨#[]⟩, .string (nText x), .string (nText e)]).size) := Lib.hid (by kernel_rfl); clear hgr hge g5 hWE
     go_wp2_with fail
     refine bodyPost_ret (results_cell_row rfl _ _ (w.heap.size + 1) 44 #[Value.int .i64 4, .int .i64 (n : Int), .slice AC l0_1.length cC, .string ⟨#[]⟩, .string (nText x), .string (nText e)] (0, 0) _ rfl HG5.out Tryd.underlying44 rfl HIZ.out) rfl ⟨_, rfl, ?_, HBE.out⟩; have hz9 := HZ9.out; exact Kd.R_mono (Kd.R_lower (Kd.R_grown (Kd.R_bound HC11.out) HGE.out (fun k hk e => by have := hk.2.1; have := Option.some.inj e; omega)) (by omega)) (fun _ _ => trivial)
    ·have hxe : x = e := listKS (by simpa using hq); have HQ := Lib.hid hq; clear hq; have hxt : (x.toList != e.toList) = false := by rw [hxe]; simp
     go_upto_region 16 with fail
     go_quiet (fail)
     have HFO2 := Lib.hid (show (E.drop (j + 1)).foldl (stepS n) ⟨out, 0, ⟨#[]⟩, ⟨#[]⟩⟩ = st by
       have hfo := HFO.out; rw [HDR.out, List.foldl_cons, stepS_same n out e i HFS.out (HGD.out.trans hxe)] at hfo; exact hfo)
     have HSF := Lib.hid (HS7.out.below (bdrewN (Below.refl w7.heap.size w7) nq)); have HJ2 := Lib.hid (show E.length = j + 1 + kq by have := HJ.out; omega); have HOL2 := Lib.hid (show out.length + kq ≤ 1500000 by have := HOL.out; omega)
     go_wp2_with fail
     go_roundg kq
     case measure => exact Nat.lt_succ_self kq
     case rel => exact ⟨j + 1, _, out, by go_num, ⟨HJ2.out⟩, ⟨HSF.out⟩, ⟨HOL2.out⟩, ⟨HFO2.out⟩⟩
end Go.Proofs.YtaepebkeijmjgaaDoor.Z
end
section
namespace Go.Proofs.YtaepebkeijmjgaaDoor.Z
open RowKit YtaepebkeijmjgaaDoorW.PrintWords YtaepebkeijmjgaaDoorW.PrintLast YtaepebkeijmjgaaDoorW.PrintMore
attribute [local go_sem] max2_int min2_int max_two min_two max_three min_three max_four min_four
set_option linter.all false
def laws_eqPair.f (a0_0 : ByteArray) (a0_1 : ByteArray) (a1_0 : ByteArray) (a1_1 : ByteArray) : Option (Bool) := if a0_0.toList = a1_0.toList then (if a0_1.toList = a1_1.toList then (some true) else (some false)) else (some false)
set_option maxHeartbeats 8000000 in
set_option maxRecDepth 100000 in
theorem laws_eqPair.calls (a0_0 : ByteArray) (a0_1 : ByteArray) (a1_0 : ByteArray) (a1_1 : ByteArray) (r : Bool) (w : World) (h : laws_eqPair.f a0_0 a0_1 a1_0 a1_1 = some r) :
  Calls Tryd.prog 44 #[.agg #[.string a0_0, .string a0_1], .agg #[.string a1_0, .string a1_1]] w fun e w' => e = .returned (.bool r) ∧ Below w.heap.size w w' := by
 have hu77 := Tryd.underlying77; have HB := Aside0.mk (Below.refl w.heap.size w); have H : (if a0_0.toList = a1_0.toList then (if a0_1.toList = a1_1.toList then (some true) else (some false)) else (some false)) = some r := h; clear h
 by_cases c3 : a0_0.toList = a1_0.toList
 ·rw [if_pos c3] at H; have c3b0 : (a0_0.toList == a1_0.toList) = true := beq_iff_eq.mpr c3; have c3b1 : (a0_0.toList != a1_0.toList) = false := bne_eq_false_iff_eq.mpr c3; clear c3
  by_cases c4 : a0_1.toList = a1_1.toList
  ·rw [if_pos c4] at H; have c4b0 : (a0_1.toList == a1_1.toList) = true := beq_iff_eq.mpr c4; have c4b1 : (a0_1.toList != a1_1.toList) = false := bne_eq_false_iff_eq.mpr c4; clear c4; obtain rfl := Option.some.inj H
   go_enter Tryd.func44, Tryd.ntmps44
   go_wp2_with (first | ((with_reducible refine gate_dst (N := 2) rfl ?_); refine box_event ?hg (N := 2) ?hd (cs := #[.string a0_0, .string a0_1]) (t := 77) ?hr ?_; (case hd => rfl); (case hg => rfl); (case hr => exact zq_9); intro gb440001 hg w5 hbox hb; have n0_ := Aside0.mk (below_step zq_0 hb); have n1_ := Aside0.mk (hbox); have n2_ := Aside0.mk ((by rw [hg]; exact (below_size zq_0) : w.heap.size ≤ gb440001)); have n3_ := Aside0.mk ((by rw [hg]; exact (below_size zq_0) : w.heap.size ≤ gb440001)); clear HB; have HB := n0_; have BK440001 := n1_; have GW440001 := n2_; have GE440001 := n3_; clear n0_ n1_ n2_ n3_; clear hb hbox hg) | ((with_reducible refine gate_dst (N := 3) rfl ?_); refine box_event ?hg (N := 3) ?hd (cs := #[.string a1_0, .string a1_1]) (t := 77) ?hr ?_; (case hd => rfl); (case hg => rfl); (case hr => exact zq_9); intro gb440002 hg w6 hbox hb; have n0_ := Aside0.mk (blk_below (g := gb440001) (o := .cells #[.string a0_0, .string a0_1] 77 (0, 0)) zq_21 hb); have n1_ := Aside0.mk (below_step zq_16 hb); have n2_ := Aside0.mk (hbox); have n3_ := Aside0.mk ((by rw [hg]; exact (below_size zq_16) : w.heap.size ≤ gb440002)); have n4_ := Aside0.mk ((by rw [hg]; exact (below_size zq_16) : w.heap.size ≤ gb440002)); have n5_ := Aside0.mk ((by rw [hg]; exact Nat.ne_of_lt (blk_lt (g := gb440001) (o := .cells #[.string a0_0, .string a0_1] 77 (0, 0)) zq_21) : gb440001 ≠ gb440002)); have n6_ := Aside0.mk ((by rw [hg]; exact Nat.ne_of_gt (blk_lt (g := gb440001) (o := .cells #[.string a0_0, .string a0_1] 77 (0, 0)) zq_21) : gb440002 ≠ gb440001)); clear BK440001; clear HB; have BK440001 := n0_; have HB := n1_; have BK440002 := n2_; have GW440002 := n3_; have GE440002 := n4_; have NB440001_440002 := n5_; have NB440002_440001 := n6_; clear n0_ n1_ n2_ n3_ n4_ n5_ n6_; clear hb hbox hg; have hnb7 := NB440001_440002.out; have hnc7 := NB440002_440001.out; have hcz8_0 : w6.cell? ⟨gb440001, 0, none⟩ = some (.string a0_0) := (blk_cell BK440001.out 0).trans rfl; have hcz8_1 : w6.cell? ⟨gb440001, 1, none⟩ = some (.string a0_1) := (blk_cell BK440001.out 1).trans rfl; have hfz8_0 := blk_frozen BK440001.out 0; have hfz8_1 := blk_frozen BK440001.out 1; have hcz9_0 : w6.cell? ⟨gb440002, 0, none⟩ = some (.string a1_0) := (blk_cell BK440002.out 0).trans rfl; have hcz9_1 : w6.cell? ⟨gb440002, 1, none⟩ = some (.string a1_1) := (blk_cell BK440002.out 1).trans rfl; have hfz9_0 := blk_frozen BK440002.out 0; have hfz9_1 := blk_frozen BK440002.out 1))
   go_ret
   exact ⟨by first | rfl | (simp [errW_none, errW_some] <;> rfl) | (simp [*, errW_none, errW_some] <;> rfl), by repeat (first | (with_reducible first | exact HB.out | apply below_alloc | apply pw_below_drewN | apply below_drew1 | refine below_set ?_ GE440001.out | refine below_set ?_ GE440002.out) | exact HB.out)⟩
  ·rw [if_neg c4] at H; have c4b0 : (a0_1.toList == a1_1.toList) = false := beq_eq_false_iff_ne.mpr c4; have c4b1 : (a0_1.toList != a1_1.toList) = true := bne_iff_ne.mpr c4; obtain rfl := Option.some.inj H
   go_enter Tryd.func44, Tryd.ntmps44
   go_wp2_with (first | ((with_reducible refine gate_dst (N := 2) rfl ?_); refine box_event ?hg (N := 2) ?hd (cs := #[.string a0_0, .string a0_1]) (t := 77) ?hr ?_; (case hd => rfl); (case hg => rfl); (case hr => exact zq_9); intro gb440001 hg w10 hbox hb; have n0_ := Aside0.mk (below_step zq_0 hb); have n1_ := Aside0.mk (hbox); have n2_ := Aside0.mk ((by rw [hg]; exact (below_size zq_0) : w.heap.size ≤ gb440001)); have n3_ := Aside0.mk ((by rw [hg]; exact (below_size zq_0) : w.heap.size ≤ gb440001)); clear HB; have HB := n0_; have BK440001 := n1_; have GW440001 := n2_; have GE440001 := n3_; clear n0_ n1_ n2_ n3_; clear hb hbox hg) | ((with_reducible refine gate_dst (N := 3) rfl ?_); refine box_event ?hg (N := 3) ?hd (cs := #[.string a1_0, .string a1_1]) (t := 77) ?hr ?_; (case hd => rfl); (case hg => rfl); (case hr => exact zq_9); intro gb440002 hg w11 hbox hb; have n0_ := Aside0.mk (blk_below (g := gb440001) (o := .cells #[.string a0_0, .string a0_1] 77 (0, 0)) zq_21 hb); have n1_ := Aside0.mk (below_step zq_16 hb); have n2_ := Aside0.mk (hbox); have n3_ := Aside0.mk ((by rw [hg]; exact (below_size zq_16) : w.heap.size ≤ gb440002)); have n4_ := Aside0.mk ((by rw [hg]; exact (below_size zq_16) : w.heap.size ≤ gb440002)); have n5_ := Aside0.mk ((by rw [hg]; exact Nat.ne_of_lt (blk_lt (g := gb440001) (o := .cells #[.string a0_0, .string a0_1] 77 (0, 0)) zq_21) : gb440001 ≠ gb440002)); have n6_ := Aside0.mk ((by rw [hg]; exact Nat.ne_of_gt (blk_lt (g := gb440001) (o := .cells #[.string a0_0, .string a0_1] 77 (0, 0)) zq_21) : gb440002 ≠ gb440001)); clear BK440001; clear HB; have BK440001 := n0_; have HB := n1_; have BK440002 := n2_; have GW440002 := n3_; have GE440002 := n4_; have NB440001_440002 := n5_; have NB440002_440001 := n6_; clear n0_ n1_ n2_ n3_ n4_ n5_ n6_; clear hb hbox hg; have hnb12 := NB440001_440002.out; have hnc12 := NB440002_440001.out; have hcz13_0 : w11.cell? ⟨gb440001, 0, none⟩ = some (.string a0_0) := (blk_cell BK440001.out 0).trans rfl; have hcz13_1 : w11.cell? ⟨gb440001, 1, none⟩ = some (.string a0_1) := (blk_cell BK440001.out 1).trans rfl; have hfz13_0 := blk_frozen BK440001.out 0; have hfz13_1 := blk_frozen BK440001.out 1; have hcz14_0 : w11.cell? ⟨gb440002, 0, none⟩ = some (.string a1_0) := (blk_cell BK440002.out 0).trans rfl; have hcz14_1 : w11.cell? ⟨gb440002, 1, none⟩ = some (.string a1_1) := (blk_cell BK440002.out 1).trans rfl; have hfz14_0 := blk_frozen BK440002.out 0; have hfz14_1 := blk_frozen BK440002.out 1))
   go_ret
   exact ⟨by first | rfl | (simp [errW_none, errW_some] <;> rfl) | (simp [*, errW_none, errW_some] <;> rfl), by repeat (first | (with_reducible first | exact HB.out | apply below_alloc | apply pw_below_drewN | apply below_drew1 | refine below_set ?_ GE440001.out | refine below_set ?_ GE440002.out) | exact HB.out)⟩
 ·rw [if_neg c3] at H; have c3b0 : (a0_0.toList == a1_0.toList) = false := beq_eq_false_iff_ne.mpr c3; have c3b1 : (a0_0.toList != a1_0.toList) = true := bne_iff_ne.mpr c3; obtain rfl := Option.some.inj H
  go_enter Tryd.func44, Tryd.ntmps44
  go_wp2_with (first | ((with_reducible refine gate_dst (N := 2) rfl ?_); refine box_event ?hg (N := 2) ?hd (cs := #[.string a0_0, .string a0_1]) (t := 77) ?hr ?_; (case hd => rfl); (case hg => rfl); (case hr => exact zq_9); intro gb440001 hg w15 hbox hb; have n0_ := Aside0.mk (below_step zq_0 hb); have n1_ := Aside0.mk (hbox); have n2_ := Aside0.mk ((by rw [hg]; exact (below_size zq_0) : w.heap.size ≤ gb440001)); have n3_ := Aside0.mk ((by rw [hg]; exact (below_size zq_0) : w.heap.size ≤ gb440001)); clear HB; have HB := n0_; have BK440001 := n1_; have GW440001 := n2_; have GE440001 := n3_; clear n0_ n1_ n2_ n3_; clear hb hbox hg) | ((with_reducible refine gate_dst (N := 3) rfl ?_); refine box_event ?hg (N := 3) ?hd (cs := #[.string a1_0, .string a1_1]) (t := 77) ?hr ?_; (case hd => rfl); (case hg => rfl); (case hr => exact zq_9); intro gb440002 hg w16 hbox hb; have n0_ := Aside0.mk (blk_below (g := gb440001) (o := .cells #[.string a0_0, .string a0_1] 77 (0, 0)) zq_21 hb); have n1_ := Aside0.mk (below_step zq_16 hb); have n2_ := Aside0.mk (hbox); have n3_ := Aside0.mk ((by rw [hg]; exact (below_size zq_16) : w.heap.size ≤ gb440002)); have n4_ := Aside0.mk ((by rw [hg]; exact (below_size zq_16) : w.heap.size ≤ gb440002)); have n5_ := Aside0.mk ((by rw [hg]; exact Nat.ne_of_lt (blk_lt (g := gb440001) (o := .cells #[.string a0_0, .string a0_1] 77 (0, 0)) zq_21) : gb440001 ≠ gb440002)); have n6_ := Aside0.mk ((by rw [hg]; exact Nat.ne_of_gt (blk_lt (g := gb440001) (o := .cells #[.string a0_0, .string a0_1] 77 (0, 0)) zq_21) : gb440002 ≠ gb440001)); clear BK440001; clear HB; have BK440001 := n0_; have HB := n1_; have BK440002 := n2_; have GW440002 := n3_; have GE440002 := n4_; have NB440001_440002 := n5_; have NB440002_440001 := n6_; clear n0_ n1_ n2_ n3_ n4_ n5_ n6_; clear hb hbox hg; have hnb17 := NB440001_440002.out; have hnc17 := NB440002_440001.out; have hcz18_0 : w16.cell? ⟨gb440001, 0, none⟩ = some (.string a0_0) := (blk_cell BK440001.out 0).trans rfl; have hcz18_1 : w16.cell? ⟨gb440001, 1, none⟩ = some (.string a0_1) := (blk_cell BK440001.out 1).trans rfl; have hfz18_0 := blk_frozen BK440001.out 0; have hfz18_1 := blk_frozen BK440001.out 1; have hcz19_0 : w16.cell? ⟨gb440002, 0, none⟩ = some (.string a1_0) := (blk_cell BK440002.out 0).trans rfl; have hcz19_1 : w16.cell? ⟨gb440002, 1, none⟩ = some (.string a1_1) := (blk_cell BK440002.out 1).trans rfl; have hfz19_0 := blk_frozen BK440002.out 0; have hfz19_1 := blk_frozen BK440002.out 1))
  go_ret
  exact ⟨by first | rfl | (simp [errW_none, errW_some] <;> rfl) | (simp [*, errW_none, errW_some] <;> rfl), by repeat (first | (with_reducible first | exact HB.out | apply below_alloc | apply pw_below_drewN | apply below_drew1 | refine below_set ?_ GE440001.out | refine below_set ?_ GE440002.out) | exact HB.out)⟩
def laws_eqPairS.l0 : Nat → List (S77) → List (S77) → Int → Option (Bool)
 | 0, _, _, _ => none
 | k + 1, x0, x1, x5 => if x5 < (x0.length : Int) then (if 0 ≤ x5 then (if x5 < (x1.length : Int) then ((laws_eqPair.f ((rd_T77 x0 x5).f0) ((rd_T77 x0 x5).f1) ((rd_T77 x1 x5).f0) ((rd_T77 x1 x5).f1)).bind fun t110003 => (if t110003 = true then (laws_eqPairS.l0 k x0 x1 (wrap64 (x5 + 1))) else (none))) else (none)) else (none)) else (some true)
def laws_eqPairS.f (k : Nat) (l0 : List (S77)) (l1 : List (S77)) : Option (Bool) := if (l0.length : Int) = (l1.length : Int) then (laws_eqPairS.l0 k l0 l1 0) else (none)
def laws_eqPairS.T6 : Bool × List (List Nat × List Nat) := (true, [([], []), ([], []), ([0, 1], [0, 1]), ([2], [2]), ([], []), ([], []), ([4, 5], [4, 5]), ([6], [6]), ([3, 7], [3, 7]), ([8], [8])])
def laws_eqPairS.B6 : List Nat := [0, 0, 3, 7, 0, 0, 48, 112, 255, 511]
theorem laws_eqPairS.tab6 : rtab .any (opsOf Tryd.f11 6) = laws_eqPairS.T6 := by kernel_rfl
theorem laws_eqPairS.bits6 : waitsOk laws_eqPairS.T6.2 laws_eqPairS.B6 = true := by kernel_rfl
set_option maxHeartbeats 8000000 in
set_option maxRecDepth 100000 in
theorem laws_eqPairS.calls (k : Nat) (A0 : Option Addr) (c0 : Nat) (l0 : List (S77)) (A1 : Option Addr) (c1 : Nat) (l1 : List (S77)) (r : Bool) (w : World) (hr0 : Kd.C k77 w A0 l0.length l0) (hc0 : l0.length ≤ c0) (hr1 : Kd.C k77 w A1 l1.length l1) (hc1 : l1.length ≤ c1) (h : laws_eqPairS.f k l0 l1 = some r) :
  Calls Tryd.prog 11 #[.slice A0 l0.length c0, .slice A1 l1.length c1] w fun e w' => e = .returned (.bool r) ∧ Below w.heap.size w w' := by
 have hu77 := Tryd.underlying77; have HR0 := Aside0.mk hr0; have HC0 := Aside0.mk hc0; clear hr0 hc0; have HR1 := Aside0.mk hr1; have HC1 := Aside0.mk hc1; clear hr1 hc1; have HB := Aside0.mk (Below.refl w.heap.size w); have H : (if (l0.length : Int) = (l1.length : Int) then (laws_eqPairS.l0 k l0 l1 0) else (none)) = some r := h; clear h
 by_cases c3 : (l0.length : Int) = (l1.length : Int)
 ·rw [if_pos c3] at H; have c3b0 : ((l0.length : Int) == (l1.length : Int)) = true := beq_iff_eq.mpr c3; have c3b1 : ((l0.length : Int) != (l1.length : Int)) = false := bne_eq_false_iff_eq.mpr c3; have c3b2 : (l0.length == l1.length) = true := by first | simpa using c3 | (simp at c3 ⊢; omega)
  clear c3; have H' := Aside0.mk H; clear H
  go_enter Tryd.func11, Tryd.ntmps11
  go_wp2
  go_loopg [5] k (fun kq v5 w' => ∃ (x5_1 : Int), v5 = .int .i64 x5_1 ∧ Aside0 (laws_eqPairS.l0 kq l0 l1 x5_1 = some r) ∧ Aside0 (kq ≤ k) ∧ Aside0 (Below w.heap.size w w'))
  case atStart => exact ⟨(0), zq_5, H', ⟨Nat.le_refl _⟩, ⟨by repeat (first | (with_reducible first | exact HB.out | apply below_alloc | apply pw_below_drewN | apply below_drew1) | exact HB.out)⟩⟩
  case round =>
   clear H'
   try clear c1
   try clear p2
   try clear c3
   try clear c3b0
   try clear c3b1
   try clear c3b2
   obtain ⟨x5_1, rfl, HA, HK1, HB⟩ := hrel
   cases gk with
   | zero => exact absurd HA.out (by simp [laws_eqPairS.l0])
   | succ k1 =>
    have H := HA.out; clear HA; simp only [laws_eqPairS.l0] at H
    by_cases c4 : x5_1 < (l0.length : Int)
    ·rw [if_pos c4] at H; have c4b0 : decide (x5_1 < (l0.length : Int)) = true := decide_eq_true c4; clear c4
     by_cases c5 : 0 ≤ x5_1
     ·rw [if_pos c5] at H; have c5b0 : decide (0 ≤ x5_1) = true := decide_eq_true c5; clear c5
      by_cases c6 : x5_1 < (l1.length : Int)
      ·rw [if_pos c6] at H; have c6b0 : decide (x5_1 < (l1.length : Int)) = true := decide_eq_true c6; clear c6; replace H := Option.bind_eq_some_iff.mp H; obtain ⟨t110003, A70, H⟩ := H; (try dsimp only at H); have A7 := Aside0.mk A70; clear A70
       by_cases c8 : t110003 = true
       ·subst c8; have H1 : (laws_eqPairS.l0 k1 l0 l1 (wrap64 (x5_1 + 1))) = some r := by rw [if_pos rfl] at H; exact H
        clear H; have H := H1; clear H1; have H' := Aside0.mk H; clear H
        try go_wp2
        have n0_ := Aside0.mk (below_drew1 HB.out); clear HB; have HB := n0_; clear n0_; have p110001 : 0 ≤ (x5_1 : Int) := of_decide_eq_true zq_2; have q110001 : x5_1 < (l0.length : Int) := of_decide_eq_true zq_2; obtain ⟨ad110001, e110001, hx110001_0, hx110001_1⟩ := at_T77 HR0.out x5_1 p110001 q110001; have hw110001_1 := hx110001_1; have hw110001_0 := hx110001_0
        cases e110001
        replace hx110001_0 := (HB.out.cell (World.block_lt_of_cell? w _ hx110001_0)).trans hx110001_0; replace hx110001_1 := (HB.out.cell (World.block_lt_of_cell? w _ hx110001_1)).trans hx110001_1; replace p110001 := eq_true p110001; replace q110001 := eq_true q110001; have p110002 : 0 ≤ (x5_1 : Int) := of_decide_eq_true zq_2; have q110002 : x5_1 < (l1.length : Int) := of_decide_eq_true zq_2; obtain ⟨ad110002, e110002, hx110002_0, hx110002_1⟩ := at_T77 HR1.out x5_1 p110002 q110002; have hw110002_1 := hx110002_1; have hw110002_0 := hx110002_0
        cases e110002
        replace hx110002_0 := (HB.out.cell (World.block_lt_of_cell? w _ hx110002_0)).trans hx110002_0; replace hx110002_1 := (HB.out.cell (World.block_lt_of_cell? w _ hx110002_1)).trans hx110002_1; replace p110002 := eq_true p110002; replace q110002 := eq_true q110002; refine start_ (n := 10) (S := fun w' => w'.cell? (ad110001.add ((x5_1).toNat * 2)) = some (.string ((rd_T77 l0 x5_1).f0)) ∧ w'.cell? ⟨(ad110001.add ((x5_1).toNat * 2)).block, (ad110001.add ((x5_1).toNat * 2)).off + 1, none⟩ = some (.string ((rd_T77 l0 x5_1).f1)) ∧ w'.cell? (ad110002.add ((x5_1).toNat * 2)) = some (.string ((rd_T77 l1 x5_1).f0)) ∧ w'.cell? ⟨(ad110002.add ((x5_1).toNat * 2)).block, (ad110002.add ((x5_1).toNat * 2)).off + 1, none⟩ = some (.string ((rd_T77 l1 x5_1).f1))) (ds := []) #[false, false, false, false, false, false, false, false, false, false] (by kernel_rfl) rfl rfl ⟨((HB.out.cell (World.block_lt_of_cell? w _ hw110001_0)).trans hw110001_0), ((HB.out.cell (World.block_lt_of_cell? w _ hw110001_1)).trans hw110001_1), ((HB.out.cell (World.block_lt_of_cell? w _ hw110002_0)).trans hw110002_0), ((HB.out.cell (World.block_lt_of_cell? w _ hw110002_1)).trans hw110002_1)⟩ (fun hHeld => ?_); refine with_tabW laws_eqPairS.tab6 laws_eqPairS.bits6 (fun HT_ HW_ => ?_); generalize wr.drew = w9 at HB hx110001_0 hx110001_1 hx110002_0 hx110002_1 hHeld ⊢; refine pq_ (i := 0) (N := some 17) HT_.out ?_; refine pq_ (i := 1) (N := some 18) HT_.out ?_; refine pq_ (i := 2) (N := some 19) HT_.out ?_; refine pq_ (i := 4) (N := some 21) HT_.out ?_; refine pq_ (i := 5) (N := some 22) HT_.out ?_; refine pq_ (i := 6) (N := some 23) HT_.out ?_; refine tq_ (i := 3) (N := some 20) HT_.out HW_.out hHeld (hy := by rintro w' ⟨s0, s1, s2, s3⟩; go_simp; with_reducible rfl) (h := ?_); refine tq_ (i := 7) (N := some 24) HT_.out HW_.out hHeld (hy := by rintro w' ⟨s0, s1, s2, s3⟩; go_simp; with_reducible rfl) (h := ?_); refine one_ (i := 8) (N := some 25) #[true, true, true, true, true, true, true, true, true, false] rfl rfl (one_of HT_.out (by kernel_rfl)) (by decide) (fun K hK => ?_); refine goes_ Tryd.func44 (by kernel_rfl) rfl #[.agg #[.string ((rd_T77 l0 x5_1).f0), .string ((rd_T77 l0 x5_1).f1)], .agg #[.string ((rd_T77 l1 x5_1).f0), .string ((rd_T77 l1 x5_1).f1)]] (by rfl) rfl rfl zq_1 ?_
        with_reducible refine (laws_eqPair.calls ((rd_T77 l0 x5_1).f0) ((rd_T77 l0 x5_1).f1) ((rd_T77 l1 x5_1).f0) ((rd_T77 l1 x5_1).f1) true _ A7.out).mono ?_
        rintro e w10 ⟨rfl, hb⟩; refine ⟨_, rfl, ?_⟩; have n0_ := Aside0.mk (below_step zq_0 hb); clear HB; have HB := n0_; clear n0_; (try clear hb); (try clear hb2); (try clear hk); (try clear hi); refine hK.out _ _ ⟨((HB.out.cell (World.block_lt_of_cell? w _ hw110001_0)).trans hw110001_0), ((HB.out.cell (World.block_lt_of_cell? w _ hw110001_1)).trans hw110001_1), ((HB.out.cell (World.block_lt_of_cell? w _ hw110002_0)).trans hw110002_0), ((HB.out.cell (World.block_lt_of_cell? w _ hw110002_1)).trans hw110002_1)⟩ (fun hHeld => ?_); clear hK K; refine norm_ (a' := ?_) ?_ ?_; rotate_left
        ·show Act.put _ (some 25) _ = _; simp only [Act.put, List.setIfInBounds_toArray, List.set_cons_zero, List.set_cons_succ, i64_w, i32_w]; rfl
        refine pq_ (i := 9) (N := some 26) HT_.out ?_; refine done_ (done_of HT_.out (by kernel_rfl)) ?_
        try go_wp2
        go_roundg k1
        case measure => have := HK1.out; omega
        case rel => exact ⟨(wrap64 (x5_1 + 1)), zq_5, H', ⟨by have := HK1.out; omega⟩, ⟨by repeat (first | (with_reducible first | exact HB.out | apply below_alloc | apply pw_below_drewN | apply below_drew1) | exact HB.out)⟩⟩
       ·replace c8 := Bool.eq_false_iff.mpr c8; subst c8; have H1 : (none) = some r := by rw [if_neg (show ¬ (false = true) by decide)] at H; exact H
        exact absurd H1 (by simp)
      ·rw [if_neg c6] at H; exact absurd H (by simp)
     ·rw [if_neg c5] at H; exact absurd H (by simp)
    ·rw [if_neg c4] at H; have c4b0 : decide (x5_1 < (l0.length : Int)) = false := decide_eq_false c4; clear c4; obtain rfl := Option.some.inj H
     go_wp2
     go_ret
     exact ⟨by first | rfl | (simp [errW_none, errW_some] <;> rfl) | (simp [*, errW_none, errW_some] <;> rfl), by repeat (first | (with_reducible first | exact HB.out | apply below_alloc | apply pw_below_drewN | apply below_drew1) | exact HB.out)⟩
 ·rw [if_neg c3] at H; exact absurd H (by simp)
def laws_eqSaved.f (k : Nat) (a0_0 : Int) (a0_1 : Int) (l0_2 : List ByteArray) (a0_3 : ByteArray) (a0_4 : ByteArray) (a0_5 : ByteArray) (a1_0 : Int) (a1_1 : Int) (l1_2 : List ByteArray) (a1_3 : ByteArray) (a1_4 : ByteArray) (a1_5 : ByteArray) : Option (Bool) := if a0_0 = a1_0 then ((laws_eqPool.f k a0_1 l0_2 a1_1 l1_2).bind fun t250003 => (if t250003 = true then (if a0_3.toList = a1_3.toList then (if a0_4.toList = a1_4.toList then (if a0_5.toList = a1_5.toList then (some true) else (none)) else (none)) else (none)) else (none))) else (none)
set_option maxHeartbeats 8000000 in
set_option maxRecDepth 100000 in
theorem laws_eqSaved.calls (k : Nat) (a0_0 : Int) (a0_1 : Int) (A0_2 : Option Addr) (c0_2 : Nat) (l0_2 : List ByteArray) (a0_3 : ByteArray) (a0_4 : ByteArray) (a0_5 : ByteArray) (a1_0 : Int) (a1_1 : Int) (A1_2 : Option Addr) (c1_2 : Nat) (l1_2 : List ByteArray) (a1_3 : ByteArray) (a1_4 : ByteArray) (a1_5 : ByteArray) (r : Bool) (w : World) (hr0_2 : Kd.C Kd.string w A0_2 l0_2.length l0_2) (hc0_2 : l0_2.length ≤ c0_2) (hr1_2 : Kd.C Kd.string w A1_2 l1_2.length l1_2) (hc1_2 : l1_2.length ≤ c1_2) (h : laws_eqSaved.f k a0_0 a0_1 l0_2 a0_3 a0_4 a0_5 a1_0 a1_1 l1_2 a1_3 a1_4 a1_5 = some r) :
  Calls Tryd.prog 25 #[.agg #[.int .i64 a0_0, .int .i64 a0_1, .slice A0_2 l0_2.length c0_2, .string a0_3, .string a0_4, .string a0_5], .agg #[.int .i64 a1_0, .int .i64 a1_1, .slice A1_2 l1_2.length c1_2, .string a1_3, .string a1_4, .string a1_5]] w fun e w' => e = .returned (.bool r) ∧ Below w.heap.size w w' := by
 have hu44 := Tryd.underlying44; have hu34 := Tryd.underlying34; have HR0_2 := Aside0.mk hr0_2; have HC0_2 := Aside0.mk hc0_2; clear hr0_2 hc0_2; have HR1_2 := Aside0.mk hr1_2; have HC1_2 := Aside0.mk hc1_2; clear hr1_2 hc1_2; have HB := Aside0.mk (Below.refl w.heap.size w); have H : (if a0_0 = a1_0 then ((laws_eqPool.f k a0_1 l0_2 a1_1 l1_2).bind fun t250003 => (if t250003 = true then (if a0_3.toList = a1_3.toList then (if a0_4.toList = a1_4.toList then (if a0_5.toList = a1_5.toList then (some true) else (none)) else (none)) else (none)) else (none))) else (none)) = some r := h; clear h
 by_cases c3 : a0_0 = a1_0
 ·rw [if_pos c3] at H; have c3b0 : (a0_0 == a1_0) = true := beq_iff_eq.mpr c3; have c3b1 : (a0_0 != a1_0) = false := bne_eq_false_iff_eq.mpr c3; clear c3; replace H := Option.bind_eq_some_iff.mp H; obtain ⟨t250003, A40, H⟩ := H; (try dsimp only at H); have A4 := Aside0.mk A40; clear A40
  by_cases c5 : t250003 = true
  ·subst c5; have H1 : (if a0_3.toList = a1_3.toList then (if a0_4.toList = a1_4.toList then (if a0_5.toList = a1_5.toList then (some true) else (none)) else (none)) else (none)) = some r := by rw [if_pos rfl] at H; exact H
   clear H; have H := H1; clear H1
   by_cases c6 : a0_3.toList = a1_3.toList
   ·rw [if_pos c6] at H; have c6b0 : (a0_3.toList == a1_3.toList) = true := beq_iff_eq.mpr c6; have c6b1 : (a0_3.toList != a1_3.toList) = false := bne_eq_false_iff_eq.mpr c6; clear c6
    by_cases c7 : a0_4.toList = a1_4.toList
    ·rw [if_pos c7] at H; have c7b0 : (a0_4.toList == a1_4.toList) = true := beq_iff_eq.mpr c7; have c7b1 : (a0_4.toList != a1_4.toList) = false := bne_eq_false_iff_eq.mpr c7; clear c7
     by_cases c8 : a0_5.toList = a1_5.toList
     ·rw [if_pos c8] at H; have c8b0 : (a0_5.toList == a1_5.toList) = true := beq_iff_eq.mpr c8; have c8b1 : (a0_5.toList != a1_5.toList) = false := bne_eq_false_iff_eq.mpr c8; clear c8; obtain rfl := Option.some.inj H
      go_enter Tryd.func25, Tryd.ntmps25
      go_wp2_with (first | ((with_reducible refine gate_dst (N := 2) rfl ?_); refine box_event ?hg (N := 2) ?hd (cs := #[.int .i64 a0_0, .int .i64 a0_1, .slice A0_2 l0_2.length c0_2, .string a0_3, .string a0_4, .string a0_5]) (t := 44) ?hr ?_; (case hd => rfl); (case hg => rfl); (case hr => exact zq_9); intro gb250001 hg w9 hbox hb; have n0_ := Aside0.mk (below_step zq_0 hb); have n1_ := Aside0.mk (hbox); have n2_ := Aside0.mk ((by rw [hg]; exact (below_size zq_0) : w.heap.size ≤ gb250001)); have n3_ := Aside0.mk ((by rw [hg]; exact (below_size zq_0) : w.heap.size ≤ gb250001)); clear HB; have HB := n0_; have BK250001 := n1_; have GW250001 := n2_; have GE250001 := n3_; clear n0_ n1_ n2_ n3_; clear hb hbox hg) | ((with_reducible refine gate_dst (N := 3) rfl ?_); refine box_event ?hg (N := 3) ?hd (cs := #[.int .i64 a1_0, .int .i64 a1_1, .slice A1_2 l1_2.length c1_2, .string a1_3, .string a1_4, .string a1_5]) (t := 44) ?hr ?_; (case hd => rfl); (case hg => rfl); (case hr => exact zq_9); intro gb250002 hg w10 hbox hb; have n0_ := Aside0.mk (blk_below (g := gb250001) (o := .cells #[.int .i64 a0_0, .int .i64 a0_1, .slice A0_2 l0_2.length c0_2, .string a0_3, .string a0_4, .string a0_5] 44 (0, 0)) zq_53 hb); have n1_ := Aside0.mk (below_step zq_59 hb); have n2_ := Aside0.mk (hbox); have n3_ := Aside0.mk ((by rw [hg]; exact (below_size zq_59) : w.heap.size ≤ gb250002)); have n4_ := Aside0.mk ((by rw [hg]; exact (below_size zq_59) : w.heap.size ≤ gb250002)); have n5_ := Aside0.mk ((by rw [hg]; exact Nat.ne_of_lt (blk_lt (g := gb250001) (o := .cells #[.int .i64 a0_0, .int .i64 a0_1, .slice A0_2 l0_2.length c0_2, .string a0_3, .string a0_4, .string a0_5] 44 (0, 0)) zq_53) : gb250001 ≠ gb250002)); have n6_ := Aside0.mk ((by rw [hg]; exact Nat.ne_of_gt (blk_lt (g := gb250001) (o := .cells #[.int .i64 a0_0, .int .i64 a0_1, .slice A0_2 l0_2.length c0_2, .string a0_3, .string a0_4, .string a0_5] 44 (0, 0)) zq_53) : gb250002 ≠ gb250001)); clear BK250001; clear HB; have BK250001 := n0_; have HB := n1_; have BK250002 := n2_; have GW250002 := n3_; have GE250002 := n4_; have NB250001_250002 := n5_; have NB250002_250001 := n6_; clear n0_ n1_ n2_ n3_ n4_ n5_ n6_; clear hb hbox hg; have hnb11 := NB250001_250002.out; have hnc11 := NB250002_250001.out; have hcz12_0 : w10.cell? ⟨gb250001, 0, none⟩ = some (.int .i64 a0_0) := (blk_cell BK250001.out 0).trans rfl; have hcz12_1 : w10.cell? ⟨gb250001, 1, none⟩ = some (.int .i64 a0_1) := (blk_cell BK250001.out 1).trans rfl; have hcz12_2 : w10.cell? ⟨gb250001, 2, none⟩ = some (.slice A0_2 l0_2.length c0_2) := (blk_cell BK250001.out 2).trans rfl; have hcz12_3 : w10.cell? ⟨gb250001, 3, none⟩ = some (.string a0_3) := (blk_cell BK250001.out 3).trans rfl; have hcz12_4 : w10.cell? ⟨gb250001, 4, none⟩ = some (.string a0_4) := (blk_cell BK250001.out 4).trans rfl; have hcz12_5 : w10.cell? ⟨gb250001, 5, none⟩ = some (.string a0_5) := (blk_cell BK250001.out 5).trans rfl; have hfz12_0 := blk_frozen BK250001.out 0; have hfz12_1 := blk_frozen BK250001.out 1; have hfz12_2 := blk_frozen BK250001.out 2; have hfz12_3 := blk_frozen BK250001.out 3; have hfz12_4 := blk_frozen BK250001.out 4; have hfz12_5 := blk_frozen BK250001.out 5; have hcz13_0 : w10.cell? ⟨gb250002, 0, none⟩ = some (.int .i64 a1_0) := (blk_cell BK250002.out 0).trans rfl; have hcz13_1 : w10.cell? ⟨gb250002, 1, none⟩ = some (.int .i64 a1_1) := (blk_cell BK250002.out 1).trans rfl; have hcz13_2 : w10.cell? ⟨gb250002, 2, none⟩ = some (.slice A1_2 l1_2.length c1_2) := (blk_cell BK250002.out 2).trans rfl; have hcz13_3 : w10.cell? ⟨gb250002, 3, none⟩ = some (.string a1_3) := (blk_cell BK250002.out 3).trans rfl; have hcz13_4 : w10.cell? ⟨gb250002, 4, none⟩ = some (.string a1_4) := (blk_cell BK250002.out 4).trans rfl; have hcz13_5 : w10.cell? ⟨gb250002, 5, none⟩ = some (.string a1_5) := (blk_cell BK250002.out 5).trans rfl; have hfz13_0 := blk_frozen BK250002.out 0; have hfz13_1 := blk_frozen BK250002.out 1; have hfz13_2 := blk_frozen BK250002.out 2; have hfz13_3 := blk_frozen BK250002.out 3; have hfz13_4 := blk_frozen BK250002.out 4; have hfz13_5 := blk_frozen BK250002.out 5) | ((with_reducible refine gate_callee (f := 18) rfl ?_); refine goesL_ (some 14) rfl rfl Tryd.func18 (by kernel_rfl) rfl #[.agg #[.int .i64 a0_1, .slice A0_2 l0_2.length c0_2], .agg #[.int .i64 a1_1, .slice A1_2 l1_2.length c1_2]] rfl zq_1 ?_; (with_reducible refine (laws_eqPool.calls k a0_1 _ _ l0_2 a1_1 _ _ l1_2 true _ ?side1 ?side2 ?side3 ?side4 A4.out).mono ?_); (case side1 => repeat (first | exact (Kd.C_below HR0_2.out HB.out) | (with_reducible refine Kd.C_alloc ?_ _) | (with_reducible refine Kd.C_drewN ?_ _) | (with_reducible refine Kd.C_drew ?_))); (case side2 => exact HC0_2.out); (case side3 => repeat (first | exact (Kd.C_below HR1_2.out HB.out) | (with_reducible refine Kd.C_alloc ?_ _) | (with_reducible refine Kd.C_drewN ?_ _) | (with_reducible refine Kd.C_drew ?_))); (case side4 => exact HC1_2.out); rintro e w14 ⟨rfl, hb⟩; refine ⟨_, rfl, ?_⟩; have n0_ := Aside0.mk (blk_below (g := gb250001) (o := .cells #[.int .i64 a0_0, .int .i64 a0_1, .slice A0_2 l0_2.length c0_2, .string a0_3, .string a0_4, .string a0_5] 44 (0, 0)) zq_53 hb); have n1_ := Aside0.mk (blk_below (g := gb250002) (o := .cells #[.int .i64 a1_0, .int .i64 a1_1, .slice A1_2 l1_2.length c1_2, .string a1_3, .string a1_4, .string a1_5] 44 (0, 0)) (by (with_reducible repeat (first | refine blk_drewN ?_ _ | refine blk_drew ?_ | refine blk_alloc ?_ _)); exact BK250002.out) hb); have n2_ := Aside0.mk (below_step (by repeat (first | (with_reducible first | exact HB.out | apply below_alloc | apply pw_below_drewN | apply below_drew1 | refine below_set ?_ GE250001.out | refine below_set ?_ GE250002.out) | exact HB.out)) hb); clear BK250001; clear BK250002; clear HB; have BK250001 := n0_; have BK250002 := n1_; have HB := n2_; clear n0_ n1_ n2_; (try clear hb); (try clear hb2); (try clear hk); (try clear hi); have hcz15_0 : w14.cell? ⟨gb250001, 0, none⟩ = some (.int .i64 a0_0) := (blk_cell BK250001.out 0).trans rfl; have hcz15_1 : w14.cell? ⟨gb250001, 1, none⟩ = some (.int .i64 a0_1) := (blk_cell BK250001.out 1).trans rfl; have hcz15_2 : w14.cell? ⟨gb250001, 2, none⟩ = some (.slice A0_2 l0_2.length c0_2) := (blk_cell BK250001.out 2).trans rfl; have hcz15_3 : w14.cell? ⟨gb250001, 3, none⟩ = some (.string a0_3) := (blk_cell BK250001.out 3).trans rfl; have hcz15_4 : w14.cell? ⟨gb250001, 4, none⟩ = some (.string a0_4) := (blk_cell BK250001.out 4).trans rfl; have hcz15_5 : w14.cell? ⟨gb250001, 5, none⟩ = some (.string a0_5) := (blk_cell BK250001.out 5).trans rfl; have hfz15_0 := blk_frozen BK250001.out 0; have hfz15_1 := blk_frozen BK250001.out 1; have hfz15_2 := blk_frozen BK250001.out 2; have hfz15_3 := blk_frozen BK250001.out 3; have hfz15_4 := blk_frozen BK250001.out 4; have hfz15_5 := blk_frozen BK250001.out 5; have hcz16_0 : w14.cell? ⟨gb250002, 0, none⟩ = some (.int .i64 a1_0) := (blk_cell BK250002.out 0).trans rfl; have hcz16_1 : w14.cell? ⟨gb250002, 1, none⟩ = some (.int .i64 a1_1) := (blk_cell BK250002.out 1).trans rfl; have hcz16_2 : w14.cell? ⟨gb250002, 2, none⟩ = some (.slice A1_2 l1_2.length c1_2) := (blk_cell BK250002.out 2).trans rfl; have hcz16_3 : w14.cell? ⟨gb250002, 3, none⟩ = some (.string a1_3) := (blk_cell BK250002.out 3).trans rfl; have hcz16_4 : w14.cell? ⟨gb250002, 4, none⟩ = some (.string a1_4) := (blk_cell BK250002.out 4).trans rfl; have hcz16_5 : w14.cell? ⟨gb250002, 5, none⟩ = some (.string a1_5) := (blk_cell BK250002.out 5).trans rfl; have hfz16_0 := blk_frozen BK250002.out 0; have hfz16_1 := blk_frozen BK250002.out 1; have hfz16_2 := blk_frozen BK250002.out 2; have hfz16_3 := blk_frozen BK250002.out 3; have hfz16_4 := blk_frozen BK250002.out 4; have hfz16_5 := blk_frozen BK250002.out 5))
      go_ret
      exact ⟨by first | rfl | (simp [errW_none, errW_some] <;> rfl) | (simp [*, errW_none, errW_some] <;> rfl), by repeat (first | (with_reducible first | exact HB.out | apply below_alloc | apply pw_below_drewN | apply below_drew1 | refine below_set ?_ GE250001.out | refine below_set ?_ GE250002.out) | exact HB.out)⟩
     ·rw [if_neg c8] at H; exact absurd H (by simp)
    ·rw [if_neg c7] at H; exact absurd H (by simp)
   ·rw [if_neg c6] at H; exact absurd H (by simp)
  ·replace c5 := Bool.eq_false_iff.mpr c5; subst c5; have H1 : (none) = some r := by rw [if_neg (show ¬ (false = true) by decide)] at H; exact H
   exact absurd H1 (by simp)
 ·rw [if_neg c3] at H; exact absurd H (by simp)
def laws_markText.l0 : Nat → Int → ByteArray → Option (ByteArray)
 | 0, _, _ => none
 | k + 1, x0, x3 => if x0 > 0 then ((some (([(wrap64 (48 + (Int.tmod x0 10))) % 256] : List Int) : List Int)).bind fun y450001 => (if (strOfNums y450001).size + x3.size ≤ 9223372036854775807 then (laws_markText.l0 k (wrap64 (Int.tdiv x0 10)) ((strOfNums y450001) ++ x3)) else (none))) else (if 1 + x3.size ≤ 9223372036854775807 then (some ((⟨#[109]⟩ : ByteArray) ++ x3)) else (none))
def laws_markText.f (k : Nat) (a0 : Int) : Option (ByteArray) := if a0 ≤ 0 then (some (⟨#[109, 48]⟩ : ByteArray)) else (laws_markText.l0 k a0 (⟨#[]⟩ : ByteArray))
theorem laws_markText.mono_l : ∀ k, (∀ y0 y1, LeO (laws_markText.l0 k y0 y1) (laws_markText.l0 (k + 1) y0 y1))
 | 0 => fun _ _ r h => by simp [laws_markText.l0] at h
 | k + 1 => by
  have ih0 := laws_markText.mono_l k
  ·intro y0 y1; unfold laws_markText.l0
   repeat' first
   | (with_reducible exact ih0 _ _)
   | (with_reducible exact LeO.refl _)
   | (with_reducible exact LeO.none _)
   | (with_reducible refine LeO.ite ?_ ?_)
   | (with_reducible refine LeO.bind ?_ (fun _ => ?_))
   | exact ih0 _ _
   | exact LeO.none _
   | refine LeO.ite ?_ ?_
   | refine LeO.bind ?_ (fun _ => ?_)
theorem laws_markText.mono : ∀ a0 k, LeO (laws_markText.f k a0) (laws_markText.f (k + 1) a0) := by
 intro a0 k; have ih0 := laws_markText.mono_l k; unfold laws_markText.f
 repeat' first
   | (with_reducible exact ih0 _ _)
   | (with_reducible exact LeO.refl _)
   | (with_reducible exact LeO.none _)
   | (with_reducible refine LeO.ite ?_ ?_)
   | (with_reducible refine LeO.bind ?_ (fun _ => ?_))
   | exact ih0 _ _
   | exact LeO.none _
   | refine LeO.ite ?_ ?_
   | refine LeO.bind ?_ (fun _ => ?_)
set_option maxHeartbeats 8000000 in
set_option maxRecDepth 100000 in
theorem laws_markText.calls (k : Nat) (a0 : Int) (r : ByteArray) (w : World) (h : laws_markText.f k a0 = some r) :
  Calls Tryd.prog 45 #[.int .i64 a0] w fun e w' => e = .returned (.string r) ∧ Below w.heap.size w w' := by
 have HB := Aside0.mk (Below.refl w.heap.size w); have H : (if a0 ≤ 0 then (some (⟨#[109, 48]⟩ : ByteArray)) else (laws_markText.l0 k a0 (⟨#[]⟩ : ByteArray))) = some r := h; clear h
 by_cases c2 : a0 ≤ 0
 ·rw [if_pos c2] at H; have c2b0 : decide (a0 ≤ 0) = true := decide_eq_true c2; clear c2; obtain rfl := Option.some.inj H
  go_enter Tryd.func45, Tryd.ntmps45
  go_wp2
  go_ret
  exact ⟨by first | rfl | (simp [errW_none, errW_some] <;> rfl) | (simp [*, errW_none, errW_some] <;> rfl), by repeat (first | (with_reducible first | exact HB.out | apply below_alloc | apply pw_below_drewN | apply below_drew1) | exact HB.out)⟩
 ·rw [if_neg c2] at H; have c2b0 : decide (a0 ≤ 0) = false := decide_eq_false c2; clear c2; have H' := Aside0.mk H; clear H
  go_enter Tryd.func45, Tryd.ntmps45
  go_wp2
  go_loopg [0, 3] k (fun kq v0 v3 w' => ∃ (x0_1 : Int) (x3_1 : ByteArray), v0 = .int .i64 x0_1 ∧ v3 = .string x3_1 ∧ Aside0 (laws_markText.l0 kq x0_1 x3_1 = some r) ∧ Aside0 (kq ≤ k) ∧ Aside0 (Below w.heap.size w w'))
  case atStart => exact ⟨(a0), ((⟨#[]⟩ : ByteArray)), zq_5, zq_5, H', ⟨Nat.le_refl _⟩, ⟨by repeat (first | (with_reducible first | exact HB.out | apply below_alloc | apply pw_below_drewN | apply below_drew1) | exact HB.out)⟩⟩
  case round =>
   clear H'
   try clear c2
   try clear c2b0
   try clear p2
   obtain ⟨x0_1, x3_1, rfl, rfl, HA, HK1, HB⟩ := hrel
   cases gk with
   | zero => exact absurd HA.out (by simp [laws_markText.l0])
   | succ k1 =>
    have H := HA.out; clear HA; simp only [laws_markText.l0] at H
    by_cases c3 : x0_1 > 0
    ·rw [if_pos c3] at H; have c3b0 : decide (0 < x0_1) = true := decide_eq_true c3; clear c3; obtain ⟨y450001, hy450001⟩ : ∃ y_ : List Int, y_ = (([(wrap64 (48 + (Int.tmod x0_1 10))) % 256] : List Int)) := ⟨_, rfl⟩
     replace H : (if (strOfNums y450001).size + x3_1.size ≤ 9223372036854775807 then (laws_markText.l0 k1 (wrap64 (Int.tdiv x0_1 10)) ((strOfNums y450001) ++ x3_1)) else (none)) = some r := by first | (rw [hy450001]; with_reducible exact H) | (have H2_ := (Option.bind_some _ _).symm.trans H; rw [hy450001]; with_reducible exact H2_) | (have H2_ := (Option.bind_some _ _).symm.trans H; with_reducible exact H2_) | with_reducible exact H | (rw [hy450001]; exact H) | exact H
     have Ny450001 := Aside0.mk hy450001; clear hy450001
     by_cases c4 : (strOfNums y450001).size + x3_1.size ≤ 9223372036854775807
     ·rw [if_pos c4] at H; have c4b0 := eq_true c4; have c4b1 : decide ((strOfNums y450001).size + x3_1.size ≤ 9223372036854775807) = true := decide_eq_true c4
      try have c4b2 : (9223372036854775807 < (strOfNums y450001).size + x3_1.size) = False := eq_false (Nat.not_lt.2 c4)
      have H' := Aside0.mk H; clear H
      go_wp2_with (first | ((with_reducible refine gate_dst (N := 12) rfl ?_); refine Kd.R_lit (Kd.int .u8) _ 5 ?hg (N := 12) ?hd (xs := ([(wrap64 (48 + (Int.tmod x0_1 10))) % 256] : List Int)) (inner := [.int .u8 ((wrap64 (48 + (Int.tmod x0_1 10))) % 256)]) (ok := fun _ => True) (okp := fun _ => True) ?hr ?hp (fun _ hk => hk) trivial (Below.refl _ _) (Nat.le_refl _) (by simp) ?_; (case hd => rfl); (case hg => rfl); (case hr => exact zq_9); (case hp => exact (Reps.one (show Kd.M (Kd.int .u8) _ _ _ ((wrap64 (48 + (Int.tmod x0_1 10))) % 256) [.int .u8 ((wrap64 (48 + (Int.tmod x0_1 10))) % 256)] from rfl) (Reps.none _ _))); intro v450002 w5 ho6 hb hg_ hnew_; clear hg_ hnew_; (first | rw [← Ny450001.out] at ho6 | (simp only [Int.reduceToNat] at ho6; rw [← Ny450001.out] at ho6)); have n0_ := Aside0.mk (Kd.R_lower ho6 (below_size zq_0)); have n1_ := Aside0.mk (below_step zq_0 hb); clear HB; have HO450003 := n0_; have HB := n1_; clear n0_ n1_; clear hb ho6; have hcv7 := own_string (P := Tryd.prog) Tryd.underlying51 Tryd.underlying5 Tryd.underlying9 (Kd.own_of_R HO450003.out)))
      go_roundg k1
      case measure => have := HK1.out; omega
      case rel => exact ⟨(wrap64 (Int.tdiv x0_1 10)), ((strOfNums y450001) ++ x3_1), zq_5, zq_5, H', ⟨by have := HK1.out; omega⟩, ⟨by repeat (first | (with_reducible first | exact HB.out | apply below_alloc | apply pw_below_drewN | apply below_drew1) | exact HB.out)⟩⟩
     ·rw [if_neg c4] at H; exact absurd H (by simp)
    ·rw [if_neg c3] at H; have c3b0 : decide (0 < x0_1) = false := decide_eq_false c3; clear c3
     by_cases c8 : 1 + x3_1.size ≤ 9223372036854775807
     ·rw [if_pos c8] at H; have c8b0 := eq_true c8; have c8b1 : decide (1 + x3_1.size ≤ 9223372036854775807) = true := decide_eq_true c8
      try have c8b2 : (9223372036854775807 < 1 + x3_1.size) = False := eq_false (Nat.not_lt.2 c8)
      obtain rfl := Option.some.inj H
      go_wp2
      go_ret
      exact ⟨by first | rfl | (simp [errW_none, errW_some] <;> rfl) | (simp [*, errW_none, errW_some] <;> rfl), by repeat (first | (with_reducible first | exact HB.out | apply below_alloc | apply pw_below_drewN | apply below_drew1) | exact HB.out)⟩
     ·rw [if_neg c8] at H; exact absurd H (by simp)
def laws_heldStringS.l0 : Nat → List ByteArray → Int → Int → Option (Int)
 | 0, _, _, _ => none
 | k + 1, x0, x1, x5 => if x5 < (x0.length : Int) then (if 0 ≤ x5 then ((laws_markText.f k x1).bind fun t990002 => (if (rdOf ByteArray.empty x0 x5).toList = t990002.toList then (laws_heldStringS.l0 k x0 (wrap64 (x1 + 1)) (wrap64 (x5 + 1))) else (some (-1)))) else (none)) else (some x1)
def laws_heldStringS.f (k : Nat) (l0 : List ByteArray) (a1 : Int) : Option (Int) := laws_heldStringS.l0 k l0 a1 0
set_option maxHeartbeats 8000000 in
set_option maxRecDepth 100000 in
theorem laws_heldStringS.calls (k : Nat) (A0 : Option Addr) (c0 : Nat) (l0 : List ByteArray) (a1 : Int) (r : Int) (w : World) (hr0 : Kd.C Kd.string w A0 l0.length l0) (hc0 : l0.length ≤ c0) (h : laws_heldStringS.f k l0 a1 = some r) :
  Calls Tryd.prog 99 #[.slice A0 l0.length c0, .int .i64 a1] w fun e w' => e = .returned (.int .i64 r) ∧ Below w.heap.size w w' := by
 have HR0 := Aside0.mk hr0; have HC0 := Aside0.mk hc0; clear hr0 hc0; have HB := Aside0.mk (Below.refl w.heap.size w); have H : (laws_heldStringS.l0 k l0 a1 0) = some r := h; clear h; have H' := Aside0.mk H; clear H
 go_enter Tryd.func99, Tryd.ntmps99
 go_wp2
 go_loopg [1, 5] k (fun kq v1 v5 w' => ∃ (x1_1 : Int) (x5_1 : Int), v1 = .int .i64 x1_1 ∧ v5 = .int .i64 x5_1 ∧ Aside0 (laws_heldStringS.l0 kq l0 x1_1 x5_1 = some r) ∧ Aside0 (kq ≤ k) ∧ Aside0 (Below w.heap.size w w'))
 case atStart => exact ⟨(a1), (0), zq_5, zq_5, H', ⟨Nat.le_refl _⟩, ⟨by repeat (first | (with_reducible first | exact HB.out | apply below_alloc | apply pw_below_drewN | apply below_drew1) | exact HB.out)⟩⟩
 case round =>
  clear H'
  try clear p2
  obtain ⟨x1_1, x5_1, rfl, rfl, HA, HK1, HB⟩ := hrel
  cases gk with
  | zero => exact absurd HA.out (by simp [laws_heldStringS.l0])
  | succ k1 =>
   have H := HA.out; clear HA; simp only [laws_heldStringS.l0] at H
   by_cases c3 : x5_1 < (l0.length : Int)
   ·rw [if_pos c3] at H; have c3b0 : decide (x5_1 < (l0.length : Int)) = true := decide_eq_true c3; clear c3
    by_cases c4 : 0 ≤ x5_1
    ·rw [if_pos c4] at H; have c4b0 : decide (0 ≤ x5_1) = true := decide_eq_true c4; clear c4; replace H := Option.bind_eq_some_iff.mp H; obtain ⟨t990002, A50, H⟩ := H; (try dsimp only at H); have A5 := Aside0.mk A50; clear A50
     by_cases c6 : (rdOf ByteArray.empty l0 x5_1).toList = t990002.toList
     ·rw [if_pos c6] at H; have c6b0 : ((rdOf ByteArray.empty l0 x5_1).toList == t990002.toList) = true := beq_iff_eq.mpr c6; have c6b1 : ((rdOf ByteArray.empty l0 x5_1).toList != t990002.toList) = false := bne_eq_false_iff_eq.mpr c6; clear c6; have H' := Aside0.mk H; clear H
      try go_wp2
      have n0_ := Aside0.mk (below_drew1 HB.out); clear HB; have HB := n0_; clear n0_; have p990001 : 0 ≤ (x5_1 : Int) := of_decide_eq_true zq_2; have q990001 : x5_1 < (l0.length : Int) := of_decide_eq_true zq_2; obtain ⟨ad990001, e990001, hx990001_0⟩ := Kd.at_string HR0.out x5_1 p990001 q990001; have hw990001_0 := hx990001_0
      cases e990001
      replace hx990001_0 := (HB.out.cell (World.block_lt_of_cell? w _ hx990001_0)).trans hx990001_0; replace p990001 := eq_true p990001; replace q990001 := eq_true q990001; refine start_ (n := 7) (S := fun w' => w'.cell? (ad990001.add (x5_1).toNat) = some (.string (rdOf ByteArray.empty l0 x5_1))) (ds := []) #[false, false, false, false, false, false, false] (by kernel_rfl) rfl rfl (((HB.out.cell (World.block_lt_of_cell? w _ hw990001_0)).trans hw990001_0)) (fun hHeld => ?_); generalize wr.drew = w7 at HB hx990001_0 hHeld ⊢; refine pure_ (i := 0) (N := some 12) (v := ?_) (a' := ?_) #[true, false, false, false, false, false, false] rfl rfl (by kernel_rfl) (fun _ _ _ h => h) (Or.inl ⟨by rfl, ?_⟩) ?_ ?_; rotate_left
      ·intro w'; go_simp
       with_reducible rfl
      rotate_left
      ·simp only [Act.put, List.setIfInBounds_toArray, List.set_cons_zero, List.set_cons_succ, i64_w, i32_w]; rfl
      refine pure_ (i := 1) (N := some 13) (v := ?_) (a' := ?_) #[true, true, false, false, false, false, false] rfl rfl (by kernel_rfl) (fun _ _ _ h => h) (Or.inl ⟨by rfl, ?_⟩) ?_ ?_; rotate_left
      ·intro w'; go_simp
       with_reducible rfl
      rotate_left
      ·simp only [Act.put, List.setIfInBounds_toArray, List.set_cons_zero, List.set_cons_succ, i64_w, i32_w]; rfl
      refine pure_ (i := 2) (N := some 14) (v := ?_) (a' := ?_) #[true, true, true, false, false, false, false] rfl rfl (by kernel_rfl) (fun _ _ _ h => h) (Or.inl ⟨by rfl, ?_⟩) ?_ ?_; rotate_left
      ·intro w'; go_simp
       with_reducible rfl
      rotate_left
      ·simp only [Act.put, List.setIfInBounds_toArray, List.set_cons_zero, List.set_cons_succ, i64_w, i32_w]; rfl
      refine pure_ (i := 4) (N := some 16) (v := ?_) (a' := ?_) #[true, true, true, false, true, false, false] rfl rfl (by kernel_rfl) (fun _ _ _ h => h) (Or.inl ⟨by rfl, ?_⟩) ?_ ?_; rotate_left
      ·intro w'; go_simp
       with_reducible rfl
      rotate_left
      ·simp only [Act.put, List.setIfInBounds_toArray, List.set_cons_zero, List.set_cons_succ, i64_w, i32_w]; rfl
      refine take_ (i := 3) (N := some 15) (v := ?_) (a' := ?_) #[true, true, true, true, true, false, false] rfl rfl (by kernel_rfl) (fun _ _ _ h => h) (Or.inl ⟨by rfl, ?_⟩) hHeld ?_ ?_; rotate_left
      ·intro w' s0; go_simp
       with_reducible rfl
      rotate_left
      ·simp only [Act.put, List.setIfInBounds_toArray, List.set_cons_zero, List.set_cons_succ, i64_w, i32_w]; rfl
      refine one_ (i := 5) (N := some 17) #[true, true, true, true, true, true, false] rfl rfl (by kernel_rfl) (by decide) (fun K hK => ?_); refine goes_ Tryd.func45 (by kernel_rfl) rfl #[.int .i64 x1_1] (by rfl) rfl rfl zq_1 ?_
      with_reducible refine (laws_markText.calls k1 x1_1 t990002 _ A5.out).mono ?_
      rintro e w8 ⟨rfl, hb⟩; refine ⟨_, rfl, ?_⟩; have n0_ := Aside0.mk (below_step zq_0 hb); clear HB; have HB := n0_; clear n0_; (try clear hb); (try clear hb2); (try clear hk); (try clear hi); refine hK.out _ _ (((HB.out.cell (World.block_lt_of_cell? w _ hw990001_0)).trans hw990001_0)) (fun hHeld => ?_); clear hK K; refine norm_ (a' := ?_) ?_ ?_; rotate_left
      ·show Act.put _ (some 17) _ = _; simp only [Act.put, List.setIfInBounds_toArray, List.set_cons_zero, List.set_cons_succ, i64_w, i32_w]; rfl
      refine pure_ (i := 6) (N := some 18) (v := ?_) (a' := ?_) #[true, true, true, true, true, true, true] rfl rfl (by kernel_rfl) (fun _ _ _ h => h) (Or.inl ⟨by rfl, ?_⟩) ?_ ?_; rotate_left
      ·intro w'; go_simp
       with_reducible rfl
      rotate_left
      ·simp only [Act.put, List.setIfInBounds_toArray, List.set_cons_zero, List.set_cons_succ, i64_w, i32_w]; rfl
      refine done_ (by kernel_rfl) ?_
      try go_wp2
      go_roundg k1
      case measure => have := HK1.out; omega
      case rel => exact ⟨(wrap64 (x1_1 + 1)), (wrap64 (x5_1 + 1)), zq_5, zq_5, H', ⟨by have := HK1.out; omega⟩, ⟨by repeat (first | (with_reducible first | exact HB.out | apply below_alloc | apply pw_below_drewN | apply below_drew1) | exact HB.out)⟩⟩
     ·rw [if_neg c6] at H; have c6b0 : ((rdOf ByteArray.empty l0 x5_1).toList == t990002.toList) = false := beq_eq_false_iff_ne.mpr c6; have c6b1 : ((rdOf ByteArray.empty l0 x5_1).toList != t990002.toList) = true := bne_iff_ne.mpr c6; obtain rfl := Option.some.inj H
      try go_wp2
      have n0_ := Aside0.mk (below_drew1 HB.out); clear HB; have HB := n0_; clear n0_; have p990001 : 0 ≤ (x5_1 : Int) := of_decide_eq_true zq_2; have q990001 : x5_1 < (l0.length : Int) := of_decide_eq_true zq_2; obtain ⟨ad990001, e990001, hx990001_0⟩ := Kd.at_string HR0.out x5_1 p990001 q990001; have hw990001_0 := hx990001_0
      cases e990001
      replace hx990001_0 := (HB.out.cell (World.block_lt_of_cell? w _ hx990001_0)).trans hx990001_0; replace p990001 := eq_true p990001; replace q990001 := eq_true q990001; refine start_ (n := 7) (S := fun w' => w'.cell? (ad990001.add (x5_1).toNat) = some (.string (rdOf ByteArray.empty l0 x5_1))) (ds := []) #[false, false, false, false, false, false, false] (by kernel_rfl) rfl rfl (((HB.out.cell (World.block_lt_of_cell? w _ hw990001_0)).trans hw990001_0)) (fun hHeld => ?_); generalize wr.drew = w9 at HB hx990001_0 hHeld ⊢; refine pure_ (i := 0) (N := some 12) (v := ?_) (a' := ?_) #[true, false, false, false, false, false, false] rfl rfl (by kernel_rfl) (fun _ _ _ h => h) (Or.inl ⟨by rfl, ?_⟩) ?_ ?_; rotate_left
      ·intro w'; go_simp
       with_reducible rfl
      rotate_left
      ·simp only [Act.put, List.setIfInBounds_toArray, List.set_cons_zero, List.set_cons_succ, i64_w, i32_w]; rfl
      refine pure_ (i := 1) (N := some 13) (v := ?_) (a' := ?_) #[true, true, false, false, false, false, false] rfl rfl (by kernel_rfl) (fun _ _ _ h => h) (Or.inl ⟨by rfl, ?_⟩) ?_ ?_; rotate_left
      ·intro w'; go_simp
       with_reducible rfl
      rotate_left
      ·simp only [Act.put, List.setIfInBounds_toArray, List.set_cons_zero, List.set_cons_succ, i64_w, i32_w]; rfl
      refine pure_ (i := 2) (N := some 14) (v := ?_) (a' := ?_) #[true, true, true, false, false, false, false] rfl rfl (by kernel_rfl) (fun _ _ _ h => h) (Or.inl ⟨by rfl, ?_⟩) ?_ ?_; rotate_left
      ·intro w'; go_simp
       with_reducible rfl
      rotate_left
      ·simp only [Act.put, List.setIfInBounds_toArray, List.set_cons_zero, List.set_cons_succ, i64_w, i32_w]; rfl
      refine pure_ (i := 4) (N := some 16) (v := ?_) (a' := ?_) #[true, true, true, false, true, false, false] rfl rfl (by kernel_rfl) (fun _ _ _ h => h) (Or.inl ⟨by rfl, ?_⟩) ?_ ?_; rotate_left
      ·intro w'; go_simp
       with_reducible rfl
      rotate_left
      ·simp only [Act.put, List.setIfInBounds_toArray, List.set_cons_zero, List.set_cons_succ, i64_w, i32_w]; rfl
      refine take_ (i := 3) (N := some 15) (v := ?_) (a' := ?_) #[true, true, true, true, true, false, false] rfl rfl (by kernel_rfl) (fun _ _ _ h => h) (Or.inl ⟨by rfl, ?_⟩) hHeld ?_ ?_; rotate_left
      ·intro w' s0; go_simp
       with_reducible rfl
      rotate_left
      ·simp only [Act.put, List.setIfInBounds_toArray, List.set_cons_zero, List.set_cons_succ, i64_w, i32_w]; rfl
      refine one_ (i := 5) (N := some 17) #[true, true, true, true, true, true, false] rfl rfl (by kernel_rfl) (by decide) (fun K hK => ?_); refine goes_ Tryd.func45 (by kernel_rfl) rfl #[.int .i64 x1_1] (by rfl) rfl rfl zq_1 ?_
      with_reducible refine (laws_markText.calls k1 x1_1 t990002 _ A5.out).mono ?_
      rintro e w10 ⟨rfl, hb⟩; refine ⟨_, rfl, ?_⟩; have n0_ := Aside0.mk (below_step zq_0 hb); clear HB; have HB := n0_; clear n0_; (try clear hb); (try clear hb2); (try clear hk); (try clear hi); refine hK.out _ _ (((HB.out.cell (World.block_lt_of_cell? w _ hw990001_0)).trans hw990001_0)) (fun hHeld => ?_); clear hK K; refine norm_ (a' := ?_) ?_ ?_; rotate_left
      ·show Act.put _ (some 17) _ = _; simp only [Act.put, List.setIfInBounds_toArray, List.set_cons_zero, List.set_cons_succ, i64_w, i32_w]; rfl
      refine pure_ (i := 6) (N := some 18) (v := ?_) (a' := ?_) #[true, true, true, true, true, true, true] rfl rfl (by kernel_rfl) (fun _ _ _ h => h) (Or.inl ⟨by rfl, ?_⟩) ?_ ?_; rotate_left
      ·intro w'; go_simp
       with_reducible rfl
      rotate_left
      ·simp only [Act.put, List.setIfInBounds_toArray, List.set_cons_zero, List.set_cons_succ, i64_w, i32_w]; rfl
      refine done_ (by kernel_rfl) ?_
      try go_wp2
      go_ret
      exact ⟨by first | rfl | (simp [errW_none, errW_some] <;> rfl) | (simp [*, errW_none, errW_some] <;> rfl), by repeat (first | (with_reducible first | exact HB.out | apply below_alloc | apply pw_below_drewN | apply below_drew1) | exact HB.out)⟩
    ·rw [if_neg c4] at H; exact absurd H (by simp)
   ·rw [if_neg c3] at H; have c3b0 : decide (x5_1 < (l0.length : Int)) = false := decide_eq_false c3; clear c3; obtain rfl := Option.some.inj H
    go_wp2
    go_ret
    exact ⟨by first | rfl | (simp [errW_none, errW_some] <;> rfl) | (simp [*, errW_none, errW_some] <;> rfl), by repeat (first | (with_reducible first | exact HB.out | apply below_alloc | apply pw_below_drewN | apply below_drew1) | exact HB.out)⟩
def laws_heldPool.f (k : Nat) (a0_0 : Int) (l0_1 : List ByteArray) (a1 : Int) : Option (Int) := (laws_heldStringS.f k l0_1 a1).bind fun t840002 => (if t840002 < 0 then (some (-1)) else (some t840002))
set_option maxHeartbeats 8000000 in
set_option maxRecDepth 100000 in
theorem laws_heldPool.calls (k : Nat) (a0_0 : Int) (A0_1 : Option Addr) (c0_1 : Nat) (l0_1 : List ByteArray) (a1 : Int) (r : Int) (w : World) (hr0_1 : Kd.C Kd.string w A0_1 l0_1.length l0_1) (hc0_1 : l0_1.length ≤ c0_1) (h : laws_heldPool.f k a0_0 l0_1 a1 = some r) :
  Calls Tryd.prog 84 #[.agg #[.int .i64 a0_0, .slice A0_1 l0_1.length c0_1], .int .i64 a1] w fun e w' => e = .returned (.int .i64 r) ∧ Below w.heap.size w w' := by
 have hu34 := Tryd.underlying34; have HR0_1 := Aside0.mk hr0_1; have HC0_1 := Aside0.mk hc0_1; clear hr0_1 hc0_1; have HB := Aside0.mk (Below.refl w.heap.size w); have H : ((laws_heldStringS.f k l0_1 a1).bind fun t840002 => (if t840002 < 0 then (some (-1)) else (some t840002))) = some r := h; clear h; replace H := Option.bind_eq_some_iff.mp H; obtain ⟨t840002, A30, H⟩ := H; (try dsimp only at H); have A3 := Aside0.mk A30; clear A30
 by_cases c4 : t840002 < 0
 ·rw [if_pos c4] at H; have c4b0 : decide (t840002 < 0) = true := decide_eq_true c4; clear c4; obtain rfl := Option.some.inj H
  go_enter Tryd.func84, Tryd.ntmps84
  go_wp2_with (first | ((with_reducible refine gate_dst (N := 2) rfl ?_); refine box_event ?hg (N := 2) ?hd (cs := #[.int .i64 a0_0, .slice A0_1 l0_1.length c0_1]) (t := 34) ?hr ?_; (case hd => rfl); (case hg => rfl); (case hr => exact zq_9); intro gb840001 hg w5 hbox hb; have n0_ := Aside0.mk (below_step zq_0 hb); have n1_ := Aside0.mk (hbox); have n2_ := Aside0.mk ((by rw [hg]; exact (below_size zq_0) : w.heap.size ≤ gb840001)); have n3_ := Aside0.mk ((by rw [hg]; exact (below_size zq_0) : w.heap.size ≤ gb840001)); clear HB; have HB := n0_; have BK840001 := n1_; have GW840001 := n2_; have GE840001 := n3_; clear n0_ n1_ n2_ n3_; clear hb hbox hg; have hcz6_0 : w5.cell? ⟨gb840001, 0, none⟩ = some (.int .i64 a0_0) := (blk_cell BK840001.out 0).trans rfl; have hcz6_1 : w5.cell? ⟨gb840001, 1, none⟩ = some (.slice A0_1 l0_1.length c0_1) := (blk_cell BK840001.out 1).trans rfl; have hfz6_0 := blk_frozen BK840001.out 0; have hfz6_1 := blk_frozen BK840001.out 1) | ((with_reducible refine gate_callee (f := 99) rfl ?_); refine goesL_ (some 8) rfl rfl Tryd.func99 (by kernel_rfl) rfl #[.slice A0_1 l0_1.length c0_1, .int .i64 a1] rfl zq_1 ?_; (with_reducible refine (laws_heldStringS.calls k _ _ l0_1 a1 t840002 _ ?side1 ?side2 A3.out).mono ?_); (case side1 => exact zq_11); (case side2 => exact HC0_1.out); rintro e w7 ⟨rfl, hb⟩; refine ⟨_, rfl, ?_⟩; have n0_ := Aside0.mk (blk_below (g := gb840001) (o := .cells #[.int .i64 a0_0, .slice A0_1 l0_1.length c0_1] 34 (0, 0)) (by (with_reducible repeat (first | refine blk_drewN ?_ _ | refine blk_drew ?_ | refine blk_alloc ?_ _)); exact BK840001.out) hb); have n1_ := Aside0.mk (below_step (by repeat (first | (with_reducible first | exact HB.out | apply below_alloc | apply pw_below_drewN | apply below_drew1 | refine below_set ?_ GE840001.out) | exact HB.out)) hb); clear BK840001; clear HB; have BK840001 := n0_; have HB := n1_; clear n0_ n1_; (try clear hb); (try clear hb2); (try clear hk); (try clear hi)))
  go_ret
  exact ⟨by first | rfl | (simp [errW_none, errW_some] <;> rfl) | (simp [*, errW_none, errW_some] <;> rfl), by repeat (first | (with_reducible first | exact HB.out | apply below_alloc | apply pw_below_drewN | apply below_drew1 | refine below_set ?_ GE840001.out) | exact HB.out)⟩
 ·rw [if_neg c4] at H; have c4b0 : decide (t840002 < 0) = false := decide_eq_false c4; clear c4; obtain rfl := Option.some.inj H
  go_enter Tryd.func84, Tryd.ntmps84
  go_wp2_with (first | ((with_reducible refine gate_dst (N := 2) rfl ?_); refine box_event ?hg (N := 2) ?hd (cs := #[.int .i64 a0_0, .slice A0_1 l0_1.length c0_1]) (t := 34) ?hr ?_; (case hd => rfl); (case hg => rfl); (case hr => exact zq_9); intro gb840001 hg w8 hbox hb; have n0_ := Aside0.mk (below_step zq_0 hb); have n1_ := Aside0.mk (hbox); have n2_ := Aside0.mk ((by rw [hg]; exact (below_size zq_0) : w.heap.size ≤ gb840001)); have n3_ := Aside0.mk ((by rw [hg]; exact (below_size zq_0) : w.heap.size ≤ gb840001)); clear HB; have HB := n0_; have BK840001 := n1_; have GW840001 := n2_; have GE840001 := n3_; clear n0_ n1_ n2_ n3_; clear hb hbox hg; have hcz9_0 : w8.cell? ⟨gb840001, 0, none⟩ = some (.int .i64 a0_0) := (blk_cell BK840001.out 0).trans rfl; have hcz9_1 : w8.cell? ⟨gb840001, 1, none⟩ = some (.slice A0_1 l0_1.length c0_1) := (blk_cell BK840001.out 1).trans rfl; have hfz9_0 := blk_frozen BK840001.out 0; have hfz9_1 := blk_frozen BK840001.out 1) | ((with_reducible refine gate_callee (f := 99) rfl ?_); refine goesL_ (some 8) rfl rfl Tryd.func99 (by kernel_rfl) rfl #[.slice A0_1 l0_1.length c0_1, .int .i64 a1] rfl zq_1 ?_; (with_reducible refine (laws_heldStringS.calls k _ _ l0_1 a1 t840002 _ ?side1 ?side2 A3.out).mono ?_); (case side1 => exact zq_11); (case side2 => exact HC0_1.out); rintro e w10 ⟨rfl, hb⟩; refine ⟨_, rfl, ?_⟩; have n0_ := Aside0.mk (blk_below (g := gb840001) (o := .cells #[.int .i64 a0_0, .slice A0_1 l0_1.length c0_1] 34 (0, 0)) (by (with_reducible repeat (first | refine blk_drewN ?_ _ | refine blk_drew ?_ | refine blk_alloc ?_ _)); exact BK840001.out) hb); have n1_ := Aside0.mk (below_step (by repeat (first | (with_reducible first | exact HB.out | apply below_alloc | apply pw_below_drewN | apply below_drew1 | refine below_set ?_ GE840001.out) | exact HB.out)) hb); clear BK840001; clear HB; have BK840001 := n0_; have HB := n1_; clear n0_ n1_; (try clear hb); (try clear hb2); (try clear hk); (try clear hi)))
  go_ret
  exact ⟨by first | rfl | (simp [errW_none, errW_some] <;> rfl) | (simp [*, errW_none, errW_some] <;> rfl), by repeat (first | (with_reducible first | exact HB.out | apply below_alloc | apply pw_below_drewN | apply below_drew1 | refine below_set ?_ GE840001.out) | exact HB.out)⟩
def laws_heldSaved.f (k : Nat) (a0_0 : Int) (a0_1 : Int) (l0_2 : List ByteArray) (a0_3 : ByteArray) (a0_4 : ByteArray) (a0_5 : ByteArray) (a1 : Int) : Option (Int) := (laws_heldPool.f k a0_1 l0_2 a1).bind fun t280002 => (if t280002 < 0 then (none) else (some t280002))
set_option maxHeartbeats 8000000 in
set_option maxRecDepth 100000 in
theorem laws_heldSaved.calls (k : Nat) (a0_0 : Int) (a0_1 : Int) (A0_2 : Option Addr) (c0_2 : Nat) (l0_2 : List ByteArray) (a0_3 : ByteArray) (a0_4 : ByteArray) (a0_5 : ByteArray) (a1 : Int) (r : Int) (w : World) (hr0_2 : Kd.C Kd.string w A0_2 l0_2.length l0_2) (hc0_2 : l0_2.length ≤ c0_2) (h : laws_heldSaved.f k a0_0 a0_1 l0_2 a0_3 a0_4 a0_5 a1 = some r) :
  Calls Tryd.prog 28 #[.agg #[.int .i64 a0_0, .int .i64 a0_1, .slice A0_2 l0_2.length c0_2, .string a0_3, .string a0_4, .string a0_5], .int .i64 a1] w fun e w' => e = .returned (.int .i64 r) ∧ Below w.heap.size w w' := by
 have hu44 := Tryd.underlying44; have hu34 := Tryd.underlying34; have HR0_2 := Aside0.mk hr0_2; have HC0_2 := Aside0.mk hc0_2; clear hr0_2 hc0_2; have HB := Aside0.mk (Below.refl w.heap.size w); have H : ((laws_heldPool.f k a0_1 l0_2 a1).bind fun t280002 => (if t280002 < 0 then (none) else (some t280002))) = some r := h; clear h; replace H := Option.bind_eq_some_iff.mp H; obtain ⟨t280002, A30, H⟩ := H; (try dsimp only at H); have A3 := Aside0.mk A30; clear A30
 by_cases c4 : t280002 < 0
 ·rw [if_pos c4] at H; exact absurd H (by simp)
 ·rw [if_neg c4] at H; have c4b0 : decide (t280002 < 0) = false := decide_eq_false c4; clear c4; obtain rfl := Option.some.inj H
  go_enter Tryd.func28, Tryd.ntmps28
  go_wp2_with (first | ((with_reducible refine gate_dst (N := 2) rfl ?_); refine box_event ?hg (N := 2) ?hd (cs := #[.int .i64 a0_0, .int .i64 a0_1, .slice A0_2 l0_2.length c0_2, .string a0_3, .string a0_4, .string a0_5]) (t := 44) ?hr ?_; (case hd => rfl); (case hg => rfl); (case hr => exact zq_9); intro gb280001 hg w8 hbox hb; have n0_ := Aside0.mk (below_step zq_0 hb); have n1_ := Aside0.mk (hbox); have n2_ := Aside0.mk ((by rw [hg]; exact (below_size zq_0) : w.heap.size ≤ gb280001)); have n3_ := Aside0.mk ((by rw [hg]; exact (below_size zq_0) : w.heap.size ≤ gb280001)); clear HB; have HB := n0_; have BK280001 := n1_; have GW280001 := n2_; have GE280001 := n3_; clear n0_ n1_ n2_ n3_; clear hb hbox hg; have hcz9_0 : w8.cell? ⟨gb280001, 0, none⟩ = some (.int .i64 a0_0) := (blk_cell BK280001.out 0).trans rfl; have hcz9_1 : w8.cell? ⟨gb280001, 1, none⟩ = some (.int .i64 a0_1) := (blk_cell BK280001.out 1).trans rfl; have hcz9_2 : w8.cell? ⟨gb280001, 2, none⟩ = some (.slice A0_2 l0_2.length c0_2) := (blk_cell BK280001.out 2).trans rfl; have hcz9_3 : w8.cell? ⟨gb280001, 3, none⟩ = some (.string a0_3) := (blk_cell BK280001.out 3).trans rfl; have hcz9_4 : w8.cell? ⟨gb280001, 4, none⟩ = some (.string a0_4) := (blk_cell BK280001.out 4).trans rfl; have hcz9_5 : w8.cell? ⟨gb280001, 5, none⟩ = some (.string a0_5) := (blk_cell BK280001.out 5).trans rfl; have hfz9_0 := blk_frozen BK280001.out 0; have hfz9_1 := blk_frozen BK280001.out 1; have hfz9_2 := blk_frozen BK280001.out 2; have hfz9_3 := blk_frozen BK280001.out 3; have hfz9_4 := blk_frozen BK280001.out 4; have hfz9_5 := blk_frozen BK280001.out 5) | ((with_reducible refine gate_callee (f := 84) rfl ?_); refine goesL_ (some 8) rfl rfl Tryd.func84 (by kernel_rfl) rfl #[.agg #[.int .i64 a0_1, .slice A0_2 l0_2.length c0_2], .int .i64 a1] rfl zq_1 ?_; (with_reducible refine (laws_heldPool.calls k a0_1 _ _ l0_2 a1 t280002 _ ?side1 ?side2 A3.out).mono ?_); (case side1 => repeat (first | exact (Kd.C_below HR0_2.out HB.out) | (with_reducible refine Kd.C_alloc ?_ _) | (with_reducible refine Kd.C_drewN ?_ _) | (with_reducible refine Kd.C_drew ?_))); (case side2 => exact HC0_2.out); rintro e w10 ⟨rfl, hb⟩; refine ⟨_, rfl, ?_⟩; have n0_ := Aside0.mk (blk_below (g := gb280001) (o := .cells #[.int .i64 a0_0, .int .i64 a0_1, .slice A0_2 l0_2.length c0_2, .string a0_3, .string a0_4, .string a0_5] 44 (0, 0)) (by (with_reducible repeat (first | refine blk_drewN ?_ _ | refine blk_drew ?_ | refine blk_alloc ?_ _)); exact BK280001.out) hb); have n1_ := Aside0.mk (below_step (by repeat (first | (with_reducible first | exact HB.out | apply below_alloc | apply pw_below_drewN | apply below_drew1 | refine below_set ?_ GE280001.out) | exact HB.out)) hb); clear BK280001; clear HB; have BK280001 := n0_; have HB := n1_; clear n0_ n1_; (try clear hb); (try clear hb2); (try clear hk); (try clear hi)))
  go_ret
  exact ⟨by first | rfl | (simp [errW_none, errW_some] <;> rfl) | (simp [*, errW_none, errW_some] <;> rfl), by repeat (first | (with_reducible first | exact HB.out | apply below_alloc | apply pw_below_drewN | apply below_drew1 | refine below_set ?_ GE280001.out) | exact HB.out)⟩
def laws_markPairS.l0 : Nat → List (S77) → Int → Int → Option (Int × (List (S77)))
 | 0, _, _, _ => none
 | k + 1, x0, x1, x5 => if x5 < (x0.length : Int) then ((laws_markText.f k x1).bind fun t120001 => (if 0 ≤ x5 then ((some (x0.set (x5 : Int).toNat (⟨t120001, (rd_T77 x0 x5).f1⟩ : S77) : List (S77))).bind fun y120002 => ((laws_markText.f k (wrap64 (x1 + 1))).bind fun t120003 => (laws_markPairS.l0 k (y120002.set (x5 : Int).toNat (⟨(rd_T77 y120002 x5).f0, t120003⟩ : S77)) (wrap64 ((wrap64 (x1 + 1)) + 1)) (wrap64 (x5 + 1))))) else (none))) else (some (x1, x0))
def laws_markPairS.f (k : Nat) (l0 : List (S77)) (a1 : Int) : Option (Int × (List (S77))) := laws_markPairS.l0 k l0 a1 0
set_option maxHeartbeats 8000000 in
set_option maxRecDepth 100000 in
theorem laws_markPairS.calls (k : Nat) (P0_ : Nat → Prop) (u9000_ : Value) (l0 : List (S77)) (a1 : Int) (r1 : Int) (r2 : List (S77)) (w0 w : World) (hB : Below w0.heap.size w0 w) (ho0 : Kd.R k77 77 w w0.heap.size P0_ u9000_ l0) (h : laws_markPairS.f k l0 a1 = some (r1, r2)) :
  Calls Tryd.prog 12 #[u9000_, .int .i64 a1] w fun e w' => e = .returned (.int .i64 r1) ∧ Kd.R k77 77 w' w0.heap.size (fun k_ => (P0_ k_ ∨ w.heap.size ≤ k_)) u9000_ r2 ∧ Below w0.heap.size w0 w' ∧ Kept w w' (fun k_ => P0_ k_) := by
 have HO0 := Aside0.mk (show Kd.R k77 77 w w0.heap.size (fun k_ => (P0_ k_ ∨ w.heap.size ≤ k_)) u9000_ l0 from Kd.R_mono ho0 (fun k_ hk => (.inl hk))); have HK := Aside0.mk (Kept.refl w (fun k_ => P0_ k_)); have HW0 := Aside0.mk hB.size; have HB := Aside0.mk hB; clear hB; have H : (laws_markPairS.l0 k l0 a1 0) = some (r1, r2) := h; clear h; have H' := Aside0.mk H; clear H
 go_enter Tryd.func12, Tryd.ntmps12
 go_wp2
 go_loopg [1, 5] k (fun kq v1 v5 w' => ∃ (x0_1 : List (S77)) (x1_1 : Int) (x5_1 : Int), v1 = .int .i64 x1_1 ∧ v5 = .int .i64 x5_1 ∧ Aside0 (laws_markPairS.l0 kq x0_1 x1_1 x5_1 = some (r1, r2)) ∧ Aside0 (kq ≤ k) ∧ Aside0 (Kd.R k77 77 w' w0.heap.size (fun k_ => (P0_ k_ ∨ w.heap.size ≤ k_)) u9000_ x0_1) ∧ Aside0 (Kept w w' (fun k_ => P0_ k_)) ∧ Aside0 (Below w0.heap.size w0 w'))
 case atStart => exact ⟨(l0), (a1), (0), zq_5, zq_5, H', ⟨Nat.le_refl _⟩, ⟨by (with_reducible repeat (first | apply Kd.R_alloc | apply Kd.R_drewN | apply Kd.R_drew)); exact HO0.out⟩, ⟨by repeat (first | (with_reducible first | exact HK.out | apply Kept.alloc | apply Kept.drewN | apply Kept.drew) | exact HK.out)⟩, ⟨by repeat (first | (with_reducible first | exact HB.out | apply below_alloc | apply pw_below_drewN | apply below_drew1) | exact HB.out)⟩⟩
 case round =>
  clear H'
  try clear c1
  try clear p2
  obtain ⟨x0_1, x1_1, x5_1, rfl, rfl, HA, HK1, HO_0, HK, HB⟩ := hrel
  cases gk with
  | zero => exact absurd HA.out (by simp [laws_markPairS.l0])
  | succ k1 =>
   have H := HA.out; clear HA; simp only [laws_markPairS.l0] at H
   by_cases c3 : x5_1 < (x0_1.length : Int)
   ·rw [if_pos c3] at H; have c3b0 : decide (x5_1 < (x0_1.length : Int)) = true := decide_eq_true c3; clear c3; replace H := Option.bind_eq_some_iff.mp H; obtain ⟨t120001, A40, H⟩ := H; (try dsimp only at H); have A4 := Aside0.mk A40; clear A40
    by_cases c5 : 0 ≤ x5_1
    ·rw [if_pos c5] at H; have c5b0 : decide (0 ≤ x5_1) = true := decide_eq_true c5; clear c5; obtain ⟨y120002, hy120002⟩ : ∃ y_ : List (S77), y_ = (x0_1.set (x5_1 : Int).toNat (⟨t120001, (rd_T77 x0_1 x5_1).f1⟩ : S77)) := ⟨_, rfl⟩
     replace H : ((laws_markText.f k1 (wrap64 (x1_1 + 1))).bind fun t120003 => (laws_markPairS.l0 k1 (y120002.set (x5_1 : Int).toNat (⟨(rd_T77 y120002 x5_1).f0, t120003⟩ : S77)) (wrap64 ((wrap64 (x1_1 + 1)) + 1)) (wrap64 (x5_1 + 1)))) = some (r1, r2) := by first | (rw [hy120002]; with_reducible exact H) | (have H2_ := (Option.bind_some _ _).symm.trans H; rw [hy120002]; with_reducible exact H2_) | (have H2_ := (Option.bind_some _ _).symm.trans H; with_reducible exact H2_) | with_reducible exact H | (rw [hy120002]; exact H) | exact H
     have Ny120002 := Aside0.mk hy120002; clear hy120002; replace H := Option.bind_eq_some_iff.mp H; obtain ⟨t120003, A70, H⟩ := H; (try dsimp only at H); have A7 := Aside0.mk A70; clear A70; obtain ⟨y120004, hy120004⟩ : ∃ y_ : List (S77), y_ = (y120002.set (x5_1 : Int).toNat (⟨(rd_T77 y120002 x5_1).f0, t120003⟩ : S77)) := ⟨_, rfl⟩
     replace H : (laws_markPairS.l0 k1 y120004 (wrap64 ((wrap64 (x1_1 + 1)) + 1)) (wrap64 (x5_1 + 1))) = some (r1, r2) := by first | (rw [hy120004]; with_reducible exact H) | (have H2_ := (Option.bind_some _ _).symm.trans H; rw [hy120004]; with_reducible exact H2_) | (have H2_ := (Option.bind_some _ _).symm.trans H; with_reducible exact H2_) | with_reducible exact H | (rw [hy120004]; exact H) | exact H
     have Ny120004 := Aside0.mk hy120004; clear hy120004; have H' := Aside0.mk H; clear H; obtain ⟨Ao9, co9, eo9⟩ := Kd.R_slice HO_0.out; subst eo9
     go_wp2_with (first | ((with_reducible refine gate_callee (f := 45) rfl ?_); refine goesL_ (some 15) rfl rfl Tryd.func45 (by kernel_rfl) rfl #[.int .i64 x1_1] rfl zq_1 ?_; (with_reducible refine (laws_markText.calls k1 x1_1 t120001 _ A4.out).mono ?_); rintro e w10 ⟨rfl, hb⟩; refine ⟨_, rfl, ?_⟩; have n0_ := Aside0.mk (Kd.R_below zq_51 hb); have n1_ := Aside0.mk (Kept.below (S := (fun k_ => P0_ k_)) zq_23 hb); have n2_ := Aside0.mk (below_step zq_0 hb); clear HO_0; clear HK; clear HB; have HO_0 := n0_; have HK := n1_; have HB := n2_; clear n0_ n1_ n2_; (try clear hb); (try clear hb2); (try clear hk); (try clear hi); have p6 : 0 ≤ (x5_1 : Int) := of_decide_eq_true zq_2; have q6 : (x5_1 : Int) < ((x0_1.length : Int) : Int) := of_decide_eq_true zq_2; obtain ⟨go6, co6, eo6, gb6, gl6, cl6, HG6⟩ := Kd.R_form HO_0.out (by omega); (first | cases eo6 | (injection eo6 with ea_ en_ ec_; (first | subst ea_ | (injection ea_ with ea_; subst ea_)); subst ec_; clear en_)); have GB6 := Aside0.mk gb6; have GG6 := Aside0.mk HG6; clear gb6 gl6 HG6; have HMgo6 := Aside0.mk (show (P0_ go6 ∨ w.heap.size ≤ go6) from (HO_0.out.1 _ rfl)); obtain ⟨ce6, hcl6, hM6, hcc6, hfr6⟩ := Kd.R_elem HO_0.out z77 (x5_1 : Int) p6 q6; obtain rfl := k77_openM hM6; have hx6_0 : w10.cell? ⟨go6, (x5_1 : Int).toNat * 2, none⟩ = some (.string ((rd_T77 x0_1 x5_1).f0)) := hcc6 0 _ rfl; have hx6_1 : w10.cell? ⟨go6, (x5_1 : Int).toNat * 2 + 1, none⟩ = some (.string ((rd_T77 x0_1 x5_1).f1)) := hcc6 1 _ rfl; have hf6_0 : w10.frozen? ⟨go6, (x5_1 : Int).toNat * 2, none⟩ = false := hfr6 0; have hf6_1 : w10.frozen? ⟨go6, (x5_1 : Int).toNat * 2 + 1, none⟩ = false := hfr6 1; clear hcl6 hcc6 hfr6 hM6; replace p6 := eq_true p6; replace q6 := eq_true q6; have HX11 := Aside0.mk (show Kd.R k77 77 w10 w0.heap.size (fun k_ => (P0_ k_ ∨ w.heap.size ≤ k_)) (.slice (some ⟨go6, 0, none⟩) x0_1.length co9) x0_1 from zq_51); obtain ⟨ce11, hcl11, hM11, hcc11, hfr11⟩ := Kd.R_elem HX11.out z77 (x5_1 : Int) (of_decide_eq_true zq_2) (by have h_ : (x5_1 : Int) < ((x0_1.length : Int) : Int) := of_decide_eq_true zq_2; first | exact h_ | (have e_ := (Kd.R_reads' HO_0.out).1; omega) | simpa using h_); obtain rfl := k77_openM hM11; have HP11 := Kd.R_seg HX11.out (x5_1 : Int) (of_decide_eq_true zq_2) (by have h_ : (x5_1 : Int) < ((x0_1.length : Int) : Int) := of_decide_eq_true zq_2; first | exact h_ | (have e_ := (Kd.R_reads' HO_0.out).1; omega) | simpa using h_) (seg := [.string t120001]) (j := 0) hcl11 hcc11 (show 1 ≤ 2 from by decide) (x' := (⟨t120001, (rd_T77 x0_1 x5_1).f1⟩ : S77)) (k77_mkM _ _ _ (⟨t120001, (rd_T77 x0_1 x5_1).f1⟩ : S77) ) (fun _ hk => hk); have hx11_0 := hcc11 0 _ rfl; (try simp only [show (k77).sz = 2 from rfl, Nat.mul_one, Nat.add_zero] at hx11_0); have hf11_0 := hfr11 0; (try simp only [show (k77).sz = 2 from rfl, Nat.mul_one, Nat.add_zero] at hf11_0); clear hcl11 hcc11 hfr11 hM11) | ((with_reducible refine gate_store (t := 9) (p := 17) rfl ?_); refine store_event (t := 9) (p := 17) (v := ?vo_w12) (w1 := (w10.setCell ⟨go6, (x5_1 : Int).toNat * 2, none⟩ (.string t120001))) ?hg ?ho ?hn ?hr ?_; (case ho => rfl); (case hg => rfl); (case hn => rfl); (case hr => exact zq_9); intro w12 hw; have hg : w10.grownBy w12 (some go6) := (by rw [hw]; exact HP11.2); have hp_ : Kd.R k77 77 w12 w0.heap.size (fun k_ => (P0_ k_ ∨ w.heap.size ≤ k_)) (.slice (some ⟨go6, 0, none⟩) x0_1.length co9) y120002 := (by rw [hw, Ny120002.out]; exact HP11.1); clear HP11; have n0_ := Aside0.mk (hp_); have n1_ := Aside0.mk ((by rw [hw]; exact below_set (HB.out) GB6.out : Below w0.heap.size w0 w12)); have n2_ := Aside0.mk (Kept.of_grown (S := (fun k_ => P0_ k_)) hg zq_23 (fun k_ e_ => (HO_0.out.1 k_ e_))); clear HO_0; clear HB; clear HK; have HO_0 := n0_; have HB := n1_; have HK := n2_; clear n0_ n1_ n2_; clear hg hw hp_) | ((with_reducible refine gate_callee (f := 45) rfl ?_); refine goesL_ (some 23) rfl rfl Tryd.func45 (by kernel_rfl) rfl #[.int .i64 (wrap64 (x1_1 + 1))] rfl zq_1 ?_; (with_reducible refine (laws_markText.calls k1 (wrap64 (x1_1 + 1)) t120003 _ A7.out).mono ?_); rintro e w13 ⟨rfl, hb⟩; refine ⟨_, rfl, ?_⟩; have n0_ := Aside0.mk (Kd.R_below zq_51 hb); have n1_ := Aside0.mk (Kept.below (S := (fun k_ => P0_ k_)) zq_23 hb); have n2_ := Aside0.mk (below_step zq_0 hb); clear HO_0; clear HK; clear HB; have HO_0 := n0_; have HK := n1_; have HB := n2_; clear n0_ n1_ n2_; (try clear hb); (try clear hb2); (try clear hk); (try clear hi); have p8 : 0 ≤ (x5_1 : Int) := of_decide_eq_true zq_2; have q8 : (x5_1 : Int) < ((x0_1.length : Int) : Int) := of_decide_eq_true zq_2; obtain ⟨ce8, hcl8, hM8, hcc8, hfr8⟩ := Kd.R_elem HO_0.out z77 (x5_1 : Int) p8 q8; obtain rfl := k77_openM hM8; have hx8_0 : w13.cell? ⟨go6, (x5_1 : Int).toNat * 2, none⟩ = some (.string ((rd_T77 y120002 x5_1).f0)) := hcc8 0 _ rfl; have hx8_1 : w13.cell? ⟨go6, (x5_1 : Int).toNat * 2 + 1, none⟩ = some (.string ((rd_T77 y120002 x5_1).f1)) := hcc8 1 _ rfl; have hf8_0 : w13.frozen? ⟨go6, (x5_1 : Int).toNat * 2, none⟩ = false := hfr8 0; have hf8_1 : w13.frozen? ⟨go6, (x5_1 : Int).toNat * 2 + 1, none⟩ = false := hfr8 1; clear hcl8 hcc8 hfr8 hM8; replace p8 := eq_true p8; replace q8 := eq_true q8; have HX14 := Aside0.mk (show Kd.R k77 77 w13 w0.heap.size (fun k_ => (P0_ k_ ∨ w.heap.size ≤ k_)) (.slice (some ⟨go6, 0, none⟩) x0_1.length co9) y120002 from zq_51); obtain ⟨ce14, hcl14, hM14, hcc14, hfr14⟩ := Kd.R_elem HX14.out z77 (x5_1 : Int) (of_decide_eq_true zq_2) (by have h_ : (x5_1 : Int) < ((x0_1.length : Int) : Int) := of_decide_eq_true zq_2; first | exact h_ | (have e_ := (Kd.R_reads' HO_0.out).1; omega) | simpa using h_); obtain rfl := k77_openM hM14; have HP14 := Kd.R_seg HX14.out (x5_1 : Int) (of_decide_eq_true zq_2) (by have h_ : (x5_1 : Int) < ((x0_1.length : Int) : Int) := of_decide_eq_true zq_2; first | exact h_ | (have e_ := (Kd.R_reads' HO_0.out).1; omega) | simpa using h_) (seg := [.string t120003]) (j := 1) hcl14 hcc14 (show 2 ≤ 2 from by decide) (x' := (⟨(rd_T77 y120002 x5_1).f0, t120003⟩ : S77)) (k77_mkM _ _ _ (⟨(rd_T77 y120002 x5_1).f0, t120003⟩ : S77) ) (fun _ hk => hk); have hx14_1 := hcc14 1 _ rfl; (try simp only [show (k77).sz = 2 from rfl, Nat.mul_one, Nat.add_zero] at hx14_1); have hf14_1 := hfr14 1; (try simp only [show (k77).sz = 2 from rfl, Nat.mul_one, Nat.add_zero] at hf14_1); clear hcl14 hcc14 hfr14 hM14) | ((with_reducible refine gate_store (t := 9) (p := 25) rfl ?_); refine store_event (t := 9) (p := 25) (v := ?vo_w15) (w1 := (w13.setCell ⟨go6, (x5_1 : Int).toNat * 2 + 1, none⟩ (.string t120003))) ?hg ?ho ?hn ?hr ?_; (case ho => rfl); (case hg => rfl); (case hn => rfl); (case hr => exact zq_9); intro w15 hw; have hg : w13.grownBy w15 (some go6) := (by rw [hw]; exact HP14.2); have hp_ : Kd.R k77 77 w15 w0.heap.size (fun k_ => (P0_ k_ ∨ w.heap.size ≤ k_)) (.slice (some ⟨go6, 0, none⟩) x0_1.length co9) y120004 := (by rw [hw, Ny120004.out]; exact HP14.1); clear HP14; have n0_ := Aside0.mk (hp_); have n1_ := Aside0.mk ((by rw [hw]; exact below_set (HB.out) GB6.out : Below w0.heap.size w0 w15)); have n2_ := Aside0.mk (Kept.of_grown (S := (fun k_ => P0_ k_)) hg zq_23 (fun k_ e_ => (HO_0.out.1 k_ e_))); clear HO_0; clear HB; clear HK; have HO_0 := n0_; have HB := n1_; have HK := n2_; clear n0_ n1_ n2_; clear hg hw hp_))
     go_roundg k1
     case measure => have := HK1.out; omega
     case rel => exact ⟨(y120004), (wrap64 ((wrap64 (x1_1 + 1)) + 1)), (wrap64 (x5_1 + 1)), zq_5, zq_5, H', ⟨by have := HK1.out; omega⟩, ⟨by (with_reducible repeat (first | apply Kd.R_alloc | apply Kd.R_drewN | apply Kd.R_drew)); exact HO_0.out⟩, ⟨by repeat (first | (with_reducible first | exact HK.out | apply Kept.alloc | apply Kept.drewN | apply Kept.drew) | exact HK.out)⟩, ⟨by repeat (first | (with_reducible first | exact HB.out | apply below_alloc | apply pw_below_drewN | apply below_drew1) | exact HB.out)⟩⟩
    ·rw [if_neg c5] at H; exact absurd H (by simp)
   ·rw [if_neg c3] at H; have c3b0 : decide (x5_1 < (x0_1.length : Int)) = false := decide_eq_false c3; clear c3; simp only [Option.some.injEq, Prod.mk.injEq] at H; obtain ⟨rfl, rfl⟩ := H; obtain ⟨Ao16, co16, eo16⟩ := Kd.R_slice HO_0.out; subst eo16
    go_wp2
    go_ret
    exact ⟨by first | rfl | (simp [errW_none, errW_some] <;> rfl) | (simp [*, errW_none, errW_some] <;> rfl), by (with_reducible repeat (first | apply Kd.R_alloc | apply Kd.R_drewN | apply Kd.R_drew)); exact HO_0.out, by repeat (first | (with_reducible first | exact HB.out | apply below_alloc | apply pw_below_drewN | apply below_drew1) | exact HB.out), by repeat (first | (with_reducible first | exact HK.out | apply Kept.alloc | apply Kept.drewN | apply Kept.drew) | exact HK.out)⟩
def laws_markStringS.l0 : Nat → List ByteArray → Int → Int → Option (Int × List ByteArray)
 | 0, _, _, _ => none
 | k + 1, x0, x1, x5 => if x5 < (x0.length : Int) then ((laws_markText.f k x1).bind fun t830001 => (if 0 ≤ x5 then (laws_markStringS.l0 k (x0.set (x5 : Int).toNat t830001) (wrap64 (x1 + 1)) (wrap64 (x5 + 1))) else (none))) else (some (x1, x0))
def laws_markStringS.f (k : Nat) (l0 : List ByteArray) (a1 : Int) : Option (Int × List ByteArray) := laws_markStringS.l0 k l0 a1 0
set_option maxHeartbeats 8000000 in
set_option maxRecDepth 100000 in
theorem laws_markStringS.calls (k : Nat) (P0_ : Nat → Prop) (u9000_ : Value) (l0 : List ByteArray) (a1 : Int) (r1 : Int) (r2 : List ByteArray) (w0 w : World) (hB : Below w0.heap.size w0 w) (ho0 : Kd.R Kd.string 9 w w0.heap.size P0_ u9000_ l0) (h : laws_markStringS.f k l0 a1 = some (r1, r2)) :
  Calls Tryd.prog 83 #[u9000_, .int .i64 a1] w fun e w' => e = .returned (.int .i64 r1) ∧ Kd.R Kd.string 9 w' w0.heap.size (fun k_ => (P0_ k_ ∨ w.heap.size ≤ k_)) u9000_ r2 ∧ Below w0.heap.size w0 w' ∧ Kept w w' (fun k_ => P0_ k_) := by
 have HO0 := Aside0.mk (show Kd.R Kd.string 9 w w0.heap.size (fun k_ => (P0_ k_ ∨ w.heap.size ≤ k_)) u9000_ l0 from Kd.R_mono ho0 (fun k_ hk => (.inl hk))); have HK := Aside0.mk (Kept.refl w (fun k_ => P0_ k_)); have HW0 := Aside0.mk hB.size; have HB := Aside0.mk hB; clear hB; have H : (laws_markStringS.l0 k l0 a1 0) = some (r1, r2) := h; clear h; have H' := Aside0.mk H; clear H
 go_enter Tryd.func83, Tryd.ntmps83
 go_wp2
 go_loopg [1, 5] k (fun kq v1 v5 w' => ∃ (x0_1 : List ByteArray) (x1_1 : Int) (x5_1 : Int), v1 = .int .i64 x1_1 ∧ v5 = .int .i64 x5_1 ∧ Aside0 (laws_markStringS.l0 kq x0_1 x1_1 x5_1 = some (r1, r2)) ∧ Aside0 (kq ≤ k) ∧ Aside0 (Kd.R Kd.string 9 w' w0.heap.size (fun k_ => (P0_ k_ ∨ w.heap.size ≤ k_)) u9000_ x0_1) ∧ Aside0 (Kept w w' (fun k_ => P0_ k_)) ∧ Aside0 (Below w0.heap.size w0 w'))
 case atStart => exact ⟨(l0), (a1), (0), zq_5, zq_5, H', ⟨Nat.le_refl _⟩, ⟨by (with_reducible repeat (first | apply Kd.R_alloc | apply Kd.R_drewN | apply Kd.R_drew)); exact HO0.out⟩, ⟨by repeat (first | (with_reducible first | exact HK.out | apply Kept.alloc | apply Kept.drewN | apply Kept.drew) | exact HK.out)⟩, ⟨by repeat (first | (with_reducible first | exact HB.out | apply below_alloc | apply pw_below_drewN | apply below_drew1) | exact HB.out)⟩⟩
 case round =>
  clear H'
  try clear p2
  obtain ⟨x0_1, x1_1, x5_1, rfl, rfl, HA, HK1, HO_0, HK, HB⟩ := hrel
  cases gk with
  | zero => exact absurd HA.out (by simp [laws_markStringS.l0])
  | succ k1 =>
   have H := HA.out; clear HA; simp only [laws_markStringS.l0] at H
   by_cases c3 : x5_1 < (x0_1.length : Int)
   ·rw [if_pos c3] at H; have c3b0 : decide (x5_1 < (x0_1.length : Int)) = true := decide_eq_true c3; clear c3; replace H := Option.bind_eq_some_iff.mp H; obtain ⟨t830001, A40, H⟩ := H; (try dsimp only at H); have A4 := Aside0.mk A40; clear A40
    by_cases c5 : 0 ≤ x5_1
    ·rw [if_pos c5] at H; have c5b0 : decide (0 ≤ x5_1) = true := decide_eq_true c5; clear c5; obtain ⟨y830002, hy830002⟩ : ∃ y_ : List ByteArray, y_ = (x0_1.set (x5_1 : Int).toNat t830001) := ⟨_, rfl⟩
     replace H : (laws_markStringS.l0 k1 y830002 (wrap64 (x1_1 + 1)) (wrap64 (x5_1 + 1))) = some (r1, r2) := by first | (rw [hy830002]; with_reducible exact H) | (have H2_ := (Option.bind_some _ _).symm.trans H; rw [hy830002]; with_reducible exact H2_) | (have H2_ := (Option.bind_some _ _).symm.trans H; with_reducible exact H2_) | with_reducible exact H | (rw [hy830002]; exact H) | exact H
     have Ny830002 := Aside0.mk hy830002; clear hy830002; have H' := Aside0.mk H; clear H; obtain ⟨Ao7, co7, eo7⟩ := Kd.R_slice HO_0.out; subst eo7
     go_wp2_with (first | ((with_reducible refine gate_callee (f := 45) rfl ?_); refine goesL_ (some 15) rfl rfl Tryd.func45 (by kernel_rfl) rfl #[.int .i64 x1_1] rfl zq_1 ?_; (with_reducible refine (laws_markText.calls k1 x1_1 t830001 _ A4.out).mono ?_); rintro e w8 ⟨rfl, hb⟩; refine ⟨_, rfl, ?_⟩; have n0_ := Aside0.mk (Kd.R_below zq_51 hb); have n1_ := Aside0.mk (Kept.below (S := (fun k_ => P0_ k_)) zq_23 hb); have n2_ := Aside0.mk (below_step zq_0 hb); clear HO_0; clear HK; clear HB; have HO_0 := n0_; have HK := n1_; have HB := n2_; clear n0_ n1_ n2_; (try clear hb); (try clear hb2); (try clear hk); (try clear hi); have p6 : 0 ≤ (x5_1 : Int) := of_decide_eq_true zq_2; have q6 : (x5_1 : Int) < ((x0_1.length : Int) : Int) := of_decide_eq_true zq_2; obtain ⟨go6, co6, eo6, gb6, gl6, cl6, HG6⟩ := Kd.R_form HO_0.out (by omega); (first | cases eo6 | (injection eo6 with ea_ en_ ec_; (first | subst ea_ | (injection ea_ with ea_; subst ea_)); subst ec_; clear en_)); have GB6 := Aside0.mk gb6; have GG6 := Aside0.mk HG6; clear gb6 gl6 HG6; have HMgo6 := Aside0.mk (show (P0_ go6 ∨ w.heap.size ≤ go6) from (HO_0.out.1 _ rfl)); obtain ⟨hx6_0, hf6_0⟩ := Kd.R_celln (⟨#[]⟩ : ByteArray) HO_0.out (x5_1 : Int) p6 q6; replace p6 := eq_true p6; replace q6 := eq_true q6; obtain ⟨hy9_, hz9_⟩ := Kd.R_celln (⟨#[]⟩ : ByteArray) HO_0.out (x5_1 : Int) (of_decide_eq_true zq_2) (of_decide_eq_true zq_2); have HP9 := Kd.R_putg HO_0.out (x5_1 : Int) t830001) | ((with_reducible refine gate_store (t := 9) (p := 16) rfl ?_); refine store_event (t := 9) (p := 16) (v := ?vo_w10) (w1 := (w8.setCell ⟨go6, (x5_1 : Int).toNat, none⟩ (.string t830001))) ?hg ?ho ?hn ?hr ?_; (case ho => rfl); (case hg => rfl); (case hn => rfl); (case hr => exact zq_9); intro w10 hw; have hg : w8.grownBy w10 (some go6) := (by rw [hw]; exact HP9.2); have hp_ : Kd.R Kd.string 9 w10 w0.heap.size (fun k_ => (P0_ k_ ∨ w.heap.size ≤ k_)) (.slice (some ⟨go6, 0, none⟩) x0_1.length co7) y830002 := (by rw [hw, Ny830002.out]; exact HP9.1); clear HP9; have n0_ := Aside0.mk (hp_); have n1_ := Aside0.mk ((by rw [hw]; exact below_set (HB.out) GB6.out : Below w0.heap.size w0 w10)); have n2_ := Aside0.mk (Kept.of_grown (S := (fun k_ => P0_ k_)) hg zq_23 (fun k_ e_ => (HO_0.out.1 k_ e_))); clear HO_0; clear HB; clear HK; have HO_0 := n0_; have HB := n1_; have HK := n2_; clear n0_ n1_ n2_; clear hg hw hp_))
     go_roundg k1
     case measure => have := HK1.out; omega
     case rel => exact ⟨(y830002), (wrap64 (x1_1 + 1)), (wrap64 (x5_1 + 1)), zq_5, zq_5, H', ⟨by have := HK1.out; omega⟩, ⟨by (with_reducible repeat (first | apply Kd.R_alloc | apply Kd.R_drewN | apply Kd.R_drew)); exact HO_0.out⟩, ⟨by repeat (first | (with_reducible first | exact HK.out | apply Kept.alloc | apply Kept.drewN | apply Kept.drew) | exact HK.out)⟩, ⟨by repeat (first | (with_reducible first | exact HB.out | apply below_alloc | apply pw_below_drewN | apply below_drew1) | exact HB.out)⟩⟩
    ·rw [if_neg c5] at H; exact absurd H (by simp)
   ·rw [if_neg c3] at H; have c3b0 : decide (x5_1 < (x0_1.length : Int)) = false := decide_eq_false c3; clear c3; simp only [Option.some.injEq, Prod.mk.injEq] at H; obtain ⟨rfl, rfl⟩ := H; obtain ⟨Ao11, co11, eo11⟩ := Kd.R_slice HO_0.out; subst eo11
    go_wp2
    go_ret
    exact ⟨by first | rfl | (simp [errW_none, errW_some] <;> rfl) | (simp [*, errW_none, errW_some] <;> rfl), by (with_reducible repeat (first | apply Kd.R_alloc | apply Kd.R_drewN | apply Kd.R_drew)); exact HO_0.out, by repeat (first | (with_reducible first | exact HB.out | apply below_alloc | apply pw_below_drewN | apply below_drew1) | exact HB.out), by repeat (first | (with_reducible first | exact HK.out | apply Kept.alloc | apply Kept.drewN | apply Kept.drew) | exact HK.out)⟩
def laws_markPool.f (k : Nat) (a0_0 : Int) (l0_1 : List ByteArray) (a1 : Int) : Option (Int × List ByteArray) := (laws_markStringS.f k l0_1 a1).bind fun bt260002 => (some (bt260002.1, bt260002.2))
set_option maxHeartbeats 8000000 in
set_option maxRecDepth 100000 in
theorem laws_markPool.calls (k : Nat) (a0_0 : Int) (P0_1_ : Nat → Prop) (u9000_ : Value) (l0_1 : List ByteArray) (a1 : Int) (r1 : Int) (r2 : List ByteArray) (w0 w : World) (hB : Below w0.heap.size w0 w) (ho0_1 : Kd.R Kd.string 9 w w0.heap.size P0_1_ u9000_ l0_1) (h : laws_markPool.f k a0_0 l0_1 a1 = some (r1, r2)) :
  Calls Tryd.prog 26 #[.agg #[.int .i64 a0_0, u9000_], .int .i64 a1] w fun e w' => e = .returned (.int .i64 r1) ∧ Kd.R Kd.string 9 w' w0.heap.size (fun k_ => (P0_1_ k_ ∨ w.heap.size ≤ k_)) u9000_ r2 ∧ Below w0.heap.size w0 w' ∧ Kept w w' (fun k_ => P0_1_ k_) := by
 have hu34 := Tryd.underlying34; have HO0_1 := Aside0.mk (show Kd.R Kd.string 9 w w0.heap.size (fun k_ => (P0_1_ k_ ∨ w.heap.size ≤ k_)) u9000_ l0_1 from Kd.R_mono ho0_1 (fun k_ hk => (.inl hk))); have HK := Aside0.mk (Kept.refl w (fun k_ => P0_1_ k_)); have HW0 := Aside0.mk hB.size; have HB := Aside0.mk hB; clear hB; have H : ((laws_markStringS.f k l0_1 a1).bind fun bt260002 => (some (bt260002.1, bt260002.2))) = some (r1, r2) := h; clear h; replace H := Option.bind_eq_some_iff.mp H; obtain ⟨⟨t260002, t260003⟩, A30, H⟩ := H; (try dsimp only at H); have A3 := Aside0.mk A30; clear A30; simp only [Option.some.injEq, Prod.mk.injEq] at H; obtain ⟨rfl, rfl⟩ := H; obtain ⟨Ao4, co4, eo4⟩ := Kd.R_slice HO0_1.out; subst eo4
 go_enter Tryd.func26, Tryd.ntmps26
 go_wp2_with (first | ((with_reducible refine gate_dst (N := 2) rfl ?_); refine box_event ?hg (N := 2) ?hd (cs := #[.int .i64 a0_0, .slice Ao4 l0_1.length co4]) (t := 34) ?hr ?_; (case hd => rfl); (case hg => rfl); (case hr => exact zq_9); intro gb260001 hg w5 hbox hb; have n0_ := Aside0.mk (Kd.R_below (by (with_reducible repeat (first | apply Kd.R_alloc | apply Kd.R_drewN | apply Kd.R_drew)); exact HO0_1.out) hb); have n1_ := Aside0.mk (Kept.below (S := (fun k_ => P0_1_ k_)) zq_23 hb); have n2_ := Aside0.mk (below_step zq_0 hb); have n3_ := Aside0.mk (hbox); have n4_ := Aside0.mk ((by rw [hg]; exact (by first | exact HK.out.1 | exact (show Kept w _ (fun k_ => P0_1_ k_) from by repeat (first | (with_reducible first | exact HK.out | apply Kept.alloc | apply Kept.drewN | apply Kept.drew) | exact HK.out)).1) : w.heap.size ≤ gb260001)); have n5_ := Aside0.mk ((by rw [hg]; exact (below_size zq_0) : w0.heap.size ≤ gb260001)); clear HO0_1; clear HK; clear HB; have HO0_1 := n0_; have HK := n1_; have HB := n2_; have BK260001 := n3_; have GW260001 := n4_; have GE260001 := n5_; clear n0_ n1_ n2_ n3_ n4_ n5_; clear hb hbox hg; have hcz6_0 : w5.cell? ⟨gb260001, 0, none⟩ = some (.int .i64 a0_0) := (blk_cell BK260001.out 0).trans rfl; have hcz6_1 : w5.cell? ⟨gb260001, 1, none⟩ = some (.slice Ao4 l0_1.length co4) := (blk_cell BK260001.out 1).trans rfl; have hfz6_0 := blk_frozen BK260001.out 0; have hfz6_1 := blk_frozen BK260001.out 1) | ((with_reducible refine gate_callee (f := 83) rfl ?_); refine goesL_ (some 8) rfl rfl Tryd.func83 (by kernel_rfl) rfl #[.slice Ao4 l0_1.length co4, .int .i64 a1] rfl zq_1 ?_; (with_reducible refine (laws_markStringS.calls k (fun k_ => some k_ = (.slice Ao4 l0_1.length co4 : Value).ownBlock) (.slice Ao4 l0_1.length co4) l0_1 a1 t260002 t260003 w0 _ ?side1 ?side2 A3.out).mono ?_); (case side1 => repeat (first | (with_reducible first | exact HB.out | apply below_alloc | apply pw_below_drewN | apply below_drew1 | refine below_set ?_ GE260001.out) | exact HB.out)); (case side2 => exact Kd.R_tight rfl HO0_1.out); rintro e w7 ⟨rfl, hy0, hb, hkp⟩; refine ⟨_, rfl, ?_⟩; have n0_ := Aside0.mk (Kd.R_reok rfl hy0 (fun k_ e_ => HO0_1.out.1 k_ e_)); have n1_ := Aside0.mk (blk_kept (by (with_reducible repeat (first | refine blk_drewN ?_ _ | refine blk_drew ?_ | refine blk_alloc ?_ _)); exact BK260001.out) hkp (fun hs_ => (fun e_ => (Kd.R_ne HO0_1.out BK260001.out (by decide)) e_) hs_)); have n2_ := Aside0.mk (Kept.then_ (S := (fun k_ => P0_1_ k_)) (by repeat (first | (with_reducible first | exact HK.out | apply Kept.alloc | apply Kept.drewN | apply Kept.drew | refine Kept.setCell ?_ (.inr GW260001.out) _) | exact HK.out)) hkp (fun k_ hs_ => (fun e_ => (HO0_1.out.1 k_ e_.symm)) hs_)); have n3_ := Aside0.mk (hb); clear HO0_1; clear BK260001; clear HK; clear HB; have HO0_1 := n0_; have BK260001 := n1_; have HK := n2_; have HB := n3_; clear n0_ n1_ n2_ n3_; (try clear hb); (try clear hkp); (try clear hy0)))
 go_ret
 exact ⟨by first | rfl | (simp [errW_none, errW_some] <;> rfl) | (simp [*, errW_none, errW_some] <;> rfl), by (with_reducible repeat (first | apply Kd.R_alloc | apply Kd.R_drewN | apply Kd.R_drew)); exact HO0_1.out, by repeat (first | (with_reducible first | exact HB.out | apply below_alloc | apply pw_below_drewN | apply below_drew1 | refine below_set ?_ GE260001.out) | exact HB.out), by repeat (first | (with_reducible first | exact HK.out | apply Kept.alloc | apply Kept.drewN | apply Kept.drew | refine Kept.setCell ?_ (.inr GW260001.out) _) | exact HK.out)⟩
def laws_markSaved.f (k : Nat) (a0_0 : Int) (a0_1 : Int) (l0_2 : List ByteArray) (a0_3 : ByteArray) (a0_4 : ByteArray) (a0_5 : ByteArray) (a1 : Int) : Option (Int × List ByteArray) := (laws_markPool.f k a0_1 l0_2 a1).bind fun bt270002 => (some (bt270002.1, bt270002.2))
set_option maxHeartbeats 8000000 in
set_option maxRecDepth 100000 in
theorem laws_markSaved.calls (k : Nat) (a0_0 : Int) (a0_1 : Int) (P0_2_ : Nat → Prop) (u9000_ : Value) (l0_2 : List ByteArray) (a0_3 : ByteArray) (a0_4 : ByteArray) (a0_5 : ByteArray) (a1 : Int) (r1 : Int) (r2 : List ByteArray) (w0 w : World) (hB : Below w0.heap.size w0 w) (ho0_2 : Kd.R Kd.string 9 w w0.heap.size P0_2_ u9000_ l0_2) (h : laws_markSaved.f k a0_0 a0_1 l0_2 a0_3 a0_4 a0_5 a1 = some (r1, r2)) :
  Calls Tryd.prog 27 #[.agg #[.int .i64 a0_0, .int .i64 a0_1, u9000_, .string a0_3, .string a0_4, .string a0_5], .int .i64 a1] w fun e w' => e = .returned (.int .i64 r1) ∧ Kd.R Kd.string 9 w' w0.heap.size (fun k_ => (P0_2_ k_ ∨ w.heap.size ≤ k_)) u9000_ r2 ∧ Below w0.heap.size w0 w' ∧ Kept w w' (fun k_ => P0_2_ k_) := by
 have hu44 := Tryd.underlying44; have hu34 := Tryd.underlying34; have HO0_2 := Aside0.mk (show Kd.R Kd.string 9 w w0.heap.size (fun k_ => (P0_2_ k_ ∨ w.heap.size ≤ k_)) u9000_ l0_2 from Kd.R_mono ho0_2 (fun k_ hk => (.inl hk))); have HK := Aside0.mk (Kept.refl w (fun k_ => P0_2_ k_)); have HW0 := Aside0.mk hB.size; have HB := Aside0.mk hB; clear hB; have H : ((laws_markPool.f k a0_1 l0_2 a1).bind fun bt270002 => (some (bt270002.1, bt270002.2))) = some (r1, r2) := h; clear h; replace H := Option.bind_eq_some_iff.mp H; obtain ⟨⟨t270002, t270003⟩, A30, H⟩ := H; (try dsimp only at H); have A3 := Aside0.mk A30; clear A30; simp only [Option.some.injEq, Prod.mk.injEq] at H; obtain ⟨rfl, rfl⟩ := H; obtain ⟨Ao4, co4, eo4⟩ := Kd.R_slice HO0_2.out; subst eo4
 go_enter Tryd.func27, Tryd.ntmps27
 go_wp2_with (first | ((with_reducible refine gate_dst (N := 2) rfl ?_); refine box_event ?hg (N := 2) ?hd (cs := #[.int .i64 a0_0, .int .i64 a0_1, .slice Ao4 l0_2.length co4, .string a0_3, .string a0_4, .string a0_5]) (t := 44) ?hr ?_; (case hd => rfl); (case hg => rfl); (case hr => exact zq_9); intro gb270001 hg w5 hbox hb; have n0_ := Aside0.mk (Kd.R_below (by (with_reducible repeat (first | apply Kd.R_alloc | apply Kd.R_drewN | apply Kd.R_drew)); exact HO0_2.out) hb); have n1_ := Aside0.mk (Kept.below (S := (fun k_ => P0_2_ k_)) zq_23 hb); have n2_ := Aside0.mk (below_step zq_0 hb); have n3_ := Aside0.mk (hbox); have n4_ := Aside0.mk ((by rw [hg]; exact (by first | exact HK.out.1 | exact (show Kept w _ (fun k_ => P0_2_ k_) from by repeat (first | (with_reducible first | exact HK.out | apply Kept.alloc | apply Kept.drewN | apply Kept.drew) | exact HK.out)).1) : w.heap.size ≤ gb270001)); have n5_ := Aside0.mk ((by rw [hg]; exact (below_size zq_0) : w0.heap.size ≤ gb270001)); clear HO0_2; clear HK; clear HB; have HO0_2 := n0_; have HK := n1_; have HB := n2_; have BK270001 := n3_; have GW270001 := n4_; have GE270001 := n5_; clear n0_ n1_ n2_ n3_ n4_ n5_; clear hb hbox hg; have hcz6_0 : w5.cell? ⟨gb270001, 0, none⟩ = some (.int .i64 a0_0) := (blk_cell BK270001.out 0).trans rfl; have hcz6_1 : w5.cell? ⟨gb270001, 1, none⟩ = some (.int .i64 a0_1) := (blk_cell BK270001.out 1).trans rfl; have hcz6_2 : w5.cell? ⟨gb270001, 2, none⟩ = some (.slice Ao4 l0_2.length co4) := (blk_cell BK270001.out 2).trans rfl; have hcz6_3 : w5.cell? ⟨gb270001, 3, none⟩ = some (.string a0_3) := (blk_cell BK270001.out 3).trans rfl; have hcz6_4 : w5.cell? ⟨gb270001, 4, none⟩ = some (.string a0_4) := (blk_cell BK270001.out 4).trans rfl; have hcz6_5 : w5.cell? ⟨gb270001, 5, none⟩ = some (.string a0_5) := (blk_cell BK270001.out 5).trans rfl; have hfz6_0 := blk_frozen BK270001.out 0; have hfz6_1 := blk_frozen BK270001.out 1; have hfz6_2 := blk_frozen BK270001.out 2; have hfz6_3 := blk_frozen BK270001.out 3; have hfz6_4 := blk_frozen BK270001.out 4; have hfz6_5 := blk_frozen BK270001.out 5) | ((with_reducible refine gate_callee (f := 26) rfl ?_); refine goesL_ (some 8) rfl rfl Tryd.func26 (by kernel_rfl) rfl #[.agg #[.int .i64 a0_1, .slice Ao4 l0_2.length co4], .int .i64 a1] rfl zq_1 ?_; (with_reducible refine (laws_markPool.calls k a0_1 (fun k_ => some k_ = (.slice Ao4 l0_2.length co4 : Value).ownBlock) (.slice Ao4 l0_2.length co4) l0_2 a1 t270002 t270003 w0 _ ?side1 ?side2 A3.out).mono ?_); (case side1 => repeat (first | (with_reducible first | exact HB.out | apply below_alloc | apply pw_below_drewN | apply below_drew1 | refine below_set ?_ GE270001.out) | exact HB.out)); (case side2 => exact Kd.R_tight rfl HO0_2.out); rintro e w7 ⟨rfl, hy0, hb, hkp⟩; refine ⟨_, rfl, ?_⟩; have n0_ := Aside0.mk (Kd.R_reok rfl hy0 (fun k_ e_ => HO0_2.out.1 k_ e_)); have n1_ := Aside0.mk (blk_kept (by (with_reducible repeat (first | refine blk_drewN ?_ _ | refine blk_drew ?_ | refine blk_alloc ?_ _)); exact BK270001.out) hkp (fun hs_ => (fun e_ => (Kd.R_ne HO0_2.out BK270001.out (by decide)) e_) hs_)); have n2_ := Aside0.mk (Kept.then_ (S := (fun k_ => P0_2_ k_)) (by repeat (first | (with_reducible first | exact HK.out | apply Kept.alloc | apply Kept.drewN | apply Kept.drew | refine Kept.setCell ?_ (.inr GW270001.out) _) | exact HK.out)) hkp (fun k_ hs_ => (fun e_ => (HO0_2.out.1 k_ e_.symm)) hs_)); have n3_ := Aside0.mk (hb); clear HO0_2; clear BK270001; clear HK; clear HB; have HO0_2 := n0_; have BK270001 := n1_; have HK := n2_; have HB := n3_; clear n0_ n1_ n2_ n3_; (try clear hb); (try clear hkp); (try clear hy0)))
 go_ret
 exact ⟨by first | rfl | (simp [errW_none, errW_some] <;> rfl) | (simp [*, errW_none, errW_some] <;> rfl), by (with_reducible repeat (first | apply Kd.R_alloc | apply Kd.R_drewN | apply Kd.R_drew)); exact HO0_2.out, by repeat (first | (with_reducible first | exact HB.out | apply below_alloc | apply pw_below_drewN | apply below_drew1 | refine below_set ?_ GE270001.out) | exact HB.out), by repeat (first | (with_reducible first | exact HK.out | apply Kept.alloc | apply Kept.drewN | apply Kept.drew | refine Kept.setCell ?_ (.inr GW270001.out) _) | exact HK.out)⟩
def laws_szPair.f (a0_0 : ByteArray) (a0_1 : ByteArray) (a1 : Int) : Option (Int) := if (wrap64 (a1 - (a0_0.size : Int))) < 0 then (some (-1)) else (if (wrap64 ((wrap64 (a1 - (a0_0.size : Int))) - (a0_1.size : Int))) < 0 then (some (-1)) else (some (wrap64 ((wrap64 (a1 - (a0_0.size : Int))) - (a0_1.size : Int)))))
set_option maxHeartbeats 8000000 in
set_option maxRecDepth 100000 in
theorem laws_szPair.calls (a0_0 : ByteArray) (a0_1 : ByteArray) (a1 : Int) (r : Int) (w : World) (h : laws_szPair.f a0_0 a0_1 a1 = some r) :
  Calls Tryd.prog 68 #[.agg #[.string a0_0, .string a0_1], .int .i64 a1] w fun e w' => e = .returned (.int .i64 r) ∧ Below w.heap.size w w' := by
 have hu121 := Tryd.underlying121; have HB := Aside0.mk (Below.refl w.heap.size w); have H : (if (wrap64 (a1 - (a0_0.size : Int))) < 0 then (some (-1)) else (if (wrap64 ((wrap64 (a1 - (a0_0.size : Int))) - (a0_1.size : Int))) < 0 then (some (-1)) else (some (wrap64 ((wrap64 (a1 - (a0_0.size : Int))) - (a0_1.size : Int)))))) = some r := h; clear h
 by_cases c3 : (wrap64 (a1 - (a0_0.size : Int))) < 0
 ·rw [if_pos c3] at H; have c3b0 : decide ((wrap64 (a1 - (a0_0.size : Int))) < 0) = true := decide_eq_true c3; clear c3; obtain rfl := Option.some.inj H
  go_enter Tryd.func68, Tryd.ntmps68
  go_wp2_with (first | ((with_reducible refine gate_dst (N := 2) rfl ?_); refine box_event ?hg (N := 2) ?hd (cs := #[.string a0_0, .string a0_1]) (t := 121) ?hr ?_; (case hd => rfl); (case hg => rfl); (case hr => exact zq_9); intro gb680001 hg w4 hbox hb; have n0_ := Aside0.mk (below_step zq_0 hb); have n1_ := Aside0.mk (hbox); have n2_ := Aside0.mk ((by rw [hg]; exact (below_size zq_0) : w.heap.size ≤ gb680001)); have n3_ := Aside0.mk ((by rw [hg]; exact (below_size zq_0) : w.heap.size ≤ gb680001)); clear HB; have HB := n0_; have BK680001 := n1_; have GW680001 := n2_; have GE680001 := n3_; clear n0_ n1_ n2_ n3_; clear hb hbox hg; have hcz5_0 : w4.cell? ⟨gb680001, 0, none⟩ = some (.string a0_0) := (blk_cell BK680001.out 0).trans rfl; have hcz5_1 : w4.cell? ⟨gb680001, 1, none⟩ = some (.string a0_1) := (blk_cell BK680001.out 1).trans rfl; have hfz5_0 := blk_frozen BK680001.out 0; have hfz5_1 := blk_frozen BK680001.out 1))
  go_ret
  exact ⟨by first | rfl | (simp [errW_none, errW_some] <;> rfl) | (simp [*, errW_none, errW_some] <;> rfl), by repeat (first | (with_reducible first | exact HB.out | apply below_alloc | apply pw_below_drewN | apply below_drew1 | refine below_set ?_ GE680001.out) | exact HB.out)⟩
 ·rw [if_neg c3] at H; have c3b0 : decide ((wrap64 (a1 - (a0_0.size : Int))) < 0) = false := decide_eq_false c3; clear c3
  by_cases c6 : (wrap64 ((wrap64 (a1 - (a0_0.size : Int))) - (a0_1.size : Int))) < 0
  ·rw [if_pos c6] at H; have c6b0 : decide ((wrap64 ((wrap64 (a1 - (a0_0.size : Int))) - (a0_1.size : Int))) < 0) = true := decide_eq_true c6; clear c6; obtain rfl := Option.some.inj H
   go_enter Tryd.func68, Tryd.ntmps68
   go_wp2_with (first | ((with_reducible refine gate_dst (N := 2) rfl ?_); refine box_event ?hg (N := 2) ?hd (cs := #[.string a0_0, .string a0_1]) (t := 121) ?hr ?_; (case hd => rfl); (case hg => rfl); (case hr => exact zq_9); intro gb680001 hg w7 hbox hb; have n0_ := Aside0.mk (below_step zq_0 hb); have n1_ := Aside0.mk (hbox); have n2_ := Aside0.mk ((by rw [hg]; exact (below_size zq_0) : w.heap.size ≤ gb680001)); have n3_ := Aside0.mk ((by rw [hg]; exact (below_size zq_0) : w.heap.size ≤ gb680001)); clear HB; have HB := n0_; have BK680001 := n1_; have GW680001 := n2_; have GE680001 := n3_; clear n0_ n1_ n2_ n3_; clear hb hbox hg; have hcz8_0 : w7.cell? ⟨gb680001, 0, none⟩ = some (.string a0_0) := (blk_cell BK680001.out 0).trans rfl; have hcz8_1 : w7.cell? ⟨gb680001, 1, none⟩ = some (.string a0_1) := (blk_cell BK680001.out 1).trans rfl; have hfz8_0 := blk_frozen BK680001.out 0; have hfz8_1 := blk_frozen BK680001.out 1))
   go_ret
   exact ⟨by first | rfl | (simp [errW_none, errW_some] <;> rfl) | (simp [*, errW_none, errW_some] <;> rfl), by repeat (first | (with_reducible first | exact HB.out | apply below_alloc | apply pw_below_drewN | apply below_drew1 | refine below_set ?_ GE680001.out) | exact HB.out)⟩
  ·rw [if_neg c6] at H; have c6b0 : decide ((wrap64 ((wrap64 (a1 - (a0_0.size : Int))) - (a0_1.size : Int))) < 0) = false := decide_eq_false c6; clear c6; obtain rfl := Option.some.inj H
   go_enter Tryd.func68, Tryd.ntmps68
   go_wp2_with (first | ((with_reducible refine gate_dst (N := 2) rfl ?_); refine box_event ?hg (N := 2) ?hd (cs := #[.string a0_0, .string a0_1]) (t := 121) ?hr ?_; (case hd => rfl); (case hg => rfl); (case hr => exact zq_9); intro gb680001 hg w9 hbox hb; have n0_ := Aside0.mk (below_step zq_0 hb); have n1_ := Aside0.mk (hbox); have n2_ := Aside0.mk ((by rw [hg]; exact (below_size zq_0) : w.heap.size ≤ gb680001)); have n3_ := Aside0.mk ((by rw [hg]; exact (below_size zq_0) : w.heap.size ≤ gb680001)); clear HB; have HB := n0_; have BK680001 := n1_; have GW680001 := n2_; have GE680001 := n3_; clear n0_ n1_ n2_ n3_; clear hb hbox hg; have hcz10_0 : w9.cell? ⟨gb680001, 0, none⟩ = some (.string a0_0) := (blk_cell BK680001.out 0).trans rfl; have hcz10_1 : w9.cell? ⟨gb680001, 1, none⟩ = some (.string a0_1) := (blk_cell BK680001.out 1).trans rfl; have hfz10_0 := blk_frozen BK680001.out 0; have hfz10_1 := blk_frozen BK680001.out 1))
   go_ret
   exact ⟨by first | rfl | (simp [errW_none, errW_some] <;> rfl) | (simp [*, errW_none, errW_some] <;> rfl), by repeat (first | (with_reducible first | exact HB.out | apply below_alloc | apply pw_below_drewN | apply below_drew1 | refine below_set ?_ GE680001.out) | exact HB.out)⟩
def laws_szPairS.l0 : Nat → List (S121) → Int → Int → Option (Int)
 | 0, _, _, _ => none
 | k + 1, x0, x1, x5 => if x5 < (x0.length : Int) then (if 0 ≤ x5 then ((laws_szPair.f ((rd_T121 x0 x5).f0) ((rd_T121 x0 x5).f1) x1).bind fun t210002 => (if t210002 < 0 then (some (-1)) else (laws_szPairS.l0 k x0 t210002 (wrap64 (x5 + 1))))) else (none)) else (some x1)
def laws_szPairS.f (k : Nat) (l0 : List (S121)) (a1 : Int) : Option (Int) := if (wrap64 (a1 - (l0.length : Int))) < 0 then (some (-1)) else (laws_szPairS.l0 k l0 (wrap64 (a1 - (l0.length : Int))) 0)
set_option maxHeartbeats 8000000 in
set_option maxRecDepth 100000 in
theorem laws_szPairS.calls (k : Nat) (A0 : Option Addr) (c0 : Nat) (l0 : List (S121)) (a1 : Int) (r : Int) (w : World) (hr0 : Kd.C k121 w A0 l0.length l0) (hc0 : l0.length ≤ c0) (h : laws_szPairS.f k l0 a1 = some r) :
  Calls Tryd.prog 21 #[.slice A0 l0.length c0, .int .i64 a1] w fun e w' => e = .returned (.int .i64 r) ∧ Below w.heap.size w w' := by
 have hu121 := Tryd.underlying121; have HR0 := Aside0.mk hr0; have HC0 := Aside0.mk hc0; clear hr0 hc0; have HB := Aside0.mk (Below.refl w.heap.size w); have H : (if (wrap64 (a1 - (l0.length : Int))) < 0 then (some (-1)) else (laws_szPairS.l0 k l0 (wrap64 (a1 - (l0.length : Int))) 0)) = some r := h; clear h
 by_cases c3 : (wrap64 (a1 - (l0.length : Int))) < 0
 ·rw [if_pos c3] at H; have c3b0 : decide ((wrap64 (a1 - (l0.length : Int))) < 0) = true := decide_eq_true c3; clear c3; obtain rfl := Option.some.inj H
  go_enter Tryd.func21, Tryd.ntmps21
  go_wp2
  go_ret
  exact ⟨by first | rfl | (simp [errW_none, errW_some] <;> rfl) | (simp [*, errW_none, errW_some] <;> rfl), by repeat (first | (with_reducible first | exact HB.out | apply below_alloc | apply pw_below_drewN | apply below_drew1) | exact HB.out)⟩
 ·rw [if_neg c3] at H; have c3b0 : decide ((wrap64 (a1 - (l0.length : Int))) < 0) = false := decide_eq_false c3; clear c3; have H' := Aside0.mk H; clear H
  go_enter Tryd.func21, Tryd.ntmps21
  go_wp2
  go_loopg [1, 5] k (fun kq v1 v5 w' => ∃ (x1_1 : Int) (x5_1 : Int), v1 = .int .i64 x1_1 ∧ v5 = .int .i64 x5_1 ∧ Aside0 (laws_szPairS.l0 kq l0 x1_1 x5_1 = some r) ∧ Aside0 (kq ≤ k) ∧ Aside0 (Below w.heap.size w w'))
  case atStart => exact ⟨(wrap64 (a1 - (l0.length : Int))), (0), zq_5, zq_5, H', ⟨Nat.le_refl _⟩, ⟨by repeat (first | (with_reducible first | exact HB.out | apply below_alloc | apply pw_below_drewN | apply below_drew1) | exact HB.out)⟩⟩
  case round =>
   clear H'
   try clear c2
   try clear p2
   try clear c3
   try clear c3b0
   obtain ⟨x1_1, x5_1, rfl, rfl, HA, HK1, HB⟩ := hrel
   cases gk with
   | zero => exact absurd HA.out (by simp [laws_szPairS.l0])
   | succ k1 =>
    have H := HA.out; clear HA; simp only [laws_szPairS.l0] at H
    by_cases c4 : x5_1 < (l0.length : Int)
    ·rw [if_pos c4] at H; have c4b0 : decide (x5_1 < (l0.length : Int)) = true := decide_eq_true c4; clear c4
     by_cases c5 : 0 ≤ x5_1
     ·rw [if_pos c5] at H; have c5b0 : decide (0 ≤ x5_1) = true := decide_eq_true c5; clear c5; replace H := Option.bind_eq_some_iff.mp H; obtain ⟨t210002, A60, H⟩ := H; (try dsimp only at H); have A6 := Aside0.mk A60; clear A60
      by_cases c7 : t210002 < 0
      ·rw [if_pos c7] at H; have c7b0 : decide (t210002 < 0) = true := decide_eq_true c7; clear c7; obtain rfl := Option.some.inj H; have p210001 : 0 ≤ (x5_1 : Int) := of_decide_eq_true zq_2; have q210001 : x5_1 < (l0.length : Int) := of_decide_eq_true zq_2; obtain ⟨ad210001, e210001, hx210001_0, hx210001_1⟩ := at_T121 HR0.out x5_1 p210001 q210001
       cases e210001
       replace hx210001_0 := (HB.out.cell (World.block_lt_of_cell? w _ hx210001_0)).trans hx210001_0; replace hx210001_1 := (HB.out.cell (World.block_lt_of_cell? w _ hx210001_1)).trans hx210001_1; replace p210001 := eq_true p210001; replace q210001 := eq_true q210001
       go_wp2_with (first | ((with_reducible refine gate_callee (f := 68) rfl ?_); refine goesL_ (some 23) rfl rfl Tryd.func68 (by kernel_rfl) rfl #[.agg #[.string ((rd_T121 l0 x5_1).f0), .string ((rd_T121 l0 x5_1).f1)], .int .i64 x1_1] rfl zq_1 ?_; (with_reducible refine (laws_szPair.calls ((rd_T121 l0 x5_1).f0) ((rd_T121 l0 x5_1).f1) x1_1 t210002 _ A6.out).mono ?_); rintro e w8 ⟨rfl, hb⟩; refine ⟨_, rfl, ?_⟩; have n0_ := Aside0.mk (below_step zq_0 hb); clear HB; have HB := n0_; clear n0_; (try clear hb); (try clear hb2); (try clear hk); (try clear hi)))
       go_ret
       exact ⟨by first | rfl | (simp [errW_none, errW_some] <;> rfl) | (simp [*, errW_none, errW_some] <;> rfl), by repeat (first | (with_reducible first | exact HB.out | apply below_alloc | apply pw_below_drewN | apply below_drew1) | exact HB.out)⟩
      ·rw [if_neg c7] at H; have c7b0 : decide (t210002 < 0) = false := decide_eq_false c7; clear c7; have H' := Aside0.mk H; clear H; have p210001 : 0 ≤ (x5_1 : Int) := of_decide_eq_true zq_2; have q210001 : x5_1 < (l0.length : Int) := of_decide_eq_true zq_2; obtain ⟨ad210001, e210001, hx210001_0, hx210001_1⟩ := at_T121 HR0.out x5_1 p210001 q210001
       cases e210001
       replace hx210001_0 := (HB.out.cell (World.block_lt_of_cell? w _ hx210001_0)).trans hx210001_0; replace hx210001_1 := (HB.out.cell (World.block_lt_of_cell? w _ hx210001_1)).trans hx210001_1; replace p210001 := eq_true p210001; replace q210001 := eq_true q210001
       go_wp2_with (first | ((with_reducible refine gate_callee (f := 68) rfl ?_); refine goesL_ (some 23) rfl rfl Tryd.func68 (by kernel_rfl) rfl #[.agg #[.string ((rd_T121 l0 x5_1).f0), .string ((rd_T121 l0 x5_1).f1)], .int .i64 x1_1] rfl zq_1 ?_; (with_reducible refine (laws_szPair.calls ((rd_T121 l0 x5_1).f0) ((rd_T121 l0 x5_1).f1) x1_1 t210002 _ A6.out).mono ?_); rintro e w9 ⟨rfl, hb⟩; refine ⟨_, rfl, ?_⟩; have n0_ := Aside0.mk (below_step zq_0 hb); clear HB; have HB := n0_; clear n0_; (try clear hb); (try clear hb2); (try clear hk); (try clear hi)))
       go_roundg k1
       case measure => have := HK1.out; omega
       case rel => exact ⟨(t210002), (wrap64 (x5_1 + 1)), zq_5, zq_5, H', ⟨by have := HK1.out; omega⟩, ⟨by repeat (first | (with_reducible first | exact HB.out | apply below_alloc | apply pw_below_drewN | apply below_drew1) | exact HB.out)⟩⟩
     ·rw [if_neg c5] at H; exact absurd H (by simp)
    ·rw [if_neg c4] at H; have c4b0 : decide (x5_1 < (l0.length : Int)) = false := decide_eq_false c4; clear c4; obtain rfl := Option.some.inj H
     go_wp2
     go_ret
     exact ⟨by first | rfl | (simp [errW_none, errW_some] <;> rfl) | (simp [*, errW_none, errW_some] <;> rfl), by repeat (first | (with_reducible first | exact HB.out | apply below_alloc | apply pw_below_drewN | apply below_drew1) | exact HB.out)⟩
def laws_toPair.f (a0_0 : ByteArray) (a0_1 : ByteArray) : Option (ByteArray × ByteArray) := some (a0_0, a0_1)
set_option maxHeartbeats 8000000 in
set_option maxRecDepth 100000 in
theorem laws_toPair.calls (a0_0 : ByteArray) (a0_1 : ByteArray) (r1 : ByteArray) (r2 : ByteArray) (w : World) (h : laws_toPair.f a0_0 a0_1 = some (r1, r2)) :
  Calls Tryd.prog 74 #[.agg #[.string a0_0, .string a0_1]] w fun e w' => e = .returned (.agg #[.string r1, .string r2]) ∧ Below w.heap.size w w' := by
 have hu121 := Tryd.underlying121; have hu77 := Tryd.underlying77; have HB := Aside0.mk (Below.refl w.heap.size w); have H : (some (a0_0, a0_1)) = some (r1, r2) := h; clear h; simp only [Option.some.injEq, Prod.mk.injEq] at H; obtain ⟨rfl, rfl⟩ := H
 go_enter Tryd.func74, Tryd.ntmps74
 go_wp2_with (first | ((with_reducible refine gate_dst (N := 1) rfl ?_); refine box_event ?hg (N := 1) ?hd (cs := #[.string a0_0, .string a0_1]) (t := 121) ?hr ?_; (case hd => rfl); (case hg => rfl); (case hr => exact zq_9); intro gb740001 hg w2 hbox hb; have n0_ := Aside0.mk (below_step zq_0 hb); have n1_ := Aside0.mk (hbox); have n2_ := Aside0.mk ((by rw [hg]; exact (below_size zq_0) : w.heap.size ≤ gb740001)); have n3_ := Aside0.mk ((by rw [hg]; exact (below_size zq_0) : w.heap.size ≤ gb740001)); clear HB; have HB := n0_; have BK740001 := n1_; have GW740001 := n2_; have GE740001 := n3_; clear n0_ n1_ n2_ n3_; clear hb hbox hg) | ((with_reducible refine gate_dst (N := 2) rfl ?_); refine box_event ?hg (N := 2) ?hd (cs := #[.string (⟨#[]⟩ : ByteArray), .string (⟨#[]⟩ : ByteArray)]) (t := 77) ?hr ?_; (case hd => rfl); (case hg => rfl); (case hr => exact zq_9); intro gb740002 hg w3 hbox hb; have n0_ := Aside0.mk (blk_below (g := gb740001) (o := .cells #[.string a0_0, .string a0_1] 121 (0, 0)) zq_43 hb); have n1_ := Aside0.mk (below_step zq_60 hb); have n2_ := Aside0.mk (hbox); have n3_ := Aside0.mk ((by rw [hg]; exact (below_size zq_60) : w.heap.size ≤ gb740002)); have n4_ := Aside0.mk ((by rw [hg]; exact (below_size zq_60) : w.heap.size ≤ gb740002)); have n5_ := Aside0.mk ((by rw [hg]; exact Nat.ne_of_lt (blk_lt (g := gb740001) (o := .cells #[.string a0_0, .string a0_1] 121 (0, 0)) zq_43) : gb740001 ≠ gb740002)); have n6_ := Aside0.mk ((by rw [hg]; exact Nat.ne_of_gt (blk_lt (g := gb740001) (o := .cells #[.string a0_0, .string a0_1] 121 (0, 0)) zq_43) : gb740002 ≠ gb740001)); clear BK740001; clear HB; have BK740001 := n0_; have HB := n1_; have BK740002 := n2_; have GW740002 := n3_; have GE740002 := n4_; have NB740001_740002 := n5_; have NB740002_740001 := n6_; clear n0_ n1_ n2_ n3_ n4_ n5_ n6_; clear hb hbox hg) | ((with_reducible refine gate_dst (N := 3) rfl ?_); refine box_event ?hg (N := 3) ?hd (cs := #[.string (⟨#[]⟩ : ByteArray), .string (⟨#[]⟩ : ByteArray)]) (t := 77) ?hr ?_; (case hd => rfl); (case hg => rfl); (case hr => exact zq_9); intro gb740003 hg w4 hbox hb; have n0_ := Aside0.mk (blk_below (g := gb740001) (o := .cells #[.string a0_0, .string a0_1] 121 (0, 0)) zq_43 hb); have n1_ := Aside0.mk (blk_below (g := gb740002) (o := .cells #[.string (⟨#[]⟩ : ByteArray), .string (⟨#[]⟩ : ByteArray)] 77 (0, 0)) zq_70 hb); have n2_ := Aside0.mk (below_step zq_49 hb); have n3_ := Aside0.mk (hbox); have n4_ := Aside0.mk ((by rw [hg]; exact (below_size zq_49) : w.heap.size ≤ gb740003)); have n5_ := Aside0.mk ((by rw [hg]; exact (below_size zq_49) : w.heap.size ≤ gb740003)); have n6_ := Aside0.mk ((by rw [hg]; exact Nat.ne_of_lt (blk_lt (g := gb740001) (o := .cells #[.string a0_0, .string a0_1] 121 (0, 0)) zq_43) : gb740001 ≠ gb740003)); have n7_ := Aside0.mk ((by rw [hg]; exact Nat.ne_of_gt (blk_lt (g := gb740001) (o := .cells #[.string a0_0, .string a0_1] 121 (0, 0)) zq_43) : gb740003 ≠ gb740001)); have n8_ := Aside0.mk ((by rw [hg]; exact Nat.ne_of_lt (blk_lt (g := gb740002) (o := .cells #[.string (⟨#[]⟩ : ByteArray), .string (⟨#[]⟩ : ByteArray)] 77 (0, 0)) zq_70) : gb740002 ≠ gb740003)); have n9_ := Aside0.mk ((by rw [hg]; exact Nat.ne_of_gt (blk_lt (g := gb740002) (o := .cells #[.string (⟨#[]⟩ : ByteArray), .string (⟨#[]⟩ : ByteArray)] 77 (0, 0)) zq_70) : gb740003 ≠ gb740002)); clear BK740001; clear BK740002; clear HB; have BK740001 := n0_; have BK740002 := n1_; have HB := n2_; have BK740003 := n3_; have GW740003 := n4_; have GE740003 := n5_; have NB740001_740003 := n6_; have NB740003_740001 := n7_; have NB740002_740003 := n8_; have NB740003_740002 := n9_; clear n0_ n1_ n2_ n3_ n4_ n5_ n6_ n7_ n8_ n9_; clear hb hbox hg; have hnb5 := NB740001_740002.out; have hnc5 := NB740002_740001.out; have hnb6 := NB740001_740003.out; have hnc6 := NB740003_740001.out; have hcz7_0 : w4.cell? ⟨gb740001, 0, none⟩ = some (.string a0_0) := (blk_cell BK740001.out 0).trans rfl; have hcz7_1 : w4.cell? ⟨gb740001, 1, none⟩ = some (.string a0_1) := (blk_cell BK740001.out 1).trans rfl; have hfz7_0 := blk_frozen BK740001.out 0; have hfz7_1 := blk_frozen BK740001.out 1; have hnb8 := NB740003_740002.out; have hnc8 := NB740002_740003.out; have hcz9_0 : w4.cell? ⟨gb740003, 0, none⟩ = some (.string (⟨#[]⟩ : ByteArray)) := (blk_cell BK740003.out 0).trans rfl; have hcz9_1 : w4.cell? ⟨gb740003, 1, none⟩ = some (.string (⟨#[]⟩ : ByteArray)) := (blk_cell BK740003.out 1).trans rfl; have hfz9_0 := blk_frozen BK740003.out 0; have hfz9_1 := blk_frozen BK740003.out 1; have hcz10_0 : w4.cell? ⟨gb740002, 0, none⟩ = some (.string (⟨#[]⟩ : ByteArray)) := (blk_cell BK740002.out 0).trans rfl; have hcz10_1 : w4.cell? ⟨gb740002, 1, none⟩ = some (.string (⟨#[]⟩ : ByteArray)) := (blk_cell BK740002.out 1).trans rfl; have hfz10_0 := blk_frozen BK740002.out 0; have hfz10_1 := blk_frozen BK740002.out 1))
 refine bodyPost_ret (results_cell_row rfl _ _ gb740002 77 #[.string a0_0, .string a0_1] (0, 0) _ rfl (by (with_reducible repeat (first | refine blk_drewN ?_ _ | refine blk_drew ?_ | refine blk_alloc ?_ _)); refine blk_put (cs := #[.string a0_0, .string (⟨#[]⟩ : ByteArray)]) ?_ 1 _ rfl; (with_reducible repeat (first | refine blk_drewN ?_ _ | refine blk_drew ?_ | refine blk_alloc ?_ _)); refine blk_put (cs := #[.string (⟨#[]⟩ : ByteArray), .string (⟨#[]⟩ : ByteArray)]) ?_ 0 _ rfl; (with_reducible repeat (first | refine blk_drewN ?_ _ | refine blk_drew ?_ | refine blk_alloc ?_ _)); refine blk_far ?_ NB740002_740003.out _; (with_reducible repeat (first | refine blk_drewN ?_ _ | refine blk_drew ?_ | refine blk_alloc ?_ _)); refine blk_far ?_ NB740002_740003.out _; (with_reducible repeat (first | refine blk_drewN ?_ _ | refine blk_drew ?_ | refine blk_alloc ?_ _)); exact BK740002.out) Tryd.underlying77 rfl (by kernel_rfl)) rfl ?_; exact ⟨by first | rfl | (simp [errW_none, errW_some] <;> rfl) | (simp [*, errW_none, errW_some] <;> rfl), by repeat (first | (with_reducible first | exact HB.out | apply below_alloc | apply pw_below_drewN | apply below_drew1 | refine below_set ?_ GE740001.out | refine below_set ?_ GE740002.out | refine below_set ?_ GE740003.out) | exact HB.out)⟩
def laws_toPairS.l0 : Nat → List (S121) → List (S77) → Int → Option ((List (S77)))
 | 0, _, _, _ => none
 | k + 1, x0, x3, x4 => if x4 < (x0.length : Int) then (if 0 ≤ x4 then ((laws_toPair.f ((rd_T121 x0 x4).f0) ((rd_T121 x0 x4).f1)).bind fun bt230005 => (if x4 < (x3.length : Int) then (laws_toPairS.l0 k x0 (x3.set (x4 : Int).toNat (⟨bt230005.1, bt230005.2⟩ : S77)) (wrap64 (x4 + 1))) else (none))) else (none)) else (some x3)
def laws_toPairS.f (k : Nat) (l0 : List (S121)) : Option ((List (S77))) := if 0 ≤ (l0.length : Int) then (if ((l0.length : Int) : Int).toNat ≤ 8796093022208 then (laws_toPairS.l0 k l0 (List.replicate ((l0.length : Int) : Int).toNat z77) 0) else (none)) else (none)
set_option maxHeartbeats 8000000 in
set_option maxRecDepth 100000 in
theorem laws_toPairS.calls (k : Nat) (A0 : Option Addr) (c0 : Nat) (l0 : List (S121)) (r : List (S77)) (w : World) (hr0 : Kd.C k121 w A0 l0.length l0) (hc0 : l0.length ≤ c0) (h : laws_toPairS.f k l0 = some r) :
  Calls Tryd.prog 23 #[.slice A0 l0.length c0] w fun e w' => ∃ v0_ : Value, e = .returned (v0_) ∧ Kd.R k77 77 w' w.heap.size (fun _ => True) v0_ r ∧ Below w.heap.size w w' := by
 have hu121 := Tryd.underlying121; have hu77 := Tryd.underlying77; have HR0 := Aside0.mk hr0; have HC0 := Aside0.mk hc0; clear hr0 hc0; have HB := Aside0.mk (Below.refl w.heap.size w); have H : (if 0 ≤ (l0.length : Int) then (if ((l0.length : Int) : Int).toNat ≤ 8796093022208 then (laws_toPairS.l0 k l0 (List.replicate ((l0.length : Int) : Int).toNat z77) 0) else (none)) else (none)) = some r := h; clear h
 by_cases c2 : 0 ≤ (l0.length : Int)
 ·rw [if_pos c2] at H; have c2b0 := eq_true c2; have c2b1 : decide (0 ≤ (l0.length : Int)) = true := decide_eq_true c2; clear c2
  by_cases c3 : ((l0.length : Int) : Int).toNat ≤ 8796093022208
  ·rw [if_pos c3] at H; have c3b0 := eq_true c3; have c3b1 : decide (((l0.length : Int) : Int).toNat ≤ 8796093022208) = true := decide_eq_true c3; clear c3; obtain ⟨y230001, hy230001⟩ : ∃ y_ : List (S77), y_ = (List.replicate ((l0.length : Int) : Int).toNat z77) := ⟨_, rfl⟩
   replace H : (laws_toPairS.l0 k l0 y230001 0) = some r := by first | (rw [hy230001]; with_reducible exact H) | (have H2_ := (Option.bind_some _ _).symm.trans H; rw [hy230001]; with_reducible exact H2_) | (have H2_ := (Option.bind_some _ _).symm.trans H; with_reducible exact H2_) | with_reducible exact H | (rw [hy230001]; exact H) | exact H
   have Ny230001 := Aside0.mk hy230001; clear hy230001; have H' := Aside0.mk H; clear H
   go_enter Tryd.func23, Tryd.ntmps23
   go_wp2_with (first | ((with_reducible refine gate_dst (N := 7) rfl ?_); refine Kd.R_make k77 _ 77 rfl (N := 7) rfl 22 _ _ rfl (l0.length : Int) rfl rfl Tryd.underlying22 (.agg #[(.string ⟨#[]⟩), (.string ⟨#[]⟩)]) 32 info77 rfl (by decide) (by omega) z77 (ok := fun _ => True) (okp := fun _ => True) (k77_mkM _ _ _ z77 ) (fun _ hk => hk) trivial (of_decide_eq_true zq_2) (Nat.le_trans (Nat.mul_le_mul_right _ (of_decide_eq_true zq_2 : (l0.length : Int).toNat ≤ 8796093022208)) (by omega)) (Below.refl _ _) (Nat.le_refl _) ?_; intro v230002 w4 ho5 hb hg_ hnew_; clear hg_ hnew_; (first | rw [← Ny230001.out] at ho5 | (simp only [Int.reduceToNat] at ho5; rw [← Ny230001.out] at ho5)); have n0_ := Aside0.mk (Kd.R_lower ho5 (below_size zq_0)); have n1_ := Aside0.mk (below_step zq_0 hb); clear HB; have HO230003 := n0_; have HB := n1_; clear n0_ n1_; clear hb ho5))
   go_loopg [4] k (fun kq v4 w' => ∃ (x3_1 : List (S77)) (x4_1 : Int), v4 = .int .i64 x4_1 ∧ Aside0 (laws_toPairS.l0 kq l0 x3_1 x4_1 = some r) ∧ Aside0 (kq ≤ k) ∧ Aside0 (Kd.R k77 77 w' w.heap.size (fun _ => True) v230002 x3_1) ∧ Aside0 (Below w.heap.size w w'))
   case atStart => exact ⟨(y230001), (0), zq_5, H', ⟨Nat.le_refl _⟩, ⟨by (with_reducible repeat (first | apply Kd.R_alloc | apply Kd.R_drewN | apply Kd.R_drew)); exact HO230003.out⟩, ⟨by repeat (first | (with_reducible first | exact HB.out | apply below_alloc | apply pw_below_drewN | apply below_drew1) | exact HB.out)⟩⟩
   case round =>
    clear H'
    try clear c2
    try clear c2b0
    try clear c2b1
    try clear p2
    try clear c3
    try clear c3b0
    try clear c3b1
    obtain ⟨x3_1, x4_1, rfl, HA, HK1, HO_3, HB⟩ := hrel
    cases gk with
    | zero => exact absurd HA.out (by simp [laws_toPairS.l0])
    | succ k1 =>
     have H := HA.out; clear HA; simp only [laws_toPairS.l0] at H
     by_cases c6 : x4_1 < (l0.length : Int)
     ·rw [if_pos c6] at H; have c6b0 : decide (x4_1 < (l0.length : Int)) = true := decide_eq_true c6; clear c6
      by_cases c7 : 0 ≤ x4_1
      ·rw [if_pos c7] at H; have c7b0 : decide (0 ≤ x4_1) = true := decide_eq_true c7; clear c7; replace H := Option.bind_eq_some_iff.mp H; obtain ⟨⟨t230005, t230006⟩, A80, H⟩ := H; (try dsimp only at H); have A8 := Aside0.mk A80; clear A80
       by_cases c9 : x4_1 < (x3_1.length : Int)
       ·rw [if_pos c9] at H; have c9b0 : decide (x4_1 < (x3_1.length : Int)) = true := decide_eq_true c9; clear c9; obtain ⟨y230007, hy230007⟩ : ∃ y_ : List (S77), y_ = (x3_1.set (x4_1 : Int).toNat (⟨t230005, t230006⟩ : S77)) := ⟨_, rfl⟩
        replace H : (laws_toPairS.l0 k1 l0 y230007 (wrap64 (x4_1 + 1))) = some r := by first | (rw [hy230007]; with_reducible exact H) | (have H2_ := (Option.bind_some _ _).symm.trans H; rw [hy230007]; with_reducible exact H2_) | (have H2_ := (Option.bind_some _ _).symm.trans H; with_reducible exact H2_) | with_reducible exact H | (rw [hy230007]; exact H) | exact H
        have Ny230007 := Aside0.mk hy230007; clear hy230007; have H' := Aside0.mk H; clear H; have p230004 : 0 ≤ (x4_1 : Int) := of_decide_eq_true zq_2; have q230004 : x4_1 < (l0.length : Int) := of_decide_eq_true zq_2; obtain ⟨ad230004, e230004, hx230004_0, hx230004_1⟩ := at_T121 HR0.out x4_1 p230004 q230004
        cases e230004
        replace hx230004_0 := (HB.out.cell (World.block_lt_of_cell? w _ hx230004_0)).trans hx230004_0; replace hx230004_1 := (HB.out.cell (World.block_lt_of_cell? w _ hx230004_1)).trans hx230004_1; replace p230004 := eq_true p230004; replace q230004 := eq_true q230004
        go_wp2_with (first | ((with_reducible refine gate_callee (f := 74) rfl ?_); refine goesL_ (some 20) rfl rfl Tryd.func74 (by kernel_rfl) rfl #[.agg #[.string ((rd_T121 l0 x4_1).f0), .string ((rd_T121 l0 x4_1).f1)]] rfl zq_1 ?_; (with_reducible refine (laws_toPair.calls ((rd_T121 l0 x4_1).f0) ((rd_T121 l0 x4_1).f1) t230005 t230006 _ A8.out).mono ?_); rintro e w11 ⟨rfl, hb⟩; refine ⟨_, rfl, ?_⟩; have n0_ := Aside0.mk (Kd.R_below zq_50 hb); have n1_ := Aside0.mk (below_step zq_0 hb); clear HO_3; clear HB; have HO_3 := n0_; have HB := n1_; clear n0_ n1_; (try clear hb); (try clear hb2); (try clear hk); (try clear hi); have p10 : 0 ≤ (x4_1 : Int) := of_decide_eq_true zq_2; have q10 : (x4_1 : Int) < ((x3_1.length : Int) : Int) := of_decide_eq_true zq_2; obtain ⟨go10, co10, eo10, gb10, gl10, cl10, HG10⟩ := Kd.R_form HO_3.out (by omega); (first | cases eo10 | (injection eo10 with ea_ en_ ec_; (first | subst ea_ | (injection ea_ with ea_; subst ea_)); subst ec_; clear en_)); have GB10 := Aside0.mk gb10; have GG10 := Aside0.mk HG10; clear gb10 gl10 HG10; obtain ⟨ce10, hcl10, hM10, hcc10, hfr10⟩ := Kd.R_elem HO_3.out z77 (x4_1 : Int) p10 q10; obtain rfl := k77_openM hM10; have hx10_0 : w11.cell? ⟨go10, (x4_1 : Int).toNat * 2, none⟩ = some (.string ((rd_T77 x3_1 x4_1).f0)) := hcc10 0 _ rfl; have hx10_1 : w11.cell? ⟨go10, (x4_1 : Int).toNat * 2 + 1, none⟩ = some (.string ((rd_T77 x3_1 x4_1).f1)) := hcc10 1 _ rfl; have hf10_0 : w11.frozen? ⟨go10, (x4_1 : Int).toNat * 2, none⟩ = false := hfr10 0; have hf10_1 : w11.frozen? ⟨go10, (x4_1 : Int).toNat * 2 + 1, none⟩ = false := hfr10 1; clear hcl10 hcc10 hfr10 hM10; replace p10 := eq_true p10; replace q10 := eq_true q10; have HX12 := Aside0.mk (show Kd.R k77 77 w11 w.heap.size (fun _ => True) (.slice (some ⟨go10, 0, none⟩) x3_1.length co10) x3_1 from zq_50); obtain ⟨ce12, hcl12, hM12, hcc12, hfr12⟩ := Kd.R_elem HX12.out z77 (x4_1 : Int) (of_decide_eq_true zq_2) (by have h_ : (x4_1 : Int) < ((x3_1.length : Int) : Int) := of_decide_eq_true zq_2; first | exact h_ | (have e_ := (Kd.R_reads' HO_3.out).1; omega) | simpa using h_); obtain rfl := k77_openM hM12; have HP12 := Kd.R_seg HX12.out (x4_1 : Int) (of_decide_eq_true zq_2) (by have h_ : (x4_1 : Int) < ((x3_1.length : Int) : Int) := of_decide_eq_true zq_2; first | exact h_ | (have e_ := (Kd.R_reads' HO_3.out).1; omega) | simpa using h_) (seg := [.string t230005, .string t230006]) (j := 0) hcl12 hcc12 (show 2 ≤ 2 from by decide) (x' := (⟨t230005, t230006⟩ : S77)) (k77_mkM _ _ _ (⟨t230005, t230006⟩ : S77) ) (fun _ hk => hk); have hx12_0 := hcc12 0 _ rfl; (try simp only [show (k77).sz = 2 from rfl, Nat.mul_one, Nat.add_zero] at hx12_0); have hf12_0 := hfr12 0; (try simp only [show (k77).sz = 2 from rfl, Nat.mul_one, Nat.add_zero] at hf12_0); have hx12_1 := hcc12 1 _ rfl; (try simp only [show (k77).sz = 2 from rfl, Nat.mul_one, Nat.add_zero] at hx12_1); have hf12_1 := hfr12 1; (try simp only [show (k77).sz = 2 from rfl, Nat.mul_one, Nat.add_zero] at hf12_1); clear hcl12 hcc12 hfr12 hM12) | ((with_reducible refine gate_store (t := 77) (p := 21) rfl ?_); refine store_event (t := 77) (p := 21) (v := ?vo_w13) (w1 := ((w11.setCell ⟨go10, (x4_1 : Int).toNat * 2, none⟩ (.string t230005)).setCell ⟨go10, (x4_1 : Int).toNat * 2 + 1, none⟩ (.string t230006))) ?hg ?ho ?hn ?hr ?_; (case ho => rfl); (case hg => rfl); (case hn => rfl); (case hr => exact zq_9); intro w13 hw; have hg : w11.grownBy w13 (some go10) := (by rw [hw]; exact HP12.2); have hp_ : Kd.R k77 77 w13 w.heap.size (fun _ => True) (.slice (some ⟨go10, 0, none⟩) x3_1.length co10) y230007 := (by rw [hw, Ny230007.out]; exact HP12.1); clear HP12; have n0_ := Aside0.mk (hp_); have n1_ := Aside0.mk ((by rw [hw]; exact below_set (below_set (HB.out) GB10.out) GB10.out : Below w.heap.size w w13)); clear HO_3; clear HB; have HO_3 := n0_; have HB := n1_; clear n0_ n1_; clear hg hw hp_))
        go_roundg k1
        case measure => have := HK1.out; omega
        case rel => exact ⟨(y230007), (wrap64 (x4_1 + 1)), zq_5, H', ⟨by have := HK1.out; omega⟩, ⟨by (with_reducible repeat (first | apply Kd.R_alloc | apply Kd.R_drewN | apply Kd.R_drew)); exact HO_3.out⟩, ⟨by repeat (first | (with_reducible first | exact HB.out | apply below_alloc | apply pw_below_drewN | apply below_drew1) | exact HB.out)⟩⟩
       ·rw [if_neg c9] at H; exact absurd H (by simp)
      ·rw [if_neg c7] at H; exact absurd H (by simp)
     ·rw [if_neg c6] at H; have c6b0 : decide (x4_1 < (l0.length : Int)) = false := decide_eq_false c6; clear c6; obtain rfl := Option.some.inj H
      go_wp2
      go_ret
      exact ⟨_, by first | rfl | (simp [errW_none, errW_some] <;> rfl) | (simp [*, errW_none, errW_some] <;> rfl), by (with_reducible repeat (first | apply Kd.R_alloc | apply Kd.R_drewN | apply Kd.R_drew)); exact HO_3.out, by repeat (first | (with_reducible first | exact HB.out | apply below_alloc | apply pw_below_drewN | apply below_drew1) | exact HB.out)⟩
  ·rw [if_neg c3] at H; exact absurd H (by simp)
 ·rw [if_neg c2] at H; exact absurd H (by simp)
end Go.Proofs.YtaepebkeijmjgaaDoor.Z
end
