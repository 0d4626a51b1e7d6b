/- Own texts and the print's words that they use, joined by a program of this session. -/
import Derived.Test.YthnnphinfiobmaaDoorYFnExactRange31
import Derived.Test.YthnnphinfiobmaaDoorYFnExactRange21
import Derived.Test.YthnnphinfiobmaaDoorRows
import Derived.WalkKit
import Derived.WalkSpells
import Derived.WalkLawsBesides
import Derived.Deep.Light
import Derived.Lib.Hide
import Derived.Handy
import Derived.Deep.QuietTactic
import Derived.BigQuiet
import Derived.Deep.AppendSrc
import Derived.Test.YthnnphinfiobmaaDoorYFnExactRange19
section
namespace Go.Proofs.YthnnphinfiobmaaDoor.Z
open Go.RowKit Go.Proofs.YthnnphinfiobmaaDoorW.PrintWords Go.Proofs.YthnnphinfiobmaaDoorW.PrintLast Go.Proofs.YthnnphinfiobmaaDoorW.PrintMore
attribute [local go_sem] max2_int min2_int max_two min_two max_three min_three max_four min_four
set_option linter.unusedVariables false
set_option linter.unusedSimpArgs false
def spec_l1Block.l0 : Nat → List Int → List Int → List Int → Int → Int → Int → Int → Int → Int → Int → Int → Int → Option (List Int)
 | 0, _, _, _, _, _, _, _, _, _, _, _, _ => none
 | k + 1, x0, x1, x9, x10, x11, x12, x13, x14, x15, x16, x17, x18 => if x18 < 64 then ((spec_l1Turn.f x14 6).bind fun t1110023 => ((spec_l1Turn.f x14 11).bind fun t1110024 => ((spec_l1Turn.f x14 25).bind fun t1110025 => (if 0 ≤ x18 then (if x18 < (x1.length : Int) then (if x18 < (x9.length : Int) then ((spec_l1Turn.f x10 2).bind fun t1110028 => ((spec_l1Turn.f x10 13).bind fun t1110029 => ((spec_l1Turn.f x10 22).bind fun t1110030 => (spec_l1Block.l0 k x0 x1 x9 ((((((((((x17 + (Go.bits .xor .u32 (Go.bits .xor .u32 t1110023 t1110024) t1110025)) % 4294967296) + (Go.bits .xor .u32 (Go.bits .and .u32 x14 x15) (Go.bits .and .u32 (Go.bits .xor .u32 IntKind.u32.max x14) x16))) % 4294967296) + (rd x1 x18)) % 4294967296) + (rd x9 x18)) % 4294967296) + (((Go.bits .xor .u32 (Go.bits .xor .u32 t1110028 t1110029) t1110030) + (Go.bits .xor .u32 (Go.bits .xor .u32 (Go.bits .and .u32 x10 x11) (Go.bits .and .u32 x10 x12)) (Go.bits .and .u32 x11 x12))) % 4294967296)) % 4294967296) x10 x11 x12 ((x13 + ((((((((x17 + (Go.bits .xor .u32 (Go.bits .xor .u32 t1110023 t1110024) t1110025)) % 4294967296) + (Go.bits .xor .u32 (Go.bits .and .u32 x14 x15) (Go.bits .and .u32 (Go.bits .xor .u32 IntKind.u32.max x14) x16))) % 4294967296) + (rd x1 x18)) % 4294967296) + (rd x9 x18)) % 4294967296)) % 4294967296) x14 x15 x16 (wrap64 (x18 + 1)))))) else (none)) else (none)) else (none))))) else (if 0 < (x0.length : Int) then (if 1 < (x0.length : Int) then (if 2 < (x0.length : Int) then (if 3 < (x0.length : Int) then (if 4 < (x0.length : Int) then (if 5 < (x0.length : Int) then (if 6 < (x0.length : Int) then (if 7 < (x0.length : Int) then (some (([((rd x0 0) + x10) % 4294967296, ((rd x0 1) + x11) % 4294967296, ((rd x0 2) + x12) % 4294967296, ((rd x0 3) + x13) % 4294967296, ((rd x0 4) + x14) % 4294967296, ((rd x0 5) + x15) % 4294967296, ((rd x0 6) + x16) % 4294967296, ((rd x0 7) + x17) % 4294967296] : List Int))) else (none)) else (none)) else (none)) else (none)) else (none)) else (none)) else (none)) else (none))
def spec_l1Block.f (k : Nat) (l0 : List Int) (l1 : List Int) (l2 : List Int) (a3 : Int) : Option (List Int) := (spec_l1Schedule.f k l2 a3).bind fun t1110001 => (if 0 < (l0.length : Int) then (if 1 < (l0.length : Int) then (if 2 < (l0.length : Int) then (if 3 < (l0.length : Int) then (if 4 < (l0.length : Int) then (if 5 < (l0.length : Int) then (if 6 < (l0.length : Int) then (if 7 < (l0.length : Int) then (spec_l1Block.l0 k l0 l1 t1110001 (rd l0 0) (rd l0 1) (rd l0 2) (rd l0 3) (rd l0 4) (rd l0 5) (rd l0 6) (rd l0 7) 0) else (none)) else (none)) else (none)) else (none)) else (none)) else (none)) else (none)) else (none))
def spec_l1Block.T14 : Bool × List (List Nat × List Nat) := (true, [([], []), ([], []), ([0, 1], [0, 1]), ([], []), ([], []), ([3, 4], [3, 4]), ([], []), ([6], [6]), ([], []), ([7, 8], [7, 8]), ([5, 9], [5, 9]), ([2, 10], [2, 10]), ([], []), ([], []), ([12, 13], [12, 13]), ([14], [14]), ([11, 15], [11, 15]), ([], []), ([], []), ([17, 18], [17, 18]), ([19], [19]), ([16, 20], [16, 20]), ([21, 0, 1, 2, 3, 4, 5, 6, 7, 8, 9, 10, 11, 12, 13, 14, 15, 16, 17, 18, 19, 20, 21], [21])])
def spec_l1Block.B14 : List Nat := [0, 0, 3, 0, 0, 24, 0, 64, 0, 448, 1016, 2047, 0, 0, 12288, 28672, 65535, 0, 0, 393216, 917504, 2097151, 4194303]
theorem spec_l1Block.tab14 : rtab .any (opsOf Tryd.f111 14) = spec_l1Block.T14 := by kernel_rfl
theorem spec_l1Block.bits14 : waitsOk spec_l1Block.T14.2 spec_l1Block.B14 = true := by kernel_rfl
def spec_l1Block.T25 : Bool × List (List Nat × List Nat) := (true, [([], []), ([0], [0]), ([1], [1]), ([], []), ([2, 3], [2, 3]), ([], []), ([5], [5]), ([6], [6]), ([], []), ([7, 8], [7, 8]), ([], []), ([10], [10]), ([11], [11]), ([], []), ([12, 13], [12, 13]), ([], []), ([15], [15]), ([16], [16]), ([], []), ([17, 18], [17, 18]), ([], []), ([20], [20]), ([21], [21]), ([], []), ([22, 23], [22, 23]), ([], []), ([25], [25]), ([26], [26]), ([], []), ([27, 28], [27, 28]), ([], []), ([30], [30]), ([31], [31]), ([], []), ([32, 33], [32, 33]), ([], []), ([35], [35]), ([36], [36]), ([], []), ([37, 38], [37, 38]), ([4, 9, 14, 19, 24, 29, 34, 39], [4, 9, 14, 19, 24, 29, 34, 39]), ([40, 0, 1, 2, 3, 4, 5, 6, 7, 8, 9, 10, 11, 12, 13, 14, 15, 16, 17, 18, 19, 20, 21, 22, 23, 24, 25, 26, 27, 28, 29, 30, 31, 32, 33, 34, 35, 36, 37, 38, 39, 40], [40])])
def spec_l1Block.B25 : List Nat := [0, 1, 3, 0, 15, 0, 32, 96, 0, 480, 0, 1024, 3072, 0, 15360, 0, 32768, 98304, 0, 491520, 0, 1048576, 3145728, 0, 15728640, 0, 33554432, 100663296, 0, 503316480, 0, 1073741824, 3221225472, 0, 16106127360, 0, 34359738368, 103079215104, 0, 515396075520, 1099511627775, 2199023255551]
theorem spec_l1Block.tab25 : rtab .any (opsOf Tryd.f111 25) = spec_l1Block.T25 := by kernel_rfl
theorem spec_l1Block.bits25 : waitsOk spec_l1Block.T25.2 spec_l1Block.B25 = true := by kernel_rfl
set_option maxHeartbeats 8000000 in
set_option maxRecDepth 100000 in
theorem spec_l1Block.calls (k : Nat) (A0 : Option Addr) (c0 : Nat) (l0 : List Int) (A1 : Option Addr) (c1 : Nat) (l1 : List Int) (A2 : Option Addr) (c2 : Nat) (l2 : List Int) (a3 : Int) (r : List Int) (w : World) (hr0 : Kd.C (Kd.int .u32) w A0 l0.length l0) (hc0 : l0.length ≤ c0) (hr1 : Kd.C (Kd.int .u32) w A1 l1.length l1) (hc1 : l1.length ≤ c1) (hr2 : Kd.C (Kd.int .u8) w A2 l2.length l2) (hc2 : l2.length ≤ c2) (h : spec_l1Block.f k l0 l1 l2 a3 = some r) :
  Calls Tryd.prog 111 #[.slice A0 l0.length c0, .slice A1 l1.length c1, .slice A2 l2.length c2, .int .i64 a3] w fun e w' => ∃ v0_ : Value, e = .returned (v0_) ∧ Kd.R (Kd.int .u32) 142 w' w.heap.size (fun _ => True) v0_ r ∧ Below w.heap.size w w' := by
 have HR0 := Aside0.mk hr0; have HC0 := Aside0.mk hc0; clear hr0 hc0; have HR1 := Aside0.mk hr1; have HC1 := Aside0.mk hc1; clear hr1 hc1; have HR2 := Aside0.mk hr2; have HC2 := Aside0.mk hc2; clear hr2 hc2; have HB := Aside0.mk (Below.refl w.heap.size w); have H : ((spec_l1Schedule.f k l2 a3).bind fun t1110001 => (if 0 < (l0.length : Int) then (if 1 < (l0.length : Int) then (if 2 < (l0.length : Int) then (if 3 < (l0.length : Int) then (if 4 < (l0.length : Int) then (if 5 < (l0.length : Int) then (if 6 < (l0.length : Int) then (if 7 < (l0.length : Int) then (spec_l1Block.l0 k l0 l1 t1110001 (rd l0 0) (rd l0 1) (rd l0 2) (rd l0 3) (rd l0 4) (rd l0 5) (rd l0 6) (rd l0 7) 0) else (none)) else (none)) else (none)) else (none)) else (none)) else (none)) else (none)) else (none))) = some r := h; clear h; replace H := Option.bind_eq_some_iff.mp H; obtain ⟨t1110001, A50, H⟩ := H; replace H : (if 0 < (l0.length : Int) then (if 1 < (l0.length : Int) then (if 2 < (l0.length : Int) then (if 3 < (l0.length : Int) then (if 4 < (l0.length : Int) then (if 5 < (l0.length : Int) then (if 6 < (l0.length : Int) then (if 7 < (l0.length : Int) then (spec_l1Block.l0 k l0 l1 t1110001 (rd l0 0) (rd l0 1) (rd l0 2) (rd l0 3) (rd l0 4) (rd l0 5) (rd l0 6) (rd l0 7) 0) else (none)) else (none)) else (none)) else (none)) else (none)) else (none)) else (none)) else (none)) = some r := H; have A5 := Aside0.mk A50; clear A50
 by_cases c6 : 0 < (l0.length : Int)
 ·rw [if_pos c6] at H; have c6b0 : decide (0 < (l0.length : Int)) = true := decide_eq_true c6; have c6b1 : decide (0 < l0.length) = true := decide_eq_true (by omega); clear c6
  by_cases c7 : 1 < (l0.length : Int)
  ·rw [if_pos c7] at H; have c7b0 : decide (1 < (l0.length : Int)) = true := decide_eq_true c7; have c7b1 : decide (1 < l0.length) = true := decide_eq_true (by omega); clear c7
   by_cases c8 : 2 < (l0.length : Int)
   ·rw [if_pos c8] at H; have c8b0 : decide (2 < (l0.length : Int)) = true := decide_eq_true c8; have c8b1 : decide (2 < l0.length) = true := decide_eq_true (by omega); clear c8
    by_cases c9 : 3 < (l0.length : Int)
    ·rw [if_pos c9] at H; have c9b0 : decide (3 < (l0.length : Int)) = true := decide_eq_true c9; have c9b1 : decide (3 < l0.length) = true := decide_eq_true (by omega); clear c9
     by_cases c10 : 4 < (l0.length : Int)
     ·rw [if_pos c10] at H; have c10b0 : decide (4 < (l0.length : Int)) = true := decide_eq_true c10; have c10b1 : decide (4 < l0.length) = true := decide_eq_true (by omega); clear c10
      by_cases c11 : 5 < (l0.length : Int)
      ·rw [if_pos c11] at H; have c11b0 : decide (5 < (l0.length : Int)) = true := decide_eq_true c11; have c11b1 : decide (5 < l0.length) = true := decide_eq_true (by omega); clear c11
       by_cases c12 : 6 < (l0.length : Int)
       ·rw [if_pos c12] at H; have c12b0 : decide (6 < (l0.length : Int)) = true := decide_eq_true c12; have c12b1 : decide (6 < l0.length) = true := decide_eq_true (by omega); clear c12
        by_cases c13 : 7 < (l0.length : Int)
        ·rw [if_pos c13] at H; have c13b0 : decide (7 < (l0.length : Int)) = true := decide_eq_true c13; have c13b1 : decide (7 < l0.length) = true := decide_eq_true (by omega); clear c13; have H' := Aside0.mk H; clear H
         go_enter Tryd.func111, Tryd.ntmps111
         go_wp2_with (first | ((with_reducible refine gate_callee (f := 121) rfl ?_); refine goesL_ (some 25) rfl rfl Tryd.func121 (by kernel_rfl) rfl #[.slice A2 l2.length c2, .int .i64 a3] rfl zq_1 ?_; (with_reducible refine (spec_l1Schedule.calls k _ _ l2 a3 t1110001 _ ?side1 ?side2 A5.out).mono ?_); (case side1 => repeat (first | exact HR2.out | (with_reducible refine Kd.C_alloc ?_ _) | (with_reducible refine Kd.C_drewN ?_ _) | (with_reducible refine Kd.C_drew ?_))); (case side2 => exact HC2.out); rintro e w14 ⟨v1110002, rfl, ho0, hb⟩; refine ⟨_, rfl, ?_⟩; have n0_ := Aside0.mk (Kd.R_lower ho0 (below_size zq_0)); have n1_ := Aside0.mk (below_step zq_0 hb); clear HB; have HO1110003 := n0_; have HB := n1_; clear n0_ n1_; (try clear hb); (try clear hb2); (try clear hk); (try clear hi); (try clear ho0); have p1110004 : 0 ≤ (0 : Int) := (by omega); have q1110004 : 0 < (l0.length : Int) := of_decide_eq_true zq_3; obtain ⟨ad1110004, e1110004, hx1110004_0⟩ := Kd.at_int HR0.out 0 p1110004 q1110004; cases e1110004; have qi1110004 : (0 < l0.length) = True := eq_true (by omega); (try rw [show ((0 : Int)).toNat = 0 from rfl] at hx1110004_0); (try rw [Addr.add_zero'] at hx1110004_0); replace hx1110004_0 := (HB.out.cell (World.block_lt_of_cell? w _ hx1110004_0)).trans hx1110004_0; replace p1110004 := eq_true p1110004; replace q1110004 := eq_true q1110004; have p1110005 : 0 ≤ (1 : Int) := (by omega); have q1110005 : 1 < (l0.length : Int) := of_decide_eq_true zq_3; obtain ⟨ad1110005, e1110005, hx1110005_0⟩ := Kd.at_int HR0.out 1 p1110005 q1110005; obtain rfl : ad1110004 = ad1110005 := (by injection e1110005); (try simp only [show (1 : Int).toNat = 1 from rfl, Nat.reduceMul, Nat.reduceEqDiff, Go.Addr.add, ↓reduceIte] at hx1110005_0); have qi1110005 : (1 < l0.length) = True := eq_true (by omega); (try rw [show ((1 : Int)).toNat = 1 from rfl] at hx1110005_0); replace hx1110005_0 := (HB.out.cell (World.block_lt_of_cell? w _ hx1110005_0)).trans hx1110005_0; replace p1110005 := eq_true p1110005; replace q1110005 := eq_true q1110005; have p1110006 : 0 ≤ (2 : Int) := (by omega); have q1110006 : 2 < (l0.length : Int) := of_decide_eq_true zq_3; obtain ⟨ad1110006, e1110006, hx1110006_0⟩ := Kd.at_int HR0.out 2 p1110006 q1110006; obtain rfl : ad1110004 = ad1110006 := (by injection e1110006); (try simp only [show (2 : Int).toNat = 2 from rfl, Nat.reduceMul, Nat.reduceEqDiff, Go.Addr.add, ↓reduceIte] at hx1110006_0); have qi1110006 : (2 < l0.length) = True := eq_true (by omega); (try rw [show ((2 : Int)).toNat = 2 from rfl] at hx1110006_0); replace hx1110006_0 := (HB.out.cell (World.block_lt_of_cell? w _ hx1110006_0)).trans hx1110006_0; replace p1110006 := eq_true p1110006; replace q1110006 := eq_true q1110006; have p1110007 : 0 ≤ (3 : Int) := (by omega); have q1110007 : 3 < (l0.length : Int) := of_decide_eq_true zq_3; obtain ⟨ad1110007, e1110007, hx1110007_0⟩ := Kd.at_int HR0.out 3 p1110007 q1110007; obtain rfl : ad1110004 = ad1110007 := (by injection e1110007); (try simp only [show (3 : Int).toNat = 3 from rfl, Nat.reduceMul, Nat.reduceEqDiff, Go.Addr.add, ↓reduceIte] at hx1110007_0); have qi1110007 : (3 < l0.length) = True := eq_true (by omega); (try rw [show ((3 : Int)).toNat = 3 from rfl] at hx1110007_0); replace hx1110007_0 := (HB.out.cell (World.block_lt_of_cell? w _ hx1110007_0)).trans hx1110007_0; replace p1110007 := eq_true p1110007; replace q1110007 := eq_true q1110007; have p1110008 : 0 ≤ (4 : Int) := (by omega); have q1110008 : 4 < (l0.length : Int) := of_decide_eq_true zq_3; obtain ⟨ad1110008, e1110008, hx1110008_0⟩ := Kd.at_int HR0.out 4 p1110008 q1110008; obtain rfl : ad1110004 = ad1110008 := (by injection e1110008); (try simp only [show (4 : Int).toNat = 4 from rfl, Nat.reduceMul, Nat.reduceEqDiff, Go.Addr.add, ↓reduceIte] at hx1110008_0); have qi1110008 : (4 < l0.length) = True := eq_true (by omega); (try rw [show ((4 : Int)).toNat = 4 from rfl] at hx1110008_0); replace hx1110008_0 := (HB.out.cell (World.block_lt_of_cell? w _ hx1110008_0)).trans hx1110008_0; replace p1110008 := eq_true p1110008; replace q1110008 := eq_true q1110008; have p1110009 : 0 ≤ (5 : Int) := (by omega); have q1110009 : 5 < (l0.length : Int) := of_decide_eq_true zq_3; obtain ⟨ad1110009, e1110009, hx1110009_0⟩ := Kd.at_int HR0.out 5 p1110009 q1110009; obtain rfl : ad1110004 = ad1110009 := (by injection e1110009); (try simp only [show (5 : Int).toNat = 5 from rfl, Nat.reduceMul, Nat.reduceEqDiff, Go.Addr.add, ↓reduceIte] at hx1110009_0); have qi1110009 : (5 < l0.length) = True := eq_true (by omega); (try rw [show ((5 : Int)).toNat = 5 from rfl] at hx1110009_0); replace hx1110009_0 := (HB.out.cell (World.block_lt_of_cell? w _ hx1110009_0)).trans hx1110009_0; replace p1110009 := eq_true p1110009; replace q1110009 := eq_true q1110009; have p1110010 : 0 ≤ (6 : Int) := (by omega); have q1110010 : 6 < (l0.length : Int) := of_decide_eq_true zq_3; obtain ⟨ad1110010, e1110010, hx1110010_0⟩ := Kd.at_int HR0.out 6 p1110010 q1110010; obtain rfl : ad1110004 = ad1110010 := (by injection e1110010); (try simp only [show (6 : Int).toNat = 6 from rfl, Nat.reduceMul, Nat.reduceEqDiff, Go.Addr.add, ↓reduceIte] at hx1110010_0); have qi1110010 : (6 < l0.length) = True := eq_true (by omega); (try rw [show ((6 : Int)).toNat = 6 from rfl] at hx1110010_0); replace hx1110010_0 := (HB.out.cell (World.block_lt_of_cell? w _ hx1110010_0)).trans hx1110010_0; replace p1110010 := eq_true p1110010; replace q1110010 := eq_true q1110010; have p1110011 : 0 ≤ (7 : Int) := (by omega); have q1110011 : 7 < (l0.length : Int) := of_decide_eq_true zq_3; obtain ⟨ad1110011, e1110011, hx1110011_0⟩ := Kd.at_int HR0.out 7 p1110011 q1110011; obtain rfl : ad1110004 = ad1110011 := (by injection e1110011); (try simp only [show (7 : Int).toNat = 7 from rfl, Nat.reduceMul, Nat.reduceEqDiff, Go.Addr.add, ↓reduceIte] at hx1110011_0); have qi1110011 : (7 < l0.length) = True := eq_true (by omega); (try rw [show ((7 : Int)).toNat = 7 from rfl] at hx1110011_0); replace hx1110011_0 := (HB.out.cell (World.block_lt_of_cell? w _ hx1110011_0)).trans hx1110011_0; replace p1110011 := eq_true p1110011; replace q1110011 := eq_true q1110011))
         go_loopg [10, 11, 12, 13, 14, 15, 16, 17, 18] k (fun kq v10 v11 v12 v13 v14 v15 v16 v17 v18 w' => ∃ (x10_1 : Int) (x11_1 : Int) (x12_1 : Int) (x13_1 : Int) (x14_1 : Int) (x15_1 : Int) (x16_1 : Int) (x17_1 : Int) (x18_1 : Int), v10 = .int .u32 x10_1 ∧ v11 = .int .u32 x11_1 ∧ v12 = .int .u32 x12_1 ∧ v13 = .int .u32 x13_1 ∧ v14 = .int .u32 x14_1 ∧ v15 = .int .u32 x15_1 ∧ v16 = .int .u32 x16_1 ∧ v17 = .int .u32 x17_1 ∧ v18 = .int .i64 x18_1 ∧ Aside0 (spec_l1Block.l0 kq l0 l1 t1110001 x10_1 x11_1 x12_1 x13_1 x14_1 x15_1 x16_1 x17_1 x18_1 = some r) ∧ Aside0 (kq ≤ k) ∧ Aside0 (Kd.R (Kd.int .u32) 142 w' w.heap.size (fun _ => True) v1110002 t1110001) ∧ Aside0 (Below w.heap.size w w'))
         case atStart => exact ⟨(rd l0 0), (rd l0 1), (rd l0 2), (rd l0 3), (rd l0 4), (rd l0 5), (rd l0 6), (rd l0 7), (0), zq_11, zq_11, zq_11, zq_11, zq_11, zq_11, zq_11, zq_11, zq_11, H', ⟨Nat.le_refl _⟩, ⟨by (with_reducible repeat (first | apply Kd.R_alloc | apply Kd.R_drewN | apply Kd.R_drew)); exact HO1110003.out⟩, ⟨by repeat (first | (with_reducible first | exact HB.out | apply below_alloc | apply pw_below_drewN | apply below_drew1) | exact HB.out)⟩⟩
         case round =>
          clear H'
          try clear c1
          try clear p1
          try clear q1
          try clear hx1
          try clear qi1
          try clear c2
          try clear p2
          try clear c6
          try clear c6b0
          try clear c6b1
          try clear c7
          try clear c7b0
          try clear c7b1
          try clear c8
          try clear c8b0
          try clear c8b1
          try clear c9
          try clear c9b0
          try clear c9b1
          try clear c10
          try clear c10b0
          try clear c10b1
          try clear c11
          try clear c11b0
          try clear c11b1
          try clear p11
          try clear q11
          try clear hx11
          try clear qi11
          try clear c12
          try clear c12b0
          try clear c12b1
          try clear c13
          try clear c13b0
          try clear c13b1
          try clear hx1110004_0
          try clear hx1110005_0
          try clear hx1110006_0
          try clear hx1110007_0
          try clear hx1110008_0
          try clear hx1110009_0
          try clear hx1110010_0
          try clear hx1110011_0
          try clear p1110004
          try clear p1110005
          try clear p1110006
          try clear p1110007
          try clear p1110008
          try clear p1110009
          try clear p1110010
          try clear p1110011
          try clear q1110004
          try clear q1110005
          try clear q1110006
          try clear q1110007
          try clear q1110008
          try clear q1110009
          try clear q1110010
          try clear q1110011
          obtain ⟨x10_1, x11_1, x12_1, x13_1, x14_1, x15_1, x16_1, x17_1, x18_1, rfl, rfl, rfl, rfl, rfl, rfl, rfl, rfl, rfl, HA, HK1, HO_9, HB⟩ := hrel
          cases gk with
          | zero => exact absurd HA.out (by simp [spec_l1Block.l0])
          | succ k1 =>
           have H := HA.out; clear HA; simp only [spec_l1Block.l0] at H
           by_cases c15 : x18_1 < 64
           ·rw [if_pos c15] at H; have c15b0 : decide (x18_1 < 64) = true := decide_eq_true c15; clear c15; replace H := Option.bind_eq_some_iff.mp H; obtain ⟨t1110023, A160, H⟩ := H; replace H : ((spec_l1Turn.f x14_1 11).bind fun t1110024 => ((spec_l1Turn.f x14_1 25).bind fun t1110025 => (if 0 ≤ x18_1 then (if x18_1 < (l1.length : Int) then (if x18_1 < (t1110001.length : Int) then ((spec_l1Turn.f x10_1 2).bind fun t1110028 => ((spec_l1Turn.f x10_1 13).bind fun t1110029 => ((spec_l1Turn.f x10_1 22).bind fun t1110030 => (spec_l1Block.l0 k1 l0 l1 t1110001 ((((((((((x17_1 + (Go.bits .xor .u32 (Go.bits .xor .u32 t1110023 t1110024) t1110025)) % 4294967296) + (Go.bits .xor .u32 (Go.bits .and .u32 x14_1 x15_1) (Go.bits .and .u32 (Go.bits .xor .u32 IntKind.u32.max x14_1) x16_1))) % 4294967296) + (rd l1 x18_1)) % 4294967296) + (rd t1110001 x18_1)) % 4294967296) + (((Go.bits .xor .u32 (Go.bits .xor .u32 t1110028 t1110029) t1110030) + (Go.bits .xor .u32 (Go.bits .xor .u32 (Go.bits .and .u32 x10_1 x11_1) (Go.bits .and .u32 x10_1 x12_1)) (Go.bits .and .u32 x11_1 x12_1))) % 4294967296)) % 4294967296) x10_1 x11_1 x12_1 ((x13_1 + ((((((((x17_1 + (Go.bits .xor .u32 (Go.bits .xor .u32 t1110023 t1110024) t1110025)) % 4294967296) + (Go.bits .xor .u32 (Go.bits .and .u32 x14_1 x15_1) (Go.bits .and .u32 (Go.bits .xor .u32 IntKind.u32.max x14_1) x16_1))) % 4294967296) + (rd l1 x18_1)) % 4294967296) + (rd t1110001 x18_1)) % 4294967296)) % 4294967296) x14_1 x15_1 x16_1 (wrap64 (x18_1 + 1)))))) else (none)) else (none)) else (none)))) = some r := H; have A16 := Aside0.mk A160; clear A160; replace H := Option.bind_eq_some_iff.mp H; obtain ⟨t1110024, A170, H⟩ := H
            replace H : ((spec_l1Turn.f x14_1 25).bind fun t1110025 => (if 0 ≤ x18_1 then (if x18_1 < (l1.length : Int) then (if x18_1 < (t1110001.length : Int) then ((spec_l1Turn.f x10_1 2).bind fun t1110028 => ((spec_l1Turn.f x10_1 13).bind fun t1110029 => ((spec_l1Turn.f x10_1 22).bind fun t1110030 => (spec_l1Block.l0 k1 l0 l1 t1110001 ((((((((((x17_1 + (Go.bits .xor .u32 (Go.bits .xor .u32 t1110023 t1110024) t1110025)) % 4294967296) + (Go.bits .xor .u32 (Go.bits .and .u32 x14_1 x15_1) (Go.bits .and .u32 (Go.bits .xor .u32 IntKind.u32.max x14_1) x16_1))) % 4294967296) + (rd l1 x18_1)) % 4294967296) + (rd t1110001 x18_1)) % 4294967296) + (((Go.bits .xor .u32 (Go.bits .xor .u32 t1110028 t1110029) t1110030) + (Go.bits .xor .u32 (Go.bits .xor .u32 (Go.bits .and .u32 x10_1 x11_1) (Go.bits .and .u32 x10_1 x12_1)) (Go.bits .and .u32 x11_1 x12_1))) % 4294967296)) % 4294967296) x10_1 x11_1 x12_1 ((x13_1 + ((((((((x17_1 + (Go.bits .xor .u32 (Go.bits .xor .u32 t1110023 t1110024) t1110025)) % 4294967296) + (Go.bits .xor .u32 (Go.bits .and .u32 x14_1 x15_1) (Go.bits .and .u32 (Go.bits .xor .u32 IntKind.u32.max x14_1) x16_1))) % 4294967296) + (rd l1 x18_1)) % 4294967296) + (rd t1110001 x18_1)) % 4294967296)) % 4294967296) x14_1 x15_1 x16_1 (wrap64 (x18_1 + 1)))))) else (none)) else (none)) else (none))) = some r := H; have A17 := Aside0.mk A170; clear A170; replace H := Option.bind_eq_some_iff.mp H; obtain ⟨t1110025, A180, H⟩ := H
            replace H : (if 0 ≤ x18_1 then (if x18_1 < (l1.length : Int) then (if x18_1 < (t1110001.length : Int) then ((spec_l1Turn.f x10_1 2).bind fun t1110028 => ((spec_l1Turn.f x10_1 13).bind fun t1110029 => ((spec_l1Turn.f x10_1 22).bind fun t1110030 => (spec_l1Block.l0 k1 l0 l1 t1110001 ((((((((((x17_1 + (Go.bits .xor .u32 (Go.bits .xor .u32 t1110023 t1110024) t1110025)) % 4294967296) + (Go.bits .xor .u32 (Go.bits .and .u32 x14_1 x15_1) (Go.bits .and .u32 (Go.bits .xor .u32 IntKind.u32.max x14_1) x16_1))) % 4294967296) + (rd l1 x18_1)) % 4294967296) + (rd t1110001 x18_1)) % 4294967296) + (((Go.bits .xor .u32 (Go.bits .xor .u32 t1110028 t1110029) t1110030) + (Go.bits .xor .u32 (Go.bits .xor .u32 (Go.bits .and .u32 x10_1 x11_1) (Go.bits .and .u32 x10_1 x12_1)) (Go.bits .and .u32 x11_1 x12_1))) % 4294967296)) % 4294967296) x10_1 x11_1 x12_1 ((x13_1 + ((((((((x17_1 + (Go.bits .xor .u32 (Go.bits .xor .u32 t1110023 t1110024) t1110025)) % 4294967296) + (Go.bits .xor .u32 (Go.bits .and .u32 x14_1 x15_1) (Go.bits .and .u32 (Go.bits .xor .u32 IntKind.u32.max x14_1) x16_1))) % 4294967296) + (rd l1 x18_1)) % 4294967296) + (rd t1110001 x18_1)) % 4294967296)) % 4294967296) x14_1 x15_1 x16_1 (wrap64 (x18_1 + 1)))))) else (none)) else (none)) else (none)) = some r := H; have A18 := Aside0.mk A180; clear A180
            by_cases c19 : 0 ≤ x18_1
            ·rw [if_pos c19] at H; have c19b0 : decide (0 ≤ x18_1) = true := decide_eq_true c19; clear c19
             by_cases c20 : x18_1 < (l1.length : Int)
             ·rw [if_pos c20] at H; have c20b0 : decide (x18_1 < (l1.length : Int)) = true := decide_eq_true c20; clear c20
              by_cases c21 : x18_1 < (t1110001.length : Int)
              ·rw [if_pos c21] at H; have c21b0 : decide (x18_1 < (t1110001.length : Int)) = true := decide_eq_true c21; clear c21; replace H := Option.bind_eq_some_iff.mp H; obtain ⟨t1110028, A220, H⟩ := H; replace H : ((spec_l1Turn.f x10_1 13).bind fun t1110029 => ((spec_l1Turn.f x10_1 22).bind fun t1110030 => (spec_l1Block.l0 k1 l0 l1 t1110001 ((((((((((x17_1 + (Go.bits .xor .u32 (Go.bits .xor .u32 t1110023 t1110024) t1110025)) % 4294967296) + (Go.bits .xor .u32 (Go.bits .and .u32 x14_1 x15_1) (Go.bits .and .u32 (Go.bits .xor .u32 IntKind.u32.max x14_1) x16_1))) % 4294967296) + (rd l1 x18_1)) % 4294967296) + (rd t1110001 x18_1)) % 4294967296) + (((Go.bits .xor .u32 (Go.bits .xor .u32 t1110028 t1110029) t1110030) + (Go.bits .xor .u32 (Go.bits .xor .u32 (Go.bits .and .u32 x10_1 x11_1) (Go.bits .and .u32 x10_1 x12_1)) (Go.bits .and .u32 x11_1 x12_1))) % 4294967296)) % 4294967296) x10_1 x11_1 x12_1 ((x13_1 + ((((((((x17_1 + (Go.bits .xor .u32 (Go.bits .xor .u32 t1110023 t1110024) t1110025)) % 4294967296) + (Go.bits .xor .u32 (Go.bits .and .u32 x14_1 x15_1) (Go.bits .and .u32 (Go.bits .xor .u32 IntKind.u32.max x14_1) x16_1))) % 4294967296) + (rd l1 x18_1)) % 4294967296) + (rd t1110001 x18_1)) % 4294967296)) % 4294967296) x14_1 x15_1 x16_1 (wrap64 (x18_1 + 1))))) = some r := H; have A22 := Aside0.mk A220; clear A220; replace H := Option.bind_eq_some_iff.mp H; obtain ⟨t1110029, A230, H⟩ := H; replace H : ((spec_l1Turn.f x10_1 22).bind fun t1110030 => (spec_l1Block.l0 k1 l0 l1 t1110001 ((((((((((x17_1 + (Go.bits .xor .u32 (Go.bits .xor .u32 t1110023 t1110024) t1110025)) % 4294967296) + (Go.bits .xor .u32 (Go.bits .and .u32 x14_1 x15_1) (Go.bits .and .u32 (Go.bits .xor .u32 IntKind.u32.max x14_1) x16_1))) % 4294967296) + (rd l1 x18_1)) % 4294967296) + (rd t1110001 x18_1)) % 4294967296) + (((Go.bits .xor .u32 (Go.bits .xor .u32 t1110028 t1110029) t1110030) + (Go.bits .xor .u32 (Go.bits .xor .u32 (Go.bits .and .u32 x10_1 x11_1) (Go.bits .and .u32 x10_1 x12_1)) (Go.bits .and .u32 x11_1 x12_1))) % 4294967296)) % 4294967296) x10_1 x11_1 x12_1 ((x13_1 + ((((((((x17_1 + (Go.bits .xor .u32 (Go.bits .xor .u32 t1110023 t1110024) t1110025)) % 4294967296) + (Go.bits .xor .u32 (Go.bits .and .u32 x14_1 x15_1) (Go.bits .and .u32 (Go.bits .xor .u32 IntKind.u32.max x14_1) x16_1))) % 4294967296) + (rd l1 x18_1)) % 4294967296) + (rd t1110001 x18_1)) % 4294967296)) % 4294967296) x14_1 x15_1 x16_1 (wrap64 (x18_1 + 1)))) = some r := H; have A23 := Aside0.mk A230; clear A230
               replace H := Option.bind_eq_some_iff.mp H; obtain ⟨t1110030, A240, H⟩ := H; replace H : (spec_l1Block.l0 k1 l0 l1 t1110001 ((((((((((x17_1 + (Go.bits .xor .u32 (Go.bits .xor .u32 t1110023 t1110024) t1110025)) % 4294967296) + (Go.bits .xor .u32 (Go.bits .and .u32 x14_1 x15_1) (Go.bits .and .u32 (Go.bits .xor .u32 IntKind.u32.max x14_1) x16_1))) % 4294967296) + (rd l1 x18_1)) % 4294967296) + (rd t1110001 x18_1)) % 4294967296) + (((Go.bits .xor .u32 (Go.bits .xor .u32 t1110028 t1110029) t1110030) + (Go.bits .xor .u32 (Go.bits .xor .u32 (Go.bits .and .u32 x10_1 x11_1) (Go.bits .and .u32 x10_1 x12_1)) (Go.bits .and .u32 x11_1 x12_1))) % 4294967296)) % 4294967296) x10_1 x11_1 x12_1 ((x13_1 + ((((((((x17_1 + (Go.bits .xor .u32 (Go.bits .xor .u32 t1110023 t1110024) t1110025)) % 4294967296) + (Go.bits .xor .u32 (Go.bits .and .u32 x14_1 x15_1) (Go.bits .and .u32 (Go.bits .xor .u32 IntKind.u32.max x14_1) x16_1))) % 4294967296) + (rd l1 x18_1)) % 4294967296) + (rd t1110001 x18_1)) % 4294967296)) % 4294967296) x14_1 x15_1 x16_1 (wrap64 (x18_1 + 1))) = some r := H; have A24 := Aside0.mk A240; clear A240; have H' := Aside0.mk H; clear H
               try go_wp2_with (first | ((with_reducible refine gate_callee (f := 122) rfl ?_); refine goesL_ (some 55) rfl rfl Tryd.func122 (by kernel_rfl) rfl #[.int .u32 x14_1, .int .i64 6] rfl zq_1 ?_; (with_reducible refine (spec_l1Turn.calls x14_1 6 t1110023 _ A16.out).mono ?_); rintro e w' ⟨rfl, ⟨nd, rfl⟩⟩; refine ⟨_, rfl, ?_⟩) | ((with_reducible refine gate_callee (f := 122) rfl ?_); refine goesL_ (some 57) rfl rfl Tryd.func122 (by kernel_rfl) rfl #[.int .u32 x14_1, .int .i64 11] rfl zq_1 ?_; (with_reducible refine (spec_l1Turn.calls x14_1 11 t1110024 _ A17.out).mono ?_); rintro e w' ⟨rfl, ⟨nd, rfl⟩⟩; refine ⟨_, rfl, ?_⟩) | ((with_reducible refine gate_callee (f := 122) rfl ?_); refine goesL_ (some 60) rfl rfl Tryd.func122 (by kernel_rfl) rfl #[.int .u32 x14_1, .int .i64 25] rfl zq_1 ?_; (with_reducible refine (spec_l1Turn.calls x14_1 25 t1110025 _ A18.out).mono ?_); rintro e w' ⟨rfl, ⟨nd, rfl⟩⟩; refine ⟨_, rfl, ?_⟩))
               (try (rw [drewN_self wr]; generalize hq_ : World.drewN wr _ = wr; have n0_ : Aside0 (Kd.R (Kd.int .u32) 142 wr w.heap.size (fun _ => True) v1110002 t1110001) := ⟨by rw [← hq_]; exact (by (with_reducible repeat (first | apply Kd.R_alloc | apply Kd.R_drewN | apply Kd.R_drew)); exact HO_9.out)⟩; have n1_ : Aside0 (Below w.heap.size w wr) := ⟨by rw [← hq_]; exact zq_0⟩; clear HO_9 HB hq_; have HO_9 := n0_; have HB := n1_; clear n0_ n1_)); have n0_ := Aside0.mk (Kd.R_drew HO_9.out); have n1_ := Aside0.mk (below_drew1 HB.out); clear HO_9; clear HB; have HO_9 := n0_; have HB := n1_; clear n0_ n1_; have p1110026 : 0 ≤ (x18_1 : Int) := of_decide_eq_true zq_3; have q1110026 : x18_1 < (l1.length : Int) := of_decide_eq_true zq_3; obtain ⟨ad1110026, e1110026, hx1110026_0⟩ := Kd.at_int HR1.out x18_1 p1110026 q1110026; have hw1110026_0 := hx1110026_0
               cases e1110026
               replace hx1110026_0 := (HB.out.cell (World.block_lt_of_cell? w _ hx1110026_0)).trans hx1110026_0; replace p1110026 := eq_true p1110026; replace q1110026 := eq_true q1110026; obtain ⟨Ao26, co26, eo26⟩ := Kd.R_slice HO_9.out; (first | subst eo26 | (injection eo26 with f1_ f2_ f3_; have f4_ := f1_.symm; have f5_ := f3_.symm; clear f1_ f2_ f3_; subst f4_; subst f5_)); have p1110027 : 0 ≤ (x18_1 : Int) := of_decide_eq_true zq_3; have q1110027 : x18_1 < (t1110001.length : Int) := of_decide_eq_true zq_3; obtain ⟨ad1110027, e1110027, hx1110027_0⟩ := Kd.at_int (Kd.R_reads' HO_9.out).2.2 x18_1 p1110027 q1110027
               cases e1110027
               replace p1110027 := eq_true p1110027; replace q1110027 := eq_true q1110027; refine start_ (n := 23) (S := fun w' => w'.cell? (ad1110026.add (x18_1).toNat) = some (.int .u32 (rd l1 x18_1)) ∧ w'.cell? (ad1110027.add (x18_1).toNat) = some (.int .u32 (rd t1110001 x18_1))) (ds := []) #[false, false, false, false, false, false, false, false, false, false, false, false, false, false, false, false, false, false, false, false, false, false, false] (by kernel_rfl) rfl rfl ⟨((HB.out.cell (World.block_lt_of_cell? w _ hw1110026_0)).trans hw1110026_0), hx1110027_0⟩ (fun hHeld => ?_); refine with_tabW spec_l1Block.tab14 spec_l1Block.bits14 (fun HT_ HW_ => ?_); generalize wr.drew = w25 at HO_9 HB hx1110026_0 hx1110027_0 hHeld ⊢; refine pure_ (i := 0) (N := some 62) (v := ?_) (a' := ?_) #[true, false, false, false, false, false, false, false, false, false, false, false, false, false, false, false, false, false, false, false, false, false, false] rfl rfl (any_of HT_.out (by kernel_rfl)) (fun _ _ _ h => h) (Or.inl ⟨by rfl, ?_⟩) ?_ ?_; rotate_left
               ·intro w'; go_simp
                with_reducible rfl
               rotate_left
               ·simp only [Act.put, List.setIfInBounds_toArray, List.set_cons_zero, List.set_cons_succ, i64_w, i32_w]; rfl
               refine pure_ (i := 1) (N := some 63) (v := ?_) (a' := ?_) #[true, true, false, false, false, false, false, false, false, false, false, false, false, false, false, false, false, false, false, false, false, false, false] rfl rfl (any_of HT_.out (by kernel_rfl)) (fun _ _ _ h => h) (Or.inl ⟨by rfl, ?_⟩) ?_ ?_; rotate_left
               ·intro w'; go_simp
                with_reducible rfl
               rotate_left
               ·simp only [Act.put, List.setIfInBounds_toArray, List.set_cons_zero, List.set_cons_succ, i64_w, i32_w]; rfl
               refine pure_ (i := 2) (N := some 64) (v := ?_) (a' := ?_) #[true, true, true, false, false, false, false, false, false, false, false, false, false, false, false, false, false, false, false, false, false, false, false] rfl rfl (any_of HT_.out (by kernel_rfl)) (fun _ _ _ h => h) (Or.inl ⟨by rfl, ?_⟩) ?_ ?_; rotate_left
               ·intro w'; go_simp
                with_reducible rfl
               rotate_left
               ·simp only [Act.put, List.setIfInBounds_toArray, List.set_cons_zero, List.set_cons_succ, i64_w, i32_w]; rfl
               refine pure_ (i := 3) (N := some 65) (v := ?_) (a' := ?_) #[true, true, true, true, false, false, false, false, false, false, false, false, false, false, false, false, false, false, false, false, false, false, false] rfl rfl (any_of HT_.out (by kernel_rfl)) (fun _ _ _ h => h) (Or.inl ⟨by rfl, ?_⟩) ?_ ?_; rotate_left
               ·intro w'; go_simp
                with_reducible rfl
               rotate_left
               ·simp only [Act.put, List.setIfInBounds_toArray, List.set_cons_zero, List.set_cons_succ, i64_w, i32_w]; rfl
               refine pure_ (i := 4) (N := some 66) (v := ?_) (a' := ?_) #[true, true, true, true, true, false, false, false, false, false, false, false, false, false, false, false, false, false, false, false, false, false, false] rfl rfl (any_of HT_.out (by kernel_rfl)) (fun _ _ _ h => h) (Or.inl ⟨by rfl, ?_⟩) ?_ ?_; rotate_left
               ·intro w'; go_simp
                with_reducible rfl
               rotate_left
               ·simp only [Act.put, List.setIfInBounds_toArray, List.set_cons_zero, List.set_cons_succ, i64_w, i32_w]; rfl
               refine pure_ (i := 5) (N := some 67) (v := ?_) (a' := ?_) #[true, true, true, true, true, true, false, false, false, false, false, false, false, false, false, false, false, false, false, false, false, false, false] rfl rfl (any_of HT_.out (by kernel_rfl)) (fun _ _ _ h => h) (Or.inl ⟨by rfl, ?_⟩) ?_ ?_; rotate_left
               ·intro w'; go_simp
                with_reducible rfl
               rotate_left
               ·simp only [Act.put, List.setIfInBounds_toArray, List.set_cons_zero, List.set_cons_succ, i64_w, i32_w]; rfl
               refine pure_ (i := 6) (N := some 68) (v := ?_) (a' := ?_) #[true, true, true, true, true, true, true, false, false, false, false, false, false, false, false, false, false, false, false, false, false, false, false] rfl rfl (any_of HT_.out (by kernel_rfl)) (fun _ _ _ h => h) (Or.inl ⟨by rfl, ?_⟩) ?_ ?_; rotate_left
               ·intro w'; go_simp
                with_reducible rfl
               rotate_left
               ·simp only [Act.put, List.setIfInBounds_toArray, List.set_cons_zero, List.set_cons_succ, i64_w, i32_w]; rfl
               refine pure_ (i := 7) (N := some 69) (v := ?_) (a' := ?_) #[true, true, true, true, true, true, true, true, false, false, false, false, false, false, false, false, false, false, false, false, false, false, false] rfl rfl (any_of HT_.out (by kernel_rfl)) (fun _ _ _ h => h) (Or.inl ⟨by rfl, ?_⟩) ?_ ?_; rotate_left
               ·intro w'; go_simp
                with_reducible rfl
               rotate_left
               ·simp only [Act.put, List.setIfInBounds_toArray, List.set_cons_zero, List.set_cons_succ, i64_w, i32_w]; rfl
               refine pure_ (i := 8) (N := some 70) (v := ?_) (a' := ?_) #[true, true, true, true, true, true, true, true, true, false, false, false, false, false, false, false, false, false, false, false, false, false, false] rfl rfl (any_of HT_.out (by kernel_rfl)) (fun _ _ _ h => h) (Or.inl ⟨by rfl, ?_⟩) ?_ ?_; rotate_left
               ·intro w'; go_simp
                with_reducible rfl
               rotate_left
               ·simp only [Act.put, List.setIfInBounds_toArray, List.set_cons_zero, List.set_cons_succ, i64_w, i32_w]; rfl
               refine pure_ (i := 9) (N := some 71) (v := ?_) (a' := ?_) #[true, true, true, true, true, true, true, true, true, true, false, false, false, false, false, false, false, false, false, false, false, false, false] rfl rfl (any_of HT_.out (by kernel_rfl)) (fun _ _ _ h => h) (Or.inl ⟨by rfl, ?_⟩) ?_ ?_; rotate_left
               ·intro w'; go_simp
                with_reducible rfl
               rotate_left
               ·simp only [Act.put, List.setIfInBounds_toArray, List.set_cons_zero, List.set_cons_succ, i64_w, i32_w]; rfl
               refine pure_ (i := 10) (N := some 72) (v := ?_) (a' := ?_) #[true, true, true, true, true, true, true, true, true, true, true, false, false, false, false, false, false, false, false, false, false, false, false] rfl rfl (any_of HT_.out (by kernel_rfl)) (fun _ _ _ h => h) (Or.inl ⟨by rfl, ?_⟩) ?_ ?_; rotate_left
               ·intro w'; go_simp
                with_reducible rfl
               rotate_left
               ·simp only [Act.put, List.setIfInBounds_toArray, List.set_cons_zero, List.set_cons_succ, i64_w, i32_w]; rfl
               refine pure_ (i := 11) (N := some 73) (v := ?_) (a' := ?_) #[true, true, true, true, true, true, true, true, true, true, true, true, false, false, false, false, false, false, false, false, false, false, false] rfl rfl (any_of HT_.out (by kernel_rfl)) (fun _ _ _ h => h) (Or.inl ⟨by rfl, ?_⟩) ?_ ?_; rotate_left
               ·intro w'; go_simp
                with_reducible rfl
               rotate_left
               ·simp only [Act.put, List.setIfInBounds_toArray, List.set_cons_zero, List.set_cons_succ, i64_w, i32_w]; rfl
               refine pure_ (i := 12) (N := some 74) (v := ?_) (a' := ?_) #[true, true, true, true, true, true, true, true, true, true, true, true, true, false, false, false, false, false, false, false, false, false, false] rfl rfl (any_of HT_.out (by kernel_rfl)) (fun _ _ _ h => h) (Or.inl ⟨by rfl, ?_⟩) ?_ ?_; rotate_left
               ·intro w'; go_simp
                with_reducible rfl
               rotate_left
               ·simp only [Act.put, List.setIfInBounds_toArray, List.set_cons_zero, List.set_cons_succ, i64_w, i32_w]; rfl
               refine pure_ (i := 13) (N := some 75) (v := ?_) (a' := ?_) #[true, true, true, true, true, true, true, true, true, true, true, true, true, true, false, false, false, false, false, false, false, false, false] rfl rfl (any_of HT_.out (by kernel_rfl)) (fun _ _ _ h => h) (Or.inl ⟨by rfl, ?_⟩) ?_ ?_; rotate_left
               ·intro w'; go_simp
                with_reducible rfl
               rotate_left
               ·simp only [Act.put, List.setIfInBounds_toArray, List.set_cons_zero, List.set_cons_succ, i64_w, i32_w]; rfl
               refine pure_ (i := 14) (N := some 76) (v := ?_) (a' := ?_) #[true, true, true, true, true, true, true, true, true, true, true, true, true, true, true, false, false, false, false, false, false, false, false] rfl rfl (any_of HT_.out (by kernel_rfl)) (fun _ _ _ h => h) (Or.inl ⟨by rfl, ?_⟩) ?_ ?_; rotate_left
               ·intro w'; go_simp
                with_reducible rfl
               rotate_left
               ·simp only [Act.put, List.setIfInBounds_toArray, List.set_cons_zero, List.set_cons_succ, i64_w, i32_w]; rfl
               refine pure_ (i := 17) (N := some 79) (v := ?_) (a' := ?_) #[true, true, true, true, true, true, true, true, true, true, true, true, true, true, true, false, false, true, false, false, false, false, false] rfl rfl (any_of HT_.out (by kernel_rfl)) (fun _ _ _ h => h) (Or.inl ⟨by rfl, ?_⟩) ?_ ?_; rotate_left
               ·intro w'; go_simp
                with_reducible rfl
               rotate_left
               ·simp only [Act.put, List.setIfInBounds_toArray, List.set_cons_zero, List.set_cons_succ, i64_w, i32_w]; rfl
               refine pure_ (i := 18) (N := some 80) (v := ?_) (a' := ?_) #[true, true, true, true, true, true, true, true, true, true, true, true, true, true, true, false, false, true, true, false, false, false, false] rfl rfl (any_of HT_.out (by kernel_rfl)) (fun _ _ _ h => h) (Or.inl ⟨by rfl, ?_⟩) ?_ ?_; rotate_left
               ·intro w'; go_simp
                with_reducible rfl
               rotate_left
               ·simp only [Act.put, List.setIfInBounds_toArray, List.set_cons_zero, List.set_cons_succ, i64_w, i32_w]; rfl
               refine pure_ (i := 19) (N := some 81) (v := ?_) (a' := ?_) #[true, true, true, true, true, true, true, true, true, true, true, true, true, true, true, false, false, true, true, true, false, false, false] rfl rfl (any_of HT_.out (by kernel_rfl)) (fun _ _ _ h => h) (Or.inl ⟨by rfl, ?_⟩) ?_ ?_; rotate_left
               ·intro w'; go_simp
                with_reducible rfl
               rotate_left
               ·simp only [Act.put, List.setIfInBounds_toArray, List.set_cons_zero, List.set_cons_succ, i64_w, i32_w]; rfl
               refine take_ (i := 15) (N := some 77) (v := ?_) (a' := ?_) #[true, true, true, true, true, true, true, true, true, true, true, true, true, true, true, true, false, true, true, true, false, false, false] rfl rfl (take_ofW HT_.out HW_.out (by kernel_rfl)) (fun _ _ _ h => h) (Or.inl ⟨by rfl, ?_⟩) hHeld ?_ ?_; rotate_left
               ·rintro w' ⟨s0, s1⟩; go_simp
                with_reducible rfl
               rotate_left
               ·simp only [Act.put, List.setIfInBounds_toArray, List.set_cons_zero, List.set_cons_succ, i64_w, i32_w]; rfl
               refine pure_ (i := 16) (N := some 78) (v := ?_) (a' := ?_) #[true, true, true, true, true, true, true, true, true, true, true, true, true, true, true, true, true, true, true, true, false, false, false] rfl rfl (any_of HT_.out (by kernel_rfl)) (fun _ _ _ h => h) (Or.inl ⟨by rfl, ?_⟩) ?_ ?_; rotate_left
               ·intro w'; go_simp
                with_reducible rfl
               rotate_left
               ·simp only [Act.put, List.setIfInBounds_toArray, List.set_cons_zero, List.set_cons_succ, i64_w, i32_w]; rfl
               refine take_ (i := 20) (N := some 82) (v := ?_) (a' := ?_) #[true, true, true, true, true, true, true, true, true, true, true, true, true, true, true, true, true, true, true, true, true, false, false] rfl rfl (take_ofW HT_.out HW_.out (by kernel_rfl)) (fun _ _ _ h => h) (Or.inl ⟨by rfl, ?_⟩) hHeld ?_ ?_; rotate_left
               ·rintro w' ⟨s0, s1⟩; go_simp
                with_reducible rfl
               rotate_left
               ·simp only [Act.put, List.setIfInBounds_toArray, List.set_cons_zero, List.set_cons_succ, i64_w, i32_w]; rfl
               refine pure_ (i := 21) (N := some 83) (v := ?_) (a' := ?_) #[true, true, true, true, true, true, true, true, true, true, true, true, true, true, true, true, true, true, true, true, true, true, false] rfl rfl (any_of HT_.out (by kernel_rfl)) (fun _ _ _ h => h) (Or.inl ⟨by rfl, ?_⟩) ?_ ?_; rotate_left
               ·intro w'; go_simp
                with_reducible rfl
               rotate_left
               ·simp only [Act.put, List.setIfInBounds_toArray, List.set_cons_zero, List.set_cons_succ, i64_w, i32_w]; rfl
               refine pure_ (i := 22) (N := some 20) (v := ?_) (a' := ?_) #[true, true, true, true, true, true, true, true, true, true, true, true, true, true, true, true, true, true, true, true, true, true, true] rfl rfl (any_of HT_.out (by kernel_rfl)) (fun _ _ _ h => h) (Or.inl ⟨by rfl, ?_⟩) ?_ ?_; rotate_left
               ·intro w'; go_simp
                with_reducible rfl
               rotate_left
               ·simp only [Act.put, List.setIfInBounds_toArray, List.set_cons_zero, List.set_cons_succ, i64_w, i32_w]; rfl
               refine done_ (done_of HT_.out (by kernel_rfl)) ?_
               try go_wp2_with (first | ((with_reducible refine gate_callee (f := 122) rfl ?_); refine goesL_ (some 85) rfl rfl Tryd.func122 (by kernel_rfl) rfl #[.int .u32 x10_1, .int .i64 2] rfl zq_1 ?_; (with_reducible refine (spec_l1Turn.calls x10_1 2 t1110028 _ A22.out).mono ?_); rintro e w' ⟨rfl, ⟨nd, rfl⟩⟩; refine ⟨_, rfl, ?_⟩) | ((with_reducible refine gate_callee (f := 122) rfl ?_); refine goesL_ (some 87) rfl rfl Tryd.func122 (by kernel_rfl) rfl #[.int .u32 x10_1, .int .i64 13] rfl zq_1 ?_; (with_reducible refine (spec_l1Turn.calls x10_1 13 t1110029 _ A23.out).mono ?_); rintro e w' ⟨rfl, ⟨nd, rfl⟩⟩; refine ⟨_, rfl, ?_⟩) | ((with_reducible refine gate_callee (f := 122) rfl ?_); refine goesL_ (some 90) rfl rfl Tryd.func122 (by kernel_rfl) rfl #[.int .u32 x10_1, .int .i64 22] rfl zq_1 ?_; (with_reducible refine (spec_l1Turn.calls x10_1 22 t1110030 _ A24.out).mono ?_); rintro e w' ⟨rfl, ⟨nd, rfl⟩⟩; refine ⟨_, rfl, ?_⟩))
               go_roundg k1
               case measure => have := HK1.out; omega
               case rel => exact ⟨((((((((((x17_1 + (Go.bits .xor .u32 (Go.bits .xor .u32 t1110023 t1110024) t1110025)) % 4294967296) + (Go.bits .xor .u32 (Go.bits .and .u32 x14_1 x15_1) (Go.bits .and .u32 (Go.bits .xor .u32 IntKind.u32.max x14_1) x16_1))) % 4294967296) + (rd l1 x18_1)) % 4294967296) + (rd t1110001 x18_1)) % 4294967296) + (((Go.bits .xor .u32 (Go.bits .xor .u32 t1110028 t1110029) t1110030) + (Go.bits .xor .u32 (Go.bits .xor .u32 (Go.bits .and .u32 x10_1 x11_1) (Go.bits .and .u32 x10_1 x12_1)) (Go.bits .and .u32 x11_1 x12_1))) % 4294967296)) % 4294967296), (x10_1), (x11_1), (x12_1), ((x13_1 + ((((((((x17_1 + (Go.bits .xor .u32 (Go.bits .xor .u32 t1110023 t1110024) t1110025)) % 4294967296) + (Go.bits .xor .u32 (Go.bits .and .u32 x14_1 x15_1) (Go.bits .and .u32 (Go.bits .xor .u32 IntKind.u32.max x14_1) x16_1))) % 4294967296) + (rd l1 x18_1)) % 4294967296) + (rd t1110001 x18_1)) % 4294967296)) % 4294967296), (x14_1), (x15_1), (x16_1), (wrap64 (x18_1 + 1)), zq_11, zq_11, zq_11, zq_11, zq_11, zq_11, zq_11, zq_11, zq_11, H', ⟨by have := HK1.out; omega⟩, ⟨by (with_reducible repeat (first | apply Kd.R_alloc | apply Kd.R_drewN | apply Kd.R_drew)); exact HO_9.out⟩, ⟨by repeat (first | (with_reducible first | exact HB.out | apply below_alloc | apply pw_below_drewN | apply below_drew1) | exact HB.out)⟩⟩
              ·rw [if_neg c21] at H; exact absurd H (by simp)
             ·rw [if_neg c20] at H; exact absurd H (by simp)
            ·rw [if_neg c19] at H; exact absurd H (by simp)
           ·rw [if_neg c15] at H; have c15b0 : decide (x18_1 < 64) = false := decide_eq_false c15; clear c15
            by_cases c27 : 0 < (l0.length : Int)
            ·rw [if_pos c27] at H; have c27b0 : decide (0 < (l0.length : Int)) = true := decide_eq_true c27; have c27b1 : decide (0 < l0.length) = true := decide_eq_true (by omega); clear c27
             by_cases c28 : 1 < (l0.length : Int)
             ·rw [if_pos c28] at H; have c28b0 : decide (1 < (l0.length : Int)) = true := decide_eq_true c28; have c28b1 : decide (1 < l0.length) = true := decide_eq_true (by omega); clear c28
              by_cases c29 : 2 < (l0.length : Int)
              ·rw [if_pos c29] at H; have c29b0 : decide (2 < (l0.length : Int)) = true := decide_eq_true c29; have c29b1 : decide (2 < l0.length) = true := decide_eq_true (by omega); clear c29
               by_cases c30 : 3 < (l0.length : Int)
               ·rw [if_pos c30] at H; have c30b0 : decide (3 < (l0.length : Int)) = true := decide_eq_true c30; have c30b1 : decide (3 < l0.length) = true := decide_eq_true (by omega); clear c30
                by_cases c31 : 4 < (l0.length : Int)
                ·rw [if_pos c31] at H; have c31b0 : decide (4 < (l0.length : Int)) = true := decide_eq_true c31; have c31b1 : decide (4 < l0.length) = true := decide_eq_true (by omega); clear c31
                 by_cases c32 : 5 < (l0.length : Int)
                 ·rw [if_pos c32] at H; have c32b0 : decide (5 < (l0.length : Int)) = true := decide_eq_true c32; have c32b1 : decide (5 < l0.length) = true := decide_eq_true (by omega); clear c32
                  by_cases c33 : 6 < (l0.length : Int)
                  ·rw [if_pos c33] at H; have c33b0 : decide (6 < (l0.length : Int)) = true := decide_eq_true c33; have c33b1 : decide (6 < l0.length) = true := decide_eq_true (by omega); clear c33
                   by_cases c34 : 7 < (l0.length : Int)
                   ·rw [if_pos c34] at H; have c34b0 : decide (7 < (l0.length : Int)) = true := decide_eq_true c34; have c34b1 : decide (7 < l0.length) = true := decide_eq_true (by omega); clear c34; obtain ⟨y1110020, hy1110020⟩ : ∃ y_ : List Int, y_ = (([((rd l0 0) + x10_1) % 4294967296, ((rd l0 1) + x11_1) % 4294967296, ((rd l0 2) + x12_1) % 4294967296, ((rd l0 3) + x13_1) % 4294967296, ((rd l0 4) + x14_1) % 4294967296, ((rd l0 5) + x15_1) % 4294967296, ((rd l0 6) + x16_1) % 4294967296, ((rd l0 7) + x17_1) % 4294967296] : List Int)) := ⟨_, rfl⟩
                    replace H : (some y1110020) = some r := by first | (rw [hy1110020]; with_reducible exact H) | (have H2_ := (Option.bind_some _ _).symm.trans H; rw [hy1110020]; with_reducible exact H2_) | (have H2_ := (Option.bind_some _ _).symm.trans H; with_reducible exact H2_) | with_reducible exact H | (rw [hy1110020]; exact H) | exact H
                    have Ny1110020 := Aside0.mk hy1110020; clear hy1110020; obtain rfl := Option.some.inj H
                    try go_wp2
                    have n0_ := Aside0.mk (Kd.R_drew HO_9.out); have n1_ := Aside0.mk (below_drew1 HB.out); clear HO_9; clear HB; have HO_9 := n0_; have HB := n1_; clear n0_ n1_; have p1110012 : 0 ≤ (0 : Int) := (by omega)
                    have q1110012 : 0 < (l0.length : Int) := of_decide_eq_true zq_3; obtain ⟨ad1110012, e1110012, hx1110012_0⟩ := Kd.at_int HR0.out 0 p1110012 q1110012; have hw1110012_0 := hx1110012_0; (try rw [show ((0 : Int)).toNat = 0 from rfl] at hw1110012_0); (try rw [show 0 * 1 = 0 from rfl] at hw1110012_0); (try rw [Addr.add_zero'] at hw1110012_0); obtain rfl : ad1110004 = ad1110012 := (by injection e1110012)
                    have qi1110012 : (0 < l0.length) = True := eq_true (by omega); (try rw [show ((0 : Int)).toNat = 0 from rfl] at hx1110012_0); (try rw [Addr.add_zero'] at hx1110012_0); replace hx1110012_0 := (HB.out.cell (World.block_lt_of_cell? w _ hx1110012_0)).trans hx1110012_0; replace p1110012 := eq_true p1110012; replace q1110012 := eq_true q1110012; have p1110013 : 0 ≤ (1 : Int) := (by omega)
                    have q1110013 : 1 < (l0.length : Int) := of_decide_eq_true zq_3; obtain ⟨ad1110013, e1110013, hx1110013_0⟩ := Kd.at_int HR0.out 1 p1110013 q1110013; have hw1110013_0 := hx1110013_0; (try rw [show ((1 : Int)).toNat = 1 from rfl] at hw1110013_0); (try rw [show 1 * 1 = 1 from rfl] at hw1110013_0); (try simp only [Nat.reduceMul, Nat.reduceEqDiff, Go.Addr.add, ↓reduceIte] at hw1110013_0); obtain rfl : ad1110004 = ad1110013 := (by injection e1110013)
                    (try simp only [show (1 : Int).toNat = 1 from rfl, Nat.reduceMul, Nat.reduceEqDiff, Go.Addr.add, ↓reduceIte] at hx1110013_0); have qi1110013 : (1 < l0.length) = True := eq_true (by omega); (try rw [show ((1 : Int)).toNat = 1 from rfl] at hx1110013_0); replace hx1110013_0 := (HB.out.cell (World.block_lt_of_cell? w _ hx1110013_0)).trans hx1110013_0; replace p1110013 := eq_true p1110013; replace q1110013 := eq_true q1110013; have p1110014 : 0 ≤ (2 : Int) := (by omega)
                    have q1110014 : 2 < (l0.length : Int) := of_decide_eq_true zq_3; obtain ⟨ad1110014, e1110014, hx1110014_0⟩ := Kd.at_int HR0.out 2 p1110014 q1110014; have hw1110014_0 := hx1110014_0; (try rw [show ((2 : Int)).toNat = 2 from rfl] at hw1110014_0); (try rw [show 2 * 1 = 2 from rfl] at hw1110014_0); (try simp only [Nat.reduceMul, Nat.reduceEqDiff, Go.Addr.add, ↓reduceIte] at hw1110014_0); obtain rfl : ad1110004 = ad1110014 := (by injection e1110014)
                    (try simp only [show (2 : Int).toNat = 2 from rfl, Nat.reduceMul, Nat.reduceEqDiff, Go.Addr.add, ↓reduceIte] at hx1110014_0); have qi1110014 : (2 < l0.length) = True := eq_true (by omega); (try rw [show ((2 : Int)).toNat = 2 from rfl] at hx1110014_0); replace hx1110014_0 := (HB.out.cell (World.block_lt_of_cell? w _ hx1110014_0)).trans hx1110014_0; replace p1110014 := eq_true p1110014; replace q1110014 := eq_true q1110014; have p1110015 : 0 ≤ (3 : Int) := (by omega)
                    have q1110015 : 3 < (l0.length : Int) := of_decide_eq_true zq_3; obtain ⟨ad1110015, e1110015, hx1110015_0⟩ := Kd.at_int HR0.out 3 p1110015 q1110015; have hw1110015_0 := hx1110015_0; (try rw [show ((3 : Int)).toNat = 3 from rfl] at hw1110015_0); (try rw [show 3 * 1 = 3 from rfl] at hw1110015_0); (try simp only [Nat.reduceMul, Nat.reduceEqDiff, Go.Addr.add, ↓reduceIte] at hw1110015_0); obtain rfl : ad1110004 = ad1110015 := (by injection e1110015)
                    (try simp only [show (3 : Int).toNat = 3 from rfl, Nat.reduceMul, Nat.reduceEqDiff, Go.Addr.add, ↓reduceIte] at hx1110015_0); have qi1110015 : (3 < l0.length) = True := eq_true (by omega); (try rw [show ((3 : Int)).toNat = 3 from rfl] at hx1110015_0); replace hx1110015_0 := (HB.out.cell (World.block_lt_of_cell? w _ hx1110015_0)).trans hx1110015_0; replace p1110015 := eq_true p1110015; replace q1110015 := eq_true q1110015; have p1110016 : 0 ≤ (4 : Int) := (by omega)
                    have q1110016 : 4 < (l0.length : Int) := of_decide_eq_true zq_3; obtain ⟨ad1110016, e1110016, hx1110016_0⟩ := Kd.at_int HR0.out 4 p1110016 q1110016; have hw1110016_0 := hx1110016_0; (try rw [show ((4 : Int)).toNat = 4 from rfl] at hw1110016_0); (try rw [show 4 * 1 = 4 from rfl] at hw1110016_0); (try simp only [Nat.reduceMul, Nat.reduceEqDiff, Go.Addr.add, ↓reduceIte] at hw1110016_0); obtain rfl : ad1110004 = ad1110016 := (by injection e1110016)
                    (try simp only [show (4 : Int).toNat = 4 from rfl, Nat.reduceMul, Nat.reduceEqDiff, Go.Addr.add, ↓reduceIte] at hx1110016_0); have qi1110016 : (4 < l0.length) = True := eq_true (by omega); (try rw [show ((4 : Int)).toNat = 4 from rfl] at hx1110016_0); replace hx1110016_0 := (HB.out.cell (World.block_lt_of_cell? w _ hx1110016_0)).trans hx1110016_0; replace p1110016 := eq_true p1110016; replace q1110016 := eq_true q1110016; have p1110017 : 0 ≤ (5 : Int) := (by omega)
                    have q1110017 : 5 < (l0.length : Int) := of_decide_eq_true zq_3; obtain ⟨ad1110017, e1110017, hx1110017_0⟩ := Kd.at_int HR0.out 5 p1110017 q1110017; have hw1110017_0 := hx1110017_0; (try rw [show ((5 : Int)).toNat = 5 from rfl] at hw1110017_0); (try rw [show 5 * 1 = 5 from rfl] at hw1110017_0); (try simp only [Nat.reduceMul, Nat.reduceEqDiff, Go.Addr.add, ↓reduceIte] at hw1110017_0); obtain rfl : ad1110004 = ad1110017 := (by injection e1110017)
                    (try simp only [show (5 : Int).toNat = 5 from rfl, Nat.reduceMul, Nat.reduceEqDiff, Go.Addr.add, ↓reduceIte] at hx1110017_0); have qi1110017 : (5 < l0.length) = True := eq_true (by omega); (try rw [show ((5 : Int)).toNat = 5 from rfl] at hx1110017_0); replace hx1110017_0 := (HB.out.cell (World.block_lt_of_cell? w _ hx1110017_0)).trans hx1110017_0; replace p1110017 := eq_true p1110017; replace q1110017 := eq_true q1110017; have p1110018 : 0 ≤ (6 : Int) := (by omega)
                    have q1110018 : 6 < (l0.length : Int) := of_decide_eq_true zq_3; obtain ⟨ad1110018, e1110018, hx1110018_0⟩ := Kd.at_int HR0.out 6 p1110018 q1110018; have hw1110018_0 := hx1110018_0; (try rw [show ((6 : Int)).toNat = 6 from rfl] at hw1110018_0); (try rw [show 6 * 1 = 6 from rfl] at hw1110018_0); (try simp only [Nat.reduceMul, Nat.reduceEqDiff, Go.Addr.add, ↓reduceIte] at hw1110018_0); obtain rfl : ad1110004 = ad1110018 := (by injection e1110018)
                    (try simp only [show (6 : Int).toNat = 6 from rfl, Nat.reduceMul, Nat.reduceEqDiff, Go.Addr.add, ↓reduceIte] at hx1110018_0); have qi1110018 : (6 < l0.length) = True := eq_true (by omega); (try rw [show ((6 : Int)).toNat = 6 from rfl] at hx1110018_0); replace hx1110018_0 := (HB.out.cell (World.block_lt_of_cell? w _ hx1110018_0)).trans hx1110018_0; replace p1110018 := eq_true p1110018; replace q1110018 := eq_true q1110018; have p1110019 : 0 ≤ (7 : Int) := (by omega)
                    have q1110019 : 7 < (l0.length : Int) := of_decide_eq_true zq_3; obtain ⟨ad1110019, e1110019, hx1110019_0⟩ := Kd.at_int HR0.out 7 p1110019 q1110019; have hw1110019_0 := hx1110019_0; (try rw [show ((7 : Int)).toNat = 7 from rfl] at hw1110019_0); (try rw [show 7 * 1 = 7 from rfl] at hw1110019_0); (try simp only [Nat.reduceMul, Nat.reduceEqDiff, Go.Addr.add, ↓reduceIte] at hw1110019_0); obtain rfl : ad1110004 = ad1110019 := (by injection e1110019)
                    (try simp only [show (7 : Int).toNat = 7 from rfl, Nat.reduceMul, Nat.reduceEqDiff, Go.Addr.add, ↓reduceIte] at hx1110019_0); have qi1110019 : (7 < l0.length) = True := eq_true (by omega); (try rw [show ((7 : Int)).toNat = 7 from rfl] at hx1110019_0); replace hx1110019_0 := (HB.out.cell (World.block_lt_of_cell? w _ hx1110019_0)).trans hx1110019_0; replace p1110019 := eq_true p1110019; replace q1110019 := eq_true q1110019; refine start_ (n := 42) (S := fun w' => w'.cell? ad1110004 = some (.int .u32 (rd l0 0)) ∧ w'.cell? ⟨ad1110004.block, ad1110004.off + 1, none⟩ = some (.int .u32 (rd l0 1)) ∧ w'.cell? ⟨ad1110004.block, ad1110004.off + 2, none⟩ = some (.int .u32 (rd l0 2)) ∧ w'.cell? ⟨ad1110004.block, ad1110004.off + 3, none⟩ = some (.int .u32 (rd l0 3)) ∧ w'.cell? ⟨ad1110004.block, ad1110004.off + 4, none⟩ = some (.int .u32 (rd l0 4)) ∧ w'.cell? ⟨ad1110004.block, ad1110004.off + 5, none⟩ = some (.int .u32 (rd l0 5)) ∧ w'.cell? ⟨ad1110004.block, ad1110004.off + 6, none⟩ = some (.int .u32 (rd l0 6)) ∧ w'.cell? ⟨ad1110004.block, ad1110004.off + 7, none⟩ = some (.int .u32 (rd l0 7))) (ds := []) #[false, false, false, false, false, false, false, false, false, false, false, false, false, false, false, false, false, false, false, false, false, false, false, false, false, false, false, false, false, false, false, false, false, false, false, false, false, false, false, false, false, false] (by kernel_rfl) rfl rfl ⟨((HB.out.cell (World.block_lt_of_cell? w _ hw1110012_0)).trans hw1110012_0), ((HB.out.cell (World.block_lt_of_cell? w _ hw1110013_0)).trans hw1110013_0), ((HB.out.cell (World.block_lt_of_cell? w _ hw1110014_0)).trans hw1110014_0), ((HB.out.cell (World.block_lt_of_cell? w _ hw1110015_0)).trans hw1110015_0), ((HB.out.cell (World.block_lt_of_cell? w _ hw1110016_0)).trans hw1110016_0), ((HB.out.cell (World.block_lt_of_cell? w _ hw1110017_0)).trans hw1110017_0), ((HB.out.cell (World.block_lt_of_cell? w _ hw1110018_0)).trans hw1110018_0), ((HB.out.cell (World.block_lt_of_cell? w _ hw1110019_0)).trans hw1110019_0)⟩ (fun hHeld => ?_); refine with_tabW spec_l1Block.tab25 spec_l1Block.bits25 (fun HT_ HW_ => ?_); generalize wr.drew = w35 at HO_9 HB hx1110012_0 hx1110013_0 hx1110014_0 hx1110015_0 hx1110016_0 hx1110017_0 hx1110018_0 hx1110019_0 hHeld ⊢
                    refine pure_ (i := 0) (N := some 117) (v := ?_) (a' := ?_) #[true, false, false, false, false, false, false, false, false, false, false, false, false, false, false, false, false, false, false, false, false, false, false, false, false, false, false, false, false, false, false, false, false, false, false, false, false, false, false, false, false, false] rfl rfl (any_of HT_.out (by kernel_rfl)) (fun _ _ _ h => h) (Or.inl ⟨by rfl, ?_⟩) ?_ ?_; rotate_left
                    ·intro w'; go_simp
                     with_reducible rfl
                    rotate_left
                    ·simp only [Act.put, List.setIfInBounds_toArray, List.set_cons_zero, List.set_cons_succ, i64_w, i32_w]; rfl
                    refine pure_ (i := 1) (N := some 118) (v := ?_) (a' := ?_) #[true, true, false, false, false, false, false, false, false, false, false, false, false, false, false, false, false, false, false, false, false, false, false, false, false, false, false, false, false, false, false, false, false, false, false, false, false, false, false, false, false, false] rfl rfl (any_of HT_.out (by kernel_rfl)) (fun _ _ _ h => h) (Or.inl ⟨by rfl, ?_⟩) ?_ ?_; rotate_left
                    ·intro w'; go_simp
                     with_reducible rfl
                    rotate_left
                    ·simp only [Act.put, List.setIfInBounds_toArray, List.set_cons_zero, List.set_cons_succ, i64_w, i32_w]; rfl
                    refine pure_ (i := 3) (N := some 120) (v := ?_) (a' := ?_) #[true, true, false, true, false, false, false, false, false, false, false, false, false, false, false, false, false, false, false, false, false, false, false, false, false, false, false, false, false, false, false, false, false, false, false, false, false, false, false, false, false, false] rfl rfl (any_of HT_.out (by kernel_rfl)) (fun _ _ _ h => h) (Or.inl ⟨by rfl, ?_⟩) ?_ ?_; rotate_left
                    ·intro w'; go_simp
                     with_reducible rfl
                    rotate_left
                    ·simp only [Act.put, List.setIfInBounds_toArray, List.set_cons_zero, List.set_cons_succ, i64_w, i32_w]; rfl
                    refine pure_ (i := 5) (N := some 122) (v := ?_) (a' := ?_) #[true, true, false, true, false, true, false, false, false, false, false, false, false, false, false, false, false, false, false, false, false, false, false, false, false, false, false, false, false, false, false, false, false, false, false, false, false, false, false, false, false, false] rfl rfl (any_of HT_.out (by kernel_rfl)) (fun _ _ _ h => h) (Or.inl ⟨by rfl, ?_⟩) ?_ ?_; rotate_left
                    ·intro w'; go_simp
                     with_reducible rfl
                    rotate_left
                    ·simp only [Act.put, List.setIfInBounds_toArray, List.set_cons_zero, List.set_cons_succ, i64_w, i32_w]; rfl
                    refine pure_ (i := 6) (N := some 123) (v := ?_) (a' := ?_) #[true, true, false, true, false, true, true, false, false, false, false, false, false, false, false, false, false, false, false, false, false, false, false, false, false, false, false, false, false, false, false, false, false, false, false, false, false, false, false, false, false, false] rfl rfl (any_of HT_.out (by kernel_rfl)) (fun _ _ _ h => h) (Or.inl ⟨by rfl, ?_⟩) ?_ ?_; rotate_left
                    ·intro w'; go_simp
                     with_reducible rfl
                    rotate_left
                    ·simp only [Act.put, List.setIfInBounds_toArray, List.set_cons_zero, List.set_cons_succ, i64_w, i32_w]; rfl
                    refine pure_ (i := 8) (N := some 125) (v := ?_) (a' := ?_) #[true, true, false, true, false, true, true, false, true, false, false, false, false, false, false, false, false, false, false, false, false, false, false, false, false, false, false, false, false, false, false, false, false, false, false, false, false, false, false, false, false, false] rfl rfl (any_of HT_.out (by kernel_rfl)) (fun _ _ _ h => h) (Or.inl ⟨by rfl, ?_⟩) ?_ ?_; rotate_left
                    ·intro w'; go_simp
                     with_reducible rfl
                    rotate_left
                    ·simp only [Act.put, List.setIfInBounds_toArray, List.set_cons_zero, List.set_cons_succ, i64_w, i32_w]; rfl
                    refine pure_ (i := 10) (N := some 127) (v := ?_) (a' := ?_) #[true, true, false, true, false, true, true, false, true, false, true, false, false, false, false, false, false, false, false, false, false, false, false, false, false, false, false, false, false, false, false, false, false, false, false, false, false, false, false, false, false, false] rfl rfl (any_of HT_.out (by kernel_rfl)) (fun _ _ _ h => h) (Or.inl ⟨by rfl, ?_⟩) ?_ ?_; rotate_left
                    ·intro w'; go_simp
                     with_reducible rfl
                    rotate_left
                    ·simp only [Act.put, List.setIfInBounds_toArray, List.set_cons_zero, List.set_cons_succ, i64_w, i32_w]; rfl
                    refine pure_ (i := 11) (N := some 128) (v := ?_) (a' := ?_) #[true, true, false, true, false, true, true, false, true, false, true, true, false, false, false, false, false, false, false, false, false, false, false, false, false, false, false, false, false, false, false, false, false, false, false, false, false, false, false, false, false, false] rfl rfl (any_of HT_.out (by kernel_rfl)) (fun _ _ _ h => h) (Or.inl ⟨by rfl, ?_⟩) ?_ ?_; rotate_left
                    ·intro w'; go_simp
                     with_reducible rfl
                    rotate_left
                    ·simp only [Act.put, List.setIfInBounds_toArray, List.set_cons_zero, List.set_cons_succ, i64_w, i32_w]; rfl
                    refine pure_ (i := 13) (N := some 130) (v := ?_) (a' := ?_) #[true, true, false, true, false, true, true, false, true, false, true, true, false, true, false, false, false, false, false, false, false, false, false, false, false, false, false, false, false, false, false, false, false, false, false, false, false, false, false, false, false, false] rfl rfl (any_of HT_.out (by kernel_rfl)) (fun _ _ _ h => h) (Or.inl ⟨by rfl, ?_⟩) ?_ ?_; rotate_left
                    ·intro w'; go_simp
                     with_reducible rfl
                    rotate_left
                    ·simp only [Act.put, List.setIfInBounds_toArray, List.set_cons_zero, List.set_cons_succ, i64_w, i32_w]; rfl
                    refine pure_ (i := 15) (N := some 132) (v := ?_) (a' := ?_) #[true, true, false, true, false, true, true, false, true, false, true, true, false, true, false, true, false, false, false, false, false, false, false, false, false, false, false, false, false, false, false, false, false, false, false, false, false, false, false, false, false, false] rfl rfl (any_of HT_.out (by kernel_rfl)) (fun _ _ _ h => h) (Or.inl ⟨by rfl, ?_⟩) ?_ ?_; rotate_left
                    ·intro w'; go_simp
                     with_reducible rfl
                    rotate_left
                    ·simp only [Act.put, List.setIfInBounds_toArray, List.set_cons_zero, List.set_cons_succ, i64_w, i32_w]; rfl
                    refine pure_ (i := 16) (N := some 133) (v := ?_) (a' := ?_) #[true, true, false, true, false, true, true, false, true, false, true, true, false, true, false, true, true, false, false, false, false, false, false, false, false, false, false, false, false, false, false, false, false, false, false, false, false, false, false, false, false, false] rfl rfl (any_of HT_.out (by kernel_rfl)) (fun _ _ _ h => h) (Or.inl ⟨by rfl, ?_⟩) ?_ ?_; rotate_left
                    ·intro w'; go_simp
                     with_reducible rfl
                    rotate_left
                    ·simp only [Act.put, List.setIfInBounds_toArray, List.set_cons_zero, List.set_cons_succ, i64_w, i32_w]; rfl
                    refine pure_ (i := 18) (N := some 135) (v := ?_) (a' := ?_) #[true, true, false, true, false, true, true, false, true, false, true, true, false, true, false, true, true, false, true, false, false, false, false, false, false, false, false, false, false, false, false, false, false, false, false, false, false, false, false, false, false, false] rfl rfl (any_of HT_.out (by kernel_rfl)) (fun _ _ _ h => h) (Or.inl ⟨by rfl, ?_⟩) ?_ ?_; rotate_left
                    ·intro w'; go_simp
                     with_reducible rfl
                    rotate_left
                    ·simp only [Act.put, List.setIfInBounds_toArray, List.set_cons_zero, List.set_cons_succ, i64_w, i32_w]; rfl
                    refine pure_ (i := 20) (N := some 137) (v := ?_) (a' := ?_) #[true, true, false, true, false, true, true, false, true, false, true, true, false, true, false, true, true, false, true, false, true, false, false, false, false, false, false, false, false, false, false, false, false, false, false, false, false, false, false, false, false, false] rfl rfl (any_of HT_.out (by kernel_rfl)) (fun _ _ _ h => h) (Or.inl ⟨by rfl, ?_⟩) ?_ ?_; rotate_left
                    ·intro w'; go_simp
                     with_reducible rfl
                    rotate_left
                    ·simp only [Act.put, List.setIfInBounds_toArray, List.set_cons_zero, List.set_cons_succ, i64_w, i32_w]; rfl
                    refine pure_ (i := 21) (N := some 138) (v := ?_) (a' := ?_) #[true, true, false, true, false, true, true, false, true, false, true, true, false, true, false, true, true, false, true, false, true, true, false, false, false, false, false, false, false, false, false, false, false, false, false, false, false, false, false, false, false, false] rfl rfl (any_of HT_.out (by kernel_rfl)) (fun _ _ _ h => h) (Or.inl ⟨by rfl, ?_⟩) ?_ ?_; rotate_left
                    ·intro w'; go_simp
                     with_reducible rfl
                    rotate_left
                    ·simp only [Act.put, List.setIfInBounds_toArray, List.set_cons_zero, List.set_cons_succ, i64_w, i32_w]; rfl
                    refine pure_ (i := 23) (N := some 140) (v := ?_) (a' := ?_) #[true, true, false, true, false, true, true, false, true, false, true, true, false, true, false, true, true, false, true, false, true, true, false, true, false, false, false, false, false, false, false, false, false, false, false, false, false, false, false, false, false, false] rfl rfl (any_of HT_.out (by kernel_rfl)) (fun _ _ _ h => h) (Or.inl ⟨by rfl, ?_⟩) ?_ ?_; rotate_left
                    ·intro w'; go_simp
                     with_reducible rfl
                    rotate_left
                    ·simp only [Act.put, List.setIfInBounds_toArray, List.set_cons_zero, List.set_cons_succ, i64_w, i32_w]; rfl
                    refine pure_ (i := 25) (N := some 142) (v := ?_) (a' := ?_) #[true, true, false, true, false, true, true, false, true, false, true, true, false, true, false, true, true, false, true, false, true, true, false, true, false, true, false, false, false, false, false, false, false, false, false, false, false, false, false, false, false, false] rfl rfl (any_of HT_.out (by kernel_rfl)) (fun _ _ _ h => h) (Or.inl ⟨by rfl, ?_⟩) ?_ ?_; rotate_left
                    ·intro w'; go_simp
                     with_reducible rfl
                    rotate_left
                    ·simp only [Act.put, List.setIfInBounds_toArray, List.set_cons_zero, List.set_cons_succ, i64_w, i32_w]; rfl
                    refine pure_ (i := 26) (N := some 143) (v := ?_) (a' := ?_) #[true, true, false, true, false, true, true, false, true, false, true, true, false, true, false, true, true, false, true, false, true, true, false, true, false, true, true, false, false, false, false, false, false, false, false, false, false, false, false, false, false, false] rfl rfl (any_of HT_.out (by kernel_rfl)) (fun _ _ _ h => h) (Or.inl ⟨by rfl, ?_⟩) ?_ ?_; rotate_left
                    ·intro w'; go_simp
                     with_reducible rfl
                    rotate_left
                    ·simp only [Act.put, List.setIfInBounds_toArray, List.set_cons_zero, List.set_cons_succ, i64_w, i32_w]; rfl
                    refine pure_ (i := 28) (N := some 145) (v := ?_) (a' := ?_) #[true, true, false, true, false, true, true, false, true, false, true, true, false, true, false, true, true, false, true, false, true, true, false, true, false, true, true, false, true, false, false, false, false, false, false, false, false, false, false, false, false, false] rfl rfl (any_of HT_.out (by kernel_rfl)) (fun _ _ _ h => h) (Or.inl ⟨by rfl, ?_⟩) ?_ ?_; rotate_left
                    ·intro w'; go_simp
                     with_reducible rfl
                    rotate_left
                    ·simp only [Act.put, List.setIfInBounds_toArray, List.set_cons_zero, List.set_cons_succ, i64_w, i32_w]; rfl
                    refine pure_ (i := 30) (N := some 147) (v := ?_) (a' := ?_) #[true, true, false, true, false, true, true, false, true, false, true, true, false, true, false, true, true, false, true, false, true, true, false, true, false, true, true, false, true, false, true, false, false, false, false, false, false, false, false, false, false, false] rfl rfl (any_of HT_.out (by kernel_rfl)) (fun _ _ _ h => h) (Or.inl ⟨by rfl, ?_⟩) ?_ ?_; rotate_left
                    ·intro w'; go_simp
                     with_reducible rfl
                    rotate_left
                    ·simp only [Act.put, List.setIfInBounds_toArray, List.set_cons_zero, List.set_cons_succ, i64_w, i32_w]; rfl
                    refine pure_ (i := 31) (N := some 148) (v := ?_) (a' := ?_) #[true, true, false, true, false, true, true, false, true, false, true, true, false, true, false, true, true, false, true, false, true, true, false, true, false, true, true, false, true, false, true, true, false, false, false, false, false, false, false, false, false, false] rfl rfl (any_of HT_.out (by kernel_rfl)) (fun _ _ _ h => h) (Or.inl ⟨by rfl, ?_⟩) ?_ ?_; rotate_left
                    ·intro w'; go_simp
                     with_reducible rfl
                    rotate_left
                    ·simp only [Act.put, List.setIfInBounds_toArray, List.set_cons_zero, List.set_cons_succ, i64_w, i32_w]; rfl
                    refine pure_ (i := 33) (N := some 150) (v := ?_) (a' := ?_) #[true, true, false, true, false, true, true, false, true, false, true, true, false, true, false, true, true, false, true, false, true, true, false, true, false, true, true, false, true, false, true, true, false, true, false, false, false, false, false, false, false, false] rfl rfl (any_of HT_.out (by kernel_rfl)) (fun _ _ _ h => h) (Or.inl ⟨by rfl, ?_⟩) ?_ ?_; rotate_left
                    ·intro w'; go_simp
                     with_reducible rfl
                    rotate_left
                    ·simp only [Act.put, List.setIfInBounds_toArray, List.set_cons_zero, List.set_cons_succ, i64_w, i32_w]; rfl
                    refine pure_ (i := 35) (N := some 152) (v := ?_) (a' := ?_) #[true, true, false, true, false, true, true, false, true, false, true, true, false, true, false, true, true, false, true, false, true, true, false, true, false, true, true, false, true, false, true, true, false, true, false, true, false, false, false, false, false, false] rfl rfl (any_of HT_.out (by kernel_rfl)) (fun _ _ _ h => h) (Or.inl ⟨by rfl, ?_⟩) ?_ ?_; rotate_left
                    ·intro w'; go_simp
                     with_reducible rfl
                    rotate_left
                    ·simp only [Act.put, List.setIfInBounds_toArray, List.set_cons_zero, List.set_cons_succ, i64_w, i32_w]; rfl
                    refine pure_ (i := 36) (N := some 153) (v := ?_) (a' := ?_) #[true, true, false, true, false, true, true, false, true, false, true, true, false, true, false, true, true, false, true, false, true, true, false, true, false, true, true, false, true, false, true, true, false, true, false, true, true, false, false, false, false, false] rfl rfl (any_of HT_.out (by kernel_rfl)) (fun _ _ _ h => h) (Or.inl ⟨by rfl, ?_⟩) ?_ ?_; rotate_left
                    ·intro w'; go_simp
                     with_reducible rfl
                    rotate_left
                    ·simp only [Act.put, List.setIfInBounds_toArray, List.set_cons_zero, List.set_cons_succ, i64_w, i32_w]; rfl
                    refine pure_ (i := 38) (N := some 155) (v := ?_) (a' := ?_) #[true, true, false, true, false, true, true, false, true, false, true, true, false, true, false, true, true, false, true, false, true, true, false, true, false, true, true, false, true, false, true, true, false, true, false, true, true, false, true, false, false, false] rfl rfl (any_of HT_.out (by kernel_rfl)) (fun _ _ _ h => h) (Or.inl ⟨by rfl, ?_⟩) ?_ ?_; rotate_left
                    ·intro w'; go_simp
                     with_reducible rfl
                    rotate_left
                    ·simp only [Act.put, List.setIfInBounds_toArray, List.set_cons_zero, List.set_cons_succ, i64_w, i32_w]; rfl
                    refine take_ (i := 2) (N := some 119) (v := ?_) (a' := ?_) #[true, true, true, true, false, true, true, false, true, false, true, true, false, true, false, true, true, false, true, false, true, true, false, true, false, true, true, false, true, false, true, true, false, true, false, true, true, false, true, false, false, false] rfl rfl (take_ofW HT_.out HW_.out (by kernel_rfl)) (fun _ _ _ h => h) (Or.inl ⟨by rfl, ?_⟩) hHeld ?_ ?_; rotate_left
                    ·rintro w' ⟨s0, s1, s2, s3, s4, s5, s6, s7⟩; go_simp
                     with_reducible rfl
                    rotate_left
                    ·simp only [Act.put, List.setIfInBounds_toArray, List.set_cons_zero, List.set_cons_succ, i64_w, i32_w]; rfl
                    refine pure_ (i := 4) (N := some 121) (v := ?_) (a' := ?_) #[true, true, true, true, true, true, true, false, true, false, true, true, false, true, false, true, true, false, true, false, true, true, false, true, false, true, true, false, true, false, true, true, false, true, false, true, true, false, true, false, false, false] rfl rfl (any_of HT_.out (by kernel_rfl)) (fun _ _ _ h => h) (Or.inl ⟨by rfl, ?_⟩) ?_ ?_; rotate_left
                    ·intro w'; go_simp
                     with_reducible rfl
                    rotate_left
                    ·simp only [Act.put, List.setIfInBounds_toArray, List.set_cons_zero, List.set_cons_succ, i64_w, i32_w]; rfl
                    refine take_ (i := 7) (N := some 124) (v := ?_) (a' := ?_) #[true, true, true, true, true, true, true, true, true, false, true, true, false, true, false, true, true, false, true, false, true, true, false, true, false, true, true, false, true, false, true, true, false, true, false, true, true, false, true, false, false, false] rfl rfl (take_ofW HT_.out HW_.out (by kernel_rfl)) (fun _ _ _ h => h) (Or.inl ⟨by rfl, ?_⟩) hHeld ?_ ?_; rotate_left
                    ·rintro w' ⟨s0, s1, s2, s3, s4, s5, s6, s7⟩; go_simp
                     with_reducible rfl
                    rotate_left
                    ·simp only [Act.put, List.setIfInBounds_toArray, List.set_cons_zero, List.set_cons_succ, i64_w, i32_w]; rfl
                    refine pure_ (i := 9) (N := some 126) (v := ?_) (a' := ?_) #[true, true, true, true, true, true, true, true, true, true, true, true, false, true, false, true, true, false, true, false, true, true, false, true, false, true, true, false, true, false, true, true, false, true, false, true, true, false, true, false, false, false] rfl rfl (any_of HT_.out (by kernel_rfl)) (fun _ _ _ h => h) (Or.inl ⟨by rfl, ?_⟩) ?_ ?_; rotate_left
                    ·intro w'; go_simp
                     with_reducible rfl
                    rotate_left
                    ·simp only [Act.put, List.setIfInBounds_toArray, List.set_cons_zero, List.set_cons_succ, i64_w, i32_w]; rfl
                    refine take_ (i := 12) (N := some 129) (v := ?_) (a' := ?_) #[true, true, true, true, true, true, true, true, true, true, true, true, true, true, false, true, true, false, true, false, true, true, false, true, false, true, true, false, true, false, true, true, false, true, false, true, true, false, true, false, false, false] rfl rfl (take_ofW HT_.out HW_.out (by kernel_rfl)) (fun _ _ _ h => h) (Or.inl ⟨by rfl, ?_⟩) hHeld ?_ ?_; rotate_left
                    ·rintro w' ⟨s0, s1, s2, s3, s4, s5, s6, s7⟩; go_simp
                     with_reducible rfl
                    rotate_left
                    ·simp only [Act.put, List.setIfInBounds_toArray, List.set_cons_zero, List.set_cons_succ, i64_w, i32_w]; rfl
                    refine pure_ (i := 14) (N := some 131) (v := ?_) (a' := ?_) #[true, true, true, true, true, true, true, true, true, true, true, true, true, true, true, true, true, false, true, false, true, true, false, true, false, true, true, false, true, false, true, true, false, true, false, true, true, false, true, false, false, false] rfl rfl (any_of HT_.out (by kernel_rfl)) (fun _ _ _ h => h) (Or.inl ⟨by rfl, ?_⟩) ?_ ?_; rotate_left
                    ·intro w'; go_simp
                     with_reducible rfl
                    rotate_left
                    ·simp only [Act.put, List.setIfInBounds_toArray, List.set_cons_zero, List.set_cons_succ, i64_w, i32_w]; rfl
                    refine take_ (i := 17) (N := some 134) (v := ?_) (a' := ?_) #[true, true, true, true, true, true, true, true, true, true, true, true, true, true, true, true, true, true, true, false, true, true, false, true, false, true, true, false, true, false, true, true, false, true, false, true, true, false, true, false, false, false] rfl rfl (take_ofW HT_.out HW_.out (by kernel_rfl)) (fun _ _ _ h => h) (Or.inl ⟨by rfl, ?_⟩) hHeld ?_ ?_; rotate_left
                    ·rintro w' ⟨s0, s1, s2, s3, s4, s5, s6, s7⟩; go_simp
                     with_reducible rfl
                    rotate_left
                    ·simp only [Act.put, List.setIfInBounds_toArray, List.set_cons_zero, List.set_cons_succ, i64_w, i32_w]; rfl
                    refine pure_ (i := 19) (N := some 136) (v := ?_) (a' := ?_) #[true, true, true, true, true, true, true, true, true, true, true, true, true, true, true, true, true, true, true, true, true, true, false, true, false, true, true, false, true, false, true, true, false, true, false, true, true, false, true, false, false, false] rfl rfl (any_of HT_.out (by kernel_rfl)) (fun _ _ _ h => h) (Or.inl ⟨by rfl, ?_⟩) ?_ ?_; rotate_left
                    ·intro w'; go_simp
                     with_reducible rfl
                    rotate_left
                    ·simp only [Act.put, List.setIfInBounds_toArray, List.set_cons_zero, List.set_cons_succ, i64_w, i32_w]; rfl
                    refine take_ (i := 22) (N := some 139) (v := ?_) (a' := ?_) #[true, true, true, true, true, true, true, true, true, true, true, true, true, true, true, true, true, true, true, true, true, true, true, true, false, true, true, false, true, false, true, true, false, true, false, true, true, false, true, false, false, false] rfl rfl (take_ofW HT_.out HW_.out (by kernel_rfl)) (fun _ _ _ h => h) (Or.inl ⟨by rfl, ?_⟩) hHeld ?_ ?_; rotate_left
                    ·rintro w' ⟨s0, s1, s2, s3, s4, s5, s6, s7⟩; go_simp
                     with_reducible rfl
                    rotate_left
                    ·simp only [Act.put, List.setIfInBounds_toArray, List.set_cons_zero, List.set_cons_succ, i64_w, i32_w]; rfl
                    refine pure_ (i := 24) (N := some 141) (v := ?_) (a' := ?_) #[true, true, true, true, true, true, true, true, true, true, true, true, true, true, true, true, true, true, true, true, true, true, true, true, true, true, true, false, true, false, true, true, false, true, false, true, true, false, true, false, false, false] rfl rfl (any_of HT_.out (by kernel_rfl)) (fun _ _ _ h => h) (Or.inl ⟨by rfl, ?_⟩) ?_ ?_; rotate_left
                    ·intro w'; go_simp
                     with_reducible rfl
                    rotate_left
                    ·simp only [Act.put, List.setIfInBounds_toArray, List.set_cons_zero, List.set_cons_succ, i64_w, i32_w]; rfl
                    refine take_ (i := 27) (N := some 144) (v := ?_) (a' := ?_) #[true, true, true, true, true, true, true, true, true, true, true, true, true, true, true, true, true, true, true, true, true, true, true, true, true, true, true, true, true, false, true, true, false, true, false, true, true, false, true, false, false, false] rfl rfl (take_ofW HT_.out HW_.out (by kernel_rfl)) (fun _ _ _ h => h) (Or.inl ⟨by rfl, ?_⟩) hHeld ?_ ?_; rotate_left
                    ·rintro w' ⟨s0, s1, s2, s3, s4, s5, s6, s7⟩; go_simp
                     with_reducible rfl
                    rotate_left
                    ·simp only [Act.put, List.setIfInBounds_toArray, List.set_cons_zero, List.set_cons_succ, i64_w, i32_w]; rfl
                    refine pure_ (i := 29) (N := some 146) (v := ?_) (a' := ?_) #[true, true, true, true, true, true, true, true, true, true, true, true, true, true, true, true, true, true, true, true, true, true, true, true, true, true, true, true, true, true, true, true, false, true, false, true, true, false, true, false, false, false] rfl rfl (any_of HT_.out (by kernel_rfl)) (fun _ _ _ h => h) (Or.inl ⟨by rfl, ?_⟩) ?_ ?_; rotate_left
                    ·intro w'; go_simp
                     with_reducible rfl
                    rotate_left
                    ·simp only [Act.put, List.setIfInBounds_toArray, List.set_cons_zero, List.set_cons_succ, i64_w, i32_w]; rfl
                    refine take_ (i := 32) (N := some 149) (v := ?_) (a' := ?_) #[true, true, true, true, true, true, true, true, true, true, true, true, true, true, true, true, true, true, true, true, true, true, true, true, true, true, true, true, true, true, true, true, true, true, false, true, true, false, true, false, false, false] rfl rfl (take_ofW HT_.out HW_.out (by kernel_rfl)) (fun _ _ _ h => h) (Or.inl ⟨by rfl, ?_⟩) hHeld ?_ ?_; rotate_left
                    ·rintro w' ⟨s0, s1, s2, s3, s4, s5, s6, s7⟩; go_simp
                     with_reducible rfl
                    rotate_left
                    ·simp only [Act.put, List.setIfInBounds_toArray, List.set_cons_zero, List.set_cons_succ, i64_w, i32_w]; rfl
                    refine pure_ (i := 34) (N := some 151) (v := ?_) (a' := ?_) #[true, true, true, true, true, true, true, true, true, true, true, true, true, true, true, true, true, true, true, true, true, true, true, true, true, true, true, true, true, true, true, true, true, true, true, true, true, false, true, false, false, false] rfl rfl (any_of HT_.out (by kernel_rfl)) (fun _ _ _ h => h) (Or.inl ⟨by rfl, ?_⟩) ?_ ?_; rotate_left
                    ·intro w'; go_simp
                     with_reducible rfl
                    rotate_left
                    ·simp only [Act.put, List.setIfInBounds_toArray, List.set_cons_zero, List.set_cons_succ, i64_w, i32_w]; rfl
                    refine take_ (i := 37) (N := some 154) (v := ?_) (a' := ?_) #[true, true, true, true, true, true, true, true, true, true, true, true, true, true, true, true, true, true, true, true, true, true, true, true, true, true, true, true, true, true, true, true, true, true, true, true, true, true, true, false, false, false] rfl rfl (take_ofW HT_.out HW_.out (by kernel_rfl)) (fun _ _ _ h => h) (Or.inl ⟨by rfl, ?_⟩) hHeld ?_ ?_; rotate_left
                    ·rintro w' ⟨s0, s1, s2, s3, s4, s5, s6, s7⟩; go_simp
                     with_reducible rfl
                    rotate_left
                    ·simp only [Act.put, List.setIfInBounds_toArray, List.set_cons_zero, List.set_cons_succ, i64_w, i32_w]; rfl
                    refine pure_ (i := 39) (N := some 156) (v := ?_) (a' := ?_) #[true, true, true, true, true, true, true, true, true, true, true, true, true, true, true, true, true, true, true, true, true, true, true, true, true, true, true, true, true, true, true, true, true, true, true, true, true, true, true, true, false, false] rfl rfl (any_of HT_.out (by kernel_rfl)) (fun _ _ _ h => h) (Or.inl ⟨by rfl, ?_⟩) ?_ ?_; rotate_left
                    ·intro w'; go_simp
                     with_reducible rfl
                    rotate_left
                    ·simp only [Act.put, List.setIfInBounds_toArray, List.set_cons_zero, List.set_cons_succ, i64_w, i32_w]; rfl
                    refine one_ (i := 40) (N := some 157) #[true, true, true, true, true, true, true, true, true, true, true, true, true, true, true, true, true, true, true, true, true, true, true, true, true, true, true, true, true, true, true, true, true, true, true, true, true, true, true, true, true, false] rfl rfl (one_of HT_.out (by kernel_rfl)) (by decide) (fun K hK => ?_); refine Kd.R_lit_step (Kd.int .u32) _ 142 ?hg (N := 157) ?hd (xs := ([((rd l0 0) + x10_1) % 4294967296, ((rd l0 1) + x11_1) % 4294967296, ((rd l0 2) + x12_1) % 4294967296, ((rd l0 3) + x13_1) % 4294967296, ((rd l0 4) + x14_1) % 4294967296, ((rd l0 5) + x15_1) % 4294967296, ((rd l0 6) + x16_1) % 4294967296, ((rd l0 7) + x17_1) % 4294967296] : List Int)) (inner := [.int .u32 (((rd l0 0) + x10_1) % 4294967296), .int .u32 (((rd l0 1) + x11_1) % 4294967296), .int .u32 (((rd l0 2) + x12_1) % 4294967296), .int .u32 (((rd l0 3) + x13_1) % 4294967296), .int .u32 (((rd l0 4) + x14_1) % 4294967296), .int .u32 (((rd l0 5) + x15_1) % 4294967296), .int .u32 (((rd l0 6) + x16_1) % 4294967296), .int .u32 (((rd l0 7) + x17_1) % 4294967296)]) (ok := fun _ => True) (okp := fun _ => True) ?hr ?hp (fun _ hk => hk) trivial (Below.refl _ _) (Nat.le_refl _) (by simp) ?_; (case hd => rfl); (case hg => rfl); (case hr => first | (go_simp; done) | (go_simp; rfl)); (case hp => exact (Reps.one (show Kd.M (Kd.int .u32) _ _ _ (((rd l0 0) + x10_1) % 4294967296) [.int .u32 (((rd l0 0) + x10_1) % 4294967296)] from rfl) (Reps.one (show Kd.M (Kd.int .u32) _ _ _ (((rd l0 1) + x11_1) % 4294967296) [.int .u32 (((rd l0 1) + x11_1) % 4294967296)] from rfl) (Reps.one (show Kd.M (Kd.int .u32) _ _ _ (((rd l0 2) + x12_1) % 4294967296) [.int .u32 (((rd l0 2) + x12_1) % 4294967296)] from rfl) (Reps.one (show Kd.M (Kd.int .u32) _ _ _ (((rd l0 3) + x13_1) % 4294967296) [.int .u32 (((rd l0 3) + x13_1) % 4294967296)] from rfl) (Reps.one (show Kd.M (Kd.int .u32) _ _ _ (((rd l0 4) + x14_1) % 4294967296) [.int .u32 (((rd l0 4) + x14_1) % 4294967296)] from rfl) (Reps.one (show Kd.M (Kd.int .u32) _ _ _ (((rd l0 5) + x15_1) % 4294967296) [.int .u32 (((rd l0 5) + x15_1) % 4294967296)] from rfl) (Reps.one (show Kd.M (Kd.int .u32) _ _ _ (((rd l0 6) + x16_1) % 4294967296) [.int .u32 (((rd l0 6) + x16_1) % 4294967296)] from rfl) (Reps.one (show Kd.M (Kd.int .u32) _ _ _ (((rd l0 7) + x17_1) % 4294967296) [.int .u32 (((rd l0 7) + x17_1) % 4294967296)] from rfl) (Reps.none _ _)))))))))); intro v1110021 w36 ho37 hb hg_ hnew_; clear hg_ hnew_
                    (first | rw [← Ny1110020.out] at ho37 | (simp only [Int.reduceToNat] at ho37; rw [← Ny1110020.out] at ho37)); have n0_ := Aside0.mk (Kd.R_elder' (by (with_reducible repeat (first | apply Kd.R_alloc | apply Kd.R_drewN | apply Kd.R_drew)); exact HO_9.out) (Kd.R_base ho37) hb); have n1_ := Aside0.mk (Kd.R_lower (Kd.R_new' ho37 (Kd.R_lt (by (with_reducible repeat (first | apply Kd.R_alloc | apply Kd.R_drewN | apply Kd.R_drew)); exact HO_9.out))) (below_size zq_0)); have n2_ := Aside0.mk (below_step zq_0 hb); clear HO_9; clear HB; have HO_9 := n0_; have HO1110022 := n1_; have HB := n2_; clear n0_ n1_ n2_; clear hb ho37; refine hK.out _ _ ⟨((HB.out.cell (World.block_lt_of_cell? w _ hw1110012_0)).trans hw1110012_0), ((HB.out.cell (World.block_lt_of_cell? w _ hw1110013_0)).trans hw1110013_0), ((HB.out.cell (World.block_lt_of_cell? w _ hw1110014_0)).trans hw1110014_0), ((HB.out.cell (World.block_lt_of_cell? w _ hw1110015_0)).trans hw1110015_0), ((HB.out.cell (World.block_lt_of_cell? w _ hw1110016_0)).trans hw1110016_0), ((HB.out.cell (World.block_lt_of_cell? w _ hw1110017_0)).trans hw1110017_0), ((HB.out.cell (World.block_lt_of_cell? w _ hw1110018_0)).trans hw1110018_0), ((HB.out.cell (World.block_lt_of_cell? w _ hw1110019_0)).trans hw1110019_0)⟩ (fun hHeld => ?_); clear hK K; refine norm_ (a' := ?_) ?_ ?_; rotate_left
                    ·show Act.put _ (some 157) _ = _; simp only [Act.put, List.setIfInBounds_toArray, List.set_cons_zero, List.set_cons_succ, i64_w, i32_w]; rfl
                    refine pure_ (i := 41) (N := some 8) (v := ?_) (a' := ?_) #[true, true, true, true, true, true, true, true, true, true, true, true, true, true, true, true, true, true, true, true, true, true, true, true, true, true, true, true, true, true, true, true, true, true, true, true, true, true, true, true, true, true] rfl rfl (any_of HT_.out (by kernel_rfl)) (fun _ _ _ h => h) (Or.inl ⟨by rfl, ?_⟩) ?_ ?_; rotate_left
                    ·intro w'; go_simp
                     with_reducible rfl
                    rotate_left
                    ·simp only [Act.put, List.setIfInBounds_toArray, List.set_cons_zero, List.set_cons_succ, i64_w, i32_w]; rfl
                    refine done_ (done_of HT_.out (by kernel_rfl)) ?_
                    try go_wp2
                    go_ret
                    exact ⟨_, by first | rfl | (simp [errW_none, errW_some] <;> rfl) | (simp [*, errW_none, errW_some] <;> rfl), by (with_reducible repeat (first | apply Kd.R_alloc | apply Kd.R_drewN | apply Kd.R_drew)); exact Kd.R_mono HO1110022.out (fun _ hk => trivial), by repeat (first | (with_reducible first | exact HB.out | apply below_alloc | apply pw_below_drewN | apply below_drew1) | exact HB.out)⟩
                   ·rw [if_neg c34] at H; exact absurd H (by simp)
                  ·rw [if_neg c33] at H; exact absurd H (by simp)
                 ·rw [if_neg c32] at H; exact absurd H (by simp)
                ·rw [if_neg c31] at H; exact absurd H (by simp)
               ·rw [if_neg c30] at H; exact absurd H (by simp)
              ·rw [if_neg c29] at H; exact absurd H (by simp)
             ·rw [if_neg c28] at H; exact absurd H (by simp)
            ·rw [if_neg c27] at H; exact absurd H (by simp)
        ·rw [if_neg c13] at H; exact absurd H (by simp)
       ·rw [if_neg c12] at H; exact absurd H (by simp)
      ·rw [if_neg c11] at H; exact absurd H (by simp)
     ·rw [if_neg c10] at H; exact absurd H (by simp)
    ·rw [if_neg c9] at H; exact absurd H (by simp)
   ·rw [if_neg c8] at H; exact absurd H (by simp)
  ·rw [if_neg c7] at H; exact absurd H (by simp)
 ·rw [if_neg c6] at H; exact absurd H (by simp)
end Go.Proofs.YthnnphinfiobmaaDoor.Z
end
section
namespace Go.Proofs.YthnnphinfiobmaaDoor.Z
open Go.RowKit Go.Proofs.YthnnphinfiobmaaDoorW.PrintWords Go.Proofs.YthnnphinfiobmaaDoorW.PrintLast Go.Proofs.YthnnphinfiobmaaDoorW.PrintMore
attribute [local go_sem] max2_int min2_int max_two min_two max_three min_three max_four min_four
set_option linter.unusedVariables false
set_option linter.unusedSimpArgs false
def bits_RotateLeft32.f (a0 : Int) (a1 : Int) : Option (Int) := if 0 ≤ (Go.bits .and .u64 (IntKind.u64.wrap (a1)) 31) then (if 0 ≤ (IntKind.u64.wrap (32 - (Go.bits .and .u64 (IntKind.u64.wrap (a1)) 31))) then (some (Go.bits .or .u32 (shl .u32 a0 (Go.bits .and .u64 (IntKind.u64.wrap (a1)) 31)) (shr .u32 a0 (IntKind.u64.wrap (32 - (Go.bits .and .u64 (IntKind.u64.wrap (a1)) 31)))))) else (none)) else (none)
set_option maxHeartbeats 8000000 in
set_option maxRecDepth 100000 in
theorem bits_RotateLeft32.calls (a0 : Int) (a1 : Int) (r : Int) (w : World) (h : bits_RotateLeft32.f a0 a1 = some r) :
  Calls Tryd.prog 132 #[.int .u32 a0, .int .i64 a1] w fun e w' => e = .returned (.int .u32 r) ∧ Drawn0 w w' := by
 have H : (if 0 ≤ (Go.bits .and .u64 (IntKind.u64.wrap (a1)) 31) then (if 0 ≤ (IntKind.u64.wrap (32 - (Go.bits .and .u64 (IntKind.u64.wrap (a1)) 31))) then (some (Go.bits .or .u32 (shl .u32 a0 (Go.bits .and .u64 (IntKind.u64.wrap (a1)) 31)) (shr .u32 a0 (IntKind.u64.wrap (32 - (Go.bits .and .u64 (IntKind.u64.wrap (a1)) 31)))))) else (none)) else (none)) = some r := h; clear h; obtain ⟨ji3, hji3⟩ : ∃ j_ : Int, (Go.bits .and .u64 (IntKind.u64.wrap (a1)) 31) = j_ := ⟨_, rfl⟩
 replace H : (if 0 ≤ (ji3) then (if 0 ≤ (IntKind.u64.wrap (32 - (ji3))) then (some (Go.bits .or .u32 (shl .u32 a0 (ji3)) (shr .u32 a0 (IntKind.u64.wrap (32 - (ji3)))))) else (none)) else (none)) = some r := by first | (rw [hji3] at H; exact H) | (simp only [hji3] at H ⊢; exact H)
 by_cases c4 : 0 ≤ (ji3)
 ·rw [if_pos c4] at H; have c4b0 := eq_true c4; have c4b1 : decide (0 ≤ (ji3)) = true := decide_eq_true c4; clear c4; obtain ⟨ji5, hji5⟩ : ∃ j_ : Int, (shl .u32 a0 (ji3)) = j_ := ⟨_, rfl⟩
  replace H : (if 0 ≤ (IntKind.u64.wrap (32 - (ji3))) then (some (Go.bits .or .u32 (ji5) (shr .u32 a0 (IntKind.u64.wrap (32 - (ji3)))))) else (none)) = some r := by first | (rw [hji5] at H; exact H) | (simp only [hji5] at H ⊢; exact H)
  have hji5_ : (IntKind.u32.wrap (a0 * 2 ^ min (ji3).toNat 32)) = ji5 := hji5; have hji5z : (ji3) ≤ 32 → (IntKind.u32.wrap (a0 * 2 ^ (ji3).toNat)) = ji5 := shl_small hji5; obtain ⟨ji6, hji6⟩ : ∃ j_ : Int, (IntKind.u64.wrap (32 - (ji3))) = j_ := ⟨_, rfl⟩
  replace H : (if 0 ≤ (ji6) then (some (Go.bits .or .u32 (ji5) (shr .u32 a0 (ji6)))) else (none)) = some r := by first | (rw [hji6] at H; exact H) | (simp only [hji6] at H ⊢; exact H)
  by_cases c7 : 0 ≤ (ji6)
  ·rw [if_pos c7] at H; have c7b0 := eq_true c7; have c7b1 : decide (0 ≤ (ji6)) = true := decide_eq_true c7; clear c7; obtain ⟨ji8, hji8⟩ : ∃ j_ : Int, (shr .u32 a0 (ji6)) = j_ := ⟨_, rfl⟩
   replace H : (some (Go.bits .or .u32 (ji5) (ji8))) = some r := by first | (rw [hji8] at H; exact H) | (simp only [hji8] at H ⊢; exact H)
   have hji8_ : (a0 / 2 ^ min (ji6).toNat 32) = ji8 := hji8; have hji8z : (ji6) ≤ 32 → (a0 / 2 ^ (ji6).toNat) = ji8 := shr_small hji8; obtain rfl := Option.some.inj H
   go_enter Tryd.func132, Tryd.ntmps132
   go_wp2
   go_ret
   exact ⟨by first | rfl | (simp; done) | (simp only [← hji3, ← hji5, ← hji6, ← hji8] <;> (first | rfl | simp)) | (simp [*]; done), by repeat (first | exact Drawn0.refl _ | apply Drawn0.step)⟩
  ·rw [if_neg c7] at H; exact absurd H (by simp)
 ·rw [if_neg c4] at H; exact absurd H (by simp)
end Go.Proofs.YthnnphinfiobmaaDoor.Z
end
section
namespace Go.Proofs.YthnnphinfiobmaaDoor.Z
open Go.RowKit Go.Proofs.YthnnphinfiobmaaDoorW.PrintWords Go.Proofs.YthnnphinfiobmaaDoorW.PrintLast Go.Proofs.YthnnphinfiobmaaDoorW.PrintMore
attribute [local go_sem] max2_int min2_int max_two min_two max_three min_three max_four min_four
set_option linter.unusedVariables false
set_option linter.unusedSimpArgs false
def spec_l1K.f  : Option (List Int) := some (([1116352408, 1899447441, 3049323471, 3921009573, 961987163, 1508970993, 2453635748, 2870763221, 3624381080, 310598401, 607225278, 1426881987, 1925078388, 2162078206, 2614888103, 3248222580, 3835390401, 4022224774, 264347078, 604807628, 770255983, 1249150122, 1555081692, 1996064986, 2554220882, 2821834349, 2952996808, 3210313671, 3336571891, 3584528711, 113926993, 338241895, 666307205, 773529912, 1294757372, 1396182291, 1695183700, 1986661051, 2177026350, 2456956037, 2730485921, 2820302411, 3259730800, 3345764771, 3516065817, 3600352804, 4094571909, 275423344, 430227734, 506948616, 659060556, 883997877, 958139571, 1322822218, 1537002063, 1747873779, 1955562222, 2024104815, 2227730452, 2361852424, 2428436474, 2756734187, 3204031479, 3329325298] : List Int))
set_option maxHeartbeats 8000000 in
set_option maxRecDepth 100000 in
theorem spec_l1K.calls  (r : List Int) (w : World) (h : spec_l1K.f  = some r) :
  Calls Tryd.prog 109 #[] w fun e w' => ∃ v0_ : Value, e = .returned (v0_) ∧ Kd.R (Kd.int .u32) 142 w' w.heap.size (fun _ => True) v0_ r ∧ Below w.heap.size w w' := by
 have HB := Aside0.mk (Below.refl w.heap.size w); have H : (some (([1116352408, 1899447441, 3049323471, 3921009573, 961987163, 1508970993, 2453635748, 2870763221, 3624381080, 310598401, 607225278, 1426881987, 1925078388, 2162078206, 2614888103, 3248222580, 3835390401, 4022224774, 264347078, 604807628, 770255983, 1249150122, 1555081692, 1996064986, 2554220882, 2821834349, 2952996808, 3210313671, 3336571891, 3584528711, 113926993, 338241895, 666307205, 773529912, 1294757372, 1396182291, 1695183700, 1986661051, 2177026350, 2456956037, 2730485921, 2820302411, 3259730800, 3345764771, 3516065817, 3600352804, 4094571909, 275423344, 430227734, 506948616, 659060556, 883997877, 958139571, 1322822218, 1537002063, 1747873779, 1955562222, 2024104815, 2227730452, 2361852424, 2428436474, 2756734187, 3204031479, 3329325298] : List Int))) = some r := h; clear h; obtain ⟨y1090001, hy1090001⟩ : ∃ y_ : List Int, y_ = (([1116352408, 1899447441, 3049323471, 3921009573, 961987163, 1508970993, 2453635748, 2870763221, 3624381080, 310598401, 607225278, 1426881987, 1925078388, 2162078206, 2614888103, 3248222580, 3835390401, 4022224774, 264347078, 604807628, 770255983, 1249150122, 1555081692, 1996064986, 2554220882, 2821834349, 2952996808, 3210313671, 3336571891, 3584528711, 113926993, 338241895, 666307205, 773529912, 1294757372, 1396182291, 1695183700, 1986661051, 2177026350, 2456956037, 2730485921, 2820302411, 3259730800, 3345764771, 3516065817, 3600352804, 4094571909, 275423344, 430227734, 506948616, 659060556, 883997877, 958139571, 1322822218, 1537002063, 1747873779, 1955562222, 2024104815, 2227730452, 2361852424, 2428436474, 2756734187, 3204031479, 3329325298] : List Int)) := ⟨_, rfl⟩
 replace H : (some y1090001) = some r := by first | (rw [hy1090001]; with_reducible exact H) | (have H2_ := (Option.bind_some _ _).symm.trans H; rw [hy1090001]; with_reducible exact H2_) | (have H2_ := (Option.bind_some _ _).symm.trans H; with_reducible exact H2_) | with_reducible exact H | (rw [hy1090001]; exact H) | exact H
 have Ny1090001 := Aside0.mk hy1090001; clear hy1090001; obtain rfl := Option.some.inj H
 go_enter Tryd.func109, Tryd.ntmps109
 go_wp2_with (first | ((with_reducible refine gate_dst (N := 1) rfl ?_); refine Kd.R_lit (Kd.int .u32) _ 142 ?hg (N := 1) ?hd (xs := ([1116352408, 1899447441, 3049323471, 3921009573, 961987163, 1508970993, 2453635748, 2870763221, 3624381080, 310598401, 607225278, 1426881987, 1925078388, 2162078206, 2614888103, 3248222580, 3835390401, 4022224774, 264347078, 604807628, 770255983, 1249150122, 1555081692, 1996064986, 2554220882, 2821834349, 2952996808, 3210313671, 3336571891, 3584528711, 113926993, 338241895, 666307205, 773529912, 1294757372, 1396182291, 1695183700, 1986661051, 2177026350, 2456956037, 2730485921, 2820302411, 3259730800, 3345764771, 3516065817, 3600352804, 4094571909, 275423344, 430227734, 506948616, 659060556, 883997877, 958139571, 1322822218, 1537002063, 1747873779, 1955562222, 2024104815, 2227730452, 2361852424, 2428436474, 2756734187, 3204031479, 3329325298] : List Int)) (inner := [.int .u32 1116352408, .int .u32 1899447441, .int .u32 3049323471, .int .u32 3921009573, .int .u32 961987163, .int .u32 1508970993, .int .u32 2453635748, .int .u32 2870763221, .int .u32 3624381080, .int .u32 310598401, .int .u32 607225278, .int .u32 1426881987, .int .u32 1925078388, .int .u32 2162078206, .int .u32 2614888103, .int .u32 3248222580, .int .u32 3835390401, .int .u32 4022224774, .int .u32 264347078, .int .u32 604807628, .int .u32 770255983, .int .u32 1249150122, .int .u32 1555081692, .int .u32 1996064986, .int .u32 2554220882, .int .u32 2821834349, .int .u32 2952996808, .int .u32 3210313671, .int .u32 3336571891, .int .u32 3584528711, .int .u32 113926993, .int .u32 338241895, .int .u32 666307205, .int .u32 773529912, .int .u32 1294757372, .int .u32 1396182291, .int .u32 1695183700, .int .u32 1986661051, .int .u32 2177026350, .int .u32 2456956037, .int .u32 2730485921, .int .u32 2820302411, .int .u32 3259730800, .int .u32 3345764771, .int .u32 3516065817, .int .u32 3600352804, .int .u32 4094571909, .int .u32 275423344, .int .u32 430227734, .int .u32 506948616, .int .u32 659060556, .int .u32 883997877, .int .u32 958139571, .int .u32 1322822218, .int .u32 1537002063, .int .u32 1747873779, .int .u32 1955562222, .int .u32 2024104815, .int .u32 2227730452, .int .u32 2361852424, .int .u32 2428436474, .int .u32 2756734187, .int .u32 3204031479, .int .u32 3329325298]) (ok := fun _ => True) (okp := fun _ => True) ?hr ?hp (fun _ hk => hk) trivial (Below.refl _ _) (Nat.le_refl _) (by simp) ?_; (case hd => rfl); (case hg => rfl); (case hr => first | (go_simp; done) | (go_simp; rfl)); (case hp => exact (Reps.one (show Kd.M (Kd.int .u32) _ _ _ 1116352408 [.int .u32 1116352408] from rfl) (Reps.one (show Kd.M (Kd.int .u32) _ _ _ 1899447441 [.int .u32 1899447441] from rfl) (Reps.one (show Kd.M (Kd.int .u32) _ _ _ 3049323471 [.int .u32 3049323471] from rfl) (Reps.one (show Kd.M (Kd.int .u32) _ _ _ 3921009573 [.int .u32 3921009573] from rfl) (Reps.one (show Kd.M (Kd.int .u32) _ _ _ 961987163 [.int .u32 961987163] from rfl) (Reps.one (show Kd.M (Kd.int .u32) _ _ _ 1508970993 [.int .u32 1508970993] from rfl) (Reps.one (show Kd.M (Kd.int .u32) _ _ _ 2453635748 [.int .u32 2453635748] from rfl) (Reps.one (show Kd.M (Kd.int .u32) _ _ _ 2870763221 [.int .u32 2870763221] from rfl) (Reps.one (show Kd.M (Kd.int .u32) _ _ _ 3624381080 [.int .u32 3624381080] from rfl) (Reps.one (show Kd.M (Kd.int .u32) _ _ _ 310598401 [.int .u32 310598401] from rfl) (Reps.one (show Kd.M (Kd.int .u32) _ _ _ 607225278 [.int .u32 607225278] from rfl) (Reps.one (show Kd.M (Kd.int .u32) _ _ _ 1426881987 [.int .u32 1426881987] from rfl) (Reps.one (show Kd.M (Kd.int .u32) _ _ _ 1925078388 [.int .u32 1925078388] from rfl) (Reps.one (show Kd.M (Kd.int .u32) _ _ _ 2162078206 [.int .u32 2162078206] from rfl) (Reps.one (show Kd.M (Kd.int .u32) _ _ _ 2614888103 [.int .u32 2614888103] from rfl) (Reps.one (show Kd.M (Kd.int .u32) _ _ _ 3248222580 [.int .u32 3248222580] from rfl) (Reps.one (show Kd.M (Kd.int .u32) _ _ _ 3835390401 [.int .u32 3835390401] from rfl) (Reps.one (show Kd.M (Kd.int .u32) _ _ _ 4022224774 [.int .u32 4022224774] from rfl) (Reps.one (show Kd.M (Kd.int .u32) _ _ _ 264347078 [.int .u32 264347078] from rfl) (Reps.one (show Kd.M (Kd.int .u32) _ _ _ 604807628 [.int .u32 604807628] from rfl) (Reps.one (show Kd.M (Kd.int .u32) _ _ _ 770255983 [.int .u32 770255983] from rfl) (Reps.one (show Kd.M (Kd.int .u32) _ _ _ 1249150122 [.int .u32 1249150122] from rfl) (Reps.one (show Kd.M (Kd.int .u32) _ _ _ 1555081692 [.int .u32 1555081692] from rfl) (Reps.one (show Kd.M (Kd.int .u32) _ _ _ 1996064986 [.int .u32 1996064986] from rfl) (Reps.one (show Kd.M (Kd.int .u32) _ _ _ 2554220882 [.int .u32 2554220882] from rfl) (Reps.one (show Kd.M (Kd.int .u32) _ _ _ 2821834349 [.int .u32 2821834349] from rfl) (Reps.one (show Kd.M (Kd.int .u32) _ _ _ 2952996808 [.int .u32 2952996808] from rfl) (Reps.one (show Kd.M (Kd.int .u32) _ _ _ 3210313671 [.int .u32 3210313671] from rfl) (Reps.one (show Kd.M (Kd.int .u32) _ _ _ 3336571891 [.int .u32 3336571891] from rfl) (Reps.one (show Kd.M (Kd.int .u32) _ _ _ 3584528711 [.int .u32 3584528711] from rfl) (Reps.one (show Kd.M (Kd.int .u32) _ _ _ 113926993 [.int .u32 113926993] from rfl) (Reps.one (show Kd.M (Kd.int .u32) _ _ _ 338241895 [.int .u32 338241895] from rfl) (Reps.one (show Kd.M (Kd.int .u32) _ _ _ 666307205 [.int .u32 666307205] from rfl) (Reps.one (show Kd.M (Kd.int .u32) _ _ _ 773529912 [.int .u32 773529912] from rfl) (Reps.one (show Kd.M (Kd.int .u32) _ _ _ 1294757372 [.int .u32 1294757372] from rfl) (Reps.one (show Kd.M (Kd.int .u32) _ _ _ 1396182291 [.int .u32 1396182291] from rfl) (Reps.one (show Kd.M (Kd.int .u32) _ _ _ 1695183700 [.int .u32 1695183700] from rfl) (Reps.one (show Kd.M (Kd.int .u32) _ _ _ 1986661051 [.int .u32 1986661051] from rfl) (Reps.one (show Kd.M (Kd.int .u32) _ _ _ 2177026350 [.int .u32 2177026350] from rfl) (Reps.one (show Kd.M (Kd.int .u32) _ _ _ 2456956037 [.int .u32 2456956037] from rfl) (Reps.one (show Kd.M (Kd.int .u32) _ _ _ 2730485921 [.int .u32 2730485921] from rfl) (Reps.one (show Kd.M (Kd.int .u32) _ _ _ 2820302411 [.int .u32 2820302411] from rfl) (Reps.one (show Kd.M (Kd.int .u32) _ _ _ 3259730800 [.int .u32 3259730800] from rfl) (Reps.one (show Kd.M (Kd.int .u32) _ _ _ 3345764771 [.int .u32 3345764771] from rfl) (Reps.one (show Kd.M (Kd.int .u32) _ _ _ 3516065817 [.int .u32 3516065817] from rfl) (Reps.one (show Kd.M (Kd.int .u32) _ _ _ 3600352804 [.int .u32 3600352804] from rfl) (Reps.one (show Kd.M (Kd.int .u32) _ _ _ 4094571909 [.int .u32 4094571909] from rfl) (Reps.one (show Kd.M (Kd.int .u32) _ _ _ 275423344 [.int .u32 275423344] from rfl) (Reps.one (show Kd.M (Kd.int .u32) _ _ _ 430227734 [.int .u32 430227734] from rfl) (Reps.one (show Kd.M (Kd.int .u32) _ _ _ 506948616 [.int .u32 506948616] from rfl) (Reps.one (show Kd.M (Kd.int .u32) _ _ _ 659060556 [.int .u32 659060556] from rfl) (Reps.one (show Kd.M (Kd.int .u32) _ _ _ 883997877 [.int .u32 883997877] from rfl) (Reps.one (show Kd.M (Kd.int .u32) _ _ _ 958139571 [.int .u32 958139571] from rfl) (Reps.one (show Kd.M (Kd.int .u32) _ _ _ 1322822218 [.int .u32 1322822218] from rfl) (Reps.one (show Kd.M (Kd.int .u32) _ _ _ 1537002063 [.int .u32 1537002063] from rfl) (Reps.one (show Kd.M (Kd.int .u32) _ _ _ 1747873779 [.int .u32 1747873779] from rfl) (Reps.one (show Kd.M (Kd.int .u32) _ _ _ 1955562222 [.int .u32 1955562222] from rfl) (Reps.one (show Kd.M (Kd.int .u32) _ _ _ 2024104815 [.int .u32 2024104815] from rfl) (Reps.one (show Kd.M (Kd.int .u32) _ _ _ 2227730452 [.int .u32 2227730452] from rfl) (Reps.one (show Kd.M (Kd.int .u32) _ _ _ 2361852424 [.int .u32 2361852424] from rfl) (Reps.one (show Kd.M (Kd.int .u32) _ _ _ 2428436474 [.int .u32 2428436474] from rfl) (Reps.one (show Kd.M (Kd.int .u32) _ _ _ 2756734187 [.int .u32 2756734187] from rfl) (Reps.one (show Kd.M (Kd.int .u32) _ _ _ 3204031479 [.int .u32 3204031479] from rfl) (Reps.one (show Kd.M (Kd.int .u32) _ _ _ 3329325298 [.int .u32 3329325298] from rfl) (Reps.none _ _)))))))))))))))))))))))))))))))))))))))))))))))))))))))))))))))))); intro v1090002 w1 ho2 hb hg_ hnew_; clear hg_ hnew_; (first | rw [← Ny1090001.out] at ho2 | (simp only [Int.reduceToNat] at ho2; rw [← Ny1090001.out] at ho2)); have n0_ := Aside0.mk (Kd.R_lower ho2 (below_size zq_0)); have n1_ := Aside0.mk (below_step zq_0 hb); clear HB; have HO1090003 := n0_; have HB := n1_; clear n0_ n1_; clear hb ho2))
 go_ret
 exact ⟨_, by first | rfl | (simp [errW_none, errW_some] <;> rfl) | (simp [*, errW_none, errW_some] <;> rfl), by (with_reducible repeat (first | apply Kd.R_alloc | apply Kd.R_drewN | apply Kd.R_drew)); exact HO1090003.out, by repeat (first | (with_reducible first | exact HB.out | apply below_alloc | apply pw_below_drewN | apply below_drew1) | exact HB.out)⟩
end Go.Proofs.YthnnphinfiobmaaDoor.Z
end
section
namespace Go.Proofs.YthnnphinfiobmaaDoor
open Go.RowKit
set_option linter.unusedVariables false
set_option linter.unusedSimpArgs false
theorem ret_bool {a b : Bool} (h : a = b) : Ending.returned (.bool a) = .returned (.bool b) := by rw [h]
theorem ret_str {a b : ByteArray} (h : a = b) : Ending.returned (.string a) = .returned (.string b) := by rw [h]
theorem bcell {W w1 : World} (hb : Below W.heap.size W w1) : (∀ b o, b < W.heap.size → w1.cell? ⟨b, o, none⟩ = W.cell? ⟨b, o, none⟩) ∧ (∀ b o, b < W.heap.size → w1.frozen? ⟨b, o, none⟩ = W.frozen? ⟨b, o, none⟩) :=
 ⟨fun b o h => hb.cell (p := ⟨b, o, none⟩) h, fun b o h => hb.frozen (p := ⟨b, o, none⟩) h⟩
theorem below_new2 {a w : World} (h : Below a.heap.size a w) (o : Obj) : Below a.heap.size a (w.alloc o) := h.alloc h.size o
theorem bdrewN {B : Nat} {a w : World} (h : Below B a w) (n : Nat) : Below B a (w.drewN n) := ⟨h.os, h.tape, h.output, h.size, h.block⟩
theorem lt1 (n : Nat) : n < n + 1 + 1 := by omega
theorem lt2 (n : Nat) : n < n + 1 + 1 + 1 := by omega
theorem lt3 (n : Nat) : n + 1 < n + 1 + 1 + 1 := by omega
attribute [go_sem] lt1 lt2 lt3
theorem cellB {u w1 : World} {p : Addr} {v : Value} (hb : Below u.heap.size u w1) (h : u.cell? p = some v) : w1.cell? p = some v := (hb.cell (World.block_lt_of_cell? _ _ h)).trans h
theorem held4B {u w1 : World} {p q r t : Addr} {a b c d : Value} (hb : Below u.heap.size u w1) (h : u.cell? p = some a ∧ u.cell? q = some b ∧ u.cell? r = some c ∧ u.cell? t = some d) : w1.cell? p = some a ∧ w1.cell? q = some b ∧ w1.cell? r = some c ∧ w1.cell? t = some d := ⟨cellB hb h.1, cellB hb h.2.1, cellB hb h.2.2.1, cellB hb h.2.2.2⟩
theorem below_then {a w w' : World} (h : Below a.heap.size a w) (k : Below w.heap.size w w') : Below a.heap.size a w' := h.trans (k.mono h.size)
theorem str_eq (s t : ByteArray) : (s.toList == t.toList) = decide (s = t) := by
 rw [Bool.eq_iff_iff]; simp only [beq_iff_eq, decide_eq_true_eq]; rw [ByteArray.toList_eq, ByteArray.toList_eq]
 constructor
 ·intro h; exact ByteArray.ext (Array.toList_inj.mp h)
 ·intro h; rw [h]
end Go.Proofs.YthnnphinfiobmaaDoor
end
section
namespace Go.Proofs.YthnnphinfiobmaaDoor.Z
open Go.RowKit Go.Proofs.YthnnphinfiobmaaDoor Go.Proofs.YthnnphinfiobmaaDoorW.PrintWords Go.Proofs.YthnnphinfiobmaaDoorW.PrintLast
set_option linter.unusedVariables false
set_option linter.unusedSimpArgs false
theorem w64 {x : Int} (h0 : -9223372036854775808 ≤ x) (h1 : x ≤ 9223372036854775807) : wrap64 x = x := by unfold wrap64; omega
def turn (x n : Int) : Int := Go.bits .or .u32 (shr .u32 x n) (shl .u32 x (32 - n))
theorem wrapU64 {x : Int} (h0 : 0 ≤ x) (h1 : x < 18446744073709551616) : IntKind.u64.wrap x = x := by
 simp [IntKind.wrap, IntKind.bits, IntKind.signed]; omega
theorem l1Turn_f (x n : Int) (h0 : 0 ≤ n) (h1 : n ≤ 32) : spec_l1Turn.f x n = some (turn x n) := by
 unfold spec_l1Turn.f turn; rw [wrapU64 h0 (by omega), w64 (by omega) (by omega), wrapU64 (by omega) (by omega), if_pos h0, if_pos (by omega)]
theorem or_comm32 (a b : Int) : Go.bits .or .u32 a b = Go.bits .or .u32 b a := by
 show IntKind.u32.wrap (((BitVec.ofInt 32 a ||| BitVec.ofInt 32 b).toNat : Nat) : Int) = IntKind.u32.wrap (((BitVec.ofInt 32 b ||| BitVec.ofInt 32 a).toNat : Nat) : Int); rw [BitVec.or_comm]
theorem rot_f (x : Int) (n : Nat) (h : n ∈ [2, 6, 7, 11, 13, 17, 18, 19, 22, 25]) : bits_RotateLeft32.f x (-(n : Int)) = some (turn x n) := by
 have key : ∀ n ∈ [2, 6, 7, 11, 13, 17, 18, 19, 22, 25], Go.bits .and .u64 (IntKind.u64.wrap (-((n : Nat) : Int))) 31 = 32 - (n : Int) ∧ IntKind.u64.wrap (32 - (32 - (n : Int))) = n ∧ 0 ≤ 32 - (n : Int) := by decide
 obtain ⟨k1, k2, k3⟩ := key n h; unfold bits_RotateLeft32.f turn; rw [k1, k2, if_pos k3, if_pos (by omega), or_comm32]
def rdN (l : List Int) (i : Nat) : Int := l.getD i 0
theorem rd_nat (l : List Int) (i : Nat) : rd l (i : Int) = rdN l i := rfl
def wordP (b : List Int) (i : Nat) : Int := Go.bits .or .u32 (Go.bits .or .u32 (Go.bits .or .u32 (((rdN b (4 * i) % 4294967296) * 16777216) % 4294967296) (((rdN b (4 * i + 1) % 4294967296) * 65536) % 4294967296)) (((rdN b (4 * i + 2) % 4294967296) * 256) % 4294967296)) (rdN b (4 * i + 3) % 4294967296)
def nextP (w : List Int) (n : Nat) : Int := ((((((rdN w (n - 16)) + (Go.bits .xor .u32 (Go.bits .xor .u32 (turn (rdN w (n - 15)) 7) (turn (rdN w (n - 15)) 18)) ((rdN w (n - 15)) / 8))) % 4294967296) + (rdN w (n - 7))) % 4294967296) + (Go.bits .xor .u32 (Go.bits .xor .u32 (turn (rdN w (n - 2)) 17) (turn (rdN w (n - 2)) 19)) ((rdN w (n - 2)) / 1024))) % 4294967296
def schedP (b : List Int) : Nat → List Int
 | 0 => []
 | n + 1 => schedP b n ++ [if n < 16 then wordP b n else nextP (schedP b n) n]
theorem schedP_length (b : List Int) : ∀ n, (schedP b n).length = n
 | 0 => rfl
 | n + 1 => by rw [schedP, List.length_append, schedP_length b n]; rfl
def blockAt (m : List Int) (fr : Nat) : List Int := (m.drop fr).take 64
theorem rd_blockAt (m : List Int) (fr j : Nat) (h : j < 64) : rdN (blockAt m fr) j = rdN m (fr + j) := by
 unfold rdN blockAt; rw [List.getD_eq_getElem?_getD, List.getD_eq_getElem?_getD, List.getElem?_take, if_pos h, List.getElem?_drop]
theorem sched_l1 (b : List Int) : ∀ (d n k : Nat), n + d = 64 → 16 ≤ n → d < k → spec_l1Schedule.l1 k (schedP b n) (n : Int) = some (schedP b 64) := by
 intro d
 induction d with
 | zero =>
  intro n k hn h16 hk; obtain ⟨k, rfl⟩ : ∃ j, k = j + 1 := ⟨k - 1, by omega⟩
  obtain rfl : n = 64 := by omega
  simp only [spec_l1Schedule.l1]; rw [if_neg (by omega)]
 | succ d ih =>
  intro n k hn h16 hk; obtain ⟨k, rfl⟩ : ∃ j, k = j + 1 := ⟨k - 1, by omega⟩
  have hl := schedP_length b n; simp only [spec_l1Schedule.l1]; have e15 : wrap64 ((n : Int) - 15) = ((n - 15 : Nat) : Int) := by rw [w64 (by omega) (by omega)]; omega
  have e2 : wrap64 ((n : Int) - 2) = ((n - 2 : Nat) : Int) := by rw [w64 (by omega) (by omega)]; omega
  have e16 : wrap64 ((n : Int) - 16) = ((n - 16 : Nat) : Int) := by rw [w64 (by omega) (by omega)]; omega
  have e7 : wrap64 ((n : Int) - 7) = ((n - 7 : Nat) : Int) := by rw [w64 (by omega) (by omega)]; omega
  have e1 : wrap64 ((n : Int) + 1) = ((n + 1 : Nat) : Int) := by rw [w64 (by omega) (by omega)]; omega
  rw [e15, e2, e16, e7, e1, hl]; clear e15 e2 e16 e7 e1; simp only [rd_nat]; rw [if_pos (by omega), if_pos (by omega), if_pos (by omega), if_pos (by omega), if_pos (by omega)]; rw [l1Turn_f _ _ (by omega) (by omega), l1Turn_f _ _ (by omega) (by omega), l1Turn_f _ _ (by omega) (by omega), l1Turn_f _ _ (by omega) (by omega)]; simp only [Option.bind_some]; rw [if_pos (by omega), if_pos (by omega), if_pos (by omega), if_pos (by omega), if_pos (by omega)]; have hs : schedP b (n + 1) = schedP b n ++ [nextP (schedP b n) n] := by rw [schedP, if_neg (by omega)]
  have := ih (n + 1) k (by omega) (by omega) (by omega); rw [hs] at this; exact this
theorem sched_l0 (m : List Int) (fr : Nat) (hm : fr + 64 ≤ m.length) (hb : m.length ≤ 1099511627776) : ∀ (d n k : Nat), n + d = 16 → d + 50 < k → spec_l1Schedule.l0 k m (fr : Int) (schedP (blockAt m fr) n) (n : Int) = some (schedP (blockAt m fr) 64) := by
 intro d
 induction d with
 | zero =>
  intro n k hn hk; obtain ⟨k, rfl⟩ : ∃ j, k = j + 1 := ⟨k - 1, by omega⟩
  obtain rfl : n = 16 := by omega
  simp only [spec_l1Schedule.l0]; rw [if_neg (by omega)]; exact sched_l1 _ 48 16 k (by omega) (by omega) (by omega)
 | succ d ih =>
  intro n k hn hk; obtain ⟨k, rfl⟩ : ∃ j, k = j + 1 := ⟨k - 1, by omega⟩
  have hl := schedP_length (blockAt m fr) n; simp only [spec_l1Schedule.l0]; have e4 : wrap64 (4 * (n : Int)) = ((4 * n : Nat) : Int) := by rw [w64 (by omega) (by omega)]; omega
  rw [e4]; have f0 : wrap64 ((fr : Int) + ((4 * n : Nat) : Int)) = ((fr + 4 * n : Nat) : Int) := by rw [w64 (by omega) (by omega)]; omega
  rw [f0]; have f1 : wrap64 (((fr + 4 * n : Nat) : Int) + 1) = ((fr + 4 * n + 1 : Nat) : Int) := by rw [w64 (by omega) (by omega)]; omega
  have f2 : wrap64 (((fr + 4 * n : Nat) : Int) + 2) = ((fr + 4 * n + 2 : Nat) : Int) := by rw [w64 (by omega) (by omega)]; omega
  have f3 : wrap64 (((fr + 4 * n : Nat) : Int) + 3) = ((fr + 4 * n + 3 : Nat) : Int) := by rw [w64 (by omega) (by omega)]; omega
  have e1 : wrap64 ((n : Int) + 1) = ((n + 1 : Nat) : Int) := by rw [w64 (by omega) (by omega)]; omega
  rw [f1, f2, f3, e1, hl]; clear f0 f1 f2 f3 e1 e4; simp only [rd_nat]; rw [if_pos (by omega), if_pos (by omega), if_pos (by omega), if_pos (by omega), if_pos (by omega), if_pos (by omega), if_pos (by omega), if_pos (by omega), if_pos (by omega), if_pos (by omega)]; have hs : schedP (blockAt m fr) (n + 1) = schedP (blockAt m fr) n ++ [wordP (blockAt m fr) n] := by rw [schedP, if_pos (by omega)]
  have := ih (n + 1) k (by omega) (by omega); rw [hs, wordP, rd_blockAt _ _ _ (by omega), rd_blockAt _ _ _ (by omega), rd_blockAt _ _ _ (by omega), rd_blockAt _ _ _ (by omega), ← Nat.add_assoc, ← Nat.add_assoc, ← Nat.add_assoc] at this; exact this
theorem l1Schedule_f (m : List Int) (fr k : Nat) (hm : fr + 64 ≤ m.length) (hb : m.length ≤ 1099511627776) (hk : 70 < k) : spec_l1Schedule.f k m (fr : Int) = some (schedP (blockAt m fr) 64) := by
 unfold spec_l1Schedule.f; exact sched_l0 m fr hm hb 16 0 k rfl (by omega)
structure St where
 a : Int
 b : Int
 c : Int
 d : Int
 e : Int
 f : Int
 g : Int
 z : Int
def St.t1 (s : St) (k w : Int) : Int := (((((((s.z + (Go.bits .xor .u32 (Go.bits .xor .u32 (turn s.e 6) (turn s.e 11)) (turn s.e 25))) % 4294967296) + (Go.bits .xor .u32 (Go.bits .and .u32 s.e s.f) (Go.bits .and .u32 (Go.bits .xor .u32 IntKind.u32.max s.e) s.g))) % 4294967296) + k) % 4294967296) + w) % 4294967296
def St.s0 (s : St) : Int := Go.bits .xor .u32 (Go.bits .xor .u32 (turn s.a 2) (turn s.a 13)) (turn s.a 22)
def St.maj (s : St) : Int := Go.bits .xor .u32 (Go.bits .xor .u32 (Go.bits .and .u32 s.a s.b) (Go.bits .and .u32 s.a s.c)) (Go.bits .and .u32 s.b s.c)
def St.rnd (s : St) (k w : Int) : St := ⟨(s.t1 k w + (s.s0 + s.maj) % 4294967296) % 4294967296, s.a, s.b, s.c, (s.d + s.t1 k w) % 4294967296, s.e, s.f, s.g⟩
def kTab : List Int := (spec_l1K.f).getD []
theorem kTab_f : spec_l1K.f = some kTab := rfl
theorem kTab_length : kTab.length = 64 := by decide +kernel
def St.run (s : St) (W : List Int) : Nat → St
 | 0 => s
 | n + 1 => (s.run W n).rnd (rdN kTab n) (rdN W n)
def St.of (h : List Int) : St := ⟨rdN h 0, rdN h 1, rdN h 2, rdN h 3, rdN h 4, rdN h 5, rdN h 6, rdN h 7⟩
def St.list (s : St) : List Int := [s.a, s.b, s.c, s.d, s.e, s.f, s.g, s.z]
def compP (h b : List Int) : List Int :=
 let s := (St.of h).run (schedP b 64) 64
 [(rdN h 0 + s.a) % 4294967296, (rdN h 1 + s.b) % 4294967296, (rdN h 2 + s.c) % 4294967296, (rdN h 3 + s.d) % 4294967296, (rdN h 4 + s.e) % 4294967296, (rdN h 5 + s.f) % 4294967296, (rdN h 6 + s.g) % 4294967296, (rdN h 7 + s.z) % 4294967296]
theorem block_l0 (h W : List Int) (hh : h.length = 8) (hW : W.length = 64) : ∀ (d n k : Nat) (s : St), n + d = 64 → d < k → s = (St.of h).run W n →
  spec_l1Block.l0 k h kTab W s.a s.b s.c s.d s.e s.f s.g s.z (n : Int) = some (
   let s := (St.of h).run W 64
   [(rdN h 0 + s.a) % 4294967296, (rdN h 1 + s.b) % 4294967296, (rdN h 2 + s.c) % 4294967296, (rdN h 3 + s.d) % 4294967296, (rdN h 4 + s.e) % 4294967296, (rdN h 5 + s.f) % 4294967296, (rdN h 6 + s.g) % 4294967296, (rdN h 7 + s.z) % 4294967296]) := by
 intro d
 induction d with
 | zero =>
  intro n k s hn hk hs; obtain ⟨k, rfl⟩ : ∃ j, k = j + 1 := ⟨k - 1, by omega⟩
  obtain rfl : n = 64 := by omega
  simp only [spec_l1Block.l0]; rw [if_neg (by omega), hh]; rw [if_pos (by omega), if_pos (by omega), if_pos (by omega), if_pos (by omega), if_pos (by omega), if_pos (by omega), if_pos (by omega), if_pos (by omega), ← hs]; rfl
 | succ d ih =>
  intro n k s hn hk hs; obtain ⟨k, rfl⟩ : ∃ j, k = j + 1 := ⟨k - 1, by omega⟩
  simp only [spec_l1Block.l0]; have e1 : wrap64 ((n : Int) + 1) = ((n + 1 : Nat) : Int) := by rw [w64 (by omega) (by omega)]; omega
  rw [e1]; clear e1; rw [if_pos (by omega)]; rw [l1Turn_f _ _ (by omega) (by omega), l1Turn_f _ _ (by omega) (by omega), l1Turn_f _ _ (by omega) (by omega), l1Turn_f _ _ (by omega) (by omega), l1Turn_f _ _ (by omega) (by omega), l1Turn_f _ _ (by omega) (by omega)]; simp only [Option.bind_some, rd_nat]; rw [if_pos (by omega), if_pos (by rw [kTab_length]; omega), if_pos (by rw [hW]; omega)]; have hr : s.rnd (rdN kTab n) (rdN W n) = (St.of h).run W (n + 1) := by rw [St.run, ← hs]
  exact ih (n + 1) k (s.rnd (rdN kTab n) (rdN W n)) (by omega) (by omega) hr
theorem l1Block_f (h m : List Int) (fr k : Nat) (hh : h.length = 8) (hm : fr + 64 ≤ m.length) (hb : m.length ≤ 1099511627776) (hk : 70 < k) :
  spec_l1Block.f k h kTab m (fr : Int) = some (compP h (blockAt m fr)) := by
 unfold spec_l1Block.f; rw [l1Schedule_f m fr k hm hb hk]; simp only [Option.bind_some]; rw [hh]; rw [if_pos (by omega), if_pos (by omega), if_pos (by omega), if_pos (by omega), if_pos (by omega), if_pos (by omega), if_pos (by omega), if_pos (by omega)]; exact block_l0 h _ hh (schedP_length _ _) 64 0 k (St.of h) rfl (by omega) rfl
end Go.Proofs.YthnnphinfiobmaaDoor.Z
end
section
namespace Go.Proofs.YthnnphinfiobmaaDoor.Z
open Go.RowKit Go.Proofs.YthnnphinfiobmaaDoor Go.Proofs.YthnnphinfiobmaaDoorW.PrintWords Go.Proofs.YthnnphinfiobmaaDoorW.PrintLast
set_option linter.unusedVariables false
set_option linter.unusedSimpArgs false
def zerosN (n : Nat) : Nat := (119 - n % 64) % 64
theorem zerosN_lt (n : Nat) : zerosN n < 64 := by unfold zerosN; omega
theorem zerosN_mod (n : Nat) : (n + 1 + zerosN n) % 64 = 56 := by unfold zerosN; omega
def lenByte (n j : Nat) : UInt8 := UInt8.ofNat (8 * n / 2 ^ (8 * (7 - j)))
def lenB (n m : Nat) : List UInt8 := (List.range m).map (lenByte n)
theorem lenB_succ (n m : Nat) : lenB n (m + 1) = lenB n m ++ [lenByte n m] := by simp [lenB, List.range_succ]
theorem lenB_length (n m : Nat) : (lenB n m).length = m := by simp [lenB]
def padZ (l : List UInt8) (j : Nat) : List UInt8 := l ++ [128] ++ List.replicate j 0
theorem padZ_length (l : List UInt8) (j : Nat) : (padZ l j).length = l.length + 1 + j := by simp [padZ]; omega
theorem padZ_succ (l : List UInt8) (j : Nat) : padZ l (j + 1) = padZ l j ++ [0] := by simp [padZ, List.replicate_succ']
def padP (l : List UInt8) : List UInt8 := padZ l (zerosN l.length) ++ lenB l.length 8
theorem padP_length (l : List UInt8) : (padP l).length = 64 * ((l.length + 72) / 64) := by
 rw [padP, List.length_append, padZ_length, lenB_length]; unfold zerosN; omega
theorem infoU8 : (Tryd.prog.info? 5).map (fun i => (i.zero, i.size, i.bytes)) = some (some (.int .u8 0), 1, 1) := by kernel_rfl
theorem len_byte_eq (n i : Nat) (hi : i ≤ 7) (hn : n ≤ 4294967296) : (((8 * n : Nat) : Int) / 2 ^ (8 * i)) % 256 = ((lenByte n (7 - i)).toNat : Int) := by
 unfold lenByte; rw [show 7 - (7 - i) = i by omega, UInt8.toNat_ofNat']; rw [show ((2 : Int) ^ (8 * i)) = ((2 ^ (8 * i) : Nat) : Int) by rw [Int.natCast_pow]; rfl]; rw [← Int.natCast_ediv]; generalize 8 * n / 2 ^ (8 * i) = q; omega
set_option maxHeartbeats 1000000 in
theorem padded_any (s : ByteArray) (w : World) (hs : s.size ≤ 4294967296) :
  Calls Tryd.prog 110 #[.string s] w fun e w' => ∃ v, e = .returned v ∧ OwnB w' w.heap.size v (padP s.data.toList) ∧ Below w.heap.size w w' := by
 have hl : s.data.toList.length = s.size := rfl; have hzl := zerosN_lt s.size; have hzm := zerosN_mod s.size; have HL := Lib.hid hl; clear hl; have HZM := Lib.hid hzm; clear hzm
 go_enter Tryd.func110, Tryd.ntmps110
 go_wp2_with (first | ((with_reducible refine gate_dst (N := 7) rfl ?_); refine wpList_bytes w.heap.size rfl 9 133 5 _ rfl Tryd.underlying9 Tryd.underlying133 Tryd.underlying5 s rfl (by first | assumption | (simp; omega) | omega) (by unfold maxLen; omega) ?_; rintro v_wb wb ho_wb hv_wb hb_wb; obtain ⟨hc_wb, hf_wb⟩ := bcell hb_wb; have hz_wb := hb_wb.size; (try simp only [World.size_alloc, World.size_setCell, World.size_drew] at hz_wb); (try simp only [World.size_alloc, World.size_setCell, World.size_drew] at hc_wb); (try simp only [World.size_alloc, World.size_setCell, World.size_drew] at hf_wb); skip) | ((with_reducible refine gate_dst (N := 10) rfl ?_); refine wpList_appB1 (w0 := wb) w.heap.size rfl _ _ 133 5 rfl Tryd.underlying133 infoU8 rfl 128 rfl rfl ho_wb (by have := HL.out; omega) (by omega) ?_; rintro v1 w1 ho1 hb1))
 go_loopw [3] (fun v wr => ∃ j : Nat, j ≤ zerosN s.size ∧ OwnB wr w.heap.size v (padZ s.data.toList j) ∧ Below w.heap.size w wr) (fun v _ => match v with | .slice _ n _ => s.size + 1 + zerosN s.size - n | _ => 0)
 case atStart => exact ⟨0, Nat.zero_le _, by simpa [padZ] using ho1, hb_wb.trans hb1⟩
 case round =>
  obtain ⟨j, hj, hO, hB⟩ := hrel; obtain ⟨A5, c5, rfl⟩ := hO.form; have hz := hB.size; have hpl := padZ_length s.data.toList j; rw [HL.out] at hpl; rw [hpl] at hO ⊢; have HPL := Lib.hid hpl; clear hpl
  by_cases hlt : j < zerosN s.size
  ·have hne : (((s.size : Int) + 1 + (j : Int)) % 64 != 56) = true := by rw [bne_iff_ne]; have := HZM.out; unfold zerosN at *; omega
   go_wp2_with ((with_reducible refine gate_dst (N := 17) rfl ?_); refine wpList_appB1 (w0 := wr) w.heap.size rfl _ _ 133 5 rfl Tryd.underlying133 infoU8 rfl 0 rfl rfl hO (by have := HPL.out; omega) (by omega) ?_; rintro v2 w2 ho2 hb2)
   obtain ⟨A6, c6, hv6⟩ := ho2.form; subst hv6
   go_roundw
   case rel => exact ⟨j + 1, by omega, by rw [padZ_succ]; exact ho2, hB.trans hb2⟩
   case measure => rw [List.length_append, HPL.out]; simp; omega
  ·obtain rfl : j = zerosN s.size := by omega
   have hne : (((s.size : Int) + 1 + (zerosN s.size : Int)) % 64 != 56) = false := by rw [bne_eq_false_iff_eq]; have := HZM.out; omega
   generalize hzz : zerosN s.size = zz at *; have HZZ := Lib.hid hzz; clear hzz
   go_wp2
   go_loopw [3, 5] (fun v i wr2 => ∃ m : Nat, m ≤ 8 ∧ i = .int .i64 (7 - (m : Int)) ∧ OwnB wr2 w.heap.size v (padZ s.data.toList zz ++ lenB s.size m) ∧ Below w.heap.size w wr2) (fun _ i _ => (intOf i + 1).toNat)
   case atStart => exact ⟨0, by omega, rfl, by simpa [lenB] using hO, hB⟩
   case round =>
    obtain ⟨m, hm, rfl, hO2, hB2⟩ := hrel; have hz2 := hB2.size; obtain ⟨A7, c7, rfl⟩ := hO2.form; have hl2 : (padZ s.data.toList zz ++ lenB s.size m).length = s.size + 1 + zz + m := by rw [List.length_append, HPL.out, lenB_length]
    rw [hl2] at hO2 ⊢; have HL2 := Lib.hid hl2; clear hl2
    by_cases h8 : m < 8
    ·have t0 : (0 : Int) ≤ 7 - (m : Int) := by omega
     have hbyte : (s.size : Int) * 8 / 2 ^ (8 * (7 - m)) % 256 = ((lenByte s.size m).toNat : Int) := by
      have := len_byte_eq s.size (7 - m) (by omega) hs; rw [show 7 - (7 - m) = m by omega, show ((8 * s.size : Nat) : Int) = (s.size : Int) * 8 by omega] at this; exact this
     go_wp2_with ((with_reducible refine gate_dst (N := 34) rfl ?_); refine wpList_appB1 (w0 := wr) w.heap.size rfl _ _ 133 5 rfl Tryd.underlying133 infoU8 rfl (lenByte s.size m) rfl rfl hO2 (by have := HL2.out; omega) (by omega) ?_; rintro v3 w3 ho3 hb3)
     obtain ⟨A8, c8, hv8⟩ := ho3.form; subst hv8; clear hbyte
     go_roundw
     case rel => exact ⟨m + 1, by omega, by go_num, by rw [lenB_succ, ← List.append_assoc]; exact ho3, hB2.trans hb3⟩
     case measure => simp [intOf]; omega
    ·obtain rfl : m = 8 := by omega
     go_wp2
     go_ret
     refine ⟨_, rfl, ?_, hB2⟩; have := HZZ.out; rw [padP, HL.out, this]; exact hO2
def ints (l : List UInt8) : List Int := l.map fun b => (b.toNat : Int)
theorem ints_length (l : List UInt8) : (ints l).length = l.length := by simp [ints]
def RB (w : World) (v : Value) (xs : List Int) : Prop := ∃ base l, OwnB w base v l ∧ xs = ints l
section
variable {w w1 : World} {v : Value} {xs : List Int}
theorem RB.below (h : RB w v xs) (hb : Below w.heap.size w w1) : RB w1 v xs := by
 obtain ⟨b, l, h1, h2⟩ := h; exact ⟨b, l, h1.below hb, h2⟩
theorem RB.alloc (h : RB w v xs) (o : Obj) : RB (w.alloc o) v xs := h.below (below_alloc (Below.refl _ _) o)
theorem RB.drew (h : RB w v xs) : RB w.drew v xs := h.below (below_drew (Below.refl _ _))
theorem RB.drewN (h : RB w v xs) (m : Nat) : RB (w.drewN m) v xs := h.below (pw_below_drewN (Below.refl _ _) m)
theorem RB.lower {a b : Nat} (h : RB w v xs) (_ : a ≤ b) : RB w v xs := h
theorem RB.slice (h : RB w v xs) : ∃ A c, v = .slice A xs.length c := by
 obtain ⟨b, l, h1, rfl⟩ := h; obtain ⟨A, c, rfl⟩ := h1.form; exact ⟨A, c, by rw [ints_length]⟩
theorem RB.reads {A : Option Addr} {n c : Nat} (h : RB w (.slice A n c) xs) : n = xs.length ∧ n ≤ c ∧ Kd.C (Kd.int .u8) w A xs.length xs := by
 obtain ⟨b, l, h1, rfl⟩ := h
 rcases h1.2 with ⟨hv, h0⟩ | ⟨g, cap, hv, h1', h2, h3, h4, h5, h6⟩
 ·cases hv
  rw [ints_length]; refine ⟨by omega, Nat.le_refl _, ?_⟩; have : l = [] := List.eq_nil_of_length_eq_zero h0; subst this; exact Kd.C_of_reads (d := (0 : Int)) (h1 := fun _ => rfl) (show ReadsInt w .u8 none 0 [] from ⟨rfl, by omega, fun h => by omega⟩)
 ·cases hv
  rw [ints_length]; refine ⟨rfl, h3, ?_⟩; refine Kd.C_of_reads (d := (0 : Int)) (h1 := fun _ => rfl) (show ReadsInt w .u8 (some ⟨g, 0, none⟩) l.length (ints l) from ⟨ints_length l, by unfold maxLen at h4; omega, fun _ => ⟨_, rfl, fun i hi => ?_⟩⟩); have h5' := h5 i (by omega); rw [bcs_get l i hi] at h5'; have e : (⟨g, 0, none⟩ : Addr).add i = ⟨g, i, none⟩ := by simp [Addr.add]; omega
  rw [e, h5']; simp [ints, List.getD_eq_getElem?_getD, hi]
end
def spec_l1Padded.f (a0 : ByteArray) : Option (List Int) := if a0.size ≤ 4294967296 then some (ints (padP a0.data.toList)) else none
theorem spec_l1Padded.calls (a0 : ByteArray) (r : List Int) (w : World) (h : spec_l1Padded.f a0 = some r) :
  Calls Tryd.prog 110 #[.string a0] w fun e w' => ∃ v0_ : Value, e = .returned (v0_) ∧ RB w' v0_ r ∧ Below w.heap.size w w' := by
 unfold spec_l1Padded.f at h
 split at h
 ·obtain rfl := Option.some.inj h; refine (padded_any a0 w (by assumption)).mono ?_; rintro e w' ⟨v, rfl, ho, hb⟩; exact ⟨v, rfl, ⟨_, _, ho, rfl⟩, hb⟩
 ·cases h
end Go.Proofs.YthnnphinfiobmaaDoor.Z
end
