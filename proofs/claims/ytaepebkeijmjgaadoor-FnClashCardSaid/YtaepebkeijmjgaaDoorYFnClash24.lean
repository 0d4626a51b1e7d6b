/- Own texts, joined. -/
import Derived.Test.YtaepebkeijmjgaaDoorYFnClash27
import Derived.Test.YtaepebkeijmjgaaDoorYFnClash28
import Derived.Test.YtaepebkeijmjgaaDoorYFnClash21
import Derived.Test.YtaepebkeijmjgaaDoorYFnClash23
import Derived.Test.YtaepebkeijmjgaaDoorYFnClash22
section
namespace Go.Proofs.YtaepebkeijmjgaaDoor.Z
open RowKit YtaepebkeijmjgaaDoorW.PrintWords YtaepebkeijmjgaaDoorW.PrintLast YtaepebkeijmjgaaDoorW.PrintMore
attribute [local go_sem] max2_int min2_int max_two min_two max_three min_three max_four min_four
set_option linter.all false
def spec_l4DrawMap.l0 : Nat → List Int → Int → Int → List (S77) → Int → Option ((List (S77)) × Int)
 | 0, _, _, _, _, _ => none
 | k + 1, x0, x1, x2, x8, x9 => if x9 < x2 then ((spec_l1DrawKey.f k x0 x1).bind fun bt1320004 => ((spec_l2DrawVal.f k x0 bt1320004.2).bind fun bt1320006 => ((spec_l4With.f k x8 bt1320004.1 bt1320006.1).bind fun t1320008 => (spec_l4DrawMap.l0 k x0 bt1320006.2 x2 t1320008 (wrap64 (x9 + 1)))))) else (some (x8, x1))
def spec_l4DrawMap.f (k : Nat) (l0 : List Int) (a1 : Int) (a2 : Int) : Option ((List (S77)) × Int) := spec_l4DrawMap.l0 k l0 a1 a2 (([] : List (S77))) 0
set_option maxHeartbeats 8000000 in
set_option maxRecDepth 100000 in
theorem spec_l4DrawMap.calls (k : Nat) (A0 : Option Addr) (c0 : Nat) (l0 : List Int) (a1 : Int) (a2 : Int) (r1 : List (S77)) (r2 : Int) (w : World) (hr0 : Kd.C (Kd.int .u8) w A0 l0.length l0) (hc0 : l0.length ≤ c0) (h : spec_l4DrawMap.f k l0 a1 a2 = some (r1, r2)) :
  Calls Tryd.prog 132 #[.slice A0 l0.length c0, .int .i64 a1, .int .i64 a2] w fun e w' => ∃ v0_ : Value, e = .returned (.tuple #[v0_, .int .i64 r2]) ∧ Kd.R k77 77 w' w.heap.size (fun _ => True) v0_ r1 ∧ Below w.heap.size w w' := by
 have HR0 := Aside0.mk hr0; have HC0 := Aside0.mk hc0; clear hr0 hc0; have HB := Aside0.mk (Below.refl w.heap.size w); have H : (spec_l4DrawMap.l0 k l0 a1 a2 (([] : List (S77))) 0) = some (r1, r2) := h; clear h; obtain ⟨y1320001, hy1320001⟩ : ∃ y_ : List (S77), y_ = (([] : List (S77))) := ⟨_, rfl⟩
 replace H : (spec_l4DrawMap.l0 k l0 a1 a2 y1320001 0) = some (r1, r2) := by first | (rw [hy1320001]; with_reducible exact H) | (have H2_ := (Option.bind_some _ _).symm.trans H; rw [hy1320001]; with_reducible exact H2_) | (have H2_ := (Option.bind_some _ _).symm.trans H; with_reducible exact H2_) | with_reducible exact H | (rw [hy1320001]; exact H) | exact H
 have Ny1320001 := Aside0.mk hy1320001; clear hy1320001; have H' := Aside0.mk H; clear H
 go_enter Tryd.func132, Tryd.ntmps132
 go_wp2_with (first | ((with_reducible refine gate_dst (N := 14) rfl ?_); refine Kd.R_lit k77 _ 77 ?hg (N := 14) ?hd (xs := ([] : List (S77))) (inner := []) (ok := fun _ => True) (okp := fun _ => True) ?hr ?hp (fun _ hk => hk) trivial (Below.refl _ _) (Nat.le_refl _) (by simp) ?_; (case hd => rfl); (case hg => rfl); (case hr => exact zq_14); (case hp => exact (Reps.none _ _)); intro v1320002 w4 ho5 hb hg_ hnew_; clear hg_ hnew_; (first | rw [← Ny1320001.out] at ho5 | (simp only [Int.reduceToNat] at ho5; rw [← Ny1320001.out] at ho5)); have n0_ := Aside0.mk (Kd.R_lower ho5 (below_size zq_0)); have n1_ := Aside0.mk (below_step zq_0 hb); clear HB; have HO1320003 := n0_; have HB := n1_; clear n0_ n1_; clear hb ho5))
 go_loopg [1, 8, 9] k (fun kq v1 v8 v9 w' => ∃ (x1_1 : Int) (x8_1 : List (S77)) (x9_1 : Int), v1 = .int .i64 x1_1 ∧ v9 = .int .i64 x9_1 ∧ Aside0 (spec_l4DrawMap.l0 kq l0 x1_1 a2 x8_1 x9_1 = some (r1, r2)) ∧ Aside0 (kq ≤ k) ∧ Aside0 (Kd.R k77 77 w' w.heap.size (fun _ => True) v8 x8_1) ∧ Aside0 (Below w.heap.size w w'))
 case atStart => exact ⟨(a1), (y1320001), (0), zq_4, zq_4, H', ⟨Nat.le_refl _⟩, ⟨by (with_reducible repeat (first | apply Kd.R_alloc | apply Kd.R_drewN | apply Kd.R_drew)); exact HO1320003.out⟩, ⟨by repeat (first | (with_reducible first | exact HB.out | apply below_alloc | apply pw_below_drewN | apply below_drew1) | exact HB.out)⟩⟩
 case round =>
  clear H'
  try clear c1
  try clear p2
  obtain ⟨x1_1, x8_1, x9_1, rfl, rfl, HA, HK1, HO_8, HB⟩ := hrel
  cases gk with
  | zero => exact absurd HA.out (by simp [spec_l4DrawMap.l0])
  | succ k1 =>
   have H := HA.out; clear HA; simp only [spec_l4DrawMap.l0] at H
   by_cases c6 : x9_1 < a2
   ·rw [if_pos c6] at H; have c6b0 : decide (x9_1 < a2) = true := decide_eq_true c6; clear c6; replace H := Option.bind_eq_some_iff.mp H; obtain ⟨⟨t1320004, t1320005⟩, A70, H⟩ := H; (try dsimp only at H); have A7 := Aside0.mk A70; clear A70; replace H := Option.bind_eq_some_iff.mp H; obtain ⟨⟨t1320006, t1320007⟩, A80, H⟩ := H; (try dsimp only at H); have A8 := Aside0.mk A80; clear A80; replace H := Option.bind_eq_some_iff.mp H; obtain ⟨t1320008, A90, H⟩ := H; (try dsimp only at H); have A9 := Aside0.mk A90; clear A90; have H' := Aside0.mk H; clear H
    go_wp2_with (first | ((with_reducible refine gate_callee (f := 135) rfl ?_); refine goesL_ (some 23) rfl rfl Tryd.func135 (by kernel_rfl) rfl #[.slice A0 l0.length c0, .int .i64 x1_1] rfl zq_1 ?_; (with_reducible refine (spec_l1DrawKey.calls k1 _ _ l0 x1_1 t1320004 t1320005 _ ?side1 ?side2 A7.out).mono ?_); (case side1 => exact zq_8); (case side2 => exact HC0.out); rintro e w10 ⟨rfl, hb⟩; refine ⟨_, rfl, ?_⟩; have n0_ := Aside0.mk (Kd.R_below zq_20 hb); have n1_ := Aside0.mk (below_step zq_0 hb); clear HO_8; clear HB; have HO_8 := n0_; have HB := n1_; clear n0_ n1_; (try clear hb); (try clear hb2); (try clear hk); (try clear hi)) | ((with_reducible refine gate_callee (f := 136) rfl ?_); refine goesL_ (some 29) rfl rfl Tryd.func136 (by kernel_rfl) rfl #[.slice A0 l0.length c0, .int .i64 t1320005] rfl zq_1 ?_; (with_reducible refine (spec_l2DrawVal.calls k1 _ _ l0 t1320005 t1320006 t1320007 _ ?side1 ?side2 A8.out).mono ?_); (case side1 => exact zq_8); (case side2 => exact HC0.out); rintro e w11 ⟨rfl, hb⟩; refine ⟨_, rfl, ?_⟩; have n0_ := Aside0.mk (Kd.R_below zq_20 hb); have n1_ := Aside0.mk (below_step zq_0 hb); clear HO_8; clear HB; have HO_8 := n0_; have HB := n1_; clear n0_ n1_; (try clear hb); (try clear hb2); (try clear hk); (try clear hi); obtain ⟨Ao12, co12, eo12⟩ := Kd.R_slice HO_8.out; subst eo12) | ((with_reducible refine gate_callee (f := 104) rfl ?_); refine goesL_ (some 36) rfl rfl Tryd.func104 (by kernel_rfl) rfl #[.slice Ao12 x8_1.length co12, .string t1320004, .string t1320006] rfl zq_1 ?_; (with_reducible refine (spec_l4With.calls k1 _ _ x8_1 t1320004 t1320006 t1320008 _ ?side1 ?side2 A9.out).mono ?_); (case side1 => repeat (first | exact (Kd.R_reads' HO_8.out).2.2 | (with_reducible refine Kd.C_alloc ?_ _) | (with_reducible refine Kd.C_drewN ?_ _) | (with_reducible refine Kd.C_drew ?_))); (case side2 => exact (Kd.R_reads' HO_8.out).2.1); rintro e w13 ⟨v1320009, rfl, ho0, hb⟩; refine ⟨_, rfl, ?_⟩; have n0_ := Aside0.mk (Kd.R_elder' zq_20 (Kd.R_base ho0) hb); have n1_ := Aside0.mk (Kd.R_lower (Kd.R_new' ho0 (Kd.R_lt zq_20)) (below_size zq_0)); have n2_ := Aside0.mk (below_step zq_0 hb); clear HO_8; clear HB; have HO_8 := n0_; have HO1320010 := n1_; have HB := n2_; clear n0_ n1_ n2_; (try clear hb); (try clear hb2); (try clear hk); (try clear hi); (try clear ho0)))
    go_roundg k1
    case measure => have := HK1.out; omega
    case rel => exact ⟨(t1320007), (t1320008), (wrap64 (x9_1 + 1)), zq_4, zq_4, H', ⟨by have := HK1.out; omega⟩, ⟨by (with_reducible repeat (first | apply Kd.R_alloc | apply Kd.R_drewN | apply Kd.R_drew)); exact Kd.R_mono HO1320010.out (fun _ hk => trivial)⟩, ⟨by repeat (first | (with_reducible first | exact HB.out | apply below_alloc | apply pw_below_drewN | apply below_drew1) | exact HB.out)⟩⟩
   ·rw [if_neg c6] at H; have c6b0 : decide (x9_1 < a2) = false := decide_eq_false c6; clear c6; simp only [Option.some.injEq, Prod.mk.injEq] at H; obtain ⟨rfl, rfl⟩ := H
    go_wp2
    go_ret2
    exact ⟨_, by first | rfl | (simp [errW_none, errW_some] <;> rfl) | (simp [*, errW_none, errW_some] <;> rfl), by (with_reducible repeat (first | apply Kd.R_alloc | apply Kd.R_drewN | apply Kd.R_drew)); exact HO_8.out, by repeat (first | (with_reducible first | exact HB.out | apply below_alloc | apply pw_below_drewN | apply below_drew1) | exact HB.out)⟩
mutual
def spec_l4AnyMap.j0 : Nat → Int → List (S77) → Int → Bool → Option ((List (S77)) × Int)
 | 0, _, _, _, _ => none
 | k + 1, x6, x7, x8, x30 => if x30 = true then (if 0 < (x7.length : Int) then (if 1 < (x7.length : Int) then (spec_l4AnyMap.j1 k x6 ((x7.set (0 : Int).toNat (⟨(rd_T77 x7 1).f0, (rd_T77 x7 1).f1⟩ : S77)).set (1 : Int).toNat (⟨(rd_T77 x7 0).f0, (rd_T77 x7 0).f1⟩ : S77)) x8) else (none)) else (none)) else (spec_l4AnyMap.j1 k x6 x7 x8)
def spec_l4AnyMap.j1 : Nat → Int → List (S77) → Int → Option ((List (S77)) × Int)
 | 0, _, _, _ => none
 | k + 1, x6, x7, x8 => if x6 = 36 then (spec_l4AnyMap.j2 k x6 x7 x8 (decide ((x7.length : Int) > 0))) else (spec_l4AnyMap.j2 k x6 x7 x8 false)
def spec_l4AnyMap.j2 : Nat → Int → List (S77) → Int → Bool → Option ((List (S77)) × Int)
 | 0, _, _, _, _ => none
 | k + 1, x6, x7, x8, x48 => if x48 = true then (if 0 ≤ (wrap64 ((x7.length : Int) - 1)) then (if (wrap64 ((x7.length : Int) - 1)) < (x7.length : Int) then (if x7.length < 4398046511104 then (spec_l4AnyMap.j3 k x6 (x7 ++ [(⟨(rd_T77 x7 (wrap64 ((x7.length : Int) - 1))).f0, (rd_T77 x7 (wrap64 ((x7.length : Int) - 1))).f1⟩ : S77)]) x8) else (none)) else (none)) else (none)) else (spec_l4AnyMap.j3 k x6 x7 x8)
def spec_l4AnyMap.j3 : Nat → Int → List (S77) → Int → Option ((List (S77)) × Int)
 | 0, _, _, _ => none
 | k + 1, x6, x7, x8 => if x6 = 37 then ((some (([(⟨(⟨#[]⟩ : ByteArray), (⟨#[]⟩ : ByteArray)⟩ : S77)] : List (S77)) : List (S77))).bind fun y870017 => (if y870017.length + x7.length < 4398046511104 then (spec_l4AnyMap.j4 k x6 (y870017 ++ x7) x8) else (none))) else (spec_l4AnyMap.j4 k x6 x7 x8)
def spec_l4AnyMap.j4 : Nat → Int → List (S77) → Int → Option ((List (S77)) × Int)
 | 0, _, _, _ => none
 | k + 1, x6, x7, x8 => if x6 = 38 then ((spec_l1Long.f (wrap64 (256 + (Int.tmod x8 2))) (⟨#[107]⟩ : ByteArray)).bind fun t870023 => ((spec_l1Long.f 2000 (⟨#[118]⟩ : ByteArray)).bind fun t870024 => (if x6 = 39 then ((spec_l1Long.f (wrap64 (2000 + (Int.tmod x8 2))) (⟨#[118]⟩ : ByteArray)).bind fun t870028 => (some ((([(⟨(⟨#[107]⟩ : ByteArray), t870028⟩ : S77)] : List (S77))), x8))) else (some ((([(⟨t870023, t870024⟩ : S77)] : List (S77))), x8))))) else (if x6 = 39 then ((spec_l1Long.f (wrap64 (2000 + (Int.tmod x8 2))) (⟨#[118]⟩ : ByteArray)).bind fun t870032 => (some ((([(⟨(⟨#[107]⟩ : ByteArray), t870032⟩ : S77)] : List (S77))), x8))) else (some (x7, x8)))
end
def spec_l4AnyMap.f (k : Nat) (l0 : List Int) (a1 : Int) : Option ((List (S77)) × Int) := (spec_l1Take.f k l0 a1 40).bind fun bt870001 => ((spec_l1Count.f l0 8 1 14).bind fun t870003 => ((spec_l4DrawMap.f k l0 bt870001.2 t870003).bind fun bt870004 => (if bt870001.1 = 35 then (spec_l4AnyMap.j0 k bt870001.1 bt870004.1 bt870004.2 (decide ((bt870004.1.length : Int) > 1))) else (spec_l4AnyMap.j0 k bt870001.1 bt870004.1 bt870004.2 false))))
set_option maxHeartbeats 8000000 in
set_option maxRecDepth 100000 in
theorem spec_l4AnyMap.calls (k : Nat) (A0 : Option Addr) (c0 : Nat) (l0 : List Int) (a1 : Int) (r1 : List (S77)) (r2 : Int) (w : World) (hr0 : Kd.C (Kd.int .u8) w A0 l0.length l0) (hc0 : l0.length ≤ c0) (h : spec_l4AnyMap.f k l0 a1 = some (r1, r2)) :
  Calls Tryd.prog 87 #[.slice A0 l0.length c0, .int .i64 a1] w fun e w' => ∃ v0_ : Value, e = .returned (.tuple #[v0_, .int .i64 r2]) ∧ Kd.R k77 77 w' w.heap.size (fun _ => True) v0_ r1 ∧ Below w.heap.size w w' := by
 have hu77 := Tryd.underlying77; have HR0 := Aside0.mk hr0; have HC0 := Aside0.mk hc0; clear hr0 hc0; have HB := Aside0.mk (Below.refl w.heap.size w); have H : ((spec_l1Take.f k l0 a1 40).bind fun bt870001 => ((spec_l1Count.f l0 8 1 14).bind fun t870003 => ((spec_l4DrawMap.f k l0 bt870001.2 t870003).bind fun bt870004 => (if bt870001.1 = 35 then (spec_l4AnyMap.j0 k bt870001.1 bt870004.1 bt870004.2 (decide ((bt870004.1.length : Int) > 1))) else (spec_l4AnyMap.j0 k bt870001.1 bt870004.1 bt870004.2 false))))) = some (r1, r2) := h; clear h; replace H := Option.bind_eq_some_iff.mp H; obtain ⟨⟨t870001, t870002⟩, A30, H⟩ := H; (try dsimp only at H); have A3 := Aside0.mk A30; clear A30; replace H := Option.bind_eq_some_iff.mp H; obtain ⟨t870003, A40, H⟩ := H; (try dsimp only at H); have A4 := Aside0.mk A40; clear A40; replace H := Option.bind_eq_some_iff.mp H; obtain ⟨⟨t870004, t870005⟩, A50, H⟩ := H; (try dsimp only at H); have A5 := Aside0.mk A50; clear A50; have HC6 := Aside0.mk H; clear H
 go_enter Tryd.func87, Tryd.ntmps87
 go_upto_region 4 with (first | ((with_reducible refine gate_callee (f := 85) rfl ?_); refine goesL_ (some 13) rfl rfl Tryd.func85 (by kernel_rfl) rfl #[.slice A0 l0.length c0, .int .i64 a1, .int .i64 40] rfl zq_1 ?_; (with_reducible refine (spec_l1Take.calls k _ _ l0 a1 40 t870001 t870002 _ ?side1 ?side2 A3.out).mono ?_); (case side1 => exact zq_5); (case side2 => exact HC0.out); rintro e w' ⟨rfl, ⟨nd, rfl⟩⟩; refine ⟨_, rfl, ?_⟩) | ((with_reducible refine gate_callee (f := 133) rfl ?_); refine goesL_ (some 20) rfl rfl Tryd.func133 (by kernel_rfl) rfl #[.slice A0 l0.length c0, .int .i64 8, .int .i64 1, .int .i64 14] rfl zq_1 ?_; (with_reducible refine (spec_l1Count.calls _ _ l0 8 1 14 t870003 _ ?side1 ?side2 A4.out).mono ?_); (case side1 => exact zq_5); (case side2 => exact HC0.out); rintro e w' ⟨rfl, ⟨nd, rfl⟩⟩; refine ⟨_, rfl, ?_⟩) | ((with_reducible refine gate_callee (f := 132) rfl ?_); refine goesL_ (some 21) rfl rfl Tryd.func132 (by kernel_rfl) rfl #[.slice A0 l0.length c0, .int .i64 t870002, .int .i64 t870003] rfl zq_1 ?_; (with_reducible refine (spec_l4DrawMap.calls k _ _ l0 t870002 t870003 t870004 t870005 _ ?side1 ?side2 A5.out).mono ?_); (case side1 => exact zq_5); (case side2 => exact HC0.out); rintro e w7 ⟨v870006, rfl, ho0, hb⟩; refine ⟨_, rfl, ?_⟩; have n0_ := Aside0.mk (Kd.R_lower ho0 (below_size zq_0)); have n1_ := Aside0.mk (below_step zq_0 hb); clear HB; have HO870007 := n0_; have HB := n1_; clear n0_ n1_; (try clear hb); (try clear hb2); (try clear hk); (try clear hi); (try clear ho0)))
 (try simp only [Act.put, List.setIfInBounds_toArray, List.set_cons_zero, List.set_cons_succ])
 go_cut [30] (fun v30 wc => ∃ (kq : Nat) (x30_5 : Bool), v30 = .bool x30_5 ∧ Aside0 (spec_l4AnyMap.j0 kq t870001 t870004 t870005 x30_5 = some (r1, r2)) ∧ Aside0 (kq ≤ k) ∧ Aside0 (Kd.R k77 77 wc w.heap.size (fun _ => True) v870006 t870004) ∧ Aside0 (Below w.heap.size w wc))
 case first =>
  have H := HC6.out; clear HC6
  by_cases c8 : t870001 = 35
  ·rw [if_pos c8] at H; have c8b0 : (t870001 == 35) = true := beq_iff_eq.mpr c8; have c8b1 : (t870001 != 35) = false := bne_eq_false_iff_eq.mpr c8; clear c8; (first | rw [c8b0] | (simp only [i64_w, i32_w]; rw [c8b0]) | skip); have H' := Aside0.mk H; clear H; obtain ⟨Ao9, co9, eo9⟩ := Kd.R_slice HO870007.out; subst eo9
   go_wp2
   go_meet
   case rel => exact ⟨_, (decide ((t870004.length : Int) > 1)), zq_4, H', ⟨by first | omega | exact Nat.le_refl _⟩, ⟨by (with_reducible repeat (first | apply Kd.R_alloc | apply Kd.R_drewN | apply Kd.R_drew)); exact HO870007.out⟩, ⟨by repeat (first | (with_reducible first | exact HB.out | apply below_alloc | apply pw_below_drewN | apply below_drew1) | exact HB.out)⟩⟩
  ·rw [if_neg c8] at H; have c8b0 : (t870001 == 35) = false := beq_eq_false_iff_ne.mpr c8; have c8b1 : (t870001 != 35) = true := bne_iff_ne.mpr c8; (first | rw [c8b0] | (simp only [i64_w, i32_w]; rw [c8b0]) | skip); have H' := Aside0.mk H; clear H
   go_wp2
   go_meet
   case rel => exact ⟨_, (false), zq_4, H', ⟨by first | omega | exact Nat.le_refl _⟩, ⟨by (with_reducible repeat (first | apply Kd.R_alloc | apply Kd.R_drewN | apply Kd.R_drew)); exact HO870007.out⟩, ⟨by repeat (first | (with_reducible first | exact HB.out | apply below_alloc | apply pw_below_drewN | apply below_drew1) | exact HB.out)⟩⟩
 case rest =>
  clear HC6
  try clear c1
  try clear p2
  try clear c8
  try clear c8b0
  try clear c8b1
  obtain ⟨kq, x30_5, rfl, HA, HJ5, HO_7, HB⟩ := hcut
  cases kq with
  | zero => exact absurd HA.out (by simp [spec_l4AnyMap.j0])
  | succ kj5 =>
   have H := HA.out; clear HA; simp only [spec_l4AnyMap.j0] at H; have HC10 := Aside0.mk H; clear H
   go_upto_if 30 with (fail)
   go_cut [] (fun wc => ∃ (kq : Nat) (x7_9 : List (S77)), Aside0 (spec_l4AnyMap.j1 kq t870001 x7_9 t870005 = some (r1, r2)) ∧ Aside0 (kq ≤ kj5) ∧ Aside0 (Kd.R k77 77 wc w.heap.size (fun _ => True) v870006 x7_9) ∧ Aside0 (Below w.heap.size w wc))
   case first =>
    have H := HC10.out; clear HC10
    by_cases c11 : x30_5 = true
    ·subst c11; have H1 : (if 0 < (t870004.length : Int) then (if 1 < (t870004.length : Int) then (spec_l4AnyMap.j1 kj5 t870001 ((t870004.set (0 : Int).toNat (⟨(rd_T77 t870004 1).f0, (rd_T77 t870004 1).f1⟩ : S77)).set (1 : Int).toNat (⟨(rd_T77 t870004 0).f0, (rd_T77 t870004 0).f1⟩ : S77)) t870005) else (none)) else (none)) = some (r1, r2) := by rw [if_pos rfl] at H; exact H
     clear H; have H := H1; clear H1
     by_cases c12 : 0 < (t870004.length : Int)
     ·rw [if_pos c12] at H; have c12b0 : decide (0 < (t870004.length : Int)) = true := decide_eq_true c12; have c12b1 : decide (0 < t870004.length) = true := decide_eq_true (by omega); clear c12; (first | rw [c12b0] | (simp only [i64_w, i32_w]; rw [c12b0]) | skip)
      by_cases c13 : 1 < (t870004.length : Int)
      ·rw [if_pos c13] at H; have c13b0 : decide (1 < (t870004.length : Int)) = true := decide_eq_true c13; have c13b1 : decide (1 < t870004.length) = true := decide_eq_true (by omega); clear c13; obtain ⟨y870011, hy870011⟩ : ∃ y_ : List (S77), y_ = (t870004.set (0 : Int).toNat (⟨(rd_T77 t870004 1).f0, (rd_T77 t870004 1).f1⟩ : S77)) := ⟨_, rfl⟩
       replace H : (spec_l4AnyMap.j1 kj5 t870001 (y870011.set (1 : Int).toNat (⟨(rd_T77 t870004 0).f0, (rd_T77 t870004 0).f1⟩ : S77)) t870005) = some (r1, r2) := by first | (rw [hy870011]; with_reducible exact H) | (have H2_ := (Option.bind_some _ _).symm.trans H; rw [hy870011]; with_reducible exact H2_) | (have H2_ := (Option.bind_some _ _).symm.trans H; with_reducible exact H2_) | with_reducible exact H | (rw [hy870011]; exact H) | exact H
       have Ny870011 := Aside0.mk hy870011; clear hy870011; obtain ⟨y870012, hy870012⟩ : ∃ y_ : List (S77), y_ = (y870011.set (1 : Int).toNat (⟨(rd_T77 t870004 0).f0, (rd_T77 t870004 0).f1⟩ : S77)) := ⟨_, rfl⟩
       replace H : (spec_l4AnyMap.j1 kj5 t870001 y870012 t870005) = some (r1, r2) := by first | (rw [hy870012]; with_reducible exact H) | (have H2_ := (Option.bind_some _ _).symm.trans H; rw [hy870012]; with_reducible exact H2_) | (have H2_ := (Option.bind_some _ _).symm.trans H; with_reducible exact H2_) | with_reducible exact H | (rw [hy870012]; exact H) | exact H
       have Ny870012 := Aside0.mk hy870012; clear hy870012; have H' := Aside0.mk H; clear H; obtain ⟨Ao16, co16, eo16⟩ := Kd.R_slice HO_7.out; subst eo16; have p870008 : 0 ≤ (0 : Int) := (by omega)
       have q870008 : 0 < (t870004.length : Int) := of_decide_eq_true zq_2; obtain ⟨ad870008, e870008, hx870008_0, hx870008_1⟩ := at_T77 (Kd.R_reads' HO_7.out).2.2 0 p870008 q870008
       cases e870008
       have qi870008 : (0 < t870004.length) = True := eq_true (by omega); (try rw [show ((0 : Int)).toNat = 0 from rfl] at hx870008_0); (try rw [show 0 * 2 = 0 from rfl] at hx870008_0); (try rw [Addr.add_zero'] at hx870008_0); (try rw [show ((0 : Int)).toNat = 0 from rfl] at hx870008_1); (try rw [show 0 * 2 = 0 from rfl] at hx870008_1); (try rw [Addr.add_zero'] at hx870008_1); replace p870008 := eq_true p870008; replace q870008 := eq_true q870008
       go_wp2_with (first | ((with_reducible refine gate_dst (N := 9) rfl ?_); (try (refine gate_guard (by rfl) ?_; dsimp only)); refine box_event ?hg (N := 9) ?hd (cs := #[.string (⟨#[]⟩ : ByteArray), .string (⟨#[]⟩ : ByteArray)]) (t := 77) ?hr ?_; (case hd => rfl); (case hg => rfl); (case hr => exact zq_14); intro gb870009 hg w17 hbox hb; have n0_ := Aside0.mk (Kd.R_below (Kd.R_elderB zq_6 gb870009 (Nat.le_of_eq hg.symm)) hb); have n1_ := Aside0.mk (below_step zq_0 hb); have n2_ := Aside0.mk (hbox); have n3_ := Aside0.mk ((by rw [hg]; exact (below_size zq_0) : w.heap.size ≤ gb870009)); have n4_ := Aside0.mk ((by rw [hg]; exact (below_size zq_0) : w.heap.size ≤ gb870009)); clear HO_7; clear HB; have HO_7 := n0_; have HB := n1_; have BK870009 := n2_; have GW870009 := n3_; have GE870009 := n4_; clear n0_ n1_ n2_ n3_ n4_; clear hb hbox hg; have hcz18_0 : w17.cell? ⟨gb870009, 0, none⟩ = some (.string (⟨#[]⟩ : ByteArray)) := (blk_cell BK870009.out 0).trans rfl; have hcz18_1 : w17.cell? ⟨gb870009, 1, none⟩ = some (.string (⟨#[]⟩ : ByteArray)) := (blk_cell BK870009.out 1).trans rfl; have hfz18_0 := blk_frozen BK870009.out 0; have hfz18_1 := blk_frozen BK870009.out 1) | ((with_reducible refine gate_store (t := 77) (p := 9) rfl ?_); refine store_event (t := 77) (p := 9) (v := ?vo_w19) (w1 := ((w17.setCell ⟨gb870009, 0, none⟩ (.string ((rd_T77 t870004 0).f0))).setCell ⟨gb870009, 1, none⟩ (.string ((rd_T77 t870004 0).f1)))) ?hg ?ho ?hn ?hr ?_; (case ho => rfl); (case hg => rfl); (case hn => rfl); (case hr => exact zq_14); intro w19 hw; have n0_ : Aside0 (Kd.R k77 77 w19 w.heap.size (fun k_ => k_ ≠ gb870009) (.slice (some ad870008) t870004.length co16) t870004) := ⟨(by rw [hw]; exact (by (with_reducible repeat (first | apply Kd.R_alloc | apply Kd.R_drewN | apply Kd.R_drew)); exact Kd.R_mono (Kd.R_far (p := ⟨gb870009, 1, none⟩) (Kd.R_far (p := ⟨gb870009, 0, none⟩) (Kd.R_mono HO_7.out (fun k_ hk => (⟨hk, hk.2⟩ : _ ∧ k_ ≠ gb870009))) (fun _ hk => hk.2) (.string ((rd_T77 t870004 0).f0))) (fun _ hk => hk.2) (.string ((rd_T77 t870004 0).f1))) (fun _ hk => hk.1.2)))⟩; have n1_ : Aside0 (w19.heap[gb870009]? = some (.cells #[.string ((rd_T77 t870004 0).f0), .string ((rd_T77 t870004 0).f1)] 77 (0, 0))) := ⟨(by rw [hw]; exact (by (with_reducible repeat (first | refine blk_drewN ?_ _ | refine blk_drew ?_ | refine blk_alloc ?_ _)); refine blk_put (cs := #[.string ((rd_T77 t870004 0).f0), .string (⟨#[]⟩ : ByteArray)]) ?_ 1 _ rfl; (with_reducible repeat (first | refine blk_drewN ?_ _ | refine blk_drew ?_ | refine blk_alloc ?_ _)); refine blk_put (cs := #[.string (⟨#[]⟩ : ByteArray), .string (⟨#[]⟩ : ByteArray)]) ?_ 0 _ rfl; (with_reducible repeat (first | refine blk_drewN ?_ _ | refine blk_drew ?_ | refine blk_alloc ?_ _)); exact BK870009.out))⟩; have n2_ : Aside0 (Below w.heap.size w w19) := ⟨(by rw [hw]; exact (by repeat (first | (with_reducible first | exact HB.out | apply below_alloc | apply pw_below_drewN | apply below_drew1 | refine below_set ?_ GE870009.out) | exact HB.out)))⟩; clear hw; clear HO_7; clear BK870009; clear HB; have HO_7 := n0_; have BK870009 := n1_; have HB := n2_; clear n0_ n1_ n2_; have p870010 : 0 ≤ (1 : Int) := (by omega); have q870010 : 1 < (t870004.length : Int) := of_decide_eq_true zq_2; obtain ⟨ad870010, e870010, hx870010_0, hx870010_1⟩ := at_T77 (Kd.R_reads' HO_7.out).2.2 1 p870010 q870010; obtain rfl : ad870008 = ad870010 := (by injection e870010); (try simp only [show (1 : Int).toNat = 1 from rfl, Nat.reduceMul, Nat.reduceEqDiff, Go.Addr.add, ↓reduceIte] at hx870010_0); (try simp only [show (1 : Int).toNat = 1 from rfl, Nat.reduceMul, Nat.reduceEqDiff, Go.Addr.add, ↓reduceIte] at hx870010_1); have qi870010 : (1 < t870004.length) = True := eq_true (by omega); (try rw [show ((1 : Int)).toNat = 1 from rfl] at hx870010_0); (try rw [show 1 * 2 = 2 from rfl] at hx870010_0); (try rw [show ((1 : Int)).toNat = 1 from rfl] at hx870010_1); (try rw [show 1 * 2 = 2 from rfl] at hx870010_1); replace p870010 := eq_true p870010; replace q870010 := eq_true q870010; have p14 : 0 ≤ (0 : Int) := (by omega); have q14 : (0 : Int) < ((t870004.length : Int) : Int) := of_decide_eq_true zq_2; have qi14 : (0 < t870004.length) = True := eq_true (by omega); obtain ⟨go14, co14, eo14, gb14, gl14, cl14, HG14⟩ := Kd.R_form HO_7.out (by omega); (first | cases eo14 | (injection eo14 with ea_ en_ ec_; (first | subst ea_ | (injection ea_ with ea_; subst ea_)); subst ec_; clear en_)); have GB14 := Aside0.mk gb14; have GG14 := Aside0.mk HG14; clear gb14 gl14 HG14; (first | simp only [add_plain] at hx870008_0 | skip); (first | simp only [add_plain] at hx870008_1 | skip); (first | simp only [add_plain] at hx870010_0 | skip); (first | simp only [add_plain] at hx870010_1 | skip); obtain ⟨ce14, hcl14, hM14, hcc14, hfr14⟩ := Kd.R_elem HO_7.out z77 (0 : Int) p14 q14; obtain rfl := k77_openM hM14; have hx14_0 : w19.cell? ⟨go14, (0 : Int).toNat * 2, none⟩ = some (.string ((rd_T77 t870004 0).f0)) := hcc14 0 _ rfl; have hx14_1 : w19.cell? ⟨go14, (0 : Int).toNat * 2 + 1, none⟩ = some (.string ((rd_T77 t870004 0).f1)) := hcc14 1 _ rfl; have hf14_0 : w19.frozen? ⟨go14, (0 : Int).toNat * 2, none⟩ = false := hfr14 0; have hf14_1 : w19.frozen? ⟨go14, (0 : Int).toNat * 2 + 1, none⟩ = false := hfr14 1; clear hcl14 hcc14 hfr14 hM14; (try rw [show ((0 : Int)).toNat = 0 from rfl] at hx14_0); (try simp only [Nat.reduceMul, Nat.zero_mul, Nat.zero_add, Nat.reduceAdd] at hx14_0); (try rw [show ((0 : Int)).toNat = 0 from rfl] at hf14_0); (try simp only [Nat.reduceMul, Nat.zero_mul, Nat.zero_add, Nat.reduceAdd] at hf14_0); (try rw [show ((0 : Int)).toNat = 0 from rfl] at hx14_1); (try simp only [Nat.reduceMul, Nat.zero_mul, Nat.zero_add, Nat.reduceAdd] at hx14_1); (try rw [show ((0 : Int)).toNat = 0 from rfl] at hf14_1); (try simp only [Nat.reduceMul, Nat.zero_mul, Nat.zero_add, Nat.reduceAdd] at hf14_1); replace p14 := eq_true p14; replace q14 := eq_true q14; have HX20 := Aside0.mk (show Kd.R k77 77 w19 w.heap.size (fun k_ => k_ ≠ gb870009) (.slice (some ⟨go14, 0, none⟩) t870004.length co16) t870004 from zq_6); obtain ⟨ce20, hcl20, hM20, hcc20, hfr20⟩ := Kd.R_elem HX20.out z77 (0 : Int) (by omega) (by have h_ : (0 : Int) < ((t870004.length : Int) : Int) := of_decide_eq_true zq_2; first | exact h_ | (have e_ := (Kd.R_reads' HO_7.out).1; omega) | simpa using h_); obtain rfl := k77_openM hM20; have HP20 := Kd.R_seg HX20.out (0 : Int) (by omega) (by have h_ : (0 : Int) < ((t870004.length : Int) : Int) := of_decide_eq_true zq_2; first | exact h_ | (have e_ := (Kd.R_reads' HO_7.out).1; omega) | simpa using h_) (seg := [.string ((rd_T77 t870004 1).f0), .string ((rd_T77 t870004 1).f1)]) (j := 0) hcl20 hcc20 (show 2 ≤ 2 from by decide) (x' := (⟨(rd_T77 t870004 1).f0, (rd_T77 t870004 1).f1⟩ : S77)) (k77_mkM _ _ _ (⟨(rd_T77 t870004 1).f0, (rd_T77 t870004 1).f1⟩ : S77) ) (fun _ hk => hk); have hx20_0 := hcc20 0 _ rfl; (try simp only [show (k77).sz = 2 from rfl, Nat.mul_one, Nat.add_zero] at hx20_0); (try rw [show ((0 : Int)).toNat = 0 from rfl] at hx20_0); (try simp only [Nat.reduceMul, Nat.zero_mul, Nat.zero_add, Nat.reduceAdd] at hx20_0); have hf20_0 := hfr20 0; (try simp only [show (k77).sz = 2 from rfl, Nat.mul_one, Nat.add_zero] at hf20_0); (try rw [show ((0 : Int)).toNat = 0 from rfl] at hf20_0); (try simp only [Nat.reduceMul, Nat.zero_mul, Nat.zero_add, Nat.reduceAdd] at hf20_0); have hx20_1 := hcc20 1 _ rfl; (try simp only [show (k77).sz = 2 from rfl, Nat.mul_one, Nat.add_zero] at hx20_1); (try rw [show ((0 : Int)).toNat = 0 from rfl] at hx20_1); (try simp only [Nat.reduceMul, Nat.zero_mul, Nat.zero_add, Nat.reduceAdd] at hx20_1); have hf20_1 := hfr20 1; (try simp only [show (k77).sz = 2 from rfl, Nat.mul_one, Nat.add_zero] at hf20_1); (try rw [show ((0 : Int)).toNat = 0 from rfl] at hf20_1); (try simp only [Nat.reduceMul, Nat.zero_mul, Nat.zero_add, Nat.reduceAdd] at hf20_1); clear hcl20 hcc20 hfr20 hM20) | ((with_reducible refine gate_store (t := 77) (p := 38) rfl ?_); refine store_event (t := 77) (p := 38) (v := ?vo_w21) (w1 := ((w19.setCell ⟨go14, 0, none⟩ (.string ((rd_T77 t870004 1).f0))).setCell ⟨go14, 1, none⟩ (.string ((rd_T77 t870004 1).f1)))) ?hg ?ho ?hn ?hr ?_; (case ho => rfl); (case hg => rfl); (case hn => rfl); (case hr => exact zq_14); intro w21 hw; have hg : w19.grownBy w21 (some go14) := (by rw [hw]; exact HP20.2); have hp_ : Kd.R k77 77 w21 w.heap.size (fun k_ => k_ ≠ gb870009) (.slice (some ⟨go14, 0, none⟩) t870004.length co16) y870011 := (by rw [hw, Ny870011.out]; exact HP20.1); clear HP20; have n0_ := Aside0.mk (hp_); have n1_ := Aside0.mk (blk_grown (g := gb870009) (o := .cells #[.string ((rd_T77 t870004 0).f0), .string ((rd_T77 t870004 0).f1)] 77 (0, 0)) (by (with_reducible repeat (first | refine blk_drewN ?_ _ | refine blk_drew ?_ | refine blk_alloc ?_ _)); exact BK870009.out) hg (Kd.R_away HO_7.out (fun _ hk => hk))); have n2_ := Aside0.mk ((by rw [hw]; exact below_set (below_set (HB.out) GB14.out) GB14.out : Below w.heap.size w w21)); clear HO_7; clear BK870009; clear HB; have HO_7 := n0_; have BK870009 := n1_; have HB := n2_; clear n0_ n1_ n2_; clear hg hw hp_; have hcz22_0 : w21.cell? ⟨gb870009, 0, none⟩ = some (.string ((rd_T77 t870004 0).f0)) := (blk_cell BK870009.out 0).trans rfl; have hcz22_1 : w21.cell? ⟨gb870009, 1, none⟩ = some (.string ((rd_T77 t870004 0).f1)) := (blk_cell BK870009.out 1).trans rfl; have hfz22_0 := blk_frozen BK870009.out 0; have hfz22_1 := blk_frozen BK870009.out 1; have p15 : 0 ≤ (1 : Int) := (by omega); have q15 : (1 : Int) < ((t870004.length : Int) : Int) := of_decide_eq_true zq_2; have qi15 : (1 < t870004.length) = True := eq_true (by omega); obtain ⟨ce15, hcl15, hM15, hcc15, hfr15⟩ := Kd.R_elem HO_7.out z77 (1 : Int) p15 q15; obtain rfl := k77_openM hM15; have hx15_0 : w21.cell? ⟨go14, (1 : Int).toNat * 2, none⟩ = some (.string ((rd_T77 y870011 1).f0)) := hcc15 0 _ rfl; have hx15_1 : w21.cell? ⟨go14, (1 : Int).toNat * 2 + 1, none⟩ = some (.string ((rd_T77 y870011 1).f1)) := hcc15 1 _ rfl; have hf15_0 : w21.frozen? ⟨go14, (1 : Int).toNat * 2, none⟩ = false := hfr15 0; have hf15_1 : w21.frozen? ⟨go14, (1 : Int).toNat * 2 + 1, none⟩ = false := hfr15 1; clear hcl15 hcc15 hfr15 hM15; (try rw [show ((1 : Int)).toNat = 1 from rfl] at hx15_0); (try simp only [Nat.reduceMul, Nat.zero_mul, Nat.zero_add, Nat.reduceAdd] at hx15_0); (try rw [show ((1 : Int)).toNat = 1 from rfl] at hf15_0); (try simp only [Nat.reduceMul, Nat.zero_mul, Nat.zero_add, Nat.reduceAdd] at hf15_0); (try rw [show ((1 : Int)).toNat = 1 from rfl] at hx15_1); (try simp only [Nat.reduceMul, Nat.zero_mul, Nat.zero_add, Nat.reduceAdd] at hx15_1); (try rw [show ((1 : Int)).toNat = 1 from rfl] at hf15_1); (try simp only [Nat.reduceMul, Nat.zero_mul, Nat.zero_add, Nat.reduceAdd] at hf15_1); replace p15 := eq_true p15; replace q15 := eq_true q15; have HX23 := Aside0.mk (show Kd.R k77 77 w21 w.heap.size (fun k_ => k_ ≠ gb870009) (.slice (some ⟨go14, 0, none⟩) t870004.length co16) y870011 from zq_6); obtain ⟨ce23, hcl23, hM23, hcc23, hfr23⟩ := Kd.R_elem HX23.out z77 (1 : Int) (by omega) (by have h_ : (1 : Int) < ((t870004.length : Int) : Int) := of_decide_eq_true zq_2; first | exact h_ | (have e_ := (Kd.R_reads' HO_7.out).1; omega) | simpa using h_); obtain rfl := k77_openM hM23; have HP23 := Kd.R_seg HX23.out (1 : Int) (by omega) (by have h_ : (1 : Int) < ((t870004.length : Int) : Int) := of_decide_eq_true zq_2; first | exact h_ | (have e_ := (Kd.R_reads' HO_7.out).1; omega) | simpa using h_) (seg := [.string ((rd_T77 t870004 0).f0), .string ((rd_T77 t870004 0).f1)]) (j := 0) hcl23 hcc23 (show 2 ≤ 2 from by decide) (x' := (⟨(rd_T77 t870004 0).f0, (rd_T77 t870004 0).f1⟩ : S77)) (k77_mkM _ _ _ (⟨(rd_T77 t870004 0).f0, (rd_T77 t870004 0).f1⟩ : S77) ) (fun _ hk => hk); have hx23_0 := hcc23 0 _ rfl; (try simp only [show (k77).sz = 2 from rfl, Nat.mul_one, Nat.add_zero] at hx23_0); (try rw [show ((1 : Int)).toNat = 1 from rfl] at hx23_0); (try simp only [Nat.reduceMul, Nat.zero_mul, Nat.zero_add, Nat.reduceAdd] at hx23_0); have hf23_0 := hfr23 0; (try simp only [show (k77).sz = 2 from rfl, Nat.mul_one, Nat.add_zero] at hf23_0); (try rw [show ((1 : Int)).toNat = 1 from rfl] at hf23_0); (try simp only [Nat.reduceMul, Nat.zero_mul, Nat.zero_add, Nat.reduceAdd] at hf23_0); have hx23_1 := hcc23 1 _ rfl; (try simp only [show (k77).sz = 2 from rfl, Nat.mul_one, Nat.add_zero] at hx23_1); (try rw [show ((1 : Int)).toNat = 1 from rfl] at hx23_1); (try simp only [Nat.reduceMul, Nat.zero_mul, Nat.zero_add, Nat.reduceAdd] at hx23_1); have hf23_1 := hfr23 1; (try simp only [show (k77).sz = 2 from rfl, Nat.mul_one, Nat.add_zero] at hf23_1); (try rw [show ((1 : Int)).toNat = 1 from rfl] at hf23_1); (try simp only [Nat.reduceMul, Nat.zero_mul, Nat.zero_add, Nat.reduceAdd] at hf23_1); clear hcl23 hcc23 hfr23 hM23) | ((with_reducible refine gate_store (t := 77) (p := 41) rfl ?_); refine store_event (t := 77) (p := 41) (v := ?vo_w24) (w1 := ((w21.setCell ⟨go14, 2, none⟩ (.string ((rd_T77 t870004 0).f0))).setCell ⟨go14, 3, none⟩ (.string ((rd_T77 t870004 0).f1)))) ?hg ?ho ?hn ?hr ?_; (case ho => rfl); (case hg => rfl); (case hn => rfl); (case hr => exact zq_14); intro w24 hw; have hg : w21.grownBy w24 (some go14) := (by rw [hw]; exact HP23.2); have hp_ : Kd.R k77 77 w24 w.heap.size (fun k_ => k_ ≠ gb870009) (.slice (some ⟨go14, 0, none⟩) t870004.length co16) y870012 := (by rw [hw, Ny870012.out]; exact HP23.1); clear HP23; have n0_ := Aside0.mk (hp_); have n1_ := Aside0.mk (blk_grown (g := gb870009) (o := .cells #[.string ((rd_T77 t870004 0).f0), .string ((rd_T77 t870004 0).f1)] 77 (0, 0)) (by (with_reducible repeat (first | refine blk_drewN ?_ _ | refine blk_drew ?_ | refine blk_alloc ?_ _)); exact BK870009.out) hg (Kd.R_away HO_7.out (fun _ hk => hk))); have n2_ := Aside0.mk ((by rw [hw]; exact below_set (below_set (HB.out) GB14.out) GB14.out : Below w.heap.size w w24)); clear HO_7; clear BK870009; clear HB; have HO_7 := n0_; have BK870009 := n1_; have HB := n2_; clear n0_ n1_ n2_; clear hg hw hp_))
       go_meet
       case rel => exact ⟨_, (y870012), H', ⟨by have := HJ5.out; first | omega | exact Nat.le_refl _⟩, ⟨by (with_reducible repeat (first | apply Kd.R_alloc | apply Kd.R_drewN | apply Kd.R_drew)); exact Kd.R_mono HO_7.out (fun _ hk => trivial)⟩, ⟨by repeat (first | (with_reducible first | exact HB.out | apply below_alloc | apply pw_below_drewN | apply below_drew1 | refine below_set ?_ GE870009.out) | exact HB.out)⟩⟩
      ·rw [if_neg c13] at H; exact absurd H (by simp)
     ·rw [if_neg c12] at H; exact absurd H (by simp)
    ·replace c11 := Bool.eq_false_iff.mpr c11; subst c11; have H1 : (spec_l4AnyMap.j1 kj5 t870001 t870004 t870005) = some (r1, r2) := by rw [if_neg (show ¬ (false = true) by decide)] at H; exact H
     clear H; have H := H1; clear H1; have H' := Aside0.mk H; clear H
     go_wp2
     go_meet
     case rel => exact ⟨_, (t870004), H', ⟨by have := HJ5.out; first | omega | exact Nat.le_refl _⟩, ⟨by (with_reducible repeat (first | apply Kd.R_alloc | apply Kd.R_drewN | apply Kd.R_drew)); exact HO_7.out⟩, ⟨by repeat (first | (with_reducible first | exact HB.out | apply below_alloc | apply pw_below_drewN | apply below_drew1) | exact HB.out)⟩⟩
   case rest =>
    clear HC10
    try clear c1
    try clear p1
    try clear q1
    try clear hx1
    try clear qi1
    try clear c2
    try clear p2
    try clear hx2
    try clear hf2
    try clear c8
    try clear c8b0
    try clear c8b1
    try clear p8
    try clear q8
    try clear hx8
    try clear qi8
    try clear c11
    try clear c12
    try clear c12b0
    try clear c12b1
    try clear c13
    try clear c13b0
    try clear c13b1
    try clear c14
    try clear p14
    try clear q14
    try clear hx14
    try clear qi14
    try clear hf14
    try clear c15
    try clear p15
    try clear q15
    try clear hx15
    try clear qi15
    try clear hf15
    try clear c20
    try clear hx20
    try clear hf20
    try clear c23
    try clear hx23
    try clear hf23
    try clear hcz18_0
    try clear hcz18_1
    try clear hcz22_0
    try clear hcz22_1
    try clear hfz18_0
    try clear hfz18_1
    try clear hfz22_0
    try clear hfz22_1
    try clear hx14_0
    try clear hx14_1
    try clear hx15_0
    try clear hx15_1
    try clear hx20_0
    try clear hx20_1
    try clear hx23_0
    try clear hx23_1
    try clear hx870008_0
    try clear hx870008_1
    try clear hx870010_0
    try clear hx870010_1
    try clear p14
    try clear p15
    try clear p2
    try clear p870008
    try clear p870010
    try clear q14
    try clear q15
    try clear q870008
    try clear q870010
    obtain ⟨kq, x7_9, HA, HJ9, HO_7, HB⟩ := hcut
    cases kq with
    | zero => exact absurd HA.out (by simp [spec_l4AnyMap.j1])
    | succ kj9 =>
     have H := HA.out; clear HA; simp only [spec_l4AnyMap.j1] at H; have HC25 := Aside0.mk H; clear H
     go_upto_region 8 with (fail)
     go_cut [48] (fun v48 wc => ∃ (kq : Nat) (x48_24 : Bool), v48 = .bool x48_24 ∧ Aside0 (spec_l4AnyMap.j2 kq t870001 x7_9 t870005 x48_24 = some (r1, r2)) ∧ Aside0 (kq ≤ kj9) ∧ Aside0 (Kd.R k77 77 wc w.heap.size (fun _ => True) v870006 x7_9) ∧ Aside0 (Below w.heap.size w wc))
     case first =>
      have H := HC25.out; clear HC25
      by_cases c26 : t870001 = 36
      ·rw [if_pos c26] at H; have c26b0 : (t870001 == 36) = true := beq_iff_eq.mpr c26; have c26b1 : (t870001 != 36) = false := bne_eq_false_iff_eq.mpr c26; clear c26; (first | rw [c26b0] | (simp only [i64_w, i32_w]; rw [c26b0]) | skip); have H' := Aside0.mk H; clear H; obtain ⟨Ao27, co27, eo27⟩ := Kd.R_slice HO_7.out; subst eo27
       go_wp2
       go_meet
       case rel => exact ⟨_, (decide ((x7_9.length : Int) > 0)), zq_4, H', ⟨by have := HJ5.out; have := HJ9.out; first | omega | exact Nat.le_refl _⟩, ⟨by (with_reducible repeat (first | apply Kd.R_alloc | apply Kd.R_drewN | apply Kd.R_drew)); exact HO_7.out⟩, ⟨by repeat (first | (with_reducible first | exact HB.out | apply below_alloc | apply pw_below_drewN | apply below_drew1) | exact HB.out)⟩⟩
      ·rw [if_neg c26] at H; have c26b0 : (t870001 == 36) = false := beq_eq_false_iff_ne.mpr c26; have c26b1 : (t870001 != 36) = true := bne_iff_ne.mpr c26; (first | rw [c26b0] | (simp only [i64_w, i32_w]; rw [c26b0]) | skip); have H' := Aside0.mk H; clear H
       go_wp2
       go_meet
       case rel => exact ⟨_, (false), zq_4, H', ⟨by have := HJ5.out; have := HJ9.out; first | omega | exact Nat.le_refl _⟩, ⟨by (with_reducible repeat (first | apply Kd.R_alloc | apply Kd.R_drewN | apply Kd.R_drew)); exact HO_7.out⟩, ⟨by repeat (first | (with_reducible first | exact HB.out | apply below_alloc | apply pw_below_drewN | apply below_drew1) | exact HB.out)⟩⟩
     case rest =>
      clear HC25
      try clear c1
      try clear p1
      try clear q1
      try clear hx1
      try clear qi1
      try clear c2
      try clear p2
      try clear hx2
      try clear hf2
      try clear c8
      try clear c8b0
      try clear c8b1
      try clear p8
      try clear q8
      try clear hx8
      try clear qi8
      try clear c11
      try clear c12
      try clear c12b0
      try clear c12b1
      try clear c13
      try clear c13b0
      try clear c13b1
      try clear c14
      try clear p14
      try clear q14
      try clear hx14
      try clear qi14
      try clear hf14
      try clear c15
      try clear p15
      try clear q15
      try clear hx15
      try clear qi15
      try clear hf15
      try clear c20
      try clear hx20
      try clear hf20
      try clear c23
      try clear hx23
      try clear hf23
      try clear c26
      try clear c26b0
      try clear c26b1
      try clear hcz18_0
      try clear hcz18_1
      try clear hcz22_0
      try clear hcz22_1
      try clear hfz18_0
      try clear hfz18_1
      try clear hfz22_0
      try clear hfz22_1
      try clear hx14_0
      try clear hx14_1
      try clear hx15_0
      try clear hx15_1
      try clear hx20_0
      try clear hx20_1
      try clear hx23_0
      try clear hx23_1
      try clear hx870008_0
      try clear hx870008_1
      try clear hx870010_0
      try clear hx870010_1
      try clear p1
      try clear p14
      try clear p15
      try clear p2
      try clear p8
      try clear p870008
      try clear p870010
      try clear q1
      try clear q14
      try clear q15
      try clear q8
      try clear q870008
      try clear q870010
      obtain ⟨kq, x48_24, rfl, HA, HJ24, HO_7, HB⟩ := hcut
      cases kq with
      | zero => exact absurd HA.out (by simp [spec_l4AnyMap.j2])
      | succ kj24 =>
       have H := HA.out; clear HA; simp only [spec_l4AnyMap.j2] at H; have HC28 := Aside0.mk H; clear H
       go_upto_if 48 with (fail)
       go_cut [7] (fun v7 wc => ∃ (kq : Nat) (x7_27 : List (S77)), Aside0 (spec_l4AnyMap.j3 kq t870001 x7_27 t870005 = some (r1, r2)) ∧ Aside0 (kq ≤ kj24) ∧ Aside0 (Kd.R k77 77 wc w.heap.size (fun _ => True) v7 x7_27) ∧ Aside0 (Below w.heap.size w wc))
       case first =>
        have H := HC28.out; clear HC28
        by_cases c29 : x48_24 = true
        ·subst c29; have H1 : (if 0 ≤ (wrap64 ((x7_9.length : Int) - 1)) then (if (wrap64 ((x7_9.length : Int) - 1)) < (x7_9.length : Int) then (if x7_9.length < 4398046511104 then (spec_l4AnyMap.j3 kj24 t870001 (x7_9 ++ [(⟨(rd_T77 x7_9 (wrap64 ((x7_9.length : Int) - 1))).f0, (rd_T77 x7_9 (wrap64 ((x7_9.length : Int) - 1))).f1⟩ : S77)]) t870005) else (none)) else (none)) else (none)) = some (r1, r2) := by rw [if_pos rfl] at H; exact H
         clear H; have H := H1; clear H1; obtain ⟨ji30, hji30⟩ : ∃ j_ : Int, (wrap64 ((x7_9.length : Int) - 1)) = j_ := ⟨_, rfl⟩
         replace H : (if 0 ≤ (ji30) then (if (ji30) < (x7_9.length : Int) then (if x7_9.length < 4398046511104 then (spec_l4AnyMap.j3 kj24 t870001 (x7_9 ++ [(⟨(rd_T77 x7_9 (ji30)).f0, (rd_T77 x7_9 (ji30)).f1⟩ : S77)]) t870005) else (none)) else (none)) else (none)) = some (r1, r2) := by first | (rw [hji30] at H; exact H) | (simp only [hji30] at H ⊢; exact H)
         have hji30w : (IntKind.i64.wrap ((x7_9.length : Int) - 1)) = ji30 := (i64_w _).trans hji30
         by_cases c31 : 0 ≤ (ji30)
         ·rw [if_pos c31] at H; have c31b0 : decide (0 ≤ (ji30)) = true := decide_eq_true c31; clear c31; (first | rw [c31b0] | (simp only [i64_w, i32_w]; rw [c31b0]) | skip)
          by_cases c32 : (ji30) < (x7_9.length : Int)
          ·rw [if_pos c32] at H; have c32b0 : decide ((ji30) < (x7_9.length : Int)) = true := decide_eq_true c32; clear c32
           by_cases c33 : x7_9.length < 4398046511104
           ·rw [if_pos c33] at H; have LMc33 := Aside0.mk c33; clear c33; obtain ⟨y870014, hy870014⟩ : ∃ y_ : List (S77), y_ = (x7_9 ++ [(⟨(rd_T77 x7_9 (ji30)).f0, (rd_T77 x7_9 (ji30)).f1⟩ : S77)]) := ⟨_, rfl⟩
            replace H : (spec_l4AnyMap.j3 kj24 t870001 y870014 t870005) = some (r1, r2) := by first | (rw [hy870014]; with_reducible exact H) | (have H2_ := (Option.bind_some _ _).symm.trans H; rw [hy870014]; with_reducible exact H2_) | (have H2_ := (Option.bind_some _ _).symm.trans H; with_reducible exact H2_) | with_reducible exact H | (rw [hy870014]; exact H) | exact H
            have Ny870014 := Aside0.mk hy870014; clear hy870014; have H' := Aside0.mk H; clear H; obtain ⟨Ao34, co34, eo34⟩ := Kd.R_slice HO_7.out; subst eo34; have p870013 : 0 ≤ ((ji30) : Int) := of_decide_eq_true zq_2; have q870013 : (ji30) < (x7_9.length : Int) := of_decide_eq_true zq_2; obtain ⟨ad870013, e870013, hx870013_0, hx870013_1⟩ := at_T77 (Kd.R_reads' HO_7.out).2.2 (ji30) p870013 q870013
            cases e870013
            replace p870013 := eq_true p870013; replace q870013 := eq_true q870013
            go_wp2_with (first | ((with_reducible refine gate_builtin (b := .append) (xs := #[.tmp 49, .tmp 56]) rfl ?_); (try (refine gate_guard (by rfl) ?_; dsimp only)); at_builtin; refine Kd.R_append k77 (w0 := w) w.heap.size rfl (.tmp 49) (.tmp 56) 22 77 (.agg #[(.string ⟨#[]⟩), (.string ⟨#[]⟩)]) 32 rfl Tryd.underlying22 info77 rfl (by decide) (by omega) (.slice (some ad870013) x7_9.length co34) x7_9 (⟨(rd_T77 x7_9 (ji30)).f0, (rd_T77 x7_9 (ji30)).f1⟩ : S77) [.string ((rd_T77 x7_9 (ji30)).f0), .string ((rd_T77 x7_9 (ji30)).f1)] (fun _ => True) (fun _ => False) rfl rfl ?aP (fun _ hk => hk.elim) ?aF ?aO ?aB ?aS ?aL ?_; (case aP => exact k77_mkM _ _ _ (⟨(rd_T77 x7_9 (ji30)).f0, (rd_T77 x7_9 (ji30)).f1⟩ : S77)); (case aB => exact zq_0); (case aF => exact (fun _ _ => trivial)); (case aO => exact zq_6); (case aS => exact (below_size zq_0)); (case aL => have := LMc33.out; omega); intro v870015 w35 ho hb hg hat; rw [← Ny870014.out] at ho; have n0_ := Aside0.mk (hb); have n1_ := Aside0.mk (ho); clear HB; clear HO_7; have HB := n0_; have HO870016 := n1_; clear n0_ n1_; clear ho hb hg hat))
            go_meet
            case rel => exact ⟨_, (y870014), H', ⟨by have := HJ5.out; have := HJ9.out; have := HJ24.out; first | omega | exact Nat.le_refl _⟩, ⟨by (with_reducible repeat (first | apply Kd.R_alloc | apply Kd.R_drewN | apply Kd.R_drew)); exact HO870016.out⟩, ⟨by repeat (first | (with_reducible first | exact HB.out | apply below_alloc | apply pw_below_drewN | apply below_drew1) | exact HB.out)⟩⟩
           ·rw [if_neg c33] at H; exact absurd H (by simp)
          ·rw [if_neg c32] at H; exact absurd H (by simp)
         ·rw [if_neg c31] at H; exact absurd H (by simp)
        ·replace c29 := Bool.eq_false_iff.mpr c29; subst c29; have H1 : (spec_l4AnyMap.j3 kj24 t870001 x7_9 t870005) = some (r1, r2) := by rw [if_neg (show ¬ (false = true) by decide)] at H; exact H
         clear H; have H := H1; clear H1; have H' := Aside0.mk H; clear H
         go_wp2
         go_meet
         case rel => exact ⟨_, (x7_9), H', ⟨by have := HJ5.out; have := HJ9.out; have := HJ24.out; first | omega | exact Nat.le_refl _⟩, ⟨by (with_reducible repeat (first | apply Kd.R_alloc | apply Kd.R_drewN | apply Kd.R_drew)); exact HO_7.out⟩, ⟨by repeat (first | (with_reducible first | exact HB.out | apply below_alloc | apply pw_below_drewN | apply below_drew1) | exact HB.out)⟩⟩
       case rest =>
        clear HC28
        try clear c1
        try clear p1
        try clear q1
        try clear hx1
        try clear qi1
        try clear c2
        try clear p2
        try clear hx2
        try clear hf2
        try clear c3
        try clear p6
        try clear c8
        try clear c8b0
        try clear c8b1
        try clear p8
        try clear q8
        try clear hx8
        try clear qi8
        try clear c11
        try clear c12
        try clear c12b0
        try clear c12b1
        try clear c13
        try clear c13b0
        try clear c13b1
        try clear c14
        try clear p14
        try clear q14
        try clear hx14
        try clear qi14
        try clear hf14
        try clear c15
        try clear p15
        try clear q15
        try clear hx15
        try clear qi15
        try clear hf15
        try clear c20
        try clear hx20
        try clear hf20
        try clear c23
        try clear hx23
        try clear hf23
        try clear c26
        try clear c26b0
        try clear c26b1
        try clear c29
        try clear c31
        try clear c31b0
        try clear c32
        try clear c32b0
        try clear c33
        try clear hcz18_0
        try clear hcz18_1
        try clear hcz22_0
        try clear hcz22_1
        try clear hfz18_0
        try clear hfz18_1
        try clear hfz22_0
        try clear hfz22_1
        try clear hx14_0
        try clear hx14_1
        try clear hx15_0
        try clear hx15_1
        try clear hx20_0
        try clear hx20_1
        try clear hx23_0
        try clear hx23_1
        try clear hx870008_0
        try clear hx870008_1
        try clear hx870010_0
        try clear hx870010_1
        try clear hx870013_0
        try clear hx870013_1
        try clear p1
        try clear p14
        try clear p15
        try clear p2
        try clear p8
        try clear p870008
        try clear p870010
        try clear p870013
        try clear q1
        try clear q14
        try clear q15
        try clear q8
        try clear q870008
        try clear q870010
        try clear q870013
        obtain ⟨kq, x7_27, HA, HJ27, HO_7, HB⟩ := hcut
        cases kq with
        | zero => exact absurd HA.out (by simp [spec_l4AnyMap.j3])
        | succ kj27 =>
         have H := HA.out; clear HA; simp only [spec_l4AnyMap.j3] at H; have HC36 := Aside0.mk H; clear H
         go_upto_if 59 with (fail)
         go_cut [7] (fun v7 wc => ∃ (kq : Nat) (x7_35 : List (S77)), Aside0 (spec_l4AnyMap.j4 kq t870001 x7_35 t870005 = some (r1, r2)) ∧ Aside0 (kq ≤ kj27) ∧ Aside0 (Kd.R k77 77 wc w.heap.size (fun _ => True) v7 x7_35) ∧ Aside0 (Below w.heap.size w wc))
         case first =>
          have H := HC36.out; clear HC36
          by_cases c37 : t870001 = 37
          ·rw [if_pos c37] at H; have c37b0 : (t870001 == 37) = true := beq_iff_eq.mpr c37; have c37b1 : (t870001 != 37) = false := bne_eq_false_iff_eq.mpr c37; clear c37; (first | rw [c37b0] | (simp only [i64_w, i32_w]; rw [c37b0]) | skip); obtain ⟨y870017, hy870017⟩ : ∃ y_ : List (S77), y_ = (([(⟨(⟨#[]⟩ : ByteArray), (⟨#[]⟩ : ByteArray)⟩ : S77)] : List (S77))) := ⟨_, rfl⟩
           replace H : (if y870017.length + x7_27.length < 4398046511104 then (spec_l4AnyMap.j4 kj27 t870001 (y870017 ++ x7_27) t870005) else (none)) = some (r1, r2) := by first | (rw [hy870017]; with_reducible exact H) | (have H2_ := (Option.bind_some _ _).symm.trans H; rw [hy870017]; with_reducible exact H2_) | (have H2_ := (Option.bind_some _ _).symm.trans H; with_reducible exact H2_) | with_reducible exact H | (rw [hy870017]; exact H) | exact H
           have Ny870017 := Aside0.mk hy870017; clear hy870017
           by_cases c38 : y870017.length + x7_27.length < 4398046511104
           ·rw [if_pos c38] at H; have LMc38 := Aside0.mk c38; clear c38; obtain ⟨y870020, hy870020⟩ : ∃ y_ : List (S77), y_ = (y870017 ++ x7_27) := ⟨_, rfl⟩
            replace H : (spec_l4AnyMap.j4 kj27 t870001 y870020 t870005) = some (r1, r2) := by first | (rw [hy870020]; with_reducible exact H) | (have H2_ := (Option.bind_some _ _).symm.trans H; rw [hy870020]; with_reducible exact H2_) | (have H2_ := (Option.bind_some _ _).symm.trans H; with_reducible exact H2_) | with_reducible exact H | (rw [hy870020]; exact H) | exact H
            have Ny870020 := Aside0.mk hy870020; clear hy870020; have H' := Aside0.mk H; clear H
            go_wp2_with (first | ((with_reducible refine gate_dst (N := 61) rfl ?_); (try (refine gate_guard (by rfl) ?_; dsimp only)); refine Kd.R_lit k77 _ 77 ?hg (N := 61) ?hd (xs := ([(⟨(⟨#[]⟩ : ByteArray), (⟨#[]⟩ : ByteArray)⟩ : S77)] : List (S77))) (inner := [.string (⟨#[]⟩ : ByteArray), .string (⟨#[]⟩ : ByteArray)]) (ok := fun _ => True) (okp := fun _ => True) ?hr ?hp (fun _ hk => hk) trivial (Below.refl _ _) (Nat.le_refl _) (by simp) ?_; (case hd => rfl); (case hg => rfl); (case hr => exact zq_14); (case hp => exact (Reps.c2 (show Kd.M k77 _ _ _ (⟨(⟨#[]⟩ : ByteArray), (⟨#[]⟩ : ByteArray)⟩ : S77) [.string (⟨#[]⟩ : ByteArray), .string (⟨#[]⟩ : ByteArray)] from (k77_mkM _ _ _ (⟨(⟨#[]⟩ : ByteArray), (⟨#[]⟩ : ByteArray)⟩ : S77) )) (Reps.none _ _))); intro v870018 w39 ho40 hb hg_ hnew_; clear hg_ hnew_; (first | rw [← Ny870017.out] at ho40 | (simp only [Int.reduceToNat] at ho40; rw [← Ny870017.out] at ho40)); have n0_ := Aside0.mk (Kd.R_elder' zq_6 (Kd.R_base ho40) hb); have n1_ := Aside0.mk (Kd.R_lower (Kd.R_new' ho40 (Kd.R_lt zq_6)) (below_size zq_0)); have n2_ := Aside0.mk (below_step zq_0 hb); clear HO_7; clear HB; have HO_7 := n0_; have HO870019 := n1_; have HB := n2_; clear n0_ n1_ n2_; clear hb ho40; obtain ⟨Ao42, co42, eo42⟩ := Kd.R_slice HO_7.out; subst eo42) | ((with_reducible refine gate_builtin (b := .append) (xs := #[.tmp 61, .tmp 62]) rfl ?_); (try (refine gate_guard (by rfl) ?_; dsimp only)); at_builtin; refine Kd.R_append_rows k77 (w0 := w) w.heap.size rfl (.tmp 61) (.tmp 62) 22 77 (.agg #[(.string ⟨#[]⟩), (.string ⟨#[]⟩)]) 32 rfl Tryd.underlying22 info77 rfl (by decide) (by omega) v870018 y870017 x7_27 _ _ _ (fun k_ => some k_ ≠ (.slice Ao42 x7_27.length co42 : Value).ownBlock) (fun _ => False) rfl rfl ?aO ?aR (fun _ _ h => h) (fun _ h => h.elim) ?aF ?aB ?aS ?aL ?_; (case aR => repeat (first | exact (Kd.R_reads' HO_7.out).2.2 | (with_reducible refine Kd.C_alloc ?_ _) | (with_reducible refine Kd.C_drewN ?_ _) | (with_reducible refine Kd.C_drew ?_))); (case aB => exact zq_0); (case aF => exact (fun k_ hk => Kd.fresh' (Kd.R_lt zq_6) k_ hk)); (case aO => exact (by (with_reducible repeat (first | apply Kd.R_alloc | apply Kd.R_drewN | apply Kd.R_drew)); exact Kd.R_mono HO870019.out (fun _ hk => hk.2))); (case aS => exact (below_size zq_0)); (case aL => have := LMc38.out; omega); intro v870021 w41 ho hb hg hat; rw [← Ny870020.out] at ho; have n0_ := Aside0.mk (Kd.R_after (ok := (fun _ => True)) zq_6 hg hat); have n1_ := Aside0.mk (hb); have n2_ := Aside0.mk (ho); clear HO_7; clear HB; clear HO870019; have HO_7 := n0_; have HB := n1_; have HO870022 := n2_; clear n0_ n1_ n2_; clear ho hb hg hat))
            go_meet
            case rel => exact ⟨_, (y870020), H', ⟨by have := HJ5.out; have := HJ9.out; have := HJ24.out; have := HJ27.out; first | omega | exact Nat.le_refl _⟩, ⟨by (with_reducible repeat (first | apply Kd.R_alloc | apply Kd.R_drewN | apply Kd.R_drew)); exact Kd.R_mono HO870022.out (fun _ hk => trivial)⟩, ⟨by repeat (first | (with_reducible first | exact HB.out | apply below_alloc | apply pw_below_drewN | apply below_drew1) | exact HB.out)⟩⟩
           ·rw [if_neg c38] at H; exact absurd H (by simp)
          ·rw [if_neg c37] at H; have c37b0 : (t870001 == 37) = false := beq_eq_false_iff_ne.mpr c37; have c37b1 : (t870001 != 37) = true := bne_iff_ne.mpr c37; (first | rw [c37b0] | (simp only [i64_w, i32_w]; rw [c37b0]) | skip); have H' := Aside0.mk H; clear H
           go_wp2
           go_meet
           case rel => exact ⟨_, (x7_27), H', ⟨by have := HJ5.out; have := HJ9.out; have := HJ24.out; have := HJ27.out; first | omega | exact Nat.le_refl _⟩, ⟨by (with_reducible repeat (first | apply Kd.R_alloc | apply Kd.R_drewN | apply Kd.R_drew)); exact HO_7.out⟩, ⟨by repeat (first | (with_reducible first | exact HB.out | apply below_alloc | apply pw_below_drewN | apply below_drew1) | exact HB.out)⟩⟩
         case rest =>
          clear HC36
          try clear c1
          try clear p1
          try clear q1
          try clear hx1
          try clear qi1
          try clear c2
          try clear p2
          try clear hx2
          try clear hf2
          try clear c3
          try clear p6
          try clear c8
          try clear c8b0
          try clear c8b1
          try clear p8
          try clear q8
          try clear hx8
          try clear qi8
          try clear c11
          try clear c12
          try clear c12b0
          try clear c12b1
          try clear c13
          try clear c13b0
          try clear c13b1
          try clear c14
          try clear p14
          try clear q14
          try clear hx14
          try clear qi14
          try clear hf14
          try clear c15
          try clear p15
          try clear q15
          try clear hx15
          try clear qi15
          try clear hf15
          try clear c20
          try clear hx20
          try clear hf20
          try clear c23
          try clear hx23
          try clear hf23
          try clear c26
          try clear c26b0
          try clear c26b1
          try clear c29
          try clear c31
          try clear c31b0
          try clear c32
          try clear c32b0
          try clear c33
          try clear c37
          try clear c37b0
          try clear c37b1
          try clear c38
          try clear hcz18_0
          try clear hcz18_1
          try clear hcz22_0
          try clear hcz22_1
          try clear hfz18_0
          try clear hfz18_1
          try clear hfz22_0
          try clear hfz22_1
          try clear hx14_0
          try clear hx14_1
          try clear hx15_0
          try clear hx15_1
          try clear hx20_0
          try clear hx20_1
          try clear hx23_0
          try clear hx23_1
          try clear hx870008_0
          try clear hx870008_1
          try clear hx870010_0
          try clear hx870010_1
          try clear hx870013_0
          try clear hx870013_1
          try clear p1
          try clear p14
          try clear p15
          try clear p2
          try clear p6
          try clear p8
          try clear p870008
          try clear p870010
          try clear p870013
          try clear q1
          try clear q14
          try clear q15
          try clear q8
          try clear q870008
          try clear q870010
          try clear q870013
          obtain ⟨kq, x7_35, HA, HJ35, HO_7, HB⟩ := hcut
          cases kq with
          | zero => exact absurd HA.out (by simp [spec_l4AnyMap.j4])
          | succ kj35 =>
           have H := HA.out; clear HA; simp only [spec_l4AnyMap.j4] at H
           by_cases c43 : t870001 = 38
           ·rw [if_pos c43] at H; have c43b0 : (t870001 == 38) = true := beq_iff_eq.mpr c43; have c43b1 : (t870001 != 38) = false := bne_eq_false_iff_eq.mpr c43; clear c43; replace H := Option.bind_eq_some_iff.mp H; obtain ⟨t870023, A440, H⟩ := H; (try dsimp only at H); have A44 := Aside0.mk A440; clear A440; replace H := Option.bind_eq_some_iff.mp H; obtain ⟨t870024, A450, H⟩ := H; (try dsimp only at H); have A45 := Aside0.mk A450; clear A450; obtain ⟨y870025, hy870025⟩ : ∃ y_ : List (S77), y_ = (([(⟨t870023, t870024⟩ : S77)] : List (S77))) := ⟨_, rfl⟩
            replace H : (if t870001 = 39 then ((spec_l1Long.f (wrap64 (2000 + (Int.tmod t870005 2))) (⟨#[118]⟩ : ByteArray)).bind fun t870028 => (some ((([(⟨(⟨#[107]⟩ : ByteArray), t870028⟩ : S77)] : List (S77))), t870005))) else (some (y870025, t870005))) = some (r1, r2) := by first | (rw [hy870025]; with_reducible exact H) | (have H2_ := (Option.bind_some _ _).symm.trans H; rw [hy870025]; with_reducible exact H2_) | (have H2_ := (Option.bind_some _ _).symm.trans H; with_reducible exact H2_) | with_reducible exact H | (rw [hy870025]; exact H) | exact H
            have Ny870025 := Aside0.mk hy870025; clear hy870025
            by_cases c46 : t870001 = 39
            ·rw [if_pos c46] at H; have c46b0 : (t870001 == 39) = true := beq_iff_eq.mpr c46; have c46b1 : (t870001 != 39) = false := bne_eq_false_iff_eq.mpr c46; clear c46; replace H := Option.bind_eq_some_iff.mp H; obtain ⟨t870028, A470, H⟩ := H; (try dsimp only at H); have A47 := Aside0.mk A470; clear A470; obtain ⟨y870029, hy870029⟩ : ∃ y_ : List (S77), y_ = (([(⟨(⟨#[107]⟩ : ByteArray), t870028⟩ : S77)] : List (S77))) := ⟨_, rfl⟩
             replace H : (some (y870029, t870005)) = some (r1, r2) := by first | (rw [hy870029]; with_reducible exact H) | (have H2_ := (Option.bind_some _ _).symm.trans H; rw [hy870029]; with_reducible exact H2_) | (have H2_ := (Option.bind_some _ _).symm.trans H; with_reducible exact H2_) | with_reducible exact H | (rw [hy870029]; exact H) | exact H
             have Ny870029 := Aside0.mk hy870029; clear hy870029; simp only [Option.some.injEq, Prod.mk.injEq] at H; obtain ⟨rfl, rfl⟩ := H
             go_wp2_with (first | ((with_reducible refine gate_callee (f := 134) rfl ?_); refine goesL_ (some 69) rfl rfl Tryd.func134 (by kernel_rfl) rfl #[.int .i64 (wrap64 (256 + (Int.tmod t870005 2))), .string (⟨#[107]⟩ : ByteArray)] rfl zq_1 ?_; (with_reducible refine (spec_l1Long.calls (wrap64 (256 + (Int.tmod t870005 2))) (⟨#[107]⟩ : ByteArray) t870023 _ A44.out).mono ?_); rintro e w48 ⟨rfl, hb⟩; refine ⟨_, rfl, ?_⟩; have n0_ := Aside0.mk (Kd.R_below zq_6 hb); have n1_ := Aside0.mk (below_step zq_0 hb); clear HO_7; clear HB; have HO_7 := n0_; have HB := n1_; clear n0_ n1_; (try clear hb); (try clear hb2); (try clear hk); (try clear hi)) | ((with_reducible refine gate_callee (f := 134) rfl ?_); refine goesL_ (some 70) rfl rfl Tryd.func134 (by kernel_rfl) rfl #[.int .i64 2000, .string (⟨#[118]⟩ : ByteArray)] rfl zq_1 ?_; (with_reducible refine (spec_l1Long.calls 2000 (⟨#[118]⟩ : ByteArray) t870024 _ A45.out).mono ?_); rintro e w49 ⟨rfl, hb⟩; refine ⟨_, rfl, ?_⟩; have n0_ := Aside0.mk (Kd.R_below zq_6 hb); have n1_ := Aside0.mk (below_step zq_0 hb); clear HO_7; clear HB; have HO_7 := n0_; have HB := n1_; clear n0_ n1_; (try clear hb); (try clear hb2); (try clear hk); (try clear hi)) | ((with_reducible refine gate_dst (N := 72) rfl ?_); (try (refine gate_guard (by rfl) ?_; dsimp only)); refine Kd.R_lit k77 _ 77 ?hg (N := 72) ?hd (xs := ([(⟨t870023, t870024⟩ : S77)] : List (S77))) (inner := [.string t870023, .string t870024]) (ok := fun _ => True) (okp := fun _ => True) ?hr ?hp (fun _ hk => hk) trivial (Below.refl _ _) (Nat.le_refl _) (by simp) ?_; (case hd => rfl); (case hg => rfl); (case hr => exact zq_14); (case hp => exact (Reps.c2 (show Kd.M k77 _ _ _ (⟨t870023, t870024⟩ : S77) [.string t870023, .string t870024] from (k77_mkM _ _ _ (⟨t870023, t870024⟩ : S77) )) (Reps.none _ _))); intro v870026 w50 ho51 hb hg_ hnew_; clear hg_ hnew_; (first | rw [← Ny870025.out] at ho51 | (simp only [Int.reduceToNat] at ho51; rw [← Ny870025.out] at ho51)); have n0_ := Aside0.mk (Kd.R_elder' zq_6 (Kd.R_base ho51) hb); have n1_ := Aside0.mk (Kd.R_lower (Kd.R_new' ho51 (Kd.R_lt zq_6)) (below_size zq_0)); have n2_ := Aside0.mk (below_step zq_0 hb); clear HO_7; clear HB; have HO_7 := n0_; have HO870027 := n1_; have HB := n2_; clear n0_ n1_ n2_; clear hb ho51) | ((with_reducible refine gate_callee (f := 134) rfl ?_); refine goesL_ (some 78) rfl rfl Tryd.func134 (by kernel_rfl) rfl #[.int .i64 (wrap64 (2000 + (Int.tmod t870005 2))), .string (⟨#[118]⟩ : ByteArray)] rfl zq_1 ?_; (with_reducible refine (spec_l1Long.calls (wrap64 (2000 + (Int.tmod t870005 2))) (⟨#[118]⟩ : ByteArray) t870028 _ A47.out).mono ?_); rintro e w52 ⟨rfl, hb⟩; refine ⟨_, rfl, ?_⟩; have n0_ := Aside0.mk (Kd.R_below zq_6 hb); have n1_ := Aside0.mk (Kd.R_below (by (with_reducible repeat (first | apply Kd.R_alloc | apply Kd.R_drewN | apply Kd.R_drew)); exact HO870027.out) hb); have n2_ := Aside0.mk (below_step zq_0 hb); clear HO_7; clear HO870027; clear HB; have HO_7 := n0_; have HO870027 := n1_; have HB := n2_; clear n0_ n1_ n2_; (try clear hb); (try clear hb2); (try clear hk); (try clear hi)) | ((with_reducible refine gate_dst (N := 80) rfl ?_); (try (refine gate_guard (by rfl) ?_; dsimp only)); refine Kd.R_lit k77 _ 77 ?hg (N := 80) ?hd (xs := ([(⟨(⟨#[107]⟩ : ByteArray), t870028⟩ : S77)] : List (S77))) (inner := [.string (⟨#[107]⟩ : ByteArray), .string t870028]) (ok := fun _ => True) (okp := fun _ => True) ?hr ?hp (fun _ hk => hk) trivial (Below.refl _ _) (Nat.le_refl _) (by simp) ?_; (case hd => rfl); (case hg => rfl); (case hr => exact zq_14); (case hp => exact (Reps.c2 (show Kd.M k77 _ _ _ (⟨(⟨#[107]⟩ : ByteArray), t870028⟩ : S77) [.string (⟨#[107]⟩ : ByteArray), .string t870028] from (k77_mkM _ _ _ (⟨(⟨#[107]⟩ : ByteArray), t870028⟩ : S77) )) (Reps.none _ _))); intro v870030 w53 ho54 hb hg_ hnew_; clear hg_ hnew_; (first | rw [← Ny870029.out] at ho54 | (simp only [Int.reduceToNat] at ho54; rw [← Ny870029.out] at ho54)); have n0_ := Aside0.mk (Kd.R_elder' zq_6 (Kd.R_base ho54) hb); have n1_ := Aside0.mk (Kd.R_elder' (by (with_reducible repeat (first | apply Kd.R_alloc | apply Kd.R_drewN | apply Kd.R_drew)); exact HO870027.out) (Kd.R_base ho54) hb); have n2_ := Aside0.mk (Kd.R_lower (Kd.R_new' (Kd.R_new' ho54 (Kd.R_lt zq_6)) (Kd.R_lt (by (with_reducible repeat (first | apply Kd.R_alloc | apply Kd.R_drewN | apply Kd.R_drew)); exact HO870027.out))) (below_size zq_0)); have n3_ := Aside0.mk (below_step zq_0 hb); clear HO_7; clear HO870027; clear HB; have HO_7 := n0_; have HO870027 := n1_; have HO870031 := n2_; have HB := n3_; clear n0_ n1_ n2_ n3_; clear hb ho54))
             go_ret2
             exact ⟨_, by first | rfl | (simp [errW_none, errW_some] <;> rfl) | (simp [*, errW_none, errW_some] <;> rfl), by (with_reducible repeat (first | apply Kd.R_alloc | apply Kd.R_drewN | apply Kd.R_drew)); exact Kd.R_mono HO870031.out (fun _ hk => trivial), by repeat (first | (with_reducible first | exact HB.out | apply below_alloc | apply pw_below_drewN | apply below_drew1) | exact HB.out)⟩
            ·rw [if_neg c46] at H; have c46b0 : (t870001 == 39) = false := beq_eq_false_iff_ne.mpr c46; have c46b1 : (t870001 != 39) = true := bne_iff_ne.mpr c46; simp only [Option.some.injEq, Prod.mk.injEq] at H; obtain ⟨rfl, rfl⟩ := H
             go_wp2_with (first | ((with_reducible refine gate_callee (f := 134) rfl ?_); refine goesL_ (some 69) rfl rfl Tryd.func134 (by kernel_rfl) rfl #[.int .i64 (wrap64 (256 + (Int.tmod t870005 2))), .string (⟨#[107]⟩ : ByteArray)] rfl zq_1 ?_; (with_reducible refine (spec_l1Long.calls (wrap64 (256 + (Int.tmod t870005 2))) (⟨#[107]⟩ : ByteArray) t870023 _ A44.out).mono ?_); rintro e w55 ⟨rfl, hb⟩; refine ⟨_, rfl, ?_⟩; have n0_ := Aside0.mk (Kd.R_below zq_6 hb); have n1_ := Aside0.mk (below_step zq_0 hb); clear HO_7; clear HB; have HO_7 := n0_; have HB := n1_; clear n0_ n1_; (try clear hb); (try clear hb2); (try clear hk); (try clear hi)) | ((with_reducible refine gate_callee (f := 134) rfl ?_); refine goesL_ (some 70) rfl rfl Tryd.func134 (by kernel_rfl) rfl #[.int .i64 2000, .string (⟨#[118]⟩ : ByteArray)] rfl zq_1 ?_; (with_reducible refine (spec_l1Long.calls 2000 (⟨#[118]⟩ : ByteArray) t870024 _ A45.out).mono ?_); rintro e w56 ⟨rfl, hb⟩; refine ⟨_, rfl, ?_⟩; have n0_ := Aside0.mk (Kd.R_below zq_6 hb); have n1_ := Aside0.mk (below_step zq_0 hb); clear HO_7; clear HB; have HO_7 := n0_; have HB := n1_; clear n0_ n1_; (try clear hb); (try clear hb2); (try clear hk); (try clear hi)) | ((with_reducible refine gate_dst (N := 72) rfl ?_); (try (refine gate_guard (by rfl) ?_; dsimp only)); refine Kd.R_lit k77 _ 77 ?hg (N := 72) ?hd (xs := ([(⟨t870023, t870024⟩ : S77)] : List (S77))) (inner := [.string t870023, .string t870024]) (ok := fun _ => True) (okp := fun _ => True) ?hr ?hp (fun _ hk => hk) trivial (Below.refl _ _) (Nat.le_refl _) (by simp) ?_; (case hd => rfl); (case hg => rfl); (case hr => exact zq_14); (case hp => exact (Reps.c2 (show Kd.M k77 _ _ _ (⟨t870023, t870024⟩ : S77) [.string t870023, .string t870024] from (k77_mkM _ _ _ (⟨t870023, t870024⟩ : S77) )) (Reps.none _ _))); intro v870026 w57 ho58 hb hg_ hnew_; clear hg_ hnew_; (first | rw [← Ny870025.out] at ho58 | (simp only [Int.reduceToNat] at ho58; rw [← Ny870025.out] at ho58)); have n0_ := Aside0.mk (Kd.R_elder' zq_6 (Kd.R_base ho58) hb); have n1_ := Aside0.mk (Kd.R_lower (Kd.R_new' ho58 (Kd.R_lt zq_6)) (below_size zq_0)); have n2_ := Aside0.mk (below_step zq_0 hb); clear HO_7; clear HB; have HO_7 := n0_; have HO870027 := n1_; have HB := n2_; clear n0_ n1_ n2_; clear hb ho58))
             go_ret2
             exact ⟨_, by first | rfl | (simp [errW_none, errW_some] <;> rfl) | (simp [*, errW_none, errW_some] <;> rfl), by (with_reducible repeat (first | apply Kd.R_alloc | apply Kd.R_drewN | apply Kd.R_drew)); exact Kd.R_mono HO870027.out (fun _ hk => trivial), by repeat (first | (with_reducible first | exact HB.out | apply below_alloc | apply pw_below_drewN | apply below_drew1) | exact HB.out)⟩
           ·rw [if_neg c43] at H; have c43b0 : (t870001 == 38) = false := beq_eq_false_iff_ne.mpr c43; have c43b1 : (t870001 != 38) = true := bne_iff_ne.mpr c43
            by_cases c59 : t870001 = 39
            ·rw [if_pos c59] at H; have c59b0 : (t870001 == 39) = true := beq_iff_eq.mpr c59; have c59b1 : (t870001 != 39) = false := bne_eq_false_iff_eq.mpr c59; clear c59; replace H := Option.bind_eq_some_iff.mp H; obtain ⟨t870032, A600, H⟩ := H; (try dsimp only at H); have A60 := Aside0.mk A600; clear A600; obtain ⟨y870033, hy870033⟩ : ∃ y_ : List (S77), y_ = (([(⟨(⟨#[107]⟩ : ByteArray), t870032⟩ : S77)] : List (S77))) := ⟨_, rfl⟩
             replace H : (some (y870033, t870005)) = some (r1, r2) := by first | (rw [hy870033]; with_reducible exact H) | (have H2_ := (Option.bind_some _ _).symm.trans H; rw [hy870033]; with_reducible exact H2_) | (have H2_ := (Option.bind_some _ _).symm.trans H; with_reducible exact H2_) | with_reducible exact H | (rw [hy870033]; exact H) | exact H
             have Ny870033 := Aside0.mk hy870033; clear hy870033; simp only [Option.some.injEq, Prod.mk.injEq] at H; obtain ⟨rfl, rfl⟩ := H
             go_wp2_with (first | ((with_reducible refine gate_callee (f := 134) rfl ?_); refine goesL_ (some 78) rfl rfl Tryd.func134 (by kernel_rfl) rfl #[.int .i64 (wrap64 (2000 + (Int.tmod t870005 2))), .string (⟨#[118]⟩ : ByteArray)] rfl zq_1 ?_; (with_reducible refine (spec_l1Long.calls (wrap64 (2000 + (Int.tmod t870005 2))) (⟨#[118]⟩ : ByteArray) t870032 _ A60.out).mono ?_); rintro e w61 ⟨rfl, hb⟩; refine ⟨_, rfl, ?_⟩; have n0_ := Aside0.mk (Kd.R_below zq_6 hb); have n1_ := Aside0.mk (below_step zq_0 hb); clear HO_7; clear HB; have HO_7 := n0_; have HB := n1_; clear n0_ n1_; (try clear hb); (try clear hb2); (try clear hk); (try clear hi)) | ((with_reducible refine gate_dst (N := 80) rfl ?_); (try (refine gate_guard (by rfl) ?_; dsimp only)); refine Kd.R_lit k77 _ 77 ?hg (N := 80) ?hd (xs := ([(⟨(⟨#[107]⟩ : ByteArray), t870032⟩ : S77)] : List (S77))) (inner := [.string (⟨#[107]⟩ : ByteArray), .string t870032]) (ok := fun _ => True) (okp := fun _ => True) ?hr ?hp (fun _ hk => hk) trivial (Below.refl _ _) (Nat.le_refl _) (by simp) ?_; (case hd => rfl); (case hg => rfl); (case hr => exact zq_14); (case hp => exact (Reps.c2 (show Kd.M k77 _ _ _ (⟨(⟨#[107]⟩ : ByteArray), t870032⟩ : S77) [.string (⟨#[107]⟩ : ByteArray), .string t870032] from (k77_mkM _ _ _ (⟨(⟨#[107]⟩ : ByteArray), t870032⟩ : S77) )) (Reps.none _ _))); intro v870034 w62 ho63 hb hg_ hnew_; clear hg_ hnew_; (first | rw [← Ny870033.out] at ho63 | (simp only [Int.reduceToNat] at ho63; rw [← Ny870033.out] at ho63)); have n0_ := Aside0.mk (Kd.R_elder' zq_6 (Kd.R_base ho63) hb); have n1_ := Aside0.mk (Kd.R_lower (Kd.R_new' ho63 (Kd.R_lt zq_6)) (below_size zq_0)); have n2_ := Aside0.mk (below_step zq_0 hb); clear HO_7; clear HB; have HO_7 := n0_; have HO870035 := n1_; have HB := n2_; clear n0_ n1_ n2_; clear hb ho63))
             go_ret2
             exact ⟨_, by first | rfl | (simp [errW_none, errW_some] <;> rfl) | (simp [*, errW_none, errW_some] <;> rfl), by (with_reducible repeat (first | apply Kd.R_alloc | apply Kd.R_drewN | apply Kd.R_drew)); exact Kd.R_mono HO870035.out (fun _ hk => trivial), by repeat (first | (with_reducible first | exact HB.out | apply below_alloc | apply pw_below_drewN | apply below_drew1) | exact HB.out)⟩
            ·rw [if_neg c59] at H; have c59b0 : (t870001 == 39) = false := beq_eq_false_iff_ne.mpr c59; have c59b1 : (t870001 != 39) = true := bne_iff_ne.mpr c59; simp only [Option.some.injEq, Prod.mk.injEq] at H; obtain ⟨rfl, rfl⟩ := H
             go_wp2
             go_ret2
             exact ⟨_, by first | rfl | (simp [errW_none, errW_some] <;> rfl) | (simp [*, errW_none, errW_some] <;> rfl), by (with_reducible repeat (first | apply Kd.R_alloc | apply Kd.R_drewN | apply Kd.R_drew)); exact HO_7.out, by repeat (first | (with_reducible first | exact HB.out | apply below_alloc | apply pw_below_drewN | apply below_drew1) | exact HB.out)⟩
def spec_l4Near.l0 : Nat → List Int → Int → List (S77) → Int → Int → Option ((List (S77)) × Int)
 | 0, _, _, _, _, _ => none
 | k + 1, x0, x1, x2, x8, x9 => if x9 < x8 then ((spec_l1Take.f k x0 x1 3).bind fun bt880003 => ((spec_l1DrawKey.f k x0 bt880003.2).bind fun bt880005 => ((spec_l2DrawVal.f k x0 bt880005.2).bind fun bt880007 => (if bt880003.1 = 0 then ((spec_l4Without.f k x2 bt880005.1).bind fun t880009 => (spec_l4Near.l0 k x0 bt880007.2 t880009 x8 (wrap64 (x9 + 1)))) else ((spec_l4With.f k x2 bt880005.1 bt880007.1).bind fun t880012 => (spec_l4Near.l0 k x0 bt880007.2 t880012 x8 (wrap64 (x9 + 1)))))))) else (some (x2, x1))
def spec_l4Near.f (k : Nat) (l0 : List Int) (a1 : Int) (l2 : List (S77)) : Option ((List (S77)) × Int) := (spec_l1Take.f k l0 a1 4).bind fun bt880001 => (spec_l4Near.l0 k l0 bt880001.2 l2 bt880001.1 0)
set_option maxHeartbeats 8000000 in
set_option maxRecDepth 100000 in
theorem spec_l4Near.calls (k : Nat) (A0 : Option Addr) (c0 : Nat) (l0 : List Int) (a1 : Int) (P2_ : Nat → Prop) (A2 : Option Addr) (c2 : Nat) (l2 : List (S77)) (r1 : List (S77)) (r2 : Int) (w : World) (hr0 : Kd.C (Kd.int .u8) w A0 l0.length l0) (hc0 : l0.length ≤ c0) (hs2 : Kd.V k77 77 w w.heap.size (fun k_ => P2_ k_) (.slice A2 l2.length c2) l2) (h : spec_l4Near.f k l0 a1 l2 = some (r1, r2)) :
  Calls Tryd.prog 88 #[.slice A0 l0.length c0, .int .i64 a1, .slice A2 l2.length c2] w fun e w' => ∃ v0_ : Value, e = .returned (.tuple #[v0_, .int .i64 r2]) ∧ Kd.V k77 77 w' w.heap.size (fun k_ => (P2_ k_ ∨ w.heap.size ≤ k_)) v0_ r1 ∧ Below w.heap.size w w' := by
 have HR0 := Aside0.mk hr0; have HC0 := Aside0.mk hc0; clear hr0 hc0; have HO2 := Aside0.mk (show Kd.V k77 77 w w.heap.size (fun k_ => (P2_ k_ ∨ w.heap.size ≤ k_)) (.slice A2 l2.length c2) l2 from Kd.V_mono hs2 (fun k_ hk => .inl hk)); have HB := Aside0.mk (Below.refl w.heap.size w); have H : ((spec_l1Take.f k l0 a1 4).bind fun bt880001 => (spec_l4Near.l0 k l0 bt880001.2 l2 bt880001.1 0)) = some (r1, r2) := h; clear h; replace H := Option.bind_eq_some_iff.mp H; obtain ⟨⟨t880001, t880002⟩, A40, H⟩ := H; (try dsimp only at H); have A4 := Aside0.mk A40; clear A40; have H' := Aside0.mk H; clear H
 go_enter Tryd.func88, Tryd.ntmps88
 go_wp2_with (first | ((with_reducible refine gate_callee (f := 85) rfl ?_); refine goesL_ (some 18) rfl rfl Tryd.func85 (by kernel_rfl) rfl #[.slice A0 l0.length c0, .int .i64 a1, .int .i64 4] rfl zq_1 ?_; (with_reducible refine (spec_l1Take.calls k _ _ l0 a1 4 t880001 t880002 _ ?side1 ?side2 A4.out).mono ?_); (case side1 => exact zq_5); (case side2 => exact HC0.out); rintro e w' ⟨rfl, ⟨nd, rfl⟩⟩; refine ⟨_, rfl, ?_⟩))
 go_loopg [1, 2, 9] k (fun kq v1 v2 v9 w' => ∃ (x1_1 : Int) (x2_1 : List (S77)) (x9_1 : Int), v1 = .int .i64 x1_1 ∧ v9 = .int .i64 x9_1 ∧ Aside0 (spec_l4Near.l0 kq l0 x1_1 x2_1 t880001 x9_1 = some (r1, r2)) ∧ Aside0 (kq ≤ k) ∧ Aside0 (Kd.V k77 77 w' w.heap.size (fun k_ => (P2_ k_ ∨ w.heap.size ≤ k_)) v2 x2_1) ∧ Aside0 (Below w.heap.size w w'))
 case atStart => exact ⟨(t880002), (l2), (0), zq_4, zq_4, H', ⟨Nat.le_refl _⟩, ⟨by (with_reducible repeat (first | apply Kd.V_alloc | apply Kd.V_drewN | apply Kd.V_drew)); exact HO2.out⟩, ⟨by repeat (first | (with_reducible first | exact HB.out | apply below_alloc | apply pw_below_drewN | apply below_drew1) | exact HB.out)⟩⟩
 case round =>
  clear H'
  try clear c2
  try clear p2
  obtain ⟨x1_1, x2_1, x9_1, rfl, rfl, HA, HK1, HO_2, HB⟩ := hrel
  cases gk with
  | zero => exact absurd HA.out (by simp [spec_l4Near.l0])
  | succ k1 =>
   have H := HA.out; clear HA; simp only [spec_l4Near.l0] at H
   by_cases c5 : x9_1 < t880001
   ·rw [if_pos c5] at H; have c5b0 : decide (x9_1 < t880001) = true := decide_eq_true c5; clear c5; replace H := Option.bind_eq_some_iff.mp H; obtain ⟨⟨t880003, t880004⟩, A60, H⟩ := H; (try dsimp only at H); have A6 := Aside0.mk A60; clear A60; replace H := Option.bind_eq_some_iff.mp H; obtain ⟨⟨t880005, t880006⟩, A70, H⟩ := H; (try dsimp only at H); have A7 := Aside0.mk A70; clear A70; replace H := Option.bind_eq_some_iff.mp H; obtain ⟨⟨t880007, t880008⟩, A80, H⟩ := H; (try dsimp only at H); have A8 := Aside0.mk A80; clear A80
    by_cases c9 : t880003 = 0
    ·rw [if_pos c9] at H; have c9b0 : (t880003 == 0) = true := beq_iff_eq.mpr c9; have c9b1 : (t880003 != 0) = false := bne_eq_false_iff_eq.mpr c9; clear c9; replace H := Option.bind_eq_some_iff.mp H; obtain ⟨t880009, A100, H⟩ := H; (try dsimp only at H); have A10 := Aside0.mk A100; clear A100; have H' := Aside0.mk H; clear H
     go_wp2_with (first | ((with_reducible refine gate_callee (f := 85) rfl ?_); refine goesL_ (some 29) rfl rfl Tryd.func85 (by kernel_rfl) rfl #[.slice A0 l0.length c0, .int .i64 x1_1, .int .i64 3] rfl zq_1 ?_; (with_reducible refine (spec_l1Take.calls k1 _ _ l0 x1_1 3 t880003 t880004 _ ?side1 ?side2 A6.out).mono ?_); (case side1 => exact zq_8); (case side2 => exact HC0.out); rintro e w' ⟨rfl, ⟨nd, rfl⟩⟩; refine ⟨_, rfl, ?_⟩) | ((with_reducible refine gate_callee (f := 135) rfl ?_); refine goesL_ (some 35) rfl rfl Tryd.func135 (by kernel_rfl) rfl #[.slice A0 l0.length c0, .int .i64 t880004] rfl zq_1 ?_; (with_reducible refine (spec_l1DrawKey.calls k1 _ _ l0 t880004 t880005 t880006 _ ?side1 ?side2 A7.out).mono ?_); (case side1 => exact zq_18); (case side2 => exact HC0.out); rintro e w11 ⟨rfl, hb⟩; refine ⟨_, rfl, ?_⟩; have n0_ := Aside0.mk (Kd.V_below zq_31 hb); have n1_ := Aside0.mk (below_step zq_0 hb); clear HO_2; clear HB; have HO_2 := n0_; have HB := n1_; clear n0_ n1_; (try clear hb); (try clear hb2); (try clear hk); (try clear hi)) | ((with_reducible refine gate_callee (f := 136) rfl ?_); refine goesL_ (some 41) rfl rfl Tryd.func136 (by kernel_rfl) rfl #[.slice A0 l0.length c0, .int .i64 t880006] rfl zq_1 ?_; (with_reducible refine (spec_l2DrawVal.calls k1 _ _ l0 t880006 t880007 t880008 _ ?side1 ?side2 A8.out).mono ?_); (case side1 => exact zq_8); (case side2 => exact HC0.out); rintro e w12 ⟨rfl, hb⟩; refine ⟨_, rfl, ?_⟩; have n0_ := Aside0.mk (Kd.V_below zq_31 hb); have n1_ := Aside0.mk (below_step zq_0 hb); clear HO_2; clear HB; have HO_2 := n0_; have HB := n1_; clear n0_ n1_; (try clear hb); (try clear hb2); (try clear hk); (try clear hi); obtain ⟨Ao13, co13, eo13⟩ := Kd.V_slice HO_2.out; subst eo13) | ((with_reducible refine gate_callee (f := 137) rfl ?_); refine goesL_ (some 49) rfl rfl Tryd.func137 (by kernel_rfl) rfl #[.slice Ao13 x2_1.length co13, .string t880005] rfl zq_1 ?_; (with_reducible refine (spec_l4Without.calls k1 _ _ x2_1 t880005 t880009 _ ?side1 ?side2 A10.out).mono ?_); (case side1 => repeat (first | exact (Kd.V_reads' HO_2.out).2.2 | (with_reducible refine Kd.C_alloc ?_ _) | (with_reducible refine Kd.C_drewN ?_ _) | (with_reducible refine Kd.C_drew ?_))); (case side2 => exact (Kd.V_reads' HO_2.out).2.1); rintro e w14 ⟨v880010, rfl, ho0, hb⟩; refine ⟨_, rfl, ?_⟩; have n0_ := Aside0.mk (Kd.V_elder' zq_31 (Kd.R_base ho0) hb); have n1_ := Aside0.mk (Kd.R_lower (Kd.R_newM (M := fun k_ => (w.heap.size ≤ k_)) ho0 (below_size zq_0) (fun k_ h_ => h_)) (below_size zq_0)); have n2_ := Aside0.mk (below_step zq_0 hb); clear HO_2; clear HB; have HO_2 := n0_; have HO880011 := n1_; have HB := n2_; clear n0_ n1_ n2_; (try clear hb); (try clear hb2); (try clear hk); (try clear hi); (try clear ho0)))
     go_roundg k1
     case measure => have := HK1.out; omega
     case rel => exact ⟨(t880008), (t880009), (wrap64 (x9_1 + 1)), zq_4, zq_4, H', ⟨by have := HK1.out; omega⟩, ⟨Kd.V_mono (Kd.R_V (by (with_reducible repeat (first | apply Kd.R_alloc | apply Kd.R_drewN | apply Kd.R_drew)); exact Kd.R_mono HO880011.out (fun _ hk => hk.1))) (fun k_ hk => by first | exact ⟨(.inr (hk.1)), hk.2⟩ | exact (.inr (hk)))⟩, ⟨by repeat (first | (with_reducible first | exact HB.out | apply below_alloc | apply pw_below_drewN | apply below_drew1) | exact HB.out)⟩⟩
    ·rw [if_neg c9] at H; have c9b0 : (t880003 == 0) = false := beq_eq_false_iff_ne.mpr c9; have c9b1 : (t880003 != 0) = true := bne_iff_ne.mpr c9; replace H := Option.bind_eq_some_iff.mp H; obtain ⟨t880012, A150, H⟩ := H; (try dsimp only at H); have A15 := Aside0.mk A150; clear A150; have H' := Aside0.mk H; clear H
     go_wp2_with (first | ((with_reducible refine gate_callee (f := 85) rfl ?_); refine goesL_ (some 29) rfl rfl Tryd.func85 (by kernel_rfl) rfl #[.slice A0 l0.length c0, .int .i64 x1_1, .int .i64 3] rfl zq_1 ?_; (with_reducible refine (spec_l1Take.calls k1 _ _ l0 x1_1 3 t880003 t880004 _ ?side1 ?side2 A6.out).mono ?_); (case side1 => exact zq_8); (case side2 => exact HC0.out); rintro e w' ⟨rfl, ⟨nd, rfl⟩⟩; refine ⟨_, rfl, ?_⟩) | ((with_reducible refine gate_callee (f := 135) rfl ?_); refine goesL_ (some 35) rfl rfl Tryd.func135 (by kernel_rfl) rfl #[.slice A0 l0.length c0, .int .i64 t880004] rfl zq_1 ?_; (with_reducible refine (spec_l1DrawKey.calls k1 _ _ l0 t880004 t880005 t880006 _ ?side1 ?side2 A7.out).mono ?_); (case side1 => exact zq_18); (case side2 => exact HC0.out); rintro e w16 ⟨rfl, hb⟩; refine ⟨_, rfl, ?_⟩; have n0_ := Aside0.mk (Kd.V_below zq_31 hb); have n1_ := Aside0.mk (below_step zq_0 hb); clear HO_2; clear HB; have HO_2 := n0_; have HB := n1_; clear n0_ n1_; (try clear hb); (try clear hb2); (try clear hk); (try clear hi)) | ((with_reducible refine gate_callee (f := 136) rfl ?_); refine goesL_ (some 41) rfl rfl Tryd.func136 (by kernel_rfl) rfl #[.slice A0 l0.length c0, .int .i64 t880006] rfl zq_1 ?_; (with_reducible refine (spec_l2DrawVal.calls k1 _ _ l0 t880006 t880007 t880008 _ ?side1 ?side2 A8.out).mono ?_); (case side1 => exact zq_8); (case side2 => exact HC0.out); rintro e w17 ⟨rfl, hb⟩; refine ⟨_, rfl, ?_⟩; have n0_ := Aside0.mk (Kd.V_below zq_31 hb); have n1_ := Aside0.mk (below_step zq_0 hb); clear HO_2; clear HB; have HO_2 := n0_; have HB := n1_; clear n0_ n1_; (try clear hb); (try clear hb2); (try clear hk); (try clear hi); obtain ⟨Ao18, co18, eo18⟩ := Kd.V_slice HO_2.out; subst eo18) | ((with_reducible refine gate_callee (f := 104) rfl ?_); refine goesL_ (some 53) rfl rfl Tryd.func104 (by kernel_rfl) rfl #[.slice Ao18 x2_1.length co18, .string t880005, .string t880007] rfl zq_1 ?_; (with_reducible refine (spec_l4With.calls k1 _ _ x2_1 t880005 t880007 t880012 _ ?side1 ?side2 A15.out).mono ?_); (case side1 => repeat (first | exact (Kd.V_reads' HO_2.out).2.2 | (with_reducible refine Kd.C_alloc ?_ _) | (with_reducible refine Kd.C_drewN ?_ _) | (with_reducible refine Kd.C_drew ?_))); (case side2 => exact (Kd.V_reads' HO_2.out).2.1); rintro e w19 ⟨v880013, rfl, ho0, hb⟩; refine ⟨_, rfl, ?_⟩; have n0_ := Aside0.mk (Kd.V_elder' zq_31 (Kd.R_base ho0) hb); have n1_ := Aside0.mk (Kd.R_lower (Kd.R_newM (M := fun k_ => (w.heap.size ≤ k_)) ho0 (below_size zq_0) (fun k_ h_ => h_)) (below_size zq_0)); have n2_ := Aside0.mk (below_step zq_0 hb); clear HO_2; clear HB; have HO_2 := n0_; have HO880014 := n1_; have HB := n2_; clear n0_ n1_ n2_; (try clear hb); (try clear hb2); (try clear hk); (try clear hi); (try clear ho0)))
     go_roundg k1
     case measure => have := HK1.out; omega
     case rel => exact ⟨(t880008), (t880012), (wrap64 (x9_1 + 1)), zq_4, zq_4, H', ⟨by have := HK1.out; omega⟩, ⟨Kd.V_mono (Kd.R_V (by (with_reducible repeat (first | apply Kd.R_alloc | apply Kd.R_drewN | apply Kd.R_drew)); exact Kd.R_mono HO880014.out (fun _ hk => hk.1))) (fun k_ hk => by first | exact ⟨(.inr (hk.1)), hk.2⟩ | exact (.inr (hk)))⟩, ⟨by repeat (first | (with_reducible first | exact HB.out | apply below_alloc | apply pw_below_drewN | apply below_drew1) | exact HB.out)⟩⟩
   ·rw [if_neg c5] at H; have c5b0 : decide (x9_1 < t880001) = false := decide_eq_false c5; clear c5; simp only [Option.some.injEq, Prod.mk.injEq] at H; obtain ⟨rfl, rfl⟩ := H
    go_wp2
    go_ret2
    exact ⟨_, by first | rfl | (simp [errW_none, errW_some] <;> rfl) | (simp [*, errW_none, errW_some] <;> rfl), by (with_reducible repeat (first | apply Kd.V_alloc | apply Kd.V_drewN | apply Kd.V_drew)); exact HO_2.out, by repeat (first | (with_reducible first | exact HB.out | apply below_alloc | apply pw_below_drewN | apply below_drew1) | exact HB.out)⟩
def spec_l2Text.f (a0 : ByteArray) : Option (ByteArray) := if 1 + a0.size ≤ 9223372036854775807 then (some ((⟨#[78]⟩ : ByteArray) ++ a0)) else (none)
set_option maxHeartbeats 8000000 in
set_option maxRecDepth 100000 in
theorem spec_l2Text.calls (a0 : ByteArray) (r : ByteArray) (w : World) (h : spec_l2Text.f a0 = some r) :
  Calls Tryd.prog 62 #[.string a0] w fun e w' => e = .returned (.string r) ∧ Drawn0 w w' := by
 have H : (if 1 + a0.size ≤ 9223372036854775807 then (some ((⟨#[78]⟩ : ByteArray) ++ a0)) else (none)) = some r := h; clear h
 by_cases c2 : 1 + a0.size ≤ 9223372036854775807
 ·rw [if_pos c2] at H; have c2b0 := eq_true c2; have c2b1 : decide (1 + a0.size ≤ 9223372036854775807) = true := decide_eq_true c2
  try have c2b2 : (9223372036854775807 < 1 + a0.size) = False := eq_false (Nat.not_lt.2 c2)
  obtain rfl := Option.some.inj H
  go_enter Tryd.func62, Tryd.ntmps62
  go_wp2
  go_ret
  exact ⟨by first | rfl | (simp; done) | (simp [*]; done), by repeat (first | exact Drawn0.refl _ | apply Drawn0.step)⟩
 ·rw [if_neg c2] at H; exact absurd H (by simp)
def spec_NodeHash.f (k : Nat) (a0_0 : ByteArray) (a0_1 : ByteArray) (a0_2 : ByteArray) (a0_3 : ByteArray) (a1 : Int) : Option (ByteArray) := (spec_EncodeNode.f a0_0 a0_1 a0_2 a0_3 a1).bind fun t1260002 => (if (t1260002.size : Int) = 0 then (some (⟨#[]⟩ : ByteArray)) else ((spec_l2Text.f t1260002).bind fun t1260003 => ((spec_Digest.f k t1260003 a1).bind fun t1260004 => (some t1260004))))
set_option maxHeartbeats 8000000 in
set_option maxRecDepth 100000 in
theorem spec_NodeHash.calls (k : Nat) (a0_0 : ByteArray) (a0_1 : ByteArray) (a0_2 : ByteArray) (a0_3 : ByteArray) (a1 : Int) (r : ByteArray) (w : World) (h : spec_NodeHash.f k a0_0 a0_1 a0_2 a0_3 a1 = some r) :
  Calls Tryd.prog 126 #[.agg #[.string a0_0, .string a0_1, .string a0_2, .string a0_3], .int .i64 a1] w fun e w' => e = .returned (.string r) ∧ Below w.heap.size w w' := by
 have hu99 := Tryd.underlying99; have HB := Aside0.mk (Below.refl w.heap.size w); have H : ((spec_EncodeNode.f a0_0 a0_1 a0_2 a0_3 a1).bind fun t1260002 => (if (t1260002.size : Int) = 0 then (some (⟨#[]⟩ : ByteArray)) else ((spec_l2Text.f t1260002).bind fun t1260003 => ((spec_Digest.f k t1260003 a1).bind fun t1260004 => (some t1260004))))) = some r := h; clear h; replace H := Option.bind_eq_some_iff.mp H; obtain ⟨t1260002, A30, H⟩ := H; (try dsimp only at H); have A3 := Aside0.mk A30; clear A30
 by_cases c4 : (t1260002.size : Int) = 0
 ·rw [if_pos c4] at H; have c4b0 : ((t1260002.size : Int) == 0) = true := beq_iff_eq.mpr c4; have c4b1 : ((t1260002.size : Int) != 0) = false := bne_eq_false_iff_eq.mpr c4; clear c4; obtain rfl := Option.some.inj H
  go_enter Tryd.func126, Tryd.ntmps126
  go_wp2_with (first | ((with_reducible refine gate_dst (N := 2) rfl ?_); refine box_event ?hg (N := 2) ?hd (cs := #[.string a0_0, .string a0_1, .string a0_2, .string a0_3]) (t := 99) ?hr ?_; (case hd => rfl); (case hg => rfl); (case hr => exact zq_14); intro gb1260001 hg w5 hbox hb; have n0_ := Aside0.mk (below_step zq_0 hb); have n1_ := Aside0.mk (hbox); have n2_ := Aside0.mk ((by rw [hg]; exact (below_size zq_0) : w.heap.size ≤ gb1260001)); have n3_ := Aside0.mk ((by rw [hg]; exact (below_size zq_0) : w.heap.size ≤ gb1260001)); clear HB; have HB := n0_; have BK1260001 := n1_; have GW1260001 := n2_; have GE1260001 := n3_; clear n0_ n1_ n2_ n3_; clear hb hbox hg; have hcz6_0 : w5.cell? ⟨gb1260001, 0, none⟩ = some (.string a0_0) := (blk_cell BK1260001.out 0).trans rfl; have hcz6_1 : w5.cell? ⟨gb1260001, 1, none⟩ = some (.string a0_1) := (blk_cell BK1260001.out 1).trans rfl; have hcz6_2 : w5.cell? ⟨gb1260001, 2, none⟩ = some (.string a0_2) := (blk_cell BK1260001.out 2).trans rfl; have hcz6_3 : w5.cell? ⟨gb1260001, 3, none⟩ = some (.string a0_3) := (blk_cell BK1260001.out 3).trans rfl; have hfz6_0 := blk_frozen BK1260001.out 0; have hfz6_1 := blk_frozen BK1260001.out 1; have hfz6_2 := blk_frozen BK1260001.out 2; have hfz6_3 := blk_frozen BK1260001.out 3) | ((with_reducible refine gate_callee (f := 63) rfl ?_); refine goesL_ (some 8) rfl rfl Tryd.func63 (by kernel_rfl) rfl #[.agg #[.string a0_0, .string a0_1, .string a0_2, .string a0_3], .int .i64 a1] rfl zq_1 ?_; (with_reducible refine (spec_EncodeNode.calls a0_0 a0_1 a0_2 a0_3 a1 t1260002 _ A3.out).mono ?_); rintro e w7 ⟨rfl, hb⟩; refine ⟨_, rfl, ?_⟩; have n0_ := Aside0.mk (blk_below (g := gb1260001) (o := .cells #[.string a0_0, .string a0_1, .string a0_2, .string a0_3] 99 (0, 0)) zq_45 hb); have n1_ := Aside0.mk (below_step zq_40 hb); clear BK1260001; clear HB; have BK1260001 := n0_; have HB := n1_; clear n0_ n1_; (try clear hb); (try clear hb2); (try clear hk); (try clear hi)))
  go_ret
  exact ⟨by first | rfl | (simp [errW_none, errW_some] <;> rfl) | (simp [*, errW_none, errW_some] <;> rfl), by repeat (first | (with_reducible first | exact HB.out | apply below_alloc | apply pw_below_drewN | apply below_drew1 | refine below_set ?_ GE1260001.out) | exact HB.out)⟩
 ·rw [if_neg c4] at H; have c4b0 : ((t1260002.size : Int) == 0) = false := beq_eq_false_iff_ne.mpr c4; have c4b1 : ((t1260002.size : Int) != 0) = true := bne_iff_ne.mpr c4; replace H := Option.bind_eq_some_iff.mp H; obtain ⟨t1260003, A80, H⟩ := H; (try dsimp only at H); have A8 := Aside0.mk A80; clear A80; replace H := Option.bind_eq_some_iff.mp H; obtain ⟨t1260004, A90, H⟩ := H; (try dsimp only at H); have A9 := Aside0.mk A90; clear A90; obtain rfl := Option.some.inj H
  go_enter Tryd.func126, Tryd.ntmps126
  go_wp2_with (first | ((with_reducible refine gate_dst (N := 2) rfl ?_); refine box_event ?hg (N := 2) ?hd (cs := #[.string a0_0, .string a0_1, .string a0_2, .string a0_3]) (t := 99) ?hr ?_; (case hd => rfl); (case hg => rfl); (case hr => exact zq_14); intro gb1260001 hg w10 hbox hb; have n0_ := Aside0.mk (below_step zq_0 hb); have n1_ := Aside0.mk (hbox); have n2_ := Aside0.mk ((by rw [hg]; exact (below_size zq_0) : w.heap.size ≤ gb1260001)); have n3_ := Aside0.mk ((by rw [hg]; exact (below_size zq_0) : w.heap.size ≤ gb1260001)); clear HB; have HB := n0_; have BK1260001 := n1_; have GW1260001 := n2_; have GE1260001 := n3_; clear n0_ n1_ n2_ n3_; clear hb hbox hg; have hcz11_0 : w10.cell? ⟨gb1260001, 0, none⟩ = some (.string a0_0) := (blk_cell BK1260001.out 0).trans rfl; have hcz11_1 : w10.cell? ⟨gb1260001, 1, none⟩ = some (.string a0_1) := (blk_cell BK1260001.out 1).trans rfl; have hcz11_2 : w10.cell? ⟨gb1260001, 2, none⟩ = some (.string a0_2) := (blk_cell BK1260001.out 2).trans rfl; have hcz11_3 : w10.cell? ⟨gb1260001, 3, none⟩ = some (.string a0_3) := (blk_cell BK1260001.out 3).trans rfl; have hfz11_0 := blk_frozen BK1260001.out 0; have hfz11_1 := blk_frozen BK1260001.out 1; have hfz11_2 := blk_frozen BK1260001.out 2; have hfz11_3 := blk_frozen BK1260001.out 3) | ((with_reducible refine gate_callee (f := 63) rfl ?_); refine goesL_ (some 8) rfl rfl Tryd.func63 (by kernel_rfl) rfl #[.agg #[.string a0_0, .string a0_1, .string a0_2, .string a0_3], .int .i64 a1] rfl zq_1 ?_; (with_reducible refine (spec_EncodeNode.calls a0_0 a0_1 a0_2 a0_3 a1 t1260002 _ A3.out).mono ?_); rintro e w12 ⟨rfl, hb⟩; refine ⟨_, rfl, ?_⟩; have n0_ := Aside0.mk (blk_below (g := gb1260001) (o := .cells #[.string a0_0, .string a0_1, .string a0_2, .string a0_3] 99 (0, 0)) zq_45 hb); have n1_ := Aside0.mk (below_step zq_40 hb); clear BK1260001; clear HB; have BK1260001 := n0_; have HB := n1_; clear n0_ n1_; (try clear hb); (try clear hb2); (try clear hk); (try clear hi)) | ((with_reducible refine gate_callee (f := 62) rfl ?_); refine goesL_ (some 13) rfl rfl Tryd.func62 (by kernel_rfl) rfl #[.string t1260002] rfl zq_1 ?_; (with_reducible refine (spec_l2Text.calls t1260002 t1260003 _ A8.out).mono ?_); rintro e w' ⟨rfl, ⟨nd, rfl⟩⟩; refine ⟨_, rfl, ?_⟩) | ((with_reducible refine gate_callee (f := 34) rfl ?_); refine goesL_ (some 15) rfl rfl Tryd.func34 (by kernel_rfl) rfl #[.string t1260003, .int .i64 a1] rfl zq_1 ?_; (with_reducible refine (spec_Digest.calls k t1260003 a1 t1260004 _ A9.out).mono ?_); rintro e w13 ⟨rfl, hb⟩; refine ⟨_, rfl, ?_⟩; have n0_ := Aside0.mk (blk_below (g := gb1260001) (o := .cells #[.string a0_0, .string a0_1, .string a0_2, .string a0_3] 99 (0, 0)) zq_45 hb); have n1_ := Aside0.mk (below_step zq_40 hb); clear BK1260001; clear HB; have BK1260001 := n0_; have HB := n1_; clear n0_ n1_; (try clear hb); (try clear hb2); (try clear hk); (try clear hi)))
  go_ret
  exact ⟨by first | rfl | (simp [errW_none, errW_some] <;> rfl) | (simp [*, errW_none, errW_some] <;> rfl), by repeat (first | (with_reducible first | exact HB.out | apply below_alloc | apply pw_below_drewN | apply below_drew1 | refine below_set ?_ GE1260001.out) | exact HB.out)⟩
def spec_l4Top.l0 : Nat → List (S77) → Int → ByteArray → Int → Option (Int)
 | 0, _, _, _, _ => none
 | k + 1, x0, x3, x4, x5 => if x5 < (x0.length : Int) then (if 0 ≤ x5 then ((spec_Sha256.f k ((rd_T77 x0 x5).f0)).bind fun t920004 => ((spec_l1Less.f k x4 t920004).bind fun t920005 => (if t920005 = true then (spec_l4Top.l0 k x0 x5 t920004 (wrap64 (x5 + 1))) else (if t920004.toList = x4.toList then (if 0 ≤ x3 then (if x3 < (x0.length : Int) then ((spec_l1Less.f k ((rd_T77 x0 x5).f0) ((rd_T77 x0 x3).f0)).bind fun t920008 => (if t920008 = true then (spec_l4Top.l0 k x0 x5 t920004 (wrap64 (x5 + 1))) else (spec_l4Top.l0 k x0 x3 x4 (wrap64 (x5 + 1))))) else (none)) else (none)) else (spec_l4Top.l0 k x0 x3 x4 (wrap64 (x5 + 1))))))) else (none)) else (some x3)
def spec_l4Top.f (k : Nat) (l0 : List (S77)) : Option (Int) := if 0 < (l0.length : Int) then ((spec_Sha256.f k ((rd_T77 l0 0).f0)).bind fun t920002 => (spec_l4Top.l0 k l0 0 t920002 1)) else (none)
set_option maxHeartbeats 8000000 in
set_option maxRecDepth 100000 in
theorem spec_l4Top.calls (k : Nat) (A0 : Option Addr) (c0 : Nat) (l0 : List (S77)) (r : Int) (w : World) (hr0 : Kd.C k77 w A0 l0.length l0) (hc0 : l0.length ≤ c0) (h : spec_l4Top.f k l0 = some r) :
  Calls Tryd.prog 92 #[.slice A0 l0.length c0] w fun e w' => e = .returned (.int .i64 r) ∧ Below w.heap.size w w' := by
 have HR0 := Aside0.mk hr0; have HC0 := Aside0.mk hc0; clear hr0 hc0; have HB := Aside0.mk (Below.refl w.heap.size w); have H : (if 0 < (l0.length : Int) then ((spec_Sha256.f k ((rd_T77 l0 0).f0)).bind fun t920002 => (spec_l4Top.l0 k l0 0 t920002 1)) else (none)) = some r := h; clear h
 by_cases c2 : 0 < (l0.length : Int)
 ·rw [if_pos c2] at H; have c2b0 : decide (0 < (l0.length : Int)) = true := decide_eq_true c2; have c2b1 : decide (0 < l0.length) = true := decide_eq_true (by omega); clear c2; replace H := Option.bind_eq_some_iff.mp H; obtain ⟨t920002, A30, H⟩ := H; (try dsimp only at H); have A3 := Aside0.mk A30; clear A30; have H' := Aside0.mk H; clear H; have p920001 : 0 ≤ (0 : Int) := (by omega)
  have q920001 : 0 < (l0.length : Int) := of_decide_eq_true zq_2; obtain ⟨ad920001, e920001, hx920001_0, hx920001_1⟩ := at_T77 HR0.out 0 p920001 q920001
  cases e920001
  have qi920001 : (0 < l0.length) = True := eq_true (by omega); (try rw [show ((0 : Int)).toNat = 0 from rfl] at hx920001_0); (try rw [show 0 * 2 = 0 from rfl] at hx920001_0); (try rw [Addr.add_zero'] at hx920001_0); (try rw [show ((0 : Int)).toNat = 0 from rfl] at hx920001_1); (try rw [show 0 * 2 = 0 from rfl] at hx920001_1); (try rw [Addr.add_zero'] at hx920001_1); replace p920001 := eq_true p920001; replace q920001 := eq_true q920001
  go_enter Tryd.func92, Tryd.ntmps92
  go_wp2_with (first | (go_at_call 95; (with_reducible refine (spec_Sha256.calls k ((rd_T77 l0 0).f0) t920002 _ A3.out).mono ?_); rintro e w4 ⟨rfl, hb⟩; have n0_ := Aside0.mk (below_step zq_0 hb); clear HB; have HB := n0_; clear n0_; (try clear hb); (try clear hb2); (try clear hk); (try clear hi)))
  repeat (go_quiet (first | (go_at_call 95; (with_reducible refine (spec_Sha256.calls k ((rd_T77 l0 0).f0) t920002 _ A3.out).mono ?_); rintro e w4 ⟨rfl, hb⟩; have n0_ := Aside0.mk (below_step zq_0 hb); clear HB; have HB := n0_; clear n0_; (try clear hb); (try clear hb2); (try clear hk); (try clear hi))); try go_wp2_with (first | (go_at_call 95; (with_reducible refine (spec_Sha256.calls k ((rd_T77 l0 0).f0) t920002 _ A3.out).mono ?_); rintro e w4 ⟨rfl, hb⟩; have n0_ := Aside0.mk (below_step zq_0 hb); clear HB; have HB := n0_; clear n0_; (try clear hb); (try clear hb2); (try clear hk); (try clear hi))))
  go_loopg [3, 4, 5] k (fun kq v3 v4 v5 w' => ∃ (x3_1 : Int) (x4_1 : ByteArray) (x5_1 : Int), v3 = .int .i64 x3_1 ∧ v4 = .string x4_1 ∧ v5 = .int .i64 x5_1 ∧ Aside0 (spec_l4Top.l0 kq l0 x3_1 x4_1 x5_1 = some r) ∧ Aside0 (kq ≤ k) ∧ Aside0 (Below w.heap.size w w'))
  case atStart => exact ⟨(0), (t920002), (1), zq_4, zq_4, zq_4, H', ⟨Nat.le_refl _⟩, ⟨by repeat (first | (with_reducible first | exact HB.out | apply below_alloc | apply pw_below_drewN | apply below_drew1) | exact HB.out)⟩⟩
  case round =>
   clear H'
   try clear c2
   try clear c2b0
   try clear c2b1
   try clear p2
   try clear hx920001_0
   try clear hx920001_1
   try clear p920001
   try clear q920001
   obtain ⟨x3_1, x4_1, x5_1, rfl, rfl, rfl, HA, HK1, HB⟩ := hrel
   cases gk with
   | zero => exact absurd HA.out (by simp [spec_l4Top.l0])
   | succ k1 =>
    have H := HA.out; clear HA; simp only [spec_l4Top.l0] at H
    by_cases c5 : x5_1 < (l0.length : Int)
    ·rw [if_pos c5] at H; have c5b0 : decide (x5_1 < (l0.length : Int)) = true := decide_eq_true c5; clear c5
     by_cases c6 : 0 ≤ x5_1
     ·rw [if_pos c6] at H; have c6b0 : decide (0 ≤ x5_1) = true := decide_eq_true c6; clear c6; replace H := Option.bind_eq_some_iff.mp H; obtain ⟨t920004, A70, H⟩ := H; (try dsimp only at H); have A7 := Aside0.mk A70; clear A70; replace H := Option.bind_eq_some_iff.mp H; obtain ⟨t920005, A80, H⟩ := H; (try dsimp only at H); have A8 := Aside0.mk A80; clear A80
      by_cases c9 : t920005 = true
      ·subst c9; have H1 : (spec_l4Top.l0 k1 l0 x5_1 t920004 (wrap64 (x5_1 + 1))) = some r := by rw [if_pos rfl] at H; exact H
       clear H; have H := H1; clear H1; have H' := Aside0.mk H; clear H; have p920003 : 0 ≤ (x5_1 : Int) := of_decide_eq_true zq_2; have q920003 : x5_1 < (l0.length : Int) := of_decide_eq_true zq_2; obtain ⟨ad920003, e920003, hx920003_0, hx920003_1⟩ := at_T77 HR0.out x5_1 p920003 q920003; obtain rfl : ad920001 = ad920003 := (by injection e920003)
       replace hx920003_0 := (HB.out.cell (World.block_lt_of_cell? w _ hx920003_0)).trans hx920003_0; replace hx920003_1 := (HB.out.cell (World.block_lt_of_cell? w _ hx920003_1)).trans hx920003_1; replace p920003 := eq_true p920003; replace q920003 := eq_true q920003
       go_wp2_with (first | (go_at_call 95; (with_reducible refine (spec_Sha256.calls k1 ((rd_T77 l0 x5_1).f0) t920004 _ A7.out).mono ?_); rintro e w10 ⟨rfl, hb⟩; have n0_ := Aside0.mk (below_step zq_0 hb); clear HB; have HB := n0_; clear n0_; (try clear hb); (try clear hb2); (try clear hk); (try clear hi)) | (go_at_call 103; (with_reducible refine (spec_l1Less.calls k1 x4_1 t920004 true _ A8.out).mono ?_); rintro e w' ⟨rfl, ⟨nd, rfl⟩⟩; (try first | exact ⟨rfl, _, World.drewN_drewN _ _ _⟩ | exact ⟨rfl, _, Eq.trans (World.drewN_drewN _ _ _) (congrArg (World.drewN _) (Nat.add_assoc _ _ _))⟩)))
       repeat (go_quiet (first | (go_at_call 95; (with_reducible refine (spec_Sha256.calls k1 ((rd_T77 l0 x5_1).f0) t920004 _ A7.out).mono ?_); rintro e w10 ⟨rfl, hb⟩; have n0_ := Aside0.mk (below_step zq_0 hb); clear HB; have HB := n0_; clear n0_; (try clear hb); (try clear hb2); (try clear hk); (try clear hi)) | (go_at_call 103; (with_reducible refine (spec_l1Less.calls k1 x4_1 t920004 true _ A8.out).mono ?_); rintro e w' ⟨rfl, ⟨nd, rfl⟩⟩; (try first | exact ⟨rfl, _, World.drewN_drewN _ _ _⟩ | exact ⟨rfl, _, Eq.trans (World.drewN_drewN _ _ _) (congrArg (World.drewN _) (Nat.add_assoc _ _ _))⟩))); try go_wp2_with (first | (go_at_call 95; (with_reducible refine (spec_Sha256.calls k1 ((rd_T77 l0 x5_1).f0) t920004 _ A7.out).mono ?_); rintro e w10 ⟨rfl, hb⟩; have n0_ := Aside0.mk (below_step zq_0 hb); clear HB; have HB := n0_; clear n0_; (try clear hb); (try clear hb2); (try clear hk); (try clear hi)) | (go_at_call 103; (with_reducible refine (spec_l1Less.calls k1 x4_1 t920004 true _ A8.out).mono ?_); rintro e w' ⟨rfl, ⟨nd, rfl⟩⟩; (try first | exact ⟨rfl, _, World.drewN_drewN _ _ _⟩ | exact ⟨rfl, _, Eq.trans (World.drewN_drewN _ _ _) (congrArg (World.drewN _) (Nat.add_assoc _ _ _))⟩))))
       go_roundg k1
       case measure => have := HK1.out; omega
       case rel => exact ⟨(x5_1), (t920004), (wrap64 (x5_1 + 1)), zq_4, zq_4, zq_4, H', ⟨by have := HK1.out; omega⟩, ⟨by repeat (first | (with_reducible first | exact HB.out | apply below_alloc | apply pw_below_drewN | apply below_drew1) | exact HB.out)⟩⟩
      ·replace c9 := Bool.eq_false_iff.mpr c9; subst c9; have H1 : (if t920004.toList = x4_1.toList then (if 0 ≤ x3_1 then (if x3_1 < (l0.length : Int) then ((spec_l1Less.f k1 ((rd_T77 l0 x5_1).f0) ((rd_T77 l0 x3_1).f0)).bind fun t920008 => (if t920008 = true then (spec_l4Top.l0 k1 l0 x5_1 t920004 (wrap64 (x5_1 + 1))) else (spec_l4Top.l0 k1 l0 x3_1 x4_1 (wrap64 (x5_1 + 1))))) else (none)) else (none)) else (spec_l4Top.l0 k1 l0 x3_1 x4_1 (wrap64 (x5_1 + 1)))) = some r := by rw [if_neg (show ¬ (false = true) by decide)] at H; exact H
       clear H; have H := H1; clear H1
       by_cases c11 : t920004.toList = x4_1.toList
       ·rw [if_pos c11] at H; have c11b0 : (t920004.toList == x4_1.toList) = true := beq_iff_eq.mpr c11; have c11b1 : (t920004.toList != x4_1.toList) = false := bne_eq_false_iff_eq.mpr c11; clear c11
        by_cases c12 : 0 ≤ x3_1
        ·rw [if_pos c12] at H; have c12b0 : decide (0 ≤ x3_1) = true := decide_eq_true c12; clear c12
         by_cases c13 : x3_1 < (l0.length : Int)
         ·rw [if_pos c13] at H; have c13b0 : decide (x3_1 < (l0.length : Int)) = true := decide_eq_true c13; clear c13; replace H := Option.bind_eq_some_iff.mp H; obtain ⟨t920008, A140, H⟩ := H; (try dsimp only at H); have A14 := Aside0.mk A140; clear A140
          by_cases c15 : t920008 = true
          ·subst c15; have H1 : (spec_l4Top.l0 k1 l0 x5_1 t920004 (wrap64 (x5_1 + 1))) = some r := by rw [if_pos rfl] at H; exact H
           clear H; have H := H1; clear H1; have H' := Aside0.mk H; clear H; have p920003 : 0 ≤ (x5_1 : Int) := of_decide_eq_true zq_2; have q920003 : x5_1 < (l0.length : Int) := of_decide_eq_true zq_2; obtain ⟨ad920003, e920003, hx920003_0, hx920003_1⟩ := at_T77 HR0.out x5_1 p920003 q920003; obtain rfl : ad920001 = ad920003 := (by injection e920003)
           replace hx920003_0 := (HB.out.cell (World.block_lt_of_cell? w _ hx920003_0)).trans hx920003_0; replace hx920003_1 := (HB.out.cell (World.block_lt_of_cell? w _ hx920003_1)).trans hx920003_1; replace p920003 := eq_true p920003; replace q920003 := eq_true q920003
           go_wp2_with (first | (go_at_call 95; (with_reducible refine (spec_Sha256.calls k1 ((rd_T77 l0 x5_1).f0) t920004 _ A7.out).mono ?_); rintro e w16 ⟨rfl, hb⟩; have n0_ := Aside0.mk (below_step zq_0 hb); clear HB; have HB := n0_; clear n0_; (try clear hb); (try clear hb2); (try clear hk); (try clear hi)) | (go_at_call 103; (with_reducible refine (spec_l1Less.calls k1 x4_1 t920004 false _ A8.out).mono ?_); rintro e w' ⟨rfl, ⟨nd, rfl⟩⟩; (try first | exact ⟨rfl, _, World.drewN_drewN _ _ _⟩ | exact ⟨rfl, _, Eq.trans (World.drewN_drewN _ _ _) (congrArg (World.drewN _) (Nat.add_assoc _ _ _))⟩); have p920006 : 0 ≤ (x5_1 : Int) := of_decide_eq_true zq_2; have q920006 : x5_1 < (l0.length : Int) := of_decide_eq_true zq_2; obtain ⟨ad920006, e920006, hx920006_0, hx920006_1⟩ := at_T77 HR0.out x5_1 p920006 q920006; obtain rfl : ad920001 = ad920006 := (by injection e920006); replace hx920006_0 := (HB.out.cell (World.block_lt_of_cell? w _ hx920006_0)).trans hx920006_0; replace hx920006_1 := (HB.out.cell (World.block_lt_of_cell? w _ hx920006_1)).trans hx920006_1; replace p920006 := eq_true p920006; replace q920006 := eq_true q920006; have p920007 : 0 ≤ (x3_1 : Int) := of_decide_eq_true zq_2; have q920007 : x3_1 < (l0.length : Int) := of_decide_eq_true zq_2; obtain ⟨ad920007, e920007, hx920007_0, hx920007_1⟩ := at_T77 HR0.out x3_1 p920007 q920007; obtain rfl : ad920001 = ad920007 := (by injection e920007); replace hx920007_0 := (HB.out.cell (World.block_lt_of_cell? w _ hx920007_0)).trans hx920007_0; replace hx920007_1 := (HB.out.cell (World.block_lt_of_cell? w _ hx920007_1)).trans hx920007_1; replace p920007 := eq_true p920007; replace q920007 := eq_true q920007) | (go_at_call 103; (with_reducible refine (spec_l1Less.calls k1 ((rd_T77 l0 x5_1).f0) ((rd_T77 l0 x3_1).f0) true _ A14.out).mono ?_); rintro e w' ⟨rfl, ⟨nd, rfl⟩⟩; (try first | exact ⟨rfl, _, World.drewN_drewN _ _ _⟩ | exact ⟨rfl, _, Eq.trans (World.drewN_drewN _ _ _) (congrArg (World.drewN _) (Nat.add_assoc _ _ _))⟩)))
           repeat (go_quiet (first | (go_at_call 95; (with_reducible refine (spec_Sha256.calls k1 ((rd_T77 l0 x5_1).f0) t920004 _ A7.out).mono ?_); rintro e w16 ⟨rfl, hb⟩; have n0_ := Aside0.mk (below_step zq_0 hb); clear HB; have HB := n0_; clear n0_; (try clear hb); (try clear hb2); (try clear hk); (try clear hi)) | (go_at_call 103; (with_reducible refine (spec_l1Less.calls k1 x4_1 t920004 false _ A8.out).mono ?_); rintro e w' ⟨rfl, ⟨nd, rfl⟩⟩; (try first | exact ⟨rfl, _, World.drewN_drewN _ _ _⟩ | exact ⟨rfl, _, Eq.trans (World.drewN_drewN _ _ _) (congrArg (World.drewN _) (Nat.add_assoc _ _ _))⟩); have p920006 : 0 ≤ (x5_1 : Int) := of_decide_eq_true zq_2; have q920006 : x5_1 < (l0.length : Int) := of_decide_eq_true zq_2; obtain ⟨ad920006, e920006, hx920006_0, hx920006_1⟩ := at_T77 HR0.out x5_1 p920006 q920006; obtain rfl : ad920001 = ad920006 := (by injection e920006); replace hx920006_0 := (HB.out.cell (World.block_lt_of_cell? w _ hx920006_0)).trans hx920006_0; replace hx920006_1 := (HB.out.cell (World.block_lt_of_cell? w _ hx920006_1)).trans hx920006_1; replace p920006 := eq_true p920006; replace q920006 := eq_true q920006; have p920007 : 0 ≤ (x3_1 : Int) := of_decide_eq_true zq_2; have q920007 : x3_1 < (l0.length : Int) := of_decide_eq_true zq_2; obtain ⟨ad920007, e920007, hx920007_0, hx920007_1⟩ := at_T77 HR0.out x3_1 p920007 q920007; obtain rfl : ad920001 = ad920007 := (by injection e920007); replace hx920007_0 := (HB.out.cell (World.block_lt_of_cell? w _ hx920007_0)).trans hx920007_0; replace hx920007_1 := (HB.out.cell (World.block_lt_of_cell? w _ hx920007_1)).trans hx920007_1; replace p920007 := eq_true p920007; replace q920007 := eq_true q920007) | (go_at_call 103; (with_reducible refine (spec_l1Less.calls k1 ((rd_T77 l0 x5_1).f0) ((rd_T77 l0 x3_1).f0) true _ A14.out).mono ?_); rintro e w' ⟨rfl, ⟨nd, rfl⟩⟩; (try first | exact ⟨rfl, _, World.drewN_drewN _ _ _⟩ | exact ⟨rfl, _, Eq.trans (World.drewN_drewN _ _ _) (congrArg (World.drewN _) (Nat.add_assoc _ _ _))⟩))); try go_wp2_with (first | (go_at_call 95; (with_reducible refine (spec_Sha256.calls k1 ((rd_T77 l0 x5_1).f0) t920004 _ A7.out).mono ?_); rintro e w16 ⟨rfl, hb⟩; have n0_ := Aside0.mk (below_step zq_0 hb); clear HB; have HB := n0_; clear n0_; (try clear hb); (try clear hb2); (try clear hk); (try clear hi)) | (go_at_call 103; (with_reducible refine (spec_l1Less.calls k1 x4_1 t920004 false _ A8.out).mono ?_); rintro e w' ⟨rfl, ⟨nd, rfl⟩⟩; (try first | exact ⟨rfl, _, World.drewN_drewN _ _ _⟩ | exact ⟨rfl, _, Eq.trans (World.drewN_drewN _ _ _) (congrArg (World.drewN _) (Nat.add_assoc _ _ _))⟩); have p920006 : 0 ≤ (x5_1 : Int) := of_decide_eq_true zq_2; have q920006 : x5_1 < (l0.length : Int) := of_decide_eq_true zq_2; obtain ⟨ad920006, e920006, hx920006_0, hx920006_1⟩ := at_T77 HR0.out x5_1 p920006 q920006; obtain rfl : ad920001 = ad920006 := (by injection e920006); replace hx920006_0 := (HB.out.cell (World.block_lt_of_cell? w _ hx920006_0)).trans hx920006_0; replace hx920006_1 := (HB.out.cell (World.block_lt_of_cell? w _ hx920006_1)).trans hx920006_1; replace p920006 := eq_true p920006; replace q920006 := eq_true q920006; have p920007 : 0 ≤ (x3_1 : Int) := of_decide_eq_true zq_2; have q920007 : x3_1 < (l0.length : Int) := of_decide_eq_true zq_2; obtain ⟨ad920007, e920007, hx920007_0, hx920007_1⟩ := at_T77 HR0.out x3_1 p920007 q920007; obtain rfl : ad920001 = ad920007 := (by injection e920007); replace hx920007_0 := (HB.out.cell (World.block_lt_of_cell? w _ hx920007_0)).trans hx920007_0; replace hx920007_1 := (HB.out.cell (World.block_lt_of_cell? w _ hx920007_1)).trans hx920007_1; replace p920007 := eq_true p920007; replace q920007 := eq_true q920007) | (go_at_call 103; (with_reducible refine (spec_l1Less.calls k1 ((rd_T77 l0 x5_1).f0) ((rd_T77 l0 x3_1).f0) true _ A14.out).mono ?_); rintro e w' ⟨rfl, ⟨nd, rfl⟩⟩; (try first | exact ⟨rfl, _, World.drewN_drewN _ _ _⟩ | exact ⟨rfl, _, Eq.trans (World.drewN_drewN _ _ _) (congrArg (World.drewN _) (Nat.add_assoc _ _ _))⟩))))
           go_roundg k1
           case measure => have := HK1.out; omega
           case rel => exact ⟨(x5_1), (t920004), (wrap64 (x5_1 + 1)), zq_4, zq_4, zq_4, H', ⟨by have := HK1.out; omega⟩, ⟨by repeat (first | (with_reducible first | exact HB.out | apply below_alloc | apply pw_below_drewN | apply below_drew1) | exact HB.out)⟩⟩
          ·replace c15 := Bool.eq_false_iff.mpr c15; subst c15; have H1 : (spec_l4Top.l0 k1 l0 x3_1 x4_1 (wrap64 (x5_1 + 1))) = some r := by rw [if_neg (show ¬ (false = true) by decide)] at H; exact H
           clear H; have H := H1; clear H1; have H' := Aside0.mk H; clear H; have p920003 : 0 ≤ (x5_1 : Int) := of_decide_eq_true zq_2; have q920003 : x5_1 < (l0.length : Int) := of_decide_eq_true zq_2; obtain ⟨ad920003, e920003, hx920003_0, hx920003_1⟩ := at_T77 HR0.out x5_1 p920003 q920003; obtain rfl : ad920001 = ad920003 := (by injection e920003)
           replace hx920003_0 := (HB.out.cell (World.block_lt_of_cell? w _ hx920003_0)).trans hx920003_0; replace hx920003_1 := (HB.out.cell (World.block_lt_of_cell? w _ hx920003_1)).trans hx920003_1; replace p920003 := eq_true p920003; replace q920003 := eq_true q920003
           go_wp2_with (first | (go_at_call 95; (with_reducible refine (spec_Sha256.calls k1 ((rd_T77 l0 x5_1).f0) t920004 _ A7.out).mono ?_); rintro e w17 ⟨rfl, hb⟩; have n0_ := Aside0.mk (below_step zq_0 hb); clear HB; have HB := n0_; clear n0_; (try clear hb); (try clear hb2); (try clear hk); (try clear hi)) | (go_at_call 103; (with_reducible refine (spec_l1Less.calls k1 x4_1 t920004 false _ A8.out).mono ?_); rintro e w' ⟨rfl, ⟨nd, rfl⟩⟩; (try first | exact ⟨rfl, _, World.drewN_drewN _ _ _⟩ | exact ⟨rfl, _, Eq.trans (World.drewN_drewN _ _ _) (congrArg (World.drewN _) (Nat.add_assoc _ _ _))⟩); have p920006 : 0 ≤ (x5_1 : Int) := of_decide_eq_true zq_2; have q920006 : x5_1 < (l0.length : Int) := of_decide_eq_true zq_2; obtain ⟨ad920006, e920006, hx920006_0, hx920006_1⟩ := at_T77 HR0.out x5_1 p920006 q920006; obtain rfl : ad920001 = ad920006 := (by injection e920006); replace hx920006_0 := (HB.out.cell (World.block_lt_of_cell? w _ hx920006_0)).trans hx920006_0; replace hx920006_1 := (HB.out.cell (World.block_lt_of_cell? w _ hx920006_1)).trans hx920006_1; replace p920006 := eq_true p920006; replace q920006 := eq_true q920006; have p920007 : 0 ≤ (x3_1 : Int) := of_decide_eq_true zq_2; have q920007 : x3_1 < (l0.length : Int) := of_decide_eq_true zq_2; obtain ⟨ad920007, e920007, hx920007_0, hx920007_1⟩ := at_T77 HR0.out x3_1 p920007 q920007; obtain rfl : ad920001 = ad920007 := (by injection e920007); replace hx920007_0 := (HB.out.cell (World.block_lt_of_cell? w _ hx920007_0)).trans hx920007_0; replace hx920007_1 := (HB.out.cell (World.block_lt_of_cell? w _ hx920007_1)).trans hx920007_1; replace p920007 := eq_true p920007; replace q920007 := eq_true q920007) | (go_at_call 103; (with_reducible refine (spec_l1Less.calls k1 ((rd_T77 l0 x5_1).f0) ((rd_T77 l0 x3_1).f0) false _ A14.out).mono ?_); rintro e w' ⟨rfl, ⟨nd, rfl⟩⟩; (try first | exact ⟨rfl, _, World.drewN_drewN _ _ _⟩ | exact ⟨rfl, _, Eq.trans (World.drewN_drewN _ _ _) (congrArg (World.drewN _) (Nat.add_assoc _ _ _))⟩)))
           repeat (go_quiet (first | (go_at_call 95; (with_reducible refine (spec_Sha256.calls k1 ((rd_T77 l0 x5_1).f0) t920004 _ A7.out).mono ?_); rintro e w17 ⟨rfl, hb⟩; have n0_ := Aside0.mk (below_step zq_0 hb); clear HB; have HB := n0_; clear n0_; (try clear hb); (try clear hb2); (try clear hk); (try clear hi)) | (go_at_call 103; (with_reducible refine (spec_l1Less.calls k1 x4_1 t920004 false _ A8.out).mono ?_); rintro e w' ⟨rfl, ⟨nd, rfl⟩⟩; (try first | exact ⟨rfl, _, World.drewN_drewN _ _ _⟩ | exact ⟨rfl, _, Eq.trans (World.drewN_drewN _ _ _) (congrArg (World.drewN _) (Nat.add_assoc _ _ _))⟩); have p920006 : 0 ≤ (x5_1 : Int) := of_decide_eq_true zq_2; have q920006 : x5_1 < (l0.length : Int) := of_decide_eq_true zq_2; obtain ⟨ad920006, e920006, hx920006_0, hx920006_1⟩ := at_T77 HR0.out x5_1 p920006 q920006; obtain rfl : ad920001 = ad920006 := (by injection e920006); replace hx920006_0 := (HB.out.cell (World.block_lt_of_cell? w _ hx920006_0)).trans hx920006_0; replace hx920006_1 := (HB.out.cell (World.block_lt_of_cell? w _ hx920006_1)).trans hx920006_1; replace p920006 := eq_true p920006; replace q920006 := eq_true q920006; have p920007 : 0 ≤ (x3_1 : Int) := of_decide_eq_true zq_2; have q920007 : x3_1 < (l0.length : Int) := of_decide_eq_true zq_2; obtain ⟨ad920007, e920007, hx920007_0, hx920007_1⟩ := at_T77 HR0.out x3_1 p920007 q920007; obtain rfl : ad920001 = ad920007 := (by injection e920007); replace hx920007_0 := (HB.out.cell (World.block_lt_of_cell? w _ hx920007_0)).trans hx920007_0; replace hx920007_1 := (HB.out.cell (World.block_lt_of_cell? w _ hx920007_1)).trans hx920007_1; replace p920007 := eq_true p920007; replace q920007 := eq_true q920007) | (go_at_call 103; (with_reducible refine (spec_l1Less.calls k1 ((rd_T77 l0 x5_1).f0) ((rd_T77 l0 x3_1).f0) false _ A14.out).mono ?_); rintro e w' ⟨rfl, ⟨nd, rfl⟩⟩; (try first | exact ⟨rfl, _, World.drewN_drewN _ _ _⟩ | exact ⟨rfl, _, Eq.trans (World.drewN_drewN _ _ _) (congrArg (World.drewN _) (Nat.add_assoc _ _ _))⟩))); try go_wp2_with (first | (go_at_call 95; (with_reducible refine (spec_Sha256.calls k1 ((rd_T77 l0 x5_1).f0) t920004 _ A7.out).mono ?_); rintro e w17 ⟨rfl, hb⟩; have n0_ := Aside0.mk (below_step zq_0 hb); clear HB; have HB := n0_; clear n0_; (try clear hb); (try clear hb2); (try clear hk); (try clear hi)) | (go_at_call 103; (with_reducible refine (spec_l1Less.calls k1 x4_1 t920004 false _ A8.out).mono ?_); rintro e w' ⟨rfl, ⟨nd, rfl⟩⟩; (try first | exact ⟨rfl, _, World.drewN_drewN _ _ _⟩ | exact ⟨rfl, _, Eq.trans (World.drewN_drewN _ _ _) (congrArg (World.drewN _) (Nat.add_assoc _ _ _))⟩); have p920006 : 0 ≤ (x5_1 : Int) := of_decide_eq_true zq_2; have q920006 : x5_1 < (l0.length : Int) := of_decide_eq_true zq_2; obtain ⟨ad920006, e920006, hx920006_0, hx920006_1⟩ := at_T77 HR0.out x5_1 p920006 q920006; obtain rfl : ad920001 = ad920006 := (by injection e920006); replace hx920006_0 := (HB.out.cell (World.block_lt_of_cell? w _ hx920006_0)).trans hx920006_0; replace hx920006_1 := (HB.out.cell (World.block_lt_of_cell? w _ hx920006_1)).trans hx920006_1; replace p920006 := eq_true p920006; replace q920006 := eq_true q920006; have p920007 : 0 ≤ (x3_1 : Int) := of_decide_eq_true zq_2; have q920007 : x3_1 < (l0.length : Int) := of_decide_eq_true zq_2; obtain ⟨ad920007, e920007, hx920007_0, hx920007_1⟩ := at_T77 HR0.out x3_1 p920007 q920007; obtain rfl : ad920001 = ad920007 := (by injection e920007); replace hx920007_0 := (HB.out.cell (World.block_lt_of_cell? w _ hx920007_0)).trans hx920007_0; replace hx920007_1 := (HB.out.cell (World.block_lt_of_cell? w _ hx920007_1)).trans hx920007_1; replace p920007 := eq_true p920007; replace q920007 := eq_true q920007) | (go_at_call 103; (with_reducible refine (spec_l1Less.calls k1 ((rd_T77 l0 x5_1).f0) ((rd_T77 l0 x3_1).f0) false _ A14.out).mono ?_); rintro e w' ⟨rfl, ⟨nd, rfl⟩⟩; (try first | exact ⟨rfl, _, World.drewN_drewN _ _ _⟩ | exact ⟨rfl, _, Eq.trans (World.drewN_drewN _ _ _) (congrArg (World.drewN _) (Nat.add_assoc _ _ _))⟩))))
           go_roundg k1
           case measure => have := HK1.out; omega
           case rel => exact ⟨(x3_1), (x4_1), (wrap64 (x5_1 + 1)), zq_4, zq_4, zq_4, H', ⟨by have := HK1.out; omega⟩, ⟨by repeat (first | (with_reducible first | exact HB.out | apply below_alloc | apply pw_below_drewN | apply below_drew1) | exact HB.out)⟩⟩
         ·rw [if_neg c13] at H; exact absurd H (by simp)
        ·rw [if_neg c12] at H; exact absurd H (by simp)
       ·rw [if_neg c11] at H; have c11b0 : (t920004.toList == x4_1.toList) = false := beq_eq_false_iff_ne.mpr c11; have c11b1 : (t920004.toList != x4_1.toList) = true := bne_iff_ne.mpr c11; have H' := Aside0.mk H; clear H; have p920003 : 0 ≤ (x5_1 : Int) := of_decide_eq_true zq_2; have q920003 : x5_1 < (l0.length : Int) := of_decide_eq_true zq_2; obtain ⟨ad920003, e920003, hx920003_0, hx920003_1⟩ := at_T77 HR0.out x5_1 p920003 q920003; obtain rfl : ad920001 = ad920003 := (by injection e920003)
        replace hx920003_0 := (HB.out.cell (World.block_lt_of_cell? w _ hx920003_0)).trans hx920003_0; replace hx920003_1 := (HB.out.cell (World.block_lt_of_cell? w _ hx920003_1)).trans hx920003_1; replace p920003 := eq_true p920003; replace q920003 := eq_true q920003
        go_wp2_with (first | (go_at_call 95; (with_reducible refine (spec_Sha256.calls k1 ((rd_T77 l0 x5_1).f0) t920004 _ A7.out).mono ?_); rintro e w18 ⟨rfl, hb⟩; have n0_ := Aside0.mk (below_step zq_0 hb); clear HB; have HB := n0_; clear n0_; (try clear hb); (try clear hb2); (try clear hk); (try clear hi)) | (go_at_call 103; (with_reducible refine (spec_l1Less.calls k1 x4_1 t920004 false _ A8.out).mono ?_); rintro e w' ⟨rfl, ⟨nd, rfl⟩⟩; (try first | exact ⟨rfl, _, World.drewN_drewN _ _ _⟩ | exact ⟨rfl, _, Eq.trans (World.drewN_drewN _ _ _) (congrArg (World.drewN _) (Nat.add_assoc _ _ _))⟩)))
        repeat (go_quiet (first | (go_at_call 95; (with_reducible refine (spec_Sha256.calls k1 ((rd_T77 l0 x5_1).f0) t920004 _ A7.out).mono ?_); rintro e w18 ⟨rfl, hb⟩; have n0_ := Aside0.mk (below_step zq_0 hb); clear HB; have HB := n0_; clear n0_; (try clear hb); (try clear hb2); (try clear hk); (try clear hi)) | (go_at_call 103; (with_reducible refine (spec_l1Less.calls k1 x4_1 t920004 false _ A8.out).mono ?_); rintro e w' ⟨rfl, ⟨nd, rfl⟩⟩; (try first | exact ⟨rfl, _, World.drewN_drewN _ _ _⟩ | exact ⟨rfl, _, Eq.trans (World.drewN_drewN _ _ _) (congrArg (World.drewN _) (Nat.add_assoc _ _ _))⟩))); try go_wp2_with (first | (go_at_call 95; (with_reducible refine (spec_Sha256.calls k1 ((rd_T77 l0 x5_1).f0) t920004 _ A7.out).mono ?_); rintro e w18 ⟨rfl, hb⟩; have n0_ := Aside0.mk (below_step zq_0 hb); clear HB; have HB := n0_; clear n0_; (try clear hb); (try clear hb2); (try clear hk); (try clear hi)) | (go_at_call 103; (with_reducible refine (spec_l1Less.calls k1 x4_1 t920004 false _ A8.out).mono ?_); rintro e w' ⟨rfl, ⟨nd, rfl⟩⟩; (try first | exact ⟨rfl, _, World.drewN_drewN _ _ _⟩ | exact ⟨rfl, _, Eq.trans (World.drewN_drewN _ _ _) (congrArg (World.drewN _) (Nat.add_assoc _ _ _))⟩))))
        go_roundg k1
        case measure => have := HK1.out; omega
        case rel => exact ⟨(x3_1), (x4_1), (wrap64 (x5_1 + 1)), zq_4, zq_4, zq_4, H', ⟨by have := HK1.out; omega⟩, ⟨by repeat (first | (with_reducible first | exact HB.out | apply below_alloc | apply pw_below_drewN | apply below_drew1) | exact HB.out)⟩⟩
     ·rw [if_neg c6] at H; exact absurd H (by simp)
    ·rw [if_neg c5] at H; have c5b0 : decide (x5_1 < (l0.length : Int)) = false := decide_eq_false c5; clear c5; obtain rfl := Option.some.inj H
     go_wp2
     repeat (go_quiet (fail); try go_wp2)
     go_ret
     exact ⟨by first | rfl | (simp [errW_none, errW_some] <;> rfl) | (simp [*, errW_none, errW_some] <;> rfl), by repeat (first | (with_reducible first | exact HB.out | apply below_alloc | apply pw_below_drewN | apply below_drew1) | exact HB.out)⟩
 ·rw [if_neg c2] at H; exact absurd H (by simp)
mutual
def spec_l4Encs.l0 : Nat → Int → List ByteArray → List ByteArray → Int → ByteArray → ByteArray → ByteArray → ByteArray → Option (List ByteArray × ByteArray)
 | 0, _, _, _, _, _, _, _, _ => none
 | k + 1, x1, x7, x9, x12, x720024000, x720024001, x720024002, x720024003 => if x12 < (x9.length : Int) then (if 0 ≤ x12 then (if x7.length < 8796093022208 then (spec_l4Encs.l0 k x1 (x7 ++ [rdOf ByteArray.empty x9 x12]) x9 (wrap64 (x12 + 1)) x720024000 x720024001 x720024002 x720024003) else (none)) else (none)) else ((spec_EncodeNode.f x720024000 x720024001 x720024002 x720024003 x1).bind fun t720028 => (if x7.length < 8796093022208 then ((spec_NodeHash.f k x720024000 x720024001 x720024002 x720024003 x1).bind fun t720032 => (some ((x7 ++ [t720028]), t720032))) else (none)))
def spec_l4Encs.f : Nat → List (S77) → Int → Option (List ByteArray × ByteArray)
 | 0, _, _ => none
 | k + 1, l0, a1 => if (l0.length : Int) = 0 then (some ((([] : List ByteArray)), (⟨#[]⟩ : ByteArray))) else ((spec_l4Top.f k l0).bind fun t720004 => (if 0 ≤ t720004 then (if t720004 ≤ (l0.length : Int) then ((spec_l4Encs.f k (l0.take (t720004 : Int).toNat) a1).bind fun bt720009 => (if 0 ≤ (wrap64 (t720004 + 1)) then (if (wrap64 (t720004 + 1)) ≤ (l0.length : Int) then ((spec_l4Encs.f k (l0.drop ((wrap64 (t720004 + 1)) : Int).toNat) a1).bind fun bt720017 => (if t720004 < (l0.length : Int) then (spec_l4Encs.l0 k a1 bt720009.1 bt720017.1 0 ((rd_T77 l0 t720004).f0) ((rd_T77 l0 t720004).f1) bt720009.2 bt720017.2) else (none))) else (none)) else (none))) else (none)) else (none)))
end
def spec_l4Encs.T6 : Bool × List (List Nat × List Nat) := (true, [([], []), ([], []), ([0, 1], [0, 1]), ([2], [2]), ([3], [3]), ([], []), ([], []), ([5, 6], [5, 6]), ([7], [7]), ([8], [8]), ([], []), ([], []), ([4, 9, 10, 11], [4, 9, 10, 11]), ([], []), ([13, 12, 0, 1, 2, 3, 4, 5, 6, 7, 8, 9, 10, 11, 12, 13], [12, 13])])
def spec_l4Encs.B6 : List Nat := [0, 0, 3, 7, 15, 0, 0, 96, 224, 480, 0, 0, 4095, 0, 16383]
theorem spec_l4Encs.tab6 : rtab .any (opsOf Tryd.f72 6) = spec_l4Encs.T6 := by kernel_rfl
theorem spec_l4Encs.bits6 : waitsOk spec_l4Encs.T6.2 spec_l4Encs.B6 = true := by kernel_rfl
def spec_l4Encs.T11 : Bool × List (List Nat × List Nat) := (true, [([], []), ([], []), ([], []), ([1, 2], [1, 2]), ([3], [3]), ([0, 4, 3], [0, 4]), ([], []), ([], []), ([6, 7, 5], [6, 7]), ([5, 8, 0, 1, 2, 3, 4, 5], [5]), ([8, 9, 0, 1, 2, 3, 4, 5, 6, 7, 8, 9], [8])])
def spec_l4Encs.B11 : List Nat := [0, 0, 0, 6, 14, 31, 0, 0, 255, 511, 1023]
theorem spec_l4Encs.tab11 : rtab .any (opsOf Tryd.f72 11) = spec_l4Encs.T11 := by kernel_rfl
theorem spec_l4Encs.bits11 : waitsOk spec_l4Encs.T11.2 spec_l4Encs.B11 = true := by kernel_rfl
set_option maxHeartbeats 8000000 in
set_option maxRecDepth 100000 in
theorem spec_l4Encs.calls (k : Nat) : ∀ (A0 : Option Addr) (c0 : Nat) (l0 : List (S77)) (a1 : Int) (r1 : List ByteArray) (r2 : ByteArray) (w : World) (hr0 : Kd.C k77 w A0 l0.length l0) (hc0 : l0.length ≤ c0) (h : spec_l4Encs.f k l0 a1 = some (r1, r2)),
  Calls Tryd.prog 72 #[.slice A0 l0.length c0, .int .i64 a1] w fun e w' => ∃ v0_ : Value, e = .returned (.tuple #[v0_, .string r2]) ∧ Kd.R Kd.string 9 w' w.heap.size (fun _ => True) v0_ r1 ∧ Below w.heap.size w w' := by
 induction k using Nat.strongRecOn with
 | _ k ih =>
 intro A0 c0 l0 a1 r1 r2 w hr0 hc0 h
 cases k with
 | zero => exact absurd h (by simp [spec_l4Encs.f])
 | succ k =>
 simp only [spec_l4Encs.f] at h; have hu99 := Tryd.underlying99; have HR0 := Aside0.mk hr0; have HC0 := Aside0.mk hc0; clear hr0 hc0; have HB := Aside0.mk (Below.refl w.heap.size w); have H : (if (l0.length : Int) = 0 then (some ((([] : List ByteArray)), (⟨#[]⟩ : ByteArray))) else ((spec_l4Top.f k l0).bind fun t720004 => (if 0 ≤ t720004 then (if t720004 ≤ (l0.length : Int) then ((spec_l4Encs.f k (l0.take (t720004 : Int).toNat) a1).bind fun bt720009 => (if 0 ≤ (wrap64 (t720004 + 1)) then (if (wrap64 (t720004 + 1)) ≤ (l0.length : Int) then ((spec_l4Encs.f k (l0.drop ((wrap64 (t720004 + 1)) : Int).toNat) a1).bind fun bt720017 => (if t720004 < (l0.length : Int) then (spec_l4Encs.l0 k a1 bt720009.1 bt720017.1 0 ((rd_T77 l0 t720004).f0) ((rd_T77 l0 t720004).f1) bt720009.2 bt720017.2) else (none))) else (none)) else (none))) else (none)) else (none)))) = some (r1, r2) := h; clear h
 by_cases c3 : (l0.length : Int) = 0
 ·rw [if_pos c3] at H; have c3b0 : ((l0.length : Int) == 0) = true := beq_iff_eq.mpr c3; have c3b1 : ((l0.length : Int) != 0) = false := bne_eq_false_iff_eq.mpr c3; clear c3; obtain ⟨y720001, hy720001⟩ : ∃ y_ : List ByteArray, y_ = (([] : List ByteArray)) := ⟨_, rfl⟩
  replace H : (some (y720001, (⟨#[]⟩ : ByteArray))) = some (r1, r2) := by first | (rw [hy720001]; with_reducible exact H) | (have H2_ := (Option.bind_some _ _).symm.trans H; rw [hy720001]; with_reducible exact H2_) | (have H2_ := (Option.bind_some _ _).symm.trans H; with_reducible exact H2_) | with_reducible exact H | (rw [hy720001]; exact H) | exact H
  have Ny720001 := Aside0.mk hy720001; clear hy720001; simp only [Option.some.injEq, Prod.mk.injEq] at H; obtain ⟨rfl, rfl⟩ := H
  go_enter Tryd.func72, Tryd.ntmps72
  go_wp2_with (first | ((with_reducible refine gate_dst (N := 16) rfl ?_); refine Kd.R_lit Kd.string _ 9 ?hg (N := 16) ?hd (xs := ([] : List ByteArray)) (inner := []) (ok := fun _ => True) (okp := fun _ => True) ?hr ?hp (fun _ hk => hk) trivial (Below.refl _ _) (Nat.le_refl _) (by simp) ?_; (case hd => rfl); (case hg => rfl); (case hr => exact zq_14); (case hp => exact (Reps.none _ _)); intro v720002 w4 ho5 hb hg_ hnew_; clear hg_ hnew_; (first | rw [← Ny720001.out] at ho5 | (simp only [Int.reduceToNat] at ho5; rw [← Ny720001.out] at ho5)); have n0_ := Aside0.mk (Kd.R_lower ho5 (below_size zq_0)); have n1_ := Aside0.mk (below_step zq_0 hb); clear HB; have HO720003 := n0_; have HB := n1_; clear n0_ n1_; clear hb ho5))
  go_ret2
  exact ⟨_, by first | rfl | (simp [errW_none, errW_some] <;> rfl) | (simp [*, errW_none, errW_some] <;> rfl), by (with_reducible repeat (first | apply Kd.R_alloc | apply Kd.R_drewN | apply Kd.R_drew)); exact HO720003.out, by repeat (first | (with_reducible first | exact HB.out | apply below_alloc | apply pw_below_drewN | apply below_drew1) | exact HB.out)⟩
 ·rw [if_neg c3] at H; have c3b0 : ((l0.length : Int) == 0) = false := beq_eq_false_iff_ne.mpr c3; have c3b1 : ((l0.length : Int) != 0) = true := bne_iff_ne.mpr c3; have c3b2 : ¬ (l0 = []) := fun h_ => c3 (by rw [h_]; rfl)
  replace H := Option.bind_eq_some_iff.mp H; obtain ⟨t720004, A60, H⟩ := H; (try dsimp only at H); have A6 := Aside0.mk A60; clear A60
  by_cases c7 : 0 ≤ t720004
  ·rw [if_pos c7] at H; have c7b0 := eq_true c7; have c7b1 : decide (0 ≤ t720004) = true := decide_eq_true c7; clear c7
   by_cases c8 : t720004 ≤ (l0.length : Int)
   ·rw [if_pos c8] at H; have c8b0 := eq_true c8; have c8b1 : decide (t720004 ≤ (l0.length : Int)) = true := decide_eq_true c8; clear c8; obtain ⟨y720005, hy720005⟩ : ∃ y_ : List (S77), y_ = (l0.take (t720004 : Int).toNat) := ⟨_, rfl⟩
    replace H : ((spec_l4Encs.f k y720005 a1).bind fun bt720009 => (if 0 ≤ (wrap64 (t720004 + 1)) then (if (wrap64 (t720004 + 1)) ≤ (l0.length : Int) then ((spec_l4Encs.f k (l0.drop ((wrap64 (t720004 + 1)) : Int).toNat) a1).bind fun bt720017 => (if t720004 < (l0.length : Int) then (spec_l4Encs.l0 k a1 bt720009.1 bt720017.1 0 ((rd_T77 l0 t720004).f0) ((rd_T77 l0 t720004).f1) bt720009.2 bt720017.2) else (none))) else (none)) else (none))) = some (r1, r2) := by first | (rw [hy720005]; with_reducible exact H) | (have H2_ := (Option.bind_some _ _).symm.trans H; rw [hy720005]; with_reducible exact H2_) | (have H2_ := (Option.bind_some _ _).symm.trans H; with_reducible exact H2_) | with_reducible exact H | (rw [hy720005]; exact H) | exact H
    have Ny720005 := Aside0.mk hy720005; clear hy720005; replace H := Option.bind_eq_some_iff.mp H; obtain ⟨⟨t720009, t720010⟩, A90, H⟩ := H; (try dsimp only at H); have A9 := Aside0.mk A90; clear A90; obtain ⟨ji10, hji10⟩ : ∃ j_ : Int, (wrap64 (t720004 + 1)) = j_ := ⟨_, rfl⟩
    replace H : (if 0 ≤ (ji10) then (if (ji10) ≤ (l0.length : Int) then ((spec_l4Encs.f k (l0.drop ((ji10) : Int).toNat) a1).bind fun bt720017 => (if t720004 < (l0.length : Int) then (spec_l4Encs.l0 k a1 t720009 bt720017.1 0 ((rd_T77 l0 t720004).f0) ((rd_T77 l0 t720004).f1) t720010 bt720017.2) else (none))) else (none)) else (none)) = some (r1, r2) := by first | (rw [hji10] at H; exact H) | (simp only [hji10] at H ⊢; exact H)
    (try rw [hji10] at A6); (try rw [hji10] at A9); have hji10w : (IntKind.i64.wrap (t720004 + 1)) = ji10 := (i64_w _).trans hji10
    by_cases c11 : 0 ≤ (ji10)
    ·rw [if_pos c11] at H; have c11b0 := eq_true c11; have c11b1 : decide (0 ≤ (ji10)) = true := decide_eq_true c11; clear c11
     by_cases c12 : (ji10) ≤ (l0.length : Int)
     ·rw [if_pos c12] at H; have c12b0 := eq_true c12; have c12b1 : decide ((ji10) ≤ (l0.length : Int)) = true := decide_eq_true c12; clear c12; obtain ⟨y720013, hy720013⟩ : ∃ y_ : List (S77), y_ = (l0.drop ((ji10) : Int).toNat) := ⟨_, rfl⟩
      replace H : ((spec_l4Encs.f k y720013 a1).bind fun bt720017 => (if t720004 < (l0.length : Int) then (spec_l4Encs.l0 k a1 t720009 bt720017.1 0 ((rd_T77 l0 t720004).f0) ((rd_T77 l0 t720004).f1) t720010 bt720017.2) else (none))) = some (r1, r2) := by first | (rw [hy720013]; with_reducible exact H) | (have H2_ := (Option.bind_some _ _).symm.trans H; rw [hy720013]; with_reducible exact H2_) | (have H2_ := (Option.bind_some _ _).symm.trans H; with_reducible exact H2_) | with_reducible exact H | (rw [hy720013]; exact H) | exact H
      have Ny720013 := Aside0.mk hy720013; clear hy720013; replace H := Option.bind_eq_some_iff.mp H; obtain ⟨⟨t720017, t720018⟩, A130, H⟩ := H; (try dsimp only at H); have A13 := Aside0.mk A130; clear A130
      by_cases c14 : t720004 < (l0.length : Int)
      ·rw [if_pos c14] at H; have c14b0 : decide (t720004 < (l0.length : Int)) = true := decide_eq_true c14; clear c14; have H' := Aside0.mk H; clear H
       go_enter Tryd.func72, Tryd.ntmps72
       try go_wp2_with (first | ((with_reducible refine gate_callee (f := 92) rfl ?_); refine goesL_ (some 18) rfl rfl Tryd.func92 (by kernel_rfl) rfl #[.slice A0 l0.length c0] rfl zq_1 ?_; (with_reducible refine (spec_l4Top.calls k _ _ l0 t720004 _ ?side1 ?side2 A6.out).mono ?_); (case side1 => exact zq_5); (case side2 => exact HC0.out); rintro e w15 ⟨rfl, hb⟩; refine ⟨_, rfl, ?_⟩; have n0_ := Aside0.mk (below_step zq_0 hb); clear HB; have HB := n0_; clear n0_; (try clear hb); (try clear hb2); (try clear hk); (try clear hi); have q16 : (t720004 : Int) ≤ ((l0.length : Int) : Int) := of_decide_eq_true zq_2; obtain ⟨i016, hi016, _, hsz16, _⟩ := info_parts info77; have hroom16 : l0.length ≤ c0 := HC0.out; have hC16 : Kd.C k77 _ A0 l0.length l0 := HR0.out; have hcut16 := cut_to (P := Tryd.prog) 22 77 .i64 Tryd.underlying22 hi016 A0 l0.length c0 t720004 (of_decide_eq_true zq_2) q16 hroom16; have hr16 := Kd.C_take (m := (t720004 : Int).toNat) hC16 (by omega); have hy16 : y720005.length = (t720004 : Int).toNat := (by rw [Ny720005.out, List.length_take]; omega); rw [← Ny720005.out] at hr16; rw [← hy16] at hcut16; have HR720008 := Aside0.mk hr16; have HC720008 := Aside0.mk (show y720005.length ≤ c0 from by omega); clear hr16 hC16 hroom16 hi016 hsz16; have KY16 := Aside0.mk hy16; clear hy16; replace q16 := eq_true q16) | ((with_reducible refine gate_callee (f := 72) rfl ?_); refine goesL_ (some 24) rfl rfl Tryd.func72 (by kernel_rfl) rfl #[.slice A0 y720005.length c0, .int .i64 a1] rfl zq_1 ?_; (with_reducible refine (ih k (by omega) _ _ y720005 a1 t720009 t720010 _ ?side1 ?side2 A9.out).mono ?_); (case side1 => repeat (first | exact (Kd.C_below HR720008.out HB.out) | (with_reducible refine Kd.C_alloc ?_ _) | (with_reducible refine Kd.C_drewN ?_ _) | (with_reducible refine Kd.C_drew ?_))); (case side2 => exact HC720008.out); rintro e w17 ⟨v720011, rfl, ho0, hb⟩; refine ⟨_, rfl, ?_⟩; have n0_ := Aside0.mk (Kd.R_lower ho0 (below_size zq_0)); have n1_ := Aside0.mk (below_step zq_0 hb); clear HB; have HO720012 := n0_; have HB := n1_; clear n0_ n1_; (try clear hb); (try clear hb2); (try clear hk); (try clear hi); (try clear ho0); have q18 : ((ji10) : Int) ≤ ((l0.length : Int) : Int) := of_decide_eq_true zq_2; obtain ⟨i018, hi018, _, hsz18, _⟩ := info_parts info77; have hroom18 : l0.length ≤ c0 := HC0.out; have hC18 : Kd.C k77 _ A0 l0.length l0 := HR0.out; have q018 : (0 : Int) ≤ ((ji10) : Int) := of_decide_eq_true zq_2; have hcut18 := cut_from (P := Tryd.prog) 22 77 .i64 Tryd.underlying22 hi018 2 hsz18 A0 l0.length c0 (ji10) q018 q18; have hr18 := Kd.C_drop (m := ((ji10) : Int).toNat) (c := c0) hC18 (by omega) hroom18; obtain ⟨A18, hA18⟩ : ∃ Az_, Az_ = (if c0 = ((ji10) : Int).toNat then A0 else (A0 : Option Addr).map (·.add (((ji10) : Int).toNat * 2))) := ⟨_, rfl⟩; obtain ⟨c18, hc18⟩ : ∃ cz_, cz_ = c0 - ((ji10) : Int).toNat := ⟨_, rfl⟩; have hy18 : y720013.length = l0.length - ((ji10) : Int).toNat := (by rw [Ny720013.out, List.length_drop] <;> omega); rw [show (l0).drop ((ji10) : Int).toNat = y720013 from Ny720013.out.symm] at hr18; replace hr18 : Kd.C k77 _ A18 y720013.length y720013 := (by rw [hA18]; exact hr18); rw [← hy18, ← hA18, ← hc18] at hcut18; have HR720016 := Aside0.mk hr18; have HC720016 := Aside0.mk (show y720013.length ≤ c18 from by rw [hy18, hc18]; exact Nat.sub_le_sub_right hroom18 _); clear hr18 hC18 hroom18 hi018 hsz18 hc18; have KY18 := Aside0.mk hy18; have KA18 := Aside0.mk hA18; clear hy18 hA18; replace q18 := eq_true q18) | ((with_reducible refine gate_callee (f := 72) rfl ?_); refine goesL_ (some 33) rfl rfl Tryd.func72 (by kernel_rfl) rfl #[.slice A18 y720013.length c18, .int .i64 a1] rfl zq_1 ?_; (with_reducible refine (ih k (by omega) _ _ y720013 a1 t720017 t720018 _ ?side1 ?side2 A13.out).mono ?_); (case side1 => repeat (first | exact (Kd.C_below HR720016.out HB.out) | (with_reducible refine Kd.C_alloc ?_ _) | (with_reducible refine Kd.C_drewN ?_ _) | (with_reducible refine Kd.C_drew ?_))); (case side2 => exact HC720016.out); rintro e w19 ⟨v720019, rfl, ho0, hb⟩; refine ⟨_, rfl, ?_⟩; have n0_ := Aside0.mk (Kd.R_elder' (by (with_reducible repeat (first | apply Kd.R_alloc | apply Kd.R_drewN | apply Kd.R_drew)); exact HO720012.out) (Kd.R_base ho0) hb); have n1_ := Aside0.mk (Kd.R_lower (Kd.R_new' ho0 (Kd.R_lt (by (with_reducible repeat (first | apply Kd.R_alloc | apply Kd.R_drewN | apply Kd.R_drew)); exact HO720012.out))) (below_size zq_0)); have n2_ := Aside0.mk (below_step zq_0 hb); clear HO720012; clear HB; have HO720012 := n0_; have HO720020 := n1_; have HB := n2_; clear n0_ n1_ n2_; (try clear hb); (try clear hb2); (try clear hk); (try clear hi); (try clear ho0)))
       have n0_ := Aside0.mk (Kd.R_drew HO720012.out); have n1_ := Aside0.mk (Kd.R_drew HO720020.out); have n2_ := Aside0.mk (below_drew1 HB.out); clear HO720012; clear HO720020; clear HB; have HO720012 := n0_; have HO720020 := n1_; have HB := n2_; clear n0_ n1_ n2_; have p720021 : 0 ≤ (t720004 : Int) := of_decide_eq_true zq_2; have q720021 : t720004 < (l0.length : Int) := of_decide_eq_true zq_2; obtain ⟨ad720021, e720021, hx720021_0, hx720021_1⟩ := at_T77 HR0.out t720004 p720021 q720021; have hw720021_1 := hx720021_1; have hw720021_0 := hx720021_0
       cases e720021
       replace hx720021_0 := (HB.out.cell (World.block_lt_of_cell? w _ hx720021_0)).trans hx720021_0; replace hx720021_1 := (HB.out.cell (World.block_lt_of_cell? w _ hx720021_1)).trans hx720021_1; replace p720021 := eq_true p720021; replace q720021 := eq_true q720021; have p720022 : 0 ≤ (t720004 : Int) := of_decide_eq_true zq_2; have q720022 : t720004 < (l0.length : Int) := of_decide_eq_true zq_2; obtain ⟨ad720022, e720022, hx720022_0, hx720022_1⟩ := at_T77 HR0.out t720004 p720022 q720022; have hw720022_1 := hx720022_1; have hw720022_0 := hx720022_0; obtain rfl : ad720021 = ad720022 := (by injection e720022)
       replace hx720022_0 := (HB.out.cell (World.block_lt_of_cell? w _ hx720022_0)).trans hx720022_0; replace hx720022_1 := (HB.out.cell (World.block_lt_of_cell? w _ hx720022_1)).trans hx720022_1; replace p720022 := eq_true p720022; replace q720022 := eq_true q720022; refine start_ (n := 15) (S := fun w' => w'.cell? (ad720021.add ((t720004).toNat * 2)) = some (.string ((rd_T77 l0 t720004).f0)) ∧ w'.cell? ⟨(ad720021.add ((t720004).toNat * 2)).block, (ad720021.add ((t720004).toNat * 2)).off + 1, none⟩ = some (.string ((rd_T77 l0 t720004).f1)) ∧ w'.cell? (ad720021.add ((t720004).toNat * 2)) = some (.string ((rd_T77 l0 t720004).f0)) ∧ w'.cell? ⟨(ad720021.add ((t720004).toNat * 2)).block, (ad720021.add ((t720004).toNat * 2)).off + 1, none⟩ = some (.string ((rd_T77 l0 t720004).f1))) (ds := []) #[false, false, false, false, false, false, false, false, false, false, false, false, false, false, false] (by kernel_rfl) rfl rfl ⟨((HB.out.cell (World.block_lt_of_cell? w _ hw720021_0)).trans hw720021_0), ((HB.out.cell (World.block_lt_of_cell? w _ hw720021_1)).trans hw720021_1), ((HB.out.cell (World.block_lt_of_cell? w _ hw720022_0)).trans hw720022_0), ((HB.out.cell (World.block_lt_of_cell? w _ hw720022_1)).trans hw720022_1)⟩ (fun hHeld => ?_); refine with_tabW spec_l4Encs.tab6 spec_l4Encs.bits6 (fun HT_ HW_ => ?_); generalize w19.drew = w20 at HO720012 HO720020 HB hx720021_0 hx720021_1 hx720022_0 hx720022_1 hHeld ⊢; refine pq_ (i := 0) (N := some 36) HT_.out ?_; refine pq_ (i := 1) (N := some 37) HT_.out ?_; refine pq_ (i := 2) (N := some 38) HT_.out ?_; refine pq_ (i := 3) (N := some 39) HT_.out ?_; refine pq_ (i := 5) (N := some 41) HT_.out ?_; refine pq_ (i := 6) (N := some 42) HT_.out ?_; refine pq_ (i := 7) (N := some 43) HT_.out ?_; refine pq_ (i := 8) (N := some 44) HT_.out ?_; refine pq_ (i := 10) (N := some 46) HT_.out ?_; refine pq_ (i := 11) (N := some 47) HT_.out ?_; refine tq_ (i := 4) (N := some 40) HT_.out HW_.out hHeld (hy := by rintro w' ⟨s0, s1, s2, s3⟩; go_simp; with_reducible rfl) (h := ?_); refine tq_ (i := 9) (N := some 45) HT_.out HW_.out hHeld (hy := by rintro w' ⟨s0, s1, s2, s3⟩; go_simp; with_reducible rfl) (h := ?_); refine pq_ (i := 12) (N := some 48) HT_.out ?_; refine one_ (i := 13) (N := some 11) #[true, true, true, true, true, true, true, true, true, true, true, true, true, true, false] rfl rfl (one_of HT_.out (by kernel_rfl)) (by decide) (fun K hK => ?_)
       refine box_step ?hg (N := 11) ?hd (cs := #[.string (⟨#[]⟩ : ByteArray), .string (⟨#[]⟩ : ByteArray), .string (⟨#[]⟩ : ByteArray), .string (⟨#[]⟩ : ByteArray)]) (t := 99) ?hr ?_; (case hd => rfl); (case hg => rfl); (case hr => exact zq_14); intro gb720023 hg w21 hbox hb; have n0_ := Aside0.mk (Kd.R_below (by (with_reducible repeat (first | apply Kd.R_alloc | apply Kd.R_drewN | apply Kd.R_drew)); exact HO720012.out) hb); have n1_ := Aside0.mk (Kd.R_below (by (with_reducible repeat (first | apply Kd.R_alloc | apply Kd.R_drewN | apply Kd.R_drew)); exact HO720020.out) hb); have n2_ := Aside0.mk (below_step zq_0 hb); have n3_ := Aside0.mk (hbox); have n4_ := Aside0.mk ((by rw [hg]; exact (below_size zq_0) : w.heap.size ≤ gb720023)); have n5_ := Aside0.mk ((by rw [hg]; exact (below_size zq_0) : w.heap.size ≤ gb720023)); clear HO720012; clear HO720020; clear HB; have HO720012 := n0_; have HO720020 := n1_; have HB := n2_; have BK720023 := n3_; have GW720023 := n4_; have GE720023 := n5_; clear n0_ n1_ n2_ n3_ n4_ n5_; clear hb hbox hg; refine hK.out _ _ ⟨((HB.out.cell (World.block_lt_of_cell? w _ hw720021_0)).trans hw720021_0), ((HB.out.cell (World.block_lt_of_cell? w _ hw720021_1)).trans hw720021_1), ((HB.out.cell (World.block_lt_of_cell? w _ hw720022_0)).trans hw720022_0), ((HB.out.cell (World.block_lt_of_cell? w _ hw720022_1)).trans hw720022_1)⟩ (fun hHeld => ?_); clear hK K; refine norm_ (a' := ?_) ?_ ?_; rotate_left
       ·show Act.put _ (some 11) _ = _; simp only [Act.put, List.setIfInBounds_toArray, List.set_cons_zero, List.set_cons_succ, i64_w, i32_w]; rfl
       refine one_ (i := 14) (N := none) #[true, true, true, true, true, true, true, true, true, true, true, true, true, true, true] rfl rfl (one_of HT_.out (by kernel_rfl)) (by decide) (fun K hK => ?_); have hs22 : w21.cell? ⟨gb720023, 0, none⟩ = some (.string (⟨#[]⟩ : ByteArray)) := (blk_cell BK720023.out 0).trans rfl; have hfs22 := blk_frozen BK720023.out 0; have hs23 : w21.cell? ⟨gb720023, 1, none⟩ = some (.string (⟨#[]⟩ : ByteArray)) := (blk_cell BK720023.out 1).trans rfl; have hfs23 := blk_frozen BK720023.out 1; have hs24 : w21.cell? ⟨gb720023, 2, none⟩ = some (.string (⟨#[]⟩ : ByteArray)) := (blk_cell BK720023.out 2).trans rfl; have hfs24 := blk_frozen BK720023.out 2; have hs25 : w21.cell? ⟨gb720023, 3, none⟩ = some (.string (⟨#[]⟩ : ByteArray)) := (blk_cell BK720023.out 3).trans rfl; have hfs25 := blk_frozen BK720023.out 3; refine skip_ (w1 := ?_) (by rfl) rfl ?_ ?_; rotate_left
       ·go_simp; rfl
       refine hK.out _ _ ⟨((cell_far (p := ⟨gb720023, _, none⟩) (by first | exact Nat.ne_of_lt (Nat.lt_of_lt_of_le (by have := World.block_lt_of_cell? _ _ hw720021_0; first | rwa [add_block] at this | exact this) GW720023.out) | (rw [add_block]; exact Nat.ne_of_lt (Nat.lt_of_lt_of_le (by have := World.block_lt_of_cell? _ _ hw720021_0; first | rwa [add_block] at this | exact this) GW720023.out)) | (show (Addr.add _ _).block ≠ _; rw [add_block]; exact Nat.ne_of_lt (Nat.lt_of_lt_of_le (by have := World.block_lt_of_cell? _ _ hw720021_0; first | rwa [add_block] at this | exact this) GW720023.out)) | (dsimp only; exact Nat.ne_of_lt (Nat.lt_of_lt_of_le (by have := World.block_lt_of_cell? _ _ hw720021_0; first | rwa [add_block] at this | exact this) GW720023.out))) _).trans (((cell_far (p := ⟨gb720023, _, none⟩) (by first | exact Nat.ne_of_lt (Nat.lt_of_lt_of_le (by have := World.block_lt_of_cell? _ _ hw720021_0; first | rwa [add_block] at this | exact this) GW720023.out) | (rw [add_block]; exact Nat.ne_of_lt (Nat.lt_of_lt_of_le (by have := World.block_lt_of_cell? _ _ hw720021_0; first | rwa [add_block] at this | exact this) GW720023.out)) | (show (Addr.add _ _).block ≠ _; rw [add_block]; exact Nat.ne_of_lt (Nat.lt_of_lt_of_le (by have := World.block_lt_of_cell? _ _ hw720021_0; first | rwa [add_block] at this | exact this) GW720023.out)) | (dsimp only; exact Nat.ne_of_lt (Nat.lt_of_lt_of_le (by have := World.block_lt_of_cell? _ _ hw720021_0; first | rwa [add_block] at this | exact this) GW720023.out))) _).trans (((cell_far (p := ⟨gb720023, _, none⟩) (by first | exact Nat.ne_of_lt (Nat.lt_of_lt_of_le (by have := World.block_lt_of_cell? _ _ hw720021_0; first | rwa [add_block] at this | exact this) GW720023.out) | (rw [add_block]; exact Nat.ne_of_lt (Nat.lt_of_lt_of_le (by have := World.block_lt_of_cell? _ _ hw720021_0; first | rwa [add_block] at this | exact this) GW720023.out)) | (show (Addr.add _ _).block ≠ _; rw [add_block]; exact Nat.ne_of_lt (Nat.lt_of_lt_of_le (by have := World.block_lt_of_cell? _ _ hw720021_0; first | rwa [add_block] at this | exact this) GW720023.out)) | (dsimp only; exact Nat.ne_of_lt (Nat.lt_of_lt_of_le (by have := World.block_lt_of_cell? _ _ hw720021_0; first | rwa [add_block] at this | exact this) GW720023.out))) _).trans (((cell_far (p := ⟨gb720023, _, none⟩) (by first | exact Nat.ne_of_lt (Nat.lt_of_lt_of_le (by have := World.block_lt_of_cell? _ _ hw720021_0; first | rwa [add_block] at this | exact this) GW720023.out) | (rw [add_block]; exact Nat.ne_of_lt (Nat.lt_of_lt_of_le (by have := World.block_lt_of_cell? _ _ hw720021_0; first | rwa [add_block] at this | exact this) GW720023.out)) | (show (Addr.add _ _).block ≠ _; rw [add_block]; exact Nat.ne_of_lt (Nat.lt_of_lt_of_le (by have := World.block_lt_of_cell? _ _ hw720021_0; first | rwa [add_block] at this | exact this) GW720023.out)) | (dsimp only; exact Nat.ne_of_lt (Nat.lt_of_lt_of_le (by have := World.block_lt_of_cell? _ _ hw720021_0; first | rwa [add_block] at this | exact this) GW720023.out))) _).trans (hHeld.1)))))))), ((cell_far (p := ⟨gb720023, _, none⟩) (by first | exact Nat.ne_of_lt (Nat.lt_of_lt_of_le (by have := World.block_lt_of_cell? _ _ hw720021_1; first | rwa [add_block] at this | exact this) GW720023.out) | (rw [add_block]; exact Nat.ne_of_lt (Nat.lt_of_lt_of_le (by have := World.block_lt_of_cell? _ _ hw720021_1; first | rwa [add_block] at this | exact this) GW720023.out)) | (show (Addr.add _ _).block ≠ _; rw [add_block]; exact Nat.ne_of_lt (Nat.lt_of_lt_of_le (by have := World.block_lt_of_cell? _ _ hw720021_1; first | rwa [add_block] at this | exact this) GW720023.out)) | (dsimp only; exact Nat.ne_of_lt (Nat.lt_of_lt_of_le (by have := World.block_lt_of_cell? _ _ hw720021_1; first | rwa [add_block] at this | exact this) GW720023.out))) _).trans (((cell_far (p := ⟨gb720023, _, none⟩) (by first | exact Nat.ne_of_lt (Nat.lt_of_lt_of_le (by have := World.block_lt_of_cell? _ _ hw720021_1; first | rwa [add_block] at this | exact this) GW720023.out) | (rw [add_block]; exact Nat.ne_of_lt (Nat.lt_of_lt_of_le (by have := World.block_lt_of_cell? _ _ hw720021_1; first | rwa [add_block] at this | exact this) GW720023.out)) | (show (Addr.add _ _).block ≠ _; rw [add_block]; exact Nat.ne_of_lt (Nat.lt_of_lt_of_le (by have := World.block_lt_of_cell? _ _ hw720021_1; first | rwa [add_block] at this | exact this) GW720023.out)) | (dsimp only; exact Nat.ne_of_lt (Nat.lt_of_lt_of_le (by have := World.block_lt_of_cell? _ _ hw720021_1; first | rwa [add_block] at this | exact this) GW720023.out))) _).trans (((cell_far (p := ⟨gb720023, _, none⟩) (by first | exact Nat.ne_of_lt (Nat.lt_of_lt_of_le (by have := World.block_lt_of_cell? _ _ hw720021_1; first | rwa [add_block] at this | exact this) GW720023.out) | (rw [add_block]; exact Nat.ne_of_lt (Nat.lt_of_lt_of_le (by have := World.block_lt_of_cell? _ _ hw720021_1; first | rwa [add_block] at this | exact this) GW720023.out)) | (show (Addr.add _ _).block ≠ _; rw [add_block]; exact Nat.ne_of_lt (Nat.lt_of_lt_of_le (by have := World.block_lt_of_cell? _ _ hw720021_1; first | rwa [add_block] at this | exact this) GW720023.out)) | (dsimp only; exact Nat.ne_of_lt (Nat.lt_of_lt_of_le (by have := World.block_lt_of_cell? _ _ hw720021_1; first | rwa [add_block] at this | exact this) GW720023.out))) _).trans (((cell_far (p := ⟨gb720023, _, none⟩) (by first | exact Nat.ne_of_lt (Nat.lt_of_lt_of_le (by have := World.block_lt_of_cell? _ _ hw720021_1; first | rwa [add_block] at this | exact this) GW720023.out) | (rw [add_block]; exact Nat.ne_of_lt (Nat.lt_of_lt_of_le (by have := World.block_lt_of_cell? _ _ hw720021_1; first | rwa [add_block] at this | exact this) GW720023.out)) | (show (Addr.add _ _).block ≠ _; rw [add_block]; exact Nat.ne_of_lt (Nat.lt_of_lt_of_le (by have := World.block_lt_of_cell? _ _ hw720021_1; first | rwa [add_block] at this | exact this) GW720023.out)) | (dsimp only; exact Nat.ne_of_lt (Nat.lt_of_lt_of_le (by have := World.block_lt_of_cell? _ _ hw720021_1; first | rwa [add_block] at this | exact this) GW720023.out))) _).trans (hHeld.2.1)))))))), ((cell_far (p := ⟨gb720023, _, none⟩) (by first | exact Nat.ne_of_lt (Nat.lt_of_lt_of_le (by have := World.block_lt_of_cell? _ _ hw720022_0; first | rwa [add_block] at this | exact this) GW720023.out) | (rw [add_block]; exact Nat.ne_of_lt (Nat.lt_of_lt_of_le (by have := World.block_lt_of_cell? _ _ hw720022_0; first | rwa [add_block] at this | exact this) GW720023.out)) | (show (Addr.add _ _).block ≠ _; rw [add_block]; exact Nat.ne_of_lt (Nat.lt_of_lt_of_le (by have := World.block_lt_of_cell? _ _ hw720022_0; first | rwa [add_block] at this | exact this) GW720023.out)) | (dsimp only; exact Nat.ne_of_lt (Nat.lt_of_lt_of_le (by have := World.block_lt_of_cell? _ _ hw720022_0; first | rwa [add_block] at this | exact this) GW720023.out))) _).trans (((cell_far (p := ⟨gb720023, _, none⟩) (by first | exact Nat.ne_of_lt (Nat.lt_of_lt_of_le (by have := World.block_lt_of_cell? _ _ hw720022_0; first | rwa [add_block] at this | exact this) GW720023.out) | (rw [add_block]; exact Nat.ne_of_lt (Nat.lt_of_lt_of_le (by have := World.block_lt_of_cell? _ _ hw720022_0; first | rwa [add_block] at this | exact this) GW720023.out)) | (show (Addr.add _ _).block ≠ _; rw [add_block]; exact Nat.ne_of_lt (Nat.lt_of_lt_of_le (by have := World.block_lt_of_cell? _ _ hw720022_0; first | rwa [add_block] at this | exact this) GW720023.out)) | (dsimp only; exact Nat.ne_of_lt (Nat.lt_of_lt_of_le (by have := World.block_lt_of_cell? _ _ hw720022_0; first | rwa [add_block] at this | exact this) GW720023.out))) _).trans (((cell_far (p := ⟨gb720023, _, none⟩) (by first | exact Nat.ne_of_lt (Nat.lt_of_lt_of_le (by have := World.block_lt_of_cell? _ _ hw720022_0; first | rwa [add_block] at this | exact this) GW720023.out) | (rw [add_block]; exact Nat.ne_of_lt (Nat.lt_of_lt_of_le (by have := World.block_lt_of_cell? _ _ hw720022_0; first | rwa [add_block] at this | exact this) GW720023.out)) | (show (Addr.add _ _).block ≠ _; rw [add_block]; exact Nat.ne_of_lt (Nat.lt_of_lt_of_le (by have := World.block_lt_of_cell? _ _ hw720022_0; first | rwa [add_block] at this | exact this) GW720023.out)) | (dsimp only; exact Nat.ne_of_lt (Nat.lt_of_lt_of_le (by have := World.block_lt_of_cell? _ _ hw720022_0; first | rwa [add_block] at this | exact this) GW720023.out))) _).trans (((cell_far (p := ⟨gb720023, _, none⟩) (by first | exact Nat.ne_of_lt (Nat.lt_of_lt_of_le (by have := World.block_lt_of_cell? _ _ hw720022_0; first | rwa [add_block] at this | exact this) GW720023.out) | (rw [add_block]; exact Nat.ne_of_lt (Nat.lt_of_lt_of_le (by have := World.block_lt_of_cell? _ _ hw720022_0; first | rwa [add_block] at this | exact this) GW720023.out)) | (show (Addr.add _ _).block ≠ _; rw [add_block]; exact Nat.ne_of_lt (Nat.lt_of_lt_of_le (by have := World.block_lt_of_cell? _ _ hw720022_0; first | rwa [add_block] at this | exact this) GW720023.out)) | (dsimp only; exact Nat.ne_of_lt (Nat.lt_of_lt_of_le (by have := World.block_lt_of_cell? _ _ hw720022_0; first | rwa [add_block] at this | exact this) GW720023.out))) _).trans (hHeld.2.2.1)))))))), ((cell_far (p := ⟨gb720023, _, none⟩) (by first | exact Nat.ne_of_lt (Nat.lt_of_lt_of_le (by have := World.block_lt_of_cell? _ _ hw720022_1; first | rwa [add_block] at this | exact this) GW720023.out) | (rw [add_block]; exact Nat.ne_of_lt (Nat.lt_of_lt_of_le (by have := World.block_lt_of_cell? _ _ hw720022_1; first | rwa [add_block] at this | exact this) GW720023.out)) | (show (Addr.add _ _).block ≠ _; rw [add_block]; exact Nat.ne_of_lt (Nat.lt_of_lt_of_le (by have := World.block_lt_of_cell? _ _ hw720022_1; first | rwa [add_block] at this | exact this) GW720023.out)) | (dsimp only; exact Nat.ne_of_lt (Nat.lt_of_lt_of_le (by have := World.block_lt_of_cell? _ _ hw720022_1; first | rwa [add_block] at this | exact this) GW720023.out))) _).trans (((cell_far (p := ⟨gb720023, _, none⟩) (by first | exact Nat.ne_of_lt (Nat.lt_of_lt_of_le (by have := World.block_lt_of_cell? _ _ hw720022_1; first | rwa [add_block] at this | exact this) GW720023.out) | (rw [add_block]; exact Nat.ne_of_lt (Nat.lt_of_lt_of_le (by have := World.block_lt_of_cell? _ _ hw720022_1; first | rwa [add_block] at this | exact this) GW720023.out)) | (show (Addr.add _ _).block ≠ _; rw [add_block]; exact Nat.ne_of_lt (Nat.lt_of_lt_of_le (by have := World.block_lt_of_cell? _ _ hw720022_1; first | rwa [add_block] at this | exact this) GW720023.out)) | (dsimp only; exact Nat.ne_of_lt (Nat.lt_of_lt_of_le (by have := World.block_lt_of_cell? _ _ hw720022_1; first | rwa [add_block] at this | exact this) GW720023.out))) _).trans (((cell_far (p := ⟨gb720023, _, none⟩) (by first | exact Nat.ne_of_lt (Nat.lt_of_lt_of_le (by have := World.block_lt_of_cell? _ _ hw720022_1; first | rwa [add_block] at this | exact this) GW720023.out) | (rw [add_block]; exact Nat.ne_of_lt (Nat.lt_of_lt_of_le (by have := World.block_lt_of_cell? _ _ hw720022_1; first | rwa [add_block] at this | exact this) GW720023.out)) | (show (Addr.add _ _).block ≠ _; rw [add_block]; exact Nat.ne_of_lt (Nat.lt_of_lt_of_le (by have := World.block_lt_of_cell? _ _ hw720022_1; first | rwa [add_block] at this | exact this) GW720023.out)) | (dsimp only; exact Nat.ne_of_lt (Nat.lt_of_lt_of_le (by have := World.block_lt_of_cell? _ _ hw720022_1; first | rwa [add_block] at this | exact this) GW720023.out))) _).trans (((cell_far (p := ⟨gb720023, _, none⟩) (by first | exact Nat.ne_of_lt (Nat.lt_of_lt_of_le (by have := World.block_lt_of_cell? _ _ hw720022_1; first | rwa [add_block] at this | exact this) GW720023.out) | (rw [add_block]; exact Nat.ne_of_lt (Nat.lt_of_lt_of_le (by have := World.block_lt_of_cell? _ _ hw720022_1; first | rwa [add_block] at this | exact this) GW720023.out)) | (show (Addr.add _ _).block ≠ _; rw [add_block]; exact Nat.ne_of_lt (Nat.lt_of_lt_of_le (by have := World.block_lt_of_cell? _ _ hw720022_1; first | rwa [add_block] at this | exact this) GW720023.out)) | (dsimp only; exact Nat.ne_of_lt (Nat.lt_of_lt_of_le (by have := World.block_lt_of_cell? _ _ hw720022_1; first | rwa [add_block] at this | exact this) GW720023.out))) _).trans (hHeld.2.2.2))))))))⟩ (fun hHeld => ?_)
       clear hK K; refine done_ (done_of HT_.out (by kernel_rfl)) ?_
       try go_wp2
       go_loopg [7, 12] k (fun kq v7 v12 w' => ∃ (x7_1 : List ByteArray) (x12_1 : Int), v12 = .int .i64 x12_1 ∧ Aside0 (spec_l4Encs.l0 kq a1 x7_1 t720017 x12_1 ((rd_T77 l0 t720004).f0) ((rd_T77 l0 t720004).f1) t720010 t720018 = some (r1, r2)) ∧ Aside0 (kq ≤ k) ∧ Aside0 (Kd.R Kd.string 9 w' w.heap.size (fun k_ => some k_ ≠ (v720019 : Value).ownBlock) v7 x7_1) ∧ Aside0 (Kd.R Kd.string 9 w' w.heap.size (fun k_ => some k_ ≠ (v7 : Value).ownBlock) v720019 t720017) ∧ Aside0 (w'.heap[gb720023]? = some (.cells #[.string ((rd_T77 l0 t720004).f0), .string ((rd_T77 l0 t720004).f1), .string t720010, .string t720018] 99 (0, 0))) ∧ Aside0 (Below w.heap.size w w'))
       case atStart => exact ⟨(t720009), (0), zq_4, H', ⟨Nat.le_refl _⟩, ⟨by (with_reducible repeat (first | apply Kd.R_alloc | apply Kd.R_drewN | apply Kd.R_drew)); exact Kd.R_mono (Kd.R_far (p := ⟨gb720023, 3, none⟩) (Kd.R_far (p := ⟨gb720023, 2, none⟩) (Kd.R_far (p := ⟨gb720023, 1, none⟩) (Kd.R_far (p := ⟨gb720023, 0, none⟩) (Kd.R_types HO720012.out BK720023.out (by decide)) (fun _ hk => hk.2) (.string ((rd_T77 l0 t720004).f0))) (fun _ hk => hk.2) (.string ((rd_T77 l0 t720004).f1))) (fun _ hk => hk.2) (.string t720010)) (fun _ hk => hk.2) (.string t720018)) (fun _ hk => hk.1.2)⟩, ⟨by (with_reducible repeat (first | apply Kd.R_alloc | apply Kd.R_drewN | apply Kd.R_drew)); exact Kd.R_mono (Kd.R_far (p := ⟨gb720023, 3, none⟩) (Kd.R_far (p := ⟨gb720023, 2, none⟩) (Kd.R_far (p := ⟨gb720023, 1, none⟩) (Kd.R_far (p := ⟨gb720023, 0, none⟩) (Kd.R_types HO720020.out BK720023.out (by decide)) (fun _ hk => hk.2) (.string ((rd_T77 l0 t720004).f0))) (fun _ hk => hk.2) (.string ((rd_T77 l0 t720004).f1))) (fun _ hk => hk.2) (.string t720010)) (fun _ hk => hk.2) (.string t720018)) (fun _ hk => hk.1.2)⟩, ⟨by (with_reducible repeat (first | refine blk_drewN ?_ _ | refine blk_drew ?_ | refine blk_alloc ?_ _)); refine blk_put (cs := #[.string ((rd_T77 l0 t720004).f0), .string ((rd_T77 l0 t720004).f1), .string t720010, .string (⟨#[]⟩ : ByteArray)]) ?_ 3 _ rfl; (with_reducible repeat (first | refine blk_drewN ?_ _ | refine blk_drew ?_ | refine blk_alloc ?_ _)); refine blk_put (cs := #[.string ((rd_T77 l0 t720004).f0), .string ((rd_T77 l0 t720004).f1), .string (⟨#[]⟩ : ByteArray), .string (⟨#[]⟩ : ByteArray)]) ?_ 2 _ rfl; (with_reducible repeat (first | refine blk_drewN ?_ _ | refine blk_drew ?_ | refine blk_alloc ?_ _)); refine blk_put (cs := #[.string ((rd_T77 l0 t720004).f0), .string (⟨#[]⟩ : ByteArray), .string (⟨#[]⟩ : ByteArray), .string (⟨#[]⟩ : ByteArray)]) ?_ 1 _ rfl; (with_reducible repeat (first | refine blk_drewN ?_ _ | refine blk_drew ?_ | refine blk_alloc ?_ _)); refine blk_put (cs := #[.string (⟨#[]⟩ : ByteArray), .string (⟨#[]⟩ : ByteArray), .string (⟨#[]⟩ : ByteArray), .string (⟨#[]⟩ : ByteArray)]) ?_ 0 _ rfl; (with_reducible repeat (first | refine blk_drewN ?_ _ | refine blk_drew ?_ | refine blk_alloc ?_ _)); exact BK720023.out⟩, ⟨by repeat (first | (with_reducible first | exact HB.out | apply below_alloc | apply pw_below_drewN | apply below_drew1 | refine below_set ?_ GE720023.out) | exact HB.out)⟩⟩
       case round =>
        clear H'
        try clear c1
        try clear q1
        try clear p2
        try clear c3
        try clear c3b0
        try clear c3b1
        try clear c3b2
        try clear p6
        try clear c7
        try clear c7b0
        try clear c7b1
        try clear p7
        try clear q7
        try clear hx7
        try clear c8
        try clear c8b0
        try clear c8b1
        try clear c9
        try clear c11
        try clear c11b0
        try clear c11b1
        try clear c12
        try clear c12b0
        try clear c12b1
        try clear c14
        try clear c14b0
        try clear q16
        try clear c18
        try clear q18
        try clear hx720021_0
        try clear hx720021_1
        try clear hx720022_0
        try clear hx720022_1
        try clear p720021
        try clear p720022
        try clear q018
        try clear q16
        try clear q18
        try clear q720021
        try clear q720022
        obtain ⟨x7_1, x12_1, rfl, HA, HK1, HO_7, HO_9, BK720023, HB⟩ := hrel
        cases gk with
        | zero => exact absurd HA.out (by simp [spec_l4Encs.l0])
        | succ k1 =>
         have H := HA.out; clear HA; simp only [spec_l4Encs.l0] at H
         by_cases c26 : x12_1 < (t720017.length : Int)
         ·rw [if_pos c26] at H; have c26b0 : decide (x12_1 < (t720017.length : Int)) = true := decide_eq_true c26; clear c26
          by_cases c27 : 0 ≤ x12_1
          ·rw [if_pos c27] at H; have c27b0 : decide (0 ≤ x12_1) = true := decide_eq_true c27; clear c27
           by_cases c28 : x7_1.length < 8796093022208
           ·rw [if_pos c28] at H; have LMc28 := Aside0.mk c28; clear c28; obtain ⟨y720025, hy720025⟩ : ∃ y_ : List ByteArray, y_ = (x7_1 ++ [rdOf ByteArray.empty t720017 x12_1]) := ⟨_, rfl⟩
            replace H : (spec_l4Encs.l0 k1 a1 y720025 t720017 (wrap64 (x12_1 + 1)) ((rd_T77 l0 t720004).f0) ((rd_T77 l0 t720004).f1) t720010 t720018) = some (r1, r2) := by first | (rw [hy720025]; with_reducible exact H) | (have H2_ := (Option.bind_some _ _).symm.trans H; rw [hy720025]; with_reducible exact H2_) | (have H2_ := (Option.bind_some _ _).symm.trans H; with_reducible exact H2_) | with_reducible exact H | (rw [hy720025]; exact H) | exact H
            have Ny720025 := Aside0.mk hy720025; clear hy720025; have H' := Aside0.mk H; clear H; obtain ⟨Ao29, co29, eo29⟩ := Kd.R_slice HO_9.out; subst eo29; have p720024 : 0 ≤ (x12_1 : Int) := of_decide_eq_true zq_2; have q720024 : x12_1 < (t720017.length : Int) := of_decide_eq_true zq_2; obtain ⟨ad720024, e720024, hx720024_0⟩ := Kd.at_string (Kd.R_reads' HO_9.out).2.2 x12_1 p720024 q720024
            cases e720024
            replace p720024 := eq_true p720024; replace q720024 := eq_true q720024
            go_wp2_with (first | ((with_reducible refine gate_builtin (b := .append) (xs := #[.tmp 55, .tmp 60]) rfl ?_); at_builtin; refine Kd.R_append Kd.string (w0 := w) w.heap.size rfl (.tmp 55) (.tmp 60) 28 9 (.string ⟨#[]⟩) 16 rfl Tryd.underlying28 info9 rfl (by decide) (by omega) u7 x7_1 (rdOf ByteArray.empty t720017 x12_1) [.string (rdOf ByteArray.empty t720017 x12_1)] (fun k_ => some k_ ≠ (.slice (some ad720024) t720017.length co29 : Value).ownBlock) (fun _ => False) rfl rfl ?aP (fun _ hk => hk.elim) ?aF ?aO ?aB ?aS ?aL ?_; (case aP => exact rfl); (case aB => exact zq_17); (case aF => exact (fun k_ hk => Kd.fresh' (Kd.R_lt zq_25) k_ hk)); (case aO => exact zq_6); (case aS => exact (below_size zq_17)); (case aL => have := LMc28.out; omega); intro v720026 w30 ho hb hg hat; rw [← Ny720025.out] at ho; have n0_ := Aside0.mk (Kd.R_after (ok := (fun _ => True)) (by (with_reducible repeat (first | apply Kd.R_alloc | apply Kd.R_drewN | apply Kd.R_drew)); exact Kd.R_mono HO_9.out (fun _ hk => ⟨trivial, hk⟩)) hg hat); have n1_ := Aside0.mk (blk_grown (g := gb720023) (o := .cells #[.string ((rd_T77 l0 t720004).f0), .string ((rd_T77 l0 t720004).f1), .string t720010, .string t720018] 99 (0, 0)) zq_37 hg (Kd.R_ne HO_7.out BK720023.out (by decide))); have n2_ := Aside0.mk (hb); have n3_ := Aside0.mk (ho); clear HO_9; clear BK720023; clear HB; clear HO_7; have HO_9 := n0_; have BK720023 := n1_; have HB := n2_; have HO720027 := n3_; clear n0_ n1_ n2_ n3_; clear ho hb hg hat))
            go_roundg k1
            case measure => have := HK1.out; omega
            case rel => exact ⟨(y720025), (wrap64 (x12_1 + 1)), zq_4, H', ⟨by have := HK1.out; omega⟩, ⟨by (with_reducible repeat (first | apply Kd.R_alloc | apply Kd.R_drewN | apply Kd.R_drew)); exact HO720027.out⟩, ⟨by (with_reducible repeat (first | apply Kd.R_alloc | apply Kd.R_drewN | apply Kd.R_drew)); exact Kd.R_mono HO_9.out (fun _ hk => hk.2)⟩, ⟨by (with_reducible repeat (first | refine blk_drewN ?_ _ | refine blk_drew ?_ | refine blk_alloc ?_ _)); exact BK720023.out⟩, ⟨by repeat (first | (with_reducible first | exact HB.out | apply below_alloc | apply pw_below_drewN | apply below_drew1 | refine below_set ?_ GE720023.out) | exact HB.out)⟩⟩
           ·rw [if_neg c28] at H; exact absurd H (by simp)
          ·rw [if_neg c27] at H; exact absurd H (by simp)
         ·rw [if_neg c26] at H; have c26b0 : decide (x12_1 < (t720017.length : Int)) = false := decide_eq_false c26; clear c26; replace H := Option.bind_eq_some_iff.mp H; obtain ⟨t720028, A310, H⟩ := H; (try dsimp only at H); have A31 := Aside0.mk A310; clear A310
          by_cases c32 : x7_1.length < 8796093022208
          ·rw [if_pos c32] at H; have LMc32 := Aside0.mk c32; clear c32; obtain ⟨y720029, hy720029⟩ : ∃ y_ : List ByteArray, y_ = (x7_1 ++ [t720028]) := ⟨_, rfl⟩
           replace H : ((spec_NodeHash.f k1 ((rd_T77 l0 t720004).f0) ((rd_T77 l0 t720004).f1) t720010 t720018 a1).bind fun t720032 => (some (y720029, t720032))) = some (r1, r2) := by first | (rw [hy720029]; with_reducible exact H) | (have H2_ := (Option.bind_some _ _).symm.trans H; rw [hy720029]; with_reducible exact H2_) | (have H2_ := (Option.bind_some _ _).symm.trans H; with_reducible exact H2_) | with_reducible exact H | (rw [hy720029]; exact H) | exact H
           have Ny720029 := Aside0.mk hy720029; clear hy720029; replace H := Option.bind_eq_some_iff.mp H; obtain ⟨t720032, A330, H⟩ := H; (try dsimp only at H); have A33 := Aside0.mk A330; clear A330; simp only [Option.some.injEq, Prod.mk.injEq] at H; obtain ⟨rfl, rfl⟩ := H; obtain ⟨Ao34, co34, eo34⟩ := Kd.R_slice HO_9.out; subst eo34
           try go_wp2
           have n0_ := Aside0.mk (Kd.R_drew HO_7.out); have n1_ := Aside0.mk (Kd.R_drew HO_9.out); have n2_ := Aside0.mk (blk_drew BK720023.out); have n3_ := Aside0.mk (below_drew1 HB.out); clear HO_7; clear HO_9; clear BK720023; clear HB; have HO_7 := n0_; have HO_9 := n1_; have BK720023 := n2_; have HB := n3_; clear n0_ n1_ n2_ n3_; refine start_ (n := 11) (S := fun w' => w'.cell? ⟨gb720023, 0, none⟩ = some (.string ((rd_T77 l0 t720004).f0)) ∧ w'.cell? ⟨gb720023, 1, none⟩ = some (.string ((rd_T77 l0 t720004).f1)) ∧ w'.cell? ⟨gb720023, 2, none⟩ = some (.string t720010) ∧ w'.cell? ⟨gb720023, 3, none⟩ = some (.string t720018)) (ds := []) #[false, false, false, false, false, false, false, false, false, false, false] (by kernel_rfl) rfl rfl ⟨(blk_cell BK720023.out 0).trans rfl, (blk_cell BK720023.out 1).trans rfl, (blk_cell BK720023.out 2).trans rfl, (blk_cell BK720023.out 3).trans rfl⟩ (fun hHeld => ?_); refine with_tabW spec_l4Encs.tab11 spec_l4Encs.bits11 (fun HT_ HW_ => ?_); generalize wr.drew = w35 at HO_7 HO_9 BK720023 HB hHeld ⊢; refine pq_ (i := 0) (N := some 62) HT_.out ?_; refine pq_ (i := 2) (N := some 64) HT_.out ?_; refine pq_ (i := 7) (N := some 69) HT_.out ?_; refine tq_ (i := 1) (N := some 63) HT_.out HW_.out hHeld (hy := by rintro w' ⟨s0, s1, s2, s3⟩; go_simp; with_reducible rfl) (h := ?_); refine tq_ (i := 6) (N := some 68) HT_.out HW_.out hHeld (hy := by rintro w' ⟨s0, s1, s2, s3⟩; go_simp; with_reducible rfl) (h := ?_); refine one_ (i := 3) (N := some 65) #[true, true, true, true, false, false, true, true, false, false, false] rfl rfl (one_of HT_.out (by kernel_rfl)) (by decide) (fun K hK => ?_); refine goes_ Tryd.func63 (by kernel_rfl) rfl #[.agg #[.string ((rd_T77 l0 t720004).f0), .string ((rd_T77 l0 t720004).f1), .string t720010, .string t720018], .int .i64 a1] (by rfl) rfl rfl zq_1 ?_
           with_reducible refine (spec_EncodeNode.calls ((rd_T77 l0 t720004).f0) ((rd_T77 l0 t720004).f1) t720010 t720018 a1 t720028 _ A31.out).mono ?_
           rintro e w36 ⟨rfl, hb⟩; refine ⟨_, rfl, ?_⟩; have n0_ := Aside0.mk (Kd.R_below zq_6 hb); have n1_ := Aside0.mk (Kd.R_below zq_25 hb); have n2_ := Aside0.mk (blk_below (g := gb720023) (o := .cells #[.string ((rd_T77 l0 t720004).f0), .string ((rd_T77 l0 t720004).f1), .string t720010, .string t720018] 99 (0, 0)) zq_37 hb); have n3_ := Aside0.mk (below_step zq_17 hb); clear HO_7; clear HO_9; clear BK720023; clear HB; have HO_7 := n0_; have HO_9 := n1_; have BK720023 := n2_; have HB := n3_; clear n0_ n1_ n2_ n3_; (try clear hb); (try clear hb2); (try clear hk); (try clear hi); refine hK.out _ _ ⟨(blk_cell BK720023.out 0).trans rfl, (blk_cell BK720023.out 1).trans rfl, (blk_cell BK720023.out 2).trans rfl, (blk_cell BK720023.out 3).trans rfl⟩ (fun hHeld => ?_); clear hK K; refine norm_ (a' := ?_) ?_ ?_; rotate_left
           ·show Act.put _ (some 65) _ = _; simp only [Act.put, List.setIfInBounds_toArray, List.set_cons_zero, List.set_cons_succ, i64_w, i32_w]; rfl
           refine one_ (i := 4) (N := some 66) #[true, true, true, true, true, false, true, true, false, false, false] rfl rfl (one_of HT_.out (by kernel_rfl)) (by decide) (fun K hK => ?_); refine value_ (w1 := ?_) (v := ?_) (by rfl) rfl ?_ ?_; rotate_left 2
           ·go_simp
            constructor
            ·rfl
            ·rfl
           refine hK.out _ _ ⟨(blk_cell (blk_alloc BK720023.out _) 0).trans rfl, (blk_cell (blk_alloc BK720023.out _) 1).trans rfl, (blk_cell (blk_alloc BK720023.out _) 2).trans rfl, (blk_cell (blk_alloc BK720023.out _) 3).trans rfl⟩ (fun hHeld => ?_); clear hK K; refine norm_ (a' := ?_) ?_ ?_; rotate_left
           ·show Act.put _ (some 66) _ = _; simp only [Act.put, List.setIfInBounds_toArray, List.set_cons_zero, List.set_cons_succ, i64_w, i32_w]; rfl
           refine one_ (i := 5) (N := some 67) #[true, true, true, true, true, true, true, true, false, false, false] rfl rfl (one_of HT_.out (by kernel_rfl)) (by decide) (fun K hK => ?_); refine Kd.R_append_step Kd.string (w0 := w) w.heap.size (by rfl) (.tmp 62) (.tmp 66) 28 9 (.string ⟨#[]⟩) 16 rfl Tryd.underlying28 info9 rfl (by decide) (by omega) u7 x7_1 t720028 [.string t720028] (fun k_ => some k_ ≠ (.slice Ao34 t720017.length co34 : Value).ownBlock) (fun _ => False) rfl rfl ?aP (fun _ hk => hk.elim) ?aF ?aO ?aB ?aS ?aL ?_; (case aP => exact rfl); (case aB => exact zq_17); (case aF => exact (fun k_ hk => Kd.fresh' (Kd.R_lt zq_25) k_ hk)); (case aO => exact zq_6); (case aS => exact (below_size zq_17)); (case aL => have := LMc32.out; omega); intro v720030 w37 ho hb hg hat; rw [← Ny720029.out] at ho; have n0_ := Aside0.mk (Kd.R_after (ok := (fun _ => True)) (by (with_reducible repeat (first | apply Kd.R_alloc | apply Kd.R_drewN | apply Kd.R_drew)); exact Kd.R_mono HO_9.out (fun _ hk => ⟨trivial, hk⟩)) hg hat); have n1_ := Aside0.mk (blk_grown (g := gb720023) (o := .cells #[.string ((rd_T77 l0 t720004).f0), .string ((rd_T77 l0 t720004).f1), .string t720010, .string t720018] 99 (0, 0)) zq_37 hg (Kd.R_ne HO_7.out BK720023.out (by decide))); have n2_ := Aside0.mk (hb); have n3_ := Aside0.mk (ho); clear HO_9; clear BK720023; clear HB; clear HO_7; have HO_9 := n0_; have BK720023 := n1_; have HB := n2_; have HO720031 := n3_; clear n0_ n1_ n2_ n3_; clear ho hb hg hat; refine hK.out _ _ ⟨(blk_cell BK720023.out 0).trans rfl, (blk_cell BK720023.out 1).trans rfl, (blk_cell BK720023.out 2).trans rfl, (blk_cell BK720023.out 3).trans rfl⟩ (fun hHeld => ?_); clear hK K; refine norm_ (a' := ?_) ?_ ?_; rotate_left
           ·show Act.put _ (some 67) _ = _; simp only [Act.put, List.setIfInBounds_toArray, List.set_cons_zero, List.set_cons_succ, i64_w, i32_w]; rfl
           refine one_ (i := 8) (N := some 70) #[true, true, true, true, true, true, true, true, true, false, false] rfl rfl (one_of HT_.out (by kernel_rfl)) (by decide) (fun K hK => ?_); refine goes_ Tryd.func126 (by kernel_rfl) rfl #[.agg #[.string ((rd_T77 l0 t720004).f0), .string ((rd_T77 l0 t720004).f1), .string t720010, .string t720018], .int .i64 a1] (by rfl) rfl rfl zq_1 ?_
           with_reducible refine (spec_NodeHash.calls k1 ((rd_T77 l0 t720004).f0) ((rd_T77 l0 t720004).f1) t720010 t720018 a1 t720032 _ A33.out).mono ?_
           rintro e w38 ⟨rfl, hb⟩; refine ⟨_, rfl, ?_⟩; have n0_ := Aside0.mk (Kd.R_below zq_25 hb); have n1_ := Aside0.mk (Kd.R_below (by (with_reducible repeat (first | apply Kd.R_alloc | apply Kd.R_drewN | apply Kd.R_drew)); exact HO720031.out) hb); have n2_ := Aside0.mk (blk_below (g := gb720023) (o := .cells #[.string ((rd_T77 l0 t720004).f0), .string ((rd_T77 l0 t720004).f1), .string t720010, .string t720018] 99 (0, 0)) zq_37 hb); have n3_ := Aside0.mk (below_step zq_17 hb); clear HO_9; clear HO720031; clear BK720023; clear HB; have HO_9 := n0_; have HO720031 := n1_; have BK720023 := n2_; have HB := n3_; clear n0_ n1_ n2_ n3_; (try clear hb); (try clear hb2); (try clear hk); (try clear hi); refine hK.out _ _ ⟨(blk_cell BK720023.out 0).trans rfl, (blk_cell BK720023.out 1).trans rfl, (blk_cell BK720023.out 2).trans rfl, (blk_cell BK720023.out 3).trans rfl⟩ (fun hHeld => ?_); clear hK K; refine norm_ (a' := ?_) ?_ ?_; rotate_left
           ·show Act.put _ (some 70) _ = _; simp only [Act.put, List.setIfInBounds_toArray, List.set_cons_zero, List.set_cons_succ, i64_w, i32_w]; rfl
           refine pq_ (i := 9) (N := some 4) HT_.out ?_; refine pq_ (i := 10) (N := some 5) HT_.out ?_; refine done_ (done_of HT_.out (by kernel_rfl)) ?_
           try go_wp2
           go_ret2
           exact ⟨_, by first | rfl | (simp [errW_none, errW_some] <;> rfl) | (simp only [← hji10]; first | rfl | (simp [errW_none, errW_some] <;> rfl)) | (simp [*, errW_none, errW_some] <;> rfl), by (with_reducible repeat (first | apply Kd.R_alloc | apply Kd.R_drewN | apply Kd.R_drew)); exact Kd.R_mono HO720031.out (fun _ hk => trivial), by repeat (first | (with_reducible first | exact HB.out | apply below_alloc | apply pw_below_drewN | apply below_drew1 | refine below_set ?_ GE720023.out) | exact HB.out)⟩
          ·rw [if_neg c32] at H; exact absurd H (by simp)
      ·rw [if_neg c14] at H; exact absurd H (by simp)
     ·rw [if_neg c12] at H; exact absurd H (by simp)
    ·rw [if_neg c11] at H; exact absurd H (by simp)
   ·rw [if_neg c8] at H; exact absurd H (by simp)
  ·rw [if_neg c7] at H; exact absurd H (by simp)
def spec_l4PairOk.f (a0 : ByteArray) (a1 : ByteArray) : Option (Bool) := if (a0.size : Int) ≥ 1 then (if (a0.size : Int) ≤ 256 then (some (decide ((a1.size : Int) ≤ 2000))) else (some false)) else (some false)
set_option maxHeartbeats 8000000 in
set_option maxRecDepth 100000 in
theorem spec_l4PairOk.calls (a0 : ByteArray) (a1 : ByteArray) (r : Bool) (w : World) (h : spec_l4PairOk.f a0 a1 = some r) :
  Calls Tryd.prog 125 #[.string a0, .string a1] w fun e w' => e = .returned (.bool r) ∧ Drawn0 w w' := by
 have H : (if (a0.size : Int) ≥ 1 then (if (a0.size : Int) ≤ 256 then (some (decide ((a1.size : Int) ≤ 2000))) else (some false)) else (some false)) = some r := h; clear h
 by_cases c3 : (a0.size : Int) ≥ 1
 ·rw [if_pos c3] at H; have c3b0 : decide (1 ≤ (a0.size : Int)) = true := decide_eq_true c3; have c3b1 : decide (1 ≤ a0.size) = true := decide_eq_true (by omega); clear c3
  by_cases c4 : (a0.size : Int) ≤ 256
  ·rw [if_pos c4] at H; have c4b0 : decide ((a0.size : Int) ≤ 256) = true := decide_eq_true c4; have c4b1 : decide (a0.size ≤ 256) = true := decide_eq_true (by omega); clear c4; obtain rfl := Option.some.inj H
   go_enter Tryd.func125, Tryd.ntmps125
   go_wp2
   go_ret
   exact ⟨by first | rfl | (simp; done) | (simp [*]; done), by repeat (first | exact Drawn0.refl _ | apply Drawn0.step)⟩
  ·rw [if_neg c4] at H; have c4b0 : decide ((a0.size : Int) ≤ 256) = false := decide_eq_false c4; have c4b1 : decide (a0.size ≤ 256) = false := decide_eq_false (by omega); clear c4; obtain rfl := Option.some.inj H
   go_enter Tryd.func125, Tryd.ntmps125
   go_wp2
   go_ret
   exact ⟨by first | rfl | (simp; done) | (simp [*]; done), by repeat (first | exact Drawn0.refl _ | apply Drawn0.step)⟩
 ·rw [if_neg c3] at H; have c3b0 : decide (1 ≤ (a0.size : Int)) = false := decide_eq_false c3; have c3b1 : decide (1 ≤ a0.size) = false := decide_eq_false (by omega); clear c3; obtain rfl := Option.some.inj H
  go_enter Tryd.func125, Tryd.ntmps125
  go_wp2
  go_ret
  exact ⟨by first | rfl | (simp; done) | (simp [*]; done), by repeat (first | exact Drawn0.refl _ | apply Drawn0.step)⟩
def spec_l4MapOk.l0 : Nat → List (S77) → Int → Option (Bool)
 | 0, _, _ => none
 | k + 1, x0, x3 => if x3 < (x0.length : Int) then (if 0 ≤ x3 then ((spec_l4PairOk.f ((rd_T77 x0 x3).f0) ((rd_T77 x0 x3).f1)).bind fun t700003 => (if t700003 = true then (if x3 > 0 then (if 0 ≤ (wrap64 (x3 - 1)) then (if (wrap64 (x3 - 1)) < (x0.length : Int) then ((spec_l1Less.f k ((rd_T77 x0 (wrap64 (x3 - 1))).f0) ((rd_T77 x0 x3).f0)).bind fun t700006 => (if t700006 = true then (spec_l4MapOk.l0 k x0 (wrap64 (x3 + 1))) else (some false))) else (none)) else (none)) else (spec_l4MapOk.l0 k x0 (wrap64 (x3 + 1)))) else (some false))) else (none)) else (some true)
def spec_l4MapOk.f (k : Nat) (l0 : List (S77)) : Option (Bool) := if (l0.length : Int) > 500 then (some false) else (spec_l4MapOk.l0 k l0 0)
def spec_l4MapOk.T6 : Bool × List (List Nat × List Nat) := (true, [([], []), ([], []), ([0, 1], [0, 1]), ([2], [2]), ([3], [3]), ([], []), ([], []), ([5, 6], [5, 6]), ([7], [7]), ([8], [8]), ([4, 9], [4, 9]), ([10], [10]), ([11, 10], [11]), ([12], [12]), ([13, 12], [12, 13]), ([14, 12, 12], [12, 14]), ([15], [15]), ([15], [15]), ([17, 15], [15, 17]), ([16, 18, 15], [15, 16, 18]), ([19, 15], [15, 19]), ([20, 15], [15, 20]), ([15], [15]), ([15], [15]), ([22, 23, 15], [15, 22, 23]), ([24, 15], [15, 24]), ([25, 15], [15, 25]), ([21, 26, 15, 15], [15, 21, 26]), ([27, 15], [15, 27]), ([15, 28, 12], [12, 15, 28]), ([12, 29], [12, 29])])
def spec_l4MapOk.B6 : List Nat := [0, 0, 3, 7, 15, 0, 0, 96, 224, 480, 1023, 2047, 4095, 8191, 16383, 32767, 65535, 65535, 196607, 524287, 1048575, 2097151, 65535, 65535, 12648447, 29425663, 62980095, 134217727, 268435455, 536870911, 1073741823]
theorem spec_l4MapOk.tab6 : rtab .any (opsOf Tryd.f70 6) = spec_l4MapOk.T6 := by kernel_rfl
theorem spec_l4MapOk.bits6 : waitsOk spec_l4MapOk.T6.2 spec_l4MapOk.B6 = true := by kernel_rfl
set_option maxHeartbeats 8000000 in
set_option maxRecDepth 100000 in
theorem spec_l4MapOk.calls (k : Nat) (A0 : Option Addr) (c0 : Nat) (l0 : List (S77)) (r : Bool) (w : World) (hr0 : Kd.C k77 w A0 l0.length l0) (hc0 : l0.length ≤ c0) (h : spec_l4MapOk.f k l0 = some r) :
  Calls Tryd.prog 70 #[.slice A0 l0.length c0] w fun e w' => e = .returned (.bool r) ∧ Below w.heap.size w w' := by
 have HR0 := Aside0.mk hr0; have HC0 := Aside0.mk hc0; clear hr0 hc0; have HB := Aside0.mk (Below.refl w.heap.size w); have H : (if (l0.length : Int) > 500 then (some false) else (spec_l4MapOk.l0 k l0 0)) = some r := h; clear h
 by_cases c2 : (l0.length : Int) > 500
 ·rw [if_pos c2] at H; have c2b0 : decide (500 < (l0.length : Int)) = true := decide_eq_true c2; have c2b1 : decide (500 < l0.length) = true := decide_eq_true (by omega); clear c2; obtain rfl := Option.some.inj H
  go_enter Tryd.func70, Tryd.ntmps70
  go_wp2
  go_ret
  exact ⟨by first | rfl | (simp [errW_none, errW_some] <;> rfl) | (simp [*, errW_none, errW_some] <;> rfl), by repeat (first | (with_reducible first | exact HB.out | apply below_alloc | apply pw_below_drewN | apply below_drew1) | exact HB.out)⟩
 ·rw [if_neg c2] at H; have c2b0 : decide (500 < (l0.length : Int)) = false := decide_eq_false c2; have c2b1 : decide (500 < l0.length) = false := decide_eq_false (by omega); clear c2; have H' := Aside0.mk H; clear H
  go_enter Tryd.func70, Tryd.ntmps70
  go_wp2
  go_loopg [3] k (fun kq v3 w' => ∃ (x3_1 : Int), v3 = .int .i64 x3_1 ∧ Aside0 (spec_l4MapOk.l0 kq l0 x3_1 = some r) ∧ Aside0 (kq ≤ k) ∧ Aside0 (Below w.heap.size w w'))
  case atStart => exact ⟨(0), zq_4, H', ⟨Nat.le_refl _⟩, ⟨by repeat (first | (with_reducible first | exact HB.out | apply below_alloc | apply pw_below_drewN | apply below_drew1) | exact HB.out)⟩⟩
  case round =>
   clear H'
   try clear c2
   try clear c2b0
   try clear c2b1
   try clear p2
   obtain ⟨x3_1, rfl, HA, HK1, HB⟩ := hrel
   cases gk with
   | zero => exact absurd HA.out (by simp [spec_l4MapOk.l0])
   | succ k1 =>
    have H := HA.out; clear HA; simp only [spec_l4MapOk.l0] at H
    by_cases c3 : x3_1 < (l0.length : Int)
    ·rw [if_pos c3] at H; have c3b0 : decide (x3_1 < (l0.length : Int)) = true := decide_eq_true c3; clear c3
     by_cases c4 : 0 ≤ x3_1
     ·rw [if_pos c4] at H; have c4b0 : decide (0 ≤ x3_1) = true := decide_eq_true c4; clear c4; replace H := Option.bind_eq_some_iff.mp H; obtain ⟨t700003, A50, H⟩ := H; (try dsimp only at H); have A5 := Aside0.mk A50; clear A50
      by_cases c6 : t700003 = true
      ·subst c6; have H1 : (if x3_1 > 0 then (if 0 ≤ (wrap64 (x3_1 - 1)) then (if (wrap64 (x3_1 - 1)) < (l0.length : Int) then ((spec_l1Less.f k1 ((rd_T77 l0 (wrap64 (x3_1 - 1))).f0) ((rd_T77 l0 x3_1).f0)).bind fun t700006 => (if t700006 = true then (spec_l4MapOk.l0 k1 l0 (wrap64 (x3_1 + 1))) else (some false))) else (none)) else (none)) else (spec_l4MapOk.l0 k1 l0 (wrap64 (x3_1 + 1)))) = some r := by rw [if_pos rfl] at H; exact H
       clear H; have H := H1; clear H1
       by_cases c7 : x3_1 > 0
       ·rw [if_pos c7] at H; have c7b0 : decide (0 < x3_1) = true := decide_eq_true c7; clear c7; obtain ⟨ji8, hji8⟩ : ∃ j_ : Int, (wrap64 (x3_1 - 1)) = j_ := ⟨_, rfl⟩
        replace H : (if 0 ≤ (ji8) then (if (ji8) < (l0.length : Int) then ((spec_l1Less.f k1 ((rd_T77 l0 (ji8)).f0) ((rd_T77 l0 x3_1).f0)).bind fun t700006 => (if t700006 = true then (spec_l4MapOk.l0 k1 l0 (wrap64 (x3_1 + 1))) else (some false))) else (none)) else (none)) = some r := by first | (rw [hji8] at H; exact H) | (simp only [hji8] at H ⊢; exact H)
        (try rw [hji8] at A5); have hji8w : (IntKind.i64.wrap (x3_1 - 1)) = ji8 := (i64_w _).trans hji8
        by_cases c9 : 0 ≤ (ji8)
        ·rw [if_pos c9] at H; have c9b0 : decide (0 ≤ (ji8)) = true := decide_eq_true c9; clear c9
         by_cases c10 : (ji8) < (l0.length : Int)
         ·rw [if_pos c10] at H; have c10b0 : decide ((ji8) < (l0.length : Int)) = true := decide_eq_true c10; clear c10; replace H := Option.bind_eq_some_iff.mp H; obtain ⟨t700006, A110, H⟩ := H; (try dsimp only at H); have A11 := Aside0.mk A110; clear A110
          by_cases c12 : t700006 = true
          ·subst c12; have H1 : (spec_l4MapOk.l0 k1 l0 (wrap64 (x3_1 + 1))) = some r := by rw [if_pos rfl] at H; exact H
           clear H; have H := H1; clear H1; have H' := Aside0.mk H; clear H
           try go_wp2
           have n0_ := Aside0.mk (below_drew1 HB.out); clear HB; have HB := n0_; clear n0_; have p700001 : 0 ≤ (x3_1 : Int) := of_decide_eq_true zq_2; have q700001 : x3_1 < (l0.length : Int) := of_decide_eq_true zq_2; obtain ⟨ad700001, e700001, hx700001_0, hx700001_1⟩ := at_T77 HR0.out x3_1 p700001 q700001; have hw700001_1 := hx700001_1; have hw700001_0 := hx700001_0
           cases e700001
           replace hx700001_0 := (HB.out.cell (World.block_lt_of_cell? w _ hx700001_0)).trans hx700001_0; replace hx700001_1 := (HB.out.cell (World.block_lt_of_cell? w _ hx700001_1)).trans hx700001_1; replace p700001 := eq_true p700001; replace q700001 := eq_true q700001; have p700002 : 0 ≤ (x3_1 : Int) := of_decide_eq_true zq_2; have q700002 : x3_1 < (l0.length : Int) := of_decide_eq_true zq_2; obtain ⟨ad700002, e700002, hx700002_0, hx700002_1⟩ := at_T77 HR0.out x3_1 p700002 q700002; have hw700002_1 := hx700002_1; have hw700002_0 := hx700002_0; obtain rfl : ad700001 = ad700002 := (by injection e700002)
           replace hx700002_0 := (HB.out.cell (World.block_lt_of_cell? w _ hx700002_0)).trans hx700002_0; replace hx700002_1 := (HB.out.cell (World.block_lt_of_cell? w _ hx700002_1)).trans hx700002_1; replace p700002 := eq_true p700002; replace q700002 := eq_true q700002; have p700004 : 0 ≤ ((ji8) : Int) := of_decide_eq_true zq_2; have q700004 : (ji8) < (l0.length : Int) := of_decide_eq_true zq_2; obtain ⟨ad700004, e700004, hx700004_0, hx700004_1⟩ := at_T77 HR0.out (ji8) p700004 q700004; have hw700004_1 := hx700004_1; have hw700004_0 := hx700004_0; obtain rfl : ad700001 = ad700004 := (by injection e700004)
           replace hx700004_0 := (HB.out.cell (World.block_lt_of_cell? w _ hx700004_0)).trans hx700004_0; replace hx700004_1 := (HB.out.cell (World.block_lt_of_cell? w _ hx700004_1)).trans hx700004_1; replace p700004 := eq_true p700004; replace q700004 := eq_true q700004; have p700005 : 0 ≤ (x3_1 : Int) := of_decide_eq_true zq_2; have q700005 : x3_1 < (l0.length : Int) := of_decide_eq_true zq_2; obtain ⟨ad700005, e700005, hx700005_0, hx700005_1⟩ := at_T77 HR0.out x3_1 p700005 q700005; have hw700005_1 := hx700005_1; have hw700005_0 := hx700005_0; obtain rfl : ad700001 = ad700005 := (by injection e700005)
           replace hx700005_0 := (HB.out.cell (World.block_lt_of_cell? w _ hx700005_0)).trans hx700005_0; replace hx700005_1 := (HB.out.cell (World.block_lt_of_cell? w _ hx700005_1)).trans hx700005_1; replace p700005 := eq_true p700005; replace q700005 := eq_true q700005; refine start_ (n := 31) (S := fun w' => w'.cell? (ad700001.add ((x3_1).toNat * 2)) = some (.string ((rd_T77 l0 x3_1).f0)) ∧ w'.cell? ⟨(ad700001.add ((x3_1).toNat * 2)).block, (ad700001.add ((x3_1).toNat * 2)).off + 1, none⟩ = some (.string ((rd_T77 l0 x3_1).f1)) ∧ w'.cell? (ad700001.add ((x3_1).toNat * 2)) = some (.string ((rd_T77 l0 x3_1).f0)) ∧ w'.cell? ⟨(ad700001.add ((x3_1).toNat * 2)).block, (ad700001.add ((x3_1).toNat * 2)).off + 1, none⟩ = some (.string ((rd_T77 l0 x3_1).f1)) ∧ w'.cell? (ad700001.add (((ji8)).toNat * 2)) = some (.string ((rd_T77 l0 (ji8)).f0)) ∧ w'.cell? ⟨(ad700001.add (((ji8)).toNat * 2)).block, (ad700001.add (((ji8)).toNat * 2)).off + 1, none⟩ = some (.string ((rd_T77 l0 (ji8)).f1)) ∧ w'.cell? (ad700001.add ((x3_1).toNat * 2)) = some (.string ((rd_T77 l0 x3_1).f0)) ∧ w'.cell? ⟨(ad700001.add ((x3_1).toNat * 2)).block, (ad700001.add ((x3_1).toNat * 2)).off + 1, none⟩ = some (.string ((rd_T77 l0 x3_1).f1))) (ds := []) #[false, false, false, false, false, false, false, false, false, false, false, false, false, false, false, false, false, false, false, false, false, false, false, false, false, false, false, false, false, false, false] (by kernel_rfl) rfl rfl ⟨((HB.out.cell (World.block_lt_of_cell? w _ hw700001_0)).trans hw700001_0), ((HB.out.cell (World.block_lt_of_cell? w _ hw700001_1)).trans hw700001_1), ((HB.out.cell (World.block_lt_of_cell? w _ hw700002_0)).trans hw700002_0), ((HB.out.cell (World.block_lt_of_cell? w _ hw700002_1)).trans hw700002_1), ((HB.out.cell (World.block_lt_of_cell? w _ hw700004_0)).trans hw700004_0), ((HB.out.cell (World.block_lt_of_cell? w _ hw700004_1)).trans hw700004_1), ((HB.out.cell (World.block_lt_of_cell? w _ hw700005_0)).trans hw700005_0), ((HB.out.cell (World.block_lt_of_cell? w _ hw700005_1)).trans hw700005_1)⟩ (fun hHeld => ?_); refine with_tabW spec_l4MapOk.tab6 spec_l4MapOk.bits6 (fun HT_ HW_ => ?_); generalize wr.drew = w13 at HB hx700001_0 hx700001_1 hx700002_0 hx700002_1 hx700004_0 hx700004_1 hx700005_0 hx700005_1 hHeld ⊢; refine pq_ (i := 0) (N := some 13) HT_.out ?_; refine pq_ (i := 1) (N := some 14) HT_.out ?_; refine pq_ (i := 2) (N := some 15) HT_.out ?_; refine pq_ (i := 3) (N := some 16) HT_.out ?_
           refine pq_ (i := 5) (N := some 18) HT_.out ?_; refine pq_ (i := 6) (N := some 19) HT_.out ?_; refine pq_ (i := 7) (N := some 20) HT_.out ?_; refine pq_ (i := 8) (N := some 21) HT_.out ?_; refine tq_ (i := 4) (N := some 17) HT_.out HW_.out hHeld (hy := by rintro w' ⟨s0, s1, s2, s3, s4, s5, s6, s7⟩; go_simp; with_reducible rfl) (h := ?_); refine tq_ (i := 9) (N := some 22) HT_.out HW_.out hHeld (hy := by rintro w' ⟨s0, s1, s2, s3, s4, s5, s6, s7⟩; go_simp; with_reducible rfl) (h := ?_); refine one_ (i := 10) (N := some 23) #[true, true, true, true, true, true, true, true, true, true, true, false, false, false, false, false, false, false, false, false, false, false, false, false, false, false, false, false, false, false, false] rfl rfl (one_of HT_.out (by kernel_rfl)) (by decide) (fun K hK => ?_); refine goes_ Tryd.func125 (by kernel_rfl) rfl #[.string ((rd_T77 l0 x3_1).f0), .string ((rd_T77 l0 x3_1).f1)] (by rfl) rfl rfl zq_1 ?_
           with_reducible refine (spec_l4PairOk.calls ((rd_T77 l0 x3_1).f0) ((rd_T77 l0 x3_1).f1) true _ A5.out).mono ?_
           rintro e w' ⟨rfl, ⟨nd, rfl⟩⟩; refine ⟨_, rfl, ?_⟩; refine hK.out _ _ ⟨((HB.out.cell (World.block_lt_of_cell? w _ hw700001_0)).trans hw700001_0), ((HB.out.cell (World.block_lt_of_cell? w _ hw700001_1)).trans hw700001_1), ((HB.out.cell (World.block_lt_of_cell? w _ hw700002_0)).trans hw700002_0), ((HB.out.cell (World.block_lt_of_cell? w _ hw700002_1)).trans hw700002_1), ((HB.out.cell (World.block_lt_of_cell? w _ hw700004_0)).trans hw700004_0), ((HB.out.cell (World.block_lt_of_cell? w _ hw700004_1)).trans hw700004_1), ((HB.out.cell (World.block_lt_of_cell? w _ hw700005_0)).trans hw700005_0), ((HB.out.cell (World.block_lt_of_cell? w _ hw700005_1)).trans hw700005_1)⟩ (fun hHeld => ?_); clear hK K; refine norm_ (a' := ?_) ?_ ?_; rotate_left
           ·show Act.put _ (some 23) _ = _; simp only [Act.put, List.setIfInBounds_toArray, List.set_cons_zero, List.set_cons_succ, i64_w, i32_w]; rfl
           refine pq_ (i := 11) (N := some 24) HT_.out ?_; refine pq_ (i := 12) (N := some 25) HT_.out ?_; refine pq_ (i := 13) (N := some 26) HT_.out ?_; refine pq_ (i := 14) (N := some 27) HT_.out ?_; refine pq_ (i := 15) (N := some 28) HT_.out ?_; refine pq_ (i := 16) (N := some 29) HT_.out ?_; refine pq_ (i := 17) (N := some 30) HT_.out ?_; refine pq_ (i := 18) (N := some 31) HT_.out ?_; refine pq_ (i := 19) (N := some 32) HT_.out ?_; refine pq_ (i := 20) (N := some 33) HT_.out ?_; refine pq_ (i := 22) (N := some 35) HT_.out ?_; refine pq_ (i := 23) (N := some 36) HT_.out ?_; refine pq_ (i := 24) (N := some 37) HT_.out ?_; refine pq_ (i := 25) (N := some 38) HT_.out ?_; refine tq_ (i := 21) (N := some 34) HT_.out HW_.out hHeld (hy := by rintro w' ⟨s0, s1, s2, s3, s4, s5, s6, s7⟩; go_simp; with_reducible rfl) (h := ?_); refine tq_ (i := 26) (N := some 39) HT_.out HW_.out hHeld (hy := by rintro w' ⟨s0, s1, s2, s3, s4, s5, s6, s7⟩; go_simp; with_reducible rfl) (h := ?_); refine one_ (i := 27) (N := some 40) #[true, true, true, true, true, true, true, true, true, true, true, true, true, true, true, true, true, true, true, true, true, true, true, true, true, true, true, true, false, false, false] rfl rfl (one_of HT_.out (by kernel_rfl)) (by decide) (fun K hK => ?_); refine goes_ Tryd.func103 (by kernel_rfl) rfl #[.string ((rd_T77 l0 (ji8)).f0), .string ((rd_T77 l0 x3_1).f0)] (by rfl) rfl rfl zq_32 ?_
           with_reducible refine (spec_l1Less.calls k1 ((rd_T77 l0 (ji8)).f0) ((rd_T77 l0 x3_1).f0) true _ A11.out).mono ?_
           rintro e w' ⟨rfl, ⟨nd, rfl⟩⟩; refine ⟨_, rfl, ?_⟩; refine hK.out _ _ ⟨((HB.out.cell (World.block_lt_of_cell? w _ hw700001_0)).trans hw700001_0), ((HB.out.cell (World.block_lt_of_cell? w _ hw700001_1)).trans hw700001_1), ((HB.out.cell (World.block_lt_of_cell? w _ hw700002_0)).trans hw700002_0), ((HB.out.cell (World.block_lt_of_cell? w _ hw700002_1)).trans hw700002_1), ((HB.out.cell (World.block_lt_of_cell? w _ hw700004_0)).trans hw700004_0), ((HB.out.cell (World.block_lt_of_cell? w _ hw700004_1)).trans hw700004_1), ((HB.out.cell (World.block_lt_of_cell? w _ hw700005_0)).trans hw700005_0), ((HB.out.cell (World.block_lt_of_cell? w _ hw700005_1)).trans hw700005_1)⟩ (fun hHeld => ?_); clear hK K; refine norm_ (a' := ?_) ?_ ?_; rotate_left
           ·show Act.put _ (some 40) _ = _; simp only [Act.put, List.setIfInBounds_toArray, List.set_cons_zero, List.set_cons_succ, i64_w, i32_w]; rfl
           refine pq_ (i := 28) (N := some 41) HT_.out ?_; refine pq_ (i := 29) (N := some 42) HT_.out ?_; refine pq_ (i := 30) (N := some 43) HT_.out ?_; refine done_ (done_of HT_.out (by kernel_rfl)) ?_
           try go_wp2
           go_roundg k1
           case measure => have := HK1.out; omega
           case rel => exact ⟨(wrap64 (x3_1 + 1)), zq_4, H', ⟨by have := HK1.out; omega⟩, ⟨by repeat (first | (with_reducible first | exact HB.out | apply below_alloc | apply pw_below_drewN | apply below_drew1) | exact HB.out)⟩⟩
          ·replace c12 := Bool.eq_false_iff.mpr c12; subst c12; have H1 : (some false) = some r := by rw [if_neg (show ¬ (false = true) by decide)] at H; exact H
           clear H; have H := H1; clear H1; obtain rfl := Option.some.inj H
           try go_wp2
           have n0_ := Aside0.mk (below_drew1 HB.out); clear HB; have HB := n0_; clear n0_; have p700001 : 0 ≤ (x3_1 : Int) := of_decide_eq_true zq_2; have q700001 : x3_1 < (l0.length : Int) := of_decide_eq_true zq_2; obtain ⟨ad700001, e700001, hx700001_0, hx700001_1⟩ := at_T77 HR0.out x3_1 p700001 q700001; have hw700001_1 := hx700001_1; have hw700001_0 := hx700001_0
           cases e700001
           replace hx700001_0 := (HB.out.cell (World.block_lt_of_cell? w _ hx700001_0)).trans hx700001_0; replace hx700001_1 := (HB.out.cell (World.block_lt_of_cell? w _ hx700001_1)).trans hx700001_1; replace p700001 := eq_true p700001; replace q700001 := eq_true q700001; have p700002 : 0 ≤ (x3_1 : Int) := of_decide_eq_true zq_2; have q700002 : x3_1 < (l0.length : Int) := of_decide_eq_true zq_2; obtain ⟨ad700002, e700002, hx700002_0, hx700002_1⟩ := at_T77 HR0.out x3_1 p700002 q700002; have hw700002_1 := hx700002_1; have hw700002_0 := hx700002_0; obtain rfl : ad700001 = ad700002 := (by injection e700002)
           replace hx700002_0 := (HB.out.cell (World.block_lt_of_cell? w _ hx700002_0)).trans hx700002_0; replace hx700002_1 := (HB.out.cell (World.block_lt_of_cell? w _ hx700002_1)).trans hx700002_1; replace p700002 := eq_true p700002; replace q700002 := eq_true q700002; have p700004 : 0 ≤ ((ji8) : Int) := of_decide_eq_true zq_2; have q700004 : (ji8) < (l0.length : Int) := of_decide_eq_true zq_2; obtain ⟨ad700004, e700004, hx700004_0, hx700004_1⟩ := at_T77 HR0.out (ji8) p700004 q700004; have hw700004_1 := hx700004_1; have hw700004_0 := hx700004_0; obtain rfl : ad700001 = ad700004 := (by injection e700004)
           replace hx700004_0 := (HB.out.cell (World.block_lt_of_cell? w _ hx700004_0)).trans hx700004_0; replace hx700004_1 := (HB.out.cell (World.block_lt_of_cell? w _ hx700004_1)).trans hx700004_1; replace p700004 := eq_true p700004; replace q700004 := eq_true q700004; have p700005 : 0 ≤ (x3_1 : Int) := of_decide_eq_true zq_2; have q700005 : x3_1 < (l0.length : Int) := of_decide_eq_true zq_2; obtain ⟨ad700005, e700005, hx700005_0, hx700005_1⟩ := at_T77 HR0.out x3_1 p700005 q700005; have hw700005_1 := hx700005_1; have hw700005_0 := hx700005_0; obtain rfl : ad700001 = ad700005 := (by injection e700005)
           replace hx700005_0 := (HB.out.cell (World.block_lt_of_cell? w _ hx700005_0)).trans hx700005_0; replace hx700005_1 := (HB.out.cell (World.block_lt_of_cell? w _ hx700005_1)).trans hx700005_1; replace p700005 := eq_true p700005; replace q700005 := eq_true q700005; refine start_ (n := 31) (S := fun w' => w'.cell? (ad700001.add ((x3_1).toNat * 2)) = some (.string ((rd_T77 l0 x3_1).f0)) ∧ w'.cell? ⟨(ad700001.add ((x3_1).toNat * 2)).block, (ad700001.add ((x3_1).toNat * 2)).off + 1, none⟩ = some (.string ((rd_T77 l0 x3_1).f1)) ∧ w'.cell? (ad700001.add ((x3_1).toNat * 2)) = some (.string ((rd_T77 l0 x3_1).f0)) ∧ w'.cell? ⟨(ad700001.add ((x3_1).toNat * 2)).block, (ad700001.add ((x3_1).toNat * 2)).off + 1, none⟩ = some (.string ((rd_T77 l0 x3_1).f1)) ∧ w'.cell? (ad700001.add (((ji8)).toNat * 2)) = some (.string ((rd_T77 l0 (ji8)).f0)) ∧ w'.cell? ⟨(ad700001.add (((ji8)).toNat * 2)).block, (ad700001.add (((ji8)).toNat * 2)).off + 1, none⟩ = some (.string ((rd_T77 l0 (ji8)).f1)) ∧ w'.cell? (ad700001.add ((x3_1).toNat * 2)) = some (.string ((rd_T77 l0 x3_1).f0)) ∧ w'.cell? ⟨(ad700001.add ((x3_1).toNat * 2)).block, (ad700001.add ((x3_1).toNat * 2)).off + 1, none⟩ = some (.string ((rd_T77 l0 x3_1).f1))) (ds := []) #[false, false, false, false, false, false, false, false, false, false, false, false, false, false, false, false, false, false, false, false, false, false, false, false, false, false, false, false, false, false, false] (by kernel_rfl) rfl rfl ⟨((HB.out.cell (World.block_lt_of_cell? w _ hw700001_0)).trans hw700001_0), ((HB.out.cell (World.block_lt_of_cell? w _ hw700001_1)).trans hw700001_1), ((HB.out.cell (World.block_lt_of_cell? w _ hw700002_0)).trans hw700002_0), ((HB.out.cell (World.block_lt_of_cell? w _ hw700002_1)).trans hw700002_1), ((HB.out.cell (World.block_lt_of_cell? w _ hw700004_0)).trans hw700004_0), ((HB.out.cell (World.block_lt_of_cell? w _ hw700004_1)).trans hw700004_1), ((HB.out.cell (World.block_lt_of_cell? w _ hw700005_0)).trans hw700005_0), ((HB.out.cell (World.block_lt_of_cell? w _ hw700005_1)).trans hw700005_1)⟩ (fun hHeld => ?_); refine with_tabW spec_l4MapOk.tab6 spec_l4MapOk.bits6 (fun HT_ HW_ => ?_); generalize wr.drew = w14 at HB hx700001_0 hx700001_1 hx700002_0 hx700002_1 hx700004_0 hx700004_1 hx700005_0 hx700005_1 hHeld ⊢; refine pq_ (i := 0) (N := some 13) HT_.out ?_; refine pq_ (i := 1) (N := some 14) HT_.out ?_; refine pq_ (i := 2) (N := some 15) HT_.out ?_; refine pq_ (i := 3) (N := some 16) HT_.out ?_
           refine pq_ (i := 5) (N := some 18) HT_.out ?_; refine pq_ (i := 6) (N := some 19) HT_.out ?_; refine pq_ (i := 7) (N := some 20) HT_.out ?_; refine pq_ (i := 8) (N := some 21) HT_.out ?_; refine tq_ (i := 4) (N := some 17) HT_.out HW_.out hHeld (hy := by rintro w' ⟨s0, s1, s2, s3, s4, s5, s6, s7⟩; go_simp; with_reducible rfl) (h := ?_); refine tq_ (i := 9) (N := some 22) HT_.out HW_.out hHeld (hy := by rintro w' ⟨s0, s1, s2, s3, s4, s5, s6, s7⟩; go_simp; with_reducible rfl) (h := ?_); refine one_ (i := 10) (N := some 23) #[true, true, true, true, true, true, true, true, true, true, true, false, false, false, false, false, false, false, false, false, false, false, false, false, false, false, false, false, false, false, false] rfl rfl (one_of HT_.out (by kernel_rfl)) (by decide) (fun K hK => ?_); refine goes_ Tryd.func125 (by kernel_rfl) rfl #[.string ((rd_T77 l0 x3_1).f0), .string ((rd_T77 l0 x3_1).f1)] (by rfl) rfl rfl zq_1 ?_
           with_reducible refine (spec_l4PairOk.calls ((rd_T77 l0 x3_1).f0) ((rd_T77 l0 x3_1).f1) true _ A5.out).mono ?_
           rintro e w' ⟨rfl, ⟨nd, rfl⟩⟩; refine ⟨_, rfl, ?_⟩; refine hK.out _ _ ⟨((HB.out.cell (World.block_lt_of_cell? w _ hw700001_0)).trans hw700001_0), ((HB.out.cell (World.block_lt_of_cell? w _ hw700001_1)).trans hw700001_1), ((HB.out.cell (World.block_lt_of_cell? w _ hw700002_0)).trans hw700002_0), ((HB.out.cell (World.block_lt_of_cell? w _ hw700002_1)).trans hw700002_1), ((HB.out.cell (World.block_lt_of_cell? w _ hw700004_0)).trans hw700004_0), ((HB.out.cell (World.block_lt_of_cell? w _ hw700004_1)).trans hw700004_1), ((HB.out.cell (World.block_lt_of_cell? w _ hw700005_0)).trans hw700005_0), ((HB.out.cell (World.block_lt_of_cell? w _ hw700005_1)).trans hw700005_1)⟩ (fun hHeld => ?_); clear hK K; refine norm_ (a' := ?_) ?_ ?_; rotate_left
           ·show Act.put _ (some 23) _ = _; simp only [Act.put, List.setIfInBounds_toArray, List.set_cons_zero, List.set_cons_succ, i64_w, i32_w]; rfl
           refine pq_ (i := 11) (N := some 24) HT_.out ?_; refine pq_ (i := 12) (N := some 25) HT_.out ?_; refine pq_ (i := 13) (N := some 26) HT_.out ?_; refine pq_ (i := 14) (N := some 27) HT_.out ?_; refine pq_ (i := 15) (N := some 28) HT_.out ?_; refine pq_ (i := 16) (N := some 29) HT_.out ?_; refine pq_ (i := 17) (N := some 30) HT_.out ?_; refine pq_ (i := 18) (N := some 31) HT_.out ?_; refine pq_ (i := 19) (N := some 32) HT_.out ?_; refine pq_ (i := 20) (N := some 33) HT_.out ?_; refine pq_ (i := 22) (N := some 35) HT_.out ?_; refine pq_ (i := 23) (N := some 36) HT_.out ?_; refine pq_ (i := 24) (N := some 37) HT_.out ?_; refine pq_ (i := 25) (N := some 38) HT_.out ?_; refine tq_ (i := 21) (N := some 34) HT_.out HW_.out hHeld (hy := by rintro w' ⟨s0, s1, s2, s3, s4, s5, s6, s7⟩; go_simp; with_reducible rfl) (h := ?_); refine tq_ (i := 26) (N := some 39) HT_.out HW_.out hHeld (hy := by rintro w' ⟨s0, s1, s2, s3, s4, s5, s6, s7⟩; go_simp; with_reducible rfl) (h := ?_); refine one_ (i := 27) (N := some 40) #[true, true, true, true, true, true, true, true, true, true, true, true, true, true, true, true, true, true, true, true, true, true, true, true, true, true, true, true, false, false, false] rfl rfl (one_of HT_.out (by kernel_rfl)) (by decide) (fun K hK => ?_); refine goes_ Tryd.func103 (by kernel_rfl) rfl #[.string ((rd_T77 l0 (ji8)).f0), .string ((rd_T77 l0 x3_1).f0)] (by rfl) rfl rfl zq_32 ?_
           with_reducible refine (spec_l1Less.calls k1 ((rd_T77 l0 (ji8)).f0) ((rd_T77 l0 x3_1).f0) false _ A11.out).mono ?_
           rintro e w' ⟨rfl, ⟨nd, rfl⟩⟩; refine ⟨_, rfl, ?_⟩; refine hK.out _ _ ⟨((HB.out.cell (World.block_lt_of_cell? w _ hw700001_0)).trans hw700001_0), ((HB.out.cell (World.block_lt_of_cell? w _ hw700001_1)).trans hw700001_1), ((HB.out.cell (World.block_lt_of_cell? w _ hw700002_0)).trans hw700002_0), ((HB.out.cell (World.block_lt_of_cell? w _ hw700002_1)).trans hw700002_1), ((HB.out.cell (World.block_lt_of_cell? w _ hw700004_0)).trans hw700004_0), ((HB.out.cell (World.block_lt_of_cell? w _ hw700004_1)).trans hw700004_1), ((HB.out.cell (World.block_lt_of_cell? w _ hw700005_0)).trans hw700005_0), ((HB.out.cell (World.block_lt_of_cell? w _ hw700005_1)).trans hw700005_1)⟩ (fun hHeld => ?_); clear hK K; refine norm_ (a' := ?_) ?_ ?_; rotate_left
           ·show Act.put _ (some 40) _ = _; simp only [Act.put, List.setIfInBounds_toArray, List.set_cons_zero, List.set_cons_succ, i64_w, i32_w]; rfl
           refine pq_ (i := 28) (N := some 41) HT_.out ?_; refine pq_ (i := 29) (N := some 42) HT_.out ?_; refine pq_ (i := 30) (N := some 43) HT_.out ?_; refine done_ (done_of HT_.out (by kernel_rfl)) ?_
           try go_wp2
           go_ret
           exact ⟨by first | rfl | (simp [errW_none, errW_some] <;> rfl) | (simp only [← hji8]; first | rfl | (simp [errW_none, errW_some] <;> rfl)) | (simp [*, errW_none, errW_some] <;> rfl), by repeat (first | (with_reducible first | exact HB.out | apply below_alloc | apply pw_below_drewN | apply below_drew1) | exact HB.out)⟩
         ·rw [if_neg c10] at H; exact absurd H (by simp)
        ·rw [if_neg c9] at H; exact absurd H (by simp)
       ·rw [if_neg c7] at H; have c7b0 : decide (0 < x3_1) = false := decide_eq_false c7; clear c7; have H' := Aside0.mk H; clear H
        try go_wp2
        have n0_ := Aside0.mk (below_drew1 HB.out); clear HB; have HB := n0_; clear n0_; have p700001 : 0 ≤ (x3_1 : Int) := of_decide_eq_true zq_2; have q700001 : x3_1 < (l0.length : Int) := of_decide_eq_true zq_2; obtain ⟨ad700001, e700001, hx700001_0, hx700001_1⟩ := at_T77 HR0.out x3_1 p700001 q700001; have hw700001_1 := hx700001_1; have hw700001_0 := hx700001_0
        cases e700001
        replace hx700001_0 := (HB.out.cell (World.block_lt_of_cell? w _ hx700001_0)).trans hx700001_0; replace hx700001_1 := (HB.out.cell (World.block_lt_of_cell? w _ hx700001_1)).trans hx700001_1; replace p700001 := eq_true p700001; replace q700001 := eq_true q700001; have p700002 : 0 ≤ (x3_1 : Int) := of_decide_eq_true zq_2; have q700002 : x3_1 < (l0.length : Int) := of_decide_eq_true zq_2; obtain ⟨ad700002, e700002, hx700002_0, hx700002_1⟩ := at_T77 HR0.out x3_1 p700002 q700002; have hw700002_1 := hx700002_1; have hw700002_0 := hx700002_0; obtain rfl : ad700001 = ad700002 := (by injection e700002)
        replace hx700002_0 := (HB.out.cell (World.block_lt_of_cell? w _ hx700002_0)).trans hx700002_0; replace hx700002_1 := (HB.out.cell (World.block_lt_of_cell? w _ hx700002_1)).trans hx700002_1; replace p700002 := eq_true p700002; replace q700002 := eq_true q700002; refine start_ (n := 31) (S := fun w' => w'.cell? (ad700001.add ((x3_1).toNat * 2)) = some (.string ((rd_T77 l0 x3_1).f0)) ∧ w'.cell? ⟨(ad700001.add ((x3_1).toNat * 2)).block, (ad700001.add ((x3_1).toNat * 2)).off + 1, none⟩ = some (.string ((rd_T77 l0 x3_1).f1)) ∧ w'.cell? (ad700001.add ((x3_1).toNat * 2)) = some (.string ((rd_T77 l0 x3_1).f0)) ∧ w'.cell? ⟨(ad700001.add ((x3_1).toNat * 2)).block, (ad700001.add ((x3_1).toNat * 2)).off + 1, none⟩ = some (.string ((rd_T77 l0 x3_1).f1))) (ds := []) #[false, false, false, false, false, false, false, false, false, false, false, false, false, false, false, false, false, false, false, false, false, false, false, false, false, false, false, false, false, false, false] (by kernel_rfl) rfl rfl ⟨((HB.out.cell (World.block_lt_of_cell? w _ hw700001_0)).trans hw700001_0), ((HB.out.cell (World.block_lt_of_cell? w _ hw700001_1)).trans hw700001_1), ((HB.out.cell (World.block_lt_of_cell? w _ hw700002_0)).trans hw700002_0), ((HB.out.cell (World.block_lt_of_cell? w _ hw700002_1)).trans hw700002_1)⟩ (fun hHeld => ?_); refine with_tabW spec_l4MapOk.tab6 spec_l4MapOk.bits6 (fun HT_ HW_ => ?_); generalize wr.drew = w15 at HB hx700001_0 hx700001_1 hx700002_0 hx700002_1 hHeld ⊢; refine pq_ (i := 0) (N := some 13) HT_.out ?_; refine pq_ (i := 1) (N := some 14) HT_.out ?_; refine pq_ (i := 2) (N := some 15) HT_.out ?_; refine pq_ (i := 3) (N := some 16) HT_.out ?_; refine pq_ (i := 5) (N := some 18) HT_.out ?_; refine pq_ (i := 6) (N := some 19) HT_.out ?_; refine pq_ (i := 7) (N := some 20) HT_.out ?_; refine pq_ (i := 8) (N := some 21) HT_.out ?_; refine tq_ (i := 4) (N := some 17) HT_.out HW_.out hHeld (hy := by rintro w' ⟨s0, s1, s2, s3⟩; go_simp; with_reducible rfl) (h := ?_); refine tq_ (i := 9) (N := some 22) HT_.out HW_.out hHeld (hy := by rintro w' ⟨s0, s1, s2, s3⟩; go_simp; with_reducible rfl) (h := ?_); refine one_ (i := 10) (N := some 23) #[true, true, true, true, true, true, true, true, true, true, true, false, false, false, false, false, false, false, false, false, false, false, false, false, false, false, false, false, false, false, false] rfl rfl (one_of HT_.out (by kernel_rfl)) (by decide) (fun K hK => ?_)
        refine goes_ Tryd.func125 (by kernel_rfl) rfl #[.string ((rd_T77 l0 x3_1).f0), .string ((rd_T77 l0 x3_1).f1)] (by rfl) rfl rfl zq_1 ?_
        with_reducible refine (spec_l4PairOk.calls ((rd_T77 l0 x3_1).f0) ((rd_T77 l0 x3_1).f1) true _ A5.out).mono ?_
        rintro e w' ⟨rfl, ⟨nd, rfl⟩⟩; refine ⟨_, rfl, ?_⟩; refine hK.out _ _ ⟨((HB.out.cell (World.block_lt_of_cell? w _ hw700001_0)).trans hw700001_0), ((HB.out.cell (World.block_lt_of_cell? w _ hw700001_1)).trans hw700001_1), ((HB.out.cell (World.block_lt_of_cell? w _ hw700002_0)).trans hw700002_0), ((HB.out.cell (World.block_lt_of_cell? w _ hw700002_1)).trans hw700002_1)⟩ (fun hHeld => ?_); clear hK K; refine norm_ (a' := ?_) ?_ ?_; rotate_left
        ·show Act.put _ (some 23) _ = _; simp only [Act.put, List.setIfInBounds_toArray, List.set_cons_zero, List.set_cons_succ, i64_w, i32_w]; rfl
        refine pq_ (i := 11) (N := some 24) HT_.out ?_; refine pq_ (i := 12) (N := some 25) HT_.out ?_; refine pq_ (i := 13) (N := some 26) HT_.out ?_; refine pq_ (i := 14) (N := some 27) HT_.out ?_; refine pq_ (i := 15) (N := some 28) HT_.out ?_; refine pu_ (i := 16) (N := some 29) HT_.out ?_; refine pu_ (i := 17) (N := some 30) HT_.out ?_; refine pu_ (i := 18) (N := some 31) HT_.out ?_; refine pu_ (i := 19) (N := some 32) HT_.out ?_; refine pu_ (i := 20) (N := some 33) HT_.out ?_; refine pu_ (i := 21) (N := some 34) HT_.out ?_; refine pu_ (i := 22) (N := some 35) HT_.out ?_; refine pu_ (i := 23) (N := some 36) HT_.out ?_; refine pu_ (i := 24) (N := some 37) HT_.out ?_; refine pu_ (i := 25) (N := some 38) HT_.out ?_; refine pu_ (i := 26) (N := some 39) HT_.out ?_; refine pu_ (i := 27) (N := some 40) HT_.out ?_; refine pu_ (i := 28) (N := some 41) HT_.out ?_; refine pq_ (i := 29) (N := some 42) HT_.out ?_; refine pq_ (i := 30) (N := some 43) HT_.out ?_; refine done_ (done_of HT_.out (by kernel_rfl)) ?_
        try go_wp2
        go_roundg k1
        case measure => have := HK1.out; omega
        case rel => exact ⟨(wrap64 (x3_1 + 1)), zq_4, H', ⟨by have := HK1.out; omega⟩, ⟨by repeat (first | (with_reducible first | exact HB.out | apply below_alloc | apply pw_below_drewN | apply below_drew1) | exact HB.out)⟩⟩
      ·replace c6 := Bool.eq_false_iff.mpr c6; subst c6; have H1 : (some false) = some r := by rw [if_neg (show ¬ (false = true) by decide)] at H; exact H
       clear H; have H := H1; clear H1; obtain rfl := Option.some.inj H
       try go_wp2
       have n0_ := Aside0.mk (below_drew1 HB.out); clear HB; have HB := n0_; clear n0_; have p700001 : 0 ≤ (x3_1 : Int) := of_decide_eq_true zq_2; have q700001 : x3_1 < (l0.length : Int) := of_decide_eq_true zq_2; obtain ⟨ad700001, e700001, hx700001_0, hx700001_1⟩ := at_T77 HR0.out x3_1 p700001 q700001; have hw700001_1 := hx700001_1; have hw700001_0 := hx700001_0
       cases e700001
       replace hx700001_0 := (HB.out.cell (World.block_lt_of_cell? w _ hx700001_0)).trans hx700001_0; replace hx700001_1 := (HB.out.cell (World.block_lt_of_cell? w _ hx700001_1)).trans hx700001_1; replace p700001 := eq_true p700001; replace q700001 := eq_true q700001; have p700002 : 0 ≤ (x3_1 : Int) := of_decide_eq_true zq_2; have q700002 : x3_1 < (l0.length : Int) := of_decide_eq_true zq_2; obtain ⟨ad700002, e700002, hx700002_0, hx700002_1⟩ := at_T77 HR0.out x3_1 p700002 q700002; have hw700002_1 := hx700002_1; have hw700002_0 := hx700002_0; obtain rfl : ad700001 = ad700002 := (by injection e700002)
       replace hx700002_0 := (HB.out.cell (World.block_lt_of_cell? w _ hx700002_0)).trans hx700002_0; replace hx700002_1 := (HB.out.cell (World.block_lt_of_cell? w _ hx700002_1)).trans hx700002_1; replace p700002 := eq_true p700002; replace q700002 := eq_true q700002; refine start_ (n := 31) (S := fun w' => w'.cell? (ad700001.add ((x3_1).toNat * 2)) = some (.string ((rd_T77 l0 x3_1).f0)) ∧ w'.cell? ⟨(ad700001.add ((x3_1).toNat * 2)).block, (ad700001.add ((x3_1).toNat * 2)).off + 1, none⟩ = some (.string ((rd_T77 l0 x3_1).f1)) ∧ w'.cell? (ad700001.add ((x3_1).toNat * 2)) = some (.string ((rd_T77 l0 x3_1).f0)) ∧ w'.cell? ⟨(ad700001.add ((x3_1).toNat * 2)).block, (ad700001.add ((x3_1).toNat * 2)).off + 1, none⟩ = some (.string ((rd_T77 l0 x3_1).f1))) (ds := []) #[false, false, false, false, false, false, false, false, false, false, false, false, false, false, false, false, false, false, false, false, false, false, false, false, false, false, false, false, false, false, false] (by kernel_rfl) rfl rfl ⟨((HB.out.cell (World.block_lt_of_cell? w _ hw700001_0)).trans hw700001_0), ((HB.out.cell (World.block_lt_of_cell? w _ hw700001_1)).trans hw700001_1), ((HB.out.cell (World.block_lt_of_cell? w _ hw700002_0)).trans hw700002_0), ((HB.out.cell (World.block_lt_of_cell? w _ hw700002_1)).trans hw700002_1)⟩ (fun hHeld => ?_); refine with_tabW spec_l4MapOk.tab6 spec_l4MapOk.bits6 (fun HT_ HW_ => ?_); generalize wr.drew = w16 at HB hx700001_0 hx700001_1 hx700002_0 hx700002_1 hHeld ⊢; refine pq_ (i := 0) (N := some 13) HT_.out ?_; refine pq_ (i := 1) (N := some 14) HT_.out ?_; refine pq_ (i := 2) (N := some 15) HT_.out ?_; refine pq_ (i := 3) (N := some 16) HT_.out ?_; refine pq_ (i := 5) (N := some 18) HT_.out ?_; refine pq_ (i := 6) (N := some 19) HT_.out ?_; refine pq_ (i := 7) (N := some 20) HT_.out ?_; refine pq_ (i := 8) (N := some 21) HT_.out ?_; refine tq_ (i := 4) (N := some 17) HT_.out HW_.out hHeld (hy := by rintro w' ⟨s0, s1, s2, s3⟩; go_simp; with_reducible rfl) (h := ?_); refine tq_ (i := 9) (N := some 22) HT_.out HW_.out hHeld (hy := by rintro w' ⟨s0, s1, s2, s3⟩; go_simp; with_reducible rfl) (h := ?_); refine one_ (i := 10) (N := some 23) #[true, true, true, true, true, true, true, true, true, true, true, false, false, false, false, false, false, false, false, false, false, false, false, false, false, false, false, false, false, false, false] rfl rfl (one_of HT_.out (by kernel_rfl)) (by decide) (fun K hK => ?_)
       refine goes_ Tryd.func125 (by kernel_rfl) rfl #[.string ((rd_T77 l0 x3_1).f0), .string ((rd_T77 l0 x3_1).f1)] (by rfl) rfl rfl zq_1 ?_
       with_reducible refine (spec_l4PairOk.calls ((rd_T77 l0 x3_1).f0) ((rd_T77 l0 x3_1).f1) false _ A5.out).mono ?_
       rintro e w' ⟨rfl, ⟨nd, rfl⟩⟩; refine ⟨_, rfl, ?_⟩; refine hK.out _ _ ⟨((HB.out.cell (World.block_lt_of_cell? w _ hw700001_0)).trans hw700001_0), ((HB.out.cell (World.block_lt_of_cell? w _ hw700001_1)).trans hw700001_1), ((HB.out.cell (World.block_lt_of_cell? w _ hw700002_0)).trans hw700002_0), ((HB.out.cell (World.block_lt_of_cell? w _ hw700002_1)).trans hw700002_1)⟩ (fun hHeld => ?_); clear hK K; refine norm_ (a' := ?_) ?_ ?_; rotate_left
       ·show Act.put _ (some 23) _ = _; simp only [Act.put, List.setIfInBounds_toArray, List.set_cons_zero, List.set_cons_succ, i64_w, i32_w]; rfl
       refine pq_ (i := 11) (N := some 24) HT_.out ?_; refine pq_ (i := 12) (N := some 25) HT_.out ?_; refine pu_ (i := 13) (N := some 26) HT_.out ?_; refine pu_ (i := 14) (N := some 27) HT_.out ?_; refine pu_ (i := 15) (N := some 28) HT_.out ?_; refine pu_ (i := 16) (N := some 29) HT_.out ?_; refine pu_ (i := 17) (N := some 30) HT_.out ?_; refine pu_ (i := 18) (N := some 31) HT_.out ?_; refine pu_ (i := 19) (N := some 32) HT_.out ?_; refine pu_ (i := 20) (N := some 33) HT_.out ?_; refine pu_ (i := 21) (N := some 34) HT_.out ?_; refine pu_ (i := 22) (N := some 35) HT_.out ?_; refine pu_ (i := 23) (N := some 36) HT_.out ?_; refine pu_ (i := 24) (N := some 37) HT_.out ?_; refine pu_ (i := 25) (N := some 38) HT_.out ?_; refine pu_ (i := 26) (N := some 39) HT_.out ?_; refine pu_ (i := 27) (N := some 40) HT_.out ?_; refine pu_ (i := 28) (N := some 41) HT_.out ?_; refine pu_ (i := 29) (N := some 42) HT_.out ?_; refine pq_ (i := 30) (N := some 43) HT_.out ?_; refine done_ (done_of HT_.out (by kernel_rfl)) ?_
       try go_wp2
       go_ret
       exact ⟨by first | rfl | (simp [errW_none, errW_some] <;> rfl) | (simp [*, errW_none, errW_some] <;> rfl), by repeat (first | (with_reducible first | exact HB.out | apply below_alloc | apply pw_below_drewN | apply below_drew1) | exact HB.out)⟩
     ·rw [if_neg c4] at H; exact absurd H (by simp)
    ·rw [if_neg c3] at H; have c3b0 : decide (x3_1 < (l0.length : Int)) = false := decide_eq_false c3; clear c3; obtain rfl := Option.some.inj H
     go_wp2
     go_ret
     exact ⟨by first | rfl | (simp [errW_none, errW_some] <;> rfl) | (simp [*, errW_none, errW_some] <;> rfl), by repeat (first | (with_reducible first | exact HB.out | apply below_alloc | apply pw_below_drewN | apply below_drew1) | exact HB.out)⟩
def spec_Root.f (k : Nat) (l0 : List (S77)) (a1 : Int) : Option (ByteArray) := (spec_l4MapOk.f k l0).bind fun t310001 => (if t310001 = true then ((spec_l1Width.f a1).bind fun t310002 => (if t310002 = true then ((spec_l4Encs.f k l0 a1).bind fun bt310003 => (some bt310003.2)) else (some (⟨#[]⟩ : ByteArray)))) else (some (⟨#[]⟩ : ByteArray)))
set_option maxHeartbeats 8000000 in
set_option maxRecDepth 100000 in
theorem spec_Root.calls (k : Nat) (A0 : Option Addr) (c0 : Nat) (l0 : List (S77)) (a1 : Int) (r : ByteArray) (w : World) (hr0 : Kd.C k77 w A0 l0.length l0) (hc0 : l0.length ≤ c0) (h : spec_Root.f k l0 a1 = some r) :
  Calls Tryd.prog 31 #[.slice A0 l0.length c0, .int .i64 a1] w fun e w' => e = .returned (.string r) ∧ Below w.heap.size w w' := by
 have HR0 := Aside0.mk hr0; have HC0 := Aside0.mk hc0; clear hr0 hc0; have HB := Aside0.mk (Below.refl w.heap.size w); have H : ((spec_l4MapOk.f k l0).bind fun t310001 => (if t310001 = true then ((spec_l1Width.f a1).bind fun t310002 => (if t310002 = true then ((spec_l4Encs.f k l0 a1).bind fun bt310003 => (some bt310003.2)) else (some (⟨#[]⟩ : ByteArray)))) else (some (⟨#[]⟩ : ByteArray)))) = some r := h; clear h; replace H := Option.bind_eq_some_iff.mp H; obtain ⟨t310001, A30, H⟩ := H; (try dsimp only at H); have A3 := Aside0.mk A30; clear A30
 by_cases c4 : t310001 = true
 ·subst c4; have H1 : ((spec_l1Width.f a1).bind fun t310002 => (if t310002 = true then ((spec_l4Encs.f k l0 a1).bind fun bt310003 => (some bt310003.2)) else (some (⟨#[]⟩ : ByteArray)))) = some r := by rw [if_pos rfl] at H; exact H
  clear H; have H := H1; clear H1; replace H := Option.bind_eq_some_iff.mp H; obtain ⟨t310002, A50, H⟩ := H; (try dsimp only at H); have A5 := Aside0.mk A50; clear A50
  by_cases c6 : t310002 = true
  ·subst c6; have H1 : ((spec_l4Encs.f k l0 a1).bind fun bt310003 => (some bt310003.2)) = some r := by rw [if_pos rfl] at H; exact H
   clear H; have H := H1; clear H1; replace H := Option.bind_eq_some_iff.mp H; obtain ⟨⟨t310003, t310004⟩, A70, H⟩ := H; (try dsimp only at H); have A7 := Aside0.mk A70; clear A70; obtain rfl := Option.some.inj H
   go_enter Tryd.func31, Tryd.ntmps31
   go_wp2_with (first | ((with_reducible refine gate_callee (f := 70) rfl ?_); refine goesL_ (some 8) rfl rfl Tryd.func70 (by kernel_rfl) rfl #[.slice A0 l0.length c0] rfl zq_1 ?_; (with_reducible refine (spec_l4MapOk.calls k _ _ l0 true _ ?side1 ?side2 A3.out).mono ?_); (case side1 => exact zq_5); (case side2 => exact HC0.out); rintro e w8 ⟨rfl, hb⟩; refine ⟨_, rfl, ?_⟩; have n0_ := Aside0.mk (below_step zq_0 hb); clear HB; have HB := n0_; clear n0_; (try clear hb); (try clear hb2); (try clear hk); (try clear hi)) | (go_at_call 90; (with_reducible refine (spec_l1Width.calls a1 true _ A5.out).mono ?_); rintro e w' ⟨rfl, ⟨nd, rfl⟩⟩) | ((with_reducible refine gate_callee (f := 72) rfl ?_); refine goesL_ (some 18) rfl rfl Tryd.func72 (by kernel_rfl) rfl #[.slice A0 l0.length c0, .int .i64 a1] rfl zq_1 ?_; (with_reducible refine (spec_l4Encs.calls k _ _ l0 a1 t310003 t310004 _ ?side1 ?side2 A7.out).mono ?_); (case side1 => exact zq_18); (case side2 => exact HC0.out); rintro e w9 ⟨v310005, rfl, ho0, hb⟩; refine ⟨_, rfl, ?_⟩; have n0_ := Aside0.mk (Kd.R_lower ho0 (below_size zq_0)); have n1_ := Aside0.mk (below_step zq_0 hb); clear HB; have HO310006 := n0_; have HB := n1_; clear n0_ n1_; (try clear hb); (try clear hb2); (try clear hk); (try clear hi); (try clear ho0)))
   go_ret
   exact ⟨by first | rfl | (simp [errW_none, errW_some] <;> rfl) | (simp [*, errW_none, errW_some] <;> rfl), by repeat (first | (with_reducible first | exact HB.out | apply below_alloc | apply pw_below_drewN | apply below_drew1) | exact HB.out)⟩
  ·replace c6 := Bool.eq_false_iff.mpr c6; subst c6; have H1 : (some (⟨#[]⟩ : ByteArray)) = some r := by rw [if_neg (show ¬ (false = true) by decide)] at H; exact H
   clear H; have H := H1; clear H1; obtain rfl := Option.some.inj H
   go_enter Tryd.func31, Tryd.ntmps31
   go_wp2_with (first | ((with_reducible refine gate_callee (f := 70) rfl ?_); refine goesL_ (some 8) rfl rfl Tryd.func70 (by kernel_rfl) rfl #[.slice A0 l0.length c0] rfl zq_1 ?_; (with_reducible refine (spec_l4MapOk.calls k _ _ l0 true _ ?side1 ?side2 A3.out).mono ?_); (case side1 => exact zq_5); (case side2 => exact HC0.out); rintro e w10 ⟨rfl, hb⟩; refine ⟨_, rfl, ?_⟩; have n0_ := Aside0.mk (below_step zq_0 hb); clear HB; have HB := n0_; clear n0_; (try clear hb); (try clear hb2); (try clear hk); (try clear hi)) | (go_at_call 90; (with_reducible refine (spec_l1Width.calls a1 false _ A5.out).mono ?_); rintro e w' ⟨rfl, ⟨nd, rfl⟩⟩))
   go_ret
   exact ⟨by first | rfl | (simp [errW_none, errW_some] <;> rfl) | (simp [*, errW_none, errW_some] <;> rfl), by repeat (first | (with_reducible first | exact HB.out | apply below_alloc | apply pw_below_drewN | apply below_drew1) | exact HB.out)⟩
 ·replace c4 := Bool.eq_false_iff.mpr c4; subst c4; have H1 : (some (⟨#[]⟩ : ByteArray)) = some r := by rw [if_neg (show ¬ (false = true) by decide)] at H; exact H
  clear H; have H := H1; clear H1; obtain rfl := Option.some.inj H
  go_enter Tryd.func31, Tryd.ntmps31
  go_wp2_with (first | ((with_reducible refine gate_callee (f := 70) rfl ?_); refine goesL_ (some 8) rfl rfl Tryd.func70 (by kernel_rfl) rfl #[.slice A0 l0.length c0] rfl zq_1 ?_; (with_reducible refine (spec_l4MapOk.calls k _ _ l0 false _ ?side1 ?side2 A3.out).mono ?_); (case side1 => exact zq_5); (case side2 => exact HC0.out); rintro e w11 ⟨rfl, hb⟩; refine ⟨_, rfl, ?_⟩; have n0_ := Aside0.mk (below_step zq_0 hb); clear HB; have HB := n0_; clear n0_; (try clear hb); (try clear hb2); (try clear hk); (try clear hi)))
  go_ret
  exact ⟨by first | rfl | (simp [errW_none, errW_some] <;> rfl) | (simp [*, errW_none, errW_some] <;> rfl), by repeat (first | (with_reducible first | exact HB.out | apply below_alloc | apply pw_below_drewN | apply below_drew1) | exact HB.out)⟩
end Go.Proofs.YtaepebkeijmjgaaDoor.Z
end
