/- Own texts, joined. -/
import Derived.Test.YthnnphinfiobmaaDoorYFnExactDiff27
import Derived.Test.YthnnphinfiobmaaDoorYFnExactDiff21
import Derived.Test.YthnnphinfiobmaaDoorYFnExactDiff23
import Derived.Test.YthnnphinfiobmaaDoorYFnExactDiff24
import Derived.Test.YthnnphinfiobmaaDoorYFnExactDiff25
import Derived.Test.YthnnphinfiobmaaDoorYFnExactDiff0
import Derived.ProofKit
import Derived.OpenShut
import Derived.ChangeSame
section
namespace Go.Proofs.YthnnphinfiobmaaDoor.Z
open RowKit YthnnphinfiobmaaDoorW.PrintWords YthnnphinfiobmaaDoorW.PrintLast YthnnphinfiobmaaDoorW.PrintMore
attribute [local go_sem] max2_int min2_int max_two min_two max_three min_three max_four min_four
set_option linter.all false
mutual
def laws_FnExactDiff.j0 : Nat → ByteArray → ByteArray → List (S120) → Int → List (S120) → Int → Bool → Int → List ByteArray → Int → List ByteArray → Option (Bool)
 | 0, _, _, _, _, _, _, _, _, _, _, _ => none
 | k + 1, x1, x2, x8, x9, x11, x12, x54, x80002000, x80002001, x80016000, x80016001 => if x54 = true then (none) else ((laws_toPool.f k x80002000 x80002001).bind fun bt80021 => ((laws_eqPool.f k x80016000 x80016001 bt80021.1 bt80021.2).bind fun t80025 => (if t80025 = true then ((laws_markPool.f k x80016000 x80016001 1).bind fun bt80026 => (if bt80026.1 < 0 then (none) else ((laws_eqChangeS.f k x11 x8).bind fun t80028 => (if t80028 = true then (laws_FnExactDiff.j1 k x1 x2 x8 x9 x11 (x12 != x9) x80002000 x80002001) else (none))))) else (none))))
def laws_FnExactDiff.j1 : Nat → ByteArray → ByteArray → List (S120) → Int → List (S120) → Bool → Int → List ByteArray → Option (Bool)
 | 0, _, _, _, _, _, _, _, _ => none
 | k + 1, x1, x2, x8, x9, x11, x75, x80002000, x80002001 => if x75 = true then (none) else ((laws_markChangeS.f k x11 1).bind fun bt80029 => ((laws_heldChangeS.f k bt80029.2 1).bind fun t80031 => (if t80031 < 0 then (none) else (if t80031 = bt80029.1 then ((laws_toPool.f k x80002000 x80002001).bind fun bt80032 => ((impl_Diff.f k bt80032.1 bt80032.2 x1 x2).bind fun bt80036 => ((laws_eqChangeS.f k bt80036.1 x8).bind fun t80040 => (if t80040 = true then (laws_FnExactDiff.j2 k bt80029.2 bt80029.1 (bt80036.2 != x9)) else (none))))) else (none)))))
def laws_FnExactDiff.j2 : Nat → List (S120) → Int → Bool → Option (Bool)
 | 0, _, _, _ => none
 | k + 1, x11, x14, x103 => if x103 = true then (none) else ((laws_heldChangeS.f k x11 1).bind fun t80041 => (if t80041 < 0 then (none) else (if t80041 = x14 then (some true) else (none))))
end
def laws_FnExactDiff.f (k : Nat) (a0_0 : Int) (l0_1 : List ByteArray) (a1 : ByteArray) (a2 : ByteArray) : Option (Bool) := if (a1.size : Int) > 1048576 then (some true) else (if (a2.size : Int) > 1048576 then (some true) else ((laws_szPool.f k a0_0 l0_1 1048576).bind fun t80002 => (if t80002 < 0 then (some true) else ((laws_toPool.f k a0_0 l0_1).bind fun bt80003 => ((spec_Diff.f k bt80003.1 bt80003.2 a1 a2).bind fun bt80007 => ((laws_toPool.f k a0_0 l0_1).bind fun bt80011 => ((impl_Diff.f k bt80011.1 bt80011.2 a1 a2).bind fun bt80016 => ((laws_eqChangeS.f k bt80016.1 bt80007.1).bind fun t80020 => (if t80020 = true then (laws_FnExactDiff.j0 k a1 a2 bt80007.1 bt80007.2 bt80016.1 bt80016.2 (bt80016.2 != bt80007.2) a0_0 l0_1 bt80011.1 bt80011.2) else (none))))))))))
set_option maxHeartbeats 8000000 in
set_option maxRecDepth 100000 in
theorem laws_FnExactDiff.calls (k : Nat) (a0_0 : Int) (A0_1 : Option Addr) (c0_1 : Nat) (l0_1 : List ByteArray) (a1 : ByteArray) (a2 : ByteArray) (r : Bool) (w : World) (hTab : Tab w) (hr0_1 : Kd.C Kd.string w A0_1 l0_1.length l0_1) (hc0_1 : l0_1.length ≤ c0_1) (h : laws_FnExactDiff.f k a0_0 l0_1 a1 a2 = some r) :
  Calls Tryd.prog 8 #[.agg #[.int .i64 a0_0, .slice A0_1 l0_1.length c0_1], .string a1, .string a2] w fun e w' => e = .returned (.bool r) ∧ Below w.heap.size w w' := by
 have hu34 := Tryd.underlying34; have hu38 := Tryd.underlying38; have HR0_1 := Aside0.mk hr0_1; have HC0_1 := Aside0.mk hc0_1; clear hr0_1 hc0_1; have HB := Aside0.mk (Below.refl w.heap.size w); have H : (if (a1.size : Int) > 1048576 then (some true) else (if (a2.size : Int) > 1048576 then (some true) else ((laws_szPool.f k a0_0 l0_1 1048576).bind fun t80002 => (if t80002 < 0 then (some true) else ((laws_toPool.f k a0_0 l0_1).bind fun bt80003 => ((spec_Diff.f k bt80003.1 bt80003.2 a1 a2).bind fun bt80007 => ((laws_toPool.f k a0_0 l0_1).bind fun bt80011 => ((impl_Diff.f k bt80011.1 bt80011.2 a1 a2).bind fun bt80016 => ((laws_eqChangeS.f k bt80016.1 bt80007.1).bind fun t80020 => (if t80020 = true then (laws_FnExactDiff.j0 k a1 a2 bt80007.1 bt80007.2 bt80016.1 bt80016.2 (bt80016.2 != bt80007.2) a0_0 l0_1 bt80011.1 bt80011.2) else (none))))))))))) = some r := h; clear h
 by_cases c4 : (a1.size : Int) > 1048576
 ·rw [if_pos c4] at H; have c4b0 : decide (1048576 < (a1.size : Int)) = true := decide_eq_true c4; have c4b1 : decide (1048576 < a1.size) = true := decide_eq_true (by omega); clear c4; obtain rfl := Option.some.inj H
  go_enter Tryd.func8, Tryd.ntmps8
  go_wp2_with (first | ((with_reducible refine gate_dst (N := 3) rfl ?_); refine box_event ?hg (N := 3) ?hd (cs := #[.int .i64 a0_0, .slice A0_1 l0_1.length c0_1]) (t := 34) ?hr ?_; (case hd => rfl); (case hg => rfl); (case hr => exact zq_13); intro gb80001 hg w5 hbox hb; have n0_ := Aside0.mk (below_step zq_0 hb); have n1_ := Aside0.mk (hbox); have n2_ := Aside0.mk ((by rw [hg]; exact (below_size zq_0) : w.heap.size ≤ gb80001)); have n3_ := Aside0.mk ((by rw [hg]; exact (below_size zq_0) : w.heap.size ≤ gb80001)); clear HB; have HB := n0_; have BK80001 := n1_; have GW80001 := n2_; have GE80001 := n3_; clear n0_ n1_ n2_ n3_; clear hb hbox hg))
  go_ret
  exact ⟨by first | rfl | (simp [errW_none, errW_some] <;> rfl) | (simp [*, errW_none, errW_some] <;> rfl), by repeat (first | (with_reducible first | exact HB.out | apply below_alloc | apply pw_below_drewN | apply below_drew1 | refine below_set ?_ GE80001.out) | exact HB.out)⟩
 ·rw [if_neg c4] at H; have c4b0 : decide (1048576 < (a1.size : Int)) = false := decide_eq_false c4; have c4b1 : decide (1048576 < a1.size) = false := decide_eq_false (by omega); clear c4
  by_cases c6 : (a2.size : Int) > 1048576
  ·rw [if_pos c6] at H; have c6b0 : decide (1048576 < (a2.size : Int)) = true := decide_eq_true c6; have c6b1 : decide (1048576 < a2.size) = true := decide_eq_true (by omega); clear c6; obtain rfl := Option.some.inj H
   go_enter Tryd.func8, Tryd.ntmps8
   go_wp2_with (first | ((with_reducible refine gate_dst (N := 3) rfl ?_); refine box_event ?hg (N := 3) ?hd (cs := #[.int .i64 a0_0, .slice A0_1 l0_1.length c0_1]) (t := 34) ?hr ?_; (case hd => rfl); (case hg => rfl); (case hr => exact zq_13); intro gb80001 hg w7 hbox hb; have n0_ := Aside0.mk (below_step zq_0 hb); have n1_ := Aside0.mk (hbox); have n2_ := Aside0.mk ((by rw [hg]; exact (below_size zq_0) : w.heap.size ≤ gb80001)); have n3_ := Aside0.mk ((by rw [hg]; exact (below_size zq_0) : w.heap.size ≤ gb80001)); clear HB; have HB := n0_; have BK80001 := n1_; have GW80001 := n2_; have GE80001 := n3_; clear n0_ n1_ n2_ n3_; clear hb hbox hg))
   go_ret
   exact ⟨by first | rfl | (simp [errW_none, errW_some] <;> rfl) | (simp [*, errW_none, errW_some] <;> rfl), by repeat (first | (with_reducible first | exact HB.out | apply below_alloc | apply pw_below_drewN | apply below_drew1 | refine below_set ?_ GE80001.out) | exact HB.out)⟩
  ·rw [if_neg c6] at H; have c6b0 : decide (1048576 < (a2.size : Int)) = false := decide_eq_false c6; have c6b1 : decide (1048576 < a2.size) = false := decide_eq_false (by omega); clear c6; replace H := Option.bind_eq_some_iff.mp H; obtain ⟨t80002, A80, H⟩ := H; (try dsimp only at H); have A8 := Aside0.mk A80; clear A80
   by_cases c9 : t80002 < 0
   ·rw [if_pos c9] at H; have c9b0 : decide (t80002 < 0) = true := decide_eq_true c9; clear c9; obtain rfl := Option.some.inj H
    go_enter Tryd.func8, Tryd.ntmps8
    go_wp2_with (first | ((with_reducible refine gate_dst (N := 3) rfl ?_); refine box_event ?hg (N := 3) ?hd (cs := #[.int .i64 a0_0, .slice A0_1 l0_1.length c0_1]) (t := 34) ?hr ?_; (case hd => rfl); (case hg => rfl); (case hr => exact zq_13); intro gb80001 hg w10 hbox hb; have n0_ := Aside0.mk (below_step zq_0 hb); have n1_ := Aside0.mk (hbox); have n2_ := Aside0.mk ((by rw [hg]; exact (below_size zq_0) : w.heap.size ≤ gb80001)); have n3_ := Aside0.mk ((by rw [hg]; exact (below_size zq_0) : w.heap.size ≤ gb80001)); clear HB; have HB := n0_; have BK80001 := n1_; have GW80001 := n2_; have GE80001 := n3_; clear n0_ n1_ n2_ n3_; clear hb hbox hg; have hcz11_0 : w10.cell? ⟨gb80001, 0, none⟩ = some (.int .i64 a0_0) := (blk_cell BK80001.out 0).trans rfl; have hcz11_1 : w10.cell? ⟨gb80001, 1, none⟩ = some (.slice A0_1 l0_1.length c0_1) := (blk_cell BK80001.out 1).trans rfl; have hfz11_0 := blk_frozen BK80001.out 0; have hfz11_1 := blk_frozen BK80001.out 1) | ((with_reducible refine gate_callee (f := 16) rfl ?_); refine goesL_ (some 26) rfl rfl Tryd.func16 (by kernel_rfl) rfl #[.agg #[.int .i64 a0_0, .slice A0_1 l0_1.length c0_1], .int .i64 1048576] rfl zq_1 ?_; (with_reducible refine (laws_szPool.calls k a0_0 _ _ l0_1 1048576 t80002 _ ?side1 ?side2 A8.out).mono ?_); (case side1 => exact zq_3); (case side2 => exact HC0_1.out); rintro e w12 ⟨rfl, hb⟩; refine ⟨_, rfl, ?_⟩; have n0_ := Aside0.mk (blk_below (g := gb80001) (o := .cells #[.int .i64 a0_0, .slice A0_1 l0_1.length c0_1] 34 (0, 0)) zq_15 hb); have n1_ := Aside0.mk (below_step zq_18 hb); clear BK80001; clear HB; have BK80001 := n0_; have HB := n1_; clear n0_ n1_; (try clear hb); (try clear hb2); (try clear hk); (try clear hi)))
    go_ret
    exact ⟨by first | rfl | (simp [errW_none, errW_some] <;> rfl) | (simp [*, errW_none, errW_some] <;> rfl), by repeat (first | (with_reducible first | exact HB.out | apply below_alloc | apply pw_below_drewN | apply below_drew1 | refine below_set ?_ GE80001.out) | exact HB.out)⟩
   ·rw [if_neg c9] at H; have c9b0 : decide (t80002 < 0) = false := decide_eq_false c9; clear c9; replace H := Option.bind_eq_some_iff.mp H; obtain ⟨⟨t80003, t80004⟩, A130, H⟩ := H; (try dsimp only at H); have A13 := Aside0.mk A130; clear A130; replace H := Option.bind_eq_some_iff.mp H; obtain ⟨⟨t80007, t80010⟩, A140, H⟩ := H; (try dsimp only at H); have A14 := Aside0.mk A140; clear A140; replace H := Option.bind_eq_some_iff.mp H; obtain ⟨⟨t80011, t80012⟩, A150, H⟩ := H; (try dsimp only at H); have A15 := Aside0.mk A150; clear A150; replace H := Option.bind_eq_some_iff.mp H; obtain ⟨⟨t80016, t80019⟩, A160, H⟩ := H; (try dsimp only at H); have A16 := Aside0.mk A160; clear A160; have HC17 := Aside0.mk H; clear H
    go_enter Tryd.func8, Tryd.ntmps8
    go_upto_region 12 with (first | ((with_reducible refine gate_dst (N := 3) rfl ?_); refine box_event ?hg (N := 3) ?hd (cs := #[.int .i64 a0_0, .slice A0_1 l0_1.length c0_1]) (t := 34) ?hr ?_; (case hd => rfl); (case hg => rfl); (case hr => exact zq_13); intro gb80001 hg w18 hbox hb; have n0_ := Aside0.mk (below_step zq_0 hb); have n1_ := Aside0.mk (hbox); have n2_ := Aside0.mk ((by rw [hg]; exact (below_size zq_0) : w.heap.size ≤ gb80001)); have n3_ := Aside0.mk ((by rw [hg]; exact (below_size zq_0) : w.heap.size ≤ gb80001)); clear HB; have HB := n0_; have BK80001 := n1_; have GW80001 := n2_; have GE80001 := n3_; clear n0_ n1_ n2_ n3_; clear hb hbox hg; have hcz19_0 : w18.cell? ⟨gb80001, 0, none⟩ = some (.int .i64 a0_0) := (blk_cell BK80001.out 0).trans rfl; have hcz19_1 : w18.cell? ⟨gb80001, 1, none⟩ = some (.slice A0_1 l0_1.length c0_1) := (blk_cell BK80001.out 1).trans rfl; have hfz19_0 := blk_frozen BK80001.out 0; have hfz19_1 := blk_frozen BK80001.out 1) | ((with_reducible refine gate_callee (f := 16) rfl ?_); refine goesL_ (some 26) rfl rfl Tryd.func16 (by kernel_rfl) rfl #[.agg #[.int .i64 a0_0, .slice A0_1 l0_1.length c0_1], .int .i64 1048576] rfl zq_1 ?_; (with_reducible refine (laws_szPool.calls k a0_0 _ _ l0_1 1048576 t80002 _ ?side1 ?side2 A8.out).mono ?_); (case side1 => exact zq_3); (case side2 => exact HC0_1.out); rintro e w20 ⟨rfl, hb⟩; refine ⟨_, rfl, ?_⟩; have n0_ := Aside0.mk (blk_below (g := gb80001) (o := .cells #[.int .i64 a0_0, .slice A0_1 l0_1.length c0_1] 34 (0, 0)) zq_15 hb); have n1_ := Aside0.mk (below_step zq_18 hb); clear BK80001; clear HB; have BK80001 := n0_; have HB := n1_; clear n0_ n1_; (try clear hb); (try clear hb2); (try clear hk); (try clear hi); have hcz21_0 : w20.cell? ⟨gb80001, 0, none⟩ = some (.int .i64 a0_0) := (blk_cell BK80001.out 0).trans rfl; have hcz21_1 : w20.cell? ⟨gb80001, 1, none⟩ = some (.slice A0_1 l0_1.length c0_1) := (blk_cell BK80001.out 1).trans rfl; have hfz21_0 := blk_frozen BK80001.out 0; have hfz21_1 := blk_frozen BK80001.out 1) | ((with_reducible refine gate_callee (f := 18) rfl ?_); refine goesL_ (some 31) rfl rfl Tryd.func18 (by kernel_rfl) rfl #[.agg #[.int .i64 a0_0, .slice A0_1 l0_1.length c0_1]] rfl zq_1 ?_; (with_reducible refine (laws_toPool.calls k a0_0 _ _ l0_1 t80003 t80004 _ ?side1 ?side2 A13.out).mono ?_); (case side1 => exact zq_3); (case side2 => exact HC0_1.out); rintro e w22 ⟨v80005, rfl, ho0, hb⟩; refine ⟨_, rfl, ?_⟩; have n0_ := Aside0.mk (Kd.R_lower ho0 (below_size zq_18)); have n1_ := Aside0.mk (blk_below (g := gb80001) (o := .cells #[.int .i64 a0_0, .slice A0_1 l0_1.length c0_1] 34 (0, 0)) zq_15 hb); have n2_ := Aside0.mk (below_step zq_18 hb); clear BK80001; clear HB; have HO80006 := n0_; have BK80001 := n1_; have HB := n2_; clear n0_ n1_ n2_; (try clear hb); (try clear hb2); (try clear hk); (try clear hi); (try clear ho0); obtain ⟨Ao23, co23, eo23⟩ := Kd.R_slice HO80006.out; subst eo23) | ((with_reducible refine gate_callee (f := 31) rfl ?_); refine goesL_ (some 34) rfl rfl Tryd.func31 (by kernel_rfl) rfl #[.agg #[.int .i64 t80003, .slice Ao23 t80004.length co23], .string a1, .string a2] rfl zq_1 ?_; (with_reducible refine (spec_Diff.calls k t80003 _ _ t80004 a1 a2 t80007 t80010 _ ?side1 ?side2 A14.out).mono ?_); (case side1 => repeat (first | exact (Kd.R_reads' HO80006.out).2.2 | (with_reducible refine Kd.C_alloc ?_ _) | (with_reducible refine Kd.C_drewN ?_ _) | (with_reducible refine Kd.C_drew ?_))); (case side2 => exact (Kd.R_reads' HO80006.out).2.1); rintro e w24 ⟨v80008, rfl, ho0, hb⟩; refine ⟨_, rfl, ?_⟩; have n0_ := Aside0.mk (Kd.R_below zq_52 hb); have n1_ := Aside0.mk (Kd.R_lower ho0 (below_size zq_18)); have n2_ := Aside0.mk (blk_below (g := gb80001) (o := .cells #[.int .i64 a0_0, .slice A0_1 l0_1.length c0_1] 34 (0, 0)) zq_15 hb); have n3_ := Aside0.mk (below_step zq_18 hb); clear HO80006; clear BK80001; clear HB; have HO80006 := n0_; have HO80009 := n1_; have BK80001 := n2_; have HB := n3_; clear n0_ n1_ n2_ n3_; (try clear hb); (try clear hb2); (try clear hk); (try clear hi); (try clear ho0); have hcz25_0 : w24.cell? ⟨gb80001, 0, none⟩ = some (.int .i64 a0_0) := (blk_cell BK80001.out 0).trans rfl; have hcz25_1 : w24.cell? ⟨gb80001, 1, none⟩ = some (.slice A0_1 l0_1.length c0_1) := (blk_cell BK80001.out 1).trans rfl; have hfz25_0 := blk_frozen BK80001.out 0; have hfz25_1 := blk_frozen BK80001.out 1) | ((with_reducible refine gate_callee (f := 18) rfl ?_); refine goesL_ (some 38) rfl rfl Tryd.func18 (by kernel_rfl) rfl #[.agg #[.int .i64 a0_0, .slice A0_1 l0_1.length c0_1]] rfl zq_1 ?_; (with_reducible refine (laws_toPool.calls k a0_0 _ _ l0_1 t80011 t80012 _ ?side1 ?side2 A15.out).mono ?_); (case side1 => exact zq_3); (case side2 => exact HC0_1.out); rintro e w26 ⟨v80013, rfl, ho0, hb⟩; refine ⟨_, rfl, ?_⟩; have n0_ := Aside0.mk (Kd.R_elder' zq_52 (Kd.R_base ho0) hb); have n1_ := Aside0.mk (Kd.R_below (by (with_reducible repeat (first | apply Kd.R_alloc | apply Kd.R_drewN | apply Kd.R_drew)); exact HO80009.out) hb); have n2_ := Aside0.mk (Kd.R_lower (Kd.R_new' ho0 (Kd.R_lt zq_52)) (below_size zq_18)); have n3_ := Aside0.mk (blk_below (g := gb80001) (o := .cells #[.int .i64 a0_0, .slice A0_1 l0_1.length c0_1] 34 (0, 0)) zq_15 hb); have n4_ := Aside0.mk (below_step zq_18 hb); clear HO80006; clear HO80009; clear BK80001; clear HB; have HO80006 := n0_; have HO80009 := n1_; have HO80014 := n2_; have BK80001 := n3_; have HB := n4_; clear n0_ n1_ n2_ n3_ n4_; (try clear hb); (try clear hb2); (try clear hk); (try clear hi); (try clear ho0)) | ((with_reducible refine gate_dst (N := 10) rfl ?_); refine box_event ?hg (N := 10) ?hd (cs := #[.int .i64 0, .slice none 0 0]) (t := 38) ?hr ?_; (case hd => rfl); (case hg => rfl); (case hr => exact zq_13); intro gb80015 hg w27 hbox hb; have n0_ := Aside0.mk (Kd.R_below zq_52 hb); have n1_ := Aside0.mk (Kd.R_below (by (with_reducible repeat (first | apply Kd.R_alloc | apply Kd.R_drewN | apply Kd.R_drew)); exact HO80009.out) hb); have n2_ := Aside0.mk (Kd.R_below (by (with_reducible repeat (first | apply Kd.R_alloc | apply Kd.R_drewN | apply Kd.R_drew)); exact HO80014.out) hb); have n3_ := Aside0.mk (blk_below (g := gb80001) (o := .cells #[.int .i64 a0_0, .slice A0_1 l0_1.length c0_1] 34 (0, 0)) zq_15 hb); have n4_ := Aside0.mk (below_step zq_18 hb); have n5_ := Aside0.mk (hbox); have n6_ := Aside0.mk ((by rw [hg]; exact (below_size zq_18) : w.heap.size ≤ gb80015)); have n7_ := Aside0.mk ((by rw [hg]; exact (below_size zq_18) : w.heap.size ≤ gb80015)); have n8_ := Aside0.mk ((by rw [hg]; exact Nat.ne_of_lt (blk_lt (g := gb80001) (o := .cells #[.int .i64 a0_0, .slice A0_1 l0_1.length c0_1] 34 (0, 0)) zq_15) : gb80001 ≠ gb80015)); have n9_ := Aside0.mk ((by rw [hg]; exact Nat.ne_of_gt (blk_lt (g := gb80001) (o := .cells #[.int .i64 a0_0, .slice A0_1 l0_1.length c0_1] 34 (0, 0)) zq_15) : gb80015 ≠ gb80001)); clear HO80006; clear HO80009; clear HO80014; clear BK80001; clear HB; have HO80006 := n0_; have HO80009 := n1_; have HO80014 := n2_; have BK80001 := n3_; have HB := n4_; have BK80015 := n5_; have GW80015 := n6_; have GE80015 := n7_; have NB80001_80015 := n8_; have NB80015_80001 := n9_; clear n0_ n1_ n2_ n3_ n4_ n5_ n6_ n7_ n8_ n9_; clear hb hbox hg; have hnb28 := NB80015_80001.out; have hnc28 := NB80001_80015.out; have hcz29_0 : w27.cell? ⟨gb80015, 0, none⟩ = some (.int .i64 0) := (blk_cell BK80015.out 0).trans rfl; have hcz29_1 : w27.cell? ⟨gb80015, 1, none⟩ = some (.slice none 0 0) := (blk_cell BK80015.out 1).trans rfl; have hfz29_0 := blk_frozen BK80015.out 0; have hfz29_1 := blk_frozen BK80015.out 1; obtain ⟨Ao30, co30, eo30⟩ := Kd.R_slice HO80014.out; subst eo30) | ((with_reducible refine gate_callee (f := 32) rfl ?_); refine goesL_ (some 43) rfl rfl Tryd.func32 (by kernel_rfl) rfl #[.agg #[.int .i64 t80011, .slice Ao30 t80012.length co30], .string a1, .string a2] rfl zq_1 ?_; (with_reducible refine (impl_Diff.calls k t80011 _ _ t80012 a1 a2 t80016 t80019 _ ?side1 ?side2 A16.out).mono ?_); (case side1 => refine (Kd.R_reads' (e := 9) (base := w.heap.size) (ok := fun k_ => (True ∧ some k_ ≠ (.slice Ao23 t80004.length co23 : Value).ownBlock)) (n := t80012.length) (c := co30) ?_).2.2; exact zq_54); (case side2 => exact (Kd.R_reads' HO80014.out).2.1); rintro e w31 ⟨v80017, rfl, ho0, hb⟩; refine ⟨_, rfl, ?_⟩; have n0_ := Aside0.mk (Kd.R_below (by (with_reducible repeat (first | apply Kd.R_alloc | apply Kd.R_drewN | apply Kd.R_drew)); exact (Kd.R_mono (Kd.R_far (p := ⟨gb80015, 1, none⟩) (Kd.R_far (p := ⟨gb80015, 0, none⟩) (Kd.R_types HO80006.out BK80015.out (by decide)) (fun _ hk => hk.2) (.int .i64 t80011)) (fun _ hk => hk.2) (.slice Ao30 t80012.length co30)) (fun _ h_ => h_.1))) hb); have n1_ := Aside0.mk (Kd.R_elder' zq_55 (Kd.R_base ho0) hb); have n2_ := Aside0.mk (Kd.R_below zq_54 hb); have n3_ := Aside0.mk (Kd.R_lower (Kd.R_new' ho0 (Kd.R_lt zq_55)) (below_size zq_10)); have n4_ := Aside0.mk (blk_below (g := gb80001) (o := .cells #[.int .i64 a0_0, .slice A0_1 l0_1.length c0_1] 34 (0, 0)) (by (with_reducible repeat (first | refine blk_drewN ?_ _ | refine blk_drew ?_ | refine blk_alloc ?_ _)); refine blk_far ?_ NB80001_80015.out _; (with_reducible repeat (first | refine blk_drewN ?_ _ | refine blk_drew ?_ | refine blk_alloc ?_ _)); refine blk_far ?_ NB80001_80015.out _; (with_reducible repeat (first | refine blk_drewN ?_ _ | refine blk_drew ?_ | refine blk_alloc ?_ _)); exact BK80001.out) hb); have n5_ := Aside0.mk (blk_below (g := gb80015) (o := .cells #[.int .i64 t80011, .slice Ao30 t80012.length co30] 38 (0, 0)) (by (with_reducible repeat (first | refine blk_drewN ?_ _ | refine blk_drew ?_ | refine blk_alloc ?_ _)); refine blk_put (cs := #[.int .i64 t80011, .slice none 0 0]) ?_ 1 _ rfl; (with_reducible repeat (first | refine blk_drewN ?_ _ | refine blk_drew ?_ | refine blk_alloc ?_ _)); refine blk_put (cs := #[.int .i64 0, .slice none 0 0]) ?_ 0 _ rfl; (with_reducible repeat (first | refine blk_drewN ?_ _ | refine blk_drew ?_ | refine blk_alloc ?_ _)); exact BK80015.out) hb); have n6_ := Aside0.mk (below_step zq_10 hb); clear HO80006; clear HO80009; clear HO80014; clear BK80001; clear BK80015; clear HB; have HO80006 := n0_; have HO80009 := n1_; have HO80014 := n2_; have HO80018 := n3_; have BK80001 := n4_; have BK80015 := n5_; have HB := n6_; clear n0_ n1_ n2_ n3_ n4_ n5_ n6_; (try clear hb); (try clear hb2); (try clear hk); (try clear hi); (try clear ho0)))
    (try simp only [Act.put, List.setIfInBounds_toArray, List.set_cons_zero, List.set_cons_succ])
    go_cut [54] (fun v54 wc => ∃ (kq : Nat) (x54_16 : Bool), v54 = .bool x54_16 ∧ Aside0 (laws_FnExactDiff.j0 kq a1 a2 t80007 t80010 t80016 t80019 x54_16 a0_0 l0_1 t80011 t80012 = some r) ∧ Aside0 (kq ≤ k) ∧ Aside0 (Kd.R k120 120 wc w.heap.size (fun k_ => some k_ ≠ (v80017 : Value).ownBlock) v80008 t80007) ∧ Aside0 (Kd.R k120 120 wc w.heap.size (fun k_ => some k_ ≠ (v80008 : Value).ownBlock) v80017 t80016) ∧ Aside0 (Kd.R Kd.string 9 wc w.heap.size (fun _ => True) (.slice Ao30 t80012.length co30) t80012) ∧ Aside0 (wc.heap[gb80001]? = some (.cells #[.int .i64 a0_0, (.slice A0_1 l0_1.length c0_1)] 34 (0, 0))) ∧ Aside0 (wc.heap[gb80015]? = some (.cells #[.int .i64 t80011, (.slice Ao30 t80012.length co30)] 38 (0, 0))) ∧ Aside0 (Below w.heap.size w wc))
    case first =>
     have H := HC17.out; clear HC17; replace H := Option.bind_eq_some_iff.mp H; obtain ⟨t80020, A320, H⟩ := H; (try dsimp only at H); have A32 := Aside0.mk A320; clear A320
     by_cases c33 : t80020 = true
     ·subst c33; have H1 : (laws_FnExactDiff.j0 k a1 a2 t80007 t80010 t80016 t80019 (t80019 != t80010) a0_0 l0_1 t80011 t80012) = some r := by rw [if_pos rfl] at H; exact H
      clear H; have H := H1; clear H1; have H' := Aside0.mk H; clear H; obtain ⟨Ao34, co34, eo34⟩ := Kd.R_slice HO80018.out; subst eo34; obtain ⟨Ao35, co35, eo35⟩ := Kd.R_slice HO80009.out; subst eo35
      go_wp2_with (first | ((with_reducible refine gate_callee (f := 33) rfl ?_); refine goesL_ (some 48) rfl rfl Tryd.func33 (by kernel_rfl) rfl #[.slice Ao34 t80016.length co34, .slice Ao35 t80007.length co35] rfl zq_1 ?_; (with_reducible refine (laws_eqChangeS.calls k _ _ t80016 _ _ t80007 true _ ?side1 ?side2 ?side3 ?side4 A32.out).mono ?_); (case side1 => repeat (first | exact (Kd.R_reads' HO80018.out).2.2 | (with_reducible refine Kd.C_alloc ?_ _) | (with_reducible refine Kd.C_drewN ?_ _) | (with_reducible refine Kd.C_drew ?_))); (case side2 => exact (Kd.R_reads' HO80018.out).2.1); (case side3 => repeat (first | exact (Kd.R_reads' HO80009.out).2.2 | (with_reducible refine Kd.C_alloc ?_ _) | (with_reducible refine Kd.C_drewN ?_ _) | (with_reducible refine Kd.C_drew ?_))); (case side4 => exact (Kd.R_reads' HO80009.out).2.1); rintro e w36 ⟨rfl, hb⟩; refine ⟨_, rfl, ?_⟩; have n0_ := Aside0.mk (Kd.R_below zq_52 hb); have n1_ := Aside0.mk (Kd.R_below (by (with_reducible repeat (first | apply Kd.R_alloc | apply Kd.R_drewN | apply Kd.R_drew)); exact HO80009.out) hb); have n2_ := Aside0.mk (Kd.R_below (by (with_reducible repeat (first | apply Kd.R_alloc | apply Kd.R_drewN | apply Kd.R_drew)); exact HO80014.out) hb); have n3_ := Aside0.mk (Kd.R_below (by (with_reducible repeat (first | apply Kd.R_alloc | apply Kd.R_drewN | apply Kd.R_drew)); exact HO80018.out) hb); have n4_ := Aside0.mk (blk_below (g := gb80001) (o := .cells #[.int .i64 a0_0, .slice A0_1 l0_1.length c0_1] 34 (0, 0)) zq_15 hb); have n5_ := Aside0.mk (blk_below (g := gb80015) (o := .cells #[.int .i64 t80011, .slice Ao30 t80012.length co30] 38 (0, 0)) zq_24 hb); have n6_ := Aside0.mk (below_step zq_10 hb); clear HO80006; clear HO80009; clear HO80014; clear HO80018; clear BK80001; clear BK80015; clear HB; have HO80006 := n0_; have HO80009 := n1_; have HO80014 := n2_; have HO80018 := n3_; have BK80001 := n4_; have BK80015 := n5_; have HB := n6_; clear n0_ n1_ n2_ n3_ n4_ n5_ n6_; (try clear hb); (try clear hb2); (try clear hk); (try clear hi)))
      go_meet
      case rel => exact ⟨_, ((t80019 != t80010)), zq_6, H', ⟨by first | omega | exact Nat.le_refl _⟩, ⟨by (with_reducible repeat (first | apply Kd.R_alloc | apply Kd.R_drewN | apply Kd.R_drew)); exact Kd.R_mono HO80009.out (fun _ hk => hk.2)⟩, ⟨by (with_reducible repeat (first | apply Kd.R_alloc | apply Kd.R_drewN | apply Kd.R_drew)); exact Kd.R_mono HO80018.out (fun _ hk => hk.2)⟩, ⟨by (with_reducible repeat (first | apply Kd.R_alloc | apply Kd.R_drewN | apply Kd.R_drew)); exact Kd.R_mono HO80014.out (fun _ hk => trivial)⟩, ⟨by (with_reducible repeat (first | refine blk_drewN ?_ _ | refine blk_drew ?_ | refine blk_alloc ?_ _)); exact BK80001.out⟩, ⟨by (with_reducible repeat (first | refine blk_drewN ?_ _ | refine blk_drew ?_ | refine blk_alloc ?_ _)); exact BK80015.out⟩, ⟨by repeat (first | (with_reducible first | exact HB.out | apply below_alloc | apply pw_below_drewN | apply below_drew1 | refine below_set ?_ GE80001.out | refine below_set ?_ GE80015.out) | exact HB.out)⟩⟩
     ·replace c33 := Bool.eq_false_iff.mpr c33; subst c33; have H1 : (none) = some r := by rw [if_neg (show ¬ (false = true) by decide)] at H; exact H
      exact absurd H1 (by simp)
    case rest =>
     clear HC17
     try clear c1
     try clear c2
     try clear p2
     try clear c3
     try clear c4
     try clear c4b0
     try clear c4b1
     try clear c6
     try clear c6b0
     try clear c6b1
     try clear c8
     try clear c9
     try clear c9b0
     try clear c16
     try clear c18
     try clear c28
     try clear c31
     try clear c32
     try clear c33
     try clear hcz11_0
     try clear hcz11_1
     try clear hcz19_0
     try clear hcz19_1
     try clear hcz21_0
     try clear hcz21_1
     try clear hcz25_0
     try clear hcz25_1
     try clear hcz29_0
     try clear hcz29_1
     try clear hfz11_0
     try clear hfz11_1
     try clear hfz19_0
     try clear hfz19_1
     try clear hfz21_0
     try clear hfz21_1
     try clear hfz25_0
     try clear hfz25_1
     try clear hfz29_0
     try clear hfz29_1
     obtain ⟨kq, x54_16, rfl, HA, HJ16, HO_8, HO_11, HO_80016001, BK80001, BK80015, HB⟩ := hcut
     cases kq with
     | zero => exact absurd HA.out (by simp [laws_FnExactDiff.j0])
     | succ kj16 =>
      have H := HA.out; clear HA; simp only [laws_FnExactDiff.j0] at H
      by_cases c40 : x54_16 = true
      ·subst c40; have H1 : (none) = some r := by rw [if_pos rfl] at H; exact H
       exact absurd H1 (by simp)
      ·replace c40 := Bool.eq_false_iff.mpr c40; subst c40; have H1 : ((laws_toPool.f kj16 a0_0 l0_1).bind fun bt80021 => ((laws_eqPool.f kj16 t80011 t80012 bt80021.1 bt80021.2).bind fun t80025 => (if t80025 = true then ((laws_markPool.f kj16 t80011 t80012 1).bind fun bt80026 => (if bt80026.1 < 0 then (none) else ((laws_eqChangeS.f kj16 t80016 t80007).bind fun t80028 => (if t80028 = true then (laws_FnExactDiff.j1 kj16 a1 a2 t80007 t80010 t80016 (t80019 != t80010) a0_0 l0_1) else (none))))) else (none)))) = some r := by rw [if_neg (show ¬ (false = true) by decide)] at H; exact H
       clear H; have H := H1; clear H1; replace H := Option.bind_eq_some_iff.mp H; obtain ⟨⟨t80021, t80022⟩, A410, H⟩ := H; (try dsimp only at H); have A41 := Aside0.mk A410; clear A410; replace H := Option.bind_eq_some_iff.mp H; obtain ⟨t80025, A420, H⟩ := H; (try dsimp only at H); have A42 := Aside0.mk A420; clear A420
       by_cases c43 : t80025 = true
       ·subst c43; have H1 : ((laws_markPool.f kj16 t80011 t80012 1).bind fun bt80026 => (if bt80026.1 < 0 then (none) else ((laws_eqChangeS.f kj16 t80016 t80007).bind fun t80028 => (if t80028 = true then (laws_FnExactDiff.j1 kj16 a1 a2 t80007 t80010 t80016 (t80019 != t80010) a0_0 l0_1) else (none))))) = some r := by rw [if_pos rfl] at H; exact H
        clear H; have H := H1; clear H1; replace H := Option.bind_eq_some_iff.mp H; obtain ⟨⟨t80026, t80027⟩, A440, H⟩ := H; (try dsimp only at H); have A44 := Aside0.mk A440; clear A440; have HC45 := Aside0.mk H; clear H
        try go_wp2
        have n0_ := Aside0.mk (Kd.R_drew HO_8.out); have n1_ := Aside0.mk (Kd.R_drew HO_11.out); have n2_ := Aside0.mk (Kd.R_drew HO_80016001.out); have n3_ := Aside0.mk (blk_drew BK80001.out); have n4_ := Aside0.mk (blk_drew BK80015.out); have n5_ := Aside0.mk (below_drew1 HB.out); clear HO_8; clear HO_11; clear HO_80016001; clear BK80001; clear BK80015; clear HB; have HO_8 := n0_; have HO_11 := n1_; have HO_80016001 := n2_; have BK80001 := n3_; have BK80015 := n4_; have HB := n5_; clear n0_ n1_ n2_ n3_ n4_ n5_; refine start_ (n := 5) (S := fun w' => w'.cell? ⟨gb80015, 0, none⟩ = some (.int .i64 t80011) ∧ w'.cell? ⟨gb80015, 1, none⟩ = some (.slice Ao30 t80012.length co30) ∧ w'.cell? ⟨gb80001, 0, none⟩ = some (.int .i64 a0_0) ∧ w'.cell? ⟨gb80001, 1, none⟩ = some (.slice A0_1 l0_1.length c0_1)) (ds := []) #[false, false, false, false, false] (by kernel_rfl) rfl rfl ⟨(blk_cell BK80015.out 0).trans rfl, (blk_cell BK80015.out 1).trans rfl, (blk_cell BK80001.out 0).trans rfl, (blk_cell BK80001.out 1).trans rfl⟩ (fun hHeld => ?_); generalize wc.drew = w46 at HO_8 HO_11 HO_80016001 BK80001 BK80015 HB hHeld ⊢; refine take_ (i := 0) (N := some 55) (v := ?_) (a' := ?_) #[true, false, false, false, false] rfl rfl (by kernel_rfl) (fun _ _ _ h => h) (Or.inl ⟨by rfl, ?_⟩) hHeld ?_ ?_; rotate_left
        ·rintro w' ⟨s0, s1, s2, s3⟩; go_simp
         with_reducible rfl
        rotate_left
        ·simp only [Act.put, List.setIfInBounds_toArray, List.set_cons_zero, List.set_cons_succ, i64_w, i32_w]; rfl
        refine take_ (i := 1) (N := some 56) (v := ?_) (a' := ?_) #[true, true, false, false, false] rfl rfl (by kernel_rfl) (fun _ _ _ h => h) (Or.inl ⟨by rfl, ?_⟩) hHeld ?_ ?_; rotate_left
        ·rintro w' ⟨s0, s1, s2, s3⟩; go_simp
         with_reducible rfl
        rotate_left
        ·simp only [Act.put, List.setIfInBounds_toArray, List.set_cons_zero, List.set_cons_succ, i64_w, i32_w]; rfl
        refine one_ (i := 2) (N := some 57) #[true, true, true, false, false] rfl rfl (by kernel_rfl) (by decide) (fun K hK => ?_); refine goes_ Tryd.func18 (by kernel_rfl) rfl #[.agg #[.int .i64 a0_0, .slice A0_1 l0_1.length c0_1]] (by rfl) rfl rfl zq_1 ?_
        with_reducible refine (laws_toPool.calls kj16 a0_0 _ _ l0_1 t80021 t80022 _ ?side1 ?side2 A41.out).mono ?_
        (case side1 => exact zq_3); (case side2 => exact HC0_1.out); rintro e w47 ⟨v80023, rfl, ho0, hb⟩; refine ⟨_, rfl, ?_⟩; have n0_ := Aside0.mk (Kd.R_below zq_26 hb); have n1_ := Aside0.mk (Kd.R_below zq_32 hb); have n2_ := Aside0.mk (Kd.R_elder' zq_29 (Kd.R_base ho0) hb); have n3_ := Aside0.mk (Kd.R_lower (Kd.R_new' ho0 (Kd.R_lt zq_29)) (below_size zq_10)); have n4_ := Aside0.mk (blk_below (g := gb80001) (o := .cells #[.int .i64 a0_0, .slice A0_1 l0_1.length c0_1] 34 (0, 0)) zq_15 hb); have n5_ := Aside0.mk (blk_below (g := gb80015) (o := .cells #[.int .i64 t80011, .slice Ao30 t80012.length co30] 38 (0, 0)) zq_24 hb); have n6_ := Aside0.mk (below_step zq_10 hb); clear HO_8; clear HO_11; clear HO_80016001; clear BK80001; clear BK80015; clear HB; have HO_8 := n0_; have HO_11 := n1_; have HO_80016001 := n2_; have HO80024 := n3_; have BK80001 := n4_; have BK80015 := n5_; have HB := n6_; clear n0_ n1_ n2_ n3_ n4_ n5_ n6_; (try clear hb); (try clear hb2); (try clear hk); (try clear hi); (try clear ho0); obtain ⟨Ao48, co48, eo48⟩ := Kd.R_slice HO80024.out; (first | subst eo48 | (injection eo48 with f1_ f2_ f3_; have f4_ := f1_.symm; have f5_ := f3_.symm; clear f1_ f2_ f3_; subst f4_; subst f5_))
        refine hK.out _ _ ⟨(blk_cell BK80015.out 0).trans rfl, (blk_cell BK80015.out 1).trans rfl, (blk_cell BK80001.out 0).trans rfl, (blk_cell BK80001.out 1).trans rfl⟩ (fun hHeld => ?_); clear hK K; refine norm_ (a' := ?_) ?_ ?_; rotate_left
        ·show Act.put _ (some 57) _ = _; simp only [Act.put, List.setIfInBounds_toArray, List.set_cons_zero, List.set_cons_succ, i64_w, i32_w]; rfl
        refine one_ (i := 3) (N := some 58) #[true, true, true, true, false] rfl rfl (by kernel_rfl) (by decide) (fun K hK => ?_); refine goes_ Tryd.func20 (by kernel_rfl) rfl #[.agg #[.int .i64 t80011, .slice Ao30 t80012.length co30], .agg #[.int .i64 t80021, .slice Ao48 t80022.length co48]] (by rfl) rfl rfl zq_1 ?_
        with_reducible refine (laws_eqPool.calls kj16 t80011 _ _ t80012 t80021 _ _ t80022 true _ ?side1 ?side2 ?side3 ?side4 A42.out).mono ?_
        (case side1 => repeat (first | exact (Kd.R_reads' HO_80016001.out).2.2 | (with_reducible refine Kd.C_alloc ?_ _) | (with_reducible refine Kd.C_drewN ?_ _) | (with_reducible refine Kd.C_drew ?_))); (case side2 => exact (Kd.R_reads' HO_80016001.out).2.1); (case side3 => repeat (first | exact (Kd.R_reads' HO80024.out).2.2 | (with_reducible refine Kd.C_alloc ?_ _) | (with_reducible refine Kd.C_drewN ?_ _) | (with_reducible refine Kd.C_drew ?_))); (case side4 => exact (Kd.R_reads' HO80024.out).2.1); rintro e w49 ⟨rfl, hb⟩; refine ⟨_, rfl, ?_⟩; have n0_ := Aside0.mk (Kd.R_below zq_26 hb); have n1_ := Aside0.mk (Kd.R_below zq_32 hb); have n2_ := Aside0.mk (Kd.R_below zq_29 hb); have n3_ := Aside0.mk (Kd.R_below (by (with_reducible repeat (first | apply Kd.R_alloc | apply Kd.R_drewN | apply Kd.R_drew)); exact HO80024.out) hb); have n4_ := Aside0.mk (blk_below (g := gb80001) (o := .cells #[.int .i64 a0_0, .slice A0_1 l0_1.length c0_1] 34 (0, 0)) zq_15 hb); have n5_ := Aside0.mk (blk_below (g := gb80015) (o := .cells #[.int .i64 t80011, .slice Ao30 t80012.length co30] 38 (0, 0)) zq_24 hb); have n6_ := Aside0.mk (below_step zq_10 hb); clear HO_8; clear HO_11; clear HO_80016001; clear HO80024; clear BK80001; clear BK80015; clear HB; have HO_8 := n0_; have HO_11 := n1_; have HO_80016001 := n2_; have HO80024 := n3_; have BK80001 := n4_; have BK80015 := n5_; have HB := n6_; clear n0_ n1_ n2_ n3_ n4_ n5_ n6_; (try clear hb); (try clear hb2); (try clear hk); (try clear hi); refine hK.out _ _ ⟨(blk_cell BK80015.out 0).trans rfl, (blk_cell BK80015.out 1).trans rfl, (blk_cell BK80001.out 0).trans rfl, (blk_cell BK80001.out 1).trans rfl⟩ (fun hHeld => ?_); clear hK K; refine norm_ (a' := ?_) ?_ ?_; rotate_left
        ·show Act.put _ (some 58) _ = _; simp only [Act.put, List.setIfInBounds_toArray, List.set_cons_zero, List.set_cons_succ, i64_w, i32_w]; rfl
        refine pure_ (i := 4) (N := some 59) (v := ?_) (a' := ?_) #[true, true, true, true, true] rfl rfl (by kernel_rfl) (fun _ _ _ h => h) (Or.inl ⟨by rfl, ?_⟩) ?_ ?_; rotate_left
        ·intro w'; go_simp
         with_reducible rfl
        rotate_left
        ·simp only [Act.put, List.setIfInBounds_toArray, List.set_cons_zero, List.set_cons_succ, i64_w, i32_w]; rfl
        refine done_ (by kernel_rfl) ?_; have hnb50 := NB80015_80001.out; have hnc50 := NB80001_80015.out; have hcz51_0 : w49.cell? ⟨gb80015, 0, none⟩ = some (.int .i64 t80011) := (blk_cell BK80015.out 0).trans rfl; have hcz51_1 : w49.cell? ⟨gb80015, 1, none⟩ = some (.slice Ao30 t80012.length co30) := (blk_cell BK80015.out 1).trans rfl; have hfz51_0 := blk_frozen BK80015.out 0; have hfz51_1 := blk_frozen BK80015.out 1
        go_upto_region 18 with (first | ((with_reducible refine gate_callee (f := 21) rfl ?_); refine goesL_ (some 62) rfl rfl Tryd.func21 (by kernel_rfl) rfl #[.agg #[.int .i64 t80011, .slice Ao30 t80012.length co30], .int .i64 1] rfl zq_1 ?_; (with_reducible refine (laws_markPool.calls kj16 t80011 (fun k_ => some k_ = (.slice Ao30 t80012.length co30 : Value).ownBlock) (.slice Ao30 t80012.length co30) t80012 1 t80026 t80027 w _ ?side1 ?side2 A44.out).mono ?_); (case side1 => repeat (first | (with_reducible first | exact HB.out | apply below_alloc | apply pw_below_drewN | apply below_drew1 | refine below_set ?_ GE80001.out | refine below_set ?_ GE80015.out) | exact HB.out)); (case side2 => exact Kd.R_tight rfl HO_80016001.out); rintro e w52 ⟨rfl, hy0, hb, hkp⟩; refine ⟨_, rfl, ?_⟩; have n0_ := Aside0.mk (Kd.R_mono (ok' := fun k_ => some k_ ≠ (v80017 : Value).ownBlock) (Kd.R_keptB ((Kd.R_apart' HO_8.out (Kd.R_typed HO_80016001.out) (by decide))) hkp (fun k_ hk_ hs_ => (hk_.2) hs_)) (fun k_ hk_ => hk_.1.1)); have n1_ := Aside0.mk (Kd.R_mono (ok' := fun k_ => some k_ ≠ (v80008 : Value).ownBlock) (Kd.R_keptB ((Kd.R_apart' HO_11.out (Kd.R_typed HO_80016001.out) (by decide))) hkp (fun k_ hk_ hs_ => (hk_.2) hs_)) (fun k_ hk_ => hk_.1.1)); have n2_ := Aside0.mk (Kd.R_reok rfl hy0 (fun k_ e_ => HO_80016001.out.1 k_ e_)); have n3_ := Aside0.mk (blk_kept zq_15 hkp (fun hs_ => (fun e_ => (Kd.R_ne HO_80016001.out BK80001.out (by decide)) e_) hs_)); have n4_ := Aside0.mk (blk_kept zq_24 hkp (fun hs_ => (fun e_ => (Kd.R_ne HO_80016001.out BK80015.out (by decide)) e_) hs_)); have n5_ := Aside0.mk (Kd.R_mono (ok' := fun k_ => some k_ ≠ (.slice Ao30 t80012.length co30 : Value).ownBlock) (Kd.R_keptB (HO80024.out) hkp (fun k_ hk_ hs_ => (hk_.2) hs_)) (fun k_ hk_ => hk_.1.2)); have n6_ := Aside0.mk (hb); clear HO_8; clear HO_11; clear HO_80016001; clear BK80001; clear BK80015; clear HO80024; clear HB; have HO_8 := n0_; have HO_11 := n1_; have HO_80016001 := n2_; have BK80001 := n3_; have BK80015 := n4_; have HO80024 := n5_; have HB := n6_; clear n0_ n1_ n2_ n3_ n4_ n5_ n6_; (try clear hb); (try clear hkp); (try clear hy0)))
        (try simp only [Act.put, List.setIfInBounds_toArray, List.set_cons_zero, List.set_cons_succ])
        go_cut [75] (fun v75 wc => ∃ (kq : Nat) (x75_44 : Bool), v75 = .bool x75_44 ∧ Aside0 (laws_FnExactDiff.j1 kq a1 a2 t80007 t80010 t80016 x75_44 a0_0 l0_1 = some r) ∧ Aside0 (kq ≤ kj16) ∧ Aside0 (Kd.R k120 120 wc w.heap.size (fun k_ => some k_ ≠ (v80017 : Value).ownBlock) v80008 t80007) ∧ Aside0 (Kd.R k120 120 wc w.heap.size (fun k_ => some k_ ≠ (v80008 : Value).ownBlock) v80017 t80016) ∧ Aside0 (Kd.R Kd.string 9 wc w.heap.size (fun _ => True) (.slice Ao30 t80012.length co30) t80027) ∧ Aside0 (wc.heap[gb80001]? = some (.cells #[.int .i64 a0_0, (.slice A0_1 l0_1.length c0_1)] 34 (0, 0))) ∧ Aside0 (wc.heap[gb80015]? = some (.cells #[.int .i64 t80011, (.slice Ao30 t80012.length co30)] 38 (0, 0))) ∧ Aside0 (Below w.heap.size w wc))
        case first =>
         have H := HC45.out; clear HC45
         by_cases c53 : t80026 < 0
         ·rw [if_pos c53] at H; exact absurd H (by simp)
         ·rw [if_neg c53] at H; have c53b0 : decide (t80026 < 0) = false := decide_eq_false c53; clear c53; (first | rw [c53b0] | (simp only [i64_w, i32_w]; rw [c53b0]) | skip); replace H := Option.bind_eq_some_iff.mp H; obtain ⟨t80028, A540, H⟩ := H; (try dsimp only at H); have A54 := Aside0.mk A540; clear A540
          by_cases c55 : t80028 = true
          ·subst c55; have H1 : (laws_FnExactDiff.j1 kj16 a1 a2 t80007 t80010 t80016 (t80019 != t80010) a0_0 l0_1) = some r := by rw [if_pos rfl] at H; exact H
           clear H; have H := H1; clear H1; have H' := Aside0.mk H; clear H; obtain ⟨Ao56, co56, eo56⟩ := Kd.R_slice HO_11.out; subst eo56; obtain ⟨Ao57, co57, eo57⟩ := Kd.R_slice HO_8.out; subst eo57
           go_wp2_with (first | (go_at_call 33; (with_reducible refine (laws_eqChangeS.calls kj16 _ _ t80016 _ _ t80007 true _ ?side1 ?side2 ?side3 ?side4 A54.out).mono ?_); (case side1 => exact zq_56); (case side2 => exact (Kd.R_reads' HO_11.out).2.1); (case side3 => repeat (first | exact (Kd.R_reads' HO_8.out).2.2 | (with_reducible refine Kd.C_alloc ?_ _) | (with_reducible refine Kd.C_drewN ?_ _) | (with_reducible refine Kd.C_drew ?_))); (case side4 => exact (Kd.R_reads' HO_8.out).2.1); rintro e w58 ⟨rfl, hb⟩; have n0_ := Aside0.mk (Kd.R_below zq_26 hb); have n1_ := Aside0.mk (Kd.R_below zq_32 hb); have n2_ := Aside0.mk (Kd.R_below zq_29 hb); have n3_ := Aside0.mk (Kd.R_below (by (with_reducible repeat (first | apply Kd.R_alloc | apply Kd.R_drewN | apply Kd.R_drew)); exact HO80024.out) hb); have n4_ := Aside0.mk (blk_below (g := gb80001) (o := .cells #[.int .i64 a0_0, .slice A0_1 l0_1.length c0_1] 34 (0, 0)) zq_15 hb); have n5_ := Aside0.mk (blk_below (g := gb80015) (o := .cells #[.int .i64 t80011, .slice Ao30 t80012.length co30] 38 (0, 0)) zq_24 hb); have n6_ := Aside0.mk (below_step zq_10 hb); clear HO_8; clear HO_11; clear HO_80016001; clear HO80024; clear BK80001; clear BK80015; clear HB; have HO_8 := n0_; have HO_11 := n1_; have HO_80016001 := n2_; have HO80024 := n3_; have BK80001 := n4_; have BK80015 := n5_; have HB := n6_; clear n0_ n1_ n2_ n3_ n4_ n5_ n6_; (try clear hb); (try clear hb2); (try clear hk); (try clear hi)))
           go_meet
           case rel => exact ⟨_, ((t80019 != t80010)), zq_6, H', ⟨by have := HJ16.out; first | omega | exact Nat.le_refl _⟩, ⟨by (with_reducible repeat (first | apply Kd.R_alloc | apply Kd.R_drewN | apply Kd.R_drew)); exact HO_8.out⟩, ⟨by (with_reducible repeat (first | apply Kd.R_alloc | apply Kd.R_drewN | apply Kd.R_drew)); exact HO_11.out⟩, ⟨by (with_reducible repeat (first | apply Kd.R_alloc | apply Kd.R_drewN | apply Kd.R_drew)); exact Kd.R_mono HO_80016001.out (fun _ hk => trivial)⟩, ⟨by (with_reducible repeat (first | refine blk_drewN ?_ _ | refine blk_drew ?_ | refine blk_alloc ?_ _)); exact BK80001.out⟩, ⟨by (with_reducible repeat (first | refine blk_drewN ?_ _ | refine blk_drew ?_ | refine blk_alloc ?_ _)); exact BK80015.out⟩, ⟨by repeat (first | (with_reducible first | exact HB.out | apply below_alloc | apply pw_below_drewN | apply below_drew1 | refine below_set ?_ GE80001.out | refine below_set ?_ GE80015.out) | exact HB.out)⟩⟩
          ·replace c55 := Bool.eq_false_iff.mpr c55; subst c55; have H1 : (none) = some r := by rw [if_neg (show ¬ (false = true) by decide)] at H; exact H
           exact absurd H1 (by simp)
        case rest =>
         clear HC45
         try clear c1
         try clear c2
         try clear p2
         try clear c3
         try clear c4
         try clear c4b0
         try clear c4b1
         try clear c5
         try clear c6
         try clear c6b0
         try clear c6b1
         try clear c8
         try clear c9
         try clear c9b0
         try clear c16
         try clear c18
         try clear c20
         try clear c21
         try clear c28
         try clear c31
         try clear c32
         try clear c33
         try clear c40
         try clear c43
         try clear c50
         try clear c53
         try clear c53b0
         try clear c55
         try clear hcz11_0
         try clear hcz11_1
         try clear hcz19_0
         try clear hcz19_1
         try clear hcz21_0
         try clear hcz21_1
         try clear hcz25_0
         try clear hcz25_1
         try clear hcz29_0
         try clear hcz29_1
         try clear hcz51_0
         try clear hcz51_1
         try clear hfz11_0
         try clear hfz11_1
         try clear hfz19_0
         try clear hfz19_1
         try clear hfz21_0
         try clear hfz21_1
         try clear hfz25_0
         try clear hfz25_1
         try clear hfz29_0
         try clear hfz29_1
         try clear hfz51_0
         try clear hfz51_1
         try clear p2
         obtain ⟨kq, x75_44, rfl, HA, HJ44, HO_8, HO_11, HO_80016001, BK80001, BK80015, HB⟩ := hcut; have hl80016001_44 := (Kd.R_reads' HO_80016001.out).1; rw [hl80016001_44] at HO_80016001; (try simp only [hl80016001_44]); (try simp only [hl80016001_44] at BK80001); (try simp only [hl80016001_44] at BK80015); (try simp only [hl80016001_44] at HO_8); (try simp only [hl80016001_44] at HO_11)
         cases kq with
         | zero => exact absurd HA.out (by simp [laws_FnExactDiff.j1])
         | succ kj44 =>
          have H := HA.out; clear HA; simp only [laws_FnExactDiff.j1] at H
          by_cases c62 : x75_44 = true
          ·subst c62; have H1 : (none) = some r := by rw [if_pos rfl] at H; exact H
           exact absurd H1 (by simp)
          ·replace c62 := Bool.eq_false_iff.mpr c62; subst c62; have H1 : ((laws_markChangeS.f kj44 t80016 1).bind fun bt80029 => ((laws_heldChangeS.f kj44 bt80029.2 1).bind fun t80031 => (if t80031 < 0 then (none) else (if t80031 = bt80029.1 then ((laws_toPool.f kj44 a0_0 l0_1).bind fun bt80032 => ((impl_Diff.f kj44 bt80032.1 bt80032.2 a1 a2).bind fun bt80036 => ((laws_eqChangeS.f kj44 bt80036.1 t80007).bind fun t80040 => (if t80040 = true then (laws_FnExactDiff.j2 kj44 bt80029.2 bt80029.1 (bt80036.2 != t80010)) else (none))))) else (none))))) = some r := by rw [if_neg (show ¬ (false = true) by decide)] at H; exact H
           clear H; have H := H1; clear H1; replace H := Option.bind_eq_some_iff.mp H; obtain ⟨⟨t80029, t80030⟩, A630, H⟩ := H; (try dsimp only at H); have A63 := Aside0.mk A630; clear A630; replace H := Option.bind_eq_some_iff.mp H; obtain ⟨t80031, A640, H⟩ := H; (try dsimp only at H); have A64 := Aside0.mk A640; clear A640
           by_cases c65 : t80031 < 0
           ·rw [if_pos c65] at H; exact absurd H (by simp)
           ·rw [if_neg c65] at H; have c65b0 : decide (t80031 < 0) = false := decide_eq_false c65; clear c65
            by_cases c69 : t80031 = t80029
            ·rw [if_pos c69] at H; have c69b0 : (t80031 == t80029) = true := beq_iff_eq.mpr c69; have c69b1 : (t80031 != t80029) = false := bne_eq_false_iff_eq.mpr c69; clear c69; replace H := Option.bind_eq_some_iff.mp H; obtain ⟨⟨t80032, t80033⟩, A700, H⟩ := H; (try dsimp only at H); have A70 := Aside0.mk A700; clear A700; replace H := Option.bind_eq_some_iff.mp H; obtain ⟨⟨t80036, t80039⟩, A710, H⟩ := H; (try dsimp only at H); have A71 := Aside0.mk A710; clear A710; have HC72 := Aside0.mk H; clear H; obtain ⟨Ao73, co73, eo73⟩ := Kd.R_slice HO_11.out; subst eo73
             go_upto_region 29 with (first | ((with_reducible refine gate_callee (f := 34) rfl ?_); refine goesL_ (some 78) rfl rfl Tryd.func34 (by kernel_rfl) rfl #[.slice Ao73 t80016.length co73, .int .i64 1] rfl zq_1 ?_; (with_reducible refine (laws_markChangeS.calls kj44 (fun k_ => some k_ = (.slice Ao73 t80016.length co73 : Value).ownBlock) (.slice Ao73 t80016.length co73) t80016 1 t80029 t80030 w _ ?side1 ?side2 A63.out).mono ?_); (case side1 => repeat (first | (with_reducible first | exact HB.out | apply below_alloc | apply pw_below_drewN | apply below_drew1 | refine below_set ?_ GE80001.out | refine below_set ?_ GE80015.out) | exact HB.out)); (case side2 => exact Kd.R_tight rfl HO_11.out); rintro e w74 ⟨rfl, hy0, hb, hkp⟩; refine ⟨_, rfl, ?_⟩; have n0_ := Aside0.mk (Kd.R_mono (ok' := fun k_ => some k_ ≠ (.slice Ao73 t80016.length co73 : Value).ownBlock) (Kd.R_keptB (HO_8.out) hkp (fun k_ hk_ hs_ => (hk_) hs_)) (fun k_ hk_ => hk_.1)); have n1_ := Aside0.mk (Kd.R_reok rfl hy0 (fun k_ e_ => HO_11.out.1 k_ e_)); have n2_ := Aside0.mk (Kd.R_mono (ok' := fun k_ => True) (Kd.R_keptB ((Kd.R_apart' HO_80016001.out (Kd.R_typed HO_11.out) (by decide))) hkp (fun k_ hk_ hs_ => (hk_.2) hs_)) (fun k_ hk_ => trivial)); have n3_ := Aside0.mk (blk_kept zq_15 hkp (fun hs_ => (fun e_ => (Kd.R_ne HO_11.out BK80001.out (by decide)) e_) hs_)); have n4_ := Aside0.mk (blk_kept zq_24 hkp (fun hs_ => (fun e_ => (Kd.R_ne HO_11.out BK80015.out (by decide)) e_) hs_)); have n5_ := Aside0.mk (hb); clear HO_8; clear HO_11; clear HO_80016001; clear BK80001; clear BK80015; clear HB; have HO_8 := n0_; have HO_11 := n1_; have HO_80016001 := n2_; have BK80001 := n3_; have BK80015 := n4_; have HB := n5_; clear n0_ n1_ n2_ n3_ n4_ n5_; (try clear hb); (try clear hkp); (try clear hy0)) | ((with_reducible refine gate_callee (f := 35) rfl ?_); refine goesL_ (some 81) rfl rfl Tryd.func35 (by kernel_rfl) rfl #[.slice Ao73 t80030.length co73, .int .i64 1] rfl (by (try simp only [List.map_toArray, List.map_cons, List.map_nil]); first | done | (rw [show t80030.length = t80016.length from (Kd.R_reads' HO_11.out).1.symm] <;> rfl) | rfl | (simp only [List.length_drop, List.length_take]; rfl)) ?_; (with_reducible refine (laws_heldChangeS.calls kj44 _ _ t80030 1 t80031 _ ?side1 ?side2 A64.out).mono ?_); (case side1 => exact zq_56); (case side2 => rw [show t80030.length = t80016.length from (Kd.R_reads' HO_11.out).1.symm]; exact (Kd.R_reads' HO_11.out).2.1); rintro e w75 ⟨rfl, hb⟩; refine ⟨_, rfl, ?_⟩; have n0_ := Aside0.mk (Kd.R_below zq_26 hb); have n1_ := Aside0.mk (Kd.R_below zq_32 hb); have n2_ := Aside0.mk (Kd.R_below zq_29 hb); have n3_ := Aside0.mk (blk_below (g := gb80001) (o := .cells #[.int .i64 a0_0, .slice A0_1 l0_1.length c0_1] 34 (0, 0)) zq_15 hb); have n4_ := Aside0.mk (blk_below (g := gb80015) (o := .cells #[.int .i64 t80011, .slice Ao30 t80027.length co30] 38 (0, 0)) zq_24 hb); have n5_ := Aside0.mk (below_step zq_10 hb); clear HO_8; clear HO_11; clear HO_80016001; clear BK80001; clear BK80015; clear HB; have HO_8 := n0_; have HO_11 := n1_; have HO_80016001 := n2_; have BK80001 := n3_; have BK80015 := n4_; have HB := n5_; clear n0_ n1_ n2_ n3_ n4_ n5_; (try clear hb); (try clear hb2); (try clear hk); (try clear hi); have hnb76 := NB80001_80015.out; have hnc76 := NB80015_80001.out; have hcz77_0 : w75.cell? ⟨gb80001, 0, none⟩ = some (.int .i64 a0_0) := (blk_cell BK80001.out 0).trans rfl; have hcz77_1 : w75.cell? ⟨gb80001, 1, none⟩ = some (.slice A0_1 l0_1.length c0_1) := (blk_cell BK80001.out 1).trans rfl; have hfz77_0 := blk_frozen BK80001.out 0; have hfz77_1 := blk_frozen BK80001.out 1) | ((with_reducible refine gate_callee (f := 18) rfl ?_); refine goesL_ (some 89) rfl rfl Tryd.func18 (by kernel_rfl) rfl #[.agg #[.int .i64 a0_0, .slice A0_1 l0_1.length c0_1]] rfl zq_1 ?_; (with_reducible refine (laws_toPool.calls kj44 a0_0 _ _ l0_1 t80032 t80033 _ ?side1 ?side2 A70.out).mono ?_); (case side1 => exact zq_3); (case side2 => exact HC0_1.out); rintro e w78 ⟨v80034, rfl, ho0, hb⟩; refine ⟨_, rfl, ?_⟩; have n0_ := Aside0.mk (Kd.R_below zq_26 hb); have n1_ := Aside0.mk (Kd.R_below zq_32 hb); have n2_ := Aside0.mk (Kd.R_elder' zq_29 (Kd.R_base ho0) hb); have n3_ := Aside0.mk (Kd.R_lower (Kd.R_new' ho0 (Kd.R_lt zq_29)) (below_size zq_10)); have n4_ := Aside0.mk (blk_below (g := gb80001) (o := .cells #[.int .i64 a0_0, .slice A0_1 l0_1.length c0_1] 34 (0, 0)) zq_15 hb); have n5_ := Aside0.mk (blk_below (g := gb80015) (o := .cells #[.int .i64 t80011, .slice Ao30 t80027.length co30] 38 (0, 0)) zq_24 hb); have n6_ := Aside0.mk (below_step zq_10 hb); clear HO_8; clear HO_11; clear HO_80016001; clear BK80001; clear BK80015; clear HB; have HO_8 := n0_; have HO_11 := n1_; have HO_80016001 := n2_; have HO80035 := n3_; have BK80001 := n4_; have BK80015 := n5_; have HB := n6_; clear n0_ n1_ n2_ n3_ n4_ n5_ n6_; (try clear hb); (try clear hb2); (try clear hk); (try clear hi); (try clear ho0); obtain ⟨Ao79, co79, eo79⟩ := Kd.R_slice HO80035.out; subst eo79) | ((with_reducible refine gate_callee (f := 32) rfl ?_); refine goesL_ (some 92) rfl rfl Tryd.func32 (by kernel_rfl) rfl #[.agg #[.int .i64 t80032, .slice Ao79 t80033.length co79], .string a1, .string a2] rfl zq_1 ?_; (with_reducible refine (impl_Diff.calls kj44 t80032 _ _ t80033 a1 a2 t80036 t80039 _ ?side1 ?side2 A71.out).mono ?_); (case side1 => repeat (first | exact (Kd.R_reads' HO80035.out).2.2 | (with_reducible refine Kd.C_alloc ?_ _) | (with_reducible refine Kd.C_drewN ?_ _) | (with_reducible refine Kd.C_drew ?_))); (case side2 => exact (Kd.R_reads' HO80035.out).2.1); rintro e w80 ⟨v80037, rfl, ho0, hb⟩; refine ⟨_, rfl, ?_⟩; have n0_ := Aside0.mk (Kd.R_elder' zq_26 (Kd.R_base ho0) hb); have n1_ := Aside0.mk (Kd.R_elder' zq_32 (Kd.R_base ho0) hb); have n2_ := Aside0.mk (Kd.R_below zq_29 hb); have n3_ := Aside0.mk (Kd.R_below (by (with_reducible repeat (first | apply Kd.R_alloc | apply Kd.R_drewN | apply Kd.R_drew)); exact HO80035.out) hb); have n4_ := Aside0.mk (Kd.R_lower (Kd.R_new' (Kd.R_new' ho0 (Kd.R_lt zq_26)) (Kd.R_lt zq_32)) (below_size zq_10)); have n5_ := Aside0.mk (blk_below (g := gb80001) (o := .cells #[.int .i64 a0_0, .slice A0_1 l0_1.length c0_1] 34 (0, 0)) zq_15 hb); have n6_ := Aside0.mk (blk_below (g := gb80015) (o := .cells #[.int .i64 t80011, .slice Ao30 t80027.length co30] 38 (0, 0)) zq_24 hb); have n7_ := Aside0.mk (below_step zq_10 hb); clear HO_8; clear HO_11; clear HO_80016001; clear HO80035; clear BK80001; clear BK80015; clear HB; have HO_8 := n0_; have HO_11 := n1_; have HO_80016001 := n2_; have HO80035 := n3_; have HO80038 := n4_; have BK80001 := n5_; have BK80015 := n6_; have HB := n7_; clear n0_ n1_ n2_ n3_ n4_ n5_ n6_ n7_; (try clear hb); (try clear hb2); (try clear hk); (try clear hi); (try clear ho0)))
             (try simp only [Act.put, List.setIfInBounds_toArray, List.set_cons_zero, List.set_cons_succ])
             go_cut [103] (fun v103 wc => ∃ (kq : Nat) (x103_71 : Bool), v103 = .bool x103_71 ∧ Aside0 (laws_FnExactDiff.j2 kq t80030 t80029 x103_71 = some r) ∧ Aside0 (kq ≤ kj44) ∧ Aside0 (Kd.R k120 120 wc w.heap.size (fun _ => True) (.slice Ao73 t80016.length co73) t80030) ∧ Aside0 (Kd.R Kd.string 9 wc w.heap.size (fun _ => True) (.slice Ao30 t80027.length co30) t80027) ∧ Aside0 (wc.heap[gb80001]? = some (.cells #[.int .i64 a0_0, (.slice A0_1 l0_1.length c0_1)] 34 (0, 0))) ∧ Aside0 (wc.heap[gb80015]? = some (.cells #[.int .i64 t80011, (.slice Ao30 t80027.length co30)] 38 (0, 0))) ∧ Aside0 (Below w.heap.size w wc))
             case first =>
              have H := HC72.out; clear HC72; replace H := Option.bind_eq_some_iff.mp H; obtain ⟨t80040, A810, H⟩ := H; (try dsimp only at H); have A81 := Aside0.mk A810; clear A810
              by_cases c82 : t80040 = true
              ·subst c82; have H1 : (laws_FnExactDiff.j2 kj44 t80030 t80029 (t80039 != t80010)) = some r := by rw [if_pos rfl] at H; exact H
               clear H; have H := H1; clear H1; have H' := Aside0.mk H; clear H; obtain ⟨Ao83, co83, eo83⟩ := Kd.R_slice HO80038.out; subst eo83; obtain ⟨Ao84, co84, eo84⟩ := Kd.R_slice HO_8.out; subst eo84
               go_wp2_with (first | ((with_reducible refine gate_callee (f := 33) rfl ?_); refine goesL_ (some 97) rfl rfl Tryd.func33 (by kernel_rfl) rfl #[.slice Ao83 t80036.length co83, .slice Ao84 t80007.length co84] rfl zq_1 ?_; (with_reducible refine (laws_eqChangeS.calls kj44 _ _ t80036 _ _ t80007 true _ ?side1 ?side2 ?side3 ?side4 A81.out).mono ?_); (case side1 => repeat (first | exact (Kd.R_reads' HO80038.out).2.2 | (with_reducible refine Kd.C_alloc ?_ _) | (with_reducible refine Kd.C_drewN ?_ _) | (with_reducible refine Kd.C_drew ?_))); (case side2 => exact (Kd.R_reads' HO80038.out).2.1); (case side3 => repeat (first | exact (Kd.R_reads' HO_8.out).2.2 | (with_reducible refine Kd.C_alloc ?_ _) | (with_reducible refine Kd.C_drewN ?_ _) | (with_reducible refine Kd.C_drew ?_))); (case side4 => exact (Kd.R_reads' HO_8.out).2.1); rintro e w85 ⟨rfl, hb⟩; refine ⟨_, rfl, ?_⟩; have n0_ := Aside0.mk (Kd.R_below zq_26 hb); have n1_ := Aside0.mk (Kd.R_below zq_32 hb); have n2_ := Aside0.mk (Kd.R_below zq_29 hb); have n3_ := Aside0.mk (Kd.R_below (by (with_reducible repeat (first | apply Kd.R_alloc | apply Kd.R_drewN | apply Kd.R_drew)); exact HO80035.out) hb); have n4_ := Aside0.mk (Kd.R_below (by (with_reducible repeat (first | apply Kd.R_alloc | apply Kd.R_drewN | apply Kd.R_drew)); exact HO80038.out) hb); have n5_ := Aside0.mk (blk_below (g := gb80001) (o := .cells #[.int .i64 a0_0, .slice A0_1 l0_1.length c0_1] 34 (0, 0)) zq_15 hb); have n6_ := Aside0.mk (blk_below (g := gb80015) (o := .cells #[.int .i64 t80011, .slice Ao30 t80027.length co30] 38 (0, 0)) zq_24 hb); have n7_ := Aside0.mk (below_step zq_10 hb); clear HO_8; clear HO_11; clear HO_80016001; clear HO80035; clear HO80038; clear BK80001; clear BK80015; clear HB; have HO_8 := n0_; have HO_11 := n1_; have HO_80016001 := n2_; have HO80035 := n3_; have HO80038 := n4_; have BK80001 := n5_; have BK80015 := n6_; have HB := n7_; clear n0_ n1_ n2_ n3_ n4_ n5_ n6_ n7_; (try clear hb); (try clear hb2); (try clear hk); (try clear hi)))
               go_meet
               case rel => exact ⟨_, ((t80039 != t80010)), zq_6, H', ⟨by have := HJ16.out; have := HJ44.out; first | omega | exact Nat.le_refl _⟩, ⟨by (try simp only [hl80016001_44]); (with_reducible repeat (first | apply Kd.R_alloc | apply Kd.R_drewN | apply Kd.R_drew)); exact Kd.R_mono HO_11.out (fun _ hk => trivial)⟩, ⟨by (try simp only [hl80016001_44]); (with_reducible repeat (first | apply Kd.R_alloc | apply Kd.R_drewN | apply Kd.R_drew)); exact Kd.R_mono HO_80016001.out (fun _ hk => trivial)⟩, ⟨by (try simp only [hl80016001_44]); (with_reducible repeat (first | refine blk_drewN ?_ _ | refine blk_drew ?_ | refine blk_alloc ?_ _)); exact BK80001.out⟩, ⟨by (try simp only [hl80016001_44]); (with_reducible repeat (first | refine blk_drewN ?_ _ | refine blk_drew ?_ | refine blk_alloc ?_ _)); exact BK80015.out⟩, ⟨by repeat (first | (with_reducible first | exact HB.out | apply below_alloc | apply pw_below_drewN | apply below_drew1 | refine below_set ?_ GE80001.out | refine below_set ?_ GE80015.out) | exact HB.out)⟩⟩
              ·replace c82 := Bool.eq_false_iff.mpr c82; subst c82; have H1 : (none) = some r := by rw [if_neg (show ¬ (false = true) by decide)] at H; exact H
               exact absurd H1 (by simp)
             case rest =>
              clear HC72
              try clear c1
              try clear c2
              try clear p2
              try clear c3
              try clear c4
              try clear c4b0
              try clear c4b1
              try clear c5
              try clear c6
              try clear c6b0
              try clear c6b1
              try clear c7
              try clear c8
              try clear c9
              try clear c9b0
              try clear c16
              try clear c18
              try clear c20
              try clear c21
              try clear c28
              try clear c31
              try clear c32
              try clear c33
              try clear c34
              try clear c35
              try clear c40
              try clear c43
              try clear c50
              try clear c53
              try clear c53b0
              try clear c55
              try clear c62
              try clear c65
              try clear c65b0
              try clear c69
              try clear c69b0
              try clear c69b1
              try clear c76
              try clear c82
              try clear hcz11_0
              try clear hcz11_1
              try clear hcz19_0
              try clear hcz19_1
              try clear hcz21_0
              try clear hcz21_1
              try clear hcz25_0
              try clear hcz25_1
              try clear hcz29_0
              try clear hcz29_1
              try clear hcz51_0
              try clear hcz51_1
              try clear hcz77_0
              try clear hcz77_1
              try clear hfz11_0
              try clear hfz11_1
              try clear hfz19_0
              try clear hfz19_1
              try clear hfz21_0
              try clear hfz21_1
              try clear hfz25_0
              try clear hfz25_1
              try clear hfz29_0
              try clear hfz29_1
              try clear hfz51_0
              try clear hfz51_1
              try clear hfz77_0
              try clear hfz77_1
              try clear p2
              obtain ⟨kq, x103_71, rfl, HA, HJ71, HO_11, HO_80016001, BK80001, BK80015, HB⟩ := hcut; have hl11_71 := (Kd.R_reads' HO_11.out).1; rw [hl11_71] at HO_11; (try simp only [hl11_71]); (try simp only [hl11_71] at BK80001); (try simp only [hl11_71] at BK80015); (try simp only [hl11_71] at HO_80016001)
              cases kq with
              | zero => exact absurd HA.out (by simp [laws_FnExactDiff.j2])
              | succ kj71 =>
               have H := HA.out; clear HA; simp only [laws_FnExactDiff.j2] at H
               by_cases c89 : x103_71 = true
               ·subst c89; have H1 : (none) = some r := by rw [if_pos rfl] at H; exact H
                exact absurd H1 (by simp)
               ·replace c89 := Bool.eq_false_iff.mpr c89; subst c89; have H1 : ((laws_heldChangeS.f kj71 t80030 1).bind fun t80041 => (if t80041 < 0 then (none) else (if t80041 = t80029 then (some true) else (none)))) = some r := by rw [if_neg (show ¬ (false = true) by decide)] at H; exact H
                clear H; have H := H1; clear H1; replace H := Option.bind_eq_some_iff.mp H; obtain ⟨t80041, A900, H⟩ := H; (try dsimp only at H); have A90 := Aside0.mk A900; clear A900
                by_cases c91 : t80041 < 0
                ·rw [if_pos c91] at H; exact absurd H (by simp)
                ·rw [if_neg c91] at H; have c91b0 : decide (t80041 < 0) = false := decide_eq_false c91; clear c91
                 by_cases c93 : t80041 = t80029
                 ·rw [if_pos c93] at H; have c93b0 : (t80041 == t80029) = true := beq_iff_eq.mpr c93; have c93b1 : (t80041 != t80029) = false := bne_eq_false_iff_eq.mpr c93; clear c93; obtain rfl := Option.some.inj H
                  go_wp2_with (first | ((with_reducible refine gate_callee (f := 35) rfl ?_); refine goesL_ (some 106) rfl rfl Tryd.func35 (by kernel_rfl) rfl #[.slice Ao73 t80030.length co73, .int .i64 1] rfl zq_1 ?_; (with_reducible refine (laws_heldChangeS.calls kj71 _ _ t80030 1 t80041 _ ?side1 ?side2 A90.out).mono ?_); (case side1 => exact zq_56); (case side2 => exact (Kd.R_reads' HO_11.out).2.1); rintro e w94 ⟨rfl, hb⟩; refine ⟨_, rfl, ?_⟩; have n0_ := Aside0.mk (Kd.R_below zq_32 hb); have n1_ := Aside0.mk (Kd.R_below zq_29 hb); have n2_ := Aside0.mk (blk_below (g := gb80001) (o := .cells #[.int .i64 a0_0, .slice A0_1 l0_1.length c0_1] 34 (0, 0)) zq_15 hb); have n3_ := Aside0.mk (blk_below (g := gb80015) (o := .cells #[.int .i64 t80011, .slice Ao30 t80027.length co30] 38 (0, 0)) zq_24 hb); have n4_ := Aside0.mk (below_step zq_10 hb); clear HO_11; clear HO_80016001; clear BK80001; clear BK80015; clear HB; have HO_11 := n0_; have HO_80016001 := n1_; have BK80001 := n2_; have BK80015 := n3_; have HB := n4_; clear n0_ n1_ n2_ n3_ n4_; (try clear hb); (try clear hb2); (try clear hk); (try clear hi)))
                  go_ret
                  exact ⟨by first | rfl | (simp [errW_none, errW_some] <;> rfl) | (simp [*, errW_none, errW_some] <;> rfl), by repeat (first | (with_reducible first | exact HB.out | apply below_alloc | apply pw_below_drewN | apply below_drew1 | refine below_set ?_ GE80001.out | refine below_set ?_ GE80015.out) | exact HB.out)⟩
                 ·rw [if_neg c93] at H; exact absurd H (by simp)
            ·rw [if_neg c69] at H; exact absurd H (by simp)
       ·replace c43 := Bool.eq_false_iff.mpr c43; subst c43; have H1 : (none) = some r := by rw [if_neg (show ¬ (false = true) by decide)] at H; exact H
        exact absurd H1 (by simp)
end Go.Proofs.YthnnphinfiobmaaDoor.Z
end
section
namespace Go.Proofs.YthnnphinfiobmaaDoor.Z
open RowKit YthnnphinfiobmaaDoor YthnnphinfiobmaaDoorW.PrintWords YthnnphinfiobmaaDoorW.PrintLast
set_option linter.all false
theorem l2HashOk_f (a : ByteArray) (W : Int) : spec_l2HashOk.f a W = some (decide ((a.size : Int) = 0 ∨ (a.size : Int) = W)) := by
 unfold spec_l2HashOk.f
 by_cases h : (a.size : Int) = 0
 ·rw [if_pos h, decide_eq_true (.inl h)]
 ·rw [if_neg h]
  by_cases h2 : (a.size : Int) = W
  ·rw [beq_iff_eq.2 h2, decide_eq_true (.inr h2)]
  ·rw [beq_eq_false_iff_ne.2 h2, decide_eq_false (fun g => by rcases g with g | g; exact h g; exact h2 g)]
theorem spec_Range_f (W : Int) (l : List ByteArray) (root lo hi : ByteArray) (hl : small l) (hlo : lo.size ≤ 1048576) (hhi : hi.size ≤ 1048576) (k : Nat) (hk : 2200000 < k) : spec_Range.f k W l root lo hi = some (rangeR W l root lo hi) := by
 obtain ⟨k, rfl⟩ : ∃ j, k = j + 1 := ⟨k - 1, by omega⟩
 unfold spec_Range.f rangeR; rw [Option.bind_some, l3PoolOk_f, Option.bind_some]
 cases hv : poolOk W l
 ·rw [if_neg (by decide), if_neg (by simp)]; simp only [spec_Range.j0, if_true]
 rw [if_pos rfl, l2HashOk_f, Option.bind_some]; have h1 := poolOk_iff.1 hv; obtain ⟨n, rfl⟩ : ∃ n : Nat, W = (n : Int) := ⟨W.toNat, by omega⟩
 rw [Int.toNat_natCast]
 by_cases hr : (root.size : Int) = 0 ∨ (root.size : Int) = (n : Int)
 ·have hg := walkG_some n l root lo hi; rw [decide_eq_true hr, if_pos ⟨rfl, by rw [emp_size, decide_eq_true_eq]; exact hr⟩]; simp only [spec_Range.j0, Bool.not_true, Bool.false_eq_true, if_false]; rw [l3Hashes_f _ l hl k (by omega), Option.bind_some]; unfold spec_l4Go.f; rw [if_pos ⟨hl, by omega, by omega, rfl, by omega, by decide, by decide, by decide, hlo, hhi, by omega, by omega⟩, Int.toNat_natCast, hg, Option.map_some, Option.bind_some]; obtain ⟨⟨ps, s, c⟩, hw⟩ : ∃ r, walkG n l root lo hi = r := ⟨_, rfl⟩
  rw [hw]
  by_cases hc : c = 0
  ·subst hc; rfl
  ·rw [specR_bad hc]; dsimp only; rw [if_neg hc, if_pos hc]
 ·rw [decide_eq_false hr, if_neg (fun g => hr (by have := g.2; rw [emp_size, decide_eq_true_eq] at this; exact this))]; simp only [spec_Range.j0, Bool.not_false, if_true]
theorem less_neg : ∀ x y z : List UInt8, Op.bytesLess x y = false → Op.bytesLess y z = false → Op.bytesLess x z = false
 | [], _, [], _, _ => rfl
 | _ :: _, _, [], _, _ => rfl
 | [], [], _ :: _, _, h => by simp [Op.bytesLess] at h
 | [], _ :: _, _ :: _, h, _ => by simp [Op.bytesLess] at h
 | a :: x, [], c :: z, _, h => by simp [Op.bytesLess] at h
 | a :: x, b :: y, c :: z, h1, h2 => by
  have ih := less_neg x y z; simp only [Op.bytesLess, Bool.or_eq_false_iff, Bool.and_eq_false_imp, decide_eq_false_iff_not, beq_iff_eq, UInt8.lt_iff_toNat_lt] at h1 h2 ⊢; have inj : ∀ p q : UInt8, p = q ↔ p.toNat = q.toNat := fun p q => UInt8.toNat_inj.symm
  refine ⟨by omega, fun e => ?_⟩; have e' := (inj _ _).1 e; have e1 : a = b := (inj _ _).2 (by omega); have e2 : b = c := (inj _ _).2 (by omega); exact ih (h1.2 e1) (h2.2 e2)
theorem less_asym : ∀ x y : List UInt8, Op.bytesLess x y = true → Op.bytesLess y x = false
 | [], [], h => by simp [Op.bytesLess] at h
 | [], _ :: _, _ => rfl
 | _ :: _, [], h => by simp [Op.bytesLess] at h
 | a :: x, b :: y, h => by
  have ih := less_asym x y; simp only [Op.bytesLess, Bool.or_eq_false_iff, Bool.and_eq_false_imp, decide_eq_false_iff_not, beq_iff_eq, UInt8.lt_iff_toNat_lt, Bool.or_eq_true, Bool.and_eq_true, decide_eq_true_eq] at h ⊢; have inj : ∀ p q : UInt8, p = q ↔ p.toNat = q.toNat := fun p q => UInt8.toNat_inj.symm
  rcases h with h | ⟨h, h2⟩
  ·refine ⟨by omega, fun e => ?_⟩; have := (inj _ _).1 e; omega
  ·have e := (inj _ _).1 h; exact ⟨by omega, fun _ => ih h2⟩
theorem less_lt (x y z : List UInt8) (h1 : Op.bytesLess x y = true) (h2 : Op.bytesLess y z = true) : Op.bytesLess x z = true := by
 cases h : Op.bytesLess x z with
 | true => rfl
 | false => rw [less_neg x z y h (less_asym _ _ h2)] at h1; cases h1
def ltK (a b : ByteArray) : Bool := Op.bytesLess a.toList b.toList
theorem ltK_irr (a : ByteArray) : ltK a a = false := by
 unfold ltK
 cases h : Op.bytesLess a.toList a.toList
 ·rfl
 ·have := less_asym _ _ h; rw [h] at this; exact this
theorem ltK_ne {a b : ByteArray} (h : ltK a b = true) : a ≠ b := fun e => by rw [e, ltK_irr] at h; exact absurd h (by decide)
theorem ltK_tr {a b c : ByteArray} (h1 : ltK a b = true) (h2 : ltK b c = true) : ltK a c = true := less_lt _ _ _ h1 h2
theorem ltK_as {a b : ByteArray} (h : ltK a b = true) : ltK b a = false := less_asym _ _ h
theorem listK {a b : ByteArray} : a.toList = b.toList ↔ a = b := ⟨fun h => by rw [ByteArray.toList_eq, ByteArray.toList_eq] at h; exact ByteArray.ext (Array.toList_inj.mp h), fun h => by rw [h]⟩
theorem ltK_tri {a b : ByteArray} (h1 : ltK a b = false) (h2 : ltK b a = false) : a = b := by
 by_cases h : a.toList = b.toList
 ·exact listK.1 h
 ·have := bytesLess_swap _ _ h; unfold ltK at h1 h2; rw [h1, h2] at this; exact absurd this (by decide)
def Srt (l : List ByteArray) : Prop := l.Pairwise (fun a b => ltK a b = true)
theorem Srt.ext : ∀ {a b : List ByteArray}, Srt a → Srt b → (∀ x, x ∈ a ↔ x ∈ b) → a = b
 | [], [], _, _, _ => rfl
 | [], b :: r, _, _, h => absurd ((h b).2 (by simp)) (by simp)
 | a :: r, [], _, _, h => absurd ((h a).1 (by simp)) (by simp)
 | a :: r, b :: s, ha, hb, h => by
  have ha' := List.pairwise_cons.1 ha; have hb' := List.pairwise_cons.1 hb; have e : a = b := by
   have h1 := (h a).1 (by simp); have h2 := (h b).2 (by simp)
   rcases List.mem_cons.1 h1 with h1 | h1
   ·exact h1
   rcases List.mem_cons.1 h2 with h2 | h2
   ·exact h2.symm
   have := ltK_as (hb'.1 a h1); rw [ha'.1 b h2] at this; exact absurd this (by decide)
  subst e; rw [Srt.ext ha'.2 hb'.2 (fun x => ⟨fun hx => by
   rcases List.mem_cons.1 ((h x).1 (List.mem_cons_of_mem _ hx)) with g | g
   ·exact absurd g.symm (ltK_ne (ha'.1 x hx))
   ·exact g, fun hx => by
   rcases List.mem_cons.1 ((h x).2 (List.mem_cons_of_mem _ hx)) with g | g
   ·exact absurd g.symm (ltK_ne (hb'.1 x hx))
   ·exact g⟩)]
def insP (k v : ByteArray) : List S65 → List S65
 | [] => [⟨k, v⟩]
 | a :: r => if ltK k a.f0 = true then ⟨k, v⟩ :: a :: r else a :: insP k v r
def outP (k : ByteArray) (l : List S65) : List S65 := l.filter (fun a => !decide (a.f0 = k))
def withP (l : List S65) (k v : ByteArray) : List S65 := insP k v (outP k l)
def keysP (l : List S65) : List ByteArray := l.map (fun a => a.f0)
theorem insP_mem (k v : ByteArray) : ∀ (l : List S65) (x : ByteArray), x ∈ keysP (insP k v l) ↔ x = k ∨ x ∈ keysP l
 | [], x => by simp [insP, keysP]
 | a :: r, x => by
  unfold insP
  split
  ·simp [keysP]
  ·have := insP_mem k v r x; simp only [keysP, List.map_cons, List.mem_cons] at this ⊢; rw [this]; exact or_left_comm
theorem insP_srt (k v : ByteArray) : ∀ (l : List S65), Srt (keysP l) → k ∉ keysP l → Srt (keysP (insP k v l))
 | [], _, _ => by simp [insP, keysP, Srt]
 | a :: r, h, hk => by
  have h' := List.pairwise_cons.1 h; have hk2 : k ∉ keysP r := fun g => hk (List.mem_cons_of_mem _ g)
  have hk1 : ¬ k = a.f0 := fun g => hk (by rw [g]; exact List.mem_cons_self)
  unfold insP
  split
  ·rename_i hl
   refine List.pairwise_cons.2 ⟨fun x hx => ?_, h⟩
   rcases List.mem_cons.1 hx with g | g
   ·rw [g]; exact hl
   ·exact ltK_tr hl (h'.1 x g)
  ·rename_i hl
   refine List.pairwise_cons.2 ⟨fun x hx => ?_, insP_srt k v r h'.2 hk2⟩
   rcases (insP_mem k v r x).1 hx with g | g
   ·rw [g]
    cases hq : ltK a.f0 k
    ·exact absurd (ltK_tri (by simpa using hl) hq) hk1
    ·rfl
   ·exact h'.1 x g
theorem outP_mem (k : ByteArray) (l : List S65) (x : ByteArray) : x ∈ keysP (outP k l) ↔ x ∈ keysP l ∧ x ≠ k := by
 unfold keysP outP; simp only [List.mem_map, List.mem_filter, Bool.not_eq_true', decide_eq_false_iff_not]
 constructor
 ·rintro ⟨a, ⟨h1, h2⟩, rfl⟩; exact ⟨⟨a, h1, rfl⟩, h2⟩
 ·rintro ⟨⟨a, h1, rfl⟩, h2⟩; exact ⟨a, ⟨h1, h2⟩, rfl⟩
theorem outP_srt (k : ByteArray) (l : List S65) (h : Srt (keysP l)) : Srt (keysP (outP k l)) :=
 List.Pairwise.sublist (List.Sublist.map _ List.filter_sublist) h
theorem withP_mem (l : List S65) (k v x : ByteArray) : x ∈ keysP (withP l k v) ↔ x = k ∨ x ∈ keysP l := by
 unfold withP; rw [insP_mem, outP_mem]
 by_cases h : x = k
 ·simp [h]
 ·simp [h]
theorem withP_srt (l : List S65) (k v : ByteArray) (h : Srt (keysP l)) : Srt (keysP (withP l k v)) :=
 insP_srt k v _ (outP_srt k l h) (fun g => ((outP_mem k l k).1 g).2 rfl)
def allP (ps : List S65) : List S65 → List S65
 | [] => ps
 | q :: qs => allP (withP ps q.f0 ⟨#[]⟩) qs
theorem allP_srt : ∀ (qs ps : List S65), Srt (keysP ps) → Srt (keysP (allP ps qs))
 | [], ps, h => h
 | q :: qs, ps, h => allP_srt qs _ (withP_srt ps _ _ h)
theorem allP_mem : ∀ (qs ps : List S65) (x : ByteArray), x ∈ keysP (allP ps qs) ↔ x ∈ keysP ps ∨ x ∈ keysP qs
 | [], ps, x => by simp [allP, keysP]
 | q :: qs, ps, x => by
  rw [allP, allP_mem qs _ x, withP_mem]; simp only [keysP, List.map_cons, List.mem_cons]
  constructor
  ·rintro ((h | h) | h)
   ·exact .inr (.inl h)
   ·exact .inl h
   ·exact .inr (.inr h)
  ·rintro (h | h | h)
   ·exact .inl (.inr h)
   ·exact .inl (.inl h)
   ·exact .inr h
theorem insP_len (k v : ByteArray) : ∀ (l : List S65), (insP k v l).length = l.length + 1
 | [] => rfl
 | a :: r => by
  unfold insP
  split
  ·rfl
  ·rw [List.length_cons, insP_len k v r]; rfl
theorem withP_len (l : List S65) (k v : ByteArray) : (withP l k v).length ≤ l.length + 1 := by
 unfold withP outP; rw [insP_len]; exact Nat.succ_le_succ (List.length_filter_le _ _)
def getP : List S65 → ByteArray → ByteArray × Bool
 | [], _ => (⟨#[]⟩, false)
 | a :: r, k => if a.f0 = k then (a.f1, true) else getP r k
theorem getP_none : ∀ (l : List S65) (k : ByteArray), k ∉ keysP l → getP l k = (⟨#[]⟩, false)
 | [], _, _ => rfl
 | a :: r, k, h => by
  rw [getP, if_neg (fun g => h (by rw [← g]; exact List.mem_cons_self)), getP_none r k (fun g => h (List.mem_cons_of_mem _ g))]
def chgAt (ps qs : List S65) (k : ByteArray) : Option S120 :=
 if ((getP ps k).2 != (getP qs k).2) = true then some ⟨k, (getP ps k).2, (getP ps k).1, (getP qs k).2, (getP qs k).1⟩
 else if (getP ps k).1 = (getP qs k).1 then none else some ⟨k, (getP ps k).2, (getP ps k).1, (getP qs k).2, (getP qs k).1⟩
def chgP : List S65 → List S65 → List S120
 | [], [] => []
 | p :: ps, [] => ⟨p.f0, true, p.f1, false, ⟨#[]⟩⟩ :: chgP ps []
 | [], q :: qs => ⟨q.f0, false, ⟨#[]⟩, true, q.f1⟩ :: chgP [] qs
 | p :: ps, q :: qs =>
  if ltK p.f0 q.f0 = true then ⟨p.f0, true, p.f1, false, ⟨#[]⟩⟩ :: chgP ps (q :: qs)
  else if ltK q.f0 p.f0 = true then ⟨q.f0, false, ⟨#[]⟩, true, q.f1⟩ :: chgP (p :: ps) qs
  else if p.f1 = q.f1 then chgP ps qs else ⟨p.f0, true, p.f1, true, q.f1⟩ :: chgP ps qs
termination_by ps qs => ps.length + qs.length
def mrgK : List S65 → List S65 → List ByteArray
 | [], [] => []
 | p :: ps, [] => p.f0 :: mrgK ps []
 | [], q :: qs => q.f0 :: mrgK [] qs
 | p :: ps, q :: qs =>
  if ltK p.f0 q.f0 = true then p.f0 :: mrgK ps (q :: qs)
  else if ltK q.f0 p.f0 = true then q.f0 :: mrgK (p :: ps) qs
  else p.f0 :: mrgK ps qs
termination_by ps qs => ps.length + qs.length
theorem keysP_cons (a : S65) (l : List S65) : keysP (a :: l) = a.f0 :: keysP l := rfl
theorem mrgK_mem (ps qs : List S65) (x : ByteArray) : x ∈ mrgK ps qs ↔ x ∈ keysP ps ∨ x ∈ keysP qs := by
 induction ps, qs using mrgK.induct with
 | case1 => simp [mrgK, keysP]
 | case2 p ps ih => rw [mrgK, List.mem_cons, ih, keysP_cons, List.mem_cons, or_assoc]
 | case3 q qs ih => rw [mrgK, List.mem_cons, ih, keysP_cons, List.mem_cons, or_left_comm]
 | case4 p ps q qs h ih => rw [mrgK, if_pos h, List.mem_cons, ih, keysP_cons p, List.mem_cons, or_assoc]
 | case5 p ps q qs h h2 ih => rw [mrgK, if_neg h, if_pos h2, List.mem_cons, ih, keysP_cons q, List.mem_cons, or_left_comm]
 | case6 p ps q qs h h2 ih =>
  have e : p.f0 = q.f0 := ltK_tri (by simpa using h) (by simpa using h2); rw [mrgK, if_neg h, if_neg h2, List.mem_cons, ih, keysP_cons, keysP_cons, List.mem_cons, List.mem_cons, e]
  constructor
  ·rintro (h | h | h)
   ·exact .inl (.inl h)
   ·exact .inl (.inr h)
   ·exact .inr (.inr h)
  ·rintro ((h | h) | h | h)
   ·exact .inl h
   ·exact .inr (.inl h)
   ·exact .inl h
   ·exact .inr (.inr h)
theorem mrgK_srt (ps qs : List S65) (h1 : Srt (keysP ps)) (h2 : Srt (keysP qs)) : Srt (mrgK ps qs) := by
 induction ps, qs using mrgK.induct with
 | case1 => rw [mrgK]; exact List.Pairwise.nil
 | case2 p ps ih =>
  have h1' := List.pairwise_cons.1 h1; rw [mrgK]; refine List.pairwise_cons.2 ⟨fun x hx => ?_, ih h1'.2 h2⟩
  rcases (mrgK_mem _ _ x).1 hx with g | g
  ·exact h1'.1 x g
  ·simp [keysP] at g
 | case3 q qs ih =>
  have h2' := List.pairwise_cons.1 h2; rw [mrgK]; refine List.pairwise_cons.2 ⟨fun x hx => ?_, ih h1 h2'.2⟩
  rcases (mrgK_mem _ _ x).1 hx with g | g
  ·simp [keysP] at g
  ·exact h2'.1 x g
 | case4 p ps q qs h ih =>
  have h1' := List.pairwise_cons.1 h1; have h2' := List.pairwise_cons.1 h2; rw [mrgK, if_pos h]; refine List.pairwise_cons.2 ⟨fun x hx => ?_, ih h1'.2 h2⟩
  rcases (mrgK_mem _ _ x).1 hx with g | g
  ·exact h1'.1 x g
  ·rcases List.mem_cons.1 g with g | g
   ·rw [g]; exact h
   ·exact ltK_tr h (h2'.1 x g)
 | case5 p ps q qs h h' ih =>
  have h1' := List.pairwise_cons.1 h1; have h2' := List.pairwise_cons.1 h2; rw [mrgK, if_neg h, if_pos h']; refine List.pairwise_cons.2 ⟨fun x hx => ?_, ih h1 h2'.2⟩
  rcases (mrgK_mem _ _ x).1 hx with g | g
  ·rcases List.mem_cons.1 g with g | g
   ·rw [g]; exact h'
   ·exact ltK_tr h' (h1'.1 x g)
  ·exact h2'.1 x g
 | case6 p ps q qs h h' ih =>
  have h1' := List.pairwise_cons.1 h1; have h2' := List.pairwise_cons.1 h2; have e : p.f0 = q.f0 := ltK_tri (by simpa using h) (by simpa using h'); rw [mrgK, if_neg h, if_neg h']; refine List.pairwise_cons.2 ⟨fun x hx => ?_, ih h1'.2 h2'.2⟩
  rcases (mrgK_mem _ _ x).1 hx with g | g
  ·exact h1'.1 x g
  ·rw [e]; exact h2'.1 x g
theorem filterMap_congr' {α β : Type} {f g : α → Option β} : ∀ (l : List α), (∀ x ∈ l, f x = g x) → l.filterMap f = l.filterMap g
 | [], _ => rfl
 | a :: r, h => by
  rw [List.filterMap_cons, List.filterMap_cons, h a List.mem_cons_self, filterMap_congr' r (fun x hx => h x (List.mem_cons_of_mem _ hx))]
theorem getP_tail {p : S65} {ps : List S65} {k : ByteArray} (h : ltK p.f0 k = true) : getP (p :: ps) k = getP ps k := by
 rw [getP, if_neg (ltK_ne h)]
theorem chgP_eq (ps qs : List S65) (h1 : Srt (keysP ps)) (h2 : Srt (keysP qs)) : (mrgK ps qs).filterMap (chgAt ps qs) = chgP ps qs := by
 induction ps, qs using mrgK.induct with
 | case1 => rw [mrgK, chgP]; rfl
 | case2 p ps ih =>
  have h1' := List.pairwise_cons.1 h1; rw [mrgK, chgP, List.filterMap_cons]; have e : chgAt (p :: ps) [] p.f0 = some ⟨p.f0, true, p.f1, false, ⟨#[]⟩⟩ := by
   simp [chgAt, getP]
  rw [e, ← ih h1'.2 h2]; refine congrArg (_ :: ·) (filterMap_congr' _ fun x hx => ?_); have hl : ltK p.f0 x = true := by
   rcases (mrgK_mem _ _ x).1 hx with g | g
   ·exact h1'.1 x g
   ·simp [keysP] at g
  unfold chgAt; rw [getP_tail hl]
 | case3 q qs ih =>
  have h2' := List.pairwise_cons.1 h2; rw [mrgK, chgP, List.filterMap_cons]; have e : chgAt [] (q :: qs) q.f0 = some ⟨q.f0, false, ⟨#[]⟩, true, q.f1⟩ := by
   simp [chgAt, getP]
  rw [e, ← ih h1 h2'.2]; refine congrArg (_ :: ·) (filterMap_congr' _ fun x hx => ?_); have hl : ltK q.f0 x = true := by
   rcases (mrgK_mem _ _ x).1 hx with g | g
   ·simp [keysP] at g
   ·exact h2'.1 x g
  unfold chgAt; rw [getP_tail hl]
 | case4 p ps q qs h ih =>
  have h1' := List.pairwise_cons.1 h1; have h2' := List.pairwise_cons.1 h2; have hq : ∀ x ∈ keysP (q :: qs), ltK p.f0 x = true := fun x hx => by
   rcases List.mem_cons.1 hx with g | g
   ·rw [g]; exact h
   ·exact ltK_tr h (h2'.1 x g)
  rw [mrgK, chgP, if_pos h, if_pos h, List.filterMap_cons]; have e : chgAt (p :: ps) (q :: qs) p.f0 = some ⟨p.f0, true, p.f1, false, ⟨#[]⟩⟩ := by
   have hn := getP_none (q :: qs) p.f0 (fun g => ltK_ne (hq _ g) rfl); have hs : getP (p :: ps) p.f0 = (p.f1, true) := by rw [getP, if_pos rfl]
   simp only [chgAt, hn, hs]; rfl
  rw [e, ← ih h1'.2 h2]; refine congrArg (_ :: ·) (filterMap_congr' _ fun x hx => ?_); have hl : ltK p.f0 x = true := by
   rcases (mrgK_mem _ _ x).1 hx with g | g
   ·exact h1'.1 x g
   ·exact hq x g
  unfold chgAt; rw [getP_tail hl]
 | case5 p ps q qs h h' ih =>
  have h1' := List.pairwise_cons.1 h1; have h2' := List.pairwise_cons.1 h2; have hq : ∀ x ∈ keysP (p :: ps), ltK q.f0 x = true := fun x hx => by
   rcases List.mem_cons.1 hx with g | g
   ·rw [g]; exact h'
   ·exact ltK_tr h' (h1'.1 x g)
  rw [mrgK, chgP, if_neg h, if_neg h, if_pos h', if_pos h', List.filterMap_cons]; have e : chgAt (p :: ps) (q :: qs) q.f0 = some ⟨q.f0, false, ⟨#[]⟩, true, q.f1⟩ := by
   have hn := getP_none (p :: ps) q.f0 (fun g => ltK_ne (hq _ g) rfl); have hs : getP (q :: qs) q.f0 = (q.f1, true) := by rw [getP, if_pos rfl]
   simp only [chgAt, hn, hs]; rfl
  rw [e, ← ih h1 h2'.2]; refine congrArg (_ :: ·) (filterMap_congr' _ fun x hx => ?_); have hl : ltK q.f0 x = true := by
   rcases (mrgK_mem _ _ x).1 hx with g | g
   ·exact hq x g
   ·exact h2'.1 x g
  unfold chgAt; rw [getP_tail hl]
 | case6 p ps q qs h h' ih =>
  have h1' := List.pairwise_cons.1 h1; have h2' := List.pairwise_cons.1 h2; have e0 : p.f0 = q.f0 := ltK_tri (by simpa using h) (by simpa using h'); rw [mrgK, chgP, if_neg h, if_neg h, if_neg h', if_neg h', List.filterMap_cons]; have hs : getP (p :: ps) p.f0 = (p.f1, true) := by rw [getP, if_pos rfl]
  have hs2 : getP (q :: qs) p.f0 = (q.f1, true) := by rw [getP, if_pos e0.symm]
  have hrest : (mrgK ps qs).filterMap (chgAt (p :: ps) (q :: qs)) = chgP ps qs := by
   rw [← ih h1'.2 h2'.2]; refine filterMap_congr' _ fun x hx => ?_
   have hl : ltK p.f0 x = true := by
    rcases (mrgK_mem _ _ x).1 hx with g | g
    ·exact h1'.1 x g
    ·rw [e0]; exact h2'.1 x g
   unfold chgAt; rw [getP_tail hl, getP_tail (by rw [← e0]; exact hl)]
  by_cases hv : p.f1 = q.f1
  ·have e : chgAt (p :: ps) (q :: qs) p.f0 = none := by
    simp only [chgAt, hs, hs2]; rw [if_neg (by decide), if_pos hv]
   rw [e, if_pos hv]; exact hrest
  ·have e : chgAt (p :: ps) (q :: qs) p.f0 = some ⟨p.f0, true, p.f1, true, q.f1⟩ := by
    simp only [chgAt, hs, hs2]; rw [if_neg (by decide), if_neg hv]
   rw [e, if_neg hv]; exact congrArg (_ :: ·) hrest
theorem chg_same (ps qs : List S65) (h1 : Srt (keysP ps)) (h2 : Srt (keysP qs)) : (allP ps qs).filterMap (fun a => chgAt ps qs a.f0) = chgP ps qs := by
 rw [← chgP_eq ps qs h1 h2, ← Srt.ext (allP_srt qs ps h1) (mrgK_srt ps qs h1 h2) (fun x => by rw [allP_mem, mrgK_mem]), keysP, List.filterMap_map]; rfl
theorem rdC (l : List S65) (i : Nat) : rd_T65 l (i : Int) = l.getD i z65 := by
 unfold rd_T65; rw [Int.toNat_natCast]
theorem dropC (l : List S65) (i : Nat) (h : i < l.length) : l.drop i = l.getD i z65 :: l.drop (i + 1) := by
 rw [List.drop_eq_getElem_cons h, List.getD_eq_getElem?_getD, List.getElem?_eq_getElem h]; rfl
theorem l4Without_loop (l : List S65) (key : ByteArray) (hl : l.length ≤ 1048576) : ∀ (d i k : Nat) (acc : List S65), l.length = i + d → d < k → acc.length + d ≤ 2097152 →
  spec_l4Without.l0 k l key acc (i : Int) = some (acc ++ outP key (l.drop i)) := by
 intro d
 induction d with
 | zero =>
  intro i k acc h hk ha; obtain ⟨k, rfl⟩ : ∃ j, k = j + 1 := ⟨k - 1, by omega⟩
  simp only [spec_l4Without.l0]; rw [if_neg (by omega), List.drop_of_length_le (by omega)]; simp [outP]
 | succ d ih =>
  intro i k acc h hk ha; obtain ⟨k, rfl⟩ : ∃ j, k = j + 1 := ⟨k - 1, by omega⟩
  simp only [spec_l4Without.l0]; rw [if_pos (by omega), if_pos (by omega), wN (n := i + 1) (by omega) (by omega), rdC, dropC l i (by omega), ih (i + 1) k acc (by omega) (by omega) (by omega), ih (i + 1) k _ (by omega) (by omega) zq_47]
  by_cases he : (l.getD i z65).f0 = key
  ·rw [if_pos (listK.2 he)]; unfold outP; rw [List.filter_cons_of_neg (by rw [decide_eq_true he]; decide)]
  ·rw [if_neg (fun h => he (listK.1 h)), if_pos (by omega)]; unfold outP; rw [List.filter_cons_of_pos (by rw [decide_eq_false he]; rfl)]; simp
theorem l4Without_f (l : List S65) (key : ByteArray) (hl : l.length ≤ 1048576) (k : Nat) (hk : l.length < k) : spec_l4Without.f k l key = some (outP key l) := by
 unfold spec_l4Without.f; have h := l4Without_loop l key hl l.length 0 k [] (by omega) hk (by simp; omega)
 simpa using h
theorem l4With_done (l : List S65) (key v : ByteArray) (hl : l.length ≤ 1048576) : ∀ (d i k : Nat) (acc : List S65), l.length = i + d → d < k → acc.length + d ≤ 2097153 →
  spec_l4With.l0 k key v l acc true (i : Int) = some (acc ++ l.drop i) := by
 intro d
 induction d with
 | zero =>
  intro i k acc h hk ha; obtain ⟨k, rfl⟩ : ∃ j, k = j + 1 := ⟨k - 1, by omega⟩
  simp only [spec_l4With.l0, if_true, if_false, Bool.false_eq_true]; rw [if_neg (by omega), List.drop_of_length_le (by omega), List.append_nil]
 | succ d ih =>
  intro i k acc h hk ha; obtain ⟨k, rfl⟩ : ∃ j, k = j + 1 := ⟨k - 1, by omega⟩
  simp only [spec_l4With.l0, if_true, if_false, Bool.false_eq_true]; rw [if_pos (by omega), if_pos (by omega), wN (n := i + 1) (by omega) (by omega), rdC, dropC l i (by omega), ih (i + 1) k _ (by omega) (by omega) zq_47, if_pos (by omega)]; simp
theorem l4With_loop (l : List S65) (key v : ByteArray) (hl : l.length ≤ 1048576) (hkey : key.size ≤ 1048576) : ∀ (d i k : Nat) (acc : List S65), l.length = i + d → d + 2100000 < k → acc.length + d ≤ 2097152 →
  spec_l4With.l0 k key v l acc false (i : Int) = some (acc ++ insP key v (l.drop i)) := by
 intro d
 induction d with
 | zero =>
  intro i k acc h hk ha; obtain ⟨k, rfl⟩ : ∃ j, k = j + 1 := ⟨k - 1, by omega⟩
  simp only [spec_l4With.l0, if_true, if_false, Bool.false_eq_true]; rw [if_neg (by omega), List.drop_of_length_le (by omega), if_pos (by omega)]; rfl
 | succ d ih =>
  intro i k acc h hk ha; obtain ⟨k, rfl⟩ : ∃ j, k = j + 1 := ⟨k - 1, by omega⟩
  simp only [spec_l4With.l0, if_true, if_false, Bool.false_eq_true]; rw [if_pos (by omega), if_pos (by omega), wN (n := i + 1) (by omega) (by omega), rdC, dropC l i (by omega), spec_l1Less_f _ _ (by omega) k (by omega), Option.bind_some, insP, ltK]
  cases hc : Op.bytesLess key.toList (l.getD i z65).f0.toList
  ·rw [if_neg (show ¬ (false = true) by decide), if_neg (show ¬ (false = true) by decide), if_pos (by omega), ih (i + 1) k _ (by omega) (by omega) zq_47]; simp
  ·rw [if_pos (show true = true from rfl), if_pos (show true = true from rfl), if_pos (by omega), Option.bind_some, if_pos zq_47, l4With_done l key v hl d (i + 1) k _ (by omega) (by omega) (by rw [List.length_append, List.length_append, List.length_singleton, List.length_singleton]; omega)]; simp
theorem l4With_f (l : List S65) (key v : ByteArray) (hl : l.length ≤ 1000000) (hkey : key.size ≤ 1048576) (k : Nat) (hk : 3200000 < k) : spec_l4With.f k l key v = some (withP l key v) := by
 unfold spec_l4With.f withP; have h1 : (outP key l).length ≤ l.length := List.length_filter_le _ _; rw [l4Without_f l key (by omega) k (by omega), Option.bind_some]; have h := l4With_loop (outP key l) key v (by omega) hkey (outP key l).length 0 k [] (by omega) (by omega) (by simp; omega)
 simpa using h
theorem l4Get_loop (l : List S65) (key : ByteArray) (hl : l.length ≤ 1048576) : ∀ (d i k : Nat), l.length = i + d → d < k →
  spec_l4Get.l0 k l key (i : Int) = some (getP (l.drop i) key) := by
 intro d
 induction d with
 | zero =>
  intro i k h hk; obtain ⟨k, rfl⟩ : ∃ j, k = j + 1 := ⟨k - 1, by omega⟩
  simp only [spec_l4Get.l0]; rw [if_neg (by omega), List.drop_of_length_le (by omega)]; rfl
 | succ d ih =>
  intro i k h hk; obtain ⟨k, rfl⟩ : ∃ j, k = j + 1 := ⟨k - 1, by omega⟩
  simp only [spec_l4Get.l0]; rw [if_pos (by omega), if_pos (by omega), wN (n := i + 1) (by omega) (by omega), rdC, dropC l i (by omega), getP, ih (i + 1) k (by omega) (by omega)]
  by_cases he : (l.getD i z65).f0 = key
  ·rw [if_pos (listK.2 he), if_pos he]
  ·rw [if_neg (fun h => he (listK.1 h)), if_neg he]
theorem l4Get_f (l : List S65) (key : ByteArray) (hl : l.length ≤ 1048576) (k : Nat) (hk : l.length < k) : spec_l4Get.f k l key = some (getP l key) := by
 unfold spec_l4Get.f; have h := l4Get_loop l key hl l.length 0 k (by omega) hk
 simpa using h
theorem l4Changes_l1 (ps qs x5 : List S65) (hp : ps.length ≤ 1048576) (hq : qs.length ≤ 1048576) (hl : x5.length ≤ 1048576) : ∀ (d i k : Nat) (acc : List S120), x5.length = i + d → d + 1100000 < k → acc.length + d ≤ 2097152 →
  spec_l4Changes.l1 k ps qs x5 acc (i : Int) = some (acc ++ (x5.drop i).filterMap (fun a => chgAt ps qs a.f0)) := by
 intro d
 induction d with
 | zero =>
  intro i k acc h hk ha; obtain ⟨k, rfl⟩ : ∃ j, k = j + 1 := ⟨k - 1, by omega⟩
  simp only [spec_l4Changes.l1]; rw [if_neg (by omega), List.drop_of_length_le (by omega)]; simp
 | succ d ih =>
  intro i k acc h hk ha; obtain ⟨k, rfl⟩ : ∃ j, k = j + 1 := ⟨k - 1, by omega⟩
  simp only [spec_l4Changes.l1]; rw [if_pos (by omega), if_pos (by omega), wN (n := i + 1) (by omega) (by omega), rdC, dropC x5 i (by omega), l4Get_f ps _ hp k (by omega), l4Get_f qs _ hq k (by omega), Option.bind_some, Option.bind_some, List.filterMap_cons, chgAt,
   ih (i + 1) k acc (by omega) (by omega) (by omega), ih (i + 1) k _ (by omega) (by omega) zq_47]
  by_cases h1 : ((getP ps (x5.getD i z65).f0).2 != (getP qs (x5.getD i z65).f0).2) = true
  ·rw [if_pos h1, if_pos h1, if_pos (by omega)]; simp
  ·rw [if_neg h1, if_neg h1]
   by_cases h2 : (getP ps (x5.getD i z65).f0).1 = (getP qs (x5.getD i z65).f0).1
   ·rw [if_pos (listK.2 h2), if_pos h2]
   ·rw [if_neg (fun h => h2 (listK.1 h)), if_neg h2, if_pos (by omega)]; simp
theorem l4Changes_l0 (ps qs : List S65) (hp : ps.length ≤ 500000) (hq : qs.length ≤ 500000) (hks : ∀ q ∈ qs, q.f0.size ≤ 1048576) : ∀ (d i k : Nat) (x5 : List S65), qs.length = i + d → d + 3200001 < k → x5.length + d ≤ 1000000 →
  spec_l4Changes.l0 k ps qs x5 (i : Int) = some ((allP x5 (qs.drop i)).filterMap (fun a => chgAt ps qs a.f0)) := by
 intro d
 induction d with
 | zero =>
  intro i k x5 h hk ha; obtain ⟨k, rfl⟩ : ∃ j, k = j + 1 := ⟨k - 1, by omega⟩
  simp only [spec_l4Changes.l0]; rw [if_neg (by omega), List.drop_of_length_le (by omega), allP]; have h := l4Changes_l1 ps qs x5 (by omega) (by omega) (by omega) x5.length 0 k [] (by omega) (by omega) (by simp; omega)
  simpa using h
 | succ d ih =>
  intro i k x5 h hk ha; obtain ⟨k, rfl⟩ : ∃ j, k = j + 1 := ⟨k - 1, by omega⟩
  have hlen := withP_len x5 (qs.getD i z65).f0 ⟨#[]⟩; have hkey : (qs.getD i z65).f0.size ≤ 1048576 := by
   rw [List.getD_eq_getElem?_getD, List.getElem?_eq_getElem (by omega)]; exact hks _ (List.getElem_mem _)
  simp only [spec_l4Changes.l0]; rw [if_pos (by omega), if_pos (by omega), wN (n := i + 1) (by omega) (by omega), rdC, dropC qs i (by omega), allP, l4With_f x5 _ _ (by omega) hkey k (by omega), Option.bind_some, ih (i + 1) k _ (by omega) (by omega) (by omega)]
theorem l4Changes_f (ps qs : List S65) (hp : ps.length ≤ 500000) (hq : qs.length ≤ 500000) (hks : ∀ q ∈ qs, q.f0.size ≤ 1048576) (k : Nat) (hk : 3800000 < k) :
  spec_l4Changes.f k ps qs = some ((allP ps qs).filterMap (fun a => chgAt ps qs a.f0)) := by
 unfold spec_l4Changes.f; have h := l4Changes_l0 ps qs hp hq hks qs.length 0 k ps (by omega) (by omega) (by omega)
 simpa using h
theorem changes_loop : ∀ (n : Nat) (ps qs : List S65) (acc : List S120) (k : Nat), ps.length + qs.length ≤ n → 4 * n + 4 < k → acc.length + n ≤ 2097152 →
  impl_changes.l0 k ps qs acc = some (acc ++ chgP ps qs) := by
 intro n
 induction n with
 | zero =>
  intro ps qs acc k hn hk ha; obtain ⟨k, rfl⟩ : ∃ j, k = j + 2 := ⟨k - 2, by omega⟩
  have h1 : ps = [] := List.length_eq_zero_iff.1 (by omega); have h2 : qs = [] := List.length_eq_zero_iff.1 (by omega); subst h1; subst h2; simp [impl_changes.l0, impl_changes.j1, chgP]
 | succ n ih =>
  intro ps qs acc k hn hk ha; obtain ⟨k, rfl⟩ : ∃ j, k = j + 4 := ⟨k - 4, by omega⟩
  have ha2 : acc.length < 2199023255552 := by omega
  cases ps with
  | nil =>
   cases qs with
   | nil => simp [impl_changes.l0, impl_changes.j1, chgP]
   | cons q qs =>
    have e := ih [] qs (acc ++ [⟨q.f0, false, ⟨#[]⟩, true, q.f1⟩]) k (by simp only [List.length_cons, List.length_nil] at hn ⊢; omega) (by omega) zq_47; have hr : rd_T65 (q :: qs) 0 = q := rfl; have g1 : (0 : Int) < (qs.length : Int) + 1 := by omega
    have g2 : ¬ ((qs.length : Int) + 1 = 0) := by omega
    have g3 : (1 : Int) ≤ (qs.length : Int) + 1 := by omega
    rw [impl_changes.l0]; simp only [impl_changes.j1, impl_changes.j2, impl_changes.j3, List.length_cons, List.length_nil, Int.natCast_add, Int.cast_ofNat_Int, Int.natCast_succ, gt_iff_lt, g1, g2, g3, ha2, hr, List.drop_one, List.tail_cons, e, chgP]; simp
  | cons p ps =>
   have hr1 : rd_T65 (p :: ps) 0 = p := rfl; have f1 : (0 : Int) < (ps.length : Int) + 1 := by omega
   have f2 : ¬ ((ps.length : Int) + 1 = 0) := by omega
   have f3 : (1 : Int) ≤ (ps.length : Int) + 1 := by omega
   cases qs with
   | nil =>
    have e := ih ps [] (acc ++ [⟨p.f0, true, p.f1, false, ⟨#[]⟩⟩]) (k + 1) (by simp only [List.length_cons, List.length_nil] at hn ⊢; omega) (by omega) zq_47; rw [impl_changes.l0]; simp only [impl_changes.j1, impl_changes.j2, List.length_cons, List.length_nil, Int.natCast_add, Int.cast_ofNat_Int, Int.natCast_succ, gt_iff_lt, f1, f2, f3, ha2, hr1, List.drop_one, List.tail_cons, e, chgP]; simp
   | cons q qs =>
    have hr2 : rd_T65 (q :: qs) 0 = q := rfl; have g1 : (0 : Int) < (qs.length : Int) + 1 := by omega
    have g2 : ¬ ((qs.length : Int) + 1 = 0) := by omega
    have g3 : (1 : Int) ≤ (qs.length : Int) + 1 := by omega
    simp only [List.length_cons] at hn; have e1 := ih ps (q :: qs) (acc ++ [⟨p.f0, true, p.f1, false, ⟨#[]⟩⟩]) (k + 1) (by simp only [List.length_cons]; omega) (by omega) zq_47; have e2 := ih (p :: ps) qs (acc ++ [⟨q.f0, false, ⟨#[]⟩, true, q.f1⟩]) k (by simp only [List.length_cons]; omega) (by omega) zq_47; have e3 := ih ps qs acc k (by omega) (by omega) (by omega); have e4 := ih ps qs (acc ++ [⟨p.f0, true, p.f1, true, q.f1⟩]) k (by omega) (by omega) zq_47; rw [impl_changes.l0]; simp only [impl_changes.j1, impl_changes.j2, impl_changes.j3, List.length_cons, List.length_nil, Int.natCast_add, Int.cast_ofNat_Int, Int.natCast_succ, gt_iff_lt, f1, f2, f3, g1, g2, g3, ha2, hr1, hr2, List.drop_one, List.tail_cons, e1, e2, e3, e4, chgP, ltK, if_true, if_false]
    by_cases h1 : Op.bytesLess p.f0.toList q.f0.toList = true
    ·simp [h1]
    ·by_cases h2 : Op.bytesLess q.f0.toList p.f0.toList = true
     ·simp [h1, h2]
     ·by_cases h3 : p.f1 = q.f1
      ·simp [h1, h2, h3]
      ·simp [h1, h2, h3, listK]
theorem changes_f (ps qs : List S65) (hp : ps.length ≤ 500000) (hq : qs.length ≤ 500000) (k : Nat) (hk : 4000008 < k) : impl_changes.f k ps qs = some (chgP ps qs) := by
 unfold impl_changes.f; have h := changes_loop (ps.length + qs.length) ps qs [] k (by omega) (by omega) (by simp; omega)
 simpa using h
end Go.Proofs.YthnnphinfiobmaaDoor.Z
end
section
namespace Go.Proofs.YthnnphinfiobmaaDoor.Z
open RowKit YthnnphinfiobmaaDoorW.PrintWords YthnnphinfiobmaaDoorW.PrintLast YthnnphinfiobmaaDoorW.PrintMore
attribute [local go_sem] max2_int min2_int max_two min_two max_three min_three max_four min_four
set_option linter.all false

def laws_heldPairS.T4 : Bool × List (List Nat × List Nat) := (true, [([], []), ([], []), ([0, 1], [0, 1]), ([2], [2]), ([3], [3]), ([], []), ([5], [5]), ([4, 6], [4, 6])])
def laws_heldPairS.B4 : List Nat := [0, 0, 3, 7, 15, 0, 32, 127]
theorem laws_heldPairS.tab4 : rtab .any (opsOf Tryd.f23 4) = laws_heldPairS.T4 := by kernel_rfl
theorem laws_heldPairS.bits4 : waitsOk laws_heldPairS.T4.2 laws_heldPairS.B4 = true := by kernel_rfl
def laws_heldPairS.T7 : Bool × List (List Nat × List Nat) := (true, [([], []), ([], []), ([0, 1], [0, 1]), ([2], [2]), ([3], [3]), ([], []), ([5], [5]), ([4, 6], [4, 6])])
def laws_heldPairS.B7 : List Nat := [0, 0, 3, 7, 15, 0, 32, 127]
theorem laws_heldPairS.tab7 : rtab .any (opsOf Tryd.f23 7) = laws_heldPairS.T7 := by kernel_rfl
theorem laws_heldPairS.bits7 : waitsOk laws_heldPairS.T7.2 laws_heldPairS.B7 = true := by kernel_rfl





def laws_eqPairS.T6 : Bool × List (List Nat × List Nat) := (true, [([], []), ([], []), ([0, 1], [0, 1]), ([2], [2]), ([], []), ([], []), ([4, 5], [4, 5]), ([6], [6]), ([3, 7], [3, 7]), ([8], [8])])
def laws_eqPairS.B6 : List Nat := [0, 0, 3, 7, 0, 0, 48, 112, 255, 511]
theorem laws_eqPairS.tab6 : rtab .any (opsOf Tryd.f13 6) = laws_eqPairS.T6 := by kernel_rfl
theorem laws_eqPairS.bits6 : waitsOk laws_eqPairS.T6.2 laws_eqPairS.B6 = true := by kernel_rfl
end Go.Proofs.YthnnphinfiobmaaDoor.Z
end
section
namespace Go.Proofs.YthnnphinfiobmaaDoor.Z
open RowKit YthnnphinfiobmaaDoor YthnnphinfiobmaaDoorW.PrintWords YthnnphinfiobmaaDoorW.PrintLast
set_option linter.all false

theorem markText_loop : ∀ (j : Nat) (x : Int) (acc : ByteArray) (k : Nat), 0 ≤ x → x ≤ 1000000000000 → x < 10 ^ j → j < k → acc.size + j ≤ 1000 → ∃ s, laws_markText.l0 k x acc = some s
 | 0, x, acc, k, h0, hb, h1, hk, ha => by
  obtain ⟨k, rfl⟩ : ∃ j, k = j + 1 := ⟨k - 1, by omega⟩
  simp only [laws_markText.l0]; rw [if_neg (by simp at h1; omega), if_pos (by omega)]; exact ⟨_, rfl⟩
 | j + 1, x, acc, k, h0, hb, h1, hk, ha => by
  obtain ⟨k, rfl⟩ : ∃ j, k = j + 1 := ⟨k - 1, by omega⟩
  simp only [laws_markText.l0]
  by_cases hx : x > 0
  ·rw [if_pos hx, Option.bind_some]; have h1s : (strOfNums [wrap64 (48 + x.tmod 10) % 256]).size = 1 := rfl; rw [h1s, if_pos (by omega)]; have hp : (10 : Int) ^ (j + 1) = 10 ^ j * 10 := Int.pow_succ 10 j; have hd : Int.tdiv x 10 = x / 10 := Int.tdiv_eq_ediv_of_nonneg h0; have hle : x / 10 < 10 ^ j := by rw [hp] at h1; omega
   rw [hd, show wrap64 (x / 10) = x / 10 by unfold wrap64; omega]; exact markText_loop j (x / 10) _ k (by omega) (by omega) hle (by omega) (by rw [ByteArray.size_append, h1s]; omega)
  ·rw [if_neg hx, if_pos (by omega)]; exact ⟨_, rfl⟩
def mtx (x : Int) : ByteArray := (laws_markText.f 100 x).getD ⟨#[]⟩
theorem markText_f (x : Int) (h0 : 0 ≤ x) (h1 : x ≤ 1000000000000) : ∀ k, 100 ≤ k → laws_markText.f k x = some (mtx x) := by
 have hs : ∃ s, laws_markText.f 100 x = some s := by
  unfold laws_markText.f
  by_cases h : x ≤ 0
  ·rw [if_pos h]; exact ⟨_, rfl⟩
  ·rw [if_neg h]; exact markText_loop 13 x _ 100 h0 h1 (by rw [show (10 : Int) ^ 13 = 10000000000000 by decide]; omega) (by decide) (by decide)
 obtain ⟨s, hs⟩ := hs; have hm : mtx x = s := by unfold mtx; rw [hs]; rfl
 intro k hk
 induction k with
 | zero => omega
 | succ k ih =>
  rcases Nat.eq_or_lt_of_le hk with e | e
  ·rw [← e, hs, hm]
  ·exact laws_markText.mono x k _ (ih (by omega))
theorem markStringS_loop (l0 : List ByteArray) : ∀ (d i k : Nat) (x : Int) (l : List ByteArray), l.length = i + d → d + 200 < k → 0 ≤ x → x + d ≤ 4294967296 → l.length ≤ 4294967296 → ∃ l', laws_markStringS.l0 k l x (i : Int) = some (x + d, l') := by
 intro d
 induction d with
 | zero =>
  intro i k x l h hk hx hb hl; obtain ⟨k, rfl⟩ : ∃ j, k = j + 1 := ⟨k - 1, by omega⟩
  simp only [laws_markStringS.l0]; rw [if_neg (by omega)]; exact ⟨l, by simp⟩
 | succ d ih =>
  intro i k x l h hk hx hb hl; obtain ⟨k, rfl⟩ : ∃ j, k = j + 1 := ⟨k - 1, by omega⟩
  simp only [laws_markStringS.l0]; rw [if_pos (by omega), markText_f x hx (by omega) k (by omega), Option.bind_some, if_pos (by omega), show wrap64 (x + 1) = x + 1 by unfold wrap64; omega, wN (n := i + 1) (by omega) (by omega)]; obtain ⟨l', h'⟩ := ih (i + 1) k (x + 1) (l.set (i : Int).toNat (mtx x)) (by rw [List.length_set]; omega) (by omega) (by omega) (by omega) (by rw [List.length_set]; omega); refine ⟨l', h'.trans ?_⟩; rw [show x + 1 + (d : Int) = x + ((d + 1 : Nat) : Int) by omega]
theorem markPool_f (W : Int) (l : List ByteArray) (hl : l.length ≤ 2097152) (k : Nat) (hk : 2100000 < k) : ∃ x l', laws_markPool.f k W l 1 = some (x, l') ∧ 0 ≤ x := by
 unfold laws_markPool.f laws_markStringS.f; obtain ⟨l', h⟩ := markStringS_loop l l.length 0 k 1 l (by omega) (by omega) (by omega) (by omega) (by omega); rw [show (0 : Int) = ((0 : Nat) : Int) from rfl, h, Option.bind_some]; exact ⟨_, _, rfl, by omega⟩
theorem take_set_last {α : Type} (l : List α) (i : Nat) (h : i < l.length) (p : α) : (l.set i p).take (i + 1) = l.take i ++ [p] := by
 rw [List.take_succ_eq_append_getElem (by rw [List.length_set]; exact h), List.getElem_set_self, List.take_set_of_le (Nat.le_refl _)]
def mkC : Int → Nat → List S120
 | _, 0 => []
 | x, d + 1 => ⟨mtx x, Int.tmod (x + 1) 3 == 0, mtx (x + 1 + 1), Int.tmod (x + 1 + 1 + 1) 3 == 0, mtx (x + 1 + 1 + 1 + 1)⟩ :: mkC (x + 1 + 1 + 1 + 1 + 1) d
theorem mkC_length : ∀ (x : Int) (d : Nat), (mkC x d).length = d
 | _, 0 => rfl
 | x, d + 1 => by rw [mkC, List.length_cons, mkC_length]
theorem wrapS (x : Int) (h0 : 0 ≤ x) (h1 : x ≤ 4294967300) : wrap64 x = x := by unfold wrap64; omega
theorem rdCh_at (l : List S120) (i : Nat) (h : i < l.length) : rd_T120 l (i : Int) = l[i] := by
 unfold rd_T120; rw [Int.toNat_natCast, List.getD_eq_getElem?_getD, List.getElem?_eq_getElem h]; rfl
theorem rdCh_set (l : List S120) (i : Nat) (v : S120) (h : i < l.length) : rd_T120 (l.set i v) (i : Int) = v := by
 rw [rdCh_at _ i (by rw [List.length_set]; exact h), List.getElem_set_self]
theorem markChangeS_loop : ∀ (d i k : Nat) (x : Int) (l : List S120), l.length = i + d → d + 200 < k → 0 ≤ x → x + 5 * d ≤ 4294967296 → l.length ≤ 4294967296 → laws_markChangeS.l0 k l x (i : Int) = some (x + 5 * d, l.take i ++ mkC x d) := by
 intro d
 induction d with
 | zero =>
  intro i k x l h hk hx hb hl; obtain ⟨k, rfl⟩ : ∃ j, k = j + 1 := ⟨k - 1, by omega⟩
  simp only [laws_markChangeS.l0]; rw [if_neg (by omega), List.take_of_length_le (by omega)]; simp [mkC]
 | succ d ih =>
  intro i k x l h hk hx hb hl; obtain ⟨k, rfl⟩ : ∃ j, k = j + 1 := ⟨k - 1, by omega⟩
  have hS : x + 1 + 1 + 1 + 1 + 1 + 5 * (d : Int) = x + 5 * ((d + 1 : Nat) : Int) := by omega
  have w1 := Aside0.mk (wrapS (x + 1) (by omega) (by omega)); have w2 := Aside0.mk (wrapS (x + 1 + 1) (by omega) (by omega)); have w3 := Aside0.mk (wrapS (x + 1 + 1 + 1) (by omega) (by omega)); have w4 := Aside0.mk (wrapS (x + 1 + 1 + 1 + 1) (by omega) (by omega)); have w5 := Aside0.mk (wrapS (x + 1 + 1 + 1 + 1 + 1) (by omega) (by omega)); have wi : wrap64 ((i : Int) + 1) = ((i + 1 : Nat) : Int) := wN (by omega) (by omega); have m1 := markText_f x hx (by omega) k (by omega); have m2 := markText_f (x + 1 + 1) (by omega) (by omega) k (by omega); have m3 := markText_f (x + 1 + 1 + 1 + 1) (by omega) (by omega) k (by omega); have h1 : (i : Int) < (l.length : Int) := by omega
  have h0 : (0 : Int) ≤ (i : Int) := by omega
  have hi : i < l.length := by omega
  have hr := fun v => rdCh_set l i v hi
  have e := ih (i + 1) k (x + 1 + 1 + 1 + 1 + 1) (l.set i ⟨mtx x, Int.tmod (x + 1) 3 == 0, mtx (x + 1 + 1), Int.tmod (x + 1 + 1 + 1) 3 == 0, mtx (x + 1 + 1 + 1 + 1)⟩) (by rw [List.length_set]; omega) (by omega) (by omega) (by omega) (by rw [List.length_set]; omega); simp only [laws_markChangeS.l0, w1.out, w2.out, w3.out, w4.out, w5.out, wi, m1, m2, m3, h1, h0, if_true, Option.bind_some, Int.toNat_natCast, hr, List.set_set, e]; rw [hS, mkC]; refine congrArg some (Prod.ext rfl ?_); dsimp only; rw [take_set_last l i hi, List.append_assoc]; rfl
theorem markChangeS_f (l : List S120) (hl : l.length ≤ 1048576) (k : Nat) (hk : 1100000 < k) : laws_markChangeS.f k l 1 = some (1 + 5 * (l.length : Int), mkC 1 l.length) := by
 unfold laws_markChangeS.f; have := markChangeS_loop l.length 0 k 1 l (by omega) (by omega) (by omega) (by omega) (by omega); rw [List.take_zero, List.nil_append] at this; exact this
theorem heldChangeS_loop : ∀ (d i k : Nat) (x : Int) (pre : List S120), pre.length = i → d + 200 < k → 0 ≤ x → x + 5 * d ≤ 4294967296 → i + d ≤ 4294967296 → laws_heldChangeS.l0 k (pre ++ mkC x d) x (i : Int) = some (x + 5 * d) := by
 intro d
 induction d with
 | zero =>
  intro i k x pre h hk hx hb hl; obtain ⟨k, rfl⟩ : ∃ j, k = j + 1 := ⟨k - 1, by omega⟩
  simp only [laws_heldChangeS.l0]; rw [if_neg (by rw [List.length_append, mkC_length]; omega)]; simp
 | succ d ih =>
  intro i k x pre h hk hx hb hl; obtain ⟨k, rfl⟩ : ∃ j, k = j + 1 := ⟨k - 1, by omega⟩
  have hg : rd_T120 (pre ++ mkC x (d + 1)) (i : Int) = ⟨mtx x, Int.tmod (x + 1) 3 == 0, mtx (x + 1 + 1), Int.tmod (x + 1 + 1 + 1) 3 == 0, mtx (x + 1 + 1 + 1 + 1)⟩ := by
   rw [rdCh_at _ i (by rw [List.length_append, mkC_length]; omega), List.getElem_append_right (by omega)]; simp [h, mkC]
  have hS : x + 1 + 1 + 1 + 1 + 1 + 5 * (d : Int) = x + 5 * ((d + 1 : Nat) : Int) := by omega
  have w1 := Aside0.mk (wrapS (x + 1) (by omega) (by omega)); have w2 := Aside0.mk (wrapS (x + 1 + 1) (by omega) (by omega)); have w3 := Aside0.mk (wrapS (x + 1 + 1 + 1) (by omega) (by omega)); have w4 := Aside0.mk (wrapS (x + 1 + 1 + 1 + 1) (by omega) (by omega)); have w5 := Aside0.mk (wrapS (x + 1 + 1 + 1 + 1 + 1) (by omega) (by omega)); have wi : wrap64 ((i : Int) + 1) = ((i + 1 : Nat) : Int) := wN (by omega) (by omega); have m1 := markText_f x hx (by omega) k (by omega); have m2 := markText_f (x + 1 + 1) (by omega) (by omega) k (by omega); have m3 := markText_f (x + 1 + 1 + 1 + 1) (by omega) (by omega) k (by omega); have h1 : (i : Int) < ((pre ++ mkC x (d + 1)).length : Int) := by rw [List.length_append, mkC_length]; omega
  have h0 : (0 : Int) ≤ (i : Int) := by omega
  have e := ih (i + 1) k (x + 1 + 1 + 1 + 1 + 1) (pre ++ [⟨mtx x, Int.tmod (x + 1) 3 == 0, mtx (x + 1 + 1), Int.tmod (x + 1 + 1 + 1) 3 == 0, mtx (x + 1 + 1 + 1 + 1)⟩]) (by rw [List.length_append, h]; rfl) (by omega) (by omega) (by omega) (by omega); rw [List.append_assoc] at e; rw [laws_heldChangeS.l0, if_pos h1]; simp only [h0, if_true, hg, w1.out, w2.out, w3.out, w4.out, w5.out, wi, m1, m2, m3, Option.bind_some, bne_self_eq_false, Bool.false_eq_true, if_false]; refine e.trans ?_; rw [hS]
theorem heldChangeS_f (n : Nat) (hn : n ≤ 1048576) (k : Nat) (hk : 1100000 < k) : laws_heldChangeS.f k (mkC 1 n) 1 = some (1 + 5 * (n : Int)) := by
 unfold laws_heldChangeS.f; have := heldChangeS_loop n 0 k 1 [] rfl (by omega) (by omega) (by omega) (by omega); rw [List.nil_append] at this; exact this
theorem eqChangeS_loop (l : List S120) (hl : l.length ≤ 4294967296) : ∀ (d i k : Nat), l.length = i + d → d < k → laws_eqChangeS.l0 k l l (i : Int) = some true := by
 intro d
 induction d with
 | zero =>
  intro i k h hk; obtain ⟨k, rfl⟩ : ∃ j, k = j + 1 := ⟨k - 1, by omega⟩
  simp only [laws_eqChangeS.l0]; rw [if_neg (by omega)]
 | succ d ih =>
  intro i k h hk; obtain ⟨k, rfl⟩ : ∃ j, k = j + 1 := ⟨k - 1, by omega⟩
  simp only [laws_eqChangeS.l0]; unfold laws_eqChange.f; simp only [if_true, bne_self_eq_false, Bool.false_eq_true, if_false, Option.bind_some]; rw [if_pos (by omega), if_pos (by omega), if_pos (by omega), wN (n := i + 1) (by omega) (by omega)]; exact ih (i + 1) k (by omega) (by omega)
theorem eqChangeS_f (l : List S120) (hl : l.length ≤ 4294967296) (k : Nat) (hk : l.length < k) : laws_eqChangeS.f k l l = some true := by
 unfold laws_eqChangeS.f; rw [if_pos rfl]; exact eqChangeS_loop l hl l.length 0 k (by omega) hk
def inB (lo hi x : ByteArray) : Prop := (emp lo = true ∨ ltK lo x = true) ∧ (emp hi = true ∨ ltK x hi = true)
theorem holdsB_in {lo hi x : ByteArray} (h : holdsB lo hi x = true) : inB lo hi x := by
 unfold holdsB leS ltS at h; rw [Bool.and_eq_true, Bool.or_eq_true, Bool.or_eq_true, Bool.not_eq_true', Bool.or_eq_false_iff] at h; refine ⟨?_, h.2⟩
 rcases h.1 with g | ⟨g1, g2⟩
 ·exact .inl g
 ·refine .inr ?_
  cases hq : ltK lo x
  ·have := ltK_tri hq g1; rw [this] at g2; simp at g2
  ·rfl
theorem findR_key {n : Nat} {encs : List ByteArray} {C : List (List Int)} {root : ByteArray} (h : (findR n encs C root).2.2.2.2 = 0) : 1 ≤ (findR n encs C root).1.size ∧ (findR n encs C root).1.size ≤ 256 := by
 unfold findR at h ⊢
 split at h
 ·simp at h
 ·rename_i i hi
  rcases hz : decI (encs.getD i ⟨#[]⟩) n with _ | ⟨a, b, c, d⟩
  ·rw [hz] at h; simp at h
  ·unfold decI at hz; dsimp only at hz
   split at hz
   ·rename_i hc
    obtain ⟨_, _, _, _, h5⟩ := hc; simp only [Option.some.injEq, Prod.mk.injEq] at hz; obtain ⟨rfl, rfl, rfl, rfl⟩ := hz; unfold nodeOk at h5; simp only [Bool.and_eq_true, decide_eq_true_eq] at h5; exact ⟨h5.1.1.1.1.2, h5.1.1.1.2⟩
   ·cases hz
theorem emp_not {k : ByteArray} (h : 1 ≤ k.size) : emp k = false := by
 cases hq : emp k
 ·rfl
 ·unfold emp at hq; rw [List.isEmpty_iff] at hq; have : k.size = 0 := by
   have := congrArg List.length hq; rw [ByteArray.toList_eq] at this
   simpa using this
  omega
theorem keysP_append (a b : List S65) : keysP (a ++ b) = keysP a ++ keysP b := by unfold keysP; rw [List.map_append]
theorem srt_mid {a b : List ByteArray} {k : ByteArray} (ha : Srt a) (hb : Srt b) (h1 : ∀ x ∈ a, ltK x k = true) (h2 : ∀ x ∈ b, ltK k x = true) : Srt (a ++ k :: b) :=
 List.pairwise_append.2 ⟨ha, List.pairwise_cons.2 ⟨h2, hb⟩, fun x hx y hy => by
  rcases List.mem_cons.1 hy with g | g
  ·rw [g]; exact h1 x hx
  ·exact ltK_tr (h1 x hx) (h2 y g)⟩
theorem walkI_srt (n : Nat) (encs : List ByteArray) (C : List (List Int)) (lo hi : ByteArray) : ∀ (k : Nat) (seen : Int) (root above blo bhi : ByteArray) (ps : List S65) (s' c' : Int), walkI n encs C lo hi k seen root above blo bhi = some (ps, s', c') →
  Srt (keysP ps) ∧ (∀ x ∈ keysP ps, inB blo bhi x) ∧ ∀ x ∈ keysP ps, x.size ≤ 256 := by
 intro k
 induction k with
 | zero => intro seen root above blo bhi ps s' c' h; cases h
 | succ k ih =>
  intro seen root above blo bhi ps s' c' h; have hnil : Srt (keysP ([] : List S65)) ∧ (∀ x ∈ keysP ([] : List S65), inB blo bhi x) ∧ ∀ x ∈ keysP ([] : List S65), x.size ≤ 256 := ⟨List.Pairwise.nil, by simp [keysP], by simp [keysP]⟩
  rw [walkI] at h
  split at h
  ·simp only [Option.some.injEq, Prod.mk.injEq] at h; obtain ⟨rfl, rfl, rfl⟩ := h; exact hnil
  split at h
  ·simp only [Option.some.injEq, Prod.mk.injEq] at h; obtain ⟨rfl, rfl, rfl⟩ := h; exact hnil
  split at h
  ·simp only [Option.some.injEq, Prod.mk.injEq] at h; obtain ⟨rfl, rfl, rfl⟩ := h; exact hnil
  rename_i hne
  split at h
  ·simp only [Option.some.injEq, Prod.mk.injEq] at h; obtain ⟨rfl, rfl, rfl⟩ := h; exact hnil
  have hc0 : (findR n encs C root).2.2.2.2 = 0 := Classical.byContradiction fun g => hne (.inl g)
  have hh : holdsB blo bhi (findR n encs C root).1 = true := by
   cases hq : holdsB blo bhi (findR n encs C root).1
   ·exact absurd (.inr (.inl hq)) hne
   ·rfl
  have hk := findR_key hc0; have hin := holdsB_in hh; have hek := emp_not hk.1; obtain ⟨⟨lp, ls, lc⟩, hL, h⟩ := Option.bind_eq_some_iff.1 h; dsimp only at h
  split at h
  ·simp only [Option.some.injEq, Prod.mk.injEq] at h; obtain ⟨rfl, rfl, rfl⟩ := h; exact hnil
  obtain ⟨⟨rp, rs, rc⟩, hR, h⟩ := Option.bind_eq_some_iff.1 h; dsimp only at h
  split at h
  ·simp only [Option.some.injEq, Prod.mk.injEq] at h; obtain ⟨rfl, rfl, rfl⟩ := h; exact hnil
  simp only [Option.some.injEq, Prod.mk.injEq] at h; obtain ⟨rfl, rfl, rfl⟩ := h; obtain ⟨l1, l2, l3⟩ := ih _ _ _ _ _ _ _ _ hL; obtain ⟨r1, r2, r3⟩ := ih _ _ _ _ _ _ _ _ hR; generalize (findR n encs C root).1 = key at *; have hlt : ∀ x ∈ keysP lp, ltK x key = true := fun x hx => by
   rcases (l2 x hx).2 with g | g
   ·rw [hek] at g; exact absurd g (by decide)
   ·exact g
  have hgt : ∀ x ∈ keysP rp, ltK key x = true := fun x hx => by
   rcases (r2 x hx).1 with g | g
   ·rw [hek] at g; exact absurd g (by decide)
   ·exact g
  have hmid := srt_mid l1 r1 hlt hgt; have hall : ∀ x ∈ keysP lp ++ key :: keysP rp, inB blo bhi x ∧ x.size ≤ 256 := fun x hx => by
   rcases List.mem_append.1 hx with g | g
   ·refine ⟨⟨(l2 x g).1, ?_⟩, l3 x g⟩
    rcases hin.2 with q | q
    ·exact .inl q
    ·exact .inr (ltK_tr (hlt x g) q)
   ·rcases List.mem_cons.1 g with g | g
    ·rw [g]; exact ⟨hin, hk.2⟩
    ·refine ⟨⟨?_, (r2 x g).2⟩, r3 x g⟩
     rcases hin.1 with q | q
     ·exact .inl q
     ·exact .inr (ltK_tr q (hgt x g))
  have hsub : (keysP ((if holdsW lo hi key = true then lp ++ [⟨key, (findR n encs C root).2.1⟩] else lp) ++ rp)).Sublist (keysP lp ++ key :: keysP rp) := by
   split
   ·rw [keysP_append, keysP_append, List.append_assoc]; exact List.Sublist.refl _
   ·rw [keysP_append]; exact List.Sublist.append_left (List.sublist_cons_self _ _) _
  exact ⟨List.Pairwise.sublist hsub hmid, fun x hx => (hall x (hsub.subset hx)).1, fun x hx => (hall x (hsub.subset hx)).2⟩
theorem rangeR_srt (W : Int) (l : List ByteArray) (root lo hi : ByteArray) : Srt (keysP (rangeR W l root lo hi).1) ∧ ∀ p ∈ (rangeR W l root lo hi).1, p.f0.size ≤ 256 := by
 have hnil : Srt (keysP ([] : List S65)) ∧ ∀ p ∈ ([] : List S65), p.f0.size ≤ 256 := ⟨List.Pairwise.nil, by simp⟩
 unfold rangeR
 split
 ·split
  ·exact hnil
  ·have h := walkG_some W.toNat l root lo hi; obtain ⟨r, hr⟩ : ∃ r, walkG W.toNat l root lo hi = r := ⟨_, rfl⟩
   rw [hr] at h ⊢; obtain ⟨ps, s, c⟩ := r; have := walkI_srt W.toNat l (cuts W.toNat l) lo hi 502 0 root _ _ _ _ _ _ h; exact ⟨this.1, fun p hp => this.2.2 p.f0 (List.mem_map_of_mem hp)⟩
 ·exact hnil
end Go.Proofs.YthnnphinfiobmaaDoor.Z
end
section
namespace Go.Proofs.YthnnphinfiobmaaDoor.Z
open RowKit YthnnphinfiobmaaDoor
set_option linter.all false
def loadR (W : Int) (l : List ByteArray) (a : ByteArray) : List S65 × Int := rangeR W l a ⟨#[]⟩ ⟨#[]⟩
theorem loadR_len (W : Int) (l : List ByteArray) (root : ByteArray) : (loadR W l root).1.length ≤ 500 := by
 unfold loadR rangeR
 split
 ·split
  ·exact Nat.zero_le _
  ·have h := walkG_some W.toNat l root ⟨#[]⟩ ⟨#[]⟩; obtain ⟨r, hr⟩ : ∃ r, walkG W.toNat l root ⟨#[]⟩ ⟨#[]⟩ = r := ⟨_, rfl⟩
   rw [hr] at h ⊢; obtain ⟨ps, s, c⟩ := r; have := walkI_len W.toNat l (cuts W.toNat l) ⟨#[]⟩ ⟨#[]⟩ 502 0 root _ _ _ _ _ _ h (by omega) (by omega); dsimp only; omega
 ·exact Nat.zero_le _
def diffR (W : Int) (l : List ByteArray) (a b : ByteArray) : List S120 × Int :=
 if a = b then ([], 0) else if (loadR W l a).2 = 0 then (if (loadR W l b).2 = 0 then (chgP (loadR W l a).1 (loadR W l b).1, 0) else ([], (loadR W l b).2)) else ([], (loadR W l a).2)
theorem chgP_len (ps qs : List S65) : (chgP ps qs).length ≤ ps.length + qs.length := by
 induction ps, qs using chgP.induct with
 | case1 => rw [chgP]; exact Nat.zero_le _
 | case2 p ps ih => rw [chgP]; simp only [List.length_cons, List.length_nil] at ih ⊢; omega
 | case3 q qs ih => rw [chgP]; simp only [List.length_cons, List.length_nil] at ih ⊢; omega
 | case4 p ps q qs h ih => rw [chgP, if_pos h]; simp only [List.length_cons] at ih ⊢; omega
 | case5 p ps q qs h h2 ih => rw [chgP, if_neg h, if_pos h2]; simp only [List.length_cons] at ih ⊢; omega
 | case6 p ps q qs h h2 h3 ih => rw [chgP, if_neg h, if_neg h2, if_pos h3]; simp only [List.length_cons] at ih ⊢; omega
 | case7 p ps q qs h h2 h3 ih => rw [chgP, if_neg h, if_neg h2, if_neg h3]; simp only [List.length_cons] at ih ⊢; omega
theorem diffR_len (W : Int) (l : List ByteArray) (a b : ByteArray) : (diffR W l a b).1.length ≤ 1000 := by
 unfold diffR; have h1 := loadR_len W l a; have h2 := loadR_len W l b; have h3 := chgP_len (loadR W l a).1 (loadR W l b).1
 split
 ·exact Nat.zero_le _
 ·split
  ·split
   ·dsimp only; omega
   ·exact Nat.zero_le _
  ·exact Nat.zero_le _
theorem impl_Load_v (W : Int) (l : List ByteArray) (a : ByteArray) (hl : small l) : impl_Load.f W l a = some (loadR W l a) := by
 unfold impl_Load.f impl_Range.f loadR; rw [if_pos hl, Option.bind_some]
theorem spec_Load_v (W : Int) (l : List ByteArray) (a : ByteArray) (hl : small l) (k : Nat) (hk : 2200000 < k) : spec_Load.f k W l a = some (loadR W l a) := by
 unfold spec_Load.f loadR; rw [spec_Range_f W l a ⟨#[]⟩ ⟨#[]⟩ hl (by decide) (by decide) k hk, Option.bind_some]
theorem impl_Diff_v (W : Int) (l : List ByteArray) (a b : ByteArray) (hl : small l) (k : Nat) (hk : 4000008 < k) : impl_Diff.f k W l a b = some (diffR W l a b) := by
 have h1 := loadR_len W l a; have h2 := loadR_len W l b; unfold impl_Diff.f diffR; rw [impl_Load_v W l a hl, impl_Load_v W l b hl]; simp only [Option.bind_some]
 by_cases h : a = b
 ·rw [if_pos (listK.2 h), if_pos h]
 ·rw [if_neg (fun g => h (listK.1 g)), if_neg h]
  by_cases h3 : (loadR W l a).2 = 0
  ·rw [if_pos h3, if_pos h3]
   by_cases h4 : (loadR W l b).2 = 0
   ·rw [if_pos h4, if_pos h4, changes_f _ _ (by omega) (by omega) k hk, Option.bind_some]
   ·rw [if_neg h4, if_neg h4]
  ·rw [if_neg h3, if_neg h3]
theorem spec_Diff_v (W : Int) (l : List ByteArray) (a b : ByteArray) (hl : small l) (k : Nat) (hk : 4000008 < k) : spec_Diff.f k W l a b = some (diffR W l a b) := by
 have h1 := loadR_len W l a; have h2 := loadR_len W l b; have s1 := rangeR_srt W l a ⟨#[]⟩ ⟨#[]⟩; have s2 := rangeR_srt W l b ⟨#[]⟩ ⟨#[]⟩; unfold spec_Diff.f diffR; rw [spec_Load_v W l a hl k (by omega), spec_Load_v W l b hl k (by omega)]; simp only [Option.bind_some]
 by_cases h : a = b
 ·rw [if_pos (listK.2 h), if_pos h]
 ·rw [if_neg (fun g => h (listK.1 g)), if_neg h]
  by_cases h3 : (loadR W l a).2 = 0
  ·rw [if_pos h3, if_pos h3]
   by_cases h4 : (loadR W l b).2 = 0
   ·rw [if_pos h4, if_pos h4, l4Changes_f _ _ (by omega) (by omega) (fun q hq => by have := s2.2 q hq; omega) k (by omega), Option.bind_some]; exact congrArg some (Prod.ext (chg_same _ _ s1.1 s2.1) rfl)
   ·rw [if_neg h4, if_neg h4]
  ·rw [if_neg h3, if_neg h3]
theorem laws_FnExactDiff_f (W : Int) (l : List ByteArray) (a1 a2 : ByteArray) (hs : ∀ s ∈ l, s.size ≤ 9223372036854775807) (hl : l.length ≤ 9223372036854775807) : laws_FnExactDiff.f 5000000 W l a1 a2 = some true := by
 unfold laws_FnExactDiff.f
 by_cases h1 : (a1.size : Int) > 1048576
 ·rw [if_pos h1]
 by_cases h2 : (a2.size : Int) > 1048576
 ·rw [if_neg h1, if_pos h2]
 rw [if_neg h1, if_neg h2]; obtain ⟨t, ht1, ht2⟩ := szPool_f W l hs hl 5000000 (by omega); rw [ht1, Option.bind_some]
 by_cases hn : t < 0
 ·rw [if_pos hn]
 obtain ⟨_, hsm⟩ := ht2 (by omega); have hll := hsm.1; obtain ⟨K, hK, hK2⟩ : ∃ K : Nat, 5000000 = K + 3 ∧ K = 4999997 := ⟨4999997, rfl, rfl⟩
 have hR := spec_Diff_v W l a1 a2 hsm 5000000 (by omega); have hI := fun k hk => impl_Diff_v W l a1 a2 hsm k hk
 have hlen := diffR_len W l a1 a2; obtain ⟨⟨ps, c⟩, hr⟩ : ∃ r, diffR W l a1 a2 = r := ⟨_, rfl⟩
 rw [hr] at hR hlen; simp only [hr] at hI; dsimp only at hlen; rw [if_neg hn, toPool_f W l (by omega) _ (by omega), Option.bind_some]; dsimp only; rw [hR, Option.bind_some, Option.bind_some]; dsimp only; rw [hI _ (by omega), Option.bind_some]; dsimp only; rw [eqChangeS_f ps (by omega) _ (by omega), Option.bind_some, if_pos rfl, bne_self_eq_false, hK]; simp only [laws_FnExactDiff.j0, Bool.false_eq_true, if_false]; obtain ⟨mx, ml, hm1, hm2⟩ := markPool_f W l (by omega) (K + 2) (by omega); rw [toPool_f W l (by omega) _ (by omega), Option.bind_some]; dsimp only; rw [eqPool_f W l (by omega) _ (by omega), Option.bind_some, if_pos rfl, hm1, Option.bind_some]; dsimp only; rw [if_neg (by omega), eqChangeS_f ps (by omega) _ (by omega), Option.bind_some, if_pos rfl, bne_self_eq_false]; simp only [laws_FnExactDiff.j1, Bool.false_eq_true, if_false]; rw [markChangeS_f ps (by omega) _ (by omega), Option.bind_some]; dsimp only; rw [heldChangeS_f ps.length (by omega) _ (by omega), Option.bind_some, if_neg (by omega), if_pos rfl, toPool_f W l (by omega) _ (by omega), Option.bind_some]; dsimp only; rw [hI _ (by omega), Option.bind_some]; dsimp only; rw [eqChangeS_f ps (by omega) _ (by omega), Option.bind_some, if_pos rfl, bne_self_eq_false]; simp only [laws_FnExactDiff.j2, Bool.false_eq_true, if_false]; rw [heldChangeS_f ps.length (by omega) _ (by omega), Option.bind_some, if_neg (by omega), if_pos rfl]
end Go.Proofs.YthnnphinfiobmaaDoor.Z
namespace Go.Proofs.YthnnphinfiobmaaDoor
open RowKit YthnnphinfiobmaaDoor.Z
theorem lawFnExactDiff (a0_0 : Int) (A0_1 : Option Addr) (c0_1 : Nat) (l0_1 : List ByteArray) (a1 a2 : ByteArray) (w : World) (hr0_1 : YthnnphinfiobmaaDoorW.PrintWords.Kd.C YthnnphinfiobmaaDoorW.PrintWords.Kd.string w A0_1 l0_1.length l0_1) (hc0_1 : l0_1.length ≤ c0_1) (hl : c0_1 ≤ maxLen) (hs : ∀ s ∈ l0_1, s.size ≤ maxLen) (hTab : Z.Tab w) :
  Calls Tryd.prog 8 #[.agg #[.int .i64 a0_0, .slice A0_1 l0_1.length c0_1], .string a1, .string a2] w fun e w' => e = .returned (.bool true) ∧ Below w.heap.size w w' :=
 laws_FnExactDiff.calls 5000000 a0_0 A0_1 c0_1 l0_1 a1 a2 true w hTab hr0_1 hc0_1 (laws_FnExactDiff_f a0_0 l0_1 a1 a2 (fun s h => by have := hs s h; unfold maxLen at this; omega) (by unfold maxLen at hl; omega))
end Go.Proofs.YthnnphinfiobmaaDoor
end
section
namespace Go.Proofs.YthnnphinfiobmaaDoor.Z
open RowKit Go.ChangeShapes Go.WideShapes Go.ChangeAt YthnnphinfiobmaaDoorW.PrintWords
set_option linter.all false
section
variable {H : Type} {enc : TypeId × Value → H} {P : Program} {W : World} {base : Nat} {spare : Nat → Bool} {held : Bool}
theorem add_add (a : Addr) (i j : Nat) : (a.add i).add j = a.add (i + j) := by
 unfold Addr.add
 split <;> split <;> simp_all <;> omega
theorem list_of {α : Type} (Q : Nat → α → Prop) : ∀ n, (∀ i, i < n → ∃ x, Q i x) → ∃ l : List α, l.length = n ∧ ∀ i x, l[i]? = some x → Q i x
 | 0, _ => ⟨[], rfl, fun i x h => by simp at h⟩
 | n + 1, h => by
  obtain ⟨l, hl, hq⟩ := list_of Q n (fun i hi => h i (by omega)); obtain ⟨x, hx⟩ := h n (by omega); refine ⟨l ++ [x], by simp [hl], fun i y hy => ?_⟩
  rcases Nat.lt_or_ge i l.length with h1 | h1
  ·rw [List.getElem?_append_left h1] at hy; exact hq i y hy
  ·rw [List.getElem?_append_right h1] at hy
   rcases Nat.eq_zero_or_pos (i - l.length) with h2 | h2
   ·rw [h2] at hy; obtain rfl := Option.some.inj hy; obtain rfl : i = n := by omega
    exact hx
   ·rw [List.getElem?_eq_none (by simp; omega)] at hy; cases hy
theorem open_kd {α : Type} (d : Kd α) (Q : α → Prop) {t e : TypeId} {fuel : Nat} {v : Value} {x : DataW H × List MemPlace} (ht : P.underlying t = some (.slice e)) (hc : P.cellsOf e = d.sz)
  (hK : ∀ cs n y, cs.length = d.sz → DataW.trod enc P W base spare held n e cs = some y → ∃ x, d.K W x cs ∧ Q x) (h : DataW.trod enc P W base spare held fuel t [v] = some x) :
  ∃ A c, ∃ l : List α, v = .slice A l.length c ∧ l.length ≤ c ∧ c ≤ maxLen ∧ d.C W A l.length l ∧ ∀ x ∈ l, Q x := by
 rcases DataW.trod_slice ht h with ⟨hcs, _⟩ | ⟨a, len, cap, elems, rest, m, _, hcs, hx, _, hl, hcap, hlen, hel, _⟩
 ·simp at hcs; subst hcs; refine ⟨none, 0, [], rfl, Nat.le_refl _, Nat.zero_le _, ⟨rfl, Nat.zero_le _, fun h => absurd h (Nat.lt_irrefl _)⟩, fun x hx => by cases hx⟩
 ·simp at hcs; subst hcs; have hp : ∀ i, i < len → ∃ x : α, ∃ cs, W.cells? base (a.add (i * d.sz)) d.sz = some cs ∧ cs.length = d.sz ∧ d.K W x cs ∧ Q x := by
   intro i hi; have h1 := hel i hi; rw [List.getElem?_eq_getElem (by omega), hc] at h1; obtain ⟨cs, hcs, hy⟩ := Option.bind_eq_some_iff.1 h1; have hln := (World.cells?_some hcs).2.1; obtain ⟨x, hx1, hx2⟩ := hK cs m _ hln hy; exact ⟨x, cs, hcs, hln, hx1, hx2⟩
  obtain ⟨l, hll, hq⟩ := list_of _ len hp; subst hll; refine ⟨some a, cap, l, rfl, hl, hcap, ⟨rfl, by unfold maxLen at hcap; omega, fun _ => ⟨a, rfl, fun j p hj => ?_⟩⟩, fun x hx => ?_⟩
  ·obtain ⟨cs, h1, h2, h3, _⟩ := hq j p hj; refine ⟨cs, h2, h3, fun i u hu => ?_⟩; have h4 := (World.cells?_some h1).2.2 i (by rw [← h2]; exact (List.getElem?_eq_some_iff.1 hu).1); rw [← add_add]; exact h4.trans hu
  ·obtain ⟨i, hi, rfl⟩ := List.getElem_of_mem hx; obtain ⟨cs, _, _, _, h5⟩ := hq i _ (List.getElem?_eq_getElem hi); exact h5
theorem open_strs {t e : TypeId} {fuel : Nat} {v : Value} {x : DataW H × List MemPlace} (ht : P.underlying t = some (.slice e)) (he : P.underlying e = some .string) (hc : P.cellsOf e = 1) (h : DataW.trod enc P W base spare held fuel t [v] = some x) :
  ∃ A c, ∃ l : List ByteArray, v = .slice A l.length c ∧ l.length ≤ c ∧ c ≤ maxLen ∧ Kd.C Kd.string W A l.length l ∧ ∀ s ∈ l, s.size ≤ maxLen :=
 open_kd Kd.string (fun s => s.size ≤ maxLen) ht hc (fun cs n y hl hy => by
  obtain ⟨s, rfl, _, hs⟩ := DataW.trod_string he hy; exact ⟨s, rfl, hs⟩) h
end
end Go.Proofs.YthnnphinfiobmaaDoor.Z
end
