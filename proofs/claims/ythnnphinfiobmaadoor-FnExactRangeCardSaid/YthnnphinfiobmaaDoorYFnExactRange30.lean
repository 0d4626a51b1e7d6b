/- Own texts and the print's words that they use, joined by a program of this session. -/
import Derived.Test.YthnnphinfiobmaaDoorYFnExactRange31
import Derived.Test.YthnnphinfiobmaaDoorYFnExactRange25
import Derived.Test.YthnnphinfiobmaaDoorYFnExactRange21
import Derived.Test.YthnnphinfiobmaaDoorYFnExactRange26
import Derived.Test.YthnnphinfiobmaaDoorYFnExactRange27
import Derived.Test.YthnnphinfiobmaaDoorYFnExactRange29
import Derived.Test.YthnnphinfiobmaaDoorYFnExactRange28
import Derived.Test.YthnnphinfiobmaaDoorYFnExactRange0
import Derived.ProofKit
import Derived.OpenShut
import Derived.ChangeSame
section
namespace Go.Proofs.YthnnphinfiobmaaDoor.Z
open Go.RowKit Go.Proofs.YthnnphinfiobmaaDoorW.PrintWords Go.Proofs.YthnnphinfiobmaaDoorW.PrintLast Go.Proofs.YthnnphinfiobmaaDoorW.PrintMore
attribute [local go_sem] max2_int min2_int max_two min_two max_three min_three max_four min_four
set_option linter.unusedVariables false
set_option linter.unusedSimpArgs false
mutual
def laws_FnExactRange.j0 : Nat → ByteArray → ByteArray → ByteArray → List (S65) → Int → List (S65) → Int → Bool → Int → List ByteArray → Int → List ByteArray → Option (Bool)
 | 0, _, _, _, _, _, _, _, _, _, _, _, _ => none
 | k + 1, x1, x2, x3, x10, x11, x13, x14, x61, x50002000, x50002001, x50016000, x50016001 => if x61 = true then (some false) else ((laws_toPool.f k x50002000 x50002001).bind fun bt50021 => ((laws_eqPool.f k x50016000 x50016001 bt50021.1 bt50021.2).bind fun t50025 => (if t50025 = true then ((laws_markPool.f k x50016000 x50016001 1).bind fun bt50026 => (if bt50026.1 < 0 then (laws_FnExactRange.j1 k x1 x2 x3 x10 x11 x13 true x50002000 x50002001) else ((laws_eqPairS.f k x13 x10).bind fun t50028 => (if t50028 = true then (laws_FnExactRange.j1 k x1 x2 x3 x10 x11 x13 (x14 != x11) x50002000 x50002001) else (laws_FnExactRange.j1 k x1 x2 x3 x10 x11 x13 true x50002000 x50002001))))) else (some false))))
def laws_FnExactRange.j1 : Nat → ByteArray → ByteArray → ByteArray → List (S65) → Int → List (S65) → Bool → Int → List ByteArray → Option (Bool)
 | 0, _, _, _, _, _, _, _, _, _ => none
 | k + 1, x1, x2, x3, x10, x11, x13, x82, x50002000, x50002001 => if x82 = true then (some false) else ((laws_markPairS.f k x13 1).bind fun bt50029 => ((laws_heldPairS.f k bt50029.2 1).bind fun t50031 => (if t50031 < 0 then (some false) else (if t50031 = bt50029.1 then ((laws_toPool.f k x50002000 x50002001).bind fun bt50032 => ((impl_Range.f bt50032.1 bt50032.2 x1 x2 x3).bind fun bt50036 => ((laws_eqPairS.f k bt50036.1 x10).bind fun t50040 => (if t50040 = true then (laws_FnExactRange.j2 k bt50029.2 bt50029.1 (bt50036.2 != x11)) else (laws_FnExactRange.j2 k bt50029.2 bt50029.1 true))))) else (some false)))))
def laws_FnExactRange.j2 : Nat → List (S65) → Int → Bool → Option (Bool)
 | 0, _, _, _ => none
 | k + 1, x13, x16, x111 => if x111 = true then (some false) else ((laws_heldPairS.f k x13 1).bind fun t50041 => (if t50041 < 0 then (some false) else (if t50041 = x16 then (some true) else (some false))))
end
def laws_FnExactRange.f (k : Nat) (a0_0 : Int) (l0_1 : List ByteArray) (a1 : ByteArray) (a2 : ByteArray) (a3 : ByteArray) : Option (Bool) := if (a1.size : Int) > 1048576 then (some true) else (if (a2.size : Int) > 1048576 then (some true) else (if (a3.size : Int) > 1048576 then (some true) else ((laws_szPool.f k a0_0 l0_1 1048576).bind fun t50002 => (if t50002 < 0 then (some true) else ((laws_toPool.f k a0_0 l0_1).bind fun bt50003 => ((spec_Range.f k bt50003.1 bt50003.2 a1 a2 a3).bind fun bt50007 => ((laws_toPool.f k a0_0 l0_1).bind fun bt50011 => ((impl_Range.f bt50011.1 bt50011.2 a1 a2 a3).bind fun bt50016 => ((laws_eqPairS.f k bt50016.1 bt50007.1).bind fun t50020 => (if t50020 = true then (laws_FnExactRange.j0 k a1 a2 a3 bt50007.1 bt50007.2 bt50016.1 bt50016.2 (bt50016.2 != bt50007.2) a0_0 l0_1 bt50011.1 bt50011.2) else (laws_FnExactRange.j0 k a1 a2 a3 bt50007.1 bt50007.2 bt50016.1 bt50016.2 true a0_0 l0_1 bt50011.1 bt50011.2)))))))))))
set_option maxHeartbeats 8000000 in
set_option maxRecDepth 100000 in
theorem laws_FnExactRange.calls (k : Nat) (a0_0 : Int) (A0_1 : Option Addr) (c0_1 : Nat) (l0_1 : List ByteArray) (a1 : ByteArray) (a2 : ByteArray) (a3 : ByteArray) (r : Bool) (w : World) (hTab : Tab w) (hr0_1 : Kd.C Kd.string w A0_1 l0_1.length l0_1) (hc0_1 : l0_1.length ≤ c0_1) (h : laws_FnExactRange.f k a0_0 l0_1 a1 a2 a3 = some r) :
  Calls Tryd.prog 5 #[.agg #[.int .i64 a0_0, .slice A0_1 l0_1.length c0_1], .string a1, .string a2, .string a3] w fun e w' => e = .returned (.bool r) ∧ Below w.heap.size w w' := by
 have hu34 := Tryd.underlying34; have hu38 := Tryd.underlying38; have HR0_1 := Aside0.mk hr0_1; have HC0_1 := Aside0.mk hc0_1; clear hr0_1 hc0_1; have HB := Aside0.mk (Below.refl w.heap.size w); have H : (if (a1.size : Int) > 1048576 then (some true) else (if (a2.size : Int) > 1048576 then (some true) else (if (a3.size : Int) > 1048576 then (some true) else ((laws_szPool.f k a0_0 l0_1 1048576).bind fun t50002 => (if t50002 < 0 then (some true) else ((laws_toPool.f k a0_0 l0_1).bind fun bt50003 => ((spec_Range.f k bt50003.1 bt50003.2 a1 a2 a3).bind fun bt50007 => ((laws_toPool.f k a0_0 l0_1).bind fun bt50011 => ((impl_Range.f bt50011.1 bt50011.2 a1 a2 a3).bind fun bt50016 => ((laws_eqPairS.f k bt50016.1 bt50007.1).bind fun t50020 => (if t50020 = true then (laws_FnExactRange.j0 k a1 a2 a3 bt50007.1 bt50007.2 bt50016.1 bt50016.2 (bt50016.2 != bt50007.2) a0_0 l0_1 bt50011.1 bt50011.2) else (laws_FnExactRange.j0 k a1 a2 a3 bt50007.1 bt50007.2 bt50016.1 bt50016.2 true a0_0 l0_1 bt50011.1 bt50011.2)))))))))))) = some r := h; clear h
 by_cases c5 : (a1.size : Int) > 1048576
 ·rw [if_pos c5] at H; have c5b0 : decide (1048576 < (a1.size : Int)) = true := decide_eq_true c5; have c5b1 : decide (1048576 < a1.size) = true := decide_eq_true (by omega); clear c5; obtain rfl := Option.some.inj H
  go_enter Tryd.func5, Tryd.ntmps5
  go_wp2_with (first | ((with_reducible refine gate_dst (N := 4) rfl ?_); refine box_event ?hg (N := 4) ?hd (cs := #[.int .i64 a0_0, .slice A0_1 l0_1.length c0_1]) (t := 34) ?hr ?_; (case hd => rfl); (case hg => rfl); (case hr => first | (go_simp; done) | (go_simp; rfl)); intro gb50001 hg w6 hbox hb; have n0_ := Aside0.mk (below_step zq_0 hb); have n1_ := Aside0.mk (hbox); have n2_ := Aside0.mk ((by rw [hg]; exact (below_size zq_0) : w.heap.size ≤ gb50001)); have n3_ := Aside0.mk ((by rw [hg]; exact (below_size zq_0) : w.heap.size ≤ gb50001)); clear HB; have HB := n0_; have BK50001 := n1_; have GW50001 := n2_; have GE50001 := n3_; clear n0_ n1_ n2_ n3_; clear hb hbox hg))
  go_ret
  exact ⟨by first | rfl | (simp [errW_none, errW_some] <;> rfl) | (simp [*, errW_none, errW_some] <;> rfl), by repeat (first | (with_reducible first | exact HB.out | apply below_alloc | apply pw_below_drewN | apply below_drew1 | refine below_set ?_ GE50001.out) | exact HB.out)⟩
 ·rw [if_neg c5] at H; have c5b0 : decide (1048576 < (a1.size : Int)) = false := decide_eq_false c5; have c5b1 : decide (1048576 < a1.size) = false := decide_eq_false (by omega); clear c5
  by_cases c7 : (a2.size : Int) > 1048576
  ·rw [if_pos c7] at H; have c7b0 : decide (1048576 < (a2.size : Int)) = true := decide_eq_true c7; have c7b1 : decide (1048576 < a2.size) = true := decide_eq_true (by omega); clear c7; obtain rfl := Option.some.inj H
   go_enter Tryd.func5, Tryd.ntmps5
   go_wp2_with (first | ((with_reducible refine gate_dst (N := 4) rfl ?_); refine box_event ?hg (N := 4) ?hd (cs := #[.int .i64 a0_0, .slice A0_1 l0_1.length c0_1]) (t := 34) ?hr ?_; (case hd => rfl); (case hg => rfl); (case hr => first | (go_simp; done) | (go_simp; rfl)); intro gb50001 hg w8 hbox hb; have n0_ := Aside0.mk (below_step zq_0 hb); have n1_ := Aside0.mk (hbox); have n2_ := Aside0.mk ((by rw [hg]; exact (below_size zq_0) : w.heap.size ≤ gb50001)); have n3_ := Aside0.mk ((by rw [hg]; exact (below_size zq_0) : w.heap.size ≤ gb50001)); clear HB; have HB := n0_; have BK50001 := n1_; have GW50001 := n2_; have GE50001 := n3_; clear n0_ n1_ n2_ n3_; clear hb hbox hg))
   go_ret
   exact ⟨by first | rfl | (simp [errW_none, errW_some] <;> rfl) | (simp [*, errW_none, errW_some] <;> rfl), by repeat (first | (with_reducible first | exact HB.out | apply below_alloc | apply pw_below_drewN | apply below_drew1 | refine below_set ?_ GE50001.out) | exact HB.out)⟩
  ·rw [if_neg c7] at H; have c7b0 : decide (1048576 < (a2.size : Int)) = false := decide_eq_false c7; have c7b1 : decide (1048576 < a2.size) = false := decide_eq_false (by omega); clear c7
   by_cases c9 : (a3.size : Int) > 1048576
   ·rw [if_pos c9] at H; have c9b0 : decide (1048576 < (a3.size : Int)) = true := decide_eq_true c9; have c9b1 : decide (1048576 < a3.size) = true := decide_eq_true (by omega); clear c9; obtain rfl := Option.some.inj H
    go_enter Tryd.func5, Tryd.ntmps5
    go_wp2_with (first | ((with_reducible refine gate_dst (N := 4) rfl ?_); refine box_event ?hg (N := 4) ?hd (cs := #[.int .i64 a0_0, .slice A0_1 l0_1.length c0_1]) (t := 34) ?hr ?_; (case hd => rfl); (case hg => rfl); (case hr => first | (go_simp; done) | (go_simp; rfl)); intro gb50001 hg w10 hbox hb; have n0_ := Aside0.mk (below_step zq_0 hb); have n1_ := Aside0.mk (hbox); have n2_ := Aside0.mk ((by rw [hg]; exact (below_size zq_0) : w.heap.size ≤ gb50001)); have n3_ := Aside0.mk ((by rw [hg]; exact (below_size zq_0) : w.heap.size ≤ gb50001)); clear HB; have HB := n0_; have BK50001 := n1_; have GW50001 := n2_; have GE50001 := n3_; clear n0_ n1_ n2_ n3_; clear hb hbox hg))
    go_ret
    exact ⟨by first | rfl | (simp [errW_none, errW_some] <;> rfl) | (simp [*, errW_none, errW_some] <;> rfl), by repeat (first | (with_reducible first | exact HB.out | apply below_alloc | apply pw_below_drewN | apply below_drew1 | refine below_set ?_ GE50001.out) | exact HB.out)⟩
   ·rw [if_neg c9] at H; have c9b0 : decide (1048576 < (a3.size : Int)) = false := decide_eq_false c9; have c9b1 : decide (1048576 < a3.size) = false := decide_eq_false (by omega); clear c9; replace H := Option.bind_eq_some_iff.mp H; obtain ⟨t50002, A110, H⟩ := H; replace H : (if t50002 < 0 then (some true) else ((laws_toPool.f k a0_0 l0_1).bind fun bt50003 => ((spec_Range.f k bt50003.1 bt50003.2 a1 a2 a3).bind fun bt50007 => ((laws_toPool.f k a0_0 l0_1).bind fun bt50011 => ((impl_Range.f bt50011.1 bt50011.2 a1 a2 a3).bind fun bt50016 => ((laws_eqPairS.f k bt50016.1 bt50007.1).bind fun t50020 => (if t50020 = true then (laws_FnExactRange.j0 k a1 a2 a3 bt50007.1 bt50007.2 bt50016.1 bt50016.2 (bt50016.2 != bt50007.2) a0_0 l0_1 bt50011.1 bt50011.2) else (laws_FnExactRange.j0 k a1 a2 a3 bt50007.1 bt50007.2 bt50016.1 bt50016.2 true a0_0 l0_1 bt50011.1 bt50011.2)))))))) = some r := H; have A11 := Aside0.mk A110; clear A110
    by_cases c12 : t50002 < 0
    ·rw [if_pos c12] at H; have c12b0 : decide (t50002 < 0) = true := decide_eq_true c12; clear c12; obtain rfl := Option.some.inj H
     go_enter Tryd.func5, Tryd.ntmps5
     go_wp2_with (first | ((with_reducible refine gate_dst (N := 4) rfl ?_); refine box_event ?hg (N := 4) ?hd (cs := #[.int .i64 a0_0, .slice A0_1 l0_1.length c0_1]) (t := 34) ?hr ?_; (case hd => rfl); (case hg => rfl); (case hr => first | (go_simp; done) | (go_simp; rfl)); intro gb50001 hg w13 hbox hb; have n0_ := Aside0.mk (below_step zq_0 hb); have n1_ := Aside0.mk (hbox); have n2_ := Aside0.mk ((by rw [hg]; exact (below_size zq_0) : w.heap.size ≤ gb50001)); have n3_ := Aside0.mk ((by rw [hg]; exact (below_size zq_0) : w.heap.size ≤ gb50001)); clear HB; have HB := n0_; have BK50001 := n1_; have GW50001 := n2_; have GE50001 := n3_; clear n0_ n1_ n2_ n3_; clear hb hbox hg; have hcz14_0 : w13.cell? ⟨gb50001, 0, none⟩ = some (.int .i64 a0_0) := (blk_cell BK50001.out 0).trans rfl; have hcz14_1 : w13.cell? ⟨gb50001, 1, none⟩ = some (.slice A0_1 l0_1.length c0_1) := (blk_cell BK50001.out 1).trans rfl; have hfz14_0 := blk_frozen BK50001.out 0; have hfz14_1 := blk_frozen BK50001.out 1) | ((with_reducible refine gate_callee (f := 16) rfl ?_); refine goesL_ (some 31) rfl rfl Tryd.func16 (by kernel_rfl) rfl #[.agg #[.int .i64 a0_0, .slice A0_1 l0_1.length c0_1], .int .i64 1048576] rfl zq_1 ?_; (with_reducible refine (laws_szPool.calls k a0_0 _ _ l0_1 1048576 t50002 _ ?side1 ?side2 A11.out).mono ?_); (case side1 => repeat (first | exact (Kd.C_below HR0_1.out HB.out) | (with_reducible refine Kd.C_alloc ?_ _) | (with_reducible refine Kd.C_drewN ?_ _) | (with_reducible refine Kd.C_drew ?_))); (case side2 => exact HC0_1.out); rintro e w15 ⟨rfl, hb⟩; refine ⟨_, rfl, ?_⟩; have n0_ := Aside0.mk (blk_below (g := gb50001) (o := .cells #[.int .i64 a0_0, .slice A0_1 l0_1.length c0_1] 34 (0, 0)) zq_9 hb); have n1_ := Aside0.mk (below_step zq_18 hb); clear BK50001; clear HB; have BK50001 := n0_; have HB := n1_; clear n0_ n1_; (try clear hb); (try clear hb2); (try clear hk); (try clear hi)))
     go_ret
     exact ⟨by first | rfl | (simp [errW_none, errW_some] <;> rfl) | (simp [*, errW_none, errW_some] <;> rfl), by repeat (first | (with_reducible first | exact HB.out | apply below_alloc | apply pw_below_drewN | apply below_drew1 | refine below_set ?_ GE50001.out) | exact HB.out)⟩
    ·rw [if_neg c12] at H; have c12b0 : decide (t50002 < 0) = false := decide_eq_false c12; clear c12; replace H := Option.bind_eq_some_iff.mp H; obtain ⟨⟨t50003, t50004⟩, A160, H⟩ := H; replace H : ((spec_Range.f k t50003 t50004 a1 a2 a3).bind fun bt50007 => ((laws_toPool.f k a0_0 l0_1).bind fun bt50011 => ((impl_Range.f bt50011.1 bt50011.2 a1 a2 a3).bind fun bt50016 => ((laws_eqPairS.f k bt50016.1 bt50007.1).bind fun t50020 => (if t50020 = true then (laws_FnExactRange.j0 k a1 a2 a3 bt50007.1 bt50007.2 bt50016.1 bt50016.2 (bt50016.2 != bt50007.2) a0_0 l0_1 bt50011.1 bt50011.2) else (laws_FnExactRange.j0 k a1 a2 a3 bt50007.1 bt50007.2 bt50016.1 bt50016.2 true a0_0 l0_1 bt50011.1 bt50011.2)))))) = some r := H; have A16 := Aside0.mk A160; clear A160; replace H := Option.bind_eq_some_iff.mp H; obtain ⟨⟨t50007, t50010⟩, A170, H⟩ := H; replace H : ((laws_toPool.f k a0_0 l0_1).bind fun bt50011 => ((impl_Range.f bt50011.1 bt50011.2 a1 a2 a3).bind fun bt50016 => ((laws_eqPairS.f k bt50016.1 t50007).bind fun t50020 => (if t50020 = true then (laws_FnExactRange.j0 k a1 a2 a3 t50007 t50010 bt50016.1 bt50016.2 (bt50016.2 != t50010) a0_0 l0_1 bt50011.1 bt50011.2) else (laws_FnExactRange.j0 k a1 a2 a3 t50007 t50010 bt50016.1 bt50016.2 true a0_0 l0_1 bt50011.1 bt50011.2))))) = some r := H; have A17 := Aside0.mk A170; clear A170; replace H := Option.bind_eq_some_iff.mp H; obtain ⟨⟨t50011, t50012⟩, A180, H⟩ := H; replace H : ((impl_Range.f t50011 t50012 a1 a2 a3).bind fun bt50016 => ((laws_eqPairS.f k bt50016.1 t50007).bind fun t50020 => (if t50020 = true then (laws_FnExactRange.j0 k a1 a2 a3 t50007 t50010 bt50016.1 bt50016.2 (bt50016.2 != t50010) a0_0 l0_1 t50011 t50012) else (laws_FnExactRange.j0 k a1 a2 a3 t50007 t50010 bt50016.1 bt50016.2 true a0_0 l0_1 t50011 t50012)))) = some r := H; have A18 := Aside0.mk A180; clear A180; replace H := Option.bind_eq_some_iff.mp H; obtain ⟨⟨t50016, t50019⟩, A190, H⟩ := H; replace H : ((laws_eqPairS.f k t50016 t50007).bind fun t50020 => (if t50020 = true then (laws_FnExactRange.j0 k a1 a2 a3 t50007 t50010 t50016 t50019 (t50019 != t50010) a0_0 l0_1 t50011 t50012) else (laws_FnExactRange.j0 k a1 a2 a3 t50007 t50010 t50016 t50019 true a0_0 l0_1 t50011 t50012))) = some r := H; have A19 := Aside0.mk A190; clear A190; have HC20 := Aside0.mk H; clear H
     go_enter Tryd.func5, Tryd.ntmps5
     go_upto_region 14 with (first | ((with_reducible refine gate_dst (N := 4) rfl ?_); refine box_event ?hg (N := 4) ?hd (cs := #[.int .i64 a0_0, .slice A0_1 l0_1.length c0_1]) (t := 34) ?hr ?_; (case hd => rfl); (case hg => rfl); (case hr => first | (go_simp; done) | (go_simp; rfl)); intro gb50001 hg w21 hbox hb; have n0_ := Aside0.mk (below_step zq_0 hb); have n1_ := Aside0.mk (hbox); have n2_ := Aside0.mk ((by rw [hg]; exact (below_size zq_0) : w.heap.size ≤ gb50001)); have n3_ := Aside0.mk ((by rw [hg]; exact (below_size zq_0) : w.heap.size ≤ gb50001)); clear HB; have HB := n0_; have BK50001 := n1_; have GW50001 := n2_; have GE50001 := n3_; clear n0_ n1_ n2_ n3_; clear hb hbox hg; have hcz22_0 : w21.cell? ⟨gb50001, 0, none⟩ = some (.int .i64 a0_0) := (blk_cell BK50001.out 0).trans rfl; have hcz22_1 : w21.cell? ⟨gb50001, 1, none⟩ = some (.slice A0_1 l0_1.length c0_1) := (blk_cell BK50001.out 1).trans rfl; have hfz22_0 := blk_frozen BK50001.out 0; have hfz22_1 := blk_frozen BK50001.out 1) | ((with_reducible refine gate_callee (f := 16) rfl ?_); refine goesL_ (some 31) rfl rfl Tryd.func16 (by kernel_rfl) rfl #[.agg #[.int .i64 a0_0, .slice A0_1 l0_1.length c0_1], .int .i64 1048576] rfl zq_1 ?_; (with_reducible refine (laws_szPool.calls k a0_0 _ _ l0_1 1048576 t50002 _ ?side1 ?side2 A11.out).mono ?_); (case side1 => repeat (first | exact (Kd.C_below HR0_1.out HB.out) | (with_reducible refine Kd.C_alloc ?_ _) | (with_reducible refine Kd.C_drewN ?_ _) | (with_reducible refine Kd.C_drew ?_))); (case side2 => exact HC0_1.out); rintro e w23 ⟨rfl, hb⟩; refine ⟨_, rfl, ?_⟩; have n0_ := Aside0.mk (blk_below (g := gb50001) (o := .cells #[.int .i64 a0_0, .slice A0_1 l0_1.length c0_1] 34 (0, 0)) zq_9 hb); have n1_ := Aside0.mk (below_step zq_18 hb); clear BK50001; clear HB; have BK50001 := n0_; have HB := n1_; clear n0_ n1_; (try clear hb); (try clear hb2); (try clear hk); (try clear hi); have hcz24_0 : w23.cell? ⟨gb50001, 0, none⟩ = some (.int .i64 a0_0) := (blk_cell BK50001.out 0).trans rfl; have hcz24_1 : w23.cell? ⟨gb50001, 1, none⟩ = some (.slice A0_1 l0_1.length c0_1) := (blk_cell BK50001.out 1).trans rfl; have hfz24_0 := blk_frozen BK50001.out 0; have hfz24_1 := blk_frozen BK50001.out 1) | ((with_reducible refine gate_callee (f := 18) rfl ?_); refine goesL_ (some 36) rfl rfl Tryd.func18 (by kernel_rfl) rfl #[.agg #[.int .i64 a0_0, .slice A0_1 l0_1.length c0_1]] rfl zq_1 ?_; (with_reducible refine (laws_toPool.calls k a0_0 _ _ l0_1 t50003 t50004 _ ?side1 ?side2 A16.out).mono ?_); (case side1 => repeat (first | exact (Kd.C_below HR0_1.out HB.out) | (with_reducible refine Kd.C_alloc ?_ _) | (with_reducible refine Kd.C_drewN ?_ _) | (with_reducible refine Kd.C_drew ?_))); (case side2 => exact HC0_1.out); rintro e w25 ⟨v50005, rfl, ho0, hb⟩; refine ⟨_, rfl, ?_⟩; have n0_ := Aside0.mk (Kd.R_lower ho0 (below_size zq_18)); have n1_ := Aside0.mk (blk_below (g := gb50001) (o := .cells #[.int .i64 a0_0, .slice A0_1 l0_1.length c0_1] 34 (0, 0)) zq_9 hb); have n2_ := Aside0.mk (below_step zq_18 hb); clear BK50001; clear HB; have HO50006 := n0_; have BK50001 := n1_; have HB := n2_; clear n0_ n1_ n2_; (try clear hb); (try clear hb2); (try clear hk); (try clear hi); (try clear ho0); obtain ⟨Ao26, co26, eo26⟩ := Kd.R_slice HO50006.out; subst eo26) | ((with_reducible refine gate_callee (f := 17) rfl ?_); refine goesL_ (some 40) rfl rfl Tryd.func17 (by kernel_rfl) rfl #[.agg #[.int .i64 t50003, .slice Ao26 t50004.length co26], .string a1, .string a2, .string a3] rfl zq_1 ?_; (with_reducible refine (spec_Range.calls k t50003 _ _ t50004 a1 a2 a3 t50007 t50010 _ ?side1 ?side2 A17.out).mono ?_); (case side1 => repeat (first | exact (Kd.R_reads' HO50006.out).2.2 | (with_reducible refine Kd.C_alloc ?_ _) | (with_reducible refine Kd.C_drewN ?_ _) | (with_reducible refine Kd.C_drew ?_))); (case side2 => exact (Kd.R_reads' HO50006.out).2.1); rintro e w27 ⟨v50008, rfl, ho0, hb⟩; refine ⟨_, rfl, ?_⟩; have n0_ := Aside0.mk (Kd.R_below (by (with_reducible repeat (first | apply Kd.R_alloc | apply Kd.R_drewN | apply Kd.R_drew)); exact HO50006.out) hb); have n1_ := Aside0.mk (Kd.R_lower ho0 (below_size zq_18)); have n2_ := Aside0.mk (blk_below (g := gb50001) (o := .cells #[.int .i64 a0_0, .slice A0_1 l0_1.length c0_1] 34 (0, 0)) zq_9 hb); have n3_ := Aside0.mk (below_step zq_18 hb); clear HO50006; clear BK50001; clear HB; have HO50006 := n0_; have HO50009 := n1_; have BK50001 := n2_; have HB := n3_; clear n0_ n1_ n2_ n3_; (try clear hb); (try clear hb2); (try clear hk); (try clear hi); (try clear ho0); have hcz28_0 : w27.cell? ⟨gb50001, 0, none⟩ = some (.int .i64 a0_0) := (blk_cell BK50001.out 0).trans rfl; have hcz28_1 : w27.cell? ⟨gb50001, 1, none⟩ = some (.slice A0_1 l0_1.length c0_1) := (blk_cell BK50001.out 1).trans rfl; have hfz28_0 := blk_frozen BK50001.out 0; have hfz28_1 := blk_frozen BK50001.out 1) | ((with_reducible refine gate_callee (f := 18) rfl ?_); refine goesL_ (some 44) rfl rfl Tryd.func18 (by kernel_rfl) rfl #[.agg #[.int .i64 a0_0, .slice A0_1 l0_1.length c0_1]] rfl zq_1 ?_; (with_reducible refine (laws_toPool.calls k a0_0 _ _ l0_1 t50011 t50012 _ ?side1 ?side2 A18.out).mono ?_); (case side1 => repeat (first | exact (Kd.C_below HR0_1.out HB.out) | (with_reducible refine Kd.C_alloc ?_ _) | (with_reducible refine Kd.C_drewN ?_ _) | (with_reducible refine Kd.C_drew ?_))); (case side2 => exact HC0_1.out); rintro e w29 ⟨v50013, rfl, ho0, hb⟩; refine ⟨_, rfl, ?_⟩; have n0_ := Aside0.mk (Kd.R_elder' (by (with_reducible repeat (first | apply Kd.R_alloc | apply Kd.R_drewN | apply Kd.R_drew)); exact HO50006.out) (Kd.R_base ho0) hb); have n1_ := Aside0.mk (Kd.R_below (by (with_reducible repeat (first | apply Kd.R_alloc | apply Kd.R_drewN | apply Kd.R_drew)); exact HO50009.out) hb); have n2_ := Aside0.mk (Kd.R_lower (Kd.R_new' ho0 (Kd.R_lt (by (with_reducible repeat (first | apply Kd.R_alloc | apply Kd.R_drewN | apply Kd.R_drew)); exact HO50006.out))) (below_size zq_18)); have n3_ := Aside0.mk (blk_below (g := gb50001) (o := .cells #[.int .i64 a0_0, .slice A0_1 l0_1.length c0_1] 34 (0, 0)) zq_9 hb); have n4_ := Aside0.mk (below_step zq_18 hb); clear HO50006; clear HO50009; clear BK50001; clear HB; have HO50006 := n0_; have HO50009 := n1_; have HO50014 := n2_; have BK50001 := n3_; have HB := n4_; clear n0_ n1_ n2_ n3_ n4_; (try clear hb); (try clear hb2); (try clear hk); (try clear hi); (try clear ho0)) | ((with_reducible refine gate_dst (N := 12) rfl ?_); refine box_event ?hg (N := 12) ?hd (cs := #[.int .i64 0, .slice none 0 0]) (t := 38) ?hr ?_; (case hd => rfl); (case hg => rfl); (case hr => first | (go_simp; done) | (go_simp; rfl)); intro gb50015 hg w30 hbox hb; have n0_ := Aside0.mk (Kd.R_below (by (with_reducible repeat (first | apply Kd.R_alloc | apply Kd.R_drewN | apply Kd.R_drew)); exact HO50006.out) hb); have n1_ := Aside0.mk (Kd.R_below (by (with_reducible repeat (first | apply Kd.R_alloc | apply Kd.R_drewN | apply Kd.R_drew)); exact HO50009.out) hb); have n2_ := Aside0.mk (Kd.R_below (by (with_reducible repeat (first | apply Kd.R_alloc | apply Kd.R_drewN | apply Kd.R_drew)); exact HO50014.out) hb); have n3_ := Aside0.mk (blk_below (g := gb50001) (o := .cells #[.int .i64 a0_0, .slice A0_1 l0_1.length c0_1] 34 (0, 0)) zq_9 hb); have n4_ := Aside0.mk (below_step zq_18 hb); have n5_ := Aside0.mk (hbox); have n6_ := Aside0.mk ((by rw [hg]; exact (below_size zq_18) : w.heap.size ≤ gb50015)); have n7_ := Aside0.mk ((by rw [hg]; exact (below_size zq_18) : w.heap.size ≤ gb50015)); have n8_ := Aside0.mk ((by rw [hg]; exact Nat.ne_of_lt (blk_lt (g := gb50001) (o := .cells #[.int .i64 a0_0, .slice A0_1 l0_1.length c0_1] 34 (0, 0)) zq_9) : gb50001 ≠ gb50015)); have n9_ := Aside0.mk ((by rw [hg]; exact Nat.ne_of_gt (blk_lt (g := gb50001) (o := .cells #[.int .i64 a0_0, .slice A0_1 l0_1.length c0_1] 34 (0, 0)) zq_9) : gb50015 ≠ gb50001)); clear HO50006; clear HO50009; clear HO50014; clear BK50001; clear HB; have HO50006 := n0_; have HO50009 := n1_; have HO50014 := n2_; have BK50001 := n3_; have HB := n4_; have BK50015 := n5_; have GW50015 := n6_; have GE50015 := n7_; have NB50001_50015 := n8_; have NB50015_50001 := n9_; clear n0_ n1_ n2_ n3_ n4_ n5_ n6_ n7_ n8_ n9_; clear hb hbox hg; have hnb31 := NB50015_50001.out; have hnc31 := NB50001_50015.out; have hcz32_0 : w30.cell? ⟨gb50015, 0, none⟩ = some (.int .i64 0) := (blk_cell BK50015.out 0).trans rfl; have hcz32_1 : w30.cell? ⟨gb50015, 1, none⟩ = some (.slice none 0 0) := (blk_cell BK50015.out 1).trans rfl; have hfz32_0 := blk_frozen BK50015.out 0; have hfz32_1 := blk_frozen BK50015.out 1; obtain ⟨Ao33, co33, eo33⟩ := Kd.R_slice HO50014.out; subst eo33) | ((with_reducible refine gate_callee (f := 19) rfl ?_); refine goesL_ (some 50) rfl rfl Tryd.func19 (by kernel_rfl) rfl #[.agg #[.int .i64 t50011, .slice Ao33 t50012.length co33], .string a1, .string a2, .string a3] rfl zq_1 ?_; (with_reducible refine (impl_Range.calls t50011 _ _ t50012 a1 a2 a3 t50016 t50019 _ ?side1 ?side2 A19.out).mono ?_); (case side1 => refine (Kd.R_reads' (e := 9) (base := w.heap.size) (ok := fun k_ => (True ∧ some k_ ≠ (.slice Ao26 t50004.length co26 : Value).ownBlock)) (n := t50012.length) (c := co33) ?_).2.2; exact (by (with_reducible repeat (first | apply Kd.R_alloc | apply Kd.R_drewN | apply Kd.R_drew)); exact (Kd.R_mono (Kd.R_far (p := ⟨gb50015, 1, none⟩) (Kd.R_far (p := ⟨gb50015, 0, none⟩) (Kd.R_types HO50014.out BK50015.out (by decide)) (fun _ hk => hk.2) (.int .i64 t50011)) (fun _ hk => hk.2) (.slice Ao33 t50012.length co33)) (fun _ h_ => h_.1)))); (case side2 => exact (Kd.R_reads' HO50014.out).2.1); rintro e w34 ⟨v50017, rfl, ho0, hb⟩; refine ⟨_, rfl, ?_⟩; have n0_ := Aside0.mk (Kd.R_below (by (with_reducible repeat (first | apply Kd.R_alloc | apply Kd.R_drewN | apply Kd.R_drew)); exact (Kd.R_mono (Kd.R_far (p := ⟨gb50015, 1, none⟩) (Kd.R_far (p := ⟨gb50015, 0, none⟩) (Kd.R_types HO50006.out BK50015.out (by decide)) (fun _ hk => hk.2) (.int .i64 t50011)) (fun _ hk => hk.2) (.slice Ao33 t50012.length co33)) (fun _ h_ => h_.1))) hb); have n1_ := Aside0.mk (Kd.R_elder' (by (with_reducible repeat (first | apply Kd.R_alloc | apply Kd.R_drewN | apply Kd.R_drew)); exact (Kd.R_mono (Kd.R_far (p := ⟨gb50015, 1, none⟩) (Kd.R_far (p := ⟨gb50015, 0, none⟩) (Kd.R_types HO50009.out BK50015.out (by decide)) (fun _ hk => hk.2) (.int .i64 t50011)) (fun _ hk => hk.2) (.slice Ao33 t50012.length co33)) (fun _ h_ => h_.1))) (Kd.R_base ho0) hb); have n2_ := Aside0.mk (Kd.R_below (by (with_reducible repeat (first | apply Kd.R_alloc | apply Kd.R_drewN | apply Kd.R_drew)); exact (Kd.R_mono (Kd.R_far (p := ⟨gb50015, 1, none⟩) (Kd.R_far (p := ⟨gb50015, 0, none⟩) (Kd.R_types HO50014.out BK50015.out (by decide)) (fun _ hk => hk.2) (.int .i64 t50011)) (fun _ hk => hk.2) (.slice Ao33 t50012.length co33)) (fun _ h_ => h_.1))) hb); have n3_ := Aside0.mk (Kd.R_lower (Kd.R_new' ho0 (Kd.R_lt (by (with_reducible repeat (first | apply Kd.R_alloc | apply Kd.R_drewN | apply Kd.R_drew)); exact (Kd.R_mono (Kd.R_far (p := ⟨gb50015, 1, none⟩) (Kd.R_far (p := ⟨gb50015, 0, none⟩) (Kd.R_types HO50009.out BK50015.out (by decide)) (fun _ hk => hk.2) (.int .i64 t50011)) (fun _ hk => hk.2) (.slice Ao33 t50012.length co33)) (fun _ h_ => h_.1))))) (below_size zq_5)); have n4_ := Aside0.mk (blk_below (g := gb50001) (o := .cells #[.int .i64 a0_0, .slice A0_1 l0_1.length c0_1] 34 (0, 0)) (by (with_reducible repeat (first | refine blk_drewN ?_ _ | refine blk_drew ?_ | refine blk_alloc ?_ _)); refine blk_far ?_ NB50001_50015.out _; (with_reducible repeat (first | refine blk_drewN ?_ _ | refine blk_drew ?_ | refine blk_alloc ?_ _)); refine blk_far ?_ NB50001_50015.out _; (with_reducible repeat (first | refine blk_drewN ?_ _ | refine blk_drew ?_ | refine blk_alloc ?_ _)); exact BK50001.out) hb); have n5_ := Aside0.mk (blk_below (g := gb50015) (o := .cells #[.int .i64 t50011, .slice Ao33 t50012.length co33] 38 (0, 0)) (by (with_reducible repeat (first | refine blk_drewN ?_ _ | refine blk_drew ?_ | refine blk_alloc ?_ _)); refine blk_put (cs := #[.int .i64 t50011, .slice none 0 0]) ?_ 1 _ rfl; (with_reducible repeat (first | refine blk_drewN ?_ _ | refine blk_drew ?_ | refine blk_alloc ?_ _)); refine blk_put (cs := #[.int .i64 0, .slice none 0 0]) ?_ 0 _ rfl; (with_reducible repeat (first | refine blk_drewN ?_ _ | refine blk_drew ?_ | refine blk_alloc ?_ _)); exact BK50015.out) hb); have n6_ := Aside0.mk (below_step zq_5 hb); clear HO50006; clear HO50009; clear HO50014; clear BK50001; clear BK50015; clear HB; have HO50006 := n0_; have HO50009 := n1_; have HO50014 := n2_; have HO50018 := n3_; have BK50001 := n4_; have BK50015 := n5_; have HB := n6_; clear n0_ n1_ n2_ n3_ n4_ n5_ n6_; (try clear hb); (try clear hb2); (try clear hk); (try clear hi); (try clear ho0)))
     (try simp only [Act.put, List.setIfInBounds_toArray, List.set_cons_zero, List.set_cons_succ])
     go_cut [61] (fun v61 wc => ∃ (kq : Nat) (x61_19 : Bool), v61 = .bool x61_19 ∧ Aside0 (laws_FnExactRange.j0 kq a1 a2 a3 t50007 t50010 t50016 t50019 x61_19 a0_0 l0_1 t50011 t50012 = some r) ∧ Aside0 (kq ≤ k) ∧ Aside0 (Kd.R k65 65 wc w.heap.size (fun k_ => some k_ ≠ (v50017 : Value).ownBlock) v50008 t50007) ∧ Aside0 (Kd.R k65 65 wc w.heap.size (fun k_ => some k_ ≠ (v50008 : Value).ownBlock) v50017 t50016) ∧ Aside0 (Kd.R Kd.string 9 wc w.heap.size (fun _ => True) (.slice Ao33 t50012.length co33) t50012) ∧ Aside0 (wc.heap[gb50001]? = some (.cells #[.int .i64 a0_0, (.slice A0_1 l0_1.length c0_1)] 34 (0, 0))) ∧ Aside0 (wc.heap[gb50015]? = some (.cells #[.int .i64 t50011, (.slice Ao33 t50012.length co33)] 38 (0, 0))) ∧ Aside0 (Below w.heap.size w wc))
     case first =>
      have H := HC20.out; clear HC20; replace H := Option.bind_eq_some_iff.mp H; obtain ⟨t50020, A350, H⟩ := H; replace H : (if t50020 = true then (laws_FnExactRange.j0 k a1 a2 a3 t50007 t50010 t50016 t50019 (t50019 != t50010) a0_0 l0_1 t50011 t50012) else (laws_FnExactRange.j0 k a1 a2 a3 t50007 t50010 t50016 t50019 true a0_0 l0_1 t50011 t50012)) = some r := H; have A35 := Aside0.mk A350; clear A350
      by_cases c36 : t50020 = true
      ·subst c36; have H1 : (laws_FnExactRange.j0 k a1 a2 a3 t50007 t50010 t50016 t50019 (t50019 != t50010) a0_0 l0_1 t50011 t50012) = some r := by rw [if_pos rfl] at H; exact H
       clear H; have H := H1; clear H1; have H' := Aside0.mk H; clear H; obtain ⟨Ao37, co37, eo37⟩ := Kd.R_slice HO50018.out; subst eo37; obtain ⟨Ao38, co38, eo38⟩ := Kd.R_slice HO50009.out; subst eo38
       go_wp2_with (first | ((with_reducible refine gate_callee (f := 13) rfl ?_); refine goesL_ (some 55) rfl rfl Tryd.func13 (by kernel_rfl) rfl #[.slice Ao37 t50016.length co37, .slice Ao38 t50007.length co38] rfl zq_1 ?_; (with_reducible refine (laws_eqPairS.calls k _ _ t50016 _ _ t50007 true _ ?side1 ?side2 ?side3 ?side4 A35.out).mono ?_); (case side1 => repeat (first | exact (Kd.R_reads' HO50018.out).2.2 | (with_reducible refine Kd.C_alloc ?_ _) | (with_reducible refine Kd.C_drewN ?_ _) | (with_reducible refine Kd.C_drew ?_))); (case side2 => exact (Kd.R_reads' HO50018.out).2.1); (case side3 => repeat (first | exact (Kd.R_reads' HO50009.out).2.2 | (with_reducible refine Kd.C_alloc ?_ _) | (with_reducible refine Kd.C_drewN ?_ _) | (with_reducible refine Kd.C_drew ?_))); (case side4 => exact (Kd.R_reads' HO50009.out).2.1); rintro e w39 ⟨rfl, hb⟩; refine ⟨_, rfl, ?_⟩; have n0_ := Aside0.mk (Kd.R_below (by (with_reducible repeat (first | apply Kd.R_alloc | apply Kd.R_drewN | apply Kd.R_drew)); exact HO50006.out) hb); have n1_ := Aside0.mk (Kd.R_below (by (with_reducible repeat (first | apply Kd.R_alloc | apply Kd.R_drewN | apply Kd.R_drew)); exact HO50009.out) hb); have n2_ := Aside0.mk (Kd.R_below (by (with_reducible repeat (first | apply Kd.R_alloc | apply Kd.R_drewN | apply Kd.R_drew)); exact HO50014.out) hb); have n3_ := Aside0.mk (Kd.R_below (by (with_reducible repeat (first | apply Kd.R_alloc | apply Kd.R_drewN | apply Kd.R_drew)); exact HO50018.out) hb); have n4_ := Aside0.mk (blk_below (g := gb50001) (o := .cells #[.int .i64 a0_0, .slice A0_1 l0_1.length c0_1] 34 (0, 0)) zq_9 hb); have n5_ := Aside0.mk (blk_below (g := gb50015) (o := .cells #[.int .i64 t50011, .slice Ao33 t50012.length co33] 38 (0, 0)) zq_14 hb); have n6_ := Aside0.mk (below_step zq_5 hb); clear HO50006; clear HO50009; clear HO50014; clear HO50018; clear BK50001; clear BK50015; clear HB; have HO50006 := n0_; have HO50009 := n1_; have HO50014 := n2_; have HO50018 := n3_; have BK50001 := n4_; have BK50015 := n5_; have HB := n6_; clear n0_ n1_ n2_ n3_ n4_ n5_ n6_; (try clear hb); (try clear hb2); (try clear hk); (try clear hi)))
       go_meet
       case rel => exact ⟨_, ((t50019 != t50010)), zq_11, H', ⟨by first | omega | exact Nat.le_refl _⟩, ⟨by (with_reducible repeat (first | apply Kd.R_alloc | apply Kd.R_drewN | apply Kd.R_drew)); exact Kd.R_mono HO50009.out (fun _ hk => hk.2)⟩, ⟨by (with_reducible repeat (first | apply Kd.R_alloc | apply Kd.R_drewN | apply Kd.R_drew)); exact Kd.R_mono HO50018.out (fun _ hk => hk.2)⟩, ⟨by (with_reducible repeat (first | apply Kd.R_alloc | apply Kd.R_drewN | apply Kd.R_drew)); exact Kd.R_mono HO50014.out (fun _ hk => trivial)⟩, ⟨by (with_reducible repeat (first | refine blk_drewN ?_ _ | refine blk_drew ?_ | refine blk_alloc ?_ _)); exact BK50001.out⟩, ⟨by (with_reducible repeat (first | refine blk_drewN ?_ _ | refine blk_drew ?_ | refine blk_alloc ?_ _)); exact BK50015.out⟩, ⟨by repeat (first | (with_reducible first | exact HB.out | apply below_alloc | apply pw_below_drewN | apply below_drew1 | refine below_set ?_ GE50001.out | refine below_set ?_ GE50015.out) | exact HB.out)⟩⟩
      ·replace c36 := Bool.eq_false_iff.mpr c36; subst c36; have H1 : (laws_FnExactRange.j0 k a1 a2 a3 t50007 t50010 t50016 t50019 true a0_0 l0_1 t50011 t50012) = some r := by rw [if_neg (show ¬ (false = true) by decide)] at H; exact H
       clear H; have H := H1; clear H1; have H' := Aside0.mk H; clear H; obtain ⟨Ao40, co40, eo40⟩ := Kd.R_slice HO50018.out; subst eo40; obtain ⟨Ao41, co41, eo41⟩ := Kd.R_slice HO50009.out; subst eo41
       go_wp2_with (first | ((with_reducible refine gate_callee (f := 13) rfl ?_); refine goesL_ (some 55) rfl rfl Tryd.func13 (by kernel_rfl) rfl #[.slice Ao40 t50016.length co40, .slice Ao41 t50007.length co41] rfl zq_1 ?_; (with_reducible refine (laws_eqPairS.calls k _ _ t50016 _ _ t50007 false _ ?side1 ?side2 ?side3 ?side4 A35.out).mono ?_); (case side1 => repeat (first | exact (Kd.R_reads' HO50018.out).2.2 | (with_reducible refine Kd.C_alloc ?_ _) | (with_reducible refine Kd.C_drewN ?_ _) | (with_reducible refine Kd.C_drew ?_))); (case side2 => exact (Kd.R_reads' HO50018.out).2.1); (case side3 => repeat (first | exact (Kd.R_reads' HO50009.out).2.2 | (with_reducible refine Kd.C_alloc ?_ _) | (with_reducible refine Kd.C_drewN ?_ _) | (with_reducible refine Kd.C_drew ?_))); (case side4 => exact (Kd.R_reads' HO50009.out).2.1); rintro e w42 ⟨rfl, hb⟩; refine ⟨_, rfl, ?_⟩; have n0_ := Aside0.mk (Kd.R_below (by (with_reducible repeat (first | apply Kd.R_alloc | apply Kd.R_drewN | apply Kd.R_drew)); exact HO50006.out) hb); have n1_ := Aside0.mk (Kd.R_below (by (with_reducible repeat (first | apply Kd.R_alloc | apply Kd.R_drewN | apply Kd.R_drew)); exact HO50009.out) hb); have n2_ := Aside0.mk (Kd.R_below (by (with_reducible repeat (first | apply Kd.R_alloc | apply Kd.R_drewN | apply Kd.R_drew)); exact HO50014.out) hb); have n3_ := Aside0.mk (Kd.R_below (by (with_reducible repeat (first | apply Kd.R_alloc | apply Kd.R_drewN | apply Kd.R_drew)); exact HO50018.out) hb); have n4_ := Aside0.mk (blk_below (g := gb50001) (o := .cells #[.int .i64 a0_0, .slice A0_1 l0_1.length c0_1] 34 (0, 0)) zq_9 hb); have n5_ := Aside0.mk (blk_below (g := gb50015) (o := .cells #[.int .i64 t50011, .slice Ao33 t50012.length co33] 38 (0, 0)) zq_14 hb); have n6_ := Aside0.mk (below_step zq_5 hb); clear HO50006; clear HO50009; clear HO50014; clear HO50018; clear BK50001; clear BK50015; clear HB; have HO50006 := n0_; have HO50009 := n1_; have HO50014 := n2_; have HO50018 := n3_; have BK50001 := n4_; have BK50015 := n5_; have HB := n6_; clear n0_ n1_ n2_ n3_ n4_ n5_ n6_; (try clear hb); (try clear hb2); (try clear hk); (try clear hi)))
       go_meet
       case rel => exact ⟨_, (true), zq_11, H', ⟨by first | omega | exact Nat.le_refl _⟩, ⟨by (with_reducible repeat (first | apply Kd.R_alloc | apply Kd.R_drewN | apply Kd.R_drew)); exact Kd.R_mono HO50009.out (fun _ hk => hk.2)⟩, ⟨by (with_reducible repeat (first | apply Kd.R_alloc | apply Kd.R_drewN | apply Kd.R_drew)); exact Kd.R_mono HO50018.out (fun _ hk => hk.2)⟩, ⟨by (with_reducible repeat (first | apply Kd.R_alloc | apply Kd.R_drewN | apply Kd.R_drew)); exact Kd.R_mono HO50014.out (fun _ hk => trivial)⟩, ⟨by (with_reducible repeat (first | refine blk_drewN ?_ _ | refine blk_drew ?_ | refine blk_alloc ?_ _)); exact BK50001.out⟩, ⟨by (with_reducible repeat (first | refine blk_drewN ?_ _ | refine blk_drew ?_ | refine blk_alloc ?_ _)); exact BK50015.out⟩, ⟨by repeat (first | (with_reducible first | exact HB.out | apply below_alloc | apply pw_below_drewN | apply below_drew1 | refine below_set ?_ GE50001.out | refine below_set ?_ GE50015.out) | exact HB.out)⟩⟩
     case rest =>
      clear HC20
      try clear c1
      try clear p2
      try clear c3
      try clear c5
      try clear c5b0
      try clear c5b1
      try clear c7
      try clear c7b0
      try clear c7b1
      try clear c9
      try clear c9b0
      try clear c9b1
      try clear c12
      try clear c12b0
      try clear c13
      try clear c16
      try clear c17
      try clear c18
      try clear c19
      try clear c31
      try clear c36
      try clear hcz14_0
      try clear hcz14_1
      try clear hcz22_0
      try clear hcz22_1
      try clear hcz24_0
      try clear hcz24_1
      try clear hcz28_0
      try clear hcz28_1
      try clear hcz32_0
      try clear hcz32_1
      try clear hfz14_0
      try clear hfz14_1
      try clear hfz22_0
      try clear hfz22_1
      try clear hfz24_0
      try clear hfz24_1
      try clear hfz28_0
      try clear hfz28_1
      try clear hfz32_0
      try clear hfz32_1
      obtain ⟨kq, x61_19, rfl, HA, HJ19, HO_10, HO_13, HO_50016001, BK50001, BK50015, HB⟩ := hcut
      cases kq with
      | zero => exact absurd HA.out (by simp [laws_FnExactRange.j0])
      | succ kj19 =>
       have H := HA.out; clear HA; simp only [laws_FnExactRange.j0] at H
       by_cases c43 : x61_19 = true
       ·subst c43; have H1 : (some false) = some r := by rw [if_pos rfl] at H; exact H
        clear H; have H := H1; clear H1; obtain rfl := Option.some.inj H
        go_wp2
        go_ret
        exact ⟨by first | rfl | (simp [errW_none, errW_some] <;> rfl) | (simp [*, errW_none, errW_some] <;> rfl), by repeat (first | (with_reducible first | exact HB.out | apply below_alloc | apply pw_below_drewN | apply below_drew1 | refine below_set ?_ GE50001.out | refine below_set ?_ GE50015.out) | exact HB.out)⟩
       ·replace c43 := Bool.eq_false_iff.mpr c43; subst c43; have H1 : ((laws_toPool.f kj19 a0_0 l0_1).bind fun bt50021 => ((laws_eqPool.f kj19 t50011 t50012 bt50021.1 bt50021.2).bind fun t50025 => (if t50025 = true then ((laws_markPool.f kj19 t50011 t50012 1).bind fun bt50026 => (if bt50026.1 < 0 then (laws_FnExactRange.j1 kj19 a1 a2 a3 t50007 t50010 t50016 true a0_0 l0_1) else ((laws_eqPairS.f kj19 t50016 t50007).bind fun t50028 => (if t50028 = true then (laws_FnExactRange.j1 kj19 a1 a2 a3 t50007 t50010 t50016 (t50019 != t50010) a0_0 l0_1) else (laws_FnExactRange.j1 kj19 a1 a2 a3 t50007 t50010 t50016 true a0_0 l0_1))))) else (some false)))) = some r := by rw [if_neg (show ¬ (false = true) by decide)] at H; exact H
        clear H; have H := H1; clear H1; replace H := Option.bind_eq_some_iff.mp H; obtain ⟨⟨t50021, t50022⟩, A440, H⟩ := H; replace H : ((laws_eqPool.f kj19 t50011 t50012 t50021 t50022).bind fun t50025 => (if t50025 = true then ((laws_markPool.f kj19 t50011 t50012 1).bind fun bt50026 => (if bt50026.1 < 0 then (laws_FnExactRange.j1 kj19 a1 a2 a3 t50007 t50010 t50016 true a0_0 l0_1) else ((laws_eqPairS.f kj19 t50016 t50007).bind fun t50028 => (if t50028 = true then (laws_FnExactRange.j1 kj19 a1 a2 a3 t50007 t50010 t50016 (t50019 != t50010) a0_0 l0_1) else (laws_FnExactRange.j1 kj19 a1 a2 a3 t50007 t50010 t50016 true a0_0 l0_1))))) else (some false))) = some r := H; have A44 := Aside0.mk A440; clear A440; replace H := Option.bind_eq_some_iff.mp H; obtain ⟨t50025, A450, H⟩ := H; replace H : (if t50025 = true then ((laws_markPool.f kj19 t50011 t50012 1).bind fun bt50026 => (if bt50026.1 < 0 then (laws_FnExactRange.j1 kj19 a1 a2 a3 t50007 t50010 t50016 true a0_0 l0_1) else ((laws_eqPairS.f kj19 t50016 t50007).bind fun t50028 => (if t50028 = true then (laws_FnExactRange.j1 kj19 a1 a2 a3 t50007 t50010 t50016 (t50019 != t50010) a0_0 l0_1) else (laws_FnExactRange.j1 kj19 a1 a2 a3 t50007 t50010 t50016 true a0_0 l0_1))))) else (some false)) = some r := H; have A45 := Aside0.mk A450; clear A450
        by_cases c46 : t50025 = true
        ·subst c46; have H1 : ((laws_markPool.f kj19 t50011 t50012 1).bind fun bt50026 => (if bt50026.1 < 0 then (laws_FnExactRange.j1 kj19 a1 a2 a3 t50007 t50010 t50016 true a0_0 l0_1) else ((laws_eqPairS.f kj19 t50016 t50007).bind fun t50028 => (if t50028 = true then (laws_FnExactRange.j1 kj19 a1 a2 a3 t50007 t50010 t50016 (t50019 != t50010) a0_0 l0_1) else (laws_FnExactRange.j1 kj19 a1 a2 a3 t50007 t50010 t50016 true a0_0 l0_1))))) = some r := by rw [if_pos rfl] at H; exact H
         clear H; have H := H1; clear H1; replace H := Option.bind_eq_some_iff.mp H; obtain ⟨⟨t50026, t50027⟩, A470, H⟩ := H; replace H : (if t50026 < 0 then (laws_FnExactRange.j1 kj19 a1 a2 a3 t50007 t50010 t50016 true a0_0 l0_1) else ((laws_eqPairS.f kj19 t50016 t50007).bind fun t50028 => (if t50028 = true then (laws_FnExactRange.j1 kj19 a1 a2 a3 t50007 t50010 t50016 (t50019 != t50010) a0_0 l0_1) else (laws_FnExactRange.j1 kj19 a1 a2 a3 t50007 t50010 t50016 true a0_0 l0_1)))) = some r := H; have A47 := Aside0.mk A470; clear A470; have HC48 := Aside0.mk H; clear H
         try go_wp2
         have n0_ := Aside0.mk (Kd.R_drew HO_10.out); have n1_ := Aside0.mk (Kd.R_drew HO_13.out); have n2_ := Aside0.mk (Kd.R_drew HO_50016001.out); have n3_ := Aside0.mk (blk_drew BK50001.out); have n4_ := Aside0.mk (blk_drew BK50015.out); have n5_ := Aside0.mk (below_drew1 HB.out); clear HO_10; clear HO_13; clear HO_50016001; clear BK50001; clear BK50015; clear HB; have HO_10 := n0_; have HO_13 := n1_; have HO_50016001 := n2_; have BK50001 := n3_; have BK50015 := n4_; have HB := n5_; clear n0_ n1_ n2_ n3_ n4_ n5_; refine start_ (n := 5) (S := fun w' => w'.cell? ⟨gb50015, 0, none⟩ = some (.int .i64 t50011) ∧ w'.cell? ⟨gb50015, 1, none⟩ = some (.slice Ao33 t50012.length co33) ∧ w'.cell? ⟨gb50001, 0, none⟩ = some (.int .i64 a0_0) ∧ w'.cell? ⟨gb50001, 1, none⟩ = some (.slice A0_1 l0_1.length c0_1)) (ds := []) #[false, false, false, false, false] (by kernel_rfl) rfl rfl ⟨(blk_cell BK50015.out 0).trans rfl, (blk_cell BK50015.out 1).trans rfl, (blk_cell BK50001.out 0).trans rfl, (blk_cell BK50001.out 1).trans rfl⟩ (fun hHeld => ?_); generalize wc.drew = w49 at HO_10 HO_13 HO_50016001 BK50001 BK50015 HB hHeld ⊢; refine take_ (i := 0) (N := some 62) (v := ?_) (a' := ?_) #[true, false, false, false, false] rfl rfl (by kernel_rfl) (fun _ _ _ h => h) (Or.inl ⟨by rfl, ?_⟩) hHeld ?_ ?_; rotate_left
         ·rintro w' ⟨s0, s1, s2, s3⟩; go_simp
          with_reducible rfl
         rotate_left
         ·simp only [Act.put, List.setIfInBounds_toArray, List.set_cons_zero, List.set_cons_succ, i64_w, i32_w]; rfl
         refine take_ (i := 1) (N := some 63) (v := ?_) (a' := ?_) #[true, true, false, false, false] rfl rfl (by kernel_rfl) (fun _ _ _ h => h) (Or.inl ⟨by rfl, ?_⟩) hHeld ?_ ?_; rotate_left
         ·rintro w' ⟨s0, s1, s2, s3⟩; go_simp
          with_reducible rfl
         rotate_left
         ·simp only [Act.put, List.setIfInBounds_toArray, List.set_cons_zero, List.set_cons_succ, i64_w, i32_w]; rfl
         refine one_ (i := 2) (N := some 64) #[true, true, true, false, false] rfl rfl (by kernel_rfl) (by decide) (fun K hK => ?_); refine goes_ Tryd.func18 (by kernel_rfl) rfl #[.agg #[.int .i64 a0_0, .slice A0_1 l0_1.length c0_1]] (by rfl) rfl rfl zq_1 ?_
         with_reducible refine (laws_toPool.calls kj19 a0_0 _ _ l0_1 t50021 t50022 _ ?side1 ?side2 A44.out).mono ?_
         (case side1 => repeat (first | exact (Kd.C_below HR0_1.out HB.out) | (with_reducible refine Kd.C_alloc ?_ _) | (with_reducible refine Kd.C_drewN ?_ _) | (with_reducible refine Kd.C_drew ?_))); (case side2 => exact HC0_1.out); rintro e w50 ⟨v50023, rfl, ho0, hb⟩; refine ⟨_, rfl, ?_⟩; have n0_ := Aside0.mk (Kd.R_below zq_7 hb); have n1_ := Aside0.mk (Kd.R_below zq_19 hb); have n2_ := Aside0.mk (Kd.R_elder' zq_17 (Kd.R_base ho0) hb); have n3_ := Aside0.mk (Kd.R_lower (Kd.R_new' ho0 (Kd.R_lt zq_17)) (below_size zq_5)); have n4_ := Aside0.mk (blk_below (g := gb50001) (o := .cells #[.int .i64 a0_0, .slice A0_1 l0_1.length c0_1] 34 (0, 0)) zq_9 hb); have n5_ := Aside0.mk (blk_below (g := gb50015) (o := .cells #[.int .i64 t50011, .slice Ao33 t50012.length co33] 38 (0, 0)) zq_14 hb); have n6_ := Aside0.mk (below_step zq_5 hb); clear HO_10; clear HO_13; clear HO_50016001; clear BK50001; clear BK50015; clear HB; have HO_10 := n0_; have HO_13 := n1_; have HO_50016001 := n2_; have HO50024 := n3_; have BK50001 := n4_; have BK50015 := n5_; have HB := n6_; clear n0_ n1_ n2_ n3_ n4_ n5_ n6_; (try clear hb); (try clear hb2); (try clear hk); (try clear hi); (try clear ho0); obtain ⟨Ao51, co51, eo51⟩ := Kd.R_slice HO50024.out; (first | subst eo51 | (injection eo51 with f1_ f2_ f3_; have f4_ := f1_.symm; have f5_ := f3_.symm; clear f1_ f2_ f3_; subst f4_; subst f5_))
         refine hK.out _ _ ⟨(blk_cell BK50015.out 0).trans rfl, (blk_cell BK50015.out 1).trans rfl, (blk_cell BK50001.out 0).trans rfl, (blk_cell BK50001.out 1).trans rfl⟩ (fun hHeld => ?_); clear hK K; refine norm_ (a' := ?_) ?_ ?_; rotate_left
         ·show Act.put _ (some 64) _ = _; simp only [Act.put, List.setIfInBounds_toArray, List.set_cons_zero, List.set_cons_succ, i64_w, i32_w]; rfl
         refine one_ (i := 3) (N := some 65) #[true, true, true, true, false] rfl rfl (by kernel_rfl) (by decide) (fun K hK => ?_); refine goes_ Tryd.func20 (by kernel_rfl) rfl #[.agg #[.int .i64 t50011, .slice Ao33 t50012.length co33], .agg #[.int .i64 t50021, .slice Ao51 t50022.length co51]] (by rfl) rfl rfl zq_1 ?_
         with_reducible refine (laws_eqPool.calls kj19 t50011 _ _ t50012 t50021 _ _ t50022 true _ ?side1 ?side2 ?side3 ?side4 A45.out).mono ?_
         (case side1 => repeat (first | exact (Kd.R_reads' HO_50016001.out).2.2 | (with_reducible refine Kd.C_alloc ?_ _) | (with_reducible refine Kd.C_drewN ?_ _) | (with_reducible refine Kd.C_drew ?_))); (case side2 => exact (Kd.R_reads' HO_50016001.out).2.1); (case side3 => repeat (first | exact (Kd.R_reads' HO50024.out).2.2 | (with_reducible refine Kd.C_alloc ?_ _) | (with_reducible refine Kd.C_drewN ?_ _) | (with_reducible refine Kd.C_drew ?_))); (case side4 => exact (Kd.R_reads' HO50024.out).2.1); rintro e w52 ⟨rfl, hb⟩; refine ⟨_, rfl, ?_⟩; have n0_ := Aside0.mk (Kd.R_below zq_7 hb); have n1_ := Aside0.mk (Kd.R_below zq_19 hb); have n2_ := Aside0.mk (Kd.R_below zq_17 hb); have n3_ := Aside0.mk (Kd.R_below (by (with_reducible repeat (first | apply Kd.R_alloc | apply Kd.R_drewN | apply Kd.R_drew)); exact HO50024.out) hb); have n4_ := Aside0.mk (blk_below (g := gb50001) (o := .cells #[.int .i64 a0_0, .slice A0_1 l0_1.length c0_1] 34 (0, 0)) zq_9 hb); have n5_ := Aside0.mk (blk_below (g := gb50015) (o := .cells #[.int .i64 t50011, .slice Ao33 t50012.length co33] 38 (0, 0)) zq_14 hb); have n6_ := Aside0.mk (below_step zq_5 hb); clear HO_10; clear HO_13; clear HO_50016001; clear HO50024; clear BK50001; clear BK50015; clear HB; have HO_10 := n0_; have HO_13 := n1_; have HO_50016001 := n2_; have HO50024 := n3_; have BK50001 := n4_; have BK50015 := n5_; have HB := n6_; clear n0_ n1_ n2_ n3_ n4_ n5_ n6_; (try clear hb); (try clear hb2); (try clear hk); (try clear hi); refine hK.out _ _ ⟨(blk_cell BK50015.out 0).trans rfl, (blk_cell BK50015.out 1).trans rfl, (blk_cell BK50001.out 0).trans rfl, (blk_cell BK50001.out 1).trans rfl⟩ (fun hHeld => ?_); clear hK K; refine norm_ (a' := ?_) ?_ ?_; rotate_left
         ·show Act.put _ (some 65) _ = _; simp only [Act.put, List.setIfInBounds_toArray, List.set_cons_zero, List.set_cons_succ, i64_w, i32_w]; rfl
         refine pure_ (i := 4) (N := some 66) (v := ?_) (a' := ?_) #[true, true, true, true, true] rfl rfl (by kernel_rfl) (fun _ _ _ h => h) (Or.inl ⟨by rfl, ?_⟩) ?_ ?_; rotate_left
         ·intro w'; go_simp
          with_reducible rfl
         rotate_left
         ·simp only [Act.put, List.setIfInBounds_toArray, List.set_cons_zero, List.set_cons_succ, i64_w, i32_w]; rfl
         refine done_ (by kernel_rfl) ?_; have hnb53 := NB50015_50001.out; have hnc53 := NB50001_50015.out; have hcz54_0 : w52.cell? ⟨gb50015, 0, none⟩ = some (.int .i64 t50011) := (blk_cell BK50015.out 0).trans rfl; have hcz54_1 : w52.cell? ⟨gb50015, 1, none⟩ = some (.slice Ao33 t50012.length co33) := (blk_cell BK50015.out 1).trans rfl; have hfz54_0 := blk_frozen BK50015.out 0; have hfz54_1 := blk_frozen BK50015.out 1
         go_upto_region 20 with (first | ((with_reducible refine gate_callee (f := 21) rfl ?_); refine goesL_ (some 69) rfl rfl Tryd.func21 (by kernel_rfl) rfl #[.agg #[.int .i64 t50011, .slice Ao33 t50012.length co33], .int .i64 1] rfl zq_1 ?_; (with_reducible refine (laws_markPool.calls kj19 t50011 (fun k_ => some k_ = (.slice Ao33 t50012.length co33 : Value).ownBlock) (.slice Ao33 t50012.length co33) t50012 1 t50026 t50027 w _ ?side1 ?side2 A47.out).mono ?_); (case side1 => repeat (first | (with_reducible first | exact HB.out | apply below_alloc | apply pw_below_drewN | apply below_drew1 | refine below_set ?_ GE50001.out | refine below_set ?_ GE50015.out) | exact HB.out)); (case side2 => exact Kd.R_tight rfl HO_50016001.out); rintro e w55 ⟨rfl, hy0, hb, hkp⟩; refine ⟨_, rfl, ?_⟩; have n0_ := Aside0.mk (Kd.R_mono (ok' := fun k_ => some k_ ≠ (v50017 : Value).ownBlock) (Kd.R_keptB ((Kd.R_apart' HO_10.out (Kd.R_typed HO_50016001.out) (by decide))) hkp (fun k_ hk_ hs_ => (hk_.2) hs_)) (fun k_ hk_ => hk_.1.1)); have n1_ := Aside0.mk (Kd.R_mono (ok' := fun k_ => some k_ ≠ (v50008 : Value).ownBlock) (Kd.R_keptB ((Kd.R_apart' HO_13.out (Kd.R_typed HO_50016001.out) (by decide))) hkp (fun k_ hk_ hs_ => (hk_.2) hs_)) (fun k_ hk_ => hk_.1.1)); have n2_ := Aside0.mk (Kd.R_reok rfl hy0 (fun k_ e_ => HO_50016001.out.1 k_ e_)); have n3_ := Aside0.mk (blk_kept zq_9 hkp (fun hs_ => (fun e_ => (Kd.R_ne HO_50016001.out BK50001.out (by decide)) e_) hs_)); have n4_ := Aside0.mk (blk_kept zq_14 hkp (fun hs_ => (fun e_ => (Kd.R_ne HO_50016001.out BK50015.out (by decide)) e_) hs_)); have n5_ := Aside0.mk (Kd.R_mono (ok' := fun k_ => some k_ ≠ (.slice Ao33 t50012.length co33 : Value).ownBlock) (Kd.R_keptB (HO50024.out) hkp (fun k_ hk_ hs_ => (hk_.2) hs_)) (fun k_ hk_ => hk_.1.2)); have n6_ := Aside0.mk (hb); clear HO_10; clear HO_13; clear HO_50016001; clear BK50001; clear BK50015; clear HO50024; clear HB; have HO_10 := n0_; have HO_13 := n1_; have HO_50016001 := n2_; have BK50001 := n3_; have BK50015 := n4_; have HO50024 := n5_; have HB := n6_; clear n0_ n1_ n2_ n3_ n4_ n5_ n6_; (try clear hb); (try clear hkp); (try clear hy0)))
         (try simp only [Act.put, List.setIfInBounds_toArray, List.set_cons_zero, List.set_cons_succ])
         go_cut [82] (fun v82 wc => ∃ (kq : Nat) (x82_47 : Bool), v82 = .bool x82_47 ∧ Aside0 (laws_FnExactRange.j1 kq a1 a2 a3 t50007 t50010 t50016 x82_47 a0_0 l0_1 = some r) ∧ Aside0 (kq ≤ kj19) ∧ Aside0 (Kd.R k65 65 wc w.heap.size (fun k_ => some k_ ≠ (v50017 : Value).ownBlock) v50008 t50007) ∧ Aside0 (Kd.R k65 65 wc w.heap.size (fun k_ => some k_ ≠ (v50008 : Value).ownBlock) v50017 t50016) ∧ Aside0 (Kd.R Kd.string 9 wc w.heap.size (fun _ => True) (.slice Ao33 t50012.length co33) t50027) ∧ Aside0 (wc.heap[gb50001]? = some (.cells #[.int .i64 a0_0, (.slice A0_1 l0_1.length c0_1)] 34 (0, 0))) ∧ Aside0 (wc.heap[gb50015]? = some (.cells #[.int .i64 t50011, (.slice Ao33 t50012.length co33)] 38 (0, 0))) ∧ Aside0 (Below w.heap.size w wc))
         case first =>
          have H := HC48.out; clear HC48
          by_cases c56 : t50026 < 0
          ·rw [if_pos c56] at H; have c56b0 : decide (t50026 < 0) = true := decide_eq_true c56; clear c56; (first | rw [c56b0] | (simp only [i64_w, i32_w]; rw [c56b0]) | skip); have H' := Aside0.mk H; clear H
           go_wp2
           go_meet
           case rel => exact ⟨_, (true), zq_11, H', ⟨by have := HJ19.out; first | omega | exact Nat.le_refl _⟩, ⟨by (with_reducible repeat (first | apply Kd.R_alloc | apply Kd.R_drewN | apply Kd.R_drew)); exact HO_10.out⟩, ⟨by (with_reducible repeat (first | apply Kd.R_alloc | apply Kd.R_drewN | apply Kd.R_drew)); exact HO_13.out⟩, ⟨by (with_reducible repeat (first | apply Kd.R_alloc | apply Kd.R_drewN | apply Kd.R_drew)); exact Kd.R_mono HO_50016001.out (fun _ hk => trivial)⟩, ⟨by (with_reducible repeat (first | refine blk_drewN ?_ _ | refine blk_drew ?_ | refine blk_alloc ?_ _)); exact BK50001.out⟩, ⟨by (with_reducible repeat (first | refine blk_drewN ?_ _ | refine blk_drew ?_ | refine blk_alloc ?_ _)); exact BK50015.out⟩, ⟨by repeat (first | (with_reducible first | exact HB.out | apply below_alloc | apply pw_below_drewN | apply below_drew1 | refine below_set ?_ GE50001.out | refine below_set ?_ GE50015.out) | exact HB.out)⟩⟩
          ·rw [if_neg c56] at H; have c56b0 : decide (t50026 < 0) = false := decide_eq_false c56; clear c56; (first | rw [c56b0] | (simp only [i64_w, i32_w]; rw [c56b0]) | skip); replace H := Option.bind_eq_some_iff.mp H; obtain ⟨t50028, A570, H⟩ := H; replace H : (if t50028 = true then (laws_FnExactRange.j1 kj19 a1 a2 a3 t50007 t50010 t50016 (t50019 != t50010) a0_0 l0_1) else (laws_FnExactRange.j1 kj19 a1 a2 a3 t50007 t50010 t50016 true a0_0 l0_1)) = some r := H; have A57 := Aside0.mk A570; clear A570
           by_cases c58 : t50028 = true
           ·subst c58; have H1 : (laws_FnExactRange.j1 kj19 a1 a2 a3 t50007 t50010 t50016 (t50019 != t50010) a0_0 l0_1) = some r := by rw [if_pos rfl] at H; exact H
            clear H; have H := H1; clear H1; have H' := Aside0.mk H; clear H; obtain ⟨Ao59, co59, eo59⟩ := Kd.R_slice HO_13.out; subst eo59; obtain ⟨Ao60, co60, eo60⟩ := Kd.R_slice HO_10.out; subst eo60
            go_wp2_with (first | (go_at_call 13; (with_reducible refine (laws_eqPairS.calls kj19 _ _ t50016 _ _ t50007 true _ ?side1 ?side2 ?side3 ?side4 A57.out).mono ?_); (case side1 => repeat (first | exact (Kd.R_reads' HO_13.out).2.2 | (with_reducible refine Kd.C_alloc ?_ _) | (with_reducible refine Kd.C_drewN ?_ _) | (with_reducible refine Kd.C_drew ?_))); (case side2 => exact (Kd.R_reads' HO_13.out).2.1); (case side3 => repeat (first | exact (Kd.R_reads' HO_10.out).2.2 | (with_reducible refine Kd.C_alloc ?_ _) | (with_reducible refine Kd.C_drewN ?_ _) | (with_reducible refine Kd.C_drew ?_))); (case side4 => exact (Kd.R_reads' HO_10.out).2.1); rintro e w61 ⟨rfl, hb⟩; have n0_ := Aside0.mk (Kd.R_below zq_7 hb); have n1_ := Aside0.mk (Kd.R_below zq_19 hb); have n2_ := Aside0.mk (Kd.R_below zq_17 hb); have n3_ := Aside0.mk (Kd.R_below (by (with_reducible repeat (first | apply Kd.R_alloc | apply Kd.R_drewN | apply Kd.R_drew)); exact HO50024.out) hb); have n4_ := Aside0.mk (blk_below (g := gb50001) (o := .cells #[.int .i64 a0_0, .slice A0_1 l0_1.length c0_1] 34 (0, 0)) zq_9 hb); have n5_ := Aside0.mk (blk_below (g := gb50015) (o := .cells #[.int .i64 t50011, .slice Ao33 t50012.length co33] 38 (0, 0)) zq_14 hb); have n6_ := Aside0.mk (below_step zq_5 hb); clear HO_10; clear HO_13; clear HO_50016001; clear HO50024; clear BK50001; clear BK50015; clear HB; have HO_10 := n0_; have HO_13 := n1_; have HO_50016001 := n2_; have HO50024 := n3_; have BK50001 := n4_; have BK50015 := n5_; have HB := n6_; clear n0_ n1_ n2_ n3_ n4_ n5_ n6_; (try clear hb); (try clear hb2); (try clear hk); (try clear hi)))
            go_meet
            case rel => exact ⟨_, ((t50019 != t50010)), zq_11, H', ⟨by have := HJ19.out; first | omega | exact Nat.le_refl _⟩, ⟨by (with_reducible repeat (first | apply Kd.R_alloc | apply Kd.R_drewN | apply Kd.R_drew)); exact HO_10.out⟩, ⟨by (with_reducible repeat (first | apply Kd.R_alloc | apply Kd.R_drewN | apply Kd.R_drew)); exact HO_13.out⟩, ⟨by (with_reducible repeat (first | apply Kd.R_alloc | apply Kd.R_drewN | apply Kd.R_drew)); exact Kd.R_mono HO_50016001.out (fun _ hk => trivial)⟩, ⟨by (with_reducible repeat (first | refine blk_drewN ?_ _ | refine blk_drew ?_ | refine blk_alloc ?_ _)); exact BK50001.out⟩, ⟨by (with_reducible repeat (first | refine blk_drewN ?_ _ | refine blk_drew ?_ | refine blk_alloc ?_ _)); exact BK50015.out⟩, ⟨by repeat (first | (with_reducible first | exact HB.out | apply below_alloc | apply pw_below_drewN | apply below_drew1 | refine below_set ?_ GE50001.out | refine below_set ?_ GE50015.out) | exact HB.out)⟩⟩
           ·replace c58 := Bool.eq_false_iff.mpr c58; subst c58; have H1 : (laws_FnExactRange.j1 kj19 a1 a2 a3 t50007 t50010 t50016 true a0_0 l0_1) = some r := by rw [if_neg (show ¬ (false = true) by decide)] at H; exact H
            clear H; have H := H1; clear H1; have H' := Aside0.mk H; clear H; obtain ⟨Ao62, co62, eo62⟩ := Kd.R_slice HO_13.out; subst eo62; obtain ⟨Ao63, co63, eo63⟩ := Kd.R_slice HO_10.out; subst eo63
            go_wp2_with (first | (go_at_call 13; (with_reducible refine (laws_eqPairS.calls kj19 _ _ t50016 _ _ t50007 false _ ?side1 ?side2 ?side3 ?side4 A57.out).mono ?_); (case side1 => repeat (first | exact (Kd.R_reads' HO_13.out).2.2 | (with_reducible refine Kd.C_alloc ?_ _) | (with_reducible refine Kd.C_drewN ?_ _) | (with_reducible refine Kd.C_drew ?_))); (case side2 => exact (Kd.R_reads' HO_13.out).2.1); (case side3 => repeat (first | exact (Kd.R_reads' HO_10.out).2.2 | (with_reducible refine Kd.C_alloc ?_ _) | (with_reducible refine Kd.C_drewN ?_ _) | (with_reducible refine Kd.C_drew ?_))); (case side4 => exact (Kd.R_reads' HO_10.out).2.1); rintro e w64 ⟨rfl, hb⟩; have n0_ := Aside0.mk (Kd.R_below zq_7 hb); have n1_ := Aside0.mk (Kd.R_below zq_19 hb); have n2_ := Aside0.mk (Kd.R_below zq_17 hb); have n3_ := Aside0.mk (Kd.R_below (by (with_reducible repeat (first | apply Kd.R_alloc | apply Kd.R_drewN | apply Kd.R_drew)); exact HO50024.out) hb); have n4_ := Aside0.mk (blk_below (g := gb50001) (o := .cells #[.int .i64 a0_0, .slice A0_1 l0_1.length c0_1] 34 (0, 0)) zq_9 hb); have n5_ := Aside0.mk (blk_below (g := gb50015) (o := .cells #[.int .i64 t50011, .slice Ao33 t50012.length co33] 38 (0, 0)) zq_14 hb); have n6_ := Aside0.mk (below_step zq_5 hb); clear HO_10; clear HO_13; clear HO_50016001; clear HO50024; clear BK50001; clear BK50015; clear HB; have HO_10 := n0_; have HO_13 := n1_; have HO_50016001 := n2_; have HO50024 := n3_; have BK50001 := n4_; have BK50015 := n5_; have HB := n6_; clear n0_ n1_ n2_ n3_ n4_ n5_ n6_; (try clear hb); (try clear hb2); (try clear hk); (try clear hi)))
            go_meet
            case rel => exact ⟨_, (true), zq_11, H', ⟨by have := HJ19.out; first | omega | exact Nat.le_refl _⟩, ⟨by (with_reducible repeat (first | apply Kd.R_alloc | apply Kd.R_drewN | apply Kd.R_drew)); exact HO_10.out⟩, ⟨by (with_reducible repeat (first | apply Kd.R_alloc | apply Kd.R_drewN | apply Kd.R_drew)); exact HO_13.out⟩, ⟨by (with_reducible repeat (first | apply Kd.R_alloc | apply Kd.R_drewN | apply Kd.R_drew)); exact Kd.R_mono HO_50016001.out (fun _ hk => trivial)⟩, ⟨by (with_reducible repeat (first | refine blk_drewN ?_ _ | refine blk_drew ?_ | refine blk_alloc ?_ _)); exact BK50001.out⟩, ⟨by (with_reducible repeat (first | refine blk_drewN ?_ _ | refine blk_drew ?_ | refine blk_alloc ?_ _)); exact BK50015.out⟩, ⟨by repeat (first | (with_reducible first | exact HB.out | apply below_alloc | apply pw_below_drewN | apply below_drew1 | refine below_set ?_ GE50001.out | refine below_set ?_ GE50015.out) | exact HB.out)⟩⟩
         case rest =>
          clear HC48
          try clear c1
          try clear c2
          try clear p2
          try clear c3
          try clear c4
          try clear c5
          try clear c5b0
          try clear c5b1
          try clear c7
          try clear c7b0
          try clear c7b1
          try clear c9
          try clear c9b0
          try clear c9b1
          try clear c12
          try clear c12b0
          try clear c13
          try clear c16
          try clear c17
          try clear c18
          try clear c19
          try clear c20
          try clear c21
          try clear c31
          try clear c36
          try clear c43
          try clear c46
          try clear c53
          try clear c56
          try clear c56b0
          try clear c58
          try clear hcz14_0
          try clear hcz14_1
          try clear hcz22_0
          try clear hcz22_1
          try clear hcz24_0
          try clear hcz24_1
          try clear hcz28_0
          try clear hcz28_1
          try clear hcz32_0
          try clear hcz32_1
          try clear hcz54_0
          try clear hcz54_1
          try clear hfz14_0
          try clear hfz14_1
          try clear hfz22_0
          try clear hfz22_1
          try clear hfz24_0
          try clear hfz24_1
          try clear hfz28_0
          try clear hfz28_1
          try clear hfz32_0
          try clear hfz32_1
          try clear hfz54_0
          try clear hfz54_1
          try clear p2
          obtain ⟨kq, x82_47, rfl, HA, HJ47, HO_10, HO_13, HO_50016001, BK50001, BK50015, HB⟩ := hcut; have hl50016001_47 := (Kd.R_reads' HO_50016001.out).1; rw [hl50016001_47] at HO_50016001; (try simp only [hl50016001_47]); (try simp only [hl50016001_47] at BK50001); (try simp only [hl50016001_47] at BK50015); (try simp only [hl50016001_47] at HO_10); (try simp only [hl50016001_47] at HO_13)
          cases kq with
          | zero => exact absurd HA.out (by simp [laws_FnExactRange.j1])
          | succ kj47 =>
           have H := HA.out; clear HA; simp only [laws_FnExactRange.j1] at H
           by_cases c65 : x82_47 = true
           ·subst c65; have H1 : (some false) = some r := by rw [if_pos rfl] at H; exact H
            clear H; have H := H1; clear H1; obtain rfl := Option.some.inj H
            go_wp2
            go_ret
            exact ⟨by first | rfl | (simp [errW_none, errW_some] <;> rfl) | (simp [*, errW_none, errW_some] <;> rfl), by repeat (first | (with_reducible first | exact HB.out | apply below_alloc | apply pw_below_drewN | apply below_drew1 | refine below_set ?_ GE50001.out | refine below_set ?_ GE50015.out) | exact HB.out)⟩
           ·replace c65 := Bool.eq_false_iff.mpr c65; subst c65; have H1 : ((laws_markPairS.f kj47 t50016 1).bind fun bt50029 => ((laws_heldPairS.f kj47 bt50029.2 1).bind fun t50031 => (if t50031 < 0 then (some false) else (if t50031 = bt50029.1 then ((laws_toPool.f kj47 a0_0 l0_1).bind fun bt50032 => ((impl_Range.f bt50032.1 bt50032.2 a1 a2 a3).bind fun bt50036 => ((laws_eqPairS.f kj47 bt50036.1 t50007).bind fun t50040 => (if t50040 = true then (laws_FnExactRange.j2 kj47 bt50029.2 bt50029.1 (bt50036.2 != t50010)) else (laws_FnExactRange.j2 kj47 bt50029.2 bt50029.1 true))))) else (some false))))) = some r := by rw [if_neg (show ¬ (false = true) by decide)] at H; exact H
            clear H; have H := H1; clear H1; replace H := Option.bind_eq_some_iff.mp H; obtain ⟨⟨t50029, t50030⟩, A660, H⟩ := H; replace H : ((laws_heldPairS.f kj47 t50030 1).bind fun t50031 => (if t50031 < 0 then (some false) else (if t50031 = t50029 then ((laws_toPool.f kj47 a0_0 l0_1).bind fun bt50032 => ((impl_Range.f bt50032.1 bt50032.2 a1 a2 a3).bind fun bt50036 => ((laws_eqPairS.f kj47 bt50036.1 t50007).bind fun t50040 => (if t50040 = true then (laws_FnExactRange.j2 kj47 t50030 t50029 (bt50036.2 != t50010)) else (laws_FnExactRange.j2 kj47 t50030 t50029 true))))) else (some false)))) = some r := H; have A66 := Aside0.mk A660; clear A660; replace H := Option.bind_eq_some_iff.mp H; obtain ⟨t50031, A670, H⟩ := H; replace H : (if t50031 < 0 then (some false) else (if t50031 = t50029 then ((laws_toPool.f kj47 a0_0 l0_1).bind fun bt50032 => ((impl_Range.f bt50032.1 bt50032.2 a1 a2 a3).bind fun bt50036 => ((laws_eqPairS.f kj47 bt50036.1 t50007).bind fun t50040 => (if t50040 = true then (laws_FnExactRange.j2 kj47 t50030 t50029 (bt50036.2 != t50010)) else (laws_FnExactRange.j2 kj47 t50030 t50029 true))))) else (some false))) = some r := H; have A67 := Aside0.mk A670; clear A670
            by_cases c68 : t50031 < 0
            ·rw [if_pos c68] at H; have c68b0 : decide (t50031 < 0) = true := decide_eq_true c68; clear c68; obtain rfl := Option.some.inj H; obtain ⟨Ao69, co69, eo69⟩ := Kd.R_slice HO_13.out; subst eo69
             go_wp2_with (first | ((with_reducible refine gate_callee (f := 22) rfl ?_); refine goesL_ (some 85) rfl rfl Tryd.func22 (by kernel_rfl) rfl #[.slice Ao69 t50016.length co69, .int .i64 1] rfl zq_1 ?_; (with_reducible refine (laws_markPairS.calls kj47 (fun k_ => some k_ = (.slice Ao69 t50016.length co69 : Value).ownBlock) (.slice Ao69 t50016.length co69) t50016 1 t50029 t50030 w _ ?side1 ?side2 A66.out).mono ?_); (case side1 => repeat (first | (with_reducible first | exact HB.out | apply below_alloc | apply pw_below_drewN | apply below_drew1 | refine below_set ?_ GE50001.out | refine below_set ?_ GE50015.out) | exact HB.out)); (case side2 => exact Kd.R_tight rfl HO_13.out); rintro e w70 ⟨rfl, hy0, hb, hkp⟩; refine ⟨_, rfl, ?_⟩; have n0_ := Aside0.mk (Kd.R_mono (ok' := fun k_ => some k_ ≠ (.slice Ao69 t50016.length co69 : Value).ownBlock) (Kd.R_keptB (HO_10.out) hkp (fun k_ hk_ hs_ => (hk_) hs_)) (fun k_ hk_ => hk_.1)); have n1_ := Aside0.mk (Kd.R_reok rfl hy0 (fun k_ e_ => HO_13.out.1 k_ e_)); have n2_ := Aside0.mk (Kd.R_mono (ok' := fun k_ => True) (Kd.R_keptB ((Kd.R_apart' HO_50016001.out (Kd.R_typed HO_13.out) (by decide))) hkp (fun k_ hk_ hs_ => (hk_.2) hs_)) (fun k_ hk_ => trivial)); have n3_ := Aside0.mk (blk_kept zq_9 hkp (fun hs_ => (fun e_ => (Kd.R_ne HO_13.out BK50001.out (by decide)) e_) hs_)); have n4_ := Aside0.mk (blk_kept zq_14 hkp (fun hs_ => (fun e_ => (Kd.R_ne HO_13.out BK50015.out (by decide)) e_) hs_)); have n5_ := Aside0.mk (hb); clear HO_10; clear HO_13; clear HO_50016001; clear BK50001; clear BK50015; clear HB; have HO_10 := n0_; have HO_13 := n1_; have HO_50016001 := n2_; have BK50001 := n3_; have BK50015 := n4_; have HB := n5_; clear n0_ n1_ n2_ n3_ n4_ n5_; (try clear hb); (try clear hkp); (try clear hy0)) | ((with_reducible refine gate_callee (f := 23) rfl ?_); refine goesL_ (some 88) rfl rfl Tryd.func23 (by kernel_rfl) rfl #[.slice Ao69 t50030.length co69, .int .i64 1] rfl (by (try simp only [List.map_toArray, List.map_cons, List.map_nil]); first | done | (rw [show t50030.length = t50016.length from (Kd.R_reads' HO_13.out).1.symm] <;> rfl) | rfl | (simp only [List.length_drop, List.length_take]; rfl)) ?_; (with_reducible refine (laws_heldPairS.calls kj47 _ _ t50030 1 t50031 _ ?side1 ?side2 A67.out).mono ?_); (case side1 => repeat (first | exact (Kd.R_reads' HO_13.out).2.2 | (with_reducible refine Kd.C_alloc ?_ _) | (with_reducible refine Kd.C_drewN ?_ _) | (with_reducible refine Kd.C_drew ?_))); (case side2 => rw [show t50030.length = t50016.length from (Kd.R_reads' HO_13.out).1.symm]; exact (Kd.R_reads' HO_13.out).2.1); rintro e w71 ⟨rfl, hb⟩; refine ⟨_, rfl, ?_⟩; have n0_ := Aside0.mk (Kd.R_below zq_7 hb); have n1_ := Aside0.mk (Kd.R_below zq_19 hb); have n2_ := Aside0.mk (Kd.R_below zq_17 hb); have n3_ := Aside0.mk (blk_below (g := gb50001) (o := .cells #[.int .i64 a0_0, .slice A0_1 l0_1.length c0_1] 34 (0, 0)) zq_9 hb); have n4_ := Aside0.mk (blk_below (g := gb50015) (o := .cells #[.int .i64 t50011, .slice Ao33 t50027.length co33] 38 (0, 0)) zq_14 hb); have n5_ := Aside0.mk (below_step zq_5 hb); clear HO_10; clear HO_13; clear HO_50016001; clear BK50001; clear BK50015; clear HB; have HO_10 := n0_; have HO_13 := n1_; have HO_50016001 := n2_; have BK50001 := n3_; have BK50015 := n4_; have HB := n5_; clear n0_ n1_ n2_ n3_ n4_ n5_; (try clear hb); (try clear hb2); (try clear hk); (try clear hi)))
             go_ret
             exact ⟨by first | rfl | (simp [errW_none, errW_some] <;> rfl) | (simp [*, errW_none, errW_some] <;> rfl), by repeat (first | (with_reducible first | exact HB.out | apply below_alloc | apply pw_below_drewN | apply below_drew1 | refine below_set ?_ GE50001.out | refine below_set ?_ GE50015.out) | exact HB.out)⟩
            ·rw [if_neg c68] at H; have c68b0 : decide (t50031 < 0) = false := decide_eq_false c68; clear c68
             by_cases c72 : t50031 = t50029
             ·rw [if_pos c72] at H; have c72b0 : (t50031 == t50029) = true := beq_iff_eq.mpr c72; have c72b1 : (t50031 != t50029) = false := bne_eq_false_iff_eq.mpr c72; clear c72; replace H := Option.bind_eq_some_iff.mp H; obtain ⟨⟨t50032, t50033⟩, A730, H⟩ := H; replace H : ((impl_Range.f t50032 t50033 a1 a2 a3).bind fun bt50036 => ((laws_eqPairS.f kj47 bt50036.1 t50007).bind fun t50040 => (if t50040 = true then (laws_FnExactRange.j2 kj47 t50030 t50029 (bt50036.2 != t50010)) else (laws_FnExactRange.j2 kj47 t50030 t50029 true)))) = some r := H; have A73 := Aside0.mk A730; clear A730; replace H := Option.bind_eq_some_iff.mp H; obtain ⟨⟨t50036, t50039⟩, A740, H⟩ := H; replace H : ((laws_eqPairS.f kj47 t50036 t50007).bind fun t50040 => (if t50040 = true then (laws_FnExactRange.j2 kj47 t50030 t50029 (t50039 != t50010)) else (laws_FnExactRange.j2 kj47 t50030 t50029 true))) = some r := H; have A74 := Aside0.mk A740; clear A740; have HC75 := Aside0.mk H; clear H; obtain ⟨Ao76, co76, eo76⟩ := Kd.R_slice HO_13.out; subst eo76
              go_upto_region 31 with (first | ((with_reducible refine gate_callee (f := 22) rfl ?_); refine goesL_ (some 85) rfl rfl Tryd.func22 (by kernel_rfl) rfl #[.slice Ao76 t50016.length co76, .int .i64 1] rfl zq_1 ?_; (with_reducible refine (laws_markPairS.calls kj47 (fun k_ => some k_ = (.slice Ao76 t50016.length co76 : Value).ownBlock) (.slice Ao76 t50016.length co76) t50016 1 t50029 t50030 w _ ?side1 ?side2 A66.out).mono ?_); (case side1 => repeat (first | (with_reducible first | exact HB.out | apply below_alloc | apply pw_below_drewN | apply below_drew1 | refine below_set ?_ GE50001.out | refine below_set ?_ GE50015.out) | exact HB.out)); (case side2 => exact Kd.R_tight rfl HO_13.out); rintro e w77 ⟨rfl, hy0, hb, hkp⟩; refine ⟨_, rfl, ?_⟩; have n0_ := Aside0.mk (Kd.R_mono (ok' := fun k_ => some k_ ≠ (.slice Ao76 t50016.length co76 : Value).ownBlock) (Kd.R_keptB (HO_10.out) hkp (fun k_ hk_ hs_ => (hk_) hs_)) (fun k_ hk_ => hk_.1)); have n1_ := Aside0.mk (Kd.R_reok rfl hy0 (fun k_ e_ => HO_13.out.1 k_ e_)); have n2_ := Aside0.mk (Kd.R_mono (ok' := fun k_ => True) (Kd.R_keptB ((Kd.R_apart' HO_50016001.out (Kd.R_typed HO_13.out) (by decide))) hkp (fun k_ hk_ hs_ => (hk_.2) hs_)) (fun k_ hk_ => trivial)); have n3_ := Aside0.mk (blk_kept zq_9 hkp (fun hs_ => (fun e_ => (Kd.R_ne HO_13.out BK50001.out (by decide)) e_) hs_)); have n4_ := Aside0.mk (blk_kept zq_14 hkp (fun hs_ => (fun e_ => (Kd.R_ne HO_13.out BK50015.out (by decide)) e_) hs_)); have n5_ := Aside0.mk (hb); clear HO_10; clear HO_13; clear HO_50016001; clear BK50001; clear BK50015; clear HB; have HO_10 := n0_; have HO_13 := n1_; have HO_50016001 := n2_; have BK50001 := n3_; have BK50015 := n4_; have HB := n5_; clear n0_ n1_ n2_ n3_ n4_ n5_; (try clear hb); (try clear hkp); (try clear hy0)) | ((with_reducible refine gate_callee (f := 23) rfl ?_); refine goesL_ (some 88) rfl rfl Tryd.func23 (by kernel_rfl) rfl #[.slice Ao76 t50030.length co76, .int .i64 1] rfl (by (try simp only [List.map_toArray, List.map_cons, List.map_nil]); first | done | (rw [show t50030.length = t50016.length from (Kd.R_reads' HO_13.out).1.symm] <;> rfl) | rfl | (simp only [List.length_drop, List.length_take]; rfl)) ?_; (with_reducible refine (laws_heldPairS.calls kj47 _ _ t50030 1 t50031 _ ?side1 ?side2 A67.out).mono ?_); (case side1 => repeat (first | exact (Kd.R_reads' HO_13.out).2.2 | (with_reducible refine Kd.C_alloc ?_ _) | (with_reducible refine Kd.C_drewN ?_ _) | (with_reducible refine Kd.C_drew ?_))); (case side2 => rw [show t50030.length = t50016.length from (Kd.R_reads' HO_13.out).1.symm]; exact (Kd.R_reads' HO_13.out).2.1); rintro e w78 ⟨rfl, hb⟩; refine ⟨_, rfl, ?_⟩; have n0_ := Aside0.mk (Kd.R_below zq_7 hb); have n1_ := Aside0.mk (Kd.R_below zq_19 hb); have n2_ := Aside0.mk (Kd.R_below zq_17 hb); have n3_ := Aside0.mk (blk_below (g := gb50001) (o := .cells #[.int .i64 a0_0, .slice A0_1 l0_1.length c0_1] 34 (0, 0)) zq_9 hb); have n4_ := Aside0.mk (blk_below (g := gb50015) (o := .cells #[.int .i64 t50011, .slice Ao33 t50027.length co33] 38 (0, 0)) zq_14 hb); have n5_ := Aside0.mk (below_step zq_5 hb); clear HO_10; clear HO_13; clear HO_50016001; clear BK50001; clear BK50015; clear HB; have HO_10 := n0_; have HO_13 := n1_; have HO_50016001 := n2_; have BK50001 := n3_; have BK50015 := n4_; have HB := n5_; clear n0_ n1_ n2_ n3_ n4_ n5_; (try clear hb); (try clear hb2); (try clear hk); (try clear hi); have hnb79 := NB50001_50015.out; have hnc79 := NB50015_50001.out; have hcz80_0 : w78.cell? ⟨gb50001, 0, none⟩ = some (.int .i64 a0_0) := (blk_cell BK50001.out 0).trans rfl; have hcz80_1 : w78.cell? ⟨gb50001, 1, none⟩ = some (.slice A0_1 l0_1.length c0_1) := (blk_cell BK50001.out 1).trans rfl; have hfz80_0 := blk_frozen BK50001.out 0; have hfz80_1 := blk_frozen BK50001.out 1) | ((with_reducible refine gate_callee (f := 18) rfl ?_); refine goesL_ (some 96) rfl rfl Tryd.func18 (by kernel_rfl) rfl #[.agg #[.int .i64 a0_0, .slice A0_1 l0_1.length c0_1]] rfl zq_1 ?_; (with_reducible refine (laws_toPool.calls kj47 a0_0 _ _ l0_1 t50032 t50033 _ ?side1 ?side2 A73.out).mono ?_); (case side1 => repeat (first | exact (Kd.C_below HR0_1.out HB.out) | (with_reducible refine Kd.C_alloc ?_ _) | (with_reducible refine Kd.C_drewN ?_ _) | (with_reducible refine Kd.C_drew ?_))); (case side2 => exact HC0_1.out); rintro e w81 ⟨v50034, rfl, ho0, hb⟩; refine ⟨_, rfl, ?_⟩; have n0_ := Aside0.mk (Kd.R_below zq_7 hb); have n1_ := Aside0.mk (Kd.R_below zq_19 hb); have n2_ := Aside0.mk (Kd.R_elder' zq_17 (Kd.R_base ho0) hb); have n3_ := Aside0.mk (Kd.R_lower (Kd.R_new' ho0 (Kd.R_lt zq_17)) (below_size zq_5)); have n4_ := Aside0.mk (blk_below (g := gb50001) (o := .cells #[.int .i64 a0_0, .slice A0_1 l0_1.length c0_1] 34 (0, 0)) zq_9 hb); have n5_ := Aside0.mk (blk_below (g := gb50015) (o := .cells #[.int .i64 t50011, .slice Ao33 t50027.length co33] 38 (0, 0)) zq_14 hb); have n6_ := Aside0.mk (below_step zq_5 hb); clear HO_10; clear HO_13; clear HO_50016001; clear BK50001; clear BK50015; clear HB; have HO_10 := n0_; have HO_13 := n1_; have HO_50016001 := n2_; have HO50035 := n3_; have BK50001 := n4_; have BK50015 := n5_; have HB := n6_; clear n0_ n1_ n2_ n3_ n4_ n5_ n6_; (try clear hb); (try clear hb2); (try clear hk); (try clear hi); (try clear ho0); obtain ⟨Ao82, co82, eo82⟩ := Kd.R_slice HO50035.out; subst eo82) | ((with_reducible refine gate_callee (f := 19) rfl ?_); refine goesL_ (some 100) rfl rfl Tryd.func19 (by kernel_rfl) rfl #[.agg #[.int .i64 t50032, .slice Ao82 t50033.length co82], .string a1, .string a2, .string a3] rfl zq_1 ?_; (with_reducible refine (impl_Range.calls t50032 _ _ t50033 a1 a2 a3 t50036 t50039 _ ?side1 ?side2 A74.out).mono ?_); (case side1 => repeat (first | exact (Kd.R_reads' HO50035.out).2.2 | (with_reducible refine Kd.C_alloc ?_ _) | (with_reducible refine Kd.C_drewN ?_ _) | (with_reducible refine Kd.C_drew ?_))); (case side2 => exact (Kd.R_reads' HO50035.out).2.1); rintro e w83 ⟨v50037, rfl, ho0, hb⟩; refine ⟨_, rfl, ?_⟩; have n0_ := Aside0.mk (Kd.R_elder' zq_7 (Kd.R_base ho0) hb); have n1_ := Aside0.mk (Kd.R_elder' zq_19 (Kd.R_base ho0) hb); have n2_ := Aside0.mk (Kd.R_below zq_17 hb); have n3_ := Aside0.mk (Kd.R_below (by (with_reducible repeat (first | apply Kd.R_alloc | apply Kd.R_drewN | apply Kd.R_drew)); exact HO50035.out) hb); have n4_ := Aside0.mk (Kd.R_lower (Kd.R_new' (Kd.R_new' ho0 (Kd.R_lt zq_7)) (Kd.R_lt zq_19)) (below_size zq_5)); have n5_ := Aside0.mk (blk_below (g := gb50001) (o := .cells #[.int .i64 a0_0, .slice A0_1 l0_1.length c0_1] 34 (0, 0)) zq_9 hb); have n6_ := Aside0.mk (blk_below (g := gb50015) (o := .cells #[.int .i64 t50011, .slice Ao33 t50027.length co33] 38 (0, 0)) zq_14 hb); have n7_ := Aside0.mk (below_step zq_5 hb); clear HO_10; clear HO_13; clear HO_50016001; clear HO50035; clear BK50001; clear BK50015; clear HB; have HO_10 := n0_; have HO_13 := n1_; have HO_50016001 := n2_; have HO50035 := n3_; have HO50038 := n4_; have BK50001 := n5_; have BK50015 := n6_; have HB := n7_; clear n0_ n1_ n2_ n3_ n4_ n5_ n6_ n7_; (try clear hb); (try clear hb2); (try clear hk); (try clear hi); (try clear ho0)))
              (try simp only [Act.put, List.setIfInBounds_toArray, List.set_cons_zero, List.set_cons_succ])
              go_cut [111] (fun v111 wc => ∃ (kq : Nat) (x111_74 : Bool), v111 = .bool x111_74 ∧ Aside0 (laws_FnExactRange.j2 kq t50030 t50029 x111_74 = some r) ∧ Aside0 (kq ≤ kj47) ∧ Aside0 (Kd.R k65 65 wc w.heap.size (fun _ => True) (.slice Ao76 t50016.length co76) t50030) ∧ Aside0 (Kd.R Kd.string 9 wc w.heap.size (fun _ => True) (.slice Ao33 t50027.length co33) t50027) ∧ Aside0 (wc.heap[gb50001]? = some (.cells #[.int .i64 a0_0, (.slice A0_1 l0_1.length c0_1)] 34 (0, 0))) ∧ Aside0 (wc.heap[gb50015]? = some (.cells #[.int .i64 t50011, (.slice Ao33 t50027.length co33)] 38 (0, 0))) ∧ Aside0 (Below w.heap.size w wc))
              case first =>
               have H := HC75.out; clear HC75; replace H := Option.bind_eq_some_iff.mp H; obtain ⟨t50040, A840, H⟩ := H; replace H : (if t50040 = true then (laws_FnExactRange.j2 kj47 t50030 t50029 (t50039 != t50010)) else (laws_FnExactRange.j2 kj47 t50030 t50029 true)) = some r := H; have A84 := Aside0.mk A840; clear A840
               by_cases c85 : t50040 = true
               ·subst c85; have H1 : (laws_FnExactRange.j2 kj47 t50030 t50029 (t50039 != t50010)) = some r := by rw [if_pos rfl] at H; exact H
                clear H; have H := H1; clear H1; have H' := Aside0.mk H; clear H; obtain ⟨Ao86, co86, eo86⟩ := Kd.R_slice HO50038.out; subst eo86; obtain ⟨Ao87, co87, eo87⟩ := Kd.R_slice HO_10.out; subst eo87
                go_wp2_with (first | ((with_reducible refine gate_callee (f := 13) rfl ?_); refine goesL_ (some 105) rfl rfl Tryd.func13 (by kernel_rfl) rfl #[.slice Ao86 t50036.length co86, .slice Ao87 t50007.length co87] rfl zq_1 ?_; (with_reducible refine (laws_eqPairS.calls kj47 _ _ t50036 _ _ t50007 true _ ?side1 ?side2 ?side3 ?side4 A84.out).mono ?_); (case side1 => repeat (first | exact (Kd.R_reads' HO50038.out).2.2 | (with_reducible refine Kd.C_alloc ?_ _) | (with_reducible refine Kd.C_drewN ?_ _) | (with_reducible refine Kd.C_drew ?_))); (case side2 => exact (Kd.R_reads' HO50038.out).2.1); (case side3 => repeat (first | exact (Kd.R_reads' HO_10.out).2.2 | (with_reducible refine Kd.C_alloc ?_ _) | (with_reducible refine Kd.C_drewN ?_ _) | (with_reducible refine Kd.C_drew ?_))); (case side4 => exact (Kd.R_reads' HO_10.out).2.1); rintro e w88 ⟨rfl, hb⟩; refine ⟨_, rfl, ?_⟩; have n0_ := Aside0.mk (Kd.R_below zq_7 hb); have n1_ := Aside0.mk (Kd.R_below zq_19 hb); have n2_ := Aside0.mk (Kd.R_below zq_17 hb); have n3_ := Aside0.mk (Kd.R_below (by (with_reducible repeat (first | apply Kd.R_alloc | apply Kd.R_drewN | apply Kd.R_drew)); exact HO50035.out) hb); have n4_ := Aside0.mk (Kd.R_below (by (with_reducible repeat (first | apply Kd.R_alloc | apply Kd.R_drewN | apply Kd.R_drew)); exact HO50038.out) hb); have n5_ := Aside0.mk (blk_below (g := gb50001) (o := .cells #[.int .i64 a0_0, .slice A0_1 l0_1.length c0_1] 34 (0, 0)) zq_9 hb); have n6_ := Aside0.mk (blk_below (g := gb50015) (o := .cells #[.int .i64 t50011, .slice Ao33 t50027.length co33] 38 (0, 0)) zq_14 hb); have n7_ := Aside0.mk (below_step zq_5 hb); clear HO_10; clear HO_13; clear HO_50016001; clear HO50035; clear HO50038; clear BK50001; clear BK50015; clear HB; have HO_10 := n0_; have HO_13 := n1_; have HO_50016001 := n2_; have HO50035 := n3_; have HO50038 := n4_; have BK50001 := n5_; have BK50015 := n6_; have HB := n7_; clear n0_ n1_ n2_ n3_ n4_ n5_ n6_ n7_; (try clear hb); (try clear hb2); (try clear hk); (try clear hi)))
                go_meet
                case rel => exact ⟨_, ((t50039 != t50010)), zq_11, H', ⟨by have := HJ19.out; have := HJ47.out; first | omega | exact Nat.le_refl _⟩, ⟨by (try simp only [hl50016001_47]); (with_reducible repeat (first | apply Kd.R_alloc | apply Kd.R_drewN | apply Kd.R_drew)); exact Kd.R_mono HO_13.out (fun _ hk => trivial)⟩, ⟨by (try simp only [hl50016001_47]); (with_reducible repeat (first | apply Kd.R_alloc | apply Kd.R_drewN | apply Kd.R_drew)); exact Kd.R_mono HO_50016001.out (fun _ hk => trivial)⟩, ⟨by (try simp only [hl50016001_47]); (with_reducible repeat (first | refine blk_drewN ?_ _ | refine blk_drew ?_ | refine blk_alloc ?_ _)); exact BK50001.out⟩, ⟨by (try simp only [hl50016001_47]); (with_reducible repeat (first | refine blk_drewN ?_ _ | refine blk_drew ?_ | refine blk_alloc ?_ _)); exact BK50015.out⟩, ⟨by repeat (first | (with_reducible first | exact HB.out | apply below_alloc | apply pw_below_drewN | apply below_drew1 | refine below_set ?_ GE50001.out | refine below_set ?_ GE50015.out) | exact HB.out)⟩⟩
               ·replace c85 := Bool.eq_false_iff.mpr c85; subst c85; have H1 : (laws_FnExactRange.j2 kj47 t50030 t50029 true) = some r := by rw [if_neg (show ¬ (false = true) by decide)] at H; exact H
                clear H; have H := H1; clear H1; have H' := Aside0.mk H; clear H; obtain ⟨Ao89, co89, eo89⟩ := Kd.R_slice HO50038.out; subst eo89; obtain ⟨Ao90, co90, eo90⟩ := Kd.R_slice HO_10.out; subst eo90
                go_wp2_with (first | ((with_reducible refine gate_callee (f := 13) rfl ?_); refine goesL_ (some 105) rfl rfl Tryd.func13 (by kernel_rfl) rfl #[.slice Ao89 t50036.length co89, .slice Ao90 t50007.length co90] rfl zq_1 ?_; (with_reducible refine (laws_eqPairS.calls kj47 _ _ t50036 _ _ t50007 false _ ?side1 ?side2 ?side3 ?side4 A84.out).mono ?_); (case side1 => repeat (first | exact (Kd.R_reads' HO50038.out).2.2 | (with_reducible refine Kd.C_alloc ?_ _) | (with_reducible refine Kd.C_drewN ?_ _) | (with_reducible refine Kd.C_drew ?_))); (case side2 => exact (Kd.R_reads' HO50038.out).2.1); (case side3 => repeat (first | exact (Kd.R_reads' HO_10.out).2.2 | (with_reducible refine Kd.C_alloc ?_ _) | (with_reducible refine Kd.C_drewN ?_ _) | (with_reducible refine Kd.C_drew ?_))); (case side4 => exact (Kd.R_reads' HO_10.out).2.1); rintro e w91 ⟨rfl, hb⟩; refine ⟨_, rfl, ?_⟩; have n0_ := Aside0.mk (Kd.R_below zq_7 hb); have n1_ := Aside0.mk (Kd.R_below zq_19 hb); have n2_ := Aside0.mk (Kd.R_below zq_17 hb); have n3_ := Aside0.mk (Kd.R_below (by (with_reducible repeat (first | apply Kd.R_alloc | apply Kd.R_drewN | apply Kd.R_drew)); exact HO50035.out) hb); have n4_ := Aside0.mk (Kd.R_below (by (with_reducible repeat (first | apply Kd.R_alloc | apply Kd.R_drewN | apply Kd.R_drew)); exact HO50038.out) hb); have n5_ := Aside0.mk (blk_below (g := gb50001) (o := .cells #[.int .i64 a0_0, .slice A0_1 l0_1.length c0_1] 34 (0, 0)) zq_9 hb); have n6_ := Aside0.mk (blk_below (g := gb50015) (o := .cells #[.int .i64 t50011, .slice Ao33 t50027.length co33] 38 (0, 0)) zq_14 hb); have n7_ := Aside0.mk (below_step zq_5 hb); clear HO_10; clear HO_13; clear HO_50016001; clear HO50035; clear HO50038; clear BK50001; clear BK50015; clear HB; have HO_10 := n0_; have HO_13 := n1_; have HO_50016001 := n2_; have HO50035 := n3_; have HO50038 := n4_; have BK50001 := n5_; have BK50015 := n6_; have HB := n7_; clear n0_ n1_ n2_ n3_ n4_ n5_ n6_ n7_; (try clear hb); (try clear hb2); (try clear hk); (try clear hi)))
                go_meet
                case rel => exact ⟨_, (true), zq_11, H', ⟨by have := HJ19.out; have := HJ47.out; first | omega | exact Nat.le_refl _⟩, ⟨by (try simp only [hl50016001_47]); (with_reducible repeat (first | apply Kd.R_alloc | apply Kd.R_drewN | apply Kd.R_drew)); exact Kd.R_mono HO_13.out (fun _ hk => trivial)⟩, ⟨by (try simp only [hl50016001_47]); (with_reducible repeat (first | apply Kd.R_alloc | apply Kd.R_drewN | apply Kd.R_drew)); exact Kd.R_mono HO_50016001.out (fun _ hk => trivial)⟩, ⟨by (try simp only [hl50016001_47]); (with_reducible repeat (first | refine blk_drewN ?_ _ | refine blk_drew ?_ | refine blk_alloc ?_ _)); exact BK50001.out⟩, ⟨by (try simp only [hl50016001_47]); (with_reducible repeat (first | refine blk_drewN ?_ _ | refine blk_drew ?_ | refine blk_alloc ?_ _)); exact BK50015.out⟩, ⟨by repeat (first | (with_reducible first | exact HB.out | apply below_alloc | apply pw_below_drewN | apply below_drew1 | refine below_set ?_ GE50001.out | refine below_set ?_ GE50015.out) | exact HB.out)⟩⟩
              case rest =>
               clear HC75
               try clear c1
               try clear c2
               try clear p2
               try clear c3
               try clear c4
               try clear c5
               try clear c5b0
               try clear c5b1
               try clear c6
               try clear c7
               try clear c7b0
               try clear c7b1
               try clear c8
               try clear c9
               try clear c9b0
               try clear c9b1
               try clear c12
               try clear c12b0
               try clear c13
               try clear c16
               try clear c17
               try clear c18
               try clear c19
               try clear c20
               try clear c21
               try clear c22
               try clear c23
               try clear c31
               try clear c36
               try clear c43
               try clear c46
               try clear c53
               try clear c56
               try clear c56b0
               try clear c58
               try clear c65
               try clear c68
               try clear c68b0
               try clear c72
               try clear c72b0
               try clear c72b1
               try clear c79
               try clear c85
               try clear hcz14_0
               try clear hcz14_1
               try clear hcz22_0
               try clear hcz22_1
               try clear hcz24_0
               try clear hcz24_1
               try clear hcz28_0
               try clear hcz28_1
               try clear hcz32_0
               try clear hcz32_1
               try clear hcz54_0
               try clear hcz54_1
               try clear hcz80_0
               try clear hcz80_1
               try clear hfz14_0
               try clear hfz14_1
               try clear hfz22_0
               try clear hfz22_1
               try clear hfz24_0
               try clear hfz24_1
               try clear hfz28_0
               try clear hfz28_1
               try clear hfz32_0
               try clear hfz32_1
               try clear hfz54_0
               try clear hfz54_1
               try clear hfz80_0
               try clear hfz80_1
               try clear p2
               obtain ⟨kq, x111_74, rfl, HA, HJ74, HO_13, HO_50016001, BK50001, BK50015, HB⟩ := hcut; have hl13_74 := (Kd.R_reads' HO_13.out).1; rw [hl13_74] at HO_13; (try simp only [hl13_74]); (try simp only [hl13_74] at BK50001); (try simp only [hl13_74] at BK50015); (try simp only [hl13_74] at HO_50016001)
               cases kq with
               | zero => exact absurd HA.out (by simp [laws_FnExactRange.j2])
               | succ kj74 =>
                have H := HA.out; clear HA; simp only [laws_FnExactRange.j2] at H
                by_cases c92 : x111_74 = true
                ·subst c92; have H1 : (some false) = some r := by rw [if_pos rfl] at H; exact H
                 clear H; have H := H1; clear H1; obtain rfl := Option.some.inj H
                 go_wp2
                 go_ret
                 exact ⟨by first | rfl | (simp [errW_none, errW_some] <;> rfl) | (simp [*, errW_none, errW_some] <;> rfl), by repeat (first | (with_reducible first | exact HB.out | apply below_alloc | apply pw_below_drewN | apply below_drew1 | refine below_set ?_ GE50001.out | refine below_set ?_ GE50015.out) | exact HB.out)⟩
                ·replace c92 := Bool.eq_false_iff.mpr c92; subst c92; have H1 : ((laws_heldPairS.f kj74 t50030 1).bind fun t50041 => (if t50041 < 0 then (some false) else (if t50041 = t50029 then (some true) else (some false)))) = some r := by rw [if_neg (show ¬ (false = true) by decide)] at H; exact H
                 clear H; have H := H1; clear H1; replace H := Option.bind_eq_some_iff.mp H; obtain ⟨t50041, A930, H⟩ := H; replace H : (if t50041 < 0 then (some false) else (if t50041 = t50029 then (some true) else (some false))) = some r := H; have A93 := Aside0.mk A930; clear A930
                 by_cases c94 : t50041 < 0
                 ·rw [if_pos c94] at H; have c94b0 : decide (t50041 < 0) = true := decide_eq_true c94; clear c94; obtain rfl := Option.some.inj H
                  go_wp2_with (first | ((with_reducible refine gate_callee (f := 23) rfl ?_); refine goesL_ (some 114) rfl rfl Tryd.func23 (by kernel_rfl) rfl #[.slice Ao76 t50030.length co76, .int .i64 1] rfl zq_1 ?_; (with_reducible refine (laws_heldPairS.calls kj74 _ _ t50030 1 t50041 _ ?side1 ?side2 A93.out).mono ?_); (case side1 => repeat (first | exact (Kd.R_reads' HO_13.out).2.2 | (with_reducible refine Kd.C_alloc ?_ _) | (with_reducible refine Kd.C_drewN ?_ _) | (with_reducible refine Kd.C_drew ?_))); (case side2 => exact (Kd.R_reads' HO_13.out).2.1); rintro e w95 ⟨rfl, hb⟩; refine ⟨_, rfl, ?_⟩; have n0_ := Aside0.mk (Kd.R_below zq_19 hb); have n1_ := Aside0.mk (Kd.R_below zq_17 hb); have n2_ := Aside0.mk (blk_below (g := gb50001) (o := .cells #[.int .i64 a0_0, .slice A0_1 l0_1.length c0_1] 34 (0, 0)) zq_9 hb); have n3_ := Aside0.mk (blk_below (g := gb50015) (o := .cells #[.int .i64 t50011, .slice Ao33 t50027.length co33] 38 (0, 0)) zq_14 hb); have n4_ := Aside0.mk (below_step zq_5 hb); clear HO_13; clear HO_50016001; clear BK50001; clear BK50015; clear HB; have HO_13 := n0_; have HO_50016001 := n1_; have BK50001 := n2_; have BK50015 := n3_; have HB := n4_; clear n0_ n1_ n2_ n3_ n4_; (try clear hb); (try clear hb2); (try clear hk); (try clear hi)))
                  go_ret
                  exact ⟨by first | rfl | (simp [errW_none, errW_some] <;> rfl) | (simp [*, errW_none, errW_some] <;> rfl), by repeat (first | (with_reducible first | exact HB.out | apply below_alloc | apply pw_below_drewN | apply below_drew1 | refine below_set ?_ GE50001.out | refine below_set ?_ GE50015.out) | exact HB.out)⟩
                 ·rw [if_neg c94] at H; have c94b0 : decide (t50041 < 0) = false := decide_eq_false c94; clear c94
                  by_cases c96 : t50041 = t50029
                  ·rw [if_pos c96] at H; have c96b0 : (t50041 == t50029) = true := beq_iff_eq.mpr c96; have c96b1 : (t50041 != t50029) = false := bne_eq_false_iff_eq.mpr c96; clear c96; obtain rfl := Option.some.inj H
                   go_wp2_with (first | ((with_reducible refine gate_callee (f := 23) rfl ?_); refine goesL_ (some 114) rfl rfl Tryd.func23 (by kernel_rfl) rfl #[.slice Ao76 t50030.length co76, .int .i64 1] rfl zq_1 ?_; (with_reducible refine (laws_heldPairS.calls kj74 _ _ t50030 1 t50041 _ ?side1 ?side2 A93.out).mono ?_); (case side1 => repeat (first | exact (Kd.R_reads' HO_13.out).2.2 | (with_reducible refine Kd.C_alloc ?_ _) | (with_reducible refine Kd.C_drewN ?_ _) | (with_reducible refine Kd.C_drew ?_))); (case side2 => exact (Kd.R_reads' HO_13.out).2.1); rintro e w97 ⟨rfl, hb⟩; refine ⟨_, rfl, ?_⟩; have n0_ := Aside0.mk (Kd.R_below zq_19 hb); have n1_ := Aside0.mk (Kd.R_below zq_17 hb); have n2_ := Aside0.mk (blk_below (g := gb50001) (o := .cells #[.int .i64 a0_0, .slice A0_1 l0_1.length c0_1] 34 (0, 0)) zq_9 hb); have n3_ := Aside0.mk (blk_below (g := gb50015) (o := .cells #[.int .i64 t50011, .slice Ao33 t50027.length co33] 38 (0, 0)) zq_14 hb); have n4_ := Aside0.mk (below_step zq_5 hb); clear HO_13; clear HO_50016001; clear BK50001; clear BK50015; clear HB; have HO_13 := n0_; have HO_50016001 := n1_; have BK50001 := n2_; have BK50015 := n3_; have HB := n4_; clear n0_ n1_ n2_ n3_ n4_; (try clear hb); (try clear hb2); (try clear hk); (try clear hi)))
                   go_ret
                   exact ⟨by first | rfl | (simp [errW_none, errW_some] <;> rfl) | (simp [*, errW_none, errW_some] <;> rfl), by repeat (first | (with_reducible first | exact HB.out | apply below_alloc | apply pw_below_drewN | apply below_drew1 | refine below_set ?_ GE50001.out | refine below_set ?_ GE50015.out) | exact HB.out)⟩
                  ·rw [if_neg c96] at H; have c96b0 : (t50041 == t50029) = false := beq_eq_false_iff_ne.mpr c96; have c96b1 : (t50041 != t50029) = true := bne_iff_ne.mpr c96; obtain rfl := Option.some.inj H
                   go_wp2_with (first | ((with_reducible refine gate_callee (f := 23) rfl ?_); refine goesL_ (some 114) rfl rfl Tryd.func23 (by kernel_rfl) rfl #[.slice Ao76 t50030.length co76, .int .i64 1] rfl zq_1 ?_; (with_reducible refine (laws_heldPairS.calls kj74 _ _ t50030 1 t50041 _ ?side1 ?side2 A93.out).mono ?_); (case side1 => repeat (first | exact (Kd.R_reads' HO_13.out).2.2 | (with_reducible refine Kd.C_alloc ?_ _) | (with_reducible refine Kd.C_drewN ?_ _) | (with_reducible refine Kd.C_drew ?_))); (case side2 => exact (Kd.R_reads' HO_13.out).2.1); rintro e w98 ⟨rfl, hb⟩; refine ⟨_, rfl, ?_⟩; have n0_ := Aside0.mk (Kd.R_below zq_19 hb); have n1_ := Aside0.mk (Kd.R_below zq_17 hb); have n2_ := Aside0.mk (blk_below (g := gb50001) (o := .cells #[.int .i64 a0_0, .slice A0_1 l0_1.length c0_1] 34 (0, 0)) zq_9 hb); have n3_ := Aside0.mk (blk_below (g := gb50015) (o := .cells #[.int .i64 t50011, .slice Ao33 t50027.length co33] 38 (0, 0)) zq_14 hb); have n4_ := Aside0.mk (below_step zq_5 hb); clear HO_13; clear HO_50016001; clear BK50001; clear BK50015; clear HB; have HO_13 := n0_; have HO_50016001 := n1_; have BK50001 := n2_; have BK50015 := n3_; have HB := n4_; clear n0_ n1_ n2_ n3_ n4_; (try clear hb); (try clear hb2); (try clear hk); (try clear hi)))
                   go_ret
                   exact ⟨by first | rfl | (simp [errW_none, errW_some] <;> rfl) | (simp [*, errW_none, errW_some] <;> rfl), by repeat (first | (with_reducible first | exact HB.out | apply below_alloc | apply pw_below_drewN | apply below_drew1 | refine below_set ?_ GE50001.out | refine below_set ?_ GE50015.out) | exact HB.out)⟩
             ·rw [if_neg c72] at H; have c72b0 : (t50031 == t50029) = false := beq_eq_false_iff_ne.mpr c72; have c72b1 : (t50031 != t50029) = true := bne_iff_ne.mpr c72; obtain rfl := Option.some.inj H; obtain ⟨Ao99, co99, eo99⟩ := Kd.R_slice HO_13.out; subst eo99
              go_wp2_with (first | ((with_reducible refine gate_callee (f := 22) rfl ?_); refine goesL_ (some 85) rfl rfl Tryd.func22 (by kernel_rfl) rfl #[.slice Ao99 t50016.length co99, .int .i64 1] rfl zq_1 ?_; (with_reducible refine (laws_markPairS.calls kj47 (fun k_ => some k_ = (.slice Ao99 t50016.length co99 : Value).ownBlock) (.slice Ao99 t50016.length co99) t50016 1 t50029 t50030 w _ ?side1 ?side2 A66.out).mono ?_); (case side1 => repeat (first | (with_reducible first | exact HB.out | apply below_alloc | apply pw_below_drewN | apply below_drew1 | refine below_set ?_ GE50001.out | refine below_set ?_ GE50015.out) | exact HB.out)); (case side2 => exact Kd.R_tight rfl HO_13.out); rintro e w100 ⟨rfl, hy0, hb, hkp⟩; refine ⟨_, rfl, ?_⟩; have n0_ := Aside0.mk (Kd.R_mono (ok' := fun k_ => some k_ ≠ (.slice Ao99 t50016.length co99 : Value).ownBlock) (Kd.R_keptB (HO_10.out) hkp (fun k_ hk_ hs_ => (hk_) hs_)) (fun k_ hk_ => hk_.1)); have n1_ := Aside0.mk (Kd.R_reok rfl hy0 (fun k_ e_ => HO_13.out.1 k_ e_)); have n2_ := Aside0.mk (Kd.R_mono (ok' := fun k_ => True) (Kd.R_keptB ((Kd.R_apart' HO_50016001.out (Kd.R_typed HO_13.out) (by decide))) hkp (fun k_ hk_ hs_ => (hk_.2) hs_)) (fun k_ hk_ => trivial)); have n3_ := Aside0.mk (blk_kept zq_9 hkp (fun hs_ => (fun e_ => (Kd.R_ne HO_13.out BK50001.out (by decide)) e_) hs_)); have n4_ := Aside0.mk (blk_kept zq_14 hkp (fun hs_ => (fun e_ => (Kd.R_ne HO_13.out BK50015.out (by decide)) e_) hs_)); have n5_ := Aside0.mk (hb); clear HO_10; clear HO_13; clear HO_50016001; clear BK50001; clear BK50015; clear HB; have HO_10 := n0_; have HO_13 := n1_; have HO_50016001 := n2_; have BK50001 := n3_; have BK50015 := n4_; have HB := n5_; clear n0_ n1_ n2_ n3_ n4_ n5_; (try clear hb); (try clear hkp); (try clear hy0)) | ((with_reducible refine gate_callee (f := 23) rfl ?_); refine goesL_ (some 88) rfl rfl Tryd.func23 (by kernel_rfl) rfl #[.slice Ao99 t50030.length co99, .int .i64 1] rfl (by (try simp only [List.map_toArray, List.map_cons, List.map_nil]); first | done | (rw [show t50030.length = t50016.length from (Kd.R_reads' HO_13.out).1.symm] <;> rfl) | rfl | (simp only [List.length_drop, List.length_take]; rfl)) ?_; (with_reducible refine (laws_heldPairS.calls kj47 _ _ t50030 1 t50031 _ ?side1 ?side2 A67.out).mono ?_); (case side1 => repeat (first | exact (Kd.R_reads' HO_13.out).2.2 | (with_reducible refine Kd.C_alloc ?_ _) | (with_reducible refine Kd.C_drewN ?_ _) | (with_reducible refine Kd.C_drew ?_))); (case side2 => rw [show t50030.length = t50016.length from (Kd.R_reads' HO_13.out).1.symm]; exact (Kd.R_reads' HO_13.out).2.1); rintro e w101 ⟨rfl, hb⟩; refine ⟨_, rfl, ?_⟩; have n0_ := Aside0.mk (Kd.R_below zq_7 hb); have n1_ := Aside0.mk (Kd.R_below zq_19 hb); have n2_ := Aside0.mk (Kd.R_below zq_17 hb); have n3_ := Aside0.mk (blk_below (g := gb50001) (o := .cells #[.int .i64 a0_0, .slice A0_1 l0_1.length c0_1] 34 (0, 0)) zq_9 hb); have n4_ := Aside0.mk (blk_below (g := gb50015) (o := .cells #[.int .i64 t50011, .slice Ao33 t50027.length co33] 38 (0, 0)) zq_14 hb); have n5_ := Aside0.mk (below_step zq_5 hb); clear HO_10; clear HO_13; clear HO_50016001; clear BK50001; clear BK50015; clear HB; have HO_10 := n0_; have HO_13 := n1_; have HO_50016001 := n2_; have BK50001 := n3_; have BK50015 := n4_; have HB := n5_; clear n0_ n1_ n2_ n3_ n4_ n5_; (try clear hb); (try clear hb2); (try clear hk); (try clear hi)))
              go_ret
              exact ⟨by first | rfl | (simp [errW_none, errW_some] <;> rfl) | (simp [*, errW_none, errW_some] <;> rfl), by repeat (first | (with_reducible first | exact HB.out | apply below_alloc | apply pw_below_drewN | apply below_drew1 | refine below_set ?_ GE50001.out | refine below_set ?_ GE50015.out) | exact HB.out)⟩
        ·replace c46 := Bool.eq_false_iff.mpr c46; subst c46; have H1 : (some false) = some r := by rw [if_neg (show ¬ (false = true) by decide)] at H; exact H
         clear H; have H := H1; clear H1; obtain rfl := Option.some.inj H
         try go_wp2
         have n0_ := Aside0.mk (Kd.R_drew HO_10.out); have n1_ := Aside0.mk (Kd.R_drew HO_13.out); have n2_ := Aside0.mk (Kd.R_drew HO_50016001.out); have n3_ := Aside0.mk (blk_drew BK50001.out); have n4_ := Aside0.mk (blk_drew BK50015.out); have n5_ := Aside0.mk (below_drew1 HB.out); clear HO_10; clear HO_13; clear HO_50016001; clear BK50001; clear BK50015; clear HB; have HO_10 := n0_; have HO_13 := n1_; have HO_50016001 := n2_; have BK50001 := n3_; have BK50015 := n4_; have HB := n5_; clear n0_ n1_ n2_ n3_ n4_ n5_; refine start_ (n := 5) (S := fun w' => w'.cell? ⟨gb50015, 0, none⟩ = some (.int .i64 t50011) ∧ w'.cell? ⟨gb50015, 1, none⟩ = some (.slice Ao33 t50012.length co33) ∧ w'.cell? ⟨gb50001, 0, none⟩ = some (.int .i64 a0_0) ∧ w'.cell? ⟨gb50001, 1, none⟩ = some (.slice A0_1 l0_1.length c0_1)) (ds := []) #[false, false, false, false, false] (by kernel_rfl) rfl rfl ⟨(blk_cell BK50015.out 0).trans rfl, (blk_cell BK50015.out 1).trans rfl, (blk_cell BK50001.out 0).trans rfl, (blk_cell BK50001.out 1).trans rfl⟩ (fun hHeld => ?_); generalize wc.drew = w102 at HO_10 HO_13 HO_50016001 BK50001 BK50015 HB hHeld ⊢; refine take_ (i := 0) (N := some 62) (v := ?_) (a' := ?_) #[true, false, false, false, false] rfl rfl (by kernel_rfl) (fun _ _ _ h => h) (Or.inl ⟨by rfl, ?_⟩) hHeld ?_ ?_; rotate_left
         ·rintro w' ⟨s0, s1, s2, s3⟩; go_simp
          with_reducible rfl
         rotate_left
         ·simp only [Act.put, List.setIfInBounds_toArray, List.set_cons_zero, List.set_cons_succ, i64_w, i32_w]; rfl
         refine take_ (i := 1) (N := some 63) (v := ?_) (a' := ?_) #[true, true, false, false, false] rfl rfl (by kernel_rfl) (fun _ _ _ h => h) (Or.inl ⟨by rfl, ?_⟩) hHeld ?_ ?_; rotate_left
         ·rintro w' ⟨s0, s1, s2, s3⟩; go_simp
          with_reducible rfl
         rotate_left
         ·simp only [Act.put, List.setIfInBounds_toArray, List.set_cons_zero, List.set_cons_succ, i64_w, i32_w]; rfl
         refine one_ (i := 2) (N := some 64) #[true, true, true, false, false] rfl rfl (by kernel_rfl) (by decide) (fun K hK => ?_); refine goes_ Tryd.func18 (by kernel_rfl) rfl #[.agg #[.int .i64 a0_0, .slice A0_1 l0_1.length c0_1]] (by rfl) rfl rfl zq_1 ?_
         with_reducible refine (laws_toPool.calls kj19 a0_0 _ _ l0_1 t50021 t50022 _ ?side1 ?side2 A44.out).mono ?_
         (case side1 => repeat (first | exact (Kd.C_below HR0_1.out HB.out) | (with_reducible refine Kd.C_alloc ?_ _) | (with_reducible refine Kd.C_drewN ?_ _) | (with_reducible refine Kd.C_drew ?_))); (case side2 => exact HC0_1.out); rintro e w103 ⟨v50023, rfl, ho0, hb⟩; refine ⟨_, rfl, ?_⟩; have n0_ := Aside0.mk (Kd.R_below zq_7 hb); have n1_ := Aside0.mk (Kd.R_below zq_19 hb); have n2_ := Aside0.mk (Kd.R_elder' zq_17 (Kd.R_base ho0) hb); have n3_ := Aside0.mk (Kd.R_lower (Kd.R_new' ho0 (Kd.R_lt zq_17)) (below_size zq_5)); have n4_ := Aside0.mk (blk_below (g := gb50001) (o := .cells #[.int .i64 a0_0, .slice A0_1 l0_1.length c0_1] 34 (0, 0)) zq_9 hb); have n5_ := Aside0.mk (blk_below (g := gb50015) (o := .cells #[.int .i64 t50011, .slice Ao33 t50012.length co33] 38 (0, 0)) zq_14 hb); have n6_ := Aside0.mk (below_step zq_5 hb); clear HO_10; clear HO_13; clear HO_50016001; clear BK50001; clear BK50015; clear HB; have HO_10 := n0_; have HO_13 := n1_; have HO_50016001 := n2_; have HO50024 := n3_; have BK50001 := n4_; have BK50015 := n5_; have HB := n6_; clear n0_ n1_ n2_ n3_ n4_ n5_ n6_; (try clear hb); (try clear hb2); (try clear hk); (try clear hi); (try clear ho0); obtain ⟨Ao104, co104, eo104⟩ := Kd.R_slice HO50024.out; (first | subst eo104 | (injection eo104 with f1_ f2_ f3_; have f4_ := f1_.symm; have f5_ := f3_.symm; clear f1_ f2_ f3_; subst f4_; subst f5_))
         refine hK.out _ _ ⟨(blk_cell BK50015.out 0).trans rfl, (blk_cell BK50015.out 1).trans rfl, (blk_cell BK50001.out 0).trans rfl, (blk_cell BK50001.out 1).trans rfl⟩ (fun hHeld => ?_); clear hK K; refine norm_ (a' := ?_) ?_ ?_; rotate_left
         ·show Act.put _ (some 64) _ = _; simp only [Act.put, List.setIfInBounds_toArray, List.set_cons_zero, List.set_cons_succ, i64_w, i32_w]; rfl
         refine one_ (i := 3) (N := some 65) #[true, true, true, true, false] rfl rfl (by kernel_rfl) (by decide) (fun K hK => ?_); refine goes_ Tryd.func20 (by kernel_rfl) rfl #[.agg #[.int .i64 t50011, .slice Ao33 t50012.length co33], .agg #[.int .i64 t50021, .slice Ao104 t50022.length co104]] (by rfl) rfl rfl zq_1 ?_
         with_reducible refine (laws_eqPool.calls kj19 t50011 _ _ t50012 t50021 _ _ t50022 false _ ?side1 ?side2 ?side3 ?side4 A45.out).mono ?_
         (case side1 => repeat (first | exact (Kd.R_reads' HO_50016001.out).2.2 | (with_reducible refine Kd.C_alloc ?_ _) | (with_reducible refine Kd.C_drewN ?_ _) | (with_reducible refine Kd.C_drew ?_))); (case side2 => exact (Kd.R_reads' HO_50016001.out).2.1); (case side3 => repeat (first | exact (Kd.R_reads' HO50024.out).2.2 | (with_reducible refine Kd.C_alloc ?_ _) | (with_reducible refine Kd.C_drewN ?_ _) | (with_reducible refine Kd.C_drew ?_))); (case side4 => exact (Kd.R_reads' HO50024.out).2.1); rintro e w105 ⟨rfl, hb⟩; refine ⟨_, rfl, ?_⟩; have n0_ := Aside0.mk (Kd.R_below zq_7 hb); have n1_ := Aside0.mk (Kd.R_below zq_19 hb); have n2_ := Aside0.mk (Kd.R_below zq_17 hb); have n3_ := Aside0.mk (Kd.R_below (by (with_reducible repeat (first | apply Kd.R_alloc | apply Kd.R_drewN | apply Kd.R_drew)); exact HO50024.out) hb); have n4_ := Aside0.mk (blk_below (g := gb50001) (o := .cells #[.int .i64 a0_0, .slice A0_1 l0_1.length c0_1] 34 (0, 0)) zq_9 hb); have n5_ := Aside0.mk (blk_below (g := gb50015) (o := .cells #[.int .i64 t50011, .slice Ao33 t50012.length co33] 38 (0, 0)) zq_14 hb); have n6_ := Aside0.mk (below_step zq_5 hb); clear HO_10; clear HO_13; clear HO_50016001; clear HO50024; clear BK50001; clear BK50015; clear HB; have HO_10 := n0_; have HO_13 := n1_; have HO_50016001 := n2_; have HO50024 := n3_; have BK50001 := n4_; have BK50015 := n5_; have HB := n6_; clear n0_ n1_ n2_ n3_ n4_ n5_ n6_; (try clear hb); (try clear hb2); (try clear hk); (try clear hi); refine hK.out _ _ ⟨(blk_cell BK50015.out 0).trans rfl, (blk_cell BK50015.out 1).trans rfl, (blk_cell BK50001.out 0).trans rfl, (blk_cell BK50001.out 1).trans rfl⟩ (fun hHeld => ?_); clear hK K; refine norm_ (a' := ?_) ?_ ?_; rotate_left
         ·show Act.put _ (some 65) _ = _; simp only [Act.put, List.setIfInBounds_toArray, List.set_cons_zero, List.set_cons_succ, i64_w, i32_w]; rfl
         refine pure_ (i := 4) (N := some 66) (v := ?_) (a' := ?_) #[true, true, true, true, true] rfl rfl (by kernel_rfl) (fun _ _ _ h => h) (Or.inl ⟨by rfl, ?_⟩) ?_ ?_; rotate_left
         ·intro w'; go_simp
          with_reducible rfl
         rotate_left
         ·simp only [Act.put, List.setIfInBounds_toArray, List.set_cons_zero, List.set_cons_succ, i64_w, i32_w]; rfl
         refine done_ (by kernel_rfl) ?_
         try go_wp2
         go_ret
         exact ⟨by first | rfl | (simp [errW_none, errW_some] <;> rfl) | (simp [*, errW_none, errW_some] <;> rfl), by repeat (first | (with_reducible first | exact HB.out | apply below_alloc | apply pw_below_drewN | apply below_drew1 | refine below_set ?_ GE50001.out | refine below_set ?_ GE50015.out) | exact HB.out)⟩
end Go.Proofs.YthnnphinfiobmaaDoor.Z
end
section
namespace Go.Proofs.YthnnphinfiobmaaDoor.Z
open Go.RowKit Go.Proofs.YthnnphinfiobmaaDoorW.PrintWords Go.Proofs.YthnnphinfiobmaaDoorW.PrintLast Go.Proofs.YthnnphinfiobmaaDoorW.PrintMore
attribute [local go_sem] max2_int min2_int max_two min_two max_three min_three max_four min_four
set_option linter.unusedVariables false
set_option linter.unusedSimpArgs false
def impl_Load.f (a0_0 : Int) (l0_1 : List ByteArray) (a1 : ByteArray) : Option ((List (S65)) × Int) := (impl_Range.f a0_0 l0_1 a1 (⟨#[]⟩ : ByteArray) (⟨#[]⟩ : ByteArray)).bind fun bt250002 => (some (bt250002.1, bt250002.2))
end Go.Proofs.YthnnphinfiobmaaDoor.Z
end
section
namespace Go.Proofs.YthnnphinfiobmaaDoor.Z
open Go.RowKit Go.Proofs.YthnnphinfiobmaaDoorW.PrintWords Go.Proofs.YthnnphinfiobmaaDoorW.PrintLast Go.Proofs.YthnnphinfiobmaaDoorW.PrintMore
attribute [local go_sem] max2_int min2_int max_two min_two max_three min_three max_four min_four
set_option linter.unusedVariables false
set_option linter.unusedSimpArgs false
end Go.Proofs.YthnnphinfiobmaaDoor.Z
end
section
namespace Go.Proofs.YthnnphinfiobmaaDoor.Z
open Go.RowKit Go.Proofs.YthnnphinfiobmaaDoorW.PrintWords Go.Proofs.YthnnphinfiobmaaDoorW.PrintLast Go.Proofs.YthnnphinfiobmaaDoorW.PrintMore
attribute [local go_sem] max2_int min2_int max_two min_two max_three min_three max_four min_four
set_option linter.unusedVariables false
set_option linter.unusedSimpArgs false
mutual
def laws_FnExactLoad.j0 : Nat → ByteArray → List (S65) → Int → List (S65) → Int → Bool → Int → List ByteArray → Int → List ByteArray → Option (Bool)
 | 0, _, _, _, _, _, _, _, _, _, _ => none
 | k + 1, x1, x6, x7, x9, x10, x47, x60002000, x60002001, x60016000, x60016001 => if x47 = true then (some false) else ((laws_toPool.f k x60002000 x60002001).bind fun bt60021 => ((laws_eqPool.f k x60016000 x60016001 bt60021.1 bt60021.2).bind fun t60025 => (if t60025 = true then ((laws_markPool.f k x60016000 x60016001 1).bind fun bt60026 => (if bt60026.1 < 0 then (laws_FnExactLoad.j1 k x1 x6 x7 x9 true x60002000 x60002001) else ((laws_eqPairS.f k x9 x6).bind fun t60028 => (if t60028 = true then (laws_FnExactLoad.j1 k x1 x6 x7 x9 (x10 != x7) x60002000 x60002001) else (laws_FnExactLoad.j1 k x1 x6 x7 x9 true x60002000 x60002001))))) else (some false))))
def laws_FnExactLoad.j1 : Nat → ByteArray → List (S65) → Int → List (S65) → Bool → Int → List ByteArray → Option (Bool)
 | 0, _, _, _, _, _, _, _ => none
 | k + 1, x1, x6, x7, x9, x68, x60002000, x60002001 => if x68 = true then (some false) else ((laws_markPairS.f k x9 1).bind fun bt60029 => ((laws_heldPairS.f k bt60029.2 1).bind fun t60031 => (if t60031 < 0 then (some false) else (if t60031 = bt60029.1 then ((laws_toPool.f k x60002000 x60002001).bind fun bt60032 => ((impl_Load.f bt60032.1 bt60032.2 x1).bind fun bt60036 => ((laws_eqPairS.f k bt60036.1 x6).bind fun t60040 => (if t60040 = true then (laws_FnExactLoad.j2 k bt60029.2 bt60029.1 (bt60036.2 != x7)) else (laws_FnExactLoad.j2 k bt60029.2 bt60029.1 true))))) else (some false)))))
def laws_FnExactLoad.j2 : Nat → List (S65) → Int → Bool → Option (Bool)
 | 0, _, _, _ => none
 | k + 1, x9, x12, x95 => if x95 = true then (some false) else ((laws_heldPairS.f k x9 1).bind fun t60041 => (if t60041 < 0 then (some false) else (if t60041 = x12 then (some true) else (some false))))
end
end Go.Proofs.YthnnphinfiobmaaDoor.Z
end
section
namespace Go.Proofs.YthnnphinfiobmaaDoor.Z
open Go.RowKit Go.Proofs.YthnnphinfiobmaaDoor Go.Proofs.YthnnphinfiobmaaDoorW.PrintWords Go.Proofs.YthnnphinfiobmaaDoorW.PrintLast
set_option linter.unusedVariables false
set_option linter.unusedSimpArgs false
theorem l2HashOk_f (a : ByteArray) (W : Int) : spec_l2HashOk.f a W = some (decide ((a.size : Int) = 0 ∨ (a.size : Int) = W)) := by
 unfold spec_l2HashOk.f
 by_cases h : (a.size : Int) = 0
 ·rw [if_pos h, decide_eq_true (.inl h)]
 ·rw [if_neg h]
  by_cases h2 : (a.size : Int) = W
  ·rw [beq_iff_eq.2 h2, decide_eq_true (.inr h2)]
  ·rw [beq_eq_false_iff_ne.2 h2, decide_eq_false (fun g => by rcases g with g | g; exact h g; exact h2 g)]
theorem spec_Range_f (W : Int) (l : List ByteArray) (root lo hi : ByteArray) (hl : small l) (hlo : lo.size ≤ 1048576) (hhi : hi.size ≤ 1048576) (k : Nat) (hk : 2200000 < k) : spec_Range.f k W l root lo hi = some (rangeR W l root lo hi) := by
 obtain ⟨k, rfl⟩ : ∃ j, k = j + 1 := ⟨k - 1, by omega⟩
 unfold spec_Range.f rangeR; rw [Option.bind_some, l3PoolOk_f, Option.bind_some]
 cases hv : poolOk W l
 ·rw [if_neg (by decide), if_neg (by simp)]; simp only [spec_Range.j0, if_true]
 rw [if_pos rfl, l2HashOk_f, Option.bind_some]; have h1 := poolOk_iff.1 hv; obtain ⟨n, rfl⟩ : ∃ n : Nat, W = (n : Int) := ⟨W.toNat, by omega⟩
 rw [Int.toNat_natCast]
 by_cases hr : (root.size : Int) = 0 ∨ (root.size : Int) = (n : Int)
 ·have hg := walkG_some n l root lo hi; rw [decide_eq_true hr, if_pos ⟨rfl, by rw [emp_size, decide_eq_true_eq]; exact hr⟩]; simp only [spec_Range.j0, Bool.not_true, Bool.false_eq_true, if_false]; rw [l3Hashes_f _ l hl k (by omega), Option.bind_some]; unfold spec_l4Go.f; rw [if_pos ⟨hl, by omega, by omega, rfl, by omega, by decide, by decide, by decide, hlo, hhi, by omega, by omega⟩, Int.toNat_natCast, hg, Option.map_some, Option.bind_some]; obtain ⟨⟨ps, s, c⟩, hw⟩ : ∃ r, walkG n l root lo hi = r := ⟨_, rfl⟩
  rw [hw]
  by_cases hc : c = 0
  ·subst hc; rfl
  ·rw [specR_bad hc]; dsimp only; rw [if_neg hc, if_pos hc]
 ·rw [decide_eq_false hr, if_neg (fun g => hr (by have := g.2; rw [emp_size, decide_eq_true_eq] at this; exact this))]; simp only [spec_Range.j0, Bool.not_false, if_true]
end Go.Proofs.YthnnphinfiobmaaDoor.Z
end
section
namespace Go.Proofs.YthnnphinfiobmaaDoor.Z
open Go.RowKit Go.Proofs.YthnnphinfiobmaaDoorW.PrintWords Go.Proofs.YthnnphinfiobmaaDoorW.PrintLast Go.Proofs.YthnnphinfiobmaaDoorW.PrintMore
attribute [local go_sem] max2_int min2_int max_two min_two max_three min_three max_four min_four
set_option linter.unusedVariables false
set_option linter.unusedSimpArgs false
end Go.Proofs.YthnnphinfiobmaaDoor.Z
end
section
namespace Go.Proofs.YthnnphinfiobmaaDoor.Z
open Go.RowKit Go.Proofs.YthnnphinfiobmaaDoorW.PrintWords Go.Proofs.YthnnphinfiobmaaDoorW.PrintLast Go.Proofs.YthnnphinfiobmaaDoorW.PrintMore
attribute [local go_sem] max2_int min2_int max_two min_two max_three min_three max_four min_four
set_option linter.unusedVariables false
set_option linter.unusedSimpArgs false
end Go.Proofs.YthnnphinfiobmaaDoor.Z
end
section
namespace Go.Proofs.YthnnphinfiobmaaDoor.Z
open Go.RowKit Go.Proofs.YthnnphinfiobmaaDoorW.PrintWords Go.Proofs.YthnnphinfiobmaaDoorW.PrintLast Go.Proofs.YthnnphinfiobmaaDoorW.PrintMore
attribute [local go_sem] max2_int min2_int max_two min_two max_three min_three max_four min_four
set_option linter.unusedVariables false
set_option linter.unusedSimpArgs false
end Go.Proofs.YthnnphinfiobmaaDoor.Z
end
section
namespace Go.Proofs.YthnnphinfiobmaaDoor.Z
open Go.RowKit Go.Proofs.YthnnphinfiobmaaDoorW.PrintWords Go.Proofs.YthnnphinfiobmaaDoorW.PrintLast Go.Proofs.YthnnphinfiobmaaDoorW.PrintMore
attribute [local go_sem] max2_int min2_int max_two min_two max_three min_three max_four min_four
set_option linter.unusedVariables false
set_option linter.unusedSimpArgs false
end Go.Proofs.YthnnphinfiobmaaDoor.Z
end
section
namespace Go.Proofs.YthnnphinfiobmaaDoor.Z
open Go.RowKit Go.Proofs.YthnnphinfiobmaaDoor Go.Proofs.YthnnphinfiobmaaDoorW.PrintWords Go.Proofs.YthnnphinfiobmaaDoorW.PrintLast
set_option linter.unusedVariables false
set_option linter.unusedSimpArgs false
theorem rdI_at (l : List S65) (i : Nat) (h : i < l.length) : rd_T65 l (i : Int) = l[i] := by
 unfold rd_T65; rw [Int.toNat_natCast, List.getD_eq_getElem?_getD, List.getElem?_eq_getElem h]; rfl
theorem eqPairS_loop (l : List S65) (hl : l.length ≤ 4294967296) : ∀ (d i k : Nat), l.length = i + d → d < k → laws_eqPairS.l0 k l l (i : Int) = some true := by
 intro d
 induction d with
 | zero =>
  intro i k h hk; obtain ⟨k, rfl⟩ : ∃ j, k = j + 1 := ⟨k - 1, by omega⟩
  simp only [laws_eqPairS.l0]; rw [if_neg (by omega)]
 | succ d ih =>
  intro i k h hk; obtain ⟨k, rfl⟩ : ∃ j, k = j + 1 := ⟨k - 1, by omega⟩
  simp only [laws_eqPairS.l0]; unfold laws_eqPair.f; simp only [if_true, Option.bind_some]; rw [if_pos (by omega), if_pos (by omega), if_pos (by omega), wN (n := i + 1) (by omega) (by omega)]; exact ih (i + 1) k (by omega) (by omega)
theorem eqPairS_f (l : List S65) (hl : l.length ≤ 4294967296) (k : Nat) (hk : l.length < k) : laws_eqPairS.f k l l = some true := by
 unfold laws_eqPairS.f; rw [if_pos rfl]; exact eqPairS_loop l hl l.length 0 k (by omega) hk
end Go.Proofs.YthnnphinfiobmaaDoor.Z
end
section
namespace Go.Proofs.YthnnphinfiobmaaDoor.Z
open Go.RowKit Go.Proofs.YthnnphinfiobmaaDoor Go.Proofs.YthnnphinfiobmaaDoorW.PrintWords Go.Proofs.YthnnphinfiobmaaDoorW.PrintLast
set_option linter.unusedVariables false
set_option linter.unusedSimpArgs false
theorem markText_loop : ∀ (j : Nat) (x : Int) (acc : ByteArray) (k : Nat), 0 ≤ x → x ≤ 1000000000000 → x < 10 ^ j → j < k → acc.size + j ≤ 1000 → ∃ s, laws_markText.l0 k x acc = some s
 | 0, x, acc, k, h0, hb, h1, hk, ha => by
  obtain ⟨k, rfl⟩ : ∃ j, k = j + 1 := ⟨k - 1, by omega⟩
  simp only [laws_markText.l0]; rw [if_neg (by simp at h1; omega), if_pos (by omega)]; exact ⟨_, rfl⟩
 | j + 1, x, acc, k, h0, hb, h1, hk, ha => by
  obtain ⟨k, rfl⟩ : ∃ j, k = j + 1 := ⟨k - 1, by omega⟩
  simp only [laws_markText.l0]
  by_cases hx : x > 0
  ·rw [if_pos hx, Option.bind_some]; have h1s : (strOfNums [wrap64 (48 + x.tmod 10) % 256]).size = 1 := rfl; rw [h1s, if_pos (by omega)]; have hp : (10 : Int) ^ (j + 1) = 10 ^ j * 10 := Int.pow_succ 10 j; have hd : Int.tdiv x 10 = x / 10 := Int.tdiv_eq_ediv_of_nonneg h0; have hle : x / 10 < 10 ^ j := by rw [hp] at h1; omega
   rw [hd, show wrap64 (x / 10) = x / 10 by unfold wrap64; omega]; exact markText_loop j (x / 10) _ k (by omega) (by omega) hle (by omega) (by rw [ByteArray.size_append, h1s]; omega)
  ·rw [if_neg hx, if_pos (by omega)]; exact ⟨_, rfl⟩
def mtx (x : Int) : ByteArray := (laws_markText.f 100 x).getD ⟨#[]⟩
theorem markText_f (x : Int) (h0 : 0 ≤ x) (h1 : x ≤ 1000000000000) : ∀ k, 100 ≤ k → laws_markText.f k x = some (mtx x) := by
 have hs : ∃ s, laws_markText.f 100 x = some s := by
  unfold laws_markText.f
  by_cases h : x ≤ 0
  ·rw [if_pos h]; exact ⟨_, rfl⟩
  ·rw [if_neg h]; exact markText_loop 13 x _ 100 h0 h1 (by rw [show (10 : Int) ^ 13 = 10000000000000 by decide]; omega) (by decide) (by decide)
 obtain ⟨s, hs⟩ := hs; have hm : mtx x = s := by unfold mtx; rw [hs]; rfl
 intro k hk
 induction k with
 | zero => omega
 | succ k ih =>
  rcases Nat.eq_or_lt_of_le hk with e | e
  ·rw [← e, hs, hm]
  ·exact laws_markText.mono x k _ (ih (by omega))
theorem markStringS_loop (l0 : List ByteArray) : ∀ (d i k : Nat) (x : Int) (l : List ByteArray), l.length = i + d → d + 200 < k → 0 ≤ x → x + d ≤ 4294967296 → l.length ≤ 4294967296 → ∃ l', laws_markStringS.l0 k l x (i : Int) = some (x + d, l') := by
 intro d
 induction d with
 | zero =>
  intro i k x l h hk hx hb hl; obtain ⟨k, rfl⟩ : ∃ j, k = j + 1 := ⟨k - 1, by omega⟩
  simp only [laws_markStringS.l0]; rw [if_neg (by omega)]; exact ⟨l, by simp⟩
 | succ d ih =>
  intro i k x l h hk hx hb hl; obtain ⟨k, rfl⟩ : ∃ j, k = j + 1 := ⟨k - 1, by omega⟩
  simp only [laws_markStringS.l0]; rw [if_pos (by omega), markText_f x hx (by omega) k (by omega), Option.bind_some, if_pos (by omega), show wrap64 (x + 1) = x + 1 by unfold wrap64; omega, wN (n := i + 1) (by omega) (by omega)]; obtain ⟨l', h'⟩ := ih (i + 1) k (x + 1) (l.set (i : Int).toNat (mtx x)) (by rw [List.length_set]; omega) (by omega) (by omega) (by omega) (by rw [List.length_set]; omega); refine ⟨l', h'.trans ?_⟩; rw [show x + 1 + (d : Int) = x + ((d + 1 : Nat) : Int) by omega]
theorem markPool_f (W : Int) (l : List ByteArray) (hl : l.length ≤ 2097152) (k : Nat) (hk : 2100000 < k) : ∃ x l', laws_markPool.f k W l 1 = some (x, l') ∧ 0 ≤ x := by
 unfold laws_markPool.f laws_markStringS.f; obtain ⟨l', h⟩ := markStringS_loop l l.length 0 k 1 l (by omega) (by omega) (by omega) (by omega) (by omega); rw [show (0 : Int) = ((0 : Nat) : Int) from rfl, h, Option.bind_some]; exact ⟨_, _, rfl, by omega⟩
def mkP : Int → Nat → List S65
 | _, 0 => []
 | x, d + 1 => ⟨mtx x, mtx (x + 1)⟩ :: mkP (x + 1 + 1) d
theorem mkP_length : ∀ (d : Nat) (x : Int), (mkP x d).length = d
 | 0, _ => rfl
 | d + 1, x => by rw [mkP, List.length_cons, mkP_length d]
theorem take_set_last {α : Type} (l : List α) (i : Nat) (h : i < l.length) (p : α) : (l.set i p).take (i + 1) = l.take i ++ [p] := by
 rw [List.take_succ_eq_append_getElem (by rw [List.length_set]; exact h), List.getElem_set_self, List.take_set_of_le (Nat.le_refl _)]
theorem markPairS_loop : ∀ (d i k : Nat) (x : Int) (l : List S65), l.length = i + d → d + 200 < k → 0 ≤ x → x + 2 * d ≤ 4294967296 → l.length ≤ 4294967296 → laws_markPairS.l0 k l x (i : Int) = some (x + 2 * d, l.take i ++ mkP x d) := by
 intro d
 induction d with
 | zero =>
  intro i k x l h hk hx hb hl; obtain ⟨k, rfl⟩ : ∃ j, k = j + 1 := ⟨k - 1, by omega⟩
  simp only [laws_markPairS.l0]; rw [if_neg (by omega), List.take_of_length_le (by omega)]; simp [mkP]
 | succ d ih =>
  intro i k x l h hk hx hb hl; obtain ⟨k, rfl⟩ : ∃ j, k = j + 1 := ⟨k - 1, by omega⟩
  simp only [laws_markPairS.l0]; rw [if_pos (by omega), markText_f x hx (by omega) k (by omega), Option.bind_some, if_pos (by omega), Option.bind_some, show wrap64 (x + 1) = x + 1 by unfold wrap64; omega, markText_f (x + 1) (by omega) (by omega) k (by omega), Option.bind_some, show wrap64 (x + 1 + 1) = x + 1 + 1 by unfold wrap64; omega, wN (n := i + 1) (by omega) (by omega), Int.toNat_natCast]; rw [ih (i + 1) k (x + 1 + 1) _ (by rw [List.length_set, List.length_set]; omega) (by omega) (by omega) (by omega) (by rw [List.length_set, List.length_set]; omega)]; rw [show x + 1 + 1 + 2 * (d : Int) = x + 2 * ((d + 1 : Nat) : Int) by omega, mkP]; refine congrArg some (Prod.ext rfl ?_); dsimp only; rw [rdI_at l i (by omega), rdI_at _ i (by rw [List.length_set]; omega), List.getElem_set_self, List.set_set, take_set_last l i (by omega), List.append_assoc]; rfl
theorem markPairS_f (l : List S65) (hl : l.length ≤ 1048576) (k : Nat) (hk : 1100000 < k) : laws_markPairS.f k l 1 = some (1 + 2 * (l.length : Int), mkP 1 l.length) := by
 unfold laws_markPairS.f; have := markPairS_loop l.length 0 k 1 l (by omega) (by omega) (by omega) (by omega) (by omega); rw [List.take_zero, List.nil_append] at this; exact this
theorem heldPairS_loop : ∀ (d i k : Nat) (x : Int) (pre : List S65), pre.length = i → d + 200 < k → 0 ≤ x → x + 2 * d ≤ 4294967296 → i + d ≤ 4294967296 → laws_heldPairS.l0 k (pre ++ mkP x d) x (i : Int) = some (x + 2 * d) := by
 intro d
 induction d with
 | zero =>
  intro i k x pre h hk hx hb hl; obtain ⟨k, rfl⟩ : ∃ j, k = j + 1 := ⟨k - 1, by omega⟩
  simp only [laws_heldPairS.l0]; rw [if_neg (by rw [List.length_append, mkP_length]; omega)]; simp
 | succ d ih =>
  intro i k x pre h hk hx hb hl; obtain ⟨k, rfl⟩ : ∃ j, k = j + 1 := ⟨k - 1, by omega⟩
  simp only [laws_heldPairS.l0]; have hg : rd_T65 (pre ++ mkP x (d + 1)) (i : Int) = ⟨mtx x, mtx (x + 1)⟩ := by
   rw [rdI_at _ i (by rw [List.length_append, mkP_length]; omega), List.getElem_append_right (by omega)]; simp [h, mkP]
  rw [if_pos (by rw [List.length_append, mkP_length]; omega), if_pos (by omega), markText_f x hx (by omega) k (by omega), Option.bind_some, hg]; dsimp only; rw [if_pos rfl, show wrap64 (x + 1) = x + 1 by unfold wrap64; omega, markText_f (x + 1) (by omega) (by omega) k (by omega), Option.bind_some, if_pos rfl, show wrap64 (x + 1 + 1) = x + 1 + 1 by unfold wrap64; omega, wN (n := i + 1) (by omega) (by omega)]; have := ih (i + 1) k (x + 1 + 1) (pre ++ [⟨mtx x, mtx (x + 1)⟩]) (by rw [List.length_append, h]; rfl) (by omega) (by omega) (by omega) (by omega); rw [List.append_assoc] at this; refine this.trans ?_; rw [show x + 1 + 1 + 2 * (d : Int) = x + 2 * ((d + 1 : Nat) : Int) by omega]
theorem heldPairS_f (n : Nat) (hn : n ≤ 1048576) (k : Nat) (hk : 1100000 < k) : laws_heldPairS.f k (mkP 1 n) 1 = some (1 + 2 * (n : Int)) := by
 unfold laws_heldPairS.f; have := heldPairS_loop n 0 k 1 [] rfl (by omega) (by omega) (by omega) (by omega); rw [List.nil_append] at this; exact this
end Go.Proofs.YthnnphinfiobmaaDoor.Z
end
section
namespace Go.Proofs.YthnnphinfiobmaaDoor.Z
open Go.RowKit Go.Proofs.YthnnphinfiobmaaDoor
set_option linter.unusedVariables false
set_option linter.unusedSimpArgs false
theorem rangeR_len (W : Int) (l : List ByteArray) (root lo hi : ByteArray) : (rangeR W l root lo hi).1.length ≤ 500 := by
 unfold rangeR
 split
 ·split
  ·exact Nat.zero_le _
  ·have h := walkG_some W.toNat l root lo hi; obtain ⟨r, hr⟩ : ∃ r, walkG W.toNat l root lo hi = r := ⟨_, rfl⟩
   rw [hr] at h ⊢; obtain ⟨ps, s, c⟩ := r; have := walkI_len W.toNat l (cuts W.toNat l) lo hi 502 0 root _ _ _ _ _ _ h (by omega) (by omega); dsimp only; omega
 ·exact Nat.zero_le _
theorem laws_FnExactRange_f (W : Int) (l : List ByteArray) (a1 a2 a3 : ByteArray) (hs : ∀ s ∈ l, s.size ≤ 9223372036854775807) (hl : l.length ≤ 9223372036854775807) : laws_FnExactRange.f 3000000 W l a1 a2 a3 = some true := by
 unfold laws_FnExactRange.f
 by_cases h1 : (a1.size : Int) > 1048576
 ·rw [if_pos h1]
 by_cases h2 : (a2.size : Int) > 1048576
 ·rw [if_neg h1, if_pos h2]
 by_cases h3 : (a3.size : Int) > 1048576
 ·rw [if_neg h1, if_neg h2, if_pos h3]
 rw [if_neg h1, if_neg h2, if_neg h3]; obtain ⟨t, ht1, ht2⟩ := szPool_f W l hs hl 3000000 (by omega); rw [ht1, Option.bind_some]
 by_cases hn : t < 0
 ·rw [if_pos hn]
 obtain ⟨_, hsm⟩ := ht2 (by omega); have hll := hsm.1; obtain ⟨K, hK, hK2⟩ : ∃ K : Nat, 3000000 = K + 3 ∧ K = 2999997 := ⟨2999997, rfl, rfl⟩
 have hR := spec_Range_f W l a1 a2 a3 hsm (by omega) (by omega) 3000000 (by omega); have hI : ∀ z : Nat, impl_Range.f W l a1 a2 a3 = some (rangeR W l a1 a2 a3) := fun _ => by unfold impl_Range.f; rw [if_pos hsm]
 have hlen := rangeR_len W l a1 a2 a3; obtain ⟨⟨ps, c⟩, hr⟩ : ∃ r, rangeR W l a1 a2 a3 = r := ⟨_, rfl⟩
 rw [hr] at hR hI hlen; dsimp only at hlen; rw [if_neg hn, toPool_f W l (by omega) _ (by omega), Option.bind_some]; dsimp only; rw [hR, Option.bind_some, Option.bind_some]; dsimp only; rw [hI 0, Option.bind_some]; dsimp only; rw [eqPairS_f ps (by omega) _ (by omega), Option.bind_some, if_pos rfl, bne_self_eq_false, hK]; simp only [laws_FnExactRange.j0, Bool.false_eq_true, if_false]; obtain ⟨mx, ml, hm1, hm2⟩ := markPool_f W l (by omega) (K + 2) (by omega); rw [toPool_f W l (by omega) _ (by omega), Option.bind_some]; dsimp only; rw [eqPool_f W l (by omega) _ (by omega), Option.bind_some, if_pos rfl, hm1, Option.bind_some]; dsimp only; rw [if_neg (by omega), eqPairS_f ps (by omega) _ (by omega), Option.bind_some, if_pos rfl, bne_self_eq_false]; simp only [laws_FnExactRange.j1, Bool.false_eq_true, if_false]; rw [markPairS_f ps (by omega) _ (by omega), Option.bind_some]; dsimp only; rw [heldPairS_f ps.length (by omega) _ (by omega), Option.bind_some, if_neg (by omega), if_pos rfl, toPool_f W l (by omega) _ (by omega), Option.bind_some]; dsimp only; rw [hI 0, Option.bind_some]; dsimp only; rw [eqPairS_f ps (by omega) _ (by omega), Option.bind_some, if_pos rfl, bne_self_eq_false]; simp only [laws_FnExactRange.j2, Bool.false_eq_true, if_false]; rw [heldPairS_f ps.length (by omega) _ (by omega), Option.bind_some, if_neg (by omega), if_pos rfl]
end Go.Proofs.YthnnphinfiobmaaDoor.Z
namespace Go.Proofs.YthnnphinfiobmaaDoor
open Go.RowKit Go.Proofs.YthnnphinfiobmaaDoor.Z
theorem lawFnExactRange (a0_0 : Int) (A0_1 : Option Addr) (c0_1 : Nat) (l0_1 : List ByteArray) (a1 a2 a3 : ByteArray) (w : World) (hr0_1 : YthnnphinfiobmaaDoorW.PrintWords.Kd.C YthnnphinfiobmaaDoorW.PrintWords.Kd.string w A0_1 l0_1.length l0_1) (hc0_1 : l0_1.length ≤ c0_1) (hl : c0_1 ≤ maxLen) (hs : ∀ s ∈ l0_1, s.size ≤ maxLen) (hTab : Z.Tab w) :
  Calls Tryd.prog 5 #[.agg #[.int .i64 a0_0, .slice A0_1 l0_1.length c0_1], .string a1, .string a2, .string a3] w fun e w' => e = .returned (.bool true) ∧ Below w.heap.size w w' :=
 laws_FnExactRange.calls 3000000 a0_0 A0_1 c0_1 l0_1 a1 a2 a3 true w hTab hr0_1 hc0_1 (laws_FnExactRange_f a0_0 l0_1 a1 a2 a3 (fun s h => by have := hs s h; unfold maxLen at this; omega) (by unfold maxLen at hl; omega))
end Go.Proofs.YthnnphinfiobmaaDoor
end
section
namespace Go.Proofs.YthnnphinfiobmaaDoor.Z
open Go.RowKit Go.ChangeShapes Go.WideShapes Go.ChangeAt Go.Proofs.YthnnphinfiobmaaDoorW.PrintWords
set_option linter.unusedVariables false
set_option linter.unusedSimpArgs false
section
variable {H : Type} {enc : TypeId × Value → H} {P : Program} {W : World} {base : Nat} {spare : Nat → Bool} {held : Bool}
theorem add_add (a : Addr) (i j : Nat) : (a.add i).add j = a.add (i + j) := by
 unfold Addr.add
 split <;> split <;> simp_all <;> omega
theorem list_of {α : Type} (Q : Nat → α → Prop) : ∀ n, (∀ i, i < n → ∃ x, Q i x) → ∃ l : List α, l.length = n ∧ ∀ i x, l[i]? = some x → Q i x
 | 0, _ => ⟨[], rfl, fun i x h => by simp at h⟩
 | n + 1, h => by
  obtain ⟨l, hl, hq⟩ := list_of Q n (fun i hi => h i (by omega)); obtain ⟨x, hx⟩ := h n (by omega); refine ⟨l ++ [x], by simp [hl], fun i y hy => ?_⟩
  rcases Nat.lt_or_ge i l.length with h1 | h1
  ·rw [List.getElem?_append_left h1] at hy; exact hq i y hy
  ·rw [List.getElem?_append_right h1] at hy
   rcases Nat.eq_zero_or_pos (i - l.length) with h2 | h2
   ·rw [h2] at hy; obtain rfl := Option.some.inj hy; obtain rfl : i = n := by omega
    exact hx
   ·rw [List.getElem?_eq_none (by simp; omega)] at hy; cases hy
theorem open_kd {α : Type} (d : Kd α) (Q : α → Prop) {t e : TypeId} {fuel : Nat} {v : Value} {x : DataW H × List MemPlace} (ht : P.underlying t = some (.slice e)) (hc : P.cellsOf e = d.sz)
  (hK : ∀ cs n y, cs.length = d.sz → DataW.trod enc P W base spare held n e cs = some y → ∃ x, d.K W x cs ∧ Q x) (h : DataW.trod enc P W base spare held fuel t [v] = some x) :
  ∃ A c, ∃ l : List α, v = .slice A l.length c ∧ l.length ≤ c ∧ c ≤ maxLen ∧ d.C W A l.length l ∧ ∀ x ∈ l, Q x := by
 rcases DataW.trod_slice ht h with ⟨hcs, _⟩ | ⟨a, len, cap, elems, rest, m, _, hcs, hx, _, hl, hcap, hlen, hel, _⟩
 ·simp at hcs; subst hcs; refine ⟨none, 0, [], rfl, Nat.le_refl _, Nat.zero_le _, ⟨rfl, Nat.zero_le _, fun h => absurd h (Nat.lt_irrefl _)⟩, fun x hx => by cases hx⟩
 ·simp at hcs; subst hcs; have hp : ∀ i, i < len → ∃ x : α, ∃ cs, W.cells? base (a.add (i * d.sz)) d.sz = some cs ∧ cs.length = d.sz ∧ d.K W x cs ∧ Q x := by
   intro i hi; have h1 := hel i hi; rw [List.getElem?_eq_getElem (by omega), hc] at h1; obtain ⟨cs, hcs, hy⟩ := Option.bind_eq_some_iff.1 h1; have hln := (World.cells?_some hcs).2.1; obtain ⟨x, hx1, hx2⟩ := hK cs m _ hln hy; exact ⟨x, cs, hcs, hln, hx1, hx2⟩
  obtain ⟨l, hll, hq⟩ := list_of _ len hp; subst hll; refine ⟨some a, cap, l, rfl, hl, hcap, ⟨rfl, by unfold maxLen at hcap; omega, fun _ => ⟨a, rfl, fun j p hj => ?_⟩⟩, fun x hx => ?_⟩
  ·obtain ⟨cs, h1, h2, h3, _⟩ := hq j p hj; refine ⟨cs, h2, h3, fun i u hu => ?_⟩; have h4 := (World.cells?_some h1).2.2 i (by rw [← h2]; exact (List.getElem?_eq_some_iff.1 hu).1); rw [← add_add]; exact h4.trans hu
  ·obtain ⟨i, hi, rfl⟩ := List.getElem_of_mem hx; obtain ⟨cs, _, _, _, h5⟩ := hq i _ (List.getElem?_eq_getElem hi); exact h5
theorem open_strs {t e : TypeId} {fuel : Nat} {v : Value} {x : DataW H × List MemPlace} (ht : P.underlying t = some (.slice e)) (he : P.underlying e = some .string) (hc : P.cellsOf e = 1) (h : DataW.trod enc P W base spare held fuel t [v] = some x) :
  ∃ A c, ∃ l : List ByteArray, v = .slice A l.length c ∧ l.length ≤ c ∧ c ≤ maxLen ∧ Kd.C Kd.string W A l.length l ∧ ∀ s ∈ l, s.size ≤ maxLen :=
 open_kd Kd.string (fun s => s.size ≤ maxLen) ht hc (fun cs n y hl hy => by
  obtain ⟨s, rfl, _, hs⟩ := DataW.trod_string he hy; exact ⟨s, rfl, hs⟩) h
end
end Go.Proofs.YthnnphinfiobmaaDoor.Z
end
