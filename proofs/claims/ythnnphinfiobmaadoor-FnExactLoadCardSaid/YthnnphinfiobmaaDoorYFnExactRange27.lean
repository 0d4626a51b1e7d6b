/- Own texts and the print's words that they use, joined by a program of this session. -/
import Derived.Test.YthnnphinfiobmaaDoorYFnExactRange31
import Derived.Test.YthnnphinfiobmaaDoorYFnExactRange21
import Derived.Test.YthnnphinfiobmaaDoorYFnExactRange26
import Derived.Test.YthnnphinfiobmaaDoorYFnExactRange23
import Derived.Test.YthnnphinfiobmaaDoorYFnExactRange25
section
namespace Go.Proofs.YthnnphinfiobmaaDoor.Z
open Go.RowKit Go.Proofs.YthnnphinfiobmaaDoorW.PrintWords Go.Proofs.YthnnphinfiobmaaDoorW.PrintLast Go.Proofs.YthnnphinfiobmaaDoorW.PrintMore
attribute [local go_sem] max2_int min2_int max_two min_two max_three min_three max_four min_four
set_option linter.unusedVariables false
set_option linter.unusedSimpArgs false
def laws_toPool.f (k : Nat) (a0_0 : Int) (l0_1 : List ByteArray) : Option (Int × List ByteArray) := (laws_toStringS.f k l0_1).bind fun t180004 => (some (a0_0, t180004))
set_option maxHeartbeats 8000000 in
set_option maxRecDepth 100000 in
theorem laws_toPool.calls (k : Nat) (a0_0 : Int) (A0_1 : Option Addr) (c0_1 : Nat) (l0_1 : List ByteArray) (r1 : Int) (r2 : List ByteArray) (w : World) (hr0_1 : Kd.C Kd.string w A0_1 l0_1.length l0_1) (hc0_1 : l0_1.length ≤ c0_1) (h : laws_toPool.f k a0_0 l0_1 = some (r1, r2)) :
  Calls Tryd.prog 18 #[.agg #[.int .i64 a0_0, .slice A0_1 l0_1.length c0_1]] w fun e w' => ∃ v1_ : Value, e = .returned (.agg #[.int .i64 r1, v1_]) ∧ Kd.R Kd.string 9 w' w.heap.size (fun _ => True) v1_ r2 ∧ Below w.heap.size w w' := by
 have hu34 := Tryd.underlying34; have hu38 := Tryd.underlying38; have HR0_1 := Aside0.mk hr0_1; have HC0_1 := Aside0.mk hc0_1; clear hr0_1 hc0_1; have HB := Aside0.mk (Below.refl w.heap.size w); have H : ((laws_toStringS.f k l0_1).bind fun t180004 => (some (a0_0, t180004))) = some (r1, r2) := h; clear h; replace H := Option.bind_eq_some_iff.mp H; obtain ⟨t180004, A20, H⟩ := H; replace H : (some (a0_0, t180004)) = some (r1, r2) := H; have A2 := Aside0.mk A20; clear A20; simp only [Option.some.injEq, Prod.mk.injEq] at H; obtain ⟨rfl, rfl⟩ := H
 go_enter Tryd.func18, Tryd.ntmps18
 go_wp2_with (first | ((with_reducible refine gate_dst (N := 1) rfl ?_); refine box_event ?hg (N := 1) ?hd (cs := #[.int .i64 a0_0, .slice A0_1 l0_1.length c0_1]) (t := 34) ?hr ?_; (case hd => rfl); (case hg => rfl); (case hr => first | (go_simp; done) | (go_simp; rfl)); intro gb180001 hg w3 hbox hb; have n0_ := Aside0.mk (below_step zq_0 hb); have n1_ := Aside0.mk (hbox); have n2_ := Aside0.mk ((by rw [hg]; exact (below_size zq_0) : w.heap.size ≤ gb180001)); have n3_ := Aside0.mk ((by rw [hg]; exact (below_size zq_0) : w.heap.size ≤ gb180001)); clear HB; have HB := n0_; have BK180001 := n1_; have GW180001 := n2_; have GE180001 := n3_; clear n0_ n1_ n2_ n3_; clear hb hbox hg) | ((with_reducible refine gate_dst (N := 2) rfl ?_); refine box_event ?hg (N := 2) ?hd (cs := #[.int .i64 0, .slice none 0 0]) (t := 38) ?hr ?_; (case hd => rfl); (case hg => rfl); (case hr => first | (go_simp; done) | (go_simp; rfl)); intro gb180002 hg w4 hbox hb; have n0_ := Aside0.mk (blk_below (g := gb180001) (o := .cells #[.int .i64 a0_0, .slice A0_1 l0_1.length c0_1] 34 (0, 0)) (by (with_reducible repeat (first | refine blk_drewN ?_ _ | refine blk_drew ?_ | refine blk_alloc ?_ _)); exact BK180001.out) hb); have n1_ := Aside0.mk (below_step (by repeat (first | (with_reducible first | exact HB.out | apply below_alloc | apply pw_below_drewN | apply below_drew1 | refine below_set ?_ GE180001.out) | exact HB.out)) hb); have n2_ := Aside0.mk (hbox); have n3_ := Aside0.mk ((by rw [hg]; exact (below_size (by repeat (first | (with_reducible first | exact HB.out | apply below_alloc | apply pw_below_drewN | apply below_drew1 | refine below_set ?_ GE180001.out) | exact HB.out))) : w.heap.size ≤ gb180002)); have n4_ := Aside0.mk ((by rw [hg]; exact (below_size (by repeat (first | (with_reducible first | exact HB.out | apply below_alloc | apply pw_below_drewN | apply below_drew1 | refine below_set ?_ GE180001.out) | exact HB.out))) : w.heap.size ≤ gb180002)); have n5_ := Aside0.mk ((by rw [hg]; exact Nat.ne_of_lt (blk_lt (g := gb180001) (o := .cells #[.int .i64 a0_0, .slice A0_1 l0_1.length c0_1] 34 (0, 0)) (by (with_reducible repeat (first | refine blk_drewN ?_ _ | refine blk_drew ?_ | refine blk_alloc ?_ _)); exact BK180001.out)) : gb180001 ≠ gb180002)); have n6_ := Aside0.mk ((by rw [hg]; exact Nat.ne_of_gt (blk_lt (g := gb180001) (o := .cells #[.int .i64 a0_0, .slice A0_1 l0_1.length c0_1] 34 (0, 0)) (by (with_reducible repeat (first | refine blk_drewN ?_ _ | refine blk_drew ?_ | refine blk_alloc ?_ _)); exact BK180001.out)) : gb180002 ≠ gb180001)); clear BK180001; clear HB; have BK180001 := n0_; have HB := n1_; have BK180002 := n2_; have GW180002 := n3_; have GE180002 := n4_; have NB180001_180002 := n5_; have NB180002_180001 := n6_; clear n0_ n1_ n2_ n3_ n4_ n5_ n6_; clear hb hbox hg) | ((with_reducible refine gate_dst (N := 3) rfl ?_); refine box_event ?hg (N := 3) ?hd (cs := #[.int .i64 0, .slice none 0 0]) (t := 38) ?hr ?_; (case hd => rfl); (case hg => rfl); (case hr => first | (go_simp; done) | (go_simp; rfl)); intro gb180003 hg w5 hbox hb; have n0_ := Aside0.mk (blk_below (g := gb180001) (o := .cells #[.int .i64 a0_0, .slice A0_1 l0_1.length c0_1] 34 (0, 0)) (by (with_reducible repeat (first | refine blk_drewN ?_ _ | refine blk_drew ?_ | refine blk_alloc ?_ _)); exact BK180001.out) hb); have n1_ := Aside0.mk (blk_below (g := gb180002) (o := .cells #[.int .i64 0, .slice none 0 0] 38 (0, 0)) (by (with_reducible repeat (first | refine blk_drewN ?_ _ | refine blk_drew ?_ | refine blk_alloc ?_ _)); exact BK180002.out) hb); have n2_ := Aside0.mk (below_step (by repeat (first | (with_reducible first | exact HB.out | apply below_alloc | apply pw_below_drewN | apply below_drew1 | refine below_set ?_ GE180001.out | refine below_set ?_ GE180002.out) | exact HB.out)) hb); have n3_ := Aside0.mk (hbox); have n4_ := Aside0.mk ((by rw [hg]; exact (below_size (by repeat (first | (with_reducible first | exact HB.out | apply below_alloc | apply pw_below_drewN | apply below_drew1 | refine below_set ?_ GE180001.out | refine below_set ?_ GE180002.out) | exact HB.out))) : w.heap.size ≤ gb180003)); have n5_ := Aside0.mk ((by rw [hg]; exact (below_size (by repeat (first | (with_reducible first | exact HB.out | apply below_alloc | apply pw_below_drewN | apply below_drew1 | refine below_set ?_ GE180001.out | refine below_set ?_ GE180002.out) | exact HB.out))) : w.heap.size ≤ gb180003)); have n6_ := Aside0.mk ((by rw [hg]; exact Nat.ne_of_lt (blk_lt (g := gb180001) (o := .cells #[.int .i64 a0_0, .slice A0_1 l0_1.length c0_1] 34 (0, 0)) (by (with_reducible repeat (first | refine blk_drewN ?_ _ | refine blk_drew ?_ | refine blk_alloc ?_ _)); exact BK180001.out)) : gb180001 ≠ gb180003)); have n7_ := Aside0.mk ((by rw [hg]; exact Nat.ne_of_gt (blk_lt (g := gb180001) (o := .cells #[.int .i64 a0_0, .slice A0_1 l0_1.length c0_1] 34 (0, 0)) (by (with_reducible repeat (first | refine blk_drewN ?_ _ | refine blk_drew ?_ | refine blk_alloc ?_ _)); exact BK180001.out)) : gb180003 ≠ gb180001)); have n8_ := Aside0.mk ((by rw [hg]; exact Nat.ne_of_lt (blk_lt (g := gb180002) (o := .cells #[.int .i64 0, .slice none 0 0] 38 (0, 0)) (by (with_reducible repeat (first | refine blk_drewN ?_ _ | refine blk_drew ?_ | refine blk_alloc ?_ _)); exact BK180002.out)) : gb180002 ≠ gb180003)); have n9_ := Aside0.mk ((by rw [hg]; exact Nat.ne_of_gt (blk_lt (g := gb180002) (o := .cells #[.int .i64 0, .slice none 0 0] 38 (0, 0)) (by (with_reducible repeat (first | refine blk_drewN ?_ _ | refine blk_drew ?_ | refine blk_alloc ?_ _)); exact BK180002.out)) : gb180003 ≠ gb180002)); clear BK180001; clear BK180002; clear HB; have BK180001 := n0_; have BK180002 := n1_; have HB := n2_; have BK180003 := n3_; have GW180003 := n4_; have GE180003 := n5_; have NB180001_180003 := n6_; have NB180003_180001 := n7_; have NB180002_180003 := n8_; have NB180003_180002 := n9_; clear n0_ n1_ n2_ n3_ n4_ n5_ n6_ n7_ n8_ n9_; clear hb hbox hg; have hnb6 := NB180001_180002.out; have hnc6 := NB180002_180001.out; have hnb7 := NB180001_180003.out; have hnc7 := NB180003_180001.out; have hcz8_0 : w5.cell? ⟨gb180001, 0, none⟩ = some (.int .i64 a0_0) := (blk_cell BK180001.out 0).trans rfl; have hcz8_1 : w5.cell? ⟨gb180001, 1, none⟩ = some (.slice A0_1 l0_1.length c0_1) := (blk_cell BK180001.out 1).trans rfl; have hfz8_0 := blk_frozen BK180001.out 0; have hfz8_1 := blk_frozen BK180001.out 1; have hnb9 := NB180003_180002.out; have hnc9 := NB180002_180003.out; have hcz10_0 : w5.cell? ⟨gb180003, 0, none⟩ = some (.int .i64 0) := (blk_cell BK180003.out 0).trans rfl; have hcz10_1 : w5.cell? ⟨gb180003, 1, none⟩ = some (.slice none 0 0) := (blk_cell BK180003.out 1).trans rfl; have hfz10_0 := blk_frozen BK180003.out 0; have hfz10_1 := blk_frozen BK180003.out 1) | ((with_reducible refine gate_callee (f := 58) rfl ?_); refine goesL_ (some 9) rfl rfl Tryd.func58 (by kernel_rfl) rfl #[.slice A0_1 l0_1.length c0_1] rfl zq_1 ?_; (with_reducible refine (laws_toStringS.calls k _ _ l0_1 t180004 _ ?side1 ?side2 A2.out).mono ?_); (case side1 => exact Kd.C_below HR0_1.out (by repeat (first | (with_reducible first | exact HB.out | apply below_alloc | apply pw_below_drewN | apply below_drew1 | refine below_set ?_ GE180001.out | refine below_set ?_ GE180002.out | refine below_set ?_ GE180003.out) | exact HB.out))); (case side2 => exact HC0_1.out); rintro e w11 ⟨v180005, rfl, ho0, hb⟩; refine ⟨_, rfl, ?_⟩; have n0_ := Aside0.mk (Kd.R_lower ho0 (below_size (by repeat (first | (with_reducible first | exact HB.out | apply below_alloc | apply pw_below_drewN | apply below_drew1 | refine below_set ?_ GE180001.out | refine below_set ?_ GE180002.out | refine below_set ?_ GE180003.out) | exact HB.out)))); have n1_ := Aside0.mk (blk_below (g := gb180001) (o := .cells #[.int .i64 a0_0, .slice A0_1 l0_1.length c0_1] 34 (0, 0)) (by (with_reducible repeat (first | refine blk_drewN ?_ _ | refine blk_drew ?_ | refine blk_alloc ?_ _)); refine blk_far ?_ NB180001_180003.out _; (with_reducible repeat (first | refine blk_drewN ?_ _ | refine blk_drew ?_ | refine blk_alloc ?_ _)); exact BK180001.out) hb); have n2_ := Aside0.mk (blk_below (g := gb180002) (o := .cells #[.int .i64 0, .slice none 0 0] 38 (0, 0)) (by (with_reducible repeat (first | refine blk_drewN ?_ _ | refine blk_drew ?_ | refine blk_alloc ?_ _)); refine blk_far ?_ NB180002_180003.out _; (with_reducible repeat (first | refine blk_drewN ?_ _ | refine blk_drew ?_ | refine blk_alloc ?_ _)); exact BK180002.out) hb); have n3_ := Aside0.mk (blk_below (g := gb180003) (o := .cells #[.int .i64 a0_0, .slice none 0 0] 38 (0, 0)) (by (with_reducible repeat (first | refine blk_drewN ?_ _ | refine blk_drew ?_ | refine blk_alloc ?_ _)); refine blk_put (cs := #[.int .i64 0, .slice none 0 0]) ?_ 0 _ rfl; (with_reducible repeat (first | refine blk_drewN ?_ _ | refine blk_drew ?_ | refine blk_alloc ?_ _)); exact BK180003.out) hb); have n4_ := Aside0.mk (below_step (by repeat (first | (with_reducible first | exact HB.out | apply below_alloc | apply pw_below_drewN | apply below_drew1 | refine below_set ?_ GE180001.out | refine below_set ?_ GE180002.out | refine below_set ?_ GE180003.out) | exact HB.out)) hb); clear BK180001; clear BK180002; clear BK180003; clear HB; have HO180006 := n0_; have BK180001 := n1_; have BK180002 := n2_; have BK180003 := n3_; have HB := n4_; clear n0_ n1_ n2_ n3_ n4_; (try clear hb); (try clear hb2); (try clear hk); (try clear hi); (try clear ho0); obtain ⟨Ao12, co12, eo12⟩ := Kd.R_slice HO180006.out; subst eo12; have hcz13_0 : w11.cell? ⟨gb180003, 0, none⟩ = some (.int .i64 a0_0) := (blk_cell BK180003.out 0).trans rfl; have hcz13_1 : w11.cell? ⟨gb180003, 1, none⟩ = some (.slice none 0 0) := (blk_cell BK180003.out 1).trans rfl; have hfz13_0 := blk_frozen BK180003.out 0; have hfz13_1 := blk_frozen BK180003.out 1; have hcz14_0 : w11.cell? ⟨gb180002, 0, none⟩ = some (.int .i64 0) := (blk_cell BK180002.out 0).trans rfl; have hcz14_1 : w11.cell? ⟨gb180002, 1, none⟩ = some (.slice none 0 0) := (blk_cell BK180002.out 1).trans rfl; have hfz14_0 := blk_frozen BK180002.out 0; have hfz14_1 := blk_frozen BK180002.out 1))
 refine bodyPost_ret (results_cell_row rfl _ _ gb180002 38 #[.int .i64 a0_0, .slice Ao12 t180004.length co12] (0, 0) _ rfl (by (with_reducible repeat (first | refine blk_drewN ?_ _ | refine blk_drew ?_ | refine blk_alloc ?_ _)); refine blk_put (cs := #[.int .i64 a0_0, .slice none 0 0]) ?_ 1 _ rfl; (with_reducible repeat (first | refine blk_drewN ?_ _ | refine blk_drew ?_ | refine blk_alloc ?_ _)); refine blk_put (cs := #[.int .i64 0, .slice none 0 0]) ?_ 0 _ rfl; (with_reducible repeat (first | refine blk_drewN ?_ _ | refine blk_drew ?_ | refine blk_alloc ?_ _)); refine blk_far ?_ NB180002_180003.out _; (with_reducible repeat (first | refine blk_drewN ?_ _ | refine blk_drew ?_ | refine blk_alloc ?_ _)); exact BK180002.out) Tryd.underlying38 rfl (by kernel_rfl)) rfl ?_; exact ⟨_, by first | rfl | (simp [errW_none, errW_some] <;> rfl) | (simp [*, errW_none, errW_some] <;> rfl), by (with_reducible repeat (first | apply Kd.R_alloc | apply Kd.R_drewN | apply Kd.R_drew)); exact Kd.R_mono (Kd.R_far (p := ⟨gb180002, 1, none⟩) (Kd.R_far (p := ⟨gb180002, 0, none⟩) (Kd.R_far (p := ⟨gb180003, 1, none⟩) (Kd.R_types (Kd.R_types HO180006.out BK180003.out (by decide)) BK180002.out (by decide)) (fun _ hk => hk.1.2) (.slice Ao12 t180004.length co12)) (fun _ hk => hk.2) (.int .i64 a0_0)) (fun _ hk => hk.2) (.slice Ao12 t180004.length co12)) (fun _ hk => trivial), by repeat (first | (with_reducible first | exact HB.out | apply below_alloc | apply pw_below_drewN | apply below_drew1 | refine below_set ?_ GE180001.out | refine below_set ?_ GE180002.out | refine below_set ?_ GE180003.out) | exact HB.out)⟩
end Go.Proofs.YthnnphinfiobmaaDoor.Z
end
section
namespace Go.Proofs.YthnnphinfiobmaaDoor.Z
open Go.RowKit Go.Proofs.YthnnphinfiobmaaDoorW.PrintWords Go.Proofs.YthnnphinfiobmaaDoorW.PrintLast Go.Proofs.YthnnphinfiobmaaDoorW.PrintMore
attribute [local go_sem] max2_int min2_int max_two min_two max_three min_three max_four min_four
set_option linter.unusedVariables false
set_option linter.unusedSimpArgs false
def spec_l1Width.f (a0 : Int) : Option (Bool) := if a0 ≥ 1 then (some (decide (a0 ≤ 32))) else (some false)
set_option maxHeartbeats 8000000 in
set_option maxRecDepth 100000 in
theorem spec_l1Width.calls (a0 : Int) (r : Bool) (w : World) (h : spec_l1Width.f a0 = some r) :
  Calls Tryd.prog 38 #[.int .i64 a0] w fun e w' => e = .returned (.bool r) ∧ Drawn0 w w' := by
 have H : (if a0 ≥ 1 then (some (decide (a0 ≤ 32))) else (some false)) = some r := h; clear h
 by_cases c2 : a0 ≥ 1
 ·rw [if_pos c2] at H; have c2b0 : decide (1 ≤ a0) = true := decide_eq_true c2; clear c2; obtain rfl := Option.some.inj H
  go_enter Tryd.func38, Tryd.ntmps38
  go_wp2
  go_ret
  exact ⟨by first | rfl | (simp; done) | (simp [*]; done), by repeat (first | exact Drawn0.refl _ | apply Drawn0.step)⟩
 ·rw [if_neg c2] at H; have c2b0 : decide (1 ≤ a0) = false := decide_eq_false c2; clear c2; obtain rfl := Option.some.inj H
  go_enter Tryd.func38, Tryd.ntmps38
  go_wp2
  go_ret
  exact ⟨by first | rfl | (simp; done) | (simp [*]; done), by repeat (first | exact Drawn0.refl _ | apply Drawn0.step)⟩
end Go.Proofs.YthnnphinfiobmaaDoor.Z
end
section
namespace Go.Proofs.YthnnphinfiobmaaDoor.Z
open Go.RowKit Go.Proofs.YthnnphinfiobmaaDoorW.PrintWords Go.Proofs.YthnnphinfiobmaaDoorW.PrintLast Go.Proofs.YthnnphinfiobmaaDoorW.PrintMore
attribute [local go_sem] max2_int min2_int max_two min_two max_three min_three max_four min_four
set_option linter.unusedVariables false
set_option linter.unusedSimpArgs false
def spec_l3PoolOk.f (a0_0 : Int) (l0_1 : List ByteArray) : Option (Bool) := (spec_l1Width.f a0_0).bind fun t540002 => (if t540002 = true then (some (decide ((l0_1.length : Int) ≤ 20000))) else (some false))
set_option maxHeartbeats 8000000 in
set_option maxRecDepth 100000 in
theorem spec_l3PoolOk.calls (a0_0 : Int) (A0_1 : Option Addr) (c0_1 : Nat) (l0_1 : List ByteArray) (r : Bool) (w : World) (hr0_1 : Kd.C Kd.string w A0_1 l0_1.length l0_1) (hc0_1 : l0_1.length ≤ c0_1) (h : spec_l3PoolOk.f a0_0 l0_1 = some r) :
  Calls Tryd.prog 54 #[.agg #[.int .i64 a0_0, .slice A0_1 l0_1.length c0_1]] w fun e w' => e = .returned (.bool r) ∧ Below w.heap.size w w' := by
 have hu38 := Tryd.underlying38; have HR0_1 := Aside0.mk hr0_1; have HC0_1 := Aside0.mk hc0_1; clear hr0_1 hc0_1; have HB := Aside0.mk (Below.refl w.heap.size w); have H : ((spec_l1Width.f a0_0).bind fun t540002 => (if t540002 = true then (some (decide ((l0_1.length : Int) ≤ 20000))) else (some false))) = some r := h; clear h; replace H := Option.bind_eq_some_iff.mp H; obtain ⟨t540002, A20, H⟩ := H; replace H : (if t540002 = true then (some (decide ((l0_1.length : Int) ≤ 20000))) else (some false)) = some r := H; have A2 := Aside0.mk A20; clear A20
 by_cases c3 : t540002 = true
 ·subst c3; have H1 : (some (decide ((l0_1.length : Int) ≤ 20000))) = some r := by rw [if_pos rfl] at H; exact H
  clear H; have H := H1; clear H1; obtain rfl := Option.some.inj H
  go_enter Tryd.func54, Tryd.ntmps54
  go_wp2_with (first | ((with_reducible refine gate_dst (N := 1) rfl ?_); (try (refine gate_guard (by rfl) ?_; dsimp only)); refine box_event ?hg (N := 1) ?hd (cs := #[.int .i64 a0_0, .slice A0_1 l0_1.length c0_1]) (t := 38) ?hr ?_; (case hd => rfl); (case hg => rfl); (case hr => first | (go_simp; done) | (go_simp; rfl)); intro gb540001 hg w4 hbox hb; have n0_ := Aside0.mk (below_step zq_0 hb); have n1_ := Aside0.mk (hbox); have n2_ := Aside0.mk ((by rw [hg]; exact (below_size zq_0) : w.heap.size ≤ gb540001)); have n3_ := Aside0.mk ((by rw [hg]; exact (below_size zq_0) : w.heap.size ≤ gb540001)); clear HB; have HB := n0_; have BK540001 := n1_; have GW540001 := n2_; have GE540001 := n3_; clear n0_ n1_ n2_ n3_; clear hb hbox hg; have hcz5_0 : w4.cell? ⟨gb540001, 0, none⟩ = some (.int .i64 a0_0) := (blk_cell BK540001.out 0).trans rfl; have hcz5_1 : w4.cell? ⟨gb540001, 1, none⟩ = some (.slice A0_1 l0_1.length c0_1) := (blk_cell BK540001.out 1).trans rfl; have hfz5_0 := blk_frozen BK540001.out 0; have hfz5_1 := blk_frozen BK540001.out 1) | ((with_reducible refine gate_callee (f := 38) rfl ?_); refine goesL_ (some 5) rfl rfl Tryd.func38 (by kernel_rfl) rfl #[.int .i64 a0_0] rfl zq_1 ?_; (with_reducible refine (spec_l1Width.calls a0_0 true _ A2.out).mono ?_); rintro e w' ⟨rfl, ⟨nd, rfl⟩⟩; refine ⟨_, rfl, ?_⟩))
  go_ret
  exact ⟨by first | rfl | (simp [errW_none, errW_some] <;> rfl) | (simp [*, errW_none, errW_some] <;> rfl), by repeat (first | (with_reducible first | exact HB.out | apply below_alloc | apply pw_below_drewN | apply below_drew1 | refine below_set ?_ GE540001.out) | exact HB.out)⟩
 ·replace c3 := Bool.eq_false_iff.mpr c3; subst c3; have H1 : (some false) = some r := by rw [if_neg (show ¬ (false = true) by decide)] at H; exact H
  clear H; have H := H1; clear H1; obtain rfl := Option.some.inj H
  go_enter Tryd.func54, Tryd.ntmps54
  go_wp2_with (first | ((with_reducible refine gate_dst (N := 1) rfl ?_); (try (refine gate_guard (by rfl) ?_; dsimp only)); refine box_event ?hg (N := 1) ?hd (cs := #[.int .i64 a0_0, .slice A0_1 l0_1.length c0_1]) (t := 38) ?hr ?_; (case hd => rfl); (case hg => rfl); (case hr => first | (go_simp; done) | (go_simp; rfl)); intro gb540001 hg w6 hbox hb; have n0_ := Aside0.mk (below_step zq_0 hb); have n1_ := Aside0.mk (hbox); have n2_ := Aside0.mk ((by rw [hg]; exact (below_size zq_0) : w.heap.size ≤ gb540001)); have n3_ := Aside0.mk ((by rw [hg]; exact (below_size zq_0) : w.heap.size ≤ gb540001)); clear HB; have HB := n0_; have BK540001 := n1_; have GW540001 := n2_; have GE540001 := n3_; clear n0_ n1_ n2_ n3_; clear hb hbox hg; have hcz7_0 : w6.cell? ⟨gb540001, 0, none⟩ = some (.int .i64 a0_0) := (blk_cell BK540001.out 0).trans rfl; have hcz7_1 : w6.cell? ⟨gb540001, 1, none⟩ = some (.slice A0_1 l0_1.length c0_1) := (blk_cell BK540001.out 1).trans rfl; have hfz7_0 := blk_frozen BK540001.out 0; have hfz7_1 := blk_frozen BK540001.out 1) | ((with_reducible refine gate_callee (f := 38) rfl ?_); refine goesL_ (some 5) rfl rfl Tryd.func38 (by kernel_rfl) rfl #[.int .i64 a0_0] rfl zq_1 ?_; (with_reducible refine (spec_l1Width.calls a0_0 false _ A2.out).mono ?_); rintro e w' ⟨rfl, ⟨nd, rfl⟩⟩; refine ⟨_, rfl, ?_⟩))
  go_ret
  exact ⟨by first | rfl | (simp [errW_none, errW_some] <;> rfl) | (simp [*, errW_none, errW_some] <;> rfl), by repeat (first | (with_reducible first | exact HB.out | apply below_alloc | apply pw_below_drewN | apply below_drew1 | refine below_set ?_ GE540001.out) | exact HB.out)⟩
end Go.Proofs.YthnnphinfiobmaaDoor.Z
end
section
namespace Go.Proofs.YthnnphinfiobmaaDoor.Z
open Go.RowKit Go.Proofs.YthnnphinfiobmaaDoorW.PrintWords Go.Proofs.YthnnphinfiobmaaDoorW.PrintLast Go.Proofs.YthnnphinfiobmaaDoorW.PrintMore
attribute [local go_sem] max2_int min2_int max_two min_two max_three min_three max_four min_four
set_option linter.unusedVariables false
set_option linter.unusedSimpArgs false
def spec_Digest.f (k : Nat) (a0 : ByteArray) (a1 : Int) : Option (ByteArray) := (spec_l1Width.f a1).bind fun t700001 => (if t700001 = true then ((spec_Sha256.f k a0).bind fun t700002 => (if 0 ≤ a1 then (if a1 ≤ (t700002.size : Int) then (some (t700002.extract 0 (a1 : Int).toNat)) else (none)) else (none))) else (some (⟨#[]⟩ : ByteArray)))
set_option maxHeartbeats 8000000 in
set_option maxRecDepth 100000 in
theorem spec_Digest.calls (k : Nat) (a0 : ByteArray) (a1 : Int) (r : ByteArray) (w : World) (h : spec_Digest.f k a0 a1 = some r) :
  Calls Tryd.prog 70 #[.string a0, .int .i64 a1] w fun e w' => e = .returned (.string r) ∧ Below w.heap.size w w' := by
 have HB := Aside0.mk (Below.refl w.heap.size w); have H : ((spec_l1Width.f a1).bind fun t700001 => (if t700001 = true then ((spec_Sha256.f k a0).bind fun t700002 => (if 0 ≤ a1 then (if a1 ≤ (t700002.size : Int) then (some (t700002.extract 0 (a1 : Int).toNat)) else (none)) else (none))) else (some (⟨#[]⟩ : ByteArray)))) = some r := h; clear h; replace H := Option.bind_eq_some_iff.mp H; obtain ⟨t700001, A30, H⟩ := H; replace H : (if t700001 = true then ((spec_Sha256.f k a0).bind fun t700002 => (if 0 ≤ a1 then (if a1 ≤ (t700002.size : Int) then (some (t700002.extract 0 (a1 : Int).toNat)) else (none)) else (none))) else (some (⟨#[]⟩ : ByteArray))) = some r := H; have A3 := Aside0.mk A30; clear A30
 by_cases c4 : t700001 = true
 ·subst c4; have H1 : ((spec_Sha256.f k a0).bind fun t700002 => (if 0 ≤ a1 then (if a1 ≤ (t700002.size : Int) then (some (t700002.extract 0 (a1 : Int).toNat)) else (none)) else (none))) = some r := by rw [if_pos rfl] at H; exact H
  clear H; have H := H1; clear H1; replace H := Option.bind_eq_some_iff.mp H; obtain ⟨t700002, A50, H⟩ := H; replace H : (if 0 ≤ a1 then (if a1 ≤ (t700002.size : Int) then (some (t700002.extract 0 (a1 : Int).toNat)) else (none)) else (none)) = some r := H; have A5 := Aside0.mk A50; clear A50
  by_cases c6 : 0 ≤ a1
  ·rw [if_pos c6] at H; have c6b0 := eq_true c6; have c6b1 : decide (0 ≤ a1) = true := decide_eq_true c6; clear c6
   by_cases c7 : a1 ≤ (t700002.size : Int)
   ·rw [if_pos c7] at H; have c7b0 := eq_true c7; have c7b1 : decide (a1 ≤ (t700002.size : Int)) = true := decide_eq_true c7; clear c7; obtain rfl := Option.some.inj H
    go_enter Tryd.func70, Tryd.ntmps70
    go_wp2_with (first | ((with_reducible refine gate_callee (f := 38) rfl ?_); refine goesL_ (some 6) rfl rfl Tryd.func38 (by kernel_rfl) rfl #[.int .i64 a1] rfl zq_1 ?_; (with_reducible refine (spec_l1Width.calls a1 true _ A3.out).mono ?_); rintro e w' ⟨rfl, ⟨nd, rfl⟩⟩; refine ⟨_, rfl, ?_⟩) | ((with_reducible refine gate_callee (f := 90) rfl ?_); refine goesL_ (some 9) rfl rfl Tryd.func90 (by kernel_rfl) rfl #[.string a0] rfl zq_1 ?_; (with_reducible refine (spec_Sha256.calls k a0 t700002 _ A5.out).mono ?_); rintro e w8 ⟨rfl, hb⟩; refine ⟨_, rfl, ?_⟩; have n0_ := Aside0.mk (below_step zq_0 hb); clear HB; have HB := n0_; clear n0_; (try clear hb); (try clear hb2); (try clear hk); (try clear hi)))
    go_ret
    exact ⟨by first | rfl | (simp [errW_none, errW_some] <;> rfl) | (simp [*, errW_none, errW_some] <;> rfl), by repeat (first | (with_reducible first | exact HB.out | apply below_alloc | apply pw_below_drewN | apply below_drew1) | exact HB.out)⟩
   ·rw [if_neg c7] at H; exact absurd H (by simp)
  ·rw [if_neg c6] at H; exact absurd H (by simp)
 ·replace c4 := Bool.eq_false_iff.mpr c4; subst c4; have H1 : (some (⟨#[]⟩ : ByteArray)) = some r := by rw [if_neg (show ¬ (false = true) by decide)] at H; exact H
  clear H; have H := H1; clear H1; obtain rfl := Option.some.inj H
  go_enter Tryd.func70, Tryd.ntmps70
  go_wp2_with (first | ((with_reducible refine gate_callee (f := 38) rfl ?_); refine goesL_ (some 6) rfl rfl Tryd.func38 (by kernel_rfl) rfl #[.int .i64 a1] rfl zq_1 ?_; (with_reducible refine (spec_l1Width.calls a1 false _ A3.out).mono ?_); rintro e w' ⟨rfl, ⟨nd, rfl⟩⟩; refine ⟨_, rfl, ?_⟩))
  go_ret
  exact ⟨by first | rfl | (simp [errW_none, errW_some] <;> rfl) | (simp [*, errW_none, errW_some] <;> rfl), by repeat (first | (with_reducible first | exact HB.out | apply below_alloc | apply pw_below_drewN | apply below_drew1) | exact HB.out)⟩
end Go.Proofs.YthnnphinfiobmaaDoor.Z
end
section
namespace Go.Proofs.YthnnphinfiobmaaDoor.Z
open Go.RowKit Go.Proofs.YthnnphinfiobmaaDoorW.PrintWords Go.Proofs.YthnnphinfiobmaaDoorW.PrintLast Go.Proofs.YthnnphinfiobmaaDoorW.PrintMore
attribute [local go_sem] max2_int min2_int max_two min_two max_three min_three max_four min_four
set_option linter.unusedVariables false
set_option linter.unusedSimpArgs false
def spec_l2Text.f (a0 : ByteArray) : Option (ByteArray) := if 1 + a0.size ≤ 9223372036854775807 then (some ((⟨#[78]⟩ : ByteArray) ++ a0)) else (none)
set_option maxHeartbeats 8000000 in
set_option maxRecDepth 100000 in
theorem spec_l2Text.calls (a0 : ByteArray) (r : ByteArray) (w : World) (h : spec_l2Text.f a0 = some r) :
  Calls Tryd.prog 48 #[.string a0] w fun e w' => e = .returned (.string r) ∧ Drawn0 w w' := by
 have H : (if 1 + a0.size ≤ 9223372036854775807 then (some ((⟨#[78]⟩ : ByteArray) ++ a0)) else (none)) = some r := h; clear h
 by_cases c2 : 1 + a0.size ≤ 9223372036854775807
 ·rw [if_pos c2] at H; have c2b0 := eq_true c2; have c2b1 : decide (1 + a0.size ≤ 9223372036854775807) = true := decide_eq_true c2
  try have c2b2 : (9223372036854775807 < 1 + a0.size) = False := eq_false (Nat.not_lt.2 c2)
  obtain rfl := Option.some.inj H
  go_enter Tryd.func48, Tryd.ntmps48
  go_wp2
  go_ret
  exact ⟨by first | rfl | (simp; done) | (simp [*]; done), by repeat (first | exact Drawn0.refl _ | apply Drawn0.step)⟩
 ·rw [if_neg c2] at H; exact absurd H (by simp)
end Go.Proofs.YthnnphinfiobmaaDoor.Z
end
section
namespace Go.Proofs.YthnnphinfiobmaaDoor.Z
open Go.RowKit Go.Proofs.YthnnphinfiobmaaDoorW.PrintWords Go.Proofs.YthnnphinfiobmaaDoorW.PrintLast Go.Proofs.YthnnphinfiobmaaDoorW.PrintMore
attribute [local go_sem] max2_int min2_int max_two min_two max_three min_three max_four min_four
set_option linter.unusedVariables false
set_option linter.unusedSimpArgs false
def spec_l3Hashes.l0 : Nat → List ByteArray → Int → Int → List ByteArray → Option (List ByteArray)
 | 0, _, _, _, _ => none
 | k + 1, x3, x4, x570002000, x570002001 => if x4 < (x570002001.length : Int) then (if 0 ≤ x4 then ((spec_l2Text.f (rdOf ByteArray.empty x570002001 x4)).bind fun t570006 => ((spec_Digest.f k t570006 x570002000).bind fun t570007 => (if x3.length < 8796093022208 then (spec_l3Hashes.l0 k (x3 ++ [t570007]) (wrap64 (x4 + 1)) x570002000 x570002001) else (none)))) else (none)) else (some x3)
def spec_l3Hashes.f (k : Nat) (a0_0 : Int) (l0_1 : List ByteArray) : Option (List ByteArray) := spec_l3Hashes.l0 k (([] : List ByteArray)) 0 a0_0 l0_1
def spec_l3Hashes.T5 : Bool × List (List Nat × List Nat) := (true, [([], []), ([], []), ([1], [1]), ([], []), ([2, 3], [2, 3]), ([4], [4]), ([5], [5]), ([], []), ([7], [7]), ([6, 8, 6], [6, 8]), ([9], [9]), ([0, 10, 9], [0, 10]), ([11, 11, 0, 1, 2, 3, 4, 5, 6, 7, 8, 9, 10, 11], [0, 11])])
def spec_l3Hashes.B5 : List Nat := [0, 0, 2, 0, 14, 30, 62, 0, 128, 510, 1022, 2047, 4095]
theorem spec_l3Hashes.tab5 : rtab .any (opsOf Tryd.f57 5) = spec_l3Hashes.T5 := by kernel_rfl
theorem spec_l3Hashes.bits5 : waitsOk spec_l3Hashes.T5.2 spec_l3Hashes.B5 = true := by kernel_rfl
set_option maxHeartbeats 8000000 in
set_option maxRecDepth 100000 in
theorem spec_l3Hashes.calls (k : Nat) (a0_0 : Int) (A0_1 : Option Addr) (c0_1 : Nat) (l0_1 : List ByteArray) (r : List ByteArray) (w : World) (hr0_1 : Kd.C Kd.string w A0_1 l0_1.length l0_1) (hc0_1 : l0_1.length ≤ c0_1) (h : spec_l3Hashes.f k a0_0 l0_1 = some r) :
  Calls Tryd.prog 57 #[.agg #[.int .i64 a0_0, .slice A0_1 l0_1.length c0_1]] w fun e w' => ∃ v0_ : Value, e = .returned (v0_) ∧ Kd.R Kd.string 9 w' w.heap.size (fun _ => True) v0_ r ∧ Below w.heap.size w w' := by
 have hu38 := Tryd.underlying38; have HR0_1 := Aside0.mk hr0_1; have HC0_1 := Aside0.mk hc0_1; clear hr0_1 hc0_1; have HB := Aside0.mk (Below.refl w.heap.size w); have H : (spec_l3Hashes.l0 k (([] : List ByteArray)) 0 a0_0 l0_1) = some r := h; clear h; obtain ⟨y570002, hy570002⟩ : ∃ y_ : List ByteArray, y_ = (([] : List ByteArray)) := ⟨_, rfl⟩
 replace H : (spec_l3Hashes.l0 k y570002 0 a0_0 l0_1) = some r := by first | (rw [hy570002]; with_reducible exact H) | (have H2_ := (Option.bind_some _ _).symm.trans H; rw [hy570002]; with_reducible exact H2_) | (have H2_ := (Option.bind_some _ _).symm.trans H; with_reducible exact H2_) | with_reducible exact H | (rw [hy570002]; exact H) | exact H
 have Ny570002 := Aside0.mk hy570002; clear hy570002; have H' := Aside0.mk H; clear H
 go_enter Tryd.func57, Tryd.ntmps57
 go_wp2_with (first | ((with_reducible refine gate_dst (N := 1) rfl ?_); refine box_event ?hg (N := 1) ?hd (cs := #[.int .i64 a0_0, .slice A0_1 l0_1.length c0_1]) (t := 38) ?hr ?_; (case hd => rfl); (case hg => rfl); (case hr => first | (go_simp; done) | (go_simp; rfl)); intro gb570001 hg w2 hbox hb; have n0_ := Aside0.mk (below_step zq_0 hb); have n1_ := Aside0.mk (hbox); have n2_ := Aside0.mk ((by rw [hg]; exact (below_size zq_0) : w.heap.size ≤ gb570001)); have n3_ := Aside0.mk ((by rw [hg]; exact (below_size zq_0) : w.heap.size ≤ gb570001)); clear HB; have HB := n0_; have BK570001 := n1_; have GW570001 := n2_; have GE570001 := n3_; clear n0_ n1_ n2_ n3_; clear hb hbox hg) | ((with_reducible refine gate_dst (N := 5) rfl ?_); refine Kd.R_lit Kd.string _ 9 ?hg (N := 5) ?hd (xs := ([] : List ByteArray)) (inner := []) (ok := fun _ => True) (okp := fun _ => True) ?hr ?hp (fun _ hk => hk) trivial (Below.refl _ _) (Nat.le_refl _) (by simp) ?_; (case hd => rfl); (case hg => rfl); (case hr => first | (go_simp; done) | (go_simp; rfl)); (case hp => exact (Reps.none _ _)); intro v570003 w3 ho4 hb hg_ hnew_; clear hg_ hnew_; (first | rw [← Ny570002.out] at ho4 | (simp only [Int.reduceToNat] at ho4; rw [← Ny570002.out] at ho4)); have n0_ := Aside0.mk (Kd.R_lower ho4 (below_size (by repeat (first | (with_reducible first | exact HB.out | apply below_alloc | apply pw_below_drewN | apply below_drew1 | refine below_set ?_ GE570001.out) | exact HB.out)))); have n1_ := Aside0.mk (blk_below (g := gb570001) (o := .cells #[.int .i64 a0_0, .slice A0_1 l0_1.length c0_1] 38 (0, 0)) (by (with_reducible repeat (first | refine blk_drewN ?_ _ | refine blk_drew ?_ | refine blk_alloc ?_ _)); exact BK570001.out) hb); have n2_ := Aside0.mk (below_step (by repeat (first | (with_reducible first | exact HB.out | apply below_alloc | apply pw_below_drewN | apply below_drew1 | refine below_set ?_ GE570001.out) | exact HB.out)) hb); clear BK570001; clear HB; have HO570004 := n0_; have BK570001 := n1_; have HB := n2_; clear n0_ n1_ n2_; clear hb ho4))
 go_loopg [3, 4] k (fun kq v3 v4 w' => ∃ (x3_1 : List ByteArray) (x4_1 : Int), v4 = .int .i64 x4_1 ∧ Aside0 (spec_l3Hashes.l0 kq x3_1 x4_1 a0_0 l0_1 = some r) ∧ Aside0 (kq ≤ k) ∧ Aside0 (Kd.R Kd.string 9 w' w.heap.size (fun _ => True) v3 x3_1) ∧ Aside0 (w'.heap[gb570001]? = some (.cells #[.int .i64 a0_0, (.slice A0_1 l0_1.length c0_1)] 38 (0, 0))) ∧ Aside0 (Below w.heap.size w w'))
 case atStart => exact ⟨(y570002), (0), zq_11, H', ⟨Nat.le_refl _⟩, ⟨by (with_reducible repeat (first | apply Kd.R_alloc | apply Kd.R_drewN | apply Kd.R_drew)); exact HO570004.out⟩, ⟨by (with_reducible repeat (first | refine blk_drewN ?_ _ | refine blk_drew ?_ | refine blk_alloc ?_ _)); exact BK570001.out⟩, ⟨by repeat (first | (with_reducible first | exact HB.out | apply below_alloc | apply pw_below_drewN | apply below_drew1 | refine below_set ?_ GE570001.out) | exact HB.out)⟩⟩
 case round =>
  clear H'
  try clear p2
  obtain ⟨x3_1, x4_1, rfl, HA, HK1, HO_3, BK570001, HB⟩ := hrel
  cases gk with
  | zero => exact absurd HA.out (by simp [spec_l3Hashes.l0])
  | succ k1 =>
   have H := HA.out; clear HA; simp only [spec_l3Hashes.l0] at H
   by_cases c5 : x4_1 < (l0_1.length : Int)
   ·rw [if_pos c5] at H; have c5b0 : decide (x4_1 < (l0_1.length : Int)) = true := decide_eq_true c5; clear c5
    by_cases c6 : 0 ≤ x4_1
    ·rw [if_pos c6] at H; have c6b0 : decide (0 ≤ x4_1) = true := decide_eq_true c6; clear c6; replace H := Option.bind_eq_some_iff.mp H; obtain ⟨t570006, A70, H⟩ := H; replace H : ((spec_Digest.f k1 t570006 a0_0).bind fun t570007 => (if x3_1.length < 8796093022208 then (spec_l3Hashes.l0 k1 (x3_1 ++ [t570007]) (wrap64 (x4_1 + 1)) a0_0 l0_1) else (none))) = some r := H; have A7 := Aside0.mk A70; clear A70; replace H := Option.bind_eq_some_iff.mp H; obtain ⟨t570007, A80, H⟩ := H; replace H : (if x3_1.length < 8796093022208 then (spec_l3Hashes.l0 k1 (x3_1 ++ [t570007]) (wrap64 (x4_1 + 1)) a0_0 l0_1) else (none)) = some r := H; have A8 := Aside0.mk A80; clear A80
     by_cases c9 : x3_1.length < 8796093022208
     ·rw [if_pos c9] at H; have LMc9 := Aside0.mk c9; clear c9; obtain ⟨y570008, hy570008⟩ : ∃ y_ : List ByteArray, y_ = (x3_1 ++ [t570007]) := ⟨_, rfl⟩
      replace H : (spec_l3Hashes.l0 k1 y570008 (wrap64 (x4_1 + 1)) a0_0 l0_1) = some r := by first | (rw [hy570008]; with_reducible exact H) | (have H2_ := (Option.bind_some _ _).symm.trans H; rw [hy570008]; with_reducible exact H2_) | (have H2_ := (Option.bind_some _ _).symm.trans H; with_reducible exact H2_) | with_reducible exact H | (rw [hy570008]; exact H) | exact H
      have Ny570008 := Aside0.mk hy570008; clear hy570008; have H' := Aside0.mk H; clear H; have hcz10_0 : wr.cell? ⟨gb570001, 0, none⟩ = some (.int .i64 a0_0) := (blk_cell BK570001.out 0).trans rfl; have hcz10_1 : wr.cell? ⟨gb570001, 1, none⟩ = some (.slice A0_1 l0_1.length c0_1) := (blk_cell BK570001.out 1).trans rfl; have hfz10_0 := blk_frozen BK570001.out 0; have hfz10_1 := blk_frozen BK570001.out 1
      try go_wp2
      have n0_ := Aside0.mk (Kd.R_drew HO_3.out); have n1_ := Aside0.mk (blk_drew BK570001.out); have n2_ := Aside0.mk (below_drew1 HB.out); clear HO_3; clear BK570001; clear HB; have HO_3 := n0_; have BK570001 := n1_; have HB := n2_; clear n0_ n1_ n2_; have p570005 : 0 ≤ (x4_1 : Int) := of_decide_eq_true zq_3; have q570005 : x4_1 < (l0_1.length : Int) := of_decide_eq_true zq_3; obtain ⟨ad570005, e570005, hx570005_0⟩ := Kd.at_string HR0_1.out x4_1 p570005 q570005; have hw570005_0 := hx570005_0
      cases e570005
      replace hx570005_0 := (HB.out.cell (World.block_lt_of_cell? w _ hx570005_0)).trans hx570005_0; replace p570005 := eq_true p570005; replace q570005 := eq_true q570005; refine start_ (n := 13) (S := fun w' => w'.cell? ⟨gb570001, 0, none⟩ = some (.int .i64 a0_0) ∧ w'.cell? ⟨gb570001, 1, none⟩ = some (.slice (some ad570005) l0_1.length c0_1) ∧ w'.cell? (ad570005.add (x4_1).toNat) = some (.string (rdOf ByteArray.empty l0_1 x4_1))) (ds := []) #[false, false, false, false, false, false, false, false, false, false, false, false, false] (by kernel_rfl) rfl rfl ⟨(blk_cell BK570001.out 0).trans rfl, (blk_cell BK570001.out 1).trans rfl, ((HB.out.cell (World.block_lt_of_cell? w _ hw570005_0)).trans hw570005_0)⟩ (fun hHeld => ?_); refine with_tabW spec_l3Hashes.tab5 spec_l3Hashes.bits5 (fun HT_ HW_ => ?_); generalize wr.drew = w11 at HO_3 BK570001 HB hx570005_0 hHeld ⊢; refine pure_ (i := 0) (N := some 13) (v := ?_) (a' := ?_) #[true, false, false, false, false, false, false, false, false, false, false, false, false] rfl rfl (any_of HT_.out (by kernel_rfl)) (fun _ _ _ h => h) (Or.inl ⟨by rfl, ?_⟩) ?_ ?_; rotate_left
      ·intro w'; go_simp
       with_reducible rfl
      rotate_left
      ·simp only [Act.put, List.setIfInBounds_toArray, List.set_cons_zero, List.set_cons_succ, i64_w, i32_w]; rfl
      refine pure_ (i := 1) (N := some 14) (v := ?_) (a' := ?_) #[true, true, false, false, false, false, false, false, false, false, false, false, false] rfl rfl (any_of HT_.out (by kernel_rfl)) (fun _ _ _ h => h) (Or.inl ⟨by rfl, ?_⟩) ?_ ?_; rotate_left
      ·intro w'; go_simp
       with_reducible rfl
      rotate_left
      ·simp only [Act.put, List.setIfInBounds_toArray, List.set_cons_zero, List.set_cons_succ, i64_w, i32_w]; rfl
      refine pure_ (i := 3) (N := some 16) (v := ?_) (a' := ?_) #[true, true, false, true, false, false, false, false, false, false, false, false, false] rfl rfl (any_of HT_.out (by kernel_rfl)) (fun _ _ _ h => h) (Or.inl ⟨by rfl, ?_⟩) ?_ ?_; rotate_left
      ·intro w'; go_simp
       with_reducible rfl
      rotate_left
      ·simp only [Act.put, List.setIfInBounds_toArray, List.set_cons_zero, List.set_cons_succ, i64_w, i32_w]; rfl
      refine pure_ (i := 7) (N := some 20) (v := ?_) (a' := ?_) #[true, true, false, true, false, false, false, true, false, false, false, false, false] rfl rfl (any_of HT_.out (by kernel_rfl)) (fun _ _ _ h => h) (Or.inl ⟨by rfl, ?_⟩) ?_ ?_; rotate_left
      ·intro w'; go_simp
       with_reducible rfl
      rotate_left
      ·simp only [Act.put, List.setIfInBounds_toArray, List.set_cons_zero, List.set_cons_succ, i64_w, i32_w]; rfl
      refine take_ (i := 2) (N := some 15) (v := ?_) (a' := ?_) #[true, true, true, true, false, false, false, true, false, false, false, false, false] rfl rfl (take_ofW HT_.out HW_.out (by kernel_rfl)) (fun _ _ _ h => h) (Or.inl ⟨by rfl, ?_⟩) hHeld ?_ ?_; rotate_left
      ·rintro w' ⟨s0, s1, s2⟩; go_simp
       with_reducible rfl
      rotate_left
      ·simp only [Act.put, List.setIfInBounds_toArray, List.set_cons_zero, List.set_cons_succ, i64_w, i32_w]; rfl
      refine pure_ (i := 4) (N := some 17) (v := ?_) (a' := ?_) #[true, true, true, true, true, false, false, true, false, false, false, false, false] rfl rfl (any_of HT_.out (by kernel_rfl)) (fun _ _ _ h => h) (Or.inl ⟨by rfl, ?_⟩) ?_ ?_; rotate_left
      ·intro w'; go_simp
       with_reducible rfl
      rotate_left
      ·simp only [Act.put, List.setIfInBounds_toArray, List.set_cons_zero, List.set_cons_succ, i64_w, i32_w]; rfl
      refine take_ (i := 5) (N := some 18) (v := ?_) (a' := ?_) #[true, true, true, true, true, true, false, true, false, false, false, false, false] rfl rfl (take_ofW HT_.out HW_.out (by kernel_rfl)) (fun _ _ _ h => h) (Or.inl ⟨by rfl, ?_⟩) hHeld ?_ ?_; rotate_left
      ·rintro w' ⟨s0, s1, s2⟩; go_simp
       with_reducible rfl
      rotate_left
      ·simp only [Act.put, List.setIfInBounds_toArray, List.set_cons_zero, List.set_cons_succ, i64_w, i32_w]; rfl
      refine take_ (i := 8) (N := some 21) (v := ?_) (a' := ?_) #[true, true, true, true, true, true, false, true, true, false, false, false, false] rfl rfl (take_ofW HT_.out HW_.out (by kernel_rfl)) (fun _ _ _ h => h) (Or.inl ⟨by rfl, ?_⟩) hHeld ?_ ?_; rotate_left
      ·rintro w' ⟨s0, s1, s2⟩; go_simp
       with_reducible rfl
      rotate_left
      ·simp only [Act.put, List.setIfInBounds_toArray, List.set_cons_zero, List.set_cons_succ, i64_w, i32_w]; rfl
      refine one_ (i := 6) (N := some 19) #[true, true, true, true, true, true, true, true, true, false, false, false, false] rfl rfl (one_of HT_.out (by kernel_rfl)) (by decide) (fun K hK => ?_); refine goes_ Tryd.func48 (by kernel_rfl) rfl #[.string (rdOf ByteArray.empty l0_1 x4_1)] (by rfl) rfl rfl zq_1 ?_
      with_reducible refine (spec_l2Text.calls (rdOf ByteArray.empty l0_1 x4_1) t570006 _ A7.out).mono ?_
      rintro e w' ⟨rfl, ⟨nd, rfl⟩⟩; refine ⟨_, rfl, ?_⟩; refine hK.out _ _ ⟨(blk_cell BK570001.out 0).trans rfl, (blk_cell BK570001.out 1).trans rfl, ((HB.out.cell (World.block_lt_of_cell? w _ hw570005_0)).trans hw570005_0)⟩ (fun hHeld => ?_); clear hK K; refine norm_ (a' := ?_) ?_ ?_; rotate_left
      ·show Act.put _ (some 19) _ = _; simp only [Act.put, List.setIfInBounds_toArray, List.set_cons_zero, List.set_cons_succ, i64_w, i32_w]; rfl
      refine one_ (i := 9) (N := some 22) #[true, true, true, true, true, true, true, true, true, true, false, false, false] rfl rfl (one_of HT_.out (by kernel_rfl)) (by decide) (fun K hK => ?_); refine goes_ Tryd.func70 (by kernel_rfl) rfl #[.string t570006, .int .i64 a0_0] (by rfl) rfl rfl zq_1 ?_
      with_reducible refine (spec_Digest.calls k1 t570006 a0_0 t570007 _ A8.out).mono ?_
      rintro e w12 ⟨rfl, hb⟩; refine ⟨_, rfl, ?_⟩; have n0_ := Aside0.mk (Kd.R_below (by (with_reducible repeat (first | apply Kd.R_alloc | apply Kd.R_drewN | apply Kd.R_drew)); exact HO_3.out) hb); have n1_ := Aside0.mk (blk_below (g := gb570001) (o := .cells #[.int .i64 a0_0, .slice (some ad570005) l0_1.length c0_1] 38 (0, 0)) (by (with_reducible repeat (first | refine blk_drewN ?_ _ | refine blk_drew ?_ | refine blk_alloc ?_ _)); exact BK570001.out) hb); have n2_ := Aside0.mk (below_step (by repeat (first | (with_reducible first | exact HB.out | apply below_alloc | apply pw_below_drewN | apply below_drew1 | refine below_set ?_ GE570001.out) | exact HB.out)) hb); clear HO_3; clear BK570001; clear HB; have HO_3 := n0_; have BK570001 := n1_; have HB := n2_; clear n0_ n1_ n2_; (try clear hb); (try clear hb2); (try clear hk); (try clear hi); refine hK.out _ _ ⟨(blk_cell BK570001.out 0).trans rfl, (blk_cell BK570001.out 1).trans rfl, ((HB.out.cell (World.block_lt_of_cell? w _ hw570005_0)).trans hw570005_0)⟩ (fun hHeld => ?_); clear hK K; refine norm_ (a' := ?_) ?_ ?_; rotate_left
      ·show Act.put _ (some 22) _ = _; simp only [Act.put, List.setIfInBounds_toArray, List.set_cons_zero, List.set_cons_succ, i64_w, i32_w]; rfl
      refine one_ (i := 10) (N := some 23) #[true, true, true, true, true, true, true, true, true, true, true, false, false] rfl rfl (one_of HT_.out (by kernel_rfl)) (by decide) (fun K hK => ?_); refine value_ (w1 := ?_) (v := ?_) (by rfl) rfl ?_ ?_; rotate_left 2
      ·go_simp
       constructor
       ·rfl
       ·rfl
      refine hK.out _ _ ⟨(blk_cell (blk_alloc BK570001.out _) 0).trans rfl, (blk_cell (blk_alloc BK570001.out _) 1).trans rfl, (World.cell?_alloc_lt _ _ _ (World.block_lt_of_cell? _ _ (((HB.out.cell (World.block_lt_of_cell? w _ hw570005_0)).trans hw570005_0)))).trans (((HB.out.cell (World.block_lt_of_cell? w _ hw570005_0)).trans hw570005_0))⟩ (fun hHeld => ?_); clear hK K; refine norm_ (a' := ?_) ?_ ?_; rotate_left
      ·show Act.put _ (some 23) _ = _; simp only [Act.put, List.setIfInBounds_toArray, List.set_cons_zero, List.set_cons_succ, i64_w, i32_w]; rfl
      refine one_ (i := 11) (N := some 24) #[true, true, true, true, true, true, true, true, true, true, true, true, false] rfl rfl (one_of HT_.out (by kernel_rfl)) (by decide) (fun K hK => ?_); refine Kd.R_append_step Kd.string (w0 := w) w.heap.size (by rfl) (.tmp 13) (.tmp 23) 32 9 (.string ⟨#[]⟩) 16 rfl Tryd.underlying32 info9 rfl (by decide) (by omega) u3 x3_1 t570007 [.string t570007] (fun _ => True) (fun _ => False) rfl rfl ?aP (fun _ hk => hk.elim) ?aF ?aO ?aB ?aS ?aL ?_; (case aP => exact rfl); (case aB => exact (by repeat (first | (with_reducible first | exact HB.out | apply below_alloc | apply pw_below_drewN | apply below_drew1 | refine below_set ?_ GE570001.out) | exact HB.out))); (case aF => exact (fun _ _ => trivial)); (case aO => exact (by (with_reducible repeat (first | apply Kd.R_alloc | apply Kd.R_drewN | apply Kd.R_drew)); exact HO_3.out)); (case aS => exact (below_size (by repeat (first | (with_reducible first | exact HB.out | apply below_alloc | apply pw_below_drewN | apply below_drew1 | refine below_set ?_ GE570001.out) | exact HB.out)))); (case aL => have := LMc9.out; omega); intro v570009 w13 ho hb hg hat; rw [← Ny570008.out] at ho; have n0_ := Aside0.mk (blk_grown (g := gb570001) (o := .cells #[.int .i64 a0_0, .slice (some ad570005) l0_1.length c0_1] 38 (0, 0)) (by (with_reducible repeat (first | refine blk_drewN ?_ _ | refine blk_drew ?_ | refine blk_alloc ?_ _)); exact BK570001.out) hg (Kd.R_ne HO_3.out BK570001.out (by decide))); have n1_ := Aside0.mk (hb); have n2_ := Aside0.mk (ho); clear BK570001; clear HB; clear HO_3; have BK570001 := n0_; have HB := n1_; have HO570010 := n2_; clear n0_ n1_ n2_; clear ho hb hg hat; refine hK.out _ _ ⟨(blk_cell BK570001.out 0).trans rfl, (blk_cell BK570001.out 1).trans rfl, ((HB.out.cell (World.block_lt_of_cell? w _ hw570005_0)).trans hw570005_0)⟩ (fun hHeld => ?_); clear hK K; refine norm_ (a' := ?_) ?_ ?_; rotate_left
      ·show Act.put _ (some 24) _ = _; simp only [Act.put, List.setIfInBounds_toArray, List.set_cons_zero, List.set_cons_succ, i64_w, i32_w]; rfl
      refine pure_ (i := 12) (N := some 3) (v := ?_) (a' := ?_) #[true, true, true, true, true, true, true, true, true, true, true, true, true] rfl rfl (any_of HT_.out (by kernel_rfl)) (fun _ _ _ h => h) (Or.inl ⟨by rfl, ?_⟩) ?_ ?_; rotate_left
      ·intro w'; go_simp
       with_reducible rfl
      rotate_left
      ·simp only [Act.put, List.setIfInBounds_toArray, List.set_cons_zero, List.set_cons_succ, i64_w, i32_w]; rfl
      refine done_ (done_of HT_.out (by kernel_rfl)) ?_
      try go_wp2
      go_roundg k1
      case measure => have := HK1.out; omega
      case rel => exact ⟨(y570008), (wrap64 (x4_1 + 1)), zq_11, H', ⟨by have := HK1.out; omega⟩, ⟨by (with_reducible repeat (first | apply Kd.R_alloc | apply Kd.R_drewN | apply Kd.R_drew)); exact HO570010.out⟩, ⟨by (with_reducible repeat (first | refine blk_drewN ?_ _ | refine blk_drew ?_ | refine blk_alloc ?_ _)); exact BK570001.out⟩, ⟨by repeat (first | (with_reducible first | exact HB.out | apply below_alloc | apply pw_below_drewN | apply below_drew1 | refine below_set ?_ GE570001.out) | exact HB.out)⟩⟩
     ·rw [if_neg c9] at H; exact absurd H (by simp)
    ·rw [if_neg c6] at H; exact absurd H (by simp)
   ·rw [if_neg c5] at H; have c5b0 : decide (x4_1 < (l0_1.length : Int)) = false := decide_eq_false c5; clear c5; obtain rfl := Option.some.inj H; have hcz14_0 : wr.cell? ⟨gb570001, 0, none⟩ = some (.int .i64 a0_0) := (blk_cell BK570001.out 0).trans rfl; have hcz14_1 : wr.cell? ⟨gb570001, 1, none⟩ = some (.slice A0_1 l0_1.length c0_1) := (blk_cell BK570001.out 1).trans rfl; have hfz14_0 := blk_frozen BK570001.out 0; have hfz14_1 := blk_frozen BK570001.out 1
    go_wp2
    go_ret
    exact ⟨_, by first | rfl | (simp [errW_none, errW_some] <;> rfl) | (simp [*, errW_none, errW_some] <;> rfl), by (with_reducible repeat (first | apply Kd.R_alloc | apply Kd.R_drewN | apply Kd.R_drew)); exact HO_3.out, by repeat (first | (with_reducible first | exact HB.out | apply below_alloc | apply pw_below_drewN | apply below_drew1 | refine below_set ?_ GE570001.out) | exact HB.out)⟩
end Go.Proofs.YthnnphinfiobmaaDoor.Z
end
section
namespace Go.Proofs.YthnnphinfiobmaaDoor.Z
open Go.RowKit Go.Proofs.YthnnphinfiobmaaDoorW.PrintWords Go.Proofs.YthnnphinfiobmaaDoorW.PrintLast Go.Proofs.YthnnphinfiobmaaDoorW.PrintMore
attribute [local go_sem] max2_int min2_int max_two min_two max_three min_three max_four min_four
set_option linter.unusedVariables false
set_option linter.unusedSimpArgs false
def spec_l3Find.l0 : Nat → List ByteArray → ByteArray → Int → Int → List ByteArray → Option (ByteArray × ByteArray × ByteArray × ByteArray × Int)
 | 0, _, _, _, _, _ => none
 | k + 1, x1, x2, x8, x920002000, x920002001 => if x8 < (x1.length : Int) then (if 0 ≤ x8 then (if (rdOf ByteArray.empty x1 x8).toList = x2.toList then (if x8 < (x920002001.length : Int) then ((spec_DecodeNode.f (rdOf ByteArray.empty x920002001 x8) x920002000).bind fun bt920005 => (if bt920005.2.2.2.2 = true then (some (bt920005.1, bt920005.2.1, bt920005.2.2.1, bt920005.2.2.2.1, 0)) else (some ((⟨#[]⟩ : ByteArray), (⟨#[]⟩ : ByteArray), (⟨#[]⟩ : ByteArray), (⟨#[]⟩ : ByteArray), 3)))) else (none)) else (spec_l3Find.l0 k x1 x2 (wrap64 (x8 + 1)) x920002000 x920002001)) else (none)) else (some ((⟨#[]⟩ : ByteArray), (⟨#[]⟩ : ByteArray), (⟨#[]⟩ : ByteArray), (⟨#[]⟩ : ByteArray), 2))
def spec_l3Find.f (k : Nat) (a0_0 : Int) (l0_1 : List ByteArray) (l1 : List ByteArray) (a2 : ByteArray) : Option (ByteArray × ByteArray × ByteArray × ByteArray × Int) := spec_l3Find.l0 k l1 a2 0 a0_0 l0_1
def spec_l3Find.T5 : Bool × List (List Nat × List Nat) := (true, [([], []), ([0], [0]), ([], []), ([1, 2], [1, 2]), ([3], [3]), ([], []), ([5], [5]), ([4, 6], [4, 6]), ([7], [7]), ([8], [8]), ([8], [8]), ([], []), ([11, 9, 7, 0, 1, 2, 3, 4, 5, 6, 7, 8, 9, 11], [9, 11]), ([10, 12, 0, 1, 2, 3, 4, 5, 6, 7, 8, 9, 10, 11, 12], [10])])
def spec_l3Find.B5 : List Nat := [0, 1, 0, 7, 15, 0, 32, 127, 255, 511, 511, 0, 3071, 8191]
theorem spec_l3Find.tab5 : rtab .any (opsOf Tryd.f92 5) = spec_l3Find.T5 := by kernel_rfl
theorem spec_l3Find.bits5 : waitsOk spec_l3Find.T5.2 spec_l3Find.B5 = true := by kernel_rfl
set_option maxHeartbeats 8000000 in
set_option maxRecDepth 100000 in
theorem spec_l3Find.calls (k : Nat) (a0_0 : Int) (A0_1 : Option Addr) (c0_1 : Nat) (l0_1 : List ByteArray) (A1 : Option Addr) (c1 : Nat) (l1 : List ByteArray) (a2 : ByteArray) (r1 : ByteArray) (r2 : ByteArray) (r3 : ByteArray) (r4 : ByteArray) (r5 : Int) (w : World) (hr0_1 : Kd.C Kd.string w A0_1 l0_1.length l0_1) (hc0_1 : l0_1.length ≤ c0_1) (hr1 : Kd.C Kd.string w A1 l1.length l1) (hc1 : l1.length ≤ c1) (h : spec_l3Find.f k a0_0 l0_1 l1 a2 = some (r1, r2, r3, r4, r5)) :
  Calls Tryd.prog 92 #[.agg #[.int .i64 a0_0, .slice A0_1 l0_1.length c0_1], .slice A1 l1.length c1, .string a2] w fun e w' => e = .returned (.tuple #[.agg #[.string r1, .string r2, .string r3, .string r4], .int .i64 r5]) ∧ Below w.heap.size w w' := by
 have hu38 := Tryd.underlying38; have hu99 := Tryd.underlying99; have HR0_1 := Aside0.mk hr0_1; have HC0_1 := Aside0.mk hc0_1; clear hr0_1 hc0_1; have HR1 := Aside0.mk hr1; have HC1 := Aside0.mk hc1; clear hr1 hc1; have HB := Aside0.mk (Below.refl w.heap.size w); have H : (spec_l3Find.l0 k l1 a2 0 a0_0 l0_1) = some (r1, r2, r3, r4, r5) := h; clear h; have H' := Aside0.mk H; clear H
 go_enter Tryd.func92, Tryd.ntmps92
 go_wp2_with (first | ((with_reducible refine gate_dst (N := 3) rfl ?_); refine box_event ?hg (N := 3) ?hd (cs := #[.int .i64 a0_0, .slice A0_1 l0_1.length c0_1]) (t := 38) ?hr ?_; (case hd => rfl); (case hg => rfl); (case hr => first | (go_simp; done) | (go_simp; rfl)); intro gb920001 hg w4 hbox hb; have n0_ := Aside0.mk (below_step zq_0 hb); have n1_ := Aside0.mk (hbox); have n2_ := Aside0.mk ((by rw [hg]; exact (below_size zq_0) : w.heap.size ≤ gb920001)); have n3_ := Aside0.mk ((by rw [hg]; exact (below_size zq_0) : w.heap.size ≤ gb920001)); clear HB; have HB := n0_; have BK920001 := n1_; have GW920001 := n2_; have GE920001 := n3_; clear n0_ n1_ n2_ n3_; clear hb hbox hg) | ((with_reducible refine gate_dst (N := 6) rfl ?_); refine box_event ?hg (N := 6) ?hd (cs := #[.string (⟨#[]⟩ : ByteArray), .string (⟨#[]⟩ : ByteArray), .string (⟨#[]⟩ : ByteArray), .string (⟨#[]⟩ : ByteArray)]) (t := 99) ?hr ?_; (case hd => rfl); (case hg => rfl); (case hr => first | (go_simp; done) | (go_simp; rfl)); intro gb920002 hg w5 hbox hb; have n0_ := Aside0.mk (blk_below (g := gb920001) (o := .cells #[.int .i64 a0_0, .slice A0_1 l0_1.length c0_1] 38 (0, 0)) zq_12 hb); have n1_ := Aside0.mk (below_step (by repeat (first | (with_reducible first | exact HB.out | apply below_alloc | apply pw_below_drewN | apply below_drew1 | refine below_set ?_ GE920001.out) | exact HB.out)) hb); have n2_ := Aside0.mk (hbox); have n3_ := Aside0.mk ((by rw [hg]; exact (below_size (by repeat (first | (with_reducible first | exact HB.out | apply below_alloc | apply pw_below_drewN | apply below_drew1 | refine below_set ?_ GE920001.out) | exact HB.out))) : w.heap.size ≤ gb920002)); have n4_ := Aside0.mk ((by rw [hg]; exact (below_size (by repeat (first | (with_reducible first | exact HB.out | apply below_alloc | apply pw_below_drewN | apply below_drew1 | refine below_set ?_ GE920001.out) | exact HB.out))) : w.heap.size ≤ gb920002)); have n5_ := Aside0.mk ((by rw [hg]; exact Nat.ne_of_lt (blk_lt (g := gb920001) (o := .cells #[.int .i64 a0_0, .slice A0_1 l0_1.length c0_1] 38 (0, 0)) zq_12) : gb920001 ≠ gb920002)); have n6_ := Aside0.mk ((by rw [hg]; exact Nat.ne_of_gt (blk_lt (g := gb920001) (o := .cells #[.int .i64 a0_0, .slice A0_1 l0_1.length c0_1] 38 (0, 0)) zq_12) : gb920002 ≠ gb920001)); clear BK920001; clear HB; have BK920001 := n0_; have HB := n1_; have BK920002 := n2_; have GW920002 := n3_; have GE920002 := n4_; have NB920001_920002 := n5_; have NB920002_920001 := n6_; clear n0_ n1_ n2_ n3_ n4_ n5_ n6_; clear hb hbox hg))
 go_loopg [8] k (fun kq v8 w' => ∃ (x8_1 : Int) (x920003000_1 : ByteArray) (x920003001_1 : ByteArray) (x920003002_1 : ByteArray) (x920003003_1 : ByteArray), v8 = .int .i64 x8_1 ∧ Aside0 (spec_l3Find.l0 kq l1 a2 x8_1 a0_0 l0_1 = some (r1, r2, r3, r4, r5)) ∧ Aside0 (kq ≤ k) ∧ Aside0 (w'.heap[gb920001]? = some (.cells #[.int .i64 a0_0, (.slice A0_1 l0_1.length c0_1)] 38 (0, 0))) ∧ Aside0 (w'.heap[gb920002]? = some (.cells #[.string x920003000_1, .string x920003001_1, .string x920003002_1, .string x920003003_1] 99 (0, 0))) ∧ Aside0 (Below w.heap.size w w'))
 case atStart => exact ⟨(0), ((⟨#[]⟩ : ByteArray)), ((⟨#[]⟩ : ByteArray)), ((⟨#[]⟩ : ByteArray)), ((⟨#[]⟩ : ByteArray)), zq_11, H', ⟨Nat.le_refl _⟩, ⟨by (with_reducible repeat (first | refine blk_drewN ?_ _ | refine blk_drew ?_ | refine blk_alloc ?_ _)); exact BK920001.out⟩, ⟨by (with_reducible repeat (first | refine blk_drewN ?_ _ | refine blk_drew ?_ | refine blk_alloc ?_ _)); exact BK920002.out⟩, ⟨by repeat (first | (with_reducible first | exact HB.out | apply below_alloc | apply pw_below_drewN | apply below_drew1 | refine below_set ?_ GE920001.out | refine below_set ?_ GE920002.out) | exact HB.out)⟩⟩
 case round =>
  clear H'
  try clear c1
  try clear p2
  obtain ⟨x8_1, x920003000_1, x920003001_1, x920003002_1, x920003003_1, rfl, HA, HK1, BK920001, BK920002, HB⟩ := hrel
  cases gk with
  | zero => exact absurd HA.out (by simp [spec_l3Find.l0])
  | succ k1 =>
   have H := HA.out; clear HA; simp only [spec_l3Find.l0] at H
   by_cases c6 : x8_1 < (l1.length : Int)
   ·rw [if_pos c6] at H; have c6b0 : decide (x8_1 < (l1.length : Int)) = true := decide_eq_true c6; clear c6
    by_cases c7 : 0 ≤ x8_1
    ·rw [if_pos c7] at H; have c7b0 : decide (0 ≤ x8_1) = true := decide_eq_true c7; clear c7
     by_cases c8 : (rdOf ByteArray.empty l1 x8_1).toList = a2.toList
     ·rw [if_pos c8] at H; have c8b0 : ((rdOf ByteArray.empty l1 x8_1).toList == a2.toList) = true := beq_iff_eq.mpr c8; have c8b1 : ((rdOf ByteArray.empty l1 x8_1).toList != a2.toList) = false := bne_eq_false_iff_eq.mpr c8; clear c8
      by_cases c9 : x8_1 < (l0_1.length : Int)
      ·rw [if_pos c9] at H; have c9b0 : decide (x8_1 < (l0_1.length : Int)) = true := decide_eq_true c9; clear c9; replace H := Option.bind_eq_some_iff.mp H; obtain ⟨⟨t920005, t920006, t920007, t920008, t920009⟩, A100, H⟩ := H; replace H : (if t920009 = true then (some (t920005, t920006, t920007, t920008, 0)) else (some ((⟨#[]⟩ : ByteArray), (⟨#[]⟩ : ByteArray), (⟨#[]⟩ : ByteArray), (⟨#[]⟩ : ByteArray), 3))) = some (r1, r2, r3, r4, r5) := H; have A10 := Aside0.mk A100; clear A100
       by_cases c11 : t920009 = true
       ·subst c11; have H1 : (some (t920005, t920006, t920007, t920008, 0)) = some (r1, r2, r3, r4, r5) := by rw [if_pos rfl] at H; exact H
        clear H; have H := H1; clear H1; simp only [Option.some.injEq, Prod.mk.injEq] at H; obtain ⟨rfl, rfl, rfl, rfl, rfl⟩ := H; have p920003 : 0 ≤ (x8_1 : Int) := of_decide_eq_true zq_3; have q920003 : x8_1 < (l1.length : Int) := of_decide_eq_true zq_3; obtain ⟨ad920003, e920003, hx920003_0⟩ := Kd.at_string HR1.out x8_1 p920003 q920003
        cases e920003
        replace hx920003_0 := (HB.out.cell (World.block_lt_of_cell? w _ hx920003_0)).trans hx920003_0; replace p920003 := eq_true p920003; replace q920003 := eq_true q920003
        try go_wp2
        have n0_ := Aside0.mk (blk_drew BK920001.out); have n1_ := Aside0.mk (blk_drew BK920002.out); have n2_ := Aside0.mk (below_drew1 HB.out); clear BK920001; clear BK920002; clear HB; have BK920001 := n0_; have BK920002 := n1_; have HB := n2_; clear n0_ n1_ n2_; have p920004 : 0 ≤ (x8_1 : Int) := of_decide_eq_true zq_3; have q920004 : x8_1 < (l0_1.length : Int) := of_decide_eq_true zq_3; obtain ⟨ad920004, e920004, hx920004_0⟩ := Kd.at_string HR0_1.out x8_1 p920004 q920004; have hw920004_0 := hx920004_0
        cases e920004
        replace hx920004_0 := (HB.out.cell (World.block_lt_of_cell? w _ hx920004_0)).trans hx920004_0; replace p920004 := eq_true p920004; replace q920004 := eq_true q920004; refine start_ (n := 14) (S := fun w' => w'.cell? ⟨gb920001, 0, none⟩ = some (.int .i64 a0_0) ∧ w'.cell? ⟨gb920001, 1, none⟩ = some (.slice (some ad920004) l0_1.length c0_1) ∧ w'.cell? (ad920004.add (x8_1).toNat) = some (.string (rdOf ByteArray.empty l0_1 x8_1))) (ds := []) #[false, false, false, false, false, false, false, false, false, false, false, false, false, false] (by kernel_rfl) rfl rfl ⟨(blk_cell BK920001.out 0).trans rfl, (blk_cell BK920001.out 1).trans rfl, ((HB.out.cell (World.block_lt_of_cell? w _ hw920004_0)).trans hw920004_0)⟩ (fun hHeld => ?_); refine with_tabW spec_l3Find.tab5 spec_l3Find.bits5 (fun HT_ HW_ => ?_); generalize wr.drew = w12 at BK920001 BK920002 HB hx920004_0 hHeld ⊢; refine pure_ (i := 0) (N := some 24) (v := ?_) (a' := ?_) #[true, false, false, false, false, false, false, false, false, false, false, false, false, false] rfl rfl (any_of HT_.out (by kernel_rfl)) (fun _ _ _ h => h) (Or.inl ⟨by rfl, ?_⟩) ?_ ?_; rotate_left
        ·intro w'; go_simp
         with_reducible rfl
        rotate_left
        ·simp only [Act.put, List.setIfInBounds_toArray, List.set_cons_zero, List.set_cons_succ, i64_w, i32_w]; rfl
        refine pure_ (i := 2) (N := some 26) (v := ?_) (a' := ?_) #[true, false, true, false, false, false, false, false, false, false, false, false, false, false] rfl rfl (any_of HT_.out (by kernel_rfl)) (fun _ _ _ h => h) (Or.inl ⟨by rfl, ?_⟩) ?_ ?_; rotate_left
        ·intro w'; go_simp
         with_reducible rfl
        rotate_left
        ·simp only [Act.put, List.setIfInBounds_toArray, List.set_cons_zero, List.set_cons_succ, i64_w, i32_w]; rfl
        refine pure_ (i := 5) (N := some 29) (v := ?_) (a' := ?_) #[true, false, true, false, false, true, false, false, false, false, false, false, false, false] rfl rfl (any_of HT_.out (by kernel_rfl)) (fun _ _ _ h => h) (Or.inl ⟨by rfl, ?_⟩) ?_ ?_; rotate_left
        ·intro w'; go_simp
         with_reducible rfl
        rotate_left
        ·simp only [Act.put, List.setIfInBounds_toArray, List.set_cons_zero, List.set_cons_succ, i64_w, i32_w]; rfl
        refine take_ (i := 1) (N := some 25) (v := ?_) (a' := ?_) #[true, true, true, false, false, true, false, false, false, false, false, false, false, false] rfl rfl (take_ofW HT_.out HW_.out (by kernel_rfl)) (fun _ _ _ h => h) (Or.inl ⟨by rfl, ?_⟩) hHeld ?_ ?_; rotate_left
        ·rintro w' ⟨s0, s1, s2⟩; go_simp
         with_reducible rfl
        rotate_left
        ·simp only [Act.put, List.setIfInBounds_toArray, List.set_cons_zero, List.set_cons_succ, i64_w, i32_w]; rfl
        refine pure_ (i := 3) (N := some 27) (v := ?_) (a' := ?_) #[true, true, true, true, false, true, false, false, false, false, false, false, false, false] rfl rfl (any_of HT_.out (by kernel_rfl)) (fun _ _ _ h => h) (Or.inl ⟨by rfl, ?_⟩) ?_ ?_; rotate_left
        ·intro w'; go_simp
         with_reducible rfl
        rotate_left
        ·simp only [Act.put, List.setIfInBounds_toArray, List.set_cons_zero, List.set_cons_succ, i64_w, i32_w]; rfl
        refine take_ (i := 4) (N := some 28) (v := ?_) (a' := ?_) #[true, true, true, true, true, true, false, false, false, false, false, false, false, false] rfl rfl (take_ofW HT_.out HW_.out (by kernel_rfl)) (fun _ _ _ h => h) (Or.inl ⟨by rfl, ?_⟩) hHeld ?_ ?_; rotate_left
        ·rintro w' ⟨s0, s1, s2⟩; go_simp
         with_reducible rfl
        rotate_left
        ·simp only [Act.put, List.setIfInBounds_toArray, List.set_cons_zero, List.set_cons_succ, i64_w, i32_w]; rfl
        refine take_ (i := 6) (N := some 30) (v := ?_) (a' := ?_) #[true, true, true, true, true, true, true, false, false, false, false, false, false, false] rfl rfl (take_ofW HT_.out HW_.out (by kernel_rfl)) (fun _ _ _ h => h) (Or.inl ⟨by rfl, ?_⟩) hHeld ?_ ?_; rotate_left
        ·rintro w' ⟨s0, s1, s2⟩; go_simp
         with_reducible rfl
        rotate_left
        ·simp only [Act.put, List.setIfInBounds_toArray, List.set_cons_zero, List.set_cons_succ, i64_w, i32_w]; rfl
        refine join_ (σ := Nat) 2 #[true, true, true, true, true, true, true, true, true, true, true, true, false, false] (fun s_ => [(31, .tuple #[.agg #[.string t920005, .string t920006, .string t920007, .string t920008], .bool true]), (9, .pointer (some ⟨s_, 0, none⟩)), (23, .tuple #[.agg #[.string t920005, .string t920006, .string t920007, .string t920008], .bool true]), (32, .agg #[.string t920005, .string t920006, .string t920007, .string t920008]), (33, .bool true)]) (fun s_ w' => (w'.cell? ⟨gb920001, 0, none⟩ = some (.int .i64 a0_0) ∧ w'.cell? ⟨gb920001, 1, none⟩ = some (.slice (some ad920004) l0_1.length c0_1) ∧ w'.cell? (ad920004.add (x8_1).toNat) = some (.string (rdOf ByteArray.empty l0_1 x8_1))) ∧ (w'.heap[gb920001]? = some (.cells #[.int .i64 a0_0, .slice (some ad920004) l0_1.length c0_1] 38 (0, 0))) ∧ (w'.heap[gb920002]? = some (.cells #[.string x920003000_1, .string x920003001_1, .string x920003002_1, .string x920003003_1] 99 (0, 0))) ∧ (w'.heap[s_]? = some (.cells #[.string (⟨#[]⟩ : ByteArray), .string (⟨#[]⟩ : ByteArray), .string (⟨#[]⟩ : ByteArray), .string (⟨#[]⟩ : ByteArray)] 99 (0, 0))) ∧ (w.heap.size ≤ s_) ∧ (w.heap.size ≤ s_) ∧ (gb920001 ≠ s_) ∧ (s_ ≠ gb920001) ∧ (gb920002 ≠ s_) ∧ (s_ ≠ gb920002) ∧ (Below w.heap.size w w')) ?_ ?_; rotate_left
        ·intro hCont; refine two_ (i := 7) (j := 11) (Ni := some 31) (Nj := some 9) #[true, true, true, true, true, true, true, true, false, false, false, false, false, false] #[true, true, true, true, true, true, true, false, false, false, false, true, false, false] rfl rfl rfl rfl (two_of HT_.out (by kernel_rfl)) (by decide) (by decide) (fun K hK => ?_) (fun K hK => ?_)
         ·skip; refine goes_ Tryd.func112 (by kernel_rfl) rfl #[.string (rdOf ByteArray.empty l0_1 x8_1), .int .i64 a0_0] (by rfl) rfl rfl zq_1 ?_
          with_reducible refine (spec_DecodeNode.calls (rdOf ByteArray.empty l0_1 x8_1) a0_0 t920005 t920006 t920007 t920008 true _ A10.out).mono ?_
          rintro e w13 ⟨rfl, hb⟩; refine ⟨_, rfl, ?_⟩; have n0_ := Aside0.mk (blk_below (g := gb920001) (o := .cells #[.int .i64 a0_0, .slice (some ad920004) l0_1.length c0_1] 38 (0, 0)) zq_12 hb); have n1_ := Aside0.mk (blk_below (g := gb920002) (o := .cells #[.string x920003000_1, .string x920003001_1, .string x920003002_1, .string x920003003_1] 99 (0, 0)) zq_15 hb); have n2_ := Aside0.mk (below_step zq_13 hb); clear BK920001; clear BK920002; clear HB; have BK920001 := n0_; have BK920002 := n1_; have HB := n2_; clear n0_ n1_ n2_; (try clear hb); (try clear hb2); (try clear hk); (try clear hi); refine hK.out _ _ ⟨(blk_cell BK920001.out 0).trans rfl, (blk_cell BK920001.out 1).trans rfl, ((HB.out.cell (World.block_lt_of_cell? w _ hw920004_0)).trans hw920004_0)⟩ (fun hHeld => ?_); clear hK K; refine norm_ (a' := ?_) ?_ ?_; rotate_left
          ·show Act.put _ (some 31) _ = _; simp only [Act.put, List.setIfInBounds_toArray, List.set_cons_zero, List.set_cons_succ, i64_w, i32_w]; rfl
          refine pure_ (i := 8) (N := some 23) (v := ?_) (a' := ?_) #[true, true, true, true, true, true, true, true, true, false, false, false, false, false] rfl rfl (any_of HT_.out (by kernel_rfl)) (fun _ _ _ h => h) (Or.inl ⟨by rfl, ?_⟩) ?_ ?_; rotate_left
          ·intro w'; go_simp
           with_reducible rfl
          rotate_left
          ·simp only [Act.put, List.setIfInBounds_toArray, List.set_cons_zero, List.set_cons_succ, i64_w, i32_w]; rfl
          refine pure_ (i := 9) (N := some 32) (v := ?_) (a' := ?_) #[true, true, true, true, true, true, true, true, true, true, false, false, false, false] rfl rfl (any_of HT_.out (by kernel_rfl)) (fun _ _ _ h => h) (Or.inl ⟨by rfl, ?_⟩) ?_ ?_; rotate_left
          ·intro w'; go_simp
           with_reducible rfl
          rotate_left
          ·simp only [Act.put, List.setIfInBounds_toArray, List.set_cons_zero, List.set_cons_succ, i64_w, i32_w]; rfl
          refine pure_ (i := 10) (N := some 33) (v := ?_) (a' := ?_) #[true, true, true, true, true, true, true, true, true, true, true, false, false, false] rfl rfl (any_of HT_.out (by kernel_rfl)) (fun _ _ _ h => h) (Or.inl ⟨by rfl, ?_⟩) ?_ ?_; rotate_left
          ·intro w'; go_simp
           with_reducible rfl
          rotate_left
          ·simp only [Act.put, List.setIfInBounds_toArray, List.set_cons_zero, List.set_cons_succ, i64_w, i32_w]; rfl
          refine one_ (i := 11) (N := some 9) #[true, true, true, true, true, true, true, true, true, true, true, true, false, false] rfl rfl (one_of HT_.out (by kernel_rfl)) (by decide) (fun K hK => ?_); refine box_step ?hg (N := 9) ?hd (cs := #[.string (⟨#[]⟩ : ByteArray), .string (⟨#[]⟩ : ByteArray), .string (⟨#[]⟩ : ByteArray), .string (⟨#[]⟩ : ByteArray)]) (t := 99) ?hr ?_; (case hd => rfl); (case hg => rfl); (case hr => first | (go_simp; done) | (go_simp; rfl)); intro gb920010 hg w14 hbox hb; have n0_ := Aside0.mk (blk_below (g := gb920001) (o := .cells #[.int .i64 a0_0, .slice (some ad920004) l0_1.length c0_1] 38 (0, 0)) zq_12 hb); have n1_ := Aside0.mk (blk_below (g := gb920002) (o := .cells #[.string x920003000_1, .string x920003001_1, .string x920003002_1, .string x920003003_1] 99 (0, 0)) zq_15 hb); have n2_ := Aside0.mk (below_step zq_13 hb); have n3_ := Aside0.mk (hbox); have n4_ := Aside0.mk ((by rw [hg]; exact (below_size zq_13) : w.heap.size ≤ gb920010)); have n5_ := Aside0.mk ((by rw [hg]; exact (below_size zq_13) : w.heap.size ≤ gb920010)); have n6_ := Aside0.mk ((by rw [hg]; exact Nat.ne_of_lt (blk_lt (g := gb920001) (o := .cells #[.int .i64 a0_0, .slice (some ad920004) l0_1.length c0_1] 38 (0, 0)) zq_12) : gb920001 ≠ gb920010))
          have n7_ := Aside0.mk ((by rw [hg]; exact Nat.ne_of_gt (blk_lt (g := gb920001) (o := .cells #[.int .i64 a0_0, .slice (some ad920004) l0_1.length c0_1] 38 (0, 0)) zq_12) : gb920010 ≠ gb920001)); have n8_ := Aside0.mk ((by rw [hg]; exact Nat.ne_of_lt (blk_lt (g := gb920002) (o := .cells #[.string x920003000_1, .string x920003001_1, .string x920003002_1, .string x920003003_1] 99 (0, 0)) zq_15) : gb920002 ≠ gb920010)); have n9_ := Aside0.mk ((by rw [hg]; exact Nat.ne_of_gt (blk_lt (g := gb920002) (o := .cells #[.string x920003000_1, .string x920003001_1, .string x920003002_1, .string x920003003_1] 99 (0, 0)) zq_15) : gb920010 ≠ gb920002)); clear BK920001; clear BK920002; clear HB; have BK920001 := n0_; have BK920002 := n1_; have HB := n2_; have BK920010 := n3_; have GW920010 := n4_; have GE920010 := n5_; have NB920001_920010 := n6_; have NB920010_920001 := n7_; have NB920002_920010 := n8_; have NB920010_920002 := n9_; clear n0_ n1_ n2_ n3_ n4_ n5_ n6_ n7_ n8_ n9_; clear hb hbox hg; refine hK.out _ _ ⟨(blk_cell BK920001.out 0).trans rfl, (blk_cell BK920001.out 1).trans rfl, ((HB.out.cell (World.block_lt_of_cell? w _ hw920004_0)).trans hw920004_0)⟩ (fun hHeld => ?_); clear hK K; refine norm_ (a' := ?_) ?_ ?_; rotate_left
          ·show Act.put _ (some 9) _ = _; simp only [Act.put, List.setIfInBounds_toArray, List.set_cons_zero, List.set_cons_succ, i64_w, i32_w]; rfl
          exact norm_ zq_29 (hCont (gb920010) _ ⟨hHeld, zq_12, zq_15, (by (with_reducible repeat (first | refine blk_drewN ?_ _ | refine blk_drew ?_ | refine blk_alloc ?_ _)); exact BK920010.out), GW920010.out, GE920010.out, NB920001_920010.out, NB920010_920001.out, NB920002_920010.out, NB920010_920002.out, zq_25⟩)
         ·skip; refine box_step ?hg (N := 9) ?hd (cs := #[.string (⟨#[]⟩ : ByteArray), .string (⟨#[]⟩ : ByteArray), .string (⟨#[]⟩ : ByteArray), .string (⟨#[]⟩ : ByteArray)]) (t := 99) ?hr ?_; (case hd => rfl); (case hg => rfl); (case hr => first | (go_simp; done) | (go_simp; rfl)); intro gb920010 hg w13 hbox hb; have n0_ := Aside0.mk (blk_below (g := gb920001) (o := .cells #[.int .i64 a0_0, .slice (some ad920004) l0_1.length c0_1] 38 (0, 0)) zq_12 hb); have n1_ := Aside0.mk (blk_below (g := gb920002) (o := .cells #[.string x920003000_1, .string x920003001_1, .string x920003002_1, .string x920003003_1] 99 (0, 0)) zq_15 hb); have n2_ := Aside0.mk (below_step zq_13 hb); have n3_ := Aside0.mk (hbox); have n4_ := Aside0.mk ((by rw [hg]; exact (below_size zq_13) : w.heap.size ≤ gb920010)); have n5_ := Aside0.mk ((by rw [hg]; exact (below_size zq_13) : w.heap.size ≤ gb920010)); have n6_ := Aside0.mk ((by rw [hg]; exact Nat.ne_of_lt (blk_lt (g := gb920001) (o := .cells #[.int .i64 a0_0, .slice (some ad920004) l0_1.length c0_1] 38 (0, 0)) zq_12) : gb920001 ≠ gb920010)); have n7_ := Aside0.mk ((by rw [hg]; exact Nat.ne_of_gt (blk_lt (g := gb920001) (o := .cells #[.int .i64 a0_0, .slice (some ad920004) l0_1.length c0_1] 38 (0, 0)) zq_12) : gb920010 ≠ gb920001))
          have n8_ := Aside0.mk ((by rw [hg]; exact Nat.ne_of_lt (blk_lt (g := gb920002) (o := .cells #[.string x920003000_1, .string x920003001_1, .string x920003002_1, .string x920003003_1] 99 (0, 0)) zq_15) : gb920002 ≠ gb920010)); have n9_ := Aside0.mk ((by rw [hg]; exact Nat.ne_of_gt (blk_lt (g := gb920002) (o := .cells #[.string x920003000_1, .string x920003001_1, .string x920003002_1, .string x920003003_1] 99 (0, 0)) zq_15) : gb920010 ≠ gb920002)); clear BK920001; clear BK920002; clear HB; have BK920001 := n0_; have BK920002 := n1_; have HB := n2_; have BK920010 := n3_; have GW920010 := n4_; have GE920010 := n5_; have NB920001_920010 := n6_; have NB920010_920001 := n7_; have NB920002_920010 := n8_; have NB920010_920002 := n9_; clear n0_ n1_ n2_ n3_ n4_ n5_ n6_ n7_ n8_ n9_; clear hb hbox hg; refine hK.out _ _ ⟨(blk_cell BK920001.out 0).trans rfl, (blk_cell BK920001.out 1).trans rfl, ((HB.out.cell (World.block_lt_of_cell? w _ hw920004_0)).trans hw920004_0)⟩ (fun hHeld => ?_); clear hK K; refine norm_ (a' := ?_) ?_ ?_; rotate_left
          ·show Act.put _ (some 9) _ = _; simp only [Act.put, List.setIfInBounds_toArray, List.set_cons_zero, List.set_cons_succ, i64_w, i32_w]; rfl
          refine one_ (i := 7) (N := some 31) #[true, true, true, true, true, true, true, true, false, false, false, true, false, false] rfl rfl (one_of HT_.out (by kernel_rfl)) (by decide) (fun K hK => ?_); refine goes_ Tryd.func112 (by kernel_rfl) rfl #[.string (rdOf ByteArray.empty l0_1 x8_1), .int .i64 a0_0] (by rfl) rfl rfl zq_1 ?_
          with_reducible refine (spec_DecodeNode.calls (rdOf ByteArray.empty l0_1 x8_1) a0_0 t920005 t920006 t920007 t920008 true _ A10.out).mono ?_
          rintro e w14 ⟨rfl, hb⟩; refine ⟨_, rfl, ?_⟩; have n0_ := Aside0.mk (blk_below (g := gb920001) (o := .cells #[.int .i64 a0_0, .slice (some ad920004) l0_1.length c0_1] 38 (0, 0)) zq_12 hb); have n1_ := Aside0.mk (blk_below (g := gb920002) (o := .cells #[.string x920003000_1, .string x920003001_1, .string x920003002_1, .string x920003003_1] 99 (0, 0)) zq_15 hb); have n2_ := Aside0.mk (blk_below (g := gb920010) (o := .cells #[.string (⟨#[]⟩ : ByteArray), .string (⟨#[]⟩ : ByteArray), .string (⟨#[]⟩ : ByteArray), .string (⟨#[]⟩ : ByteArray)] 99 (0, 0)) (by (with_reducible repeat (first | refine blk_drewN ?_ _ | refine blk_drew ?_ | refine blk_alloc ?_ _)); exact BK920010.out) hb); have n3_ := Aside0.mk (below_step zq_25 hb); clear BK920001; clear BK920002; clear BK920010; clear HB; have BK920001 := n0_; have BK920002 := n1_; have BK920010 := n2_; have HB := n3_; clear n0_ n1_ n2_ n3_; (try clear hb); (try clear hb2); (try clear hk); (try clear hi); refine hK.out _ _ ⟨(blk_cell BK920001.out 0).trans rfl, (blk_cell BK920001.out 1).trans rfl, ((HB.out.cell (World.block_lt_of_cell? w _ hw920004_0)).trans hw920004_0)⟩ (fun hHeld => ?_); clear hK K; refine norm_ (a' := ?_) ?_ ?_; rotate_left
          ·show Act.put _ (some 31) _ = _; simp only [Act.put, List.setIfInBounds_toArray, List.set_cons_zero, List.set_cons_succ, i64_w, i32_w]; rfl
          refine pure_ (i := 8) (N := some 23) (v := ?_) (a' := ?_) #[true, true, true, true, true, true, true, true, true, false, false, true, false, false] rfl rfl (any_of HT_.out (by kernel_rfl)) (fun _ _ _ h => h) (Or.inl ⟨by rfl, ?_⟩) ?_ ?_; rotate_left
          ·intro w'; go_simp
           with_reducible rfl
          rotate_left
          ·simp only [Act.put, List.setIfInBounds_toArray, List.set_cons_zero, List.set_cons_succ, i64_w, i32_w]; rfl
          refine pure_ (i := 9) (N := some 32) (v := ?_) (a' := ?_) #[true, true, true, true, true, true, true, true, true, true, false, true, false, false] rfl rfl (any_of HT_.out (by kernel_rfl)) (fun _ _ _ h => h) (Or.inl ⟨by rfl, ?_⟩) ?_ ?_; rotate_left
          ·intro w'; go_simp
           with_reducible rfl
          rotate_left
          ·simp only [Act.put, List.setIfInBounds_toArray, List.set_cons_zero, List.set_cons_succ, i64_w, i32_w]; rfl
          refine pure_ (i := 10) (N := some 33) (v := ?_) (a' := ?_) #[true, true, true, true, true, true, true, true, true, true, true, true, false, false] rfl rfl (any_of HT_.out (by kernel_rfl)) (fun _ _ _ h => h) (Or.inl ⟨by rfl, ?_⟩) ?_ ?_; rotate_left
          ·intro w'; go_simp
           with_reducible rfl
          rotate_left
          ·simp only [Act.put, List.setIfInBounds_toArray, List.set_cons_zero, List.set_cons_succ, i64_w, i32_w]; rfl
          exact norm_ zq_29 (hCont (gb920010) _ ⟨hHeld, zq_12, zq_15, (by (with_reducible repeat (first | refine blk_drewN ?_ _ | refine blk_drew ?_ | refine blk_alloc ?_ _)); exact BK920010.out), GW920010.out, GE920010.out, NB920001_920010.out, NB920010_920001.out, NB920002_920010.out, NB920010_920002.out, zq_25⟩)
        rintro gb920010 w15 ⟨hS_, h0_, h1_, h2_, h3_, h4_, h5_, h6_, h7_, h8_, h9_⟩; have n0_ : Aside0 (w15.heap[gb920001]? = some (.cells #[.int .i64 a0_0, .slice (some ad920004) l0_1.length c0_1] 38 (0, 0))) := ⟨h0_⟩
        have n1_ : Aside0 (w15.heap[gb920002]? = some (.cells #[.string x920003000_1, .string x920003001_1, .string x920003002_1, .string x920003003_1] 99 (0, 0))) := ⟨h1_⟩
        have n2_ : Aside0 (w15.heap[gb920010]? = some (.cells #[.string (⟨#[]⟩ : ByteArray), .string (⟨#[]⟩ : ByteArray), .string (⟨#[]⟩ : ByteArray), .string (⟨#[]⟩ : ByteArray)] 99 (0, 0))) := ⟨h2_⟩
        have n3_ : Aside0 (w.heap.size ≤ gb920010) := ⟨h3_⟩
        have n4_ : Aside0 (w.heap.size ≤ gb920010) := ⟨h4_⟩
        have n5_ : Aside0 (gb920001 ≠ gb920010) := ⟨h5_⟩
        have n6_ : Aside0 (gb920010 ≠ gb920001) := ⟨h6_⟩
        have n7_ : Aside0 (gb920002 ≠ gb920010) := ⟨h7_⟩
        have n8_ : Aside0 (gb920010 ≠ gb920002) := ⟨h8_⟩
        have n9_ : Aside0 (Below w.heap.size w w15) := ⟨h9_⟩
        clear BK920001; clear BK920002; clear HB; clear h0_ h1_ h2_ h3_ h4_ h5_ h6_ h7_ h8_ h9_; have BK920001 := n0_; have BK920002 := n1_; have BK920010 := n2_; have GW920010 := n3_; have GE920010 := n4_; have NB920001_920010 := n5_; have NB920010_920001 := n6_; have NB920002_920010 := n7_; have NB920010_920002 := n8_; have HB := n9_; clear n0_ n1_ n2_ n3_ n4_ n5_ n6_ n7_ n8_ n9_; have hHeld : w15.cell? ⟨gb920001, 0, none⟩ = some (.int .i64 a0_0) ∧ w15.cell? ⟨gb920001, 1, none⟩ = some (.slice (some ad920004) l0_1.length c0_1) ∧ w15.cell? (ad920004.add (x8_1).toNat) = some (.string (rdOf ByteArray.empty l0_1 x8_1)) := hS_; refine norm_ (a' := ?_) ?_ ?_; rotate_left
        ·simp only [putAll, Act.put, List.setIfInBounds_toArray, List.set_cons_zero, List.set_cons_succ]; rfl
        refine one_ (i := 12) (N := none) #[true, true, true, true, true, true, true, true, true, true, true, true, true, false] rfl rfl (one_of HT_.out (by kernel_rfl)) (by decide) (fun K hK => ?_); have hs16 : w15.cell? ⟨gb920010, 0, none⟩ = some (.string (⟨#[]⟩ : ByteArray)) := (blk_cell BK920010.out 0).trans rfl; have hfs16 := blk_frozen BK920010.out 0; have hns16_0 := NB920001_920010.out; have hns16_1 := NB920002_920010.out; have hms16_0 := NB920010_920001.out; have hms16_1 := NB920010_920002.out; have hs17 : w15.cell? ⟨gb920010, 1, none⟩ = some (.string (⟨#[]⟩ : ByteArray)) := (blk_cell BK920010.out 1).trans rfl; have hfs17 := blk_frozen BK920010.out 1; have hns17_0 := NB920001_920010.out; have hns17_1 := NB920002_920010.out; have hms17_0 := NB920010_920001.out; have hms17_1 := NB920010_920002.out; have hs18 : w15.cell? ⟨gb920010, 2, none⟩ = some (.string (⟨#[]⟩ : ByteArray)) := (blk_cell BK920010.out 2).trans rfl; have hfs18 := blk_frozen BK920010.out 2; have hns18_0 := NB920001_920010.out; have hns18_1 := NB920002_920010.out; have hms18_0 := NB920010_920001.out; have hms18_1 := NB920010_920002.out; have hs19 : w15.cell? ⟨gb920010, 3, none⟩ = some (.string (⟨#[]⟩ : ByteArray)) := (blk_cell BK920010.out 3).trans rfl; have hfs19 := blk_frozen BK920010.out 3; have hns19_0 := NB920001_920010.out; have hns19_1 := NB920002_920010.out; have hms19_0 := NB920010_920001.out; have hms19_1 := NB920010_920002.out; refine skip_ (w1 := ?_) (by rfl) rfl ?_ ?_; rotate_left
        ·go_simp; rfl
        refine hK.out _ _ ⟨((cell_far (p := ⟨gb920010, _, none⟩) NB920001_920010.out _).trans (((cell_far (p := ⟨gb920010, _, none⟩) NB920001_920010.out _).trans (((cell_far (p := ⟨gb920010, _, none⟩) NB920001_920010.out _).trans (((cell_far (p := ⟨gb920010, _, none⟩) NB920001_920010.out _).trans (hHeld.1)))))))), ((cell_far (p := ⟨gb920010, _, none⟩) NB920001_920010.out _).trans (((cell_far (p := ⟨gb920010, _, none⟩) NB920001_920010.out _).trans (((cell_far (p := ⟨gb920010, _, none⟩) NB920001_920010.out _).trans (((cell_far (p := ⟨gb920010, _, none⟩) NB920001_920010.out _).trans (hHeld.2.1)))))))), ((cell_far (p := ⟨gb920010, _, none⟩) (by first | exact Nat.ne_of_lt (Nat.lt_of_lt_of_le (by have := World.block_lt_of_cell? _ _ hw920004_0; first | rwa [add_block] at this | exact this) GW920010.out) | (rw [add_block]; exact Nat.ne_of_lt (Nat.lt_of_lt_of_le (by have := World.block_lt_of_cell? _ _ hw920004_0; first | rwa [add_block] at this | exact this) GW920010.out)) | (show (Addr.add _ _).block ≠ _; rw [add_block]; exact Nat.ne_of_lt (Nat.lt_of_lt_of_le (by have := World.block_lt_of_cell? _ _ hw920004_0; first | rwa [add_block] at this | exact this) GW920010.out)) | (dsimp only; exact Nat.ne_of_lt (Nat.lt_of_lt_of_le (by have := World.block_lt_of_cell? _ _ hw920004_0; first | rwa [add_block] at this | exact this) GW920010.out))) _).trans (((cell_far (p := ⟨gb920010, _, none⟩) (by first | exact Nat.ne_of_lt (Nat.lt_of_lt_of_le (by have := World.block_lt_of_cell? _ _ hw920004_0; first | rwa [add_block] at this | exact this) GW920010.out) | (rw [add_block]; exact Nat.ne_of_lt (Nat.lt_of_lt_of_le (by have := World.block_lt_of_cell? _ _ hw920004_0; first | rwa [add_block] at this | exact this) GW920010.out)) | (show (Addr.add _ _).block ≠ _; rw [add_block]; exact Nat.ne_of_lt (Nat.lt_of_lt_of_le (by have := World.block_lt_of_cell? _ _ hw920004_0; first | rwa [add_block] at this | exact this) GW920010.out)) | (dsimp only; exact Nat.ne_of_lt (Nat.lt_of_lt_of_le (by have := World.block_lt_of_cell? _ _ hw920004_0; first | rwa [add_block] at this | exact this) GW920010.out))) _).trans (((cell_far (p := ⟨gb920010, _, none⟩) (by first | exact Nat.ne_of_lt (Nat.lt_of_lt_of_le (by have := World.block_lt_of_cell? _ _ hw920004_0; first | rwa [add_block] at this | exact this) GW920010.out) | (rw [add_block]; exact Nat.ne_of_lt (Nat.lt_of_lt_of_le (by have := World.block_lt_of_cell? _ _ hw920004_0; first | rwa [add_block] at this | exact this) GW920010.out)) | (show (Addr.add _ _).block ≠ _; rw [add_block]; exact Nat.ne_of_lt (Nat.lt_of_lt_of_le (by have := World.block_lt_of_cell? _ _ hw920004_0; first | rwa [add_block] at this | exact this) GW920010.out)) | (dsimp only; exact Nat.ne_of_lt (Nat.lt_of_lt_of_le (by have := World.block_lt_of_cell? _ _ hw920004_0; first | rwa [add_block] at this | exact this) GW920010.out))) _).trans (((cell_far (p := ⟨gb920010, _, none⟩) (by first | exact Nat.ne_of_lt (Nat.lt_of_lt_of_le (by have := World.block_lt_of_cell? _ _ hw920004_0; first | rwa [add_block] at this | exact this) GW920010.out) | (rw [add_block]; exact Nat.ne_of_lt (Nat.lt_of_lt_of_le (by have := World.block_lt_of_cell? _ _ hw920004_0; first | rwa [add_block] at this | exact this) GW920010.out)) | (show (Addr.add _ _).block ≠ _; rw [add_block]; exact Nat.ne_of_lt (Nat.lt_of_lt_of_le (by have := World.block_lt_of_cell? _ _ hw920004_0; first | rwa [add_block] at this | exact this) GW920010.out)) | (dsimp only; exact Nat.ne_of_lt (Nat.lt_of_lt_of_le (by have := World.block_lt_of_cell? _ _ hw920004_0; first | rwa [add_block] at this | exact this) GW920010.out))) _).trans (hHeld.2.2))))))))⟩ (fun hHeld => ?_)
        clear hK K; refine pure_ (i := 13) (N := some 10) (v := ?_) (a' := ?_) #[true, true, true, true, true, true, true, true, true, true, true, true, true, true] rfl rfl (any_of HT_.out (by kernel_rfl)) (fun _ _ _ h => h) (Or.inl ⟨by rfl, ?_⟩) ?_ ?_; rotate_left
        ·intro w'; go_simp
         with_reducible rfl
        rotate_left
        ·simp only [Act.put, List.setIfInBounds_toArray, List.set_cons_zero, List.set_cons_succ, i64_w, i32_w]; rfl
        refine done_ (done_of HT_.out (by kernel_rfl)) ?_; have hnb20 := NB920010_920001.out; have hnc20 := NB920001_920010.out; have hnb21 := NB920010_920002.out; have hnc21 := NB920002_920010.out; have hcz22_0 : w15.cell? ⟨gb920010, 0, none⟩ = some (.string (⟨#[]⟩ : ByteArray)) := (blk_cell BK920010.out 0).trans rfl; have hcz22_1 : w15.cell? ⟨gb920010, 1, none⟩ = some (.string (⟨#[]⟩ : ByteArray)) := (blk_cell BK920010.out 1).trans rfl; have hcz22_2 : w15.cell? ⟨gb920010, 2, none⟩ = some (.string (⟨#[]⟩ : ByteArray)) := (blk_cell BK920010.out 2).trans rfl; have hcz22_3 : w15.cell? ⟨gb920010, 3, none⟩ = some (.string (⟨#[]⟩ : ByteArray)) := (blk_cell BK920010.out 3).trans rfl; have hfz22_0 := blk_frozen BK920010.out 0; have hfz22_1 := blk_frozen BK920010.out 1; have hfz22_2 := blk_frozen BK920010.out 2; have hfz22_3 := blk_frozen BK920010.out 3; have hnb23 := NB920002_920001.out; have hnc23 := NB920001_920002.out; have hcz24_0 : w15.cell? ⟨gb920002, 0, none⟩ = some (.string x920003000_1) := (blk_cell BK920002.out 0).trans rfl; have hcz24_1 : w15.cell? ⟨gb920002, 1, none⟩ = some (.string x920003001_1) := (blk_cell BK920002.out 1).trans rfl; have hcz24_2 : w15.cell? ⟨gb920002, 2, none⟩ = some (.string x920003002_1) := (blk_cell BK920002.out 2).trans rfl; have hcz24_3 : w15.cell? ⟨gb920002, 3, none⟩ = some (.string x920003003_1) := (blk_cell BK920002.out 3).trans rfl; have hfz24_0 := blk_frozen BK920002.out 0; have hfz24_1 := blk_frozen BK920002.out 1; have hfz24_2 := blk_frozen BK920002.out 2; have hfz24_3 := blk_frozen BK920002.out 3
        try go_wp2
        refine bodyPost_ret (results_ct rfl _ _ gb920002 99 #[.string t920005, .string t920006, .string t920007, .string t920008] (0, 0) _ rfl (by (with_reducible repeat (first | refine blk_drewN ?_ _ | refine blk_drew ?_ | refine blk_alloc ?_ _)); refine blk_put (cs := #[.string t920005, .string t920006, .string t920007, .string x920003003_1]) ?_ 3 _ rfl; (with_reducible repeat (first | refine blk_drewN ?_ _ | refine blk_drew ?_ | refine blk_alloc ?_ _)); refine blk_put (cs := #[.string t920005, .string t920006, .string x920003002_1, .string x920003003_1]) ?_ 2 _ rfl; (with_reducible repeat (first | refine blk_drewN ?_ _ | refine blk_drew ?_ | refine blk_alloc ?_ _)); refine blk_put (cs := #[.string t920005, .string x920003001_1, .string x920003002_1, .string x920003003_1]) ?_ 1 _ rfl; (with_reducible repeat (first | refine blk_drewN ?_ _ | refine blk_drew ?_ | refine blk_alloc ?_ _)); refine blk_put (cs := #[.string x920003000_1, .string x920003001_1, .string x920003002_1, .string x920003003_1]) ?_ 0 _ rfl; (with_reducible repeat (first | refine blk_drewN ?_ _ | refine blk_drew ?_ | refine blk_alloc ?_ _)); refine blk_far ?_ NB920002_920010.out _; (with_reducible repeat (first | refine blk_drewN ?_ _ | refine blk_drew ?_ | refine blk_alloc ?_ _)); refine blk_far ?_ NB920002_920010.out _; (with_reducible repeat (first | refine blk_drewN ?_ _ | refine blk_drew ?_ | refine blk_alloc ?_ _)); refine blk_far ?_ NB920002_920010.out _; (with_reducible repeat (first | refine blk_drewN ?_ _ | refine blk_drew ?_ | refine blk_alloc ?_ _)); refine blk_far ?_ NB920002_920010.out _; (with_reducible repeat (first | refine blk_drewN ?_ _ | refine blk_drew ?_ | refine blk_alloc ?_ _)); exact BK920002.out) Tryd.underlying99 rfl (by kernel_rfl)) rfl ?_; exact ⟨by first | rfl | (simp [errW_none, errW_some] <;> rfl) | (simp [*, errW_none, errW_some] <;> rfl), by repeat (first | (with_reducible first | exact HB.out | apply below_alloc | apply pw_below_drewN | apply below_drew1 | refine below_set ?_ GE920001.out | refine below_set ?_ GE920002.out | refine below_set ?_ GE920010.out) | exact HB.out)⟩
       ·replace c11 := Bool.eq_false_iff.mpr c11; subst c11; have H1 : (some ((⟨#[]⟩ : ByteArray), (⟨#[]⟩ : ByteArray), (⟨#[]⟩ : ByteArray), (⟨#[]⟩ : ByteArray), 3)) = some (r1, r2, r3, r4, r5) := by rw [if_neg (show ¬ (false = true) by decide)] at H; exact H
        clear H; have H := H1; clear H1; simp only [Option.some.injEq, Prod.mk.injEq] at H; obtain ⟨rfl, rfl, rfl, rfl, rfl⟩ := H; have p920003 : 0 ≤ (x8_1 : Int) := of_decide_eq_true zq_3; have q920003 : x8_1 < (l1.length : Int) := of_decide_eq_true zq_3; obtain ⟨ad920003, e920003, hx920003_0⟩ := Kd.at_string HR1.out x8_1 p920003 q920003
        cases e920003
        replace hx920003_0 := (HB.out.cell (World.block_lt_of_cell? w _ hx920003_0)).trans hx920003_0; replace p920003 := eq_true p920003; replace q920003 := eq_true q920003
        try go_wp2
        have n0_ := Aside0.mk (blk_drew BK920001.out); have n1_ := Aside0.mk (blk_drew BK920002.out); have n2_ := Aside0.mk (below_drew1 HB.out); clear BK920001; clear BK920002; clear HB; have BK920001 := n0_; have BK920002 := n1_; have HB := n2_; clear n0_ n1_ n2_; have p920004 : 0 ≤ (x8_1 : Int) := of_decide_eq_true zq_3; have q920004 : x8_1 < (l0_1.length : Int) := of_decide_eq_true zq_3; obtain ⟨ad920004, e920004, hx920004_0⟩ := Kd.at_string HR0_1.out x8_1 p920004 q920004; have hw920004_0 := hx920004_0
        cases e920004
        replace hx920004_0 := (HB.out.cell (World.block_lt_of_cell? w _ hx920004_0)).trans hx920004_0; replace p920004 := eq_true p920004; replace q920004 := eq_true q920004; refine start_ (n := 14) (S := fun w' => w'.cell? ⟨gb920001, 0, none⟩ = some (.int .i64 a0_0) ∧ w'.cell? ⟨gb920001, 1, none⟩ = some (.slice (some ad920004) l0_1.length c0_1) ∧ w'.cell? (ad920004.add (x8_1).toNat) = some (.string (rdOf ByteArray.empty l0_1 x8_1))) (ds := []) #[false, false, false, false, false, false, false, false, false, false, false, false, false, false] (by kernel_rfl) rfl rfl ⟨(blk_cell BK920001.out 0).trans rfl, (blk_cell BK920001.out 1).trans rfl, ((HB.out.cell (World.block_lt_of_cell? w _ hw920004_0)).trans hw920004_0)⟩ (fun hHeld => ?_); refine with_tabW spec_l3Find.tab5 spec_l3Find.bits5 (fun HT_ HW_ => ?_); generalize wr.drew = w25 at BK920001 BK920002 HB hx920004_0 hHeld ⊢; refine pure_ (i := 0) (N := some 24) (v := ?_) (a' := ?_) #[true, false, false, false, false, false, false, false, false, false, false, false, false, false] rfl rfl (any_of HT_.out (by kernel_rfl)) (fun _ _ _ h => h) (Or.inl ⟨by rfl, ?_⟩) ?_ ?_; rotate_left
        ·intro w'; go_simp
         with_reducible rfl
        rotate_left
        ·simp only [Act.put, List.setIfInBounds_toArray, List.set_cons_zero, List.set_cons_succ, i64_w, i32_w]; rfl
        refine pure_ (i := 2) (N := some 26) (v := ?_) (a' := ?_) #[true, false, true, false, false, false, false, false, false, false, false, false, false, false] rfl rfl (any_of HT_.out (by kernel_rfl)) (fun _ _ _ h => h) (Or.inl ⟨by rfl, ?_⟩) ?_ ?_; rotate_left
        ·intro w'; go_simp
         with_reducible rfl
        rotate_left
        ·simp only [Act.put, List.setIfInBounds_toArray, List.set_cons_zero, List.set_cons_succ, i64_w, i32_w]; rfl
        refine pure_ (i := 5) (N := some 29) (v := ?_) (a' := ?_) #[true, false, true, false, false, true, false, false, false, false, false, false, false, false] rfl rfl (any_of HT_.out (by kernel_rfl)) (fun _ _ _ h => h) (Or.inl ⟨by rfl, ?_⟩) ?_ ?_; rotate_left
        ·intro w'; go_simp
         with_reducible rfl
        rotate_left
        ·simp only [Act.put, List.setIfInBounds_toArray, List.set_cons_zero, List.set_cons_succ, i64_w, i32_w]; rfl
        refine take_ (i := 1) (N := some 25) (v := ?_) (a' := ?_) #[true, true, true, false, false, true, false, false, false, false, false, false, false, false] rfl rfl (take_ofW HT_.out HW_.out (by kernel_rfl)) (fun _ _ _ h => h) (Or.inl ⟨by rfl, ?_⟩) hHeld ?_ ?_; rotate_left
        ·rintro w' ⟨s0, s1, s2⟩; go_simp
         with_reducible rfl
        rotate_left
        ·simp only [Act.put, List.setIfInBounds_toArray, List.set_cons_zero, List.set_cons_succ, i64_w, i32_w]; rfl
        refine pure_ (i := 3) (N := some 27) (v := ?_) (a' := ?_) #[true, true, true, true, false, true, false, false, false, false, false, false, false, false] rfl rfl (any_of HT_.out (by kernel_rfl)) (fun _ _ _ h => h) (Or.inl ⟨by rfl, ?_⟩) ?_ ?_; rotate_left
        ·intro w'; go_simp
         with_reducible rfl
        rotate_left
        ·simp only [Act.put, List.setIfInBounds_toArray, List.set_cons_zero, List.set_cons_succ, i64_w, i32_w]; rfl
        refine take_ (i := 4) (N := some 28) (v := ?_) (a' := ?_) #[true, true, true, true, true, true, false, false, false, false, false, false, false, false] rfl rfl (take_ofW HT_.out HW_.out (by kernel_rfl)) (fun _ _ _ h => h) (Or.inl ⟨by rfl, ?_⟩) hHeld ?_ ?_; rotate_left
        ·rintro w' ⟨s0, s1, s2⟩; go_simp
         with_reducible rfl
        rotate_left
        ·simp only [Act.put, List.setIfInBounds_toArray, List.set_cons_zero, List.set_cons_succ, i64_w, i32_w]; rfl
        refine take_ (i := 6) (N := some 30) (v := ?_) (a' := ?_) #[true, true, true, true, true, true, true, false, false, false, false, false, false, false] rfl rfl (take_ofW HT_.out HW_.out (by kernel_rfl)) (fun _ _ _ h => h) (Or.inl ⟨by rfl, ?_⟩) hHeld ?_ ?_; rotate_left
        ·rintro w' ⟨s0, s1, s2⟩; go_simp
         with_reducible rfl
        rotate_left
        ·simp only [Act.put, List.setIfInBounds_toArray, List.set_cons_zero, List.set_cons_succ, i64_w, i32_w]; rfl
        refine join_ (σ := Nat) 2 #[true, true, true, true, true, true, true, true, true, true, true, true, false, false] (fun s_ => [(31, .tuple #[.agg #[.string t920005, .string t920006, .string t920007, .string t920008], .bool false]), (9, .pointer (some ⟨s_, 0, none⟩)), (23, .tuple #[.agg #[.string t920005, .string t920006, .string t920007, .string t920008], .bool false]), (32, .agg #[.string t920005, .string t920006, .string t920007, .string t920008]), (33, .bool false)]) (fun s_ w' => (w'.cell? ⟨gb920001, 0, none⟩ = some (.int .i64 a0_0) ∧ w'.cell? ⟨gb920001, 1, none⟩ = some (.slice (some ad920004) l0_1.length c0_1) ∧ w'.cell? (ad920004.add (x8_1).toNat) = some (.string (rdOf ByteArray.empty l0_1 x8_1))) ∧ (w'.heap[gb920001]? = some (.cells #[.int .i64 a0_0, .slice (some ad920004) l0_1.length c0_1] 38 (0, 0))) ∧ (w'.heap[gb920002]? = some (.cells #[.string x920003000_1, .string x920003001_1, .string x920003002_1, .string x920003003_1] 99 (0, 0))) ∧ (w'.heap[s_]? = some (.cells #[.string (⟨#[]⟩ : ByteArray), .string (⟨#[]⟩ : ByteArray), .string (⟨#[]⟩ : ByteArray), .string (⟨#[]⟩ : ByteArray)] 99 (0, 0))) ∧ (w.heap.size ≤ s_) ∧ (w.heap.size ≤ s_) ∧ (gb920001 ≠ s_) ∧ (s_ ≠ gb920001) ∧ (gb920002 ≠ s_) ∧ (s_ ≠ gb920002) ∧ (Below w.heap.size w w')) ?_ ?_; rotate_left
        ·intro hCont; refine two_ (i := 7) (j := 11) (Ni := some 31) (Nj := some 9) #[true, true, true, true, true, true, true, true, false, false, false, false, false, false] #[true, true, true, true, true, true, true, false, false, false, false, true, false, false] rfl rfl rfl rfl (two_of HT_.out (by kernel_rfl)) (by decide) (by decide) (fun K hK => ?_) (fun K hK => ?_)
         ·skip; refine goes_ Tryd.func112 (by kernel_rfl) rfl #[.string (rdOf ByteArray.empty l0_1 x8_1), .int .i64 a0_0] (by rfl) rfl rfl zq_1 ?_
          with_reducible refine (spec_DecodeNode.calls (rdOf ByteArray.empty l0_1 x8_1) a0_0 t920005 t920006 t920007 t920008 false _ A10.out).mono ?_
          rintro e w26 ⟨rfl, hb⟩; refine ⟨_, rfl, ?_⟩; have n0_ := Aside0.mk (blk_below (g := gb920001) (o := .cells #[.int .i64 a0_0, .slice (some ad920004) l0_1.length c0_1] 38 (0, 0)) zq_12 hb); have n1_ := Aside0.mk (blk_below (g := gb920002) (o := .cells #[.string x920003000_1, .string x920003001_1, .string x920003002_1, .string x920003003_1] 99 (0, 0)) zq_15 hb); have n2_ := Aside0.mk (below_step zq_13 hb); clear BK920001; clear BK920002; clear HB; have BK920001 := n0_; have BK920002 := n1_; have HB := n2_; clear n0_ n1_ n2_; (try clear hb); (try clear hb2); (try clear hk); (try clear hi); refine hK.out _ _ ⟨(blk_cell BK920001.out 0).trans rfl, (blk_cell BK920001.out 1).trans rfl, ((HB.out.cell (World.block_lt_of_cell? w _ hw920004_0)).trans hw920004_0)⟩ (fun hHeld => ?_); clear hK K; refine norm_ (a' := ?_) ?_ ?_; rotate_left
          ·show Act.put _ (some 31) _ = _; simp only [Act.put, List.setIfInBounds_toArray, List.set_cons_zero, List.set_cons_succ, i64_w, i32_w]; rfl
          refine pure_ (i := 8) (N := some 23) (v := ?_) (a' := ?_) #[true, true, true, true, true, true, true, true, true, false, false, false, false, false] rfl rfl (any_of HT_.out (by kernel_rfl)) (fun _ _ _ h => h) (Or.inl ⟨by rfl, ?_⟩) ?_ ?_; rotate_left
          ·intro w'; go_simp
           with_reducible rfl
          rotate_left
          ·simp only [Act.put, List.setIfInBounds_toArray, List.set_cons_zero, List.set_cons_succ, i64_w, i32_w]; rfl
          refine pure_ (i := 9) (N := some 32) (v := ?_) (a' := ?_) #[true, true, true, true, true, true, true, true, true, true, false, false, false, false] rfl rfl (any_of HT_.out (by kernel_rfl)) (fun _ _ _ h => h) (Or.inl ⟨by rfl, ?_⟩) ?_ ?_; rotate_left
          ·intro w'; go_simp
           with_reducible rfl
          rotate_left
          ·simp only [Act.put, List.setIfInBounds_toArray, List.set_cons_zero, List.set_cons_succ, i64_w, i32_w]; rfl
          refine pure_ (i := 10) (N := some 33) (v := ?_) (a' := ?_) #[true, true, true, true, true, true, true, true, true, true, true, false, false, false] rfl rfl (any_of HT_.out (by kernel_rfl)) (fun _ _ _ h => h) (Or.inl ⟨by rfl, ?_⟩) ?_ ?_; rotate_left
          ·intro w'; go_simp
           with_reducible rfl
          rotate_left
          ·simp only [Act.put, List.setIfInBounds_toArray, List.set_cons_zero, List.set_cons_succ, i64_w, i32_w]; rfl
          refine one_ (i := 11) (N := some 9) #[true, true, true, true, true, true, true, true, true, true, true, true, false, false] rfl rfl (one_of HT_.out (by kernel_rfl)) (by decide) (fun K hK => ?_); refine box_step ?hg (N := 9) ?hd (cs := #[.string (⟨#[]⟩ : ByteArray), .string (⟨#[]⟩ : ByteArray), .string (⟨#[]⟩ : ByteArray), .string (⟨#[]⟩ : ByteArray)]) (t := 99) ?hr ?_; (case hd => rfl); (case hg => rfl); (case hr => first | (go_simp; done) | (go_simp; rfl)); intro gb920010 hg w27 hbox hb; have n0_ := Aside0.mk (blk_below (g := gb920001) (o := .cells #[.int .i64 a0_0, .slice (some ad920004) l0_1.length c0_1] 38 (0, 0)) zq_12 hb); have n1_ := Aside0.mk (blk_below (g := gb920002) (o := .cells #[.string x920003000_1, .string x920003001_1, .string x920003002_1, .string x920003003_1] 99 (0, 0)) zq_15 hb); have n2_ := Aside0.mk (below_step zq_13 hb); have n3_ := Aside0.mk (hbox); have n4_ := Aside0.mk ((by rw [hg]; exact (below_size zq_13) : w.heap.size ≤ gb920010)); have n5_ := Aside0.mk ((by rw [hg]; exact (below_size zq_13) : w.heap.size ≤ gb920010)); have n6_ := Aside0.mk ((by rw [hg]; exact Nat.ne_of_lt (blk_lt (g := gb920001) (o := .cells #[.int .i64 a0_0, .slice (some ad920004) l0_1.length c0_1] 38 (0, 0)) zq_12) : gb920001 ≠ gb920010))
          have n7_ := Aside0.mk ((by rw [hg]; exact Nat.ne_of_gt (blk_lt (g := gb920001) (o := .cells #[.int .i64 a0_0, .slice (some ad920004) l0_1.length c0_1] 38 (0, 0)) zq_12) : gb920010 ≠ gb920001)); have n8_ := Aside0.mk ((by rw [hg]; exact Nat.ne_of_lt (blk_lt (g := gb920002) (o := .cells #[.string x920003000_1, .string x920003001_1, .string x920003002_1, .string x920003003_1] 99 (0, 0)) zq_15) : gb920002 ≠ gb920010)); have n9_ := Aside0.mk ((by rw [hg]; exact Nat.ne_of_gt (blk_lt (g := gb920002) (o := .cells #[.string x920003000_1, .string x920003001_1, .string x920003002_1, .string x920003003_1] 99 (0, 0)) zq_15) : gb920010 ≠ gb920002)); clear BK920001; clear BK920002; clear HB; have BK920001 := n0_; have BK920002 := n1_; have HB := n2_; have BK920010 := n3_; have GW920010 := n4_; have GE920010 := n5_; have NB920001_920010 := n6_; have NB920010_920001 := n7_; have NB920002_920010 := n8_; have NB920010_920002 := n9_; clear n0_ n1_ n2_ n3_ n4_ n5_ n6_ n7_ n8_ n9_; clear hb hbox hg; refine hK.out _ _ ⟨(blk_cell BK920001.out 0).trans rfl, (blk_cell BK920001.out 1).trans rfl, ((HB.out.cell (World.block_lt_of_cell? w _ hw920004_0)).trans hw920004_0)⟩ (fun hHeld => ?_); clear hK K; refine norm_ (a' := ?_) ?_ ?_; rotate_left
          ·show Act.put _ (some 9) _ = _; simp only [Act.put, List.setIfInBounds_toArray, List.set_cons_zero, List.set_cons_succ, i64_w, i32_w]; rfl
          exact norm_ zq_29 (hCont (gb920010) _ ⟨hHeld, zq_12, zq_15, (by (with_reducible repeat (first | refine blk_drewN ?_ _ | refine blk_drew ?_ | refine blk_alloc ?_ _)); exact BK920010.out), GW920010.out, GE920010.out, NB920001_920010.out, NB920010_920001.out, NB920002_920010.out, NB920010_920002.out, zq_25⟩)
         ·skip; refine box_step ?hg (N := 9) ?hd (cs := #[.string (⟨#[]⟩ : ByteArray), .string (⟨#[]⟩ : ByteArray), .string (⟨#[]⟩ : ByteArray), .string (⟨#[]⟩ : ByteArray)]) (t := 99) ?hr ?_; (case hd => rfl); (case hg => rfl); (case hr => first | (go_simp; done) | (go_simp; rfl)); intro gb920010 hg w26 hbox hb; have n0_ := Aside0.mk (blk_below (g := gb920001) (o := .cells #[.int .i64 a0_0, .slice (some ad920004) l0_1.length c0_1] 38 (0, 0)) zq_12 hb); have n1_ := Aside0.mk (blk_below (g := gb920002) (o := .cells #[.string x920003000_1, .string x920003001_1, .string x920003002_1, .string x920003003_1] 99 (0, 0)) zq_15 hb); have n2_ := Aside0.mk (below_step zq_13 hb); have n3_ := Aside0.mk (hbox); have n4_ := Aside0.mk ((by rw [hg]; exact (below_size zq_13) : w.heap.size ≤ gb920010)); have n5_ := Aside0.mk ((by rw [hg]; exact (below_size zq_13) : w.heap.size ≤ gb920010)); have n6_ := Aside0.mk ((by rw [hg]; exact Nat.ne_of_lt (blk_lt (g := gb920001) (o := .cells #[.int .i64 a0_0, .slice (some ad920004) l0_1.length c0_1] 38 (0, 0)) zq_12) : gb920001 ≠ gb920010)); have n7_ := Aside0.mk ((by rw [hg]; exact Nat.ne_of_gt (blk_lt (g := gb920001) (o := .cells #[.int .i64 a0_0, .slice (some ad920004) l0_1.length c0_1] 38 (0, 0)) zq_12) : gb920010 ≠ gb920001))
          have n8_ := Aside0.mk ((by rw [hg]; exact Nat.ne_of_lt (blk_lt (g := gb920002) (o := .cells #[.string x920003000_1, .string x920003001_1, .string x920003002_1, .string x920003003_1] 99 (0, 0)) zq_15) : gb920002 ≠ gb920010)); have n9_ := Aside0.mk ((by rw [hg]; exact Nat.ne_of_gt (blk_lt (g := gb920002) (o := .cells #[.string x920003000_1, .string x920003001_1, .string x920003002_1, .string x920003003_1] 99 (0, 0)) zq_15) : gb920010 ≠ gb920002)); clear BK920001; clear BK920002; clear HB; have BK920001 := n0_; have BK920002 := n1_; have HB := n2_; have BK920010 := n3_; have GW920010 := n4_; have GE920010 := n5_; have NB920001_920010 := n6_; have NB920010_920001 := n7_; have NB920002_920010 := n8_; have NB920010_920002 := n9_; clear n0_ n1_ n2_ n3_ n4_ n5_ n6_ n7_ n8_ n9_; clear hb hbox hg; refine hK.out _ _ ⟨(blk_cell BK920001.out 0).trans rfl, (blk_cell BK920001.out 1).trans rfl, ((HB.out.cell (World.block_lt_of_cell? w _ hw920004_0)).trans hw920004_0)⟩ (fun hHeld => ?_); clear hK K; refine norm_ (a' := ?_) ?_ ?_; rotate_left
          ·show Act.put _ (some 9) _ = _; simp only [Act.put, List.setIfInBounds_toArray, List.set_cons_zero, List.set_cons_succ, i64_w, i32_w]; rfl
          refine one_ (i := 7) (N := some 31) #[true, true, true, true, true, true, true, true, false, false, false, true, false, false] rfl rfl (one_of HT_.out (by kernel_rfl)) (by decide) (fun K hK => ?_); refine goes_ Tryd.func112 (by kernel_rfl) rfl #[.string (rdOf ByteArray.empty l0_1 x8_1), .int .i64 a0_0] (by rfl) rfl rfl zq_1 ?_
          with_reducible refine (spec_DecodeNode.calls (rdOf ByteArray.empty l0_1 x8_1) a0_0 t920005 t920006 t920007 t920008 false _ A10.out).mono ?_
          rintro e w27 ⟨rfl, hb⟩; refine ⟨_, rfl, ?_⟩; have n0_ := Aside0.mk (blk_below (g := gb920001) (o := .cells #[.int .i64 a0_0, .slice (some ad920004) l0_1.length c0_1] 38 (0, 0)) zq_12 hb); have n1_ := Aside0.mk (blk_below (g := gb920002) (o := .cells #[.string x920003000_1, .string x920003001_1, .string x920003002_1, .string x920003003_1] 99 (0, 0)) zq_15 hb); have n2_ := Aside0.mk (blk_below (g := gb920010) (o := .cells #[.string (⟨#[]⟩ : ByteArray), .string (⟨#[]⟩ : ByteArray), .string (⟨#[]⟩ : ByteArray), .string (⟨#[]⟩ : ByteArray)] 99 (0, 0)) (by (with_reducible repeat (first | refine blk_drewN ?_ _ | refine blk_drew ?_ | refine blk_alloc ?_ _)); exact BK920010.out) hb); have n3_ := Aside0.mk (below_step zq_25 hb); clear BK920001; clear BK920002; clear BK920010; clear HB; have BK920001 := n0_; have BK920002 := n1_; have BK920010 := n2_; have HB := n3_; clear n0_ n1_ n2_ n3_; (try clear hb); (try clear hb2); (try clear hk); (try clear hi); refine hK.out _ _ ⟨(blk_cell BK920001.out 0).trans rfl, (blk_cell BK920001.out 1).trans rfl, ((HB.out.cell (World.block_lt_of_cell? w _ hw920004_0)).trans hw920004_0)⟩ (fun hHeld => ?_); clear hK K; refine norm_ (a' := ?_) ?_ ?_; rotate_left
          ·show Act.put _ (some 31) _ = _; simp only [Act.put, List.setIfInBounds_toArray, List.set_cons_zero, List.set_cons_succ, i64_w, i32_w]; rfl
          refine pure_ (i := 8) (N := some 23) (v := ?_) (a' := ?_) #[true, true, true, true, true, true, true, true, true, false, false, true, false, false] rfl rfl (any_of HT_.out (by kernel_rfl)) (fun _ _ _ h => h) (Or.inl ⟨by rfl, ?_⟩) ?_ ?_; rotate_left
          ·intro w'; go_simp
           with_reducible rfl
          rotate_left
          ·simp only [Act.put, List.setIfInBounds_toArray, List.set_cons_zero, List.set_cons_succ, i64_w, i32_w]; rfl
          refine pure_ (i := 9) (N := some 32) (v := ?_) (a' := ?_) #[true, true, true, true, true, true, true, true, true, true, false, true, false, false] rfl rfl (any_of HT_.out (by kernel_rfl)) (fun _ _ _ h => h) (Or.inl ⟨by rfl, ?_⟩) ?_ ?_; rotate_left
          ·intro w'; go_simp
           with_reducible rfl
          rotate_left
          ·simp only [Act.put, List.setIfInBounds_toArray, List.set_cons_zero, List.set_cons_succ, i64_w, i32_w]; rfl
          refine pure_ (i := 10) (N := some 33) (v := ?_) (a' := ?_) #[true, true, true, true, true, true, true, true, true, true, true, true, false, false] rfl rfl (any_of HT_.out (by kernel_rfl)) (fun _ _ _ h => h) (Or.inl ⟨by rfl, ?_⟩) ?_ ?_; rotate_left
          ·intro w'; go_simp
           with_reducible rfl
          rotate_left
          ·simp only [Act.put, List.setIfInBounds_toArray, List.set_cons_zero, List.set_cons_succ, i64_w, i32_w]; rfl
          exact norm_ zq_29 (hCont (gb920010) _ ⟨hHeld, zq_12, zq_15, (by (with_reducible repeat (first | refine blk_drewN ?_ _ | refine blk_drew ?_ | refine blk_alloc ?_ _)); exact BK920010.out), GW920010.out, GE920010.out, NB920001_920010.out, NB920010_920001.out, NB920002_920010.out, NB920010_920002.out, zq_25⟩)
        rintro gb920010 w28 ⟨hS_, h0_, h1_, h2_, h3_, h4_, h5_, h6_, h7_, h8_, h9_⟩; have n0_ : Aside0 (w28.heap[gb920001]? = some (.cells #[.int .i64 a0_0, .slice (some ad920004) l0_1.length c0_1] 38 (0, 0))) := ⟨h0_⟩
        have n1_ : Aside0 (w28.heap[gb920002]? = some (.cells #[.string x920003000_1, .string x920003001_1, .string x920003002_1, .string x920003003_1] 99 (0, 0))) := ⟨h1_⟩
        have n2_ : Aside0 (w28.heap[gb920010]? = some (.cells #[.string (⟨#[]⟩ : ByteArray), .string (⟨#[]⟩ : ByteArray), .string (⟨#[]⟩ : ByteArray), .string (⟨#[]⟩ : ByteArray)] 99 (0, 0))) := ⟨h2_⟩
        have n3_ : Aside0 (w.heap.size ≤ gb920010) := ⟨h3_⟩
        have n4_ : Aside0 (w.heap.size ≤ gb920010) := ⟨h4_⟩
        have n5_ : Aside0 (gb920001 ≠ gb920010) := ⟨h5_⟩
        have n6_ : Aside0 (gb920010 ≠ gb920001) := ⟨h6_⟩
        have n7_ : Aside0 (gb920002 ≠ gb920010) := ⟨h7_⟩
        have n8_ : Aside0 (gb920010 ≠ gb920002) := ⟨h8_⟩
        have n9_ : Aside0 (Below w.heap.size w w28) := ⟨h9_⟩
        clear BK920001; clear BK920002; clear HB; clear h0_ h1_ h2_ h3_ h4_ h5_ h6_ h7_ h8_ h9_; have BK920001 := n0_; have BK920002 := n1_; have BK920010 := n2_; have GW920010 := n3_; have GE920010 := n4_; have NB920001_920010 := n5_; have NB920010_920001 := n6_; have NB920002_920010 := n7_; have NB920010_920002 := n8_; have HB := n9_; clear n0_ n1_ n2_ n3_ n4_ n5_ n6_ n7_ n8_ n9_; have hHeld : w28.cell? ⟨gb920001, 0, none⟩ = some (.int .i64 a0_0) ∧ w28.cell? ⟨gb920001, 1, none⟩ = some (.slice (some ad920004) l0_1.length c0_1) ∧ w28.cell? (ad920004.add (x8_1).toNat) = some (.string (rdOf ByteArray.empty l0_1 x8_1)) := hS_; refine norm_ (a' := ?_) ?_ ?_; rotate_left
        ·simp only [putAll, Act.put, List.setIfInBounds_toArray, List.set_cons_zero, List.set_cons_succ]; rfl
        refine one_ (i := 12) (N := none) #[true, true, true, true, true, true, true, true, true, true, true, true, true, false] rfl rfl (one_of HT_.out (by kernel_rfl)) (by decide) (fun K hK => ?_); have hs29 : w28.cell? ⟨gb920010, 0, none⟩ = some (.string (⟨#[]⟩ : ByteArray)) := (blk_cell BK920010.out 0).trans rfl; have hfs29 := blk_frozen BK920010.out 0; have hns29_0 := NB920001_920010.out; have hns29_1 := NB920002_920010.out; have hms29_0 := NB920010_920001.out; have hms29_1 := NB920010_920002.out; have hs30 : w28.cell? ⟨gb920010, 1, none⟩ = some (.string (⟨#[]⟩ : ByteArray)) := (blk_cell BK920010.out 1).trans rfl; have hfs30 := blk_frozen BK920010.out 1; have hns30_0 := NB920001_920010.out; have hns30_1 := NB920002_920010.out; have hms30_0 := NB920010_920001.out; have hms30_1 := NB920010_920002.out; have hs31 : w28.cell? ⟨gb920010, 2, none⟩ = some (.string (⟨#[]⟩ : ByteArray)) := (blk_cell BK920010.out 2).trans rfl; have hfs31 := blk_frozen BK920010.out 2; have hns31_0 := NB920001_920010.out; have hns31_1 := NB920002_920010.out; have hms31_0 := NB920010_920001.out; have hms31_1 := NB920010_920002.out; have hs32 : w28.cell? ⟨gb920010, 3, none⟩ = some (.string (⟨#[]⟩ : ByteArray)) := (blk_cell BK920010.out 3).trans rfl; have hfs32 := blk_frozen BK920010.out 3; have hns32_0 := NB920001_920010.out; have hns32_1 := NB920002_920010.out; have hms32_0 := NB920010_920001.out; have hms32_1 := NB920010_920002.out; refine skip_ (w1 := ?_) (by rfl) rfl ?_ ?_; rotate_left
        ·go_simp; rfl
        refine hK.out _ _ ⟨((cell_far (p := ⟨gb920010, _, none⟩) NB920001_920010.out _).trans (((cell_far (p := ⟨gb920010, _, none⟩) NB920001_920010.out _).trans (((cell_far (p := ⟨gb920010, _, none⟩) NB920001_920010.out _).trans (((cell_far (p := ⟨gb920010, _, none⟩) NB920001_920010.out _).trans (hHeld.1)))))))), ((cell_far (p := ⟨gb920010, _, none⟩) NB920001_920010.out _).trans (((cell_far (p := ⟨gb920010, _, none⟩) NB920001_920010.out _).trans (((cell_far (p := ⟨gb920010, _, none⟩) NB920001_920010.out _).trans (((cell_far (p := ⟨gb920010, _, none⟩) NB920001_920010.out _).trans (hHeld.2.1)))))))), ((cell_far (p := ⟨gb920010, _, none⟩) (by first | exact Nat.ne_of_lt (Nat.lt_of_lt_of_le (by have := World.block_lt_of_cell? _ _ hw920004_0; first | rwa [add_block] at this | exact this) GW920010.out) | (rw [add_block]; exact Nat.ne_of_lt (Nat.lt_of_lt_of_le (by have := World.block_lt_of_cell? _ _ hw920004_0; first | rwa [add_block] at this | exact this) GW920010.out)) | (show (Addr.add _ _).block ≠ _; rw [add_block]; exact Nat.ne_of_lt (Nat.lt_of_lt_of_le (by have := World.block_lt_of_cell? _ _ hw920004_0; first | rwa [add_block] at this | exact this) GW920010.out)) | (dsimp only; exact Nat.ne_of_lt (Nat.lt_of_lt_of_le (by have := World.block_lt_of_cell? _ _ hw920004_0; first | rwa [add_block] at this | exact this) GW920010.out))) _).trans (((cell_far (p := ⟨gb920010, _, none⟩) (by first | exact Nat.ne_of_lt (Nat.lt_of_lt_of_le (by have := World.block_lt_of_cell? _ _ hw920004_0; first | rwa [add_block] at this | exact this) GW920010.out) | (rw [add_block]; exact Nat.ne_of_lt (Nat.lt_of_lt_of_le (by have := World.block_lt_of_cell? _ _ hw920004_0; first | rwa [add_block] at this | exact this) GW920010.out)) | (show (Addr.add _ _).block ≠ _; rw [add_block]; exact Nat.ne_of_lt (Nat.lt_of_lt_of_le (by have := World.block_lt_of_cell? _ _ hw920004_0; first | rwa [add_block] at this | exact this) GW920010.out)) | (dsimp only; exact Nat.ne_of_lt (Nat.lt_of_lt_of_le (by have := World.block_lt_of_cell? _ _ hw920004_0; first | rwa [add_block] at this | exact this) GW920010.out))) _).trans (((cell_far (p := ⟨gb920010, _, none⟩) (by first | exact Nat.ne_of_lt (Nat.lt_of_lt_of_le (by have := World.block_lt_of_cell? _ _ hw920004_0; first | rwa [add_block] at this | exact this) GW920010.out) | (rw [add_block]; exact Nat.ne_of_lt (Nat.lt_of_lt_of_le (by have := World.block_lt_of_cell? _ _ hw920004_0; first | rwa [add_block] at this | exact this) GW920010.out)) | (show (Addr.add _ _).block ≠ _; rw [add_block]; exact Nat.ne_of_lt (Nat.lt_of_lt_of_le (by have := World.block_lt_of_cell? _ _ hw920004_0; first | rwa [add_block] at this | exact this) GW920010.out)) | (dsimp only; exact Nat.ne_of_lt (Nat.lt_of_lt_of_le (by have := World.block_lt_of_cell? _ _ hw920004_0; first | rwa [add_block] at this | exact this) GW920010.out))) _).trans (((cell_far (p := ⟨gb920010, _, none⟩) (by first | exact Nat.ne_of_lt (Nat.lt_of_lt_of_le (by have := World.block_lt_of_cell? _ _ hw920004_0; first | rwa [add_block] at this | exact this) GW920010.out) | (rw [add_block]; exact Nat.ne_of_lt (Nat.lt_of_lt_of_le (by have := World.block_lt_of_cell? _ _ hw920004_0; first | rwa [add_block] at this | exact this) GW920010.out)) | (show (Addr.add _ _).block ≠ _; rw [add_block]; exact Nat.ne_of_lt (Nat.lt_of_lt_of_le (by have := World.block_lt_of_cell? _ _ hw920004_0; first | rwa [add_block] at this | exact this) GW920010.out)) | (dsimp only; exact Nat.ne_of_lt (Nat.lt_of_lt_of_le (by have := World.block_lt_of_cell? _ _ hw920004_0; first | rwa [add_block] at this | exact this) GW920010.out))) _).trans (hHeld.2.2))))))))⟩ (fun hHeld => ?_)
        clear hK K; refine pure_ (i := 13) (N := some 10) (v := ?_) (a' := ?_) #[true, true, true, true, true, true, true, true, true, true, true, true, true, true] rfl rfl (any_of HT_.out (by kernel_rfl)) (fun _ _ _ h => h) (Or.inl ⟨by rfl, ?_⟩) ?_ ?_; rotate_left
        ·intro w'; go_simp
         with_reducible rfl
        rotate_left
        ·simp only [Act.put, List.setIfInBounds_toArray, List.set_cons_zero, List.set_cons_succ, i64_w, i32_w]; rfl
        refine done_ (done_of HT_.out (by kernel_rfl)) ?_; have hnb33 := NB920002_920001.out; have hnc33 := NB920001_920002.out; have hnb34 := NB920002_920010.out; have hnc34 := NB920010_920002.out; have hcz35_0 : w28.cell? ⟨gb920002, 0, none⟩ = some (.string x920003000_1) := (blk_cell BK920002.out 0).trans rfl; have hcz35_1 : w28.cell? ⟨gb920002, 1, none⟩ = some (.string x920003001_1) := (blk_cell BK920002.out 1).trans rfl; have hcz35_2 : w28.cell? ⟨gb920002, 2, none⟩ = some (.string x920003002_1) := (blk_cell BK920002.out 2).trans rfl; have hcz35_3 : w28.cell? ⟨gb920002, 3, none⟩ = some (.string x920003003_1) := (blk_cell BK920002.out 3).trans rfl; have hfz35_0 := blk_frozen BK920002.out 0; have hfz35_1 := blk_frozen BK920002.out 1; have hfz35_2 := blk_frozen BK920002.out 2; have hfz35_3 := blk_frozen BK920002.out 3
        try go_wp2
        refine bodyPost_ret (results_ct rfl _ _ gb920002 99 #[.string (⟨#[]⟩ : ByteArray), .string (⟨#[]⟩ : ByteArray), .string (⟨#[]⟩ : ByteArray), .string (⟨#[]⟩ : ByteArray)] (0, 0) _ rfl (by (with_reducible repeat (first | refine blk_drewN ?_ _ | refine blk_drew ?_ | refine blk_alloc ?_ _)); refine blk_put (cs := #[.string (⟨#[]⟩ : ByteArray), .string (⟨#[]⟩ : ByteArray), .string (⟨#[]⟩ : ByteArray), .string x920003003_1]) ?_ 3 _ rfl; (with_reducible repeat (first | refine blk_drewN ?_ _ | refine blk_drew ?_ | refine blk_alloc ?_ _)); refine blk_put (cs := #[.string (⟨#[]⟩ : ByteArray), .string (⟨#[]⟩ : ByteArray), .string x920003002_1, .string x920003003_1]) ?_ 2 _ rfl; (with_reducible repeat (first | refine blk_drewN ?_ _ | refine blk_drew ?_ | refine blk_alloc ?_ _)); refine blk_put (cs := #[.string (⟨#[]⟩ : ByteArray), .string x920003001_1, .string x920003002_1, .string x920003003_1]) ?_ 1 _ rfl; (with_reducible repeat (first | refine blk_drewN ?_ _ | refine blk_drew ?_ | refine blk_alloc ?_ _)); refine blk_put (cs := #[.string x920003000_1, .string x920003001_1, .string x920003002_1, .string x920003003_1]) ?_ 0 _ rfl; (with_reducible repeat (first | refine blk_drewN ?_ _ | refine blk_drew ?_ | refine blk_alloc ?_ _)); refine blk_far ?_ NB920002_920010.out _; (with_reducible repeat (first | refine blk_drewN ?_ _ | refine blk_drew ?_ | refine blk_alloc ?_ _)); refine blk_far ?_ NB920002_920010.out _; (with_reducible repeat (first | refine blk_drewN ?_ _ | refine blk_drew ?_ | refine blk_alloc ?_ _)); refine blk_far ?_ NB920002_920010.out _; (with_reducible repeat (first | refine blk_drewN ?_ _ | refine blk_drew ?_ | refine blk_alloc ?_ _)); refine blk_far ?_ NB920002_920010.out _; (with_reducible repeat (first | refine blk_drewN ?_ _ | refine blk_drew ?_ | refine blk_alloc ?_ _)); exact BK920002.out) Tryd.underlying99 rfl (by kernel_rfl)) rfl ?_; exact ⟨by first | rfl | (simp [errW_none, errW_some] <;> rfl) | (simp [*, errW_none, errW_some] <;> rfl), by repeat (first | (with_reducible first | exact HB.out | apply below_alloc | apply pw_below_drewN | apply below_drew1 | refine below_set ?_ GE920001.out | refine below_set ?_ GE920002.out | refine below_set ?_ GE920010.out) | exact HB.out)⟩
      ·rw [if_neg c9] at H; exact absurd H (by simp)
     ·rw [if_neg c8] at H; have c8b0 : ((rdOf ByteArray.empty l1 x8_1).toList == a2.toList) = false := beq_eq_false_iff_ne.mpr c8; have c8b1 : ((rdOf ByteArray.empty l1 x8_1).toList != a2.toList) = true := bne_iff_ne.mpr c8; have H' := Aside0.mk H; clear H; have p920003 : 0 ≤ (x8_1 : Int) := of_decide_eq_true zq_3; have q920003 : x8_1 < (l1.length : Int) := of_decide_eq_true zq_3; obtain ⟨ad920003, e920003, hx920003_0⟩ := Kd.at_string HR1.out x8_1 p920003 q920003
      cases e920003
      replace hx920003_0 := (HB.out.cell (World.block_lt_of_cell? w _ hx920003_0)).trans hx920003_0; replace p920003 := eq_true p920003; replace q920003 := eq_true q920003
      go_wp2
      go_roundg k1
      case measure => have := HK1.out; omega
      case rel => exact ⟨(wrap64 (x8_1 + 1)), (x920003000_1), (x920003001_1), (x920003002_1), (x920003003_1), zq_11, H', ⟨by have := HK1.out; omega⟩, ⟨by (with_reducible repeat (first | refine blk_drewN ?_ _ | refine blk_drew ?_ | refine blk_alloc ?_ _)); exact BK920001.out⟩, ⟨by (with_reducible repeat (first | refine blk_drewN ?_ _ | refine blk_drew ?_ | refine blk_alloc ?_ _)); exact BK920002.out⟩, ⟨by repeat (first | (with_reducible first | exact HB.out | apply below_alloc | apply pw_below_drewN | apply below_drew1 | refine below_set ?_ GE920001.out | refine below_set ?_ GE920002.out) | exact HB.out)⟩⟩
    ·rw [if_neg c7] at H; exact absurd H (by simp)
   ·rw [if_neg c6] at H; have c6b0 : decide (x8_1 < (l1.length : Int)) = false := decide_eq_false c6; clear c6; simp only [Option.some.injEq, Prod.mk.injEq] at H; obtain ⟨rfl, rfl, rfl, rfl, rfl⟩ := H; have hnb36 := NB920002_920001.out; have hnc36 := NB920001_920002.out; have hcz37_0 : wr.cell? ⟨gb920002, 0, none⟩ = some (.string x920003000_1) := (blk_cell BK920002.out 0).trans rfl; have hcz37_1 : wr.cell? ⟨gb920002, 1, none⟩ = some (.string x920003001_1) := (blk_cell BK920002.out 1).trans rfl; have hcz37_2 : wr.cell? ⟨gb920002, 2, none⟩ = some (.string x920003002_1) := (blk_cell BK920002.out 2).trans rfl; have hcz37_3 : wr.cell? ⟨gb920002, 3, none⟩ = some (.string x920003003_1) := (blk_cell BK920002.out 3).trans rfl; have hfz37_0 := blk_frozen BK920002.out 0; have hfz37_1 := blk_frozen BK920002.out 1; have hfz37_2 := blk_frozen BK920002.out 2; have hfz37_3 := blk_frozen BK920002.out 3
    go_wp2
    refine bodyPost_ret (results_ct rfl _ _ gb920002 99 #[.string (⟨#[]⟩ : ByteArray), .string (⟨#[]⟩ : ByteArray), .string (⟨#[]⟩ : ByteArray), .string (⟨#[]⟩ : ByteArray)] (0, 0) _ rfl (by (with_reducible repeat (first | refine blk_drewN ?_ _ | refine blk_drew ?_ | refine blk_alloc ?_ _)); refine blk_put (cs := #[.string (⟨#[]⟩ : ByteArray), .string (⟨#[]⟩ : ByteArray), .string (⟨#[]⟩ : ByteArray), .string x920003003_1]) ?_ 3 _ rfl; (with_reducible repeat (first | refine blk_drewN ?_ _ | refine blk_drew ?_ | refine blk_alloc ?_ _)); refine blk_put (cs := #[.string (⟨#[]⟩ : ByteArray), .string (⟨#[]⟩ : ByteArray), .string x920003002_1, .string x920003003_1]) ?_ 2 _ rfl; (with_reducible repeat (first | refine blk_drewN ?_ _ | refine blk_drew ?_ | refine blk_alloc ?_ _)); refine blk_put (cs := #[.string (⟨#[]⟩ : ByteArray), .string x920003001_1, .string x920003002_1, .string x920003003_1]) ?_ 1 _ rfl; (with_reducible repeat (first | refine blk_drewN ?_ _ | refine blk_drew ?_ | refine blk_alloc ?_ _)); refine blk_put (cs := #[.string x920003000_1, .string x920003001_1, .string x920003002_1, .string x920003003_1]) ?_ 0 _ rfl; (with_reducible repeat (first | refine blk_drewN ?_ _ | refine blk_drew ?_ | refine blk_alloc ?_ _)); exact BK920002.out) Tryd.underlying99 rfl (by kernel_rfl)) rfl ?_; exact ⟨by first | rfl | (simp [errW_none, errW_some] <;> rfl) | (simp [*, errW_none, errW_some] <;> rfl), by repeat (first | (with_reducible first | exact HB.out | apply below_alloc | apply pw_below_drewN | apply below_drew1 | refine below_set ?_ GE920001.out | refine below_set ?_ GE920002.out) | exact HB.out)⟩
end Go.Proofs.YthnnphinfiobmaaDoor.Z
end
section
namespace Go.Proofs.YthnnphinfiobmaaDoor.Z
open Go.RowKit Go.Proofs.YthnnphinfiobmaaDoorW.PrintWords Go.Proofs.YthnnphinfiobmaaDoorW.PrintLast Go.Proofs.YthnnphinfiobmaaDoorW.PrintMore
attribute [local go_sem] max2_int min2_int max_two min_two max_three min_three max_four min_four
set_option linter.unusedVariables false
set_option linter.unusedSimpArgs false
mutual
def spec_l1Less.l0 : Nat → ByteArray → ByteArray → Int → Option (Bool)
 | 0, _, _, _ => none
 | k + 1, x0, x1, x5 => if x5 < (x0.size : Int) then (spec_l1Less.j1 k x0 x1 x5 (decide (x5 < (x1.size : Int)))) else (spec_l1Less.j1 k x0 x1 x5 false)
def spec_l1Less.j1 : Nat → ByteArray → ByteArray → Int → Bool → Option (Bool)
 | 0, _, _, _, _ => none
 | k + 1, x0, x1, x5, x15 => if x15 = true then (if 0 ≤ x5 then (if x5 < (x0.size : Int) then (if x5 < (x1.size : Int) then (if (bt x0 x5) = (bt x1 x5) then (spec_l1Less.l0 k x0 x1 (wrap64 (x5 + 1))) else (some (decide ((bt x0 x5) < (bt x1 x5))))) else (none)) else (none)) else (none)) else (some (decide ((x0.size : Int) < (x1.size : Int))))
end
def spec_l1Less.f (k : Nat) (a0 : ByteArray) (a1 : ByteArray) : Option (Bool) := spec_l1Less.l0 k a0 a1 0
set_option maxHeartbeats 8000000 in
set_option maxRecDepth 100000 in
theorem spec_l1Less.calls (k : Nat) (a0 : ByteArray) (a1 : ByteArray) (r : Bool) (w : World) (h : spec_l1Less.f k a0 a1 = some r) :
  Calls Tryd.prog 82 #[.string a0, .string a1] w fun e w' => e = .returned (.bool r) ∧ Drawn0 w w' := by
 have H : (spec_l1Less.l0 k a0 a1 0) = some r := h; clear h; have H' := Aside0.mk H; clear H
 go_enter Tryd.func82, Tryd.ntmps82
 go_wp2
 repeat (go_quiet (fail); try go_wp2)
 go_loopg [5] k (fun kq v5 w' => ∃ (x5_1 : Int), v5 = .int .i64 x5_1 ∧ Aside0 (spec_l1Less.l0 kq a0 a1 x5_1 = some r) ∧ Aside0 (kq ≤ k) ∧ Drawn0 w w')
 case atStart => exact ⟨(0), zq_11, H', ⟨Nat.le_refl _⟩, by repeat (first | exact Drawn0.refl _ | apply Drawn0.step)⟩
 case round =>
  clear H'
  try clear p2
  obtain ⟨x5_1, rfl, HA, HK1, ⟨m1, rfl⟩⟩ := hrel
  cases gk with
  | zero => exact absurd HA.out (by simp [spec_l1Less.l0])
  | succ k1 =>
   have H := HA.out; clear HA; simp only [spec_l1Less.l0] at H; have HC3 := Aside0.mk H; clear H
   go_upto_region 2 with (fail)
   repeat (go_quiet (fail); go_upto_region 2 with (fail))
   go_cut [15] (fun v15 wc => ∃ (kq : Nat) (x15_2 : Bool), v15 = .bool x15_2 ∧ Aside0 (spec_l1Less.j1 kq a0 a1 x5_1 x15_2 = some r) ∧ Aside0 (kq ≤ k1) ∧ Drawn0 w wc)
   case first =>
    have H := HC3.out; clear HC3
    by_cases c4 : x5_1 < (a0.size : Int)
    ·rw [if_pos c4] at H; have c4b0 : decide (x5_1 < (a0.size : Int)) = true := decide_eq_true c4; clear c4; (first | rw [c4b0] | (simp only [i64_w, i32_w]; rw [c4b0]) | skip); have H' := Aside0.mk H; clear H
     go_wp2
     repeat (go_quiet (fail); try go_wp2)
     go_meet
     case rel => exact ⟨_, (decide (x5_1 < (a1.size : Int))), zq_11, H', ⟨by have := HK1.out; first | omega | exact Nat.le_refl _⟩, by repeat (first | exact Drawn0.refl _ | apply Drawn0.step)⟩
    ·rw [if_neg c4] at H; have c4b0 : decide (x5_1 < (a0.size : Int)) = false := decide_eq_false c4; clear c4; (first | rw [c4b0] | (simp only [i64_w, i32_w]; rw [c4b0]) | skip); have H' := Aside0.mk H; clear H
     go_wp2
     repeat (go_quiet (fail); try go_wp2)
     go_meet
     case rel => exact ⟨_, (false), zq_11, H', ⟨by have := HK1.out; first | omega | exact Nat.le_refl _⟩, by repeat (first | exact Drawn0.refl _ | apply Drawn0.step)⟩
   case rest =>
    clear HC3
    try clear p2
    try clear c4
    try clear c4b0
    try clear p2
    obtain ⟨kq, x15_2, rfl, HA, HJ2, ⟨mc2, rfl⟩⟩ := hcut
    cases kq with
    | zero => exact absurd HA.out (by simp [spec_l1Less.j1])
    | succ kj2 =>
     have H := HA.out; clear HA; simp only [spec_l1Less.j1] at H
     by_cases c5 : x15_2 = true
     ·subst c5; have H1 : (if 0 ≤ x5_1 then (if x5_1 < (a0.size : Int) then (if x5_1 < (a1.size : Int) then (if (bt a0 x5_1) = (bt a1 x5_1) then (spec_l1Less.l0 kj2 a0 a1 (wrap64 (x5_1 + 1))) else (some (decide ((bt a0 x5_1) < (bt a1 x5_1))))) else (none)) else (none)) else (none)) = some r := by rw [if_pos rfl] at H; exact H
      clear H; have H := H1; clear H1
      by_cases c6 : 0 ≤ x5_1
      ·rw [if_pos c6] at H; have c6b0 : decide (0 ≤ x5_1) = true := decide_eq_true c6; clear c6
       by_cases c7 : x5_1 < (a0.size : Int)
       ·rw [if_pos c7] at H; have c7b0 : decide (x5_1 < (a0.size : Int)) = true := decide_eq_true c7; clear c7
        by_cases c9 : x5_1 < (a1.size : Int)
        ·rw [if_pos c9] at H; have c9b0 : decide (x5_1 < (a1.size : Int)) = true := decide_eq_true c9; clear c9
         by_cases c11 : (bt a0 x5_1) = (bt a1 x5_1)
         ·rw [if_pos c11] at H; have c11b0 : ((bt a0 x5_1) == (bt a1 x5_1)) = true := beq_iff_eq.mpr c11; have c11b1 : ((bt a0 x5_1) != (bt a1 x5_1)) = false := bne_eq_false_iff_eq.mpr c11; clear c11; have H' := Aside0.mk H; clear H; have p8 : 0 ≤ (x5_1 : Int) := of_decide_eq_true zq_3; have q8 : x5_1 < (a0.size : Int) := of_decide_eq_true zq_3; have hx8 := bt_at a0 x5_1; replace p8 := eq_true p8; replace q8 := eq_true q8; have p10 : 0 ≤ (x5_1 : Int) := of_decide_eq_true zq_3; have q10 : x5_1 < (a1.size : Int) := of_decide_eq_true zq_3; have hx10 := bt_at a1 x5_1; replace p10 := eq_true p10; replace q10 := eq_true q10
          go_wp2
          repeat (go_quiet (fail); try go_wp2)
          go_roundg kj2
          case measure => have := HK1.out; have := HJ2.out; omega
          case rel => exact ⟨(wrap64 (x5_1 + 1)), zq_11, H', ⟨by have := HK1.out; have := HJ2.out; omega⟩, by repeat (first | exact Drawn0.refl _ | apply Drawn0.step)⟩
         ·rw [if_neg c11] at H; have c11b0 : ((bt a0 x5_1) == (bt a1 x5_1)) = false := beq_eq_false_iff_ne.mpr c11; have c11b1 : ((bt a0 x5_1) != (bt a1 x5_1)) = true := bne_iff_ne.mpr c11; obtain rfl := Option.some.inj H; have p8 : 0 ≤ (x5_1 : Int) := of_decide_eq_true zq_3; have q8 : x5_1 < (a0.size : Int) := of_decide_eq_true zq_3; have hx8 := bt_at a0 x5_1; replace p8 := eq_true p8; replace q8 := eq_true q8; have p10 : 0 ≤ (x5_1 : Int) := of_decide_eq_true zq_3; have q10 : x5_1 < (a1.size : Int) := of_decide_eq_true zq_3; have hx10 := bt_at a1 x5_1; replace p10 := eq_true p10; replace q10 := eq_true q10; have p12 : 0 ≤ (x5_1 : Int) := of_decide_eq_true zq_3; have q12 : x5_1 < (a0.size : Int) := of_decide_eq_true zq_3; have hx12 := bt_at a0 x5_1; replace p12 := eq_true p12; replace q12 := eq_true q12; have p13 : 0 ≤ (x5_1 : Int) := of_decide_eq_true zq_3; have q13 : x5_1 < (a1.size : Int) := of_decide_eq_true zq_3; have hx13 := bt_at a1 x5_1; replace p13 := eq_true p13; replace q13 := eq_true q13
          go_wp2
          repeat (go_quiet (fail); try go_wp2)
          go_ret
          exact ⟨by first | rfl | (simp; done) | (simp [*]; done), by repeat (first | exact Drawn0.refl _ | apply Drawn0.step)⟩
        ·rw [if_neg c9] at H; exact absurd H (by simp)
       ·rw [if_neg c7] at H; exact absurd H (by simp)
      ·rw [if_neg c6] at H; exact absurd H (by simp)
     ·replace c5 := Bool.eq_false_iff.mpr c5; subst c5; have H1 : (some (decide ((a0.size : Int) < (a1.size : Int)))) = some r := by rw [if_neg (show ¬ (false = true) by decide)] at H; exact H
      clear H; have H := H1; clear H1; obtain rfl := Option.some.inj H
      go_wp2
      repeat (go_quiet (fail); try go_wp2)
      go_ret
      exact ⟨by first | rfl | (simp; done) | (simp [*]; done), by repeat (first | exact Drawn0.refl _ | apply Drawn0.step)⟩
end Go.Proofs.YthnnphinfiobmaaDoor.Z
end
section
namespace Go.Proofs.YthnnphinfiobmaaDoor.Z
open Go.RowKit Go.Proofs.YthnnphinfiobmaaDoorW.PrintWords Go.Proofs.YthnnphinfiobmaaDoorW.PrintLast Go.Proofs.YthnnphinfiobmaaDoorW.PrintMore
attribute [local go_sem] max2_int min2_int max_two min_two max_three min_three max_four min_four
set_option linter.unusedVariables false
set_option linter.unusedSimpArgs false
def spec_Higher.f (k : Nat) (a0 : ByteArray) (a1 : ByteArray) : Option (Bool) := (spec_Sha256.f k a0).bind fun t940001 => ((spec_Sha256.f k a1).bind fun t940002 => (if t940001.toList = t940002.toList then ((spec_l1Less.f k a0 a1).bind fun t940003 => (some t940003)) else ((spec_l1Less.f k t940002 t940001).bind fun t940004 => (some t940004))))
set_option maxHeartbeats 8000000 in
set_option maxRecDepth 100000 in
theorem spec_Higher.calls (k : Nat) (a0 : ByteArray) (a1 : ByteArray) (r : Bool) (w : World) (h : spec_Higher.f k a0 a1 = some r) :
  Calls Tryd.prog 94 #[.string a0, .string a1] w fun e w' => e = .returned (.bool r) ∧ Below w.heap.size w w' := by
 have HB := Aside0.mk (Below.refl w.heap.size w); have H : ((spec_Sha256.f k a0).bind fun t940001 => ((spec_Sha256.f k a1).bind fun t940002 => (if t940001.toList = t940002.toList then ((spec_l1Less.f k a0 a1).bind fun t940003 => (some t940003)) else ((spec_l1Less.f k t940002 t940001).bind fun t940004 => (some t940004))))) = some r := h; clear h; replace H := Option.bind_eq_some_iff.mp H; obtain ⟨t940001, A30, H⟩ := H; replace H : ((spec_Sha256.f k a1).bind fun t940002 => (if t940001.toList = t940002.toList then ((spec_l1Less.f k a0 a1).bind fun t940003 => (some t940003)) else ((spec_l1Less.f k t940002 t940001).bind fun t940004 => (some t940004)))) = some r := H; have A3 := Aside0.mk A30; clear A30; replace H := Option.bind_eq_some_iff.mp H; obtain ⟨t940002, A40, H⟩ := H; replace H : (if t940001.toList = t940002.toList then ((spec_l1Less.f k a0 a1).bind fun t940003 => (some t940003)) else ((spec_l1Less.f k t940002 t940001).bind fun t940004 => (some t940004))) = some r := H; have A4 := Aside0.mk A40; clear A40
 by_cases c5 : t940001.toList = t940002.toList
 ·rw [if_pos c5] at H; have c5b0 : (t940001.toList == t940002.toList) = true := beq_iff_eq.mpr c5; have c5b1 : (t940001.toList != t940002.toList) = false := bne_eq_false_iff_eq.mpr c5; clear c5; replace H := Option.bind_eq_some_iff.mp H; obtain ⟨t940003, A60, H⟩ := H; replace H : (some t940003) = some r := H; have A6 := Aside0.mk A60; clear A60; obtain rfl := Option.some.inj H
  go_enter Tryd.func94, Tryd.ntmps94
  go_wp2_with (first | ((with_reducible refine gate_callee (f := 90) rfl ?_); refine goesL_ (some 8) rfl rfl Tryd.func90 (by kernel_rfl) rfl #[.string a0] rfl zq_1 ?_; (with_reducible refine (spec_Sha256.calls k a0 t940001 _ A3.out).mono ?_); rintro e w7 ⟨rfl, hb⟩; refine ⟨_, rfl, ?_⟩; have n0_ := Aside0.mk (below_step zq_0 hb); clear HB; have HB := n0_; clear n0_; (try clear hb); (try clear hb2); (try clear hk); (try clear hi)) | ((with_reducible refine gate_callee (f := 90) rfl ?_); refine goesL_ (some 10) rfl rfl Tryd.func90 (by kernel_rfl) rfl #[.string a1] rfl zq_1 ?_; (with_reducible refine (spec_Sha256.calls k a1 t940002 _ A4.out).mono ?_); rintro e w8 ⟨rfl, hb⟩; refine ⟨_, rfl, ?_⟩; have n0_ := Aside0.mk (below_step zq_0 hb); clear HB; have HB := n0_; clear n0_; (try clear hb); (try clear hb2); (try clear hk); (try clear hi)) | ((with_reducible refine gate_callee (f := 82) rfl ?_); refine goesL_ (some 19) rfl rfl Tryd.func82 (by kernel_rfl) rfl #[.string a0, .string a1] rfl zq_1 ?_; (with_reducible refine (spec_l1Less.calls k a0 a1 t940003 _ A6.out).mono ?_); rintro e w' ⟨rfl, ⟨nd, rfl⟩⟩; refine ⟨_, rfl, ?_⟩))
  go_ret
  exact ⟨by first | rfl | (simp [errW_none, errW_some] <;> rfl) | (simp [*, errW_none, errW_some] <;> rfl), by repeat (first | (with_reducible first | exact HB.out | apply below_alloc | apply pw_below_drewN | apply below_drew1) | exact HB.out)⟩
 ·rw [if_neg c5] at H; have c5b0 : (t940001.toList == t940002.toList) = false := beq_eq_false_iff_ne.mpr c5; have c5b1 : (t940001.toList != t940002.toList) = true := bne_iff_ne.mpr c5; replace H := Option.bind_eq_some_iff.mp H; obtain ⟨t940004, A90, H⟩ := H; replace H : (some t940004) = some r := H; have A9 := Aside0.mk A90; clear A90; obtain rfl := Option.some.inj H
  go_enter Tryd.func94, Tryd.ntmps94
  go_wp2_with (first | ((with_reducible refine gate_callee (f := 90) rfl ?_); refine goesL_ (some 8) rfl rfl Tryd.func90 (by kernel_rfl) rfl #[.string a0] rfl zq_1 ?_; (with_reducible refine (spec_Sha256.calls k a0 t940001 _ A3.out).mono ?_); rintro e w10 ⟨rfl, hb⟩; refine ⟨_, rfl, ?_⟩; have n0_ := Aside0.mk (below_step zq_0 hb); clear HB; have HB := n0_; clear n0_; (try clear hb); (try clear hb2); (try clear hk); (try clear hi)) | ((with_reducible refine gate_callee (f := 90) rfl ?_); refine goesL_ (some 10) rfl rfl Tryd.func90 (by kernel_rfl) rfl #[.string a1] rfl zq_1 ?_; (with_reducible refine (spec_Sha256.calls k a1 t940002 _ A4.out).mono ?_); rintro e w11 ⟨rfl, hb⟩; refine ⟨_, rfl, ?_⟩; have n0_ := Aside0.mk (below_step zq_0 hb); clear HB; have HB := n0_; clear n0_; (try clear hb); (try clear hb2); (try clear hk); (try clear hi)) | ((with_reducible refine gate_callee (f := 82) rfl ?_); refine goesL_ (some 16) rfl rfl Tryd.func82 (by kernel_rfl) rfl #[.string t940002, .string t940001] rfl zq_1 ?_; (with_reducible refine (spec_l1Less.calls k t940002 t940001 t940004 _ A9.out).mono ?_); rintro e w' ⟨rfl, ⟨nd, rfl⟩⟩; refine ⟨_, rfl, ?_⟩))
  go_ret
  exact ⟨by first | rfl | (simp [errW_none, errW_some] <;> rfl) | (simp [*, errW_none, errW_some] <;> rfl), by repeat (first | (with_reducible first | exact HB.out | apply below_alloc | apply pw_below_drewN | apply below_drew1) | exact HB.out)⟩
end Go.Proofs.YthnnphinfiobmaaDoor.Z
end
section
namespace Go.Proofs.YthnnphinfiobmaaDoor.Z
open Go.RowKit Go.Proofs.YthnnphinfiobmaaDoor Go.Proofs.YthnnphinfiobmaaDoorW.PrintWords Go.Proofs.YthnnphinfiobmaaDoorW.PrintLast
set_option linter.unusedVariables false
set_option linter.unusedSimpArgs false
theorem l1Width_f (n : Int) : spec_l1Width.f n = some (widB n) := by
 unfold spec_l1Width.f widB
 by_cases h : n ≥ 1
 ·rw [if_pos h]; congr 1; simp; omega
 ·rw [if_neg h]; congr 1; simp; omega
theorem spec_Digest_f (a0 : ByteArray) (a1 : Int) (ha : a0.size ≤ 4294967296) (k : Nat) (hk : a0.size + 100 < k) : spec_Digest.f k a0 a1 = some (digV a0 a1) := by
 unfold spec_Digest.f; rw [l1Width_f]; simp only [Option.bind_some]
 by_cases hw : widB a1 = true
 ·have hr : 1 ≤ a1 ∧ a1 ≤ 32 := by unfold widB at hw; exact of_decide_eq_true hw
  rw [if_pos hw, digV_yes hw, spec_Sha256_f a0 ha k hk]; simp only [Option.bind_some]; rw [if_pos (by omega), if_pos (by rw [shaV_size]; omega)]
 ·rw [if_neg hw, digV_no (Bool.eq_false_iff.2 hw)]
theorem bt_get (s : ByteArray) (i : Nat) (h : i < s.size) : bt s (i : Int) = ((s.data.toList[i]'h).toNat : Int) := by
 unfold bt; rw [Int.toNat_natCast, dif_pos h]; rfl
theorem bytesLess_drop (a b : List UInt8) (i : Nat) (h1 : i < a.length) (h2 : i < b.length) : Op.bytesLess (a.drop i) (b.drop i) = (a[i] < b[i] || (a[i] == b[i] && Op.bytesLess (a.drop (i + 1)) (b.drop (i + 1)))) := by
 rw [List.drop_eq_getElem_cons h1, List.drop_eq_getElem_cons h2]; rfl
theorem l1Less_loop (a b : ByteArray) (ha : a.size ≤ 4611686018427387904) : ∀ (d i k : Nat), a.size = i + d → 2 * d + 1 < k →
  (i ≤ b.size) → spec_l1Less.l0 k a b (i : Int) = some (Op.bytesLess (a.data.toList.drop i) (b.data.toList.drop i)) := by
 intro d; have hal : a.data.toList.length = a.size := rfl; have hbl : b.data.toList.length = b.size := rfl
 induction d with
 | zero =>
  intro i k hi hk hb; obtain ⟨k, rfl⟩ : ∃ j, k = j + 2 := ⟨k - 2, by omega⟩
  simp only [spec_l1Less.l0]; rw [if_neg (by omega)]; simp only [spec_l1Less.j1]; rw [if_neg (by decide), List.drop_eq_nil_of_le (show a.data.toList.length ≤ i by omega)]
  congr 1
  by_cases h : i < b.size
  ·rw [List.drop_eq_getElem_cons (show i < b.data.toList.length by omega)]; simp [Op.bytesLess]; omega
  ·rw [List.drop_eq_nil_of_le (show b.data.toList.length ≤ i by omega)]; simp [Op.bytesLess]; omega
 | succ d ih =>
  intro i k hi hk hb; obtain ⟨k, rfl⟩ : ∃ j, k = j + 2 := ⟨k - 2, by omega⟩
  simp only [spec_l1Less.l0]; rw [if_pos (by omega)]; simp only [spec_l1Less.j1]
  by_cases h : i < b.size
  ·rw [if_pos (by simp; omega), if_pos (by omega), if_pos (by omega), if_pos (by omega)]; rw [bt_get a i (by omega), bt_get b i h, bytesLess_drop _ _ i (by omega) (by omega)]; have e1 : wrap64 ((i : Int) + 1) = ((i + 1 : Nat) : Int) := by rw [w64 (by omega) (by omega)]; omega
   rw [e1]; clear e1; have hlt : ∀ x y : UInt8, (x < y) ↔ ((x.toNat : Int) < (y.toNat : Int)) := by intro x y; rw [UInt8.lt_iff_toNat_lt]; omega
   have heq : ∀ x y : UInt8, (x = y) ↔ ((x.toNat : Int) = (y.toNat : Int)) := by intro x y; rw [← UInt8.toNat_inj]; omega
   generalize a.data.toList[i]'(by omega) = x; generalize b.data.toList[i]'(by omega) = y
   by_cases hxy : x = y
   ·subst hxy; rw [if_pos rfl, ih (i + 1) k (by omega) (by omega) (by omega)]; simp
   ·rw [if_neg (fun e => hxy ((heq x y).2 e))]; simp [hxy, hlt x y]
  ·rw [if_neg (by simp; omega), List.drop_eq_nil_of_le (show b.data.toList.length ≤ i by omega)]
   congr 1
   rw [decide_eq_false (by omega)]
   cases a.data.toList.drop i <;> rfl
theorem spec_l1Less_f (a b : ByteArray) (ha : a.size ≤ 4294967296) (k : Nat) (hk : 2 * a.size + 1 < k) : spec_l1Less.f k a b = some (Op.bytesLess a.toList b.toList) := by
 unfold spec_l1Less.f; rw [ByteArray.toList_eq, ByteArray.toList_eq]; have h := l1Less_loop a b (by omega) a.size 0 k (by omega) hk (by omega)
 simpa using h
theorem bytesLess_swap : ∀ (x y : List UInt8), x ≠ y → Op.bytesLess y x = !Op.bytesLess x y
 | [], [], h => absurd rfl h
 | [], _ :: _, _ => rfl
 | _ :: _, [], _ => rfl
 | a :: x, b :: y, h => by
  simp only [Op.bytesLess]
  by_cases hab : a = b
  ·subst hab; have := bytesLess_swap x y (fun e => h (by rw [e])); have hl : ¬ a < a := by rw [UInt8.lt_iff_toNat_lt]; omega
   simp [this, hl]
  ·have h1 : ¬ b = a := fun e => hab e.symm
   have hn : a.toNat ≠ b.toNat := fun e => hab (UInt8.toNat_inj.1 e)
   simp only [beq_eq_false_iff_ne.2 hab, beq_eq_false_iff_ne.2 h1, Bool.false_and, Bool.or_false]; rw [Bool.eq_iff_iff]; simp only [decide_eq_true_eq, Bool.not_eq_true', decide_eq_false_iff_not, UInt8.lt_iff_toNat_lt]; omega
theorem strOfNums_inj : ∀ (l m : List Int), (∀ x ∈ l, 0 ≤ x ∧ x < 256) → (∀ x ∈ m, 0 ≤ x ∧ x < 256) → strOfNums l = strOfNums m → l = m := by
 have key : ∀ (l m : List Int), (∀ x ∈ l, 0 ≤ x ∧ x < 256) → (∀ x ∈ m, 0 ≤ x ∧ x < 256) → l.map (fun x => UInt8.ofNat x.toNat) = m.map (fun x => UInt8.ofNat x.toNat) → l = m := by
  intro l
  induction l with
  | nil => intro m _ _ h; cases m with | nil => rfl | cons => simp at h
  | cons a l ih =>
   intro m hl hm h
   cases m with
   | nil => simp at h
   | cons b m =>
    simp only [List.map_cons, List.cons.injEq] at h; have h1 := hl a (by simp); have h2 := hm b (by simp); have h3 := congrArg UInt8.toNat h.1; rw [UInt8.toNat_ofNat', UInt8.toNat_ofNat'] at h3; rw [ih m (fun x hx => hl x (by simp [hx])) (fun x hx => hm x (by simp [hx])) h.2, show a = b by omega]
 intro l m hl hm h; refine key l m hl hm ?_; unfold strOfNums at h; have := congrArg (fun s : ByteArray => s.data.toList) h
 simpa using this
theorem outB_range (h : List Int) : ∀ n, ∀ x ∈ outB h n, 0 ≤ x ∧ x < 256
 | 0, x, hx => by simp [outB] at hx
 | n + 1, x, hx => by
  rw [outB, List.mem_append] at hx
  rcases hx with hx | hx
  ·exact outB_range h n x hx
  ·simp only [wordB, List.mem_cons, List.not_mem_nil, or_false] at hx
   rcases hx with rfl | rfl | rfl | rfl <;> omega
theorem shaL_range (l : List UInt8) : ∀ x ∈ shaL l, 0 ≤ x ∧ x < 256 := outB_range _ _
theorem toList_inj {a b : ByteArray} : a.toList = b.toList ↔ a = b := by
 rw [ByteArray.toList_eq, ByteArray.toList_eq]; exact ⟨fun h => ByteArray.ext (Array.toList_inj.mp h), fun h => by rw [h]⟩
theorem highB_eq (a b : ByteArray) : highB a b = if (shaV a).toList = (shaV b).toList then Op.bytesLess a.toList b.toList else Op.bytesLess (shaV b).toList (shaV a).toList := by
 unfold highB aboveB
 by_cases h : shaL a.data.toList = shaL b.data.toList
 ·rw [if_pos h, if_pos (by unfold shaV; rw [h])]
 ·have h2 : (shaV a).toList ≠ (shaV b).toList := fun e => h (strOfNums_inj _ _ (shaL_range _) (shaL_range _) (toList_inj.1 e))
  rw [if_neg h, if_neg h2]; show (!Op.bytesLess (shaV a).toList (shaV b).toList && !((shaV a).toList == (shaV b).toList)) = _; rw [beq_eq_false_iff_ne.2 h2, bytesLess_swap _ _ h2]; simp
theorem spec_Higher_f (a b : ByteArray) (ha : a.size ≤ 4294967296) (hb : b.size ≤ 4294967296) (k : Nat) (hk : 2 * a.size + 2 * b.size + 200 < k) : spec_Higher.f k a b = some (highB a b) := by
 unfold spec_Higher.f; rw [spec_Sha256_f a ha k (by omega), spec_Sha256_f b hb k (by omega)]; simp only [Option.bind_some]; rw [spec_l1Less_f a b ha k (by omega), spec_l1Less_f _ _ (by rw [shaV_size]; omega) k (by rw [shaV_size]; omega), highB_eq]; simp only [Option.bind_some]
 split <;> rfl
end Go.Proofs.YthnnphinfiobmaaDoor.Z
end
section
namespace Go.Proofs.YthnnphinfiobmaaDoor.Z
open Go.RowKit Go.Proofs.YthnnphinfiobmaaDoor Go.Proofs.YthnnphinfiobmaaDoorW.PrintWords Go.Proofs.YthnnphinfiobmaaDoorW.PrintLast
theorem wN {x : Int} {n : Nat} (h : x = (n : Int)) (hn : n ≤ 9223372036854775807) : wrap64 x = (n : Int) := by rw [h]; unfold wrap64; omega
theorem rd_at {α : Type} (d : α) (l : List α) (i : Nat) (h : i < l.length) : rdOf d l (i : Int) = l[i] := by
 unfold rdOf; rw [Int.toNat_natCast, List.getD_eq_getElem?_getD, List.getElem?_eq_getElem h]; rfl
end Go.Proofs.YthnnphinfiobmaaDoor.Z
end
section
namespace Go.Proofs.YthnnphinfiobmaaDoor.Z
open Go.RowKit Go.Proofs.YthnnphinfiobmaaDoor Go.Proofs.YthnnphinfiobmaaDoorW.PrintWords Go.Proofs.YthnnphinfiobmaaDoorW.PrintLast
set_option linter.unusedVariables false
set_option linter.unusedSimpArgs false
theorem toStringS_loop (l : List ByteArray) (hl : l.length ≤ 4294967296) : ∀ (d i k : Nat), l.length = i + d → d < k → laws_toStringS.l0 k l (l.take i ++ List.replicate (l.length - i) ⟨#[]⟩) (i : Int) = some l := by
 intro d
 induction d with
 | zero =>
  intro i k h hk; obtain ⟨k, rfl⟩ : ∃ j, k = j + 1 := ⟨k - 1, by omega⟩
  simp only [laws_toStringS.l0]; rw [if_neg (by omega), List.take_of_length_le (by omega), show l.length - i = 0 by omega, List.replicate_zero, List.append_nil]
 | succ d ih =>
  intro i k h hk; obtain ⟨k, rfl⟩ : ∃ j, k = j + 1 := ⟨k - 1, by omega⟩
  simp only [laws_toStringS.l0]; have hL : (l.take i ++ List.replicate (l.length - i) (⟨#[]⟩ : ByteArray)).length = l.length := by rw [List.length_append, List.length_take, List.length_replicate]; omega
  rw [if_pos (by omega), if_pos (by omega), if_pos (by rw [hL]; omega), rd_at _ _ _ (by omega), Int.toNat_natCast, wN (n := i + 1) (by omega) (by omega)]; have := ih (i + 1) k (by omega) (by omega); rw [show l.take (i + 1) ++ List.replicate (l.length - (i + 1)) (⟨#[]⟩ : ByteArray) = (l.take i ++ List.replicate (l.length - i) (⟨#[]⟩ : ByteArray)).set i l[i] by
   rw [List.set_append_right _ _ (by rw [List.length_take]; omega), List.length_take, Nat.min_eq_left (by omega), Nat.sub_self, show l.length - i = (l.length - (i + 1)) + 1 by omega, List.replicate_succ, List.set_cons_zero, List.take_succ_eq_append_getElem (by omega), List.append_assoc]; rfl] at this
  exact this
theorem toStringS_f (l : List ByteArray) (hl : l.length ≤ 4294967296) (k : Nat) (hk : l.length < k) : laws_toStringS.f k l = some l := by
 unfold laws_toStringS.f; rw [if_pos (by omega), if_pos (by omega), Int.toNat_natCast]; have := toStringS_loop l hl l.length 0 k (by omega) hk; rw [List.take_zero, List.nil_append, Nat.sub_zero] at this; exact this
theorem toPool_f (W : Int) (l : List ByteArray) (hl : l.length ≤ 4294967296) (k : Nat) (hk : l.length < k) : laws_toPool.f k W l = some (W, l) := by
 unfold laws_toPool.f; rw [toStringS_f l hl k hk]; rfl
theorem szStringS_loop (l : List ByteArray) (hs : ∀ s ∈ l, s.size ≤ 9223372036854775807) : ∀ (d i k : Nat) (a : Int), l.length = i + d → d < k → 0 ≤ a → a ≤ 1048576 → l.length ≤ 4294967296 →
  ∃ t, laws_szStringS.l0 k l a (i : Int) = some t ∧ t ≤ a ∧ (0 ≤ t → ∀ j (h : j < l.length), i ≤ j → (l[j].size : Int) ≤ a) := by
 intro d
 induction d with
 | zero =>
  intro i k a h hk h0 h1 hl; obtain ⟨k, rfl⟩ : ∃ j, k = j + 1 := ⟨k - 1, by omega⟩
  refine ⟨a, ?_, by omega, fun _ j hj hij => by omega⟩; simp only [laws_szStringS.l0]; rw [if_neg (by omega)]
 | succ d ih =>
  intro i k a h hk h0 h1 hl; obtain ⟨k, rfl⟩ : ∃ j, k = j + 1 := ⟨k - 1, by omega⟩
  simp only [laws_szStringS.l0]; have hsi := hs l[i] (List.getElem_mem _); rw [if_pos (by omega), if_pos (by omega), rd_at _ _ _ (by omega)]; obtain ⟨z, hz⟩ : ∃ z : Nat, l[i].size = z := ⟨_, rfl⟩
  rw [hz] at hsi; rw [hz]; have hw : wrap64 (a - (z : Int)) = a - (z : Int) := by unfold wrap64; omega
  rw [hw]
  by_cases hn : a - (z : Int) < 0
  ·rw [if_pos hn]; exact ⟨-1, rfl, by omega, fun h => by omega⟩
  ·rw [if_neg hn, wN (n := i + 1) (by omega) (by omega)]; obtain ⟨t, h3, h4, h5⟩ := ih (i + 1) k (a - (z : Int)) (by omega) (by omega) (by omega) (by omega) hl; refine ⟨t, h3, by omega, fun ht j hj hij => ?_⟩
   rcases Nat.eq_or_lt_of_le hij with e | e
   ·subst e; rw [hz]; omega
   ·have := h5 ht j hj (by omega); omega
theorem szStringS_f (l : List ByteArray) (hs : ∀ s ∈ l, s.size ≤ 9223372036854775807) (hl : l.length ≤ 9223372036854775807) (a : Int) (h0 : 0 ≤ a) (h1 : a ≤ 1048576) (k : Nat) (hk : 1048577 < k) :
  ∃ t, laws_szStringS.f k l a = some t ∧ (0 ≤ t → t ≤ a ∧ (l.length : Int) ≤ a ∧ ∀ s ∈ l, (s.size : Int) ≤ a) := by
 unfold laws_szStringS.f; have hw : wrap64 (a - (l.length : Int)) = a - (l.length : Int) := by unfold wrap64; omega
 rw [hw]
 by_cases hn : a - (l.length : Int) < 0
 ·rw [if_pos hn]; exact ⟨-1, rfl, fun h => by omega⟩
 ·rw [if_neg hn]; obtain ⟨t, h3, h4, h5⟩ := szStringS_loop l hs l.length 0 k (a - l.length) (by omega) (by omega) (by omega) (by omega) (by omega); refine ⟨t, h3, fun ht => ⟨by omega, by omega, fun s hs => ?_⟩⟩; obtain ⟨j, hj, rfl⟩ := List.getElem_of_mem hs; have := h5 ht j hj (by omega); omega
theorem szPool_f (W : Int) (l : List ByteArray) (hs : ∀ s ∈ l, s.size ≤ 9223372036854775807) (hl : l.length ≤ 9223372036854775807) (k : Nat) (hk : 1048577 < k) :
  ∃ t, laws_szPool.f k W l 1048576 = some t ∧ (0 ≤ t → t ≤ 1048576 ∧ small l) := by
 obtain ⟨t, h1, h2⟩ := szStringS_f l hs hl 1048576 (by omega) (by omega) k hk; unfold laws_szPool.f; rw [h1, Option.bind_some]
 by_cases hn : t < 0
 ·rw [if_pos hn]; exact ⟨-1, rfl, fun h => by omega⟩
 ·rw [if_neg hn]; obtain ⟨h3, h4, h5⟩ := h2 (by omega); exact ⟨t, rfl, fun _ => ⟨h3, by omega, fun s hs => by have := h5 s hs; omega⟩⟩
theorem eqStringS_loop (l : List ByteArray) (hl : l.length ≤ 4294967296) : ∀ (d i k : Nat), l.length = i + d → d < k → laws_eqStringS.l0 k l l (i : Int) = some true := by
 intro d
 induction d with
 | zero =>
  intro i k h hk; obtain ⟨k, rfl⟩ : ∃ j, k = j + 1 := ⟨k - 1, by omega⟩
  simp only [laws_eqStringS.l0]; rw [if_neg (by omega)]
 | succ d ih =>
  intro i k h hk; obtain ⟨k, rfl⟩ : ∃ j, k = j + 1 := ⟨k - 1, by omega⟩
  simp only [laws_eqStringS.l0, if_true]; rw [if_pos (by omega), if_pos (by omega), if_pos (by omega), wN (n := i + 1) (by omega) (by omega)]; exact ih (i + 1) k (by omega) (by omega)
theorem eqStringS_f (l : List ByteArray) (hl : l.length ≤ 4294967296) (k : Nat) (hk : l.length < k) : laws_eqStringS.f k l l = some true := by
 unfold laws_eqStringS.f; rw [if_pos rfl]; exact eqStringS_loop l hl l.length 0 k (by omega) hk
theorem eqPool_f (W : Int) (l : List ByteArray) (hl : l.length ≤ 4294967296) (k : Nat) (hk : l.length < k) : laws_eqPool.f k W l W l = some true := by
 unfold laws_eqPool.f; rw [if_pos rfl, eqStringS_f l hl k hk, Option.bind_some, if_pos rfl]
end Go.Proofs.YthnnphinfiobmaaDoor.Z
end
