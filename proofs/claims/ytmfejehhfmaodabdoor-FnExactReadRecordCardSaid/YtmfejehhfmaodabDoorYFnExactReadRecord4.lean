/- Own texts, joined. -/
import Derived.Test.YtmfejehhfmaodabDoorYFnExactReadRecord1
import Derived.Test.YtmfejehhfmaodabDoorYFnExactReadRecord0
import Derived.Test.YtmfejehhfmaodabDoorYFnExactReadRecord3
import Derived.Test.YtmfejehhfmaodabDoorYFnExactReadRecord2
import Derived.Deep.RegionHeld3
import Derived.Lib.BufferOwn
import Derived.Lib.BufferWrite
/- Contracts of functions of the program, written by a program of this session over the translation's print. -/
section
namespace Go.Proofs.YtmfejehhfmaodabDoor.Z
open Go.RowKit Go.Proofs.YtmfejehhfmaodabDoorW.PrintWords Go.Proofs.YtmfejehhfmaodabDoorW.PrintLast Go.Proofs.YtmfejehhfmaodabDoorW.PrintMore
attribute [local go_sem] max2_int min2_int max_two min_two max_three min_three max_four min_four   -- for this text's walks alone
set_option linter.unusedVariables false
set_option linter.unusedSimpArgs false

/-! ### laws_FnExactReadRecord: function 5 -/
def laws_FnExactReadRecord.f (k : Nat) (a0 : ByteArray) (a1 : Int) : Option (Bool) := if (a0.size : Int) > 1048576 then (some true) else ((spec_ReadRecord.f k a0 a1).bind fun bt50001 => ((impl_ReadRecord.f a0 a1).bind fun bt50007 => ((laws_eqRecord.f bt50007.1 bt50007.2.1 bt50007.2.2.1 bt50007.2.2.2.1 bt50007.2.2.2.2 bt50001.1 bt50001.2.1 bt50001.2.2.1 bt50001.2.2.2.1 bt50001.2.2.2.2).bind fun t50013 => (if t50013 = true then (some true) else (some false)))))
theorem laws_FnExactReadRecord.mono : ∀ a0 a1 k, LeO (laws_FnExactReadRecord.f k a0 a1) (laws_FnExactReadRecord.f (k + 1) a0 a1) := by
  intro a0 a1 k
  unfold laws_FnExactReadRecord.f
  repeat' first
      | (with_reducible exact spec_ReadRecord.mono _ _ _)
      | (with_reducible exact LeO.refl _)
      | (with_reducible exact LeO.none _)
      | (with_reducible refine LeO.ite ?_ ?_)
      | (with_reducible refine LeO.bind ?_ (fun _ => ?_))
      | exact spec_ReadRecord.mono _ _ _
      | exact LeO.none _
      | refine LeO.ite ?_ ?_
      | refine LeO.bind ?_ (fun _ => ?_)
set_option maxHeartbeats 8000000 in
set_option maxRecDepth 100000 in
theorem laws_FnExactReadRecord.calls (k : Nat) (a0 : ByteArray) (a1 : Int) (r : Bool) (w : World) (h : laws_FnExactReadRecord.f k a0 a1 = some r) :
    Calls Tryd.prog 5 #[.string a0, .int .i64 a1] w fun e w' => e = .returned (.bool r) ∧ Below w.heap.size w w' := by
  have hu43 := Tryd.underlying43
  have HB := Aside0.mk (Below.refl w.heap.size w)
  have H : (if (a0.size : Int) > 1048576 then (some true) else ((spec_ReadRecord.f k a0 a1).bind fun bt50001 => ((impl_ReadRecord.f a0 a1).bind fun bt50007 => ((laws_eqRecord.f bt50007.1 bt50007.2.1 bt50007.2.2.1 bt50007.2.2.2.1 bt50007.2.2.2.2 bt50001.1 bt50001.2.1 bt50001.2.2.1 bt50001.2.2.2.1 bt50001.2.2.2.2).bind fun t50013 => (if t50013 = true then (some true) else (some false)))))) = some r := h
  clear h
  by_cases c3 : (a0.size : Int) > 1048576
  · rw [if_pos c3] at H
    have c3b0 : decide (1048576 < (a0.size : Int)) = true := decide_eq_true c3
    have c3b1 : decide (1048576 < a0.size) = true := decide_eq_true (by omega)
    clear c3
    obtain rfl := Option.some.inj H
    go_enter Tryd.func5, Tryd.ntmps5
    go_wp2
    go_ret
    exact ⟨by first | rfl | (simp [errW_none, errW_some] <;> rfl) | (simp [*, errW_none, errW_some] <;> rfl), by repeat (first | (with_reducible first | exact HB.out | apply below_alloc | apply pw_below_drewN | apply below_drew1) | exact HB.out)⟩
  · rw [if_neg c3] at H
    have c3b0 : decide (1048576 < (a0.size : Int)) = false := decide_eq_false c3
    have c3b1 : decide (1048576 < a0.size) = false := decide_eq_false (by omega)
    clear c3
    replace H := Option.bind_eq_some_iff.mp H
    obtain ⟨⟨t50001, t50002, t50003, t50004, t50005⟩, A40, H⟩ := H
    replace H : ((impl_ReadRecord.f a0 a1).bind fun bt50007 => ((laws_eqRecord.f bt50007.1 bt50007.2.1 bt50007.2.2.1 bt50007.2.2.2.1 bt50007.2.2.2.2 t50001 t50002 t50003 t50004 t50005).bind fun t50013 => (if t50013 = true then (some true) else (some false)))) = some r := H
    have A4 := Aside0.mk A40
    clear A40
    replace H := Option.bind_eq_some_iff.mp H
    obtain ⟨⟨t50007, t50008, t50009, t50010, t50011⟩, A50, H⟩ := H
    replace H : ((laws_eqRecord.f t50007 t50008 t50009 t50010 t50011 t50001 t50002 t50003 t50004 t50005).bind fun t50013 => (if t50013 = true then (some true) else (some false))) = some r := H
    have A5 := Aside0.mk A50
    clear A50
    replace H := Option.bind_eq_some_iff.mp H
    obtain ⟨t50013, A60, H⟩ := H
    replace H : (if t50013 = true then (some true) else (some false)) = some r := H
    have A6 := Aside0.mk A60
    clear A60
    by_cases c7 : t50013 = true
    · subst c7
      have H1 : (some true) = some r := by rw [if_pos rfl] at H; exact H
      clear H
      have H := H1
      clear H1
      obtain rfl := Option.some.inj H
      go_enter Tryd.func5, Tryd.ntmps5
      go_wp2_with (first | ((with_reducible refine gate_callee (f := 20) rfl ?_); refine goesL_ (some 12) rfl rfl Tryd.func20 (by kernel_rfl) rfl #[.string a0, .int .i64 a1] rfl (by (try simp only [List.map_toArray, List.map_cons, List.map_nil]); first | done | rfl | (simp only [List.length_drop, List.length_take]; rfl)) ?_; (with_reducible refine (spec_ReadRecord.calls k a0 a1 t50001 t50002 t50003 t50004 t50005 _ A4.out).mono ?_); rintro e w8 ⟨rfl, hb⟩; refine ⟨_, rfl, ?_⟩; have n0_ := Aside0.mk (below_step (by repeat (first | (with_reducible first | exact HB.out | apply below_alloc | apply pw_below_drewN | apply below_drew1) | exact HB.out)) hb); clear HB; have HB := n0_; clear n0_; (try clear hb); (try clear hb2); (try clear hk); (try clear hi)) | ((with_reducible refine gate_dst (N := 5) rfl ?_); refine box_event ?hg (N := 5) ?hd (cs := #[.int .i64 0, .string (⟨#[]⟩ : ByteArray), .int .i64 0, .string (⟨#[]⟩ : ByteArray), .int .i64 0]) (t := 43) ?hr ?_; (case hd => rfl); (case hg => rfl); (case hr => first | (go_simp; done) | (go_simp; rfl)); intro gb50006 hg w9 hbox hb; have n0_ := Aside0.mk (below_step (by repeat (first | (with_reducible first | exact HB.out | apply below_alloc | apply pw_below_drewN | apply below_drew1) | exact HB.out)) hb); have n1_ := Aside0.mk (hbox); have n2_ := Aside0.mk ((by rw [hg]; exact (below_size (by repeat (first | (with_reducible first | exact HB.out | apply below_alloc | apply pw_below_drewN | apply below_drew1) | exact HB.out))) : w.heap.size ≤ gb50006)); have n3_ := Aside0.mk ((by rw [hg]; exact (below_size (by repeat (first | (with_reducible first | exact HB.out | apply below_alloc | apply pw_below_drewN | apply below_drew1) | exact HB.out))) : w.heap.size ≤ gb50006)); clear HB; have HB := n0_; have BK50006 := n1_; have GW50006 := n2_; have GE50006 := n3_; clear n0_ n1_ n2_ n3_; clear hb hbox hg; have hcz10_0 : w9.cell? ⟨gb50006, 0, none⟩ = some (.int .i64 0) := (blk_cell BK50006.out 0).trans rfl; have hcz10_1 : w9.cell? ⟨gb50006, 1, none⟩ = some (.string (⟨#[]⟩ : ByteArray)) := (blk_cell BK50006.out 1).trans rfl; have hcz10_2 : w9.cell? ⟨gb50006, 2, none⟩ = some (.int .i64 0) := (blk_cell BK50006.out 2).trans rfl; have hcz10_3 : w9.cell? ⟨gb50006, 3, none⟩ = some (.string (⟨#[]⟩ : ByteArray)) := (blk_cell BK50006.out 3).trans rfl; have hcz10_4 : w9.cell? ⟨gb50006, 4, none⟩ = some (.int .i64 0) := (blk_cell BK50006.out 4).trans rfl; have hfz10_0 := blk_frozen BK50006.out 0; have hfz10_1 := blk_frozen BK50006.out 1; have hfz10_2 := blk_frozen BK50006.out 2; have hfz10_3 := blk_frozen BK50006.out 3; have hfz10_4 := blk_frozen BK50006.out 4) | ((with_reducible refine gate_callee (f := 21) rfl ?_); refine goesL_ (some 15) rfl rfl Tryd.func21 (by kernel_rfl) rfl #[.string a0, .int .i64 a1] rfl (by (try simp only [List.map_toArray, List.map_cons, List.map_nil]); first | done | rfl | (simp only [List.length_drop, List.length_take]; rfl)) ?_; (with_reducible refine (impl_ReadRecord.calls a0 a1 t50007 t50008 t50009 t50010 t50011 _ A5.out).mono ?_); rintro e w11 ⟨rfl, hb⟩; refine ⟨_, rfl, ?_⟩; have n0_ := Aside0.mk (blk_below (g := gb50006) (o := .cells #[.int .i64 t50001, .string t50002, .int .i64 t50003, .string t50004, .int .i64 t50005] 43 (0, 0)) (by (with_reducible repeat (first | refine blk_drewN ?_ _ | refine blk_drew ?_ | refine blk_alloc ?_ _)); refine blk_put (cs := #[.int .i64 t50001, .string t50002, .int .i64 t50003, .string t50004, .int .i64 0]) ?_ 4 _ rfl; (with_reducible repeat (first | refine blk_drewN ?_ _ | refine blk_drew ?_ | refine blk_alloc ?_ _)); refine blk_put (cs := #[.int .i64 t50001, .string t50002, .int .i64 t50003, .string (⟨#[]⟩ : ByteArray), .int .i64 0]) ?_ 3 _ rfl; (with_reducible repeat (first | refine blk_drewN ?_ _ | refine blk_drew ?_ | refine blk_alloc ?_ _)); refine blk_put (cs := #[.int .i64 t50001, .string t50002, .int .i64 0, .string (⟨#[]⟩ : ByteArray), .int .i64 0]) ?_ 2 _ rfl; (with_reducible repeat (first | refine blk_drewN ?_ _ | refine blk_drew ?_ | refine blk_alloc ?_ _)); refine blk_put (cs := #[.int .i64 t50001, .string (⟨#[]⟩ : ByteArray), .int .i64 0, .string (⟨#[]⟩ : ByteArray), .int .i64 0]) ?_ 1 _ rfl; (with_reducible repeat (first | refine blk_drewN ?_ _ | refine blk_drew ?_ | refine blk_alloc ?_ _)); refine blk_put (cs := #[.int .i64 0, .string (⟨#[]⟩ : ByteArray), .int .i64 0, .string (⟨#[]⟩ : ByteArray), .int .i64 0]) ?_ 0 _ rfl; (with_reducible repeat (first | refine blk_drewN ?_ _ | refine blk_drew ?_ | refine blk_alloc ?_ _)); exact BK50006.out) hb); have n1_ := Aside0.mk (below_step (by repeat (first | (with_reducible first | exact HB.out | apply below_alloc | apply pw_below_drewN | apply below_drew1 | refine below_set ?_ GE50006.out) | exact HB.out)) hb); clear BK50006; clear HB; have BK50006 := n0_; have HB := n1_; clear n0_ n1_; (try clear hb); (try clear hb2); (try clear hk); (try clear hi)) | ((with_reducible refine gate_dst (N := 6) rfl ?_); refine box_event ?hg (N := 6) ?hd (cs := #[.int .i64 0, .string (⟨#[]⟩ : ByteArray), .int .i64 0, .string (⟨#[]⟩ : ByteArray), .int .i64 0]) (t := 43) ?hr ?_; (case hd => rfl); (case hg => rfl); (case hr => first | (go_simp; done) | (go_simp; rfl)); intro gb50012 hg w12 hbox hb; have n0_ := Aside0.mk (blk_below (g := gb50006) (o := .cells #[.int .i64 t50001, .string t50002, .int .i64 t50003, .string t50004, .int .i64 t50005] 43 (0, 0)) (by (with_reducible repeat (first | refine blk_drewN ?_ _ | refine blk_drew ?_ | refine blk_alloc ?_ _)); exact BK50006.out) hb); have n1_ := Aside0.mk (below_step (by repeat (first | (with_reducible first | exact HB.out | apply below_alloc | apply pw_below_drewN | apply below_drew1 | refine below_set ?_ GE50006.out) | exact HB.out)) hb); have n2_ := Aside0.mk (hbox); have n3_ := Aside0.mk ((by rw [hg]; exact (below_size (by repeat (first | (with_reducible first | exact HB.out | apply below_alloc | apply pw_below_drewN | apply below_drew1 | refine below_set ?_ GE50006.out) | exact HB.out))) : w.heap.size ≤ gb50012)); have n4_ := Aside0.mk ((by rw [hg]; exact (below_size (by repeat (first | (with_reducible first | exact HB.out | apply below_alloc | apply pw_below_drewN | apply below_drew1 | refine below_set ?_ GE50006.out) | exact HB.out))) : w.heap.size ≤ gb50012)); have n5_ := Aside0.mk ((by rw [hg]; exact Nat.ne_of_lt (blk_lt (g := gb50006) (o := .cells #[.int .i64 t50001, .string t50002, .int .i64 t50003, .string t50004, .int .i64 t50005] 43 (0, 0)) (by (with_reducible repeat (first | refine blk_drewN ?_ _ | refine blk_drew ?_ | refine blk_alloc ?_ _)); exact BK50006.out)) : gb50006 ≠ gb50012)); have n6_ := Aside0.mk ((by rw [hg]; exact Nat.ne_of_gt (blk_lt (g := gb50006) (o := .cells #[.int .i64 t50001, .string t50002, .int .i64 t50003, .string t50004, .int .i64 t50005] 43 (0, 0)) (by (with_reducible repeat (first | refine blk_drewN ?_ _ | refine blk_drew ?_ | refine blk_alloc ?_ _)); exact BK50006.out)) : gb50012 ≠ gb50006)); clear BK50006; clear HB; have BK50006 := n0_; have HB := n1_; have BK50012 := n2_; have GW50012 := n3_; have GE50012 := n4_; have NB50006_50012 := n5_; have NB50012_50006 := n6_; clear n0_ n1_ n2_ n3_ n4_ n5_ n6_; clear hb hbox hg; have hnb13 := NB50012_50006.out; have hnc13 := NB50006_50012.out; have hcz14_0 : w12.cell? ⟨gb50012, 0, none⟩ = some (.int .i64 0) := (blk_cell BK50012.out 0).trans rfl; have hcz14_1 : w12.cell? ⟨gb50012, 1, none⟩ = some (.string (⟨#[]⟩ : ByteArray)) := (blk_cell BK50012.out 1).trans rfl; have hcz14_2 : w12.cell? ⟨gb50012, 2, none⟩ = some (.int .i64 0) := (blk_cell BK50012.out 2).trans rfl; have hcz14_3 : w12.cell? ⟨gb50012, 3, none⟩ = some (.string (⟨#[]⟩ : ByteArray)) := (blk_cell BK50012.out 3).trans rfl; have hcz14_4 : w12.cell? ⟨gb50012, 4, none⟩ = some (.int .i64 0) := (blk_cell BK50012.out 4).trans rfl; have hfz14_0 := blk_frozen BK50012.out 0; have hfz14_1 := blk_frozen BK50012.out 1; have hfz14_2 := blk_frozen BK50012.out 2; have hfz14_3 := blk_frozen BK50012.out 3; have hfz14_4 := blk_frozen BK50012.out 4; have hcz15_0 : w12.cell? ⟨gb50006, 0, none⟩ = some (.int .i64 t50001) := (blk_cell BK50006.out 0).trans rfl; have hcz15_1 : w12.cell? ⟨gb50006, 1, none⟩ = some (.string t50002) := (blk_cell BK50006.out 1).trans rfl; have hcz15_2 : w12.cell? ⟨gb50006, 2, none⟩ = some (.int .i64 t50003) := (blk_cell BK50006.out 2).trans rfl; have hcz15_3 : w12.cell? ⟨gb50006, 3, none⟩ = some (.string t50004) := (blk_cell BK50006.out 3).trans rfl; have hcz15_4 : w12.cell? ⟨gb50006, 4, none⟩ = some (.int .i64 t50005) := (blk_cell BK50006.out 4).trans rfl; have hfz15_0 := blk_frozen BK50006.out 0; have hfz15_1 := blk_frozen BK50006.out 1; have hfz15_2 := blk_frozen BK50006.out 2; have hfz15_3 := blk_frozen BK50006.out 3; have hfz15_4 := blk_frozen BK50006.out 4) | ((with_reducible refine gate_callee (f := 22) rfl ?_); refine goesL_ (some 18) rfl rfl Tryd.func22 (by kernel_rfl) rfl #[.agg #[.int .i64 t50007, .string t50008, .int .i64 t50009, .string t50010, .int .i64 t50011], .agg #[.int .i64 t50001, .string t50002, .int .i64 t50003, .string t50004, .int .i64 t50005]] rfl (by (try simp only [List.map_toArray, List.map_cons, List.map_nil]); first | done | rfl | (simp only [List.length_drop, List.length_take]; rfl)) ?_; (with_reducible refine (laws_eqRecord.calls t50007 t50008 t50009 t50010 t50011 t50001 t50002 t50003 t50004 t50005 true _ A6.out).mono ?_); rintro e w16 ⟨rfl, hb⟩; refine ⟨_, rfl, ?_⟩; have n0_ := Aside0.mk (blk_below (g := gb50006) (o := .cells #[.int .i64 t50001, .string t50002, .int .i64 t50003, .string t50004, .int .i64 t50005] 43 (0, 0)) (by (with_reducible repeat (first | refine blk_drewN ?_ _ | refine blk_drew ?_ | refine blk_alloc ?_ _)); refine blk_far ?_ NB50006_50012.out _; (with_reducible repeat (first | refine blk_drewN ?_ _ | refine blk_drew ?_ | refine blk_alloc ?_ _)); refine blk_far ?_ NB50006_50012.out _; (with_reducible repeat (first | refine blk_drewN ?_ _ | refine blk_drew ?_ | refine blk_alloc ?_ _)); refine blk_far ?_ NB50006_50012.out _; (with_reducible repeat (first | refine blk_drewN ?_ _ | refine blk_drew ?_ | refine blk_alloc ?_ _)); refine blk_far ?_ NB50006_50012.out _; (with_reducible repeat (first | refine blk_drewN ?_ _ | refine blk_drew ?_ | refine blk_alloc ?_ _)); refine blk_far ?_ NB50006_50012.out _; (with_reducible repeat (first | refine blk_drewN ?_ _ | refine blk_drew ?_ | refine blk_alloc ?_ _)); exact BK50006.out) hb); have n1_ := Aside0.mk (blk_below (g := gb50012) (o := .cells #[.int .i64 t50007, .string t50008, .int .i64 t50009, .string t50010, .int .i64 t50011] 43 (0, 0)) (by (with_reducible repeat (first | refine blk_drewN ?_ _ | refine blk_drew ?_ | refine blk_alloc ?_ _)); refine blk_put (cs := #[.int .i64 t50007, .string t50008, .int .i64 t50009, .string t50010, .int .i64 0]) ?_ 4 _ rfl; (with_reducible repeat (first | refine blk_drewN ?_ _ | refine blk_drew ?_ | refine blk_alloc ?_ _)); refine blk_put (cs := #[.int .i64 t50007, .string t50008, .int .i64 t50009, .string (⟨#[]⟩ : ByteArray), .int .i64 0]) ?_ 3 _ rfl; (with_reducible repeat (first | refine blk_drewN ?_ _ | refine blk_drew ?_ | refine blk_alloc ?_ _)); refine blk_put (cs := #[.int .i64 t50007, .string t50008, .int .i64 0, .string (⟨#[]⟩ : ByteArray), .int .i64 0]) ?_ 2 _ rfl; (with_reducible repeat (first | refine blk_drewN ?_ _ | refine blk_drew ?_ | refine blk_alloc ?_ _)); refine blk_put (cs := #[.int .i64 t50007, .string (⟨#[]⟩ : ByteArray), .int .i64 0, .string (⟨#[]⟩ : ByteArray), .int .i64 0]) ?_ 1 _ rfl; (with_reducible repeat (first | refine blk_drewN ?_ _ | refine blk_drew ?_ | refine blk_alloc ?_ _)); refine blk_put (cs := #[.int .i64 0, .string (⟨#[]⟩ : ByteArray), .int .i64 0, .string (⟨#[]⟩ : ByteArray), .int .i64 0]) ?_ 0 _ rfl; (with_reducible repeat (first | refine blk_drewN ?_ _ | refine blk_drew ?_ | refine blk_alloc ?_ _)); exact BK50012.out) hb); have n2_ := Aside0.mk (below_step (by repeat (first | (with_reducible first | exact HB.out | apply below_alloc | apply pw_below_drewN | apply below_drew1 | refine below_set ?_ GE50006.out | refine below_set ?_ GE50012.out) | exact HB.out)) hb); clear BK50006; clear BK50012; clear HB; have BK50006 := n0_; have BK50012 := n1_; have HB := n2_; clear n0_ n1_ n2_; (try clear hb); (try clear hb2); (try clear hk); (try clear hi)))
      go_ret
      exact ⟨by first | rfl | (simp [errW_none, errW_some] <;> rfl) | (simp [*, errW_none, errW_some] <;> rfl), by repeat (first | (with_reducible first | exact HB.out | apply below_alloc | apply pw_below_drewN | apply below_drew1 | refine below_set ?_ GE50006.out | refine below_set ?_ GE50012.out) | exact HB.out)⟩
    · replace c7 := Bool.eq_false_iff.mpr c7
      subst c7
      have H1 : (some false) = some r := by rw [if_neg (show ¬ (false = true) by decide)] at H; exact H
      clear H
      have H := H1
      clear H1
      obtain rfl := Option.some.inj H
      go_enter Tryd.func5, Tryd.ntmps5
      go_wp2_with (first | ((with_reducible refine gate_callee (f := 20) rfl ?_); refine goesL_ (some 12) rfl rfl Tryd.func20 (by kernel_rfl) rfl #[.string a0, .int .i64 a1] rfl (by (try simp only [List.map_toArray, List.map_cons, List.map_nil]); first | done | rfl | (simp only [List.length_drop, List.length_take]; rfl)) ?_; (with_reducible refine (spec_ReadRecord.calls k a0 a1 t50001 t50002 t50003 t50004 t50005 _ A4.out).mono ?_); rintro e w17 ⟨rfl, hb⟩; refine ⟨_, rfl, ?_⟩; have n0_ := Aside0.mk (below_step (by repeat (first | (with_reducible first | exact HB.out | apply below_alloc | apply pw_below_drewN | apply below_drew1) | exact HB.out)) hb); clear HB; have HB := n0_; clear n0_; (try clear hb); (try clear hb2); (try clear hk); (try clear hi)) | ((with_reducible refine gate_dst (N := 5) rfl ?_); refine box_event ?hg (N := 5) ?hd (cs := #[.int .i64 0, .string (⟨#[]⟩ : ByteArray), .int .i64 0, .string (⟨#[]⟩ : ByteArray), .int .i64 0]) (t := 43) ?hr ?_; (case hd => rfl); (case hg => rfl); (case hr => first | (go_simp; done) | (go_simp; rfl)); intro gb50006 hg w18 hbox hb; have n0_ := Aside0.mk (below_step (by repeat (first | (with_reducible first | exact HB.out | apply below_alloc | apply pw_below_drewN | apply below_drew1) | exact HB.out)) hb); have n1_ := Aside0.mk (hbox); have n2_ := Aside0.mk ((by rw [hg]; exact (below_size (by repeat (first | (with_reducible first | exact HB.out | apply below_alloc | apply pw_below_drewN | apply below_drew1) | exact HB.out))) : w.heap.size ≤ gb50006)); have n3_ := Aside0.mk ((by rw [hg]; exact (below_size (by repeat (first | (with_reducible first | exact HB.out | apply below_alloc | apply pw_below_drewN | apply below_drew1) | exact HB.out))) : w.heap.size ≤ gb50006)); clear HB; have HB := n0_; have BK50006 := n1_; have GW50006 := n2_; have GE50006 := n3_; clear n0_ n1_ n2_ n3_; clear hb hbox hg; have hcz19_0 : w18.cell? ⟨gb50006, 0, none⟩ = some (.int .i64 0) := (blk_cell BK50006.out 0).trans rfl; have hcz19_1 : w18.cell? ⟨gb50006, 1, none⟩ = some (.string (⟨#[]⟩ : ByteArray)) := (blk_cell BK50006.out 1).trans rfl; have hcz19_2 : w18.cell? ⟨gb50006, 2, none⟩ = some (.int .i64 0) := (blk_cell BK50006.out 2).trans rfl; have hcz19_3 : w18.cell? ⟨gb50006, 3, none⟩ = some (.string (⟨#[]⟩ : ByteArray)) := (blk_cell BK50006.out 3).trans rfl; have hcz19_4 : w18.cell? ⟨gb50006, 4, none⟩ = some (.int .i64 0) := (blk_cell BK50006.out 4).trans rfl; have hfz19_0 := blk_frozen BK50006.out 0; have hfz19_1 := blk_frozen BK50006.out 1; have hfz19_2 := blk_frozen BK50006.out 2; have hfz19_3 := blk_frozen BK50006.out 3; have hfz19_4 := blk_frozen BK50006.out 4) | ((with_reducible refine gate_callee (f := 21) rfl ?_); refine goesL_ (some 15) rfl rfl Tryd.func21 (by kernel_rfl) rfl #[.string a0, .int .i64 a1] rfl (by (try simp only [List.map_toArray, List.map_cons, List.map_nil]); first | done | rfl | (simp only [List.length_drop, List.length_take]; rfl)) ?_; (with_reducible refine (impl_ReadRecord.calls a0 a1 t50007 t50008 t50009 t50010 t50011 _ A5.out).mono ?_); rintro e w20 ⟨rfl, hb⟩; refine ⟨_, rfl, ?_⟩; have n0_ := Aside0.mk (blk_below (g := gb50006) (o := .cells #[.int .i64 t50001, .string t50002, .int .i64 t50003, .string t50004, .int .i64 t50005] 43 (0, 0)) (by (with_reducible repeat (first | refine blk_drewN ?_ _ | refine blk_drew ?_ | refine blk_alloc ?_ _)); refine blk_put (cs := #[.int .i64 t50001, .string t50002, .int .i64 t50003, .string t50004, .int .i64 0]) ?_ 4 _ rfl; (with_reducible repeat (first | refine blk_drewN ?_ _ | refine blk_drew ?_ | refine blk_alloc ?_ _)); refine blk_put (cs := #[.int .i64 t50001, .string t50002, .int .i64 t50003, .string (⟨#[]⟩ : ByteArray), .int .i64 0]) ?_ 3 _ rfl; (with_reducible repeat (first | refine blk_drewN ?_ _ | refine blk_drew ?_ | refine blk_alloc ?_ _)); refine blk_put (cs := #[.int .i64 t50001, .string t50002, .int .i64 0, .string (⟨#[]⟩ : ByteArray), .int .i64 0]) ?_ 2 _ rfl; (with_reducible repeat (first | refine blk_drewN ?_ _ | refine blk_drew ?_ | refine blk_alloc ?_ _)); refine blk_put (cs := #[.int .i64 t50001, .string (⟨#[]⟩ : ByteArray), .int .i64 0, .string (⟨#[]⟩ : ByteArray), .int .i64 0]) ?_ 1 _ rfl; (with_reducible repeat (first | refine blk_drewN ?_ _ | refine blk_drew ?_ | refine blk_alloc ?_ _)); refine blk_put (cs := #[.int .i64 0, .string (⟨#[]⟩ : ByteArray), .int .i64 0, .string (⟨#[]⟩ : ByteArray), .int .i64 0]) ?_ 0 _ rfl; (with_reducible repeat (first | refine blk_drewN ?_ _ | refine blk_drew ?_ | refine blk_alloc ?_ _)); exact BK50006.out) hb); have n1_ := Aside0.mk (below_step (by repeat (first | (with_reducible first | exact HB.out | apply below_alloc | apply pw_below_drewN | apply below_drew1 | refine below_set ?_ GE50006.out) | exact HB.out)) hb); clear BK50006; clear HB; have BK50006 := n0_; have HB := n1_; clear n0_ n1_; (try clear hb); (try clear hb2); (try clear hk); (try clear hi)) | ((with_reducible refine gate_dst (N := 6) rfl ?_); refine box_event ?hg (N := 6) ?hd (cs := #[.int .i64 0, .string (⟨#[]⟩ : ByteArray), .int .i64 0, .string (⟨#[]⟩ : ByteArray), .int .i64 0]) (t := 43) ?hr ?_; (case hd => rfl); (case hg => rfl); (case hr => first | (go_simp; done) | (go_simp; rfl)); intro gb50012 hg w21 hbox hb; have n0_ := Aside0.mk (blk_below (g := gb50006) (o := .cells #[.int .i64 t50001, .string t50002, .int .i64 t50003, .string t50004, .int .i64 t50005] 43 (0, 0)) (by (with_reducible repeat (first | refine blk_drewN ?_ _ | refine blk_drew ?_ | refine blk_alloc ?_ _)); exact BK50006.out) hb); have n1_ := Aside0.mk (below_step (by repeat (first | (with_reducible first | exact HB.out | apply below_alloc | apply pw_below_drewN | apply below_drew1 | refine below_set ?_ GE50006.out) | exact HB.out)) hb); have n2_ := Aside0.mk (hbox); have n3_ := Aside0.mk ((by rw [hg]; exact (below_size (by repeat (first | (with_reducible first | exact HB.out | apply below_alloc | apply pw_below_drewN | apply below_drew1 | refine below_set ?_ GE50006.out) | exact HB.out))) : w.heap.size ≤ gb50012)); have n4_ := Aside0.mk ((by rw [hg]; exact (below_size (by repeat (first | (with_reducible first | exact HB.out | apply below_alloc | apply pw_below_drewN | apply below_drew1 | refine below_set ?_ GE50006.out) | exact HB.out))) : w.heap.size ≤ gb50012)); have n5_ := Aside0.mk ((by rw [hg]; exact Nat.ne_of_lt (blk_lt (g := gb50006) (o := .cells #[.int .i64 t50001, .string t50002, .int .i64 t50003, .string t50004, .int .i64 t50005] 43 (0, 0)) (by (with_reducible repeat (first | refine blk_drewN ?_ _ | refine blk_drew ?_ | refine blk_alloc ?_ _)); exact BK50006.out)) : gb50006 ≠ gb50012)); have n6_ := Aside0.mk ((by rw [hg]; exact Nat.ne_of_gt (blk_lt (g := gb50006) (o := .cells #[.int .i64 t50001, .string t50002, .int .i64 t50003, .string t50004, .int .i64 t50005] 43 (0, 0)) (by (with_reducible repeat (first | refine blk_drewN ?_ _ | refine blk_drew ?_ | refine blk_alloc ?_ _)); exact BK50006.out)) : gb50012 ≠ gb50006)); clear BK50006; clear HB; have BK50006 := n0_; have HB := n1_; have BK50012 := n2_; have GW50012 := n3_; have GE50012 := n4_; have NB50006_50012 := n5_; have NB50012_50006 := n6_; clear n0_ n1_ n2_ n3_ n4_ n5_ n6_; clear hb hbox hg; have hnb22 := NB50012_50006.out; have hnc22 := NB50006_50012.out; have hcz23_0 : w21.cell? ⟨gb50012, 0, none⟩ = some (.int .i64 0) := (blk_cell BK50012.out 0).trans rfl; have hcz23_1 : w21.cell? ⟨gb50012, 1, none⟩ = some (.string (⟨#[]⟩ : ByteArray)) := (blk_cell BK50012.out 1).trans rfl; have hcz23_2 : w21.cell? ⟨gb50012, 2, none⟩ = some (.int .i64 0) := (blk_cell BK50012.out 2).trans rfl; have hcz23_3 : w21.cell? ⟨gb50012, 3, none⟩ = some (.string (⟨#[]⟩ : ByteArray)) := (blk_cell BK50012.out 3).trans rfl; have hcz23_4 : w21.cell? ⟨gb50012, 4, none⟩ = some (.int .i64 0) := (blk_cell BK50012.out 4).trans rfl; have hfz23_0 := blk_frozen BK50012.out 0; have hfz23_1 := blk_frozen BK50012.out 1; have hfz23_2 := blk_frozen BK50012.out 2; have hfz23_3 := blk_frozen BK50012.out 3; have hfz23_4 := blk_frozen BK50012.out 4; have hcz24_0 : w21.cell? ⟨gb50006, 0, none⟩ = some (.int .i64 t50001) := (blk_cell BK50006.out 0).trans rfl; have hcz24_1 : w21.cell? ⟨gb50006, 1, none⟩ = some (.string t50002) := (blk_cell BK50006.out 1).trans rfl; have hcz24_2 : w21.cell? ⟨gb50006, 2, none⟩ = some (.int .i64 t50003) := (blk_cell BK50006.out 2).trans rfl; have hcz24_3 : w21.cell? ⟨gb50006, 3, none⟩ = some (.string t50004) := (blk_cell BK50006.out 3).trans rfl; have hcz24_4 : w21.cell? ⟨gb50006, 4, none⟩ = some (.int .i64 t50005) := (blk_cell BK50006.out 4).trans rfl; have hfz24_0 := blk_frozen BK50006.out 0; have hfz24_1 := blk_frozen BK50006.out 1; have hfz24_2 := blk_frozen BK50006.out 2; have hfz24_3 := blk_frozen BK50006.out 3; have hfz24_4 := blk_frozen BK50006.out 4) | ((with_reducible refine gate_callee (f := 22) rfl ?_); refine goesL_ (some 18) rfl rfl Tryd.func22 (by kernel_rfl) rfl #[.agg #[.int .i64 t50007, .string t50008, .int .i64 t50009, .string t50010, .int .i64 t50011], .agg #[.int .i64 t50001, .string t50002, .int .i64 t50003, .string t50004, .int .i64 t50005]] rfl (by (try simp only [List.map_toArray, List.map_cons, List.map_nil]); first | done | rfl | (simp only [List.length_drop, List.length_take]; rfl)) ?_; (with_reducible refine (laws_eqRecord.calls t50007 t50008 t50009 t50010 t50011 t50001 t50002 t50003 t50004 t50005 false _ A6.out).mono ?_); rintro e w25 ⟨rfl, hb⟩; refine ⟨_, rfl, ?_⟩; have n0_ := Aside0.mk (blk_below (g := gb50006) (o := .cells #[.int .i64 t50001, .string t50002, .int .i64 t50003, .string t50004, .int .i64 t50005] 43 (0, 0)) (by (with_reducible repeat (first | refine blk_drewN ?_ _ | refine blk_drew ?_ | refine blk_alloc ?_ _)); refine blk_far ?_ NB50006_50012.out _; (with_reducible repeat (first | refine blk_drewN ?_ _ | refine blk_drew ?_ | refine blk_alloc ?_ _)); refine blk_far ?_ NB50006_50012.out _; (with_reducible repeat (first | refine blk_drewN ?_ _ | refine blk_drew ?_ | refine blk_alloc ?_ _)); refine blk_far ?_ NB50006_50012.out _; (with_reducible repeat (first | refine blk_drewN ?_ _ | refine blk_drew ?_ | refine blk_alloc ?_ _)); refine blk_far ?_ NB50006_50012.out _; (with_reducible repeat (first | refine blk_drewN ?_ _ | refine blk_drew ?_ | refine blk_alloc ?_ _)); refine blk_far ?_ NB50006_50012.out _; (with_reducible repeat (first | refine blk_drewN ?_ _ | refine blk_drew ?_ | refine blk_alloc ?_ _)); exact BK50006.out) hb); have n1_ := Aside0.mk (blk_below (g := gb50012) (o := .cells #[.int .i64 t50007, .string t50008, .int .i64 t50009, .string t50010, .int .i64 t50011] 43 (0, 0)) (by (with_reducible repeat (first | refine blk_drewN ?_ _ | refine blk_drew ?_ | refine blk_alloc ?_ _)); refine blk_put (cs := #[.int .i64 t50007, .string t50008, .int .i64 t50009, .string t50010, .int .i64 0]) ?_ 4 _ rfl; (with_reducible repeat (first | refine blk_drewN ?_ _ | refine blk_drew ?_ | refine blk_alloc ?_ _)); refine blk_put (cs := #[.int .i64 t50007, .string t50008, .int .i64 t50009, .string (⟨#[]⟩ : ByteArray), .int .i64 0]) ?_ 3 _ rfl; (with_reducible repeat (first | refine blk_drewN ?_ _ | refine blk_drew ?_ | refine blk_alloc ?_ _)); refine blk_put (cs := #[.int .i64 t50007, .string t50008, .int .i64 0, .string (⟨#[]⟩ : ByteArray), .int .i64 0]) ?_ 2 _ rfl; (with_reducible repeat (first | refine blk_drewN ?_ _ | refine blk_drew ?_ | refine blk_alloc ?_ _)); refine blk_put (cs := #[.int .i64 t50007, .string (⟨#[]⟩ : ByteArray), .int .i64 0, .string (⟨#[]⟩ : ByteArray), .int .i64 0]) ?_ 1 _ rfl; (with_reducible repeat (first | refine blk_drewN ?_ _ | refine blk_drew ?_ | refine blk_alloc ?_ _)); refine blk_put (cs := #[.int .i64 0, .string (⟨#[]⟩ : ByteArray), .int .i64 0, .string (⟨#[]⟩ : ByteArray), .int .i64 0]) ?_ 0 _ rfl; (with_reducible repeat (first | refine blk_drewN ?_ _ | refine blk_drew ?_ | refine blk_alloc ?_ _)); exact BK50012.out) hb); have n2_ := Aside0.mk (below_step (by repeat (first | (with_reducible first | exact HB.out | apply below_alloc | apply pw_below_drewN | apply below_drew1 | refine below_set ?_ GE50006.out | refine below_set ?_ GE50012.out) | exact HB.out)) hb); clear BK50006; clear BK50012; clear HB; have BK50006 := n0_; have BK50012 := n1_; have HB := n2_; clear n0_ n1_ n2_; (try clear hb); (try clear hb2); (try clear hk); (try clear hi)))
      go_ret
      exact ⟨by first | rfl | (simp [errW_none, errW_some] <;> rfl) | (simp [*, errW_none, errW_some] <;> rfl), by repeat (first | (with_reducible first | exact HB.out | apply below_alloc | apply pw_below_drewN | apply below_drew1 | refine below_set ?_ GE50006.out | refine below_set ?_ GE50012.out) | exact HB.out)⟩


end Go.Proofs.YtmfejehhfmaodabDoor.Z

end

/- Texts cut into sectors with marks. -/
section
namespace Go.Proofs.YtmfejehhfmaodabDoor
open Go.RowKit
set_option linter.unusedVariables false
set_option linter.unusedSimpArgs false
def chunk (l : List UInt8) (i : Nat) : List UInt8 := (l.drop (63 * i)).take 63
def secOne (l a b : List UInt8) (i : Nat) : List UInt8 := chunk l i ++ List.replicate (63 - (chunk l i).length) 0 ++ (if i = 0 then a else b)
/-- The first m sectors of l, with the marks a and b. -/
def secs (l a b : List UInt8) : Nat → List UInt8
  | 0 => []
  | m + 1 => secs l a b m ++ secOne l a b m
theorem chunk_length (l : List UInt8) (i : Nat) : (chunk l i).length = min 63 (l.length - 63 * i) := by simp [chunk]
theorem chunk_le (l : List UInt8) (i : Nat) : (chunk l i).length ≤ 63 := by rw [chunk_length]; omega
theorem secOne_length (l a b : List UInt8) (i : Nat) (ha : a.length ≤ 1) (hb : b.length ≤ 1) : (secOne l a b i).length ≤ 64 := by
  unfold secOne
  have h := chunk_le l i
  rw [List.length_append, List.length_append, List.length_replicate]
  split <;> omega
theorem secs_length (l a b : List UInt8) (ha : a.length ≤ 1) (hb : b.length ≤ 1) : ∀ m, (secs l a b m).length ≤ 64 * m
  | 0 => by simp [secs]
  | m + 1 => by
    have h1 := secs_length l a b ha hb m
    have h2 := secOne_length l a b m ha hb
    rw [secs, List.length_append]; omega
def nSec (n : Nat) : Nat := (n + 62) / 63
theorem ext_chunk (s : ByteArray) (m en : Nat) (h : en = min (63 * m + 63) s.size) : (s.extract (63 * m) en).data.toList = chunk s.data.toList m := by
  have hl : s.data.toList.length = s.size := rfl
  unfold chunk
  simp only [ByteArray.data_extract, Array.toList_extract, List.extract]
  subst h
  rcases Nat.le_total (63 * m + 63) s.size with h | h
  · rw [Nat.min_eq_left h, show 63 * m + 63 - 63 * m = 63 by omega]
  · rw [Nat.min_eq_right h, List.take_of_length_le (by rw [List.length_drop]; omega), List.take_of_length_le (by rw [List.length_drop]; omega)]
end Go.Proofs.YtmfejehhfmaodabDoor

end

/- What impl.NodeRecord and impl.CommitRecord return. -/
section
namespace Go.Proofs.YtmfejehhfmaodabDoor.Z
open Go.RowKit Go.Proofs.YtmfejehhfmaodabDoor
set_option linter.unusedVariables false
set_option linter.unusedSimpArgs false
def nodeRecL (e : ByteArray) : List UInt8 := numL e.size 4 true 4 ++ e.data.toList
def nodeRec (e : ByteArray) : ByteArray := ⟨(secs (nodeRecL e) [83] [77] (nSec (nodeRecL e).length)).toArray⟩
def commitRecL (n : Nat) (r : ByteArray) : List UInt8 := numL n 4 true 4 ++ numL r.size 1 true 1 ++ r.data.toList
def commitRec (n : Nat) (r : ByteArray) : ByteArray := ⟨(secs (commitRecL n r) [67] [67] (nSec (commitRecL n r).length)).toArray⟩
def recOk (e : ByteArray) : Bool := decide (1 ≤ e.size ∧ e.size ≤ 4000)
def nodeRecV (a0 : ByteArray) : ByteArray := if recOk a0 then nodeRec a0 else ⟨#[]⟩
theorem nodeRecV_yes {a0 : ByteArray} (h : 1 ≤ a0.size ∧ a0.size ≤ 4000) : nodeRecV a0 = nodeRec a0 := by unfold nodeRecV recOk; rw [decide_eq_true h]; rfl
theorem nodeRecV_no {a0 : ByteArray} (h : ¬ (1 ≤ a0.size ∧ a0.size ≤ 4000)) : nodeRecV a0 = ⟨#[]⟩ := by unfold nodeRecV recOk; rw [decide_eq_false h]; rfl
def impl_NodeRecord.f (a0 : ByteArray) : Option ByteArray := some (nodeRecV a0)
theorem arr_size (l : List UInt8) : (⟨l.toArray⟩ : ByteArray).size = l.length := by simp [ByteArray.size]
def comOk (n : Int) (r : ByteArray) : Bool := decide (1 ≤ n ∧ n ≤ 1000000 ∧ r.size ≤ 32)
def commitRecV (a0 : Int) (a1 : ByteArray) : ByteArray := if comOk a0 a1 then commitRec a0.toNat a1 else ⟨#[]⟩
theorem commitRecV_yes {a0 : Int} {a1 : ByteArray} (h : 1 ≤ a0 ∧ a0 ≤ 1000000 ∧ a1.size ≤ 32) : commitRecV a0 a1 = commitRec a0.toNat a1 := by unfold commitRecV comOk; rw [decide_eq_true h]; rfl
theorem commitRecV_no {a0 : Int} {a1 : ByteArray} (h : ¬ (1 ≤ a0 ∧ a0 ≤ 1000000 ∧ a1.size ≤ 32)) : commitRecV a0 a1 = ⟨#[]⟩ := by unfold commitRecV comOk; rw [decide_eq_false h]; rfl
def impl_CommitRecord.f (a0 : Int) (a1 : ByteArray) : Option ByteArray := some (commitRecV a0 a1)
end Go.Proofs.YtmfejehhfmaodabDoor.Z

end

/- The records of the specification are those of the program. -/
section
namespace Go.Proofs.YtmfejehhfmaodabDoor.Z
open Go.RowKit Go.Proofs.YtmfejehhfmaodabDoor Go.Proofs.YtmfejehhfmaodabDoorW.PrintWords Go.Proofs.YtmfejehhfmaodabDoorW.PrintLast
set_option linter.unusedVariables false
set_option linter.unusedSimpArgs false
theorem w64 {x : Int} (h0 : -9223372036854775808 ≤ x) (h1 : x ≤ 9223372036854775807) : wrap64 x = x := by unfold wrap64; omega
theorem ba_ext {a b : ByteArray} (h : a.data.toList = b.data.toList) : a = b := ByteArray.ext (Array.toList_inj.mp h)
theorem ba_app (a b : ByteArray) : (a ++ b).data.toList = a.data.toList ++ b.data.toList := by simp [ByteArray.data_append]
theorem ba_len (a : ByteArray) : a.data.toList.length = a.size := rfl
theorem ba_mk (l : List UInt8) : (⟨l.toArray⟩ : ByteArray).data.toList = l := by simp
theorem l2Marked_loop (s A B : ByteArray) (hs : s.size ≤ 1048576) (hA : A.size ≤ 1) (hB : B.size ≤ 1) : ∀ (d m k : Nat) (out : ByteArray), nSec s.size = m + d → d < k →
    out.data.toList = secs s.data.toList A.data.toList B.data.toList m →
    ∃ r, spec_l2Marked.l0 k s A B out ((63 * m : Nat) : Int) = some r ∧ r.data.toList = secs s.data.toList A.data.toList B.data.toList (nSec s.size) := by
  intro d
  induction d with
  | zero =>
    intro m k out hn hk ho
    obtain ⟨k, rfl⟩ : ∃ j, k = j + 1 := ⟨k - 1, by omega⟩
    refine ⟨out, ?_, by rw [hn]; exact ho⟩
    simp only [spec_l2Marked.l0]
    rw [if_neg (by unfold nSec at hn; omega)]
  | succ d ih =>
    intro m k out hn hk ho
    obtain ⟨k, rfl⟩ : ∃ j, k = j + 1 := ⟨k - 1, by omega⟩
    have hlt : 63 * m < s.size := by unfold nSec at hn; omega
    have hol : out.size ≤ 64 * m := by
      have := secs_length s.data.toList A.data.toList B.data.toList hA hB m
      rw [← ho] at this; exact this
    -- one round, whatever the part is
    have step : ∀ (part : ByteArray), part.data.toList = chunk s.data.toList m ++ List.replicate (63 - (chunk s.data.toList m).length) 0 → ∀ (M : ByteArray), M.data.toList = (if m = 0 then A.data.toList else B.data.toList) →
        ∃ r, spec_l2Marked.l0 k s A B (out ++ part ++ M) ((63 * (m + 1) : Nat) : Int) = some r ∧ r.data.toList = secs s.data.toList A.data.toList B.data.toList (nSec s.size) := by
      intro part hp M hM
      refine ih (m + 1) k _ (by omega) (by omega) ?_
      rw [ba_app, ba_app, ho, hp, hM, secs, secOne]; simp only [List.append_assoc]
    have hcl : (chunk s.data.toList m).length = min 63 (s.size - 63 * m) := chunk_length _ _
    have hw : wrap64 (((63 * m : Nat) : Int) + 63) = ((63 * (m + 1) : Nat) : Int) := by rw [w64 (by omega) (by omega)]; omega
    have eM : ((63 * m : Nat) : Int) = 0 ↔ m = 0 := by omega
    simp only [spec_l2Marked.l0]
    rw [if_pos (by omega), hw]
    have t1 : (((63 * m : Nat) : Int)).toNat = 63 * m := by omega
    have t2 : (((63 * (m + 1) : Nat) : Int)).toNat = 63 * (m + 1) := by omega
    rw [t1, t2]
    by_cases hf : 63 * (m + 1) ≤ s.size
    · rw [if_pos (by omega), if_pos (by omega), if_pos (by omega)]
      have hpart : (s.extract (63 * m) (63 * (m + 1))).data.toList = chunk s.data.toList m ++ List.replicate (63 - (chunk s.data.toList m).length) 0 := by
        rw [hcl, show min 63 (s.size - 63 * m) = 63 by omega, ext_chunk s m _ (by omega)]; simp
      have hps : (s.extract (63 * m) (63 * (m + 1))).size = 63 := by rw [ByteArray.size_extract]; omega
      by_cases h0 : m = 0
      · rw [if_pos (eM.2 h0), if_pos (by rw [hps]; omega), if_pos (by rw [ByteArray.size_append, hps]; omega)]
        exact step _ hpart A (by rw [if_pos h0])
      · rw [if_neg (fun h => h0 (eM.1 h)), if_pos (by rw [hps]; omega), if_pos (by rw [ByteArray.size_append, hps]; omega)]
        exact step _ hpart B (by rw [if_neg h0])
    · rw [if_neg (by omega), if_pos (by omega), if_pos (by omega)]
      have hg : wrap64 (((63 * (m + 1) : Nat) : Int) - (s.size : Int)) = ((63 * (m + 1) - s.size : Nat) : Int) := by rw [w64 (by omega) (by omega)]; omega
      have hlong : spec_l1Long.f (wrap64 (((63 * (m + 1) : Nat) : Int) - (s.size : Int))) (⟨#[0]⟩ : ByteArray) = some (rep (63 * (m + 1) - s.size) 0) := by
        rw [hg]; unfold spec_l1Long.f; rw [if_pos ⟨by omega, by omega, rfl⟩, Int.toNat_natCast]; rfl
      rw [hlong]
      simp only [Option.bind_some]
      have hps : (s.extract (63 * m) s.size).size = s.size - 63 * m := by rw [ByteArray.size_extract]; omega
      have hpart : (s.extract (63 * m) s.size ++ rep (63 * (m + 1) - s.size) 0).data.toList = chunk s.data.toList m ++ List.replicate (63 - (chunk s.data.toList m).length) 0 := by
        have hz : 63 - min 63 (s.size - 63 * m) = 63 * (m + 1) - s.size := by omega
        rw [ba_app, ext_chunk s m _ (by omega), hcl, hz]; unfold rep; rw [ba_mk]
      have hpz : (s.extract (63 * m) s.size ++ rep (63 * (m + 1) - s.size) 0).size = 63 := by rw [ByteArray.size_append, hps, rep_size]; omega
      rw [if_pos (by rw [hps, rep_size]; omega)]
      by_cases h0 : m = 0
      · rw [if_pos (eM.2 h0), if_pos (by rw [hpz]; omega), if_pos (by rw [ByteArray.size_append, hpz]; omega)]
        exact step _ hpart A (by rw [if_pos h0])
      · rw [if_neg (fun h => h0 (eM.1 h)), if_pos (by rw [hpz]; omega), if_pos (by rw [ByteArray.size_append, hpz]; omega)]
        exact step _ hpart B (by rw [if_neg h0])
theorem l2Marked_f (s A B : ByteArray) (hs : s.size ≤ 1048576) (hA : A.size ≤ 1) (hB : B.size ≤ 1) (k : Nat) (hk : nSec s.size < k) :
    spec_l2Marked.f k s A B = some ⟨(secs s.data.toList A.data.toList B.data.toList (nSec s.size)).toArray⟩ := by
  obtain ⟨r, h1, h2⟩ := l2Marked_loop s A B hs hA hB (nSec s.size) 0 k ⟨#[]⟩ (by omega) hk rfl
  unfold spec_l2Marked.f
  refine h1.trans (congrArg some (ba_ext ?_))
  rw [h2, ba_mk]
theorem l2Byte_f (n : Nat) : spec_l2Byte.f (n : Int) = some ⟨#[UInt8.ofNat n]⟩ := by
  unfold spec_l2Byte.f
  have h : ((n : Int) % 256).toNat = n % 256 := by omega
  simp only [strOfNums, List.map_cons, List.map_nil, h]
  congr 4
  apply UInt8.toNat_inj.mp
  rw [UInt8.toNat_ofNat', UInt8.toNat_ofNat']; omega
theorem four_step (n q : Nat) (hn : n < 4294967296) (hq : 0 < q) (hq2 : q ≤ 16777216) : Int.tmod (wrap64 (Int.tdiv (n : Int) (q : Int))) 256 = (((n / q) % 256 : Nat) : Int) := by
  have h1 : Int.tdiv (n : Int) (q : Int) = ((n / q : Nat) : Int) := by rw [Int.tdiv_eq_ediv_of_nonneg (by omega)]; rfl
  have h2 : n / q ≤ n := Nat.div_le_self n q
  rw [h1]
  generalize n / q = c at *
  rw [w64 (by omega) (by omega), Int.tmod_eq_emod_of_nonneg (by omega)]; omega
theorem ofNat_mod (n : Nat) : UInt8.ofNat (n % 256) = UInt8.ofNat n := by
  apply UInt8.toNat_inj.mp
  rw [UInt8.toNat_ofNat', UInt8.toNat_ofNat']; omega
theorem l2Four_f (n : Nat) (hn : n < 4294967296) : spec_l2Four.f (n : Int) = some ⟨(numL n 4 true 4).toArray⟩ := by
  unfold spec_l2Four.f
  have e1 : Int.tmod (n : Int) 256 = ((n % 256 : Nat) : Int) := by rw [Int.tmod_eq_emod_of_nonneg (by omega)]; rfl
  have e2 := four_step n 256 hn (by omega) (by omega)
  have e3 := four_step n 65536 hn (by omega) (by omega)
  have e4 := four_step n 16777216 hn (by omega) (by omega)
  rw [e1, show (256 : Int) = ((256 : Nat) : Int) from rfl] at *
  rw [e2, show (65536 : Int) = ((65536 : Nat) : Int) from rfl, e3, show (16777216 : Int) = ((16777216 : Nat) : Int) from rfl, e4]
  simp only [l2Byte_f, Option.bind_some]
  rw [if_pos (by show 1 + 1 ≤ _; omega), if_pos (by show 2 + 1 ≤ _; omega), if_pos (by show 3 + 1 ≤ _; omega)]
  rw [ofNat_mod, ofNat_mod, ofNat_mod, ofNat_mod]
  refine congrArg some (ba_ext ?_)
  rw [ba_mk]
  simp [numL, numByte, List.range_succ]
theorem spec_NodeRecord_f (a0 : ByteArray) (k : Nat) (hk : 1000 < k) : spec_NodeRecord.f k a0 = some (nodeRecV a0) := by
  unfold spec_NodeRecord.f
  by_cases h0 : (a0.size : Int) < 1
  · rw [if_pos h0, nodeRecV_no (by omega)]
    obtain ⟨k, rfl⟩ : ∃ j, k = j + 1 := ⟨k - 1, by omega⟩
    simp only [spec_NodeRecord.j0]; rfl
  · rw [if_neg h0]
    obtain ⟨k, rfl⟩ : ∃ j, k = j + 1 := ⟨k - 1, by omega⟩
    by_cases h1 : (a0.size : Int) > 4000
    · rw [decide_eq_true h1, nodeRecV_no (by omega)]
      simp only [spec_NodeRecord.j0]; rfl
    · rw [decide_eq_false h1, nodeRecV_yes (by omega)]
      simp only [spec_NodeRecord.j0]
      rw [if_neg (by decide), l2Four_f _ (by omega)]
      simp only [Option.bind_some]
      have hz : (⟨(numL a0.size 4 true 4).toArray⟩ : ByteArray).size = 4 := by rw [arr_size, numL_length]
      have hs : ((⟨(numL a0.size 4 true 4).toArray⟩ : ByteArray) ++ a0).size = 4 + a0.size := by rw [ByteArray.size_append, hz]
      rw [if_pos (by rw [hz]; omega)]
      have hl : ((⟨(numL a0.size 4 true 4).toArray⟩ : ByteArray) ++ a0).data.toList = nodeRecL a0 := by rw [ba_app, ba_mk]; rfl
      rw [l2Marked_f _ _ _ (by omega) (by decide) (by decide) k (by rw [hs]; unfold nSec; omega), hl]
      simp only [Option.bind_some]
      unfold nodeRec
      rw [← hl, ba_len]
theorem secs_first (l a b c : List UInt8) : secs l a b 1 = secs l a c 1 := by simp [secs, secOne]
theorem spec_CommitRecord_f (a0 : Int) (a1 : ByteArray) (k : Nat) (hk : 1000 < k) : spec_CommitRecord.f k a0 a1 = some (commitRecV a0 a1) := by
  unfold spec_CommitRecord.f
  obtain ⟨k, rfl⟩ : ∃ j, k = j + 1 := ⟨k - 1, by omega⟩
  by_cases h0 : a0 < 1
  · rw [if_pos h0, commitRecV_no (by omega)]
    simp only [spec_CommitRecord.j0]; rfl
  · rw [if_neg h0]
    by_cases h2 : a0 > 1000000
    · rw [if_pos h2, commitRecV_no (by omega)]
      simp only [spec_CommitRecord.j0]; rfl
    · rw [if_neg h2]
      by_cases h1 : (a1.size : Int) > 32
      · rw [decide_eq_true h1, commitRecV_no (by omega)]
        simp only [spec_CommitRecord.j0]; rfl
      · rw [decide_eq_false h1, commitRecV_yes (by omega)]
        obtain ⟨n, rfl⟩ := Int.eq_ofNat_of_zero_le (show 0 ≤ a0 by omega)
        rw [Int.toNat_natCast]
        simp only [spec_CommitRecord.j0]
        rw [if_neg (by decide), l2Four_f _ (by omega), l2Byte_f]
        simp only [Option.bind_some]
        have hz : (⟨(numL n 4 true 4).toArray⟩ : ByteArray).size = 4 := by rw [arr_size, numL_length]
        have hy : (⟨#[UInt8.ofNat a1.size]⟩ : ByteArray).size = 1 := rfl
        have hs : ((⟨(numL n 4 true 4).toArray⟩ : ByteArray) ++ (⟨#[UInt8.ofNat a1.size]⟩ : ByteArray) ++ a1).size = 5 + a1.size := by rw [ByteArray.size_append, ByteArray.size_append, hz, hy]
        have hl : ((⟨(numL n 4 true 4).toArray⟩ : ByteArray) ++ (⟨#[UInt8.ofNat a1.size]⟩ : ByteArray) ++ a1).data.toList = commitRecL n a1 := by
          rw [ba_app, ba_app, ba_mk, commitRecL]
          congr 2
          simp [numL, numByte]
        have hn : nSec (5 + a1.size) = 1 := by unfold nSec; omega
        rw [if_pos (by rw [hz, hy]; omega), if_pos (by rw [ByteArray.size_append, hz, hy]; omega)]
        rw [l2Marked_f _ _ _ (by omega) (by decide) (by decide) k (by rw [hs]; unfold nSec; omega), hl, hs, hn]
        simp only [Option.bind_some]
        unfold commitRec
        rw [← hl, ba_len, hs, hn]
        refine congrArg some (ba_ext ?_)
        rw [ba_mk, ba_mk]
        exact secs_first _ _ _ _
end Go.Proofs.YtmfejehhfmaodabDoor.Z

end

/- Encodings of nodes: what the functions give. -/
section
namespace Go.Proofs.YtmfejehhfmaodabDoor
open Go.RowKit
set_option linter.unusedVariables false
set_option linter.unusedSimpArgs false
def isW (w : Int) : Bool := decide (1 ≤ w) && decide (w ≤ 32)
def hOk (h : ByteArray) (w : Int) : Bool := decide (h.size = 0) || decide ((h.size : Int) = w)
def nodeOk (k v l r : ByteArray) (w : Int) : Bool := isW w && decide (1 ≤ k.size) && decide (k.size ≤ 256) && decide (v.size ≤ 2000) && hOk l w && hOk r w
def byteS (x : Int) : ByteArray := ⟨#[UInt8.ofNat x.toNat]⟩
theorem byteS_size (x : Int) : (byteS x).size = 1 := rfl
def sizedS (s : ByteArray) : ByteArray := byteS (s.size / 256) ++ byteS (s.size % 256) ++ s
theorem sizedS_size (s : ByteArray) : (sizedS s).size = 2 + s.size := by simp [sizedS, byteS_size]
def flagsOf (l r : ByteArray) : Int := (if l.size = 0 then 0 else 1) + (if r.size = 0 then 0 else 2)
def encNode (k v l r : ByteArray) (w : Int) : ByteArray := if nodeOk k v l r w = true then sizedS k ++ sizedS v ++ byteS (flagsOf l r) ++ l ++ r else ⟨#[]⟩
set_option maxHeartbeats 400000 in
theorem isWidth_any (x : Int) (w : World) : Calls Tryd.prog 47 #[.int .i64 x] w fun e w' => e = .returned (.bool (isW x)) ∧ w = w' := by
  go_enter Tryd.func47, Tryd.ntmps47
  go_wp2
  all_goals
    go_ret
    refine ⟨ret_bool ?_, rfl⟩
    go_light
    unfold isW
    grind
set_option maxHeartbeats 400000 in
theorem l1Width_any (x : Int) (w : World) : Calls Tryd.prog 43 #[.int .i64 x] w fun e w' => e = .returned (.bool (isW x)) ∧ w = w' := by
  go_enter Tryd.func43, Tryd.ntmps43
  go_wp2
  all_goals
    go_ret
    refine ⟨ret_bool ?_, rfl⟩
    go_light
    unfold isW
    grind
theorem size_zero (s : ByteArray) : s = ByteArray.empty ↔ s.size = 0 := by
  constructor
  · intro h; rw [h]; rfl
  · intro h; exact ByteArray.ext (Array.size_eq_zero_iff.mp h)
set_option maxHeartbeats 400000 in
theorem l2HashOk_any (h : ByteArray) (x : Int) (w : World) : Calls Tryd.prog 64 #[.string h, .int .i64 x] w fun e w' => e = .returned (.bool (hOk h x)) ∧ w = w' := by
  go_enter Tryd.func64, Tryd.ntmps64
  go_wp2
  all_goals
    go_ret
    refine ⟨ret_bool ?_, rfl⟩
    go_light
    have := size_zero h
    unfold hOk
    grind
theorem byte1_str (w : World) (y : Int) (T : TypeId) (g c : Nat) (hg : g = w.heap.size) :
    (convert 113 9 (.slice (some ⟨g, 0, none⟩) 1 c)).run Tryd.prog (w.alloc (.cells #[.int .u8 y] T)) = .ok (.string ⟨#[UInt8.ofNat y.toNat]⟩) (w.alloc (.cells #[.int .u8 y] T)) := by
  subst hg
  have h := run_convert_bytes_arg (P := Tryd.prog) (w.alloc (.cells #[.int .u8 y] T)) 113 5 Tryd.underlying113 Tryd.underlying5 w.heap.size 0 1 c [y] rfl (fun i hi => by
    obtain rfl : i = 0 := by omega
    rw [World.cell?_alloc_new w _ _ (0 + 0)]; rfl) 9 Tryd.underlying9
  exact h
theorem byteS_mod (x : Int) (h : 0 ≤ x) : (⟨#[UInt8.ofNat (x % 256).toNat]⟩ : ByteArray) = byteS x := by
  unfold byteS
  congr 3
  apply UInt8.toNat_inj.mp
  rw [UInt8.toNat_ofNat', UInt8.toNat_ofNat']; omega
set_option maxHeartbeats 400000 in
theorem l2Byte_any (x : Int) (hx : 0 ≤ x) (w : World) : Calls Tryd.prog 90 #[.int .i64 x] w fun e w' => e = .returned (.string (byteS x)) ∧ Below w.heap.size w w' := by
  go_enter Tryd.func90, Tryd.ntmps90
  go_wp2_with ((with_reducible refine gate_dst (N := 6) rfl ?_); refine wpList_convert rfl 113 9 _ rfl rfl (byte1_str _ _ _ _ _ rfl) ?_)
  go_ret
  refine ⟨ret_str ?_, by (repeat' (first | exact Below.refl _ _ | (with_reducible assumption) | (with_reducible refine Below.setCell ?_ (by first | (simp; done) | (simp; omega)) _) | refine below_then ?_ (by assumption) | (with_reducible refine below_new2 ?_ _) | (with_reducible refine Below.drew ?_) | (with_reducible refine bdrewN ?_ _)))⟩
  exact byteS_mod x hx
set_option maxHeartbeats 400000 in
theorem l2Sized_any (s : ByteArray) (hs : s.size ≤ 4294967296) (w : World) : Calls Tryd.prog 109 #[.string s] w fun e w' => e = .returned (.string (sizedS s)) ∧ Below w.heap.size w w' := by
  have z1 : (byteS (s.size / 256)).size + (byteS (s.size % 256)).size ≤ 9223372036854775807 := by rw [byteS_size, byteS_size]; omega
  have z2 : (byteS (s.size / 256)).size + (byteS (s.size % 256)).size + s.size ≤ 9223372036854775807 := by rw [byteS_size, byteS_size]; omega
  go_enter Tryd.func109, Tryd.ntmps109
  go_wp2_with fail
  (go_at_call 90; refine (l2Byte_any _ (by omega) _).mono ?_; rintro e wa ⟨rfl, hb_wa⟩; obtain ⟨hc_wa, hf_wa⟩ := bcell hb_wa; have hz_wa := hb_wa.size; (try simp only [World.size_alloc, World.size_setCell, World.size_drew] at hz_wa); (try simp only [World.size_alloc, World.size_setCell, World.size_drew] at hc_wa); (try simp only [World.size_alloc, World.size_setCell, World.size_drew] at hf_wa); skip)
  go_wp2_with fail
  (go_at_call 90; refine (l2Byte_any _ (by omega) _).mono ?_; rintro e wb ⟨rfl, hb_wb⟩; obtain ⟨hc_wb, hf_wb⟩ := bcell hb_wb; have hz_wb := hb_wb.size; (try simp only [World.size_alloc, World.size_setCell, World.size_drew] at hz_wb); (try simp only [World.size_alloc, World.size_setCell, World.size_drew] at hc_wb); (try simp only [World.size_alloc, World.size_setCell, World.size_drew] at hf_wb); skip)
  go_wp2
  go_ret
  exact ⟨rfl, by (repeat' (first | exact Below.refl _ _ | (with_reducible assumption) | (with_reducible refine Below.setCell ?_ (by first | (simp; done) | (simp; omega)) _) | refine below_then ?_ (by assumption) | (with_reducible refine below_new2 ?_ _) | (with_reducible refine Below.drew ?_) | (with_reducible refine bdrewN ?_ _)))⟩
def szNode (a b c d : ByteArray) (left : Int) : Int :=
  if wrap64 (left - a.size) < 0 then -1 else if wrap64 (wrap64 (left - a.size) - b.size) < 0 then -1 else if wrap64 (wrap64 (wrap64 (left - a.size) - b.size) - c.size) < 0 then -1 else
  if wrap64 (wrap64 (wrap64 (wrap64 (left - a.size) - b.size) - c.size) - d.size) < 0 then -1 else wrap64 (wrap64 (wrap64 (wrap64 (left - a.size) - b.size) - c.size) - d.size)
theorem szNode_bound {a b c d : ByteArray} {left : Int} (h1 : a.size ≤ maxLen) (h2 : b.size ≤ maxLen) (h3 : c.size ≤ maxLen) (h4 : d.size ≤ maxLen) (h0 : 0 ≤ left) (hl : left ≤ 4294967296) (h : ¬ szNode a b c d left < 0) : (a.size : Int) + b.size + c.size + d.size ≤ left := by
  unfold maxLen at *
  unfold szNode wrap64 at h
  split at h
  · omega
  · split at h
    · omega
    · split at h
      · omega
      · split at h <;> omega
set_option maxHeartbeats 400000 in
theorem l2NodeOk_any (a b c d : ByteArray) (x : Int) (w : World) :
    Calls Tryd.prog 108 #[.agg #[.string a, .string b, .string c, .string d], .int .i64 x] w fun e w' => e = .returned (.bool (nodeOk a b c d x)) ∧ Below w.heap.size w w' := by
  unfold nodeOk
  by_cases hw : isW x = true
  · by_cases h2 : hOk c x = true
    all_goals
      go_enter Tryd.func108, Tryd.ntmps108
      go_wp2_with (first | (go_at_call 43; refine (l1Width_any _ _).mono ?_; rintro e wq ⟨rfl, rfl⟩) | (go_at_call 64; refine (l2HashOk_any _ _ _).mono ?_; rintro e wq ⟨rfl, rfl⟩))
      all_goals
        go_ret
        refine ⟨ret_bool ?_, by (repeat' (first | exact Below.refl _ _ | (with_reducible assumption) | (with_reducible refine Below.setCell ?_ (by first | (simp; done) | (simp; omega)) _) | refine below_then ?_ (by assumption) | (with_reducible refine below_new2 ?_ _) | (with_reducible refine Below.drew ?_) | (with_reducible refine bdrewN ?_ _)))⟩
        go_light
        grind
  · go_enter Tryd.func108, Tryd.ntmps108
    go_wp2_with (first | (go_at_call 43; refine (l1Width_any _ _).mono ?_; rintro e wq ⟨rfl, rfl⟩) | (go_at_call 64; refine (l2HashOk_any _ _ _).mono ?_; rintro e wq ⟨rfl, rfl⟩))
    all_goals
      go_ret
      refine ⟨ret_bool ?_, by (repeat' (first | exact Below.refl _ _ | (with_reducible assumption) | (with_reducible refine Below.setCell ?_ (by first | (simp; done) | (simp; omega)) _) | refine below_then ?_ (by assumption) | (with_reducible refine below_new2 ?_ _) | (with_reducible refine Below.drew ?_) | (with_reducible refine bdrewN ?_ _)))⟩
      go_light
      grind
set_option maxHeartbeats 400000 in
theorem fits_any (h : ByteArray) (x : Int) (p : Addr) (w : World) (hp : w.cell? p = some (.int .i64 x)) :
    Calls Tryd.prog 123 #[.string h, .pointer (some p)] w fun e w' => e = .returned (.bool (hOk h x)) ∧ w = w' := by
  have he : h.toList.isEmpty = decide (h.size = 0) := by
    rw [Bool.eq_iff_iff, decide_eq_true_eq, ← size_zero, ← toList_nil_iff_emptyBytes, List.isEmpty_iff]
  unfold hOk
  rw [← he]
  clear he
  go_enter Tryd.func123, Tryd.ntmps123
  go_wp2
  all_goals
    go_ret
    refine ⟨ret_bool ?_, rfl⟩
    go_light
    clear hp
    grind
set_option maxHeartbeats 400000 in
theorem nodeValid_any (a b c d : ByteArray) (x : Int) (w : World) :
    Calls Tryd.prog 107 #[.agg #[.string a, .string b, .string c, .string d], .int .i64 x] w fun e w' => e = .returned (.bool (nodeOk a b c d x)) ∧ Below w.heap.size w w' := by
  unfold nodeOk
  by_cases hw : isW x = true
  · by_cases h2 : hOk c x = true
    all_goals
      go_enter Tryd.func107, Tryd.ntmps107
      go_wp2_with (first | (go_at_call 47; refine (isWidth_any _ _).mono ?_; rintro e wq ⟨rfl, rfl⟩) | (go_at_call 123; refine (fits_any _ x _ _ (by simp [go_sem])).mono ?_; rintro e wq ⟨rfl, rfl⟩))
      all_goals
        go_ret
        refine ⟨ret_bool ?_, by (repeat' (first | exact Below.refl _ _ | (with_reducible assumption) | (with_reducible refine Below.setCell ?_ (by first | (simp; done) | (simp; omega)) _) | refine below_then ?_ (by assumption) | (with_reducible refine below_new2 ?_ _) | (with_reducible refine Below.drew ?_) | (with_reducible refine bdrewN ?_ _)))⟩
        go_light
        grind
  · go_enter Tryd.func107, Tryd.ntmps107
    go_wp2_with (first | (go_at_call 47; refine (isWidth_any _ _).mono ?_; rintro e wq ⟨rfl, rfl⟩) | (go_at_call 123; refine (fits_any _ x _ _ (by simp [go_sem])).mono ?_; rintro e wq ⟨rfl, rfl⟩))
    all_goals
      go_ret
      refine ⟨ret_bool ?_, by (repeat' (first | exact Below.refl _ _ | (with_reducible assumption) | (with_reducible refine Below.setCell ?_ (by first | (simp; done) | (simp; omega)) _) | refine below_then ?_ (by assumption) | (with_reducible refine below_new2 ?_ _) | (with_reducible refine Below.drew ?_) | (with_reducible refine bdrewN ?_ _)))⟩
      go_light
      grind
set_option maxHeartbeats 400000 in
theorem specEncodeNode_any (a b c d : ByteArray) (x : Int) (w : World) :
    Calls Tryd.prog 80 #[.agg #[.string a, .string b, .string c, .string d], .int .i64 x] w fun e w' => e = .returned (.string (encNode a b c d x)) ∧ Below w.heap.size w w' := by
  by_cases hok : nodeOk a b c d x = true
  · have hsz : a.size ≤ 256 ∧ b.size ≤ 2000 ∧ c.size ≤ 32 ∧ d.size ≤ 32 := by
      unfold nodeOk hOk isW at hok
      simp only [Bool.and_eq_true, Bool.or_eq_true, decide_eq_true_eq] at hok
      omega
    obtain ⟨h1, h2, h3, h4⟩ := hsz
    have he : encNode a b c d x = sizedS a ++ sizedS b ++ byteS (flagsOf c d) ++ c ++ d := by unfold encNode; rw [if_pos hok]
    have HE := Lib.hid he; clear he
    have h1b : a.size ≤ 4294967296 := by omega
    have h2b : b.size ≤ 4294967296 := by omega
    have z0 := fun x => byteS_size x
    have z1 : ¬ (9223372036854775807 < (sizedS a).size + (sizedS b).size) := by rw [sizedS_size, sizedS_size]; omega
    have z20 : ¬ (9223372036854775807 < (sizedS a).size + (sizedS b).size + (byteS 0).size) := by simp only [ByteArray.size_append, sizedS_size, byteS_size]; omega
    have z30 : ¬ (9223372036854775807 < (sizedS a).size + (sizedS b).size + (byteS 0).size + c.size) := by simp only [ByteArray.size_append, sizedS_size, byteS_size]; omega
    have z40 : ¬ (9223372036854775807 < (sizedS a).size + (sizedS b).size + (byteS 0).size + c.size + d.size) := by simp only [ByteArray.size_append, sizedS_size, byteS_size]; omega
    have z21 : ¬ (9223372036854775807 < (sizedS a).size + (sizedS b).size + (byteS 1).size) := by simp only [ByteArray.size_append, sizedS_size, byteS_size]; omega
    have z31 : ¬ (9223372036854775807 < (sizedS a).size + (sizedS b).size + (byteS 1).size + c.size) := by simp only [ByteArray.size_append, sizedS_size, byteS_size]; omega
    have z41 : ¬ (9223372036854775807 < (sizedS a).size + (sizedS b).size + (byteS 1).size + c.size + d.size) := by simp only [ByteArray.size_append, sizedS_size, byteS_size]; omega
    have z22 : ¬ (9223372036854775807 < (sizedS a).size + (sizedS b).size + (byteS 2).size) := by simp only [ByteArray.size_append, sizedS_size, byteS_size]; omega
    have z32 : ¬ (9223372036854775807 < (sizedS a).size + (sizedS b).size + (byteS 2).size + c.size) := by simp only [ByteArray.size_append, sizedS_size, byteS_size]; omega
    have z42 : ¬ (9223372036854775807 < (sizedS a).size + (sizedS b).size + (byteS 2).size + c.size + d.size) := by simp only [ByteArray.size_append, sizedS_size, byteS_size]; omega
    have z23 : ¬ (9223372036854775807 < (sizedS a).size + (sizedS b).size + (byteS 3).size) := by simp only [ByteArray.size_append, sizedS_size, byteS_size]; omega
    have z33 : ¬ (9223372036854775807 < (sizedS a).size + (sizedS b).size + (byteS 3).size + c.size) := by simp only [ByteArray.size_append, sizedS_size, byteS_size]; omega
    have z43 : ¬ (9223372036854775807 < (sizedS a).size + (sizedS b).size + (byteS 3).size + c.size + d.size) := by simp only [ByteArray.size_append, sizedS_size, byteS_size]; omega
    have z50 : ¬ (9223372036854775807 < (sizedS a).size + (sizedS b).size + (byteS 0).size + d.size) := by simp only [ByteArray.size_append, sizedS_size, byteS_size]; omega
    have z51 : ¬ (9223372036854775807 < (sizedS a).size + (sizedS b).size + (byteS 1).size + d.size) := by simp only [ByteArray.size_append, sizedS_size, byteS_size]; omega
    have z52 : ¬ (9223372036854775807 < (sizedS a).size + (sizedS b).size + (byteS 2).size + d.size) := by simp only [ByteArray.size_append, sizedS_size, byteS_size]; omega
    have z53 : ¬ (9223372036854775807 < (sizedS a).size + (sizedS b).size + (byteS 3).size + d.size) := by simp only [ByteArray.size_append, sizedS_size, byteS_size]; omega
    clear z0
    by_cases hc : c.size = 0
    all_goals
      by_cases hd : d.size = 0
      all_goals
        go_enter Tryd.func80, Tryd.ntmps80
        go_wp2_with (first | (go_at_call 108; refine (l2NodeOk_any _ _ _ _ _ _).mono ?_; rintro e wa ⟨rfl, hb_wa⟩; obtain ⟨hc_wa, hf_wa⟩ := bcell hb_wa; have hz_wa := hb_wa.size; (try simp only [World.size_alloc, World.size_setCell, World.size_drew] at hz_wa); (try simp only [World.size_alloc, World.size_setCell, World.size_drew] at hc_wa); (try simp only [World.size_alloc, World.size_setCell, World.size_drew] at hf_wa); (try have q_w_0_wa : w.heap.size < wa.heap.size := by omega)))
        have hS : wa.cell? ⟨w.heap.size, 0, none⟩ = some (.string a) ∧ wa.cell? ⟨w.heap.size, 1, none⟩ = some (.string b) ∧ wa.cell? ⟨w.heap.size, 2, none⟩ = some (.string c) ∧ wa.cell? ⟨w.heap.size, 3, none⟩ = some (.string d) := by
          refine ⟨?_, ?_, ?_, ?_⟩ <;> (rw [hc_wa _ _ (by omega)]; simp [go_sem])
        obtain ⟨e0, e1, e2, e3⟩ := hS
        clear hc_wa hf_wa
        go_region_held3 (fun w' => w'.cell? ⟨w.heap.size, 0, none⟩ = some (.string a) ∧ w'.cell? ⟨w.heap.size, 1, none⟩ = some (.string b) ∧ w'.cell? ⟨w.heap.size, 2, none⟩ = some (.string c) ∧ w'.cell? ⟨w.heap.size, 3, none⟩ = some (.string d))
          (first
            | exact held4B (by assumption) (by assumption)
            | assumption
            | (simp [*]; done))
          (first
            | (go_at_call 90; refine (l2Byte_any _ (by decide) _).mono ?_; rintro e wx ⟨rfl, hbx⟩)
            | (go_at_call_of 109 (Value.string a); refine (l2Sized_any a h1b _).mono ?_; rintro e wx ⟨rfl, hbx⟩)
            | (go_at_call_of 109 (Value.string b); refine (l2Sized_any b h2b _).mono ?_; rintro e wx ⟨rfl, hbx⟩))
        go_wp2
        all_goals
          go_ret
          refine ⟨?_, by (repeat' (first | exact Below.refl _ _ | (with_reducible assumption) | (with_reducible refine Below.setCell ?_ (by first | (simp; done) | (simp; omega)) _) | refine below_then ?_ (by assumption) | (with_reducible refine below_new2 ?_ _) | (with_reducible refine Below.drew ?_) | (with_reducible refine bdrewN ?_ _)))⟩
          rw [HE.out]
          simp [flagsOf, hc, hd]
  · have he : encNode a b c d x = ⟨#[]⟩ := by unfold encNode; rw [if_neg hok]
    have HE := Lib.hid he; clear he
    go_enter Tryd.func80, Tryd.ntmps80
    go_wp2_with (first | (go_at_call 108; refine (l2NodeOk_any _ _ _ _ _ _).mono ?_; rintro e wa ⟨rfl, hb_wa⟩; obtain ⟨hc_wa, hf_wa⟩ := bcell hb_wa; have hz_wa := hb_wa.size; (try simp only [World.size_alloc, World.size_setCell, World.size_drew] at hz_wa); (try simp only [World.size_alloc, World.size_setCell, World.size_drew] at hc_wa); (try simp only [World.size_alloc, World.size_setCell, World.size_drew] at hf_wa); skip))
    all_goals
      go_ret
      exact ⟨by rw [HE.out]; rfl, by (repeat' (first | exact Below.refl _ _ | (with_reducible assumption) | (with_reducible refine Below.setCell ?_ (by first | (simp; done) | (simp; omega)) _) | refine below_then ?_ (by assumption) | (with_reducible refine below_new2 ?_ _) | (with_reducible refine Below.drew ?_) | (with_reducible refine bdrewN ?_ _)))⟩
end Go.Proofs.YtmfejehhfmaodabDoor

end

/- The encoding of a node by the program's own builder. -/
section
namespace Go.Proofs.YtmfejehhfmaodabDoor
open Go.RowKit
set_option linter.unusedVariables false
set_option linter.unusedSimpArgs false
theorem isEmpty_size (h : ByteArray) : h.toList.isEmpty = decide (h.size = 0) := by
  rw [Bool.eq_iff_iff, decide_eq_true_eq, ← size_zero, ← toList_nil_iff_emptyBytes, List.isEmpty_iff]
theorem numL_one (n : Nat) (h : n < 256) : numL n 1 false 1 = [UInt8.ofNat n] := by
  simp [numL, numByte]
theorem sizedL_length (s : ByteArray) : (sizedL s).length = 2 + s.size := by
  rw [sizedL, List.length_append, numL_length]; rfl
theorem byteS_list (n : Nat) : byteS n = ⟨[UInt8.ofNat n].toArray⟩ := rfl
theorem app_list (a b : List UInt8) : (⟨(a ++ b).toArray⟩ : ByteArray) = ⟨a.toArray⟩ ++ ⟨b.toArray⟩ := by
  apply ByteArray.ext
  simp [ByteArray.data_append]
theorem self_list (s : ByteArray) : (⟨s.data.toList.toArray⟩ : ByteArray) = s := rfl
theorem sizedL_eq (s : ByteArray) : (⟨(sizedL s).toArray⟩ : ByteArray) = sizedS s := by
  unfold sizedL sizedS
  rw [app_list, self_list]
  have h : numL s.size 2 false 2 = [UInt8.ofNat (s.size / 256)] ++ [UInt8.ofNat s.size] := by
    simp [numL, numByte, List.range_succ]
  rw [h, app_list]
  congr 2
  · unfold byteS
    congr 3
    apply UInt8.toNat_inj.mp
    rw [UInt8.toNat_ofNat', UInt8.toNat_ofNat']; omega
theorem encList (a b c d : ByteArray) (n : Nat) (hn : n < 256) (h : flagsOf c d = n) :
    (⟨(sizedL a ++ (sizedL b ++ (numL n 1 false 1 ++ (c.data.toList ++ d.data.toList)))).toArray⟩ : ByteArray) = sizedS a ++ sizedS b ++ byteS (flagsOf c d) ++ c ++ d := by
  simp only [← List.append_assoc]
  rw [app_list, app_list, app_list, app_list, sizedL_eq, sizedL_eq, self_list, self_list, numL_one n hn, h, byteS_list]
theorem bitsOr1 : bits .or .u32 0 1 = 1 := by decide
theorem bitsOr2 : bits .or .u32 0 2 = 2 := by decide
theorem bitsOr3 : bits .or .u32 1 2 = 3 := by decide
attribute [go_sem] bitsOr1 bitsOr2 bitsOr3
theorem held4BB {B : Nat} {u w1 : World} {p q r t : Addr} {a b c d : Value} (hb : Below B u w1) (hp : p.block < B ∧ q.block < B ∧ r.block < B ∧ t.block < B) (h : u.cell? p = some a ∧ u.cell? q = some b ∧ u.cell? r = some c ∧ u.cell? t = some d) : w1.cell? p = some a ∧ w1.cell? q = some b ∧ w1.cell? r = some c ∧ w1.cell? t = some d :=
  ⟨(hb.cell hp.1).trans h.1, (hb.cell hp.2.1).trans h.2.1, (hb.cell hp.2.2.1).trans h.2.2.1, (hb.cell hp.2.2.2).trans h.2.2.2⟩
set_option maxHeartbeats 1000000 in
theorem encodeNode_any (a b c d : ByteArray) (x : Int) (w : World) :
    Calls Tryd.prog 113 #[.agg #[.string a, .string b, .string c, .string d], .int .i64 x] w fun e w' => e = .returned (.string (encNode a b c d x)) ∧ Below w.heap.size w w' := by
  by_cases hok : nodeOk a b c d x = true
  · have hsz : a.size ≤ 256 ∧ b.size ≤ 2000 ∧ c.size ≤ 32 ∧ d.size ≤ 32 := by
      unfold nodeOk hOk isW at hok
      simp only [Bool.and_eq_true, Bool.or_eq_true, decide_eq_true_eq] at hok
      omega
    obtain ⟨h1, h2, h3, h4⟩ := hsz
    have he : encNode a b c d x = sizedS a ++ sizedS b ++ byteS (flagsOf c d) ++ c ++ d := by unfold encNode; rw [if_pos hok]
    have HE := Lib.hid he; clear he
    have la := sizedL_length a
    have lb := sizedL_length b
    have ln : ∀ n, (numL n 1 false 1).length = 1 := fun n => numL_length n 1 false 1
    have LA := Lib.hid la; clear la
    have LB := Lib.hid lb; clear lb
    have LN := Lib.hid ln; clear ln
    by_cases hc : c.toList.isEmpty = true
    · by_cases hd : d.toList.isEmpty = true
      · go_enter Tryd.func113, Tryd.ntmps113
        go_wp2_with (first | (go_at_call 107; refine (nodeValid_any _ _ _ _ _ _).mono ?_; rintro e wa ⟨rfl, hb_wa⟩; obtain ⟨hc_wa, hf_wa⟩ := bcell hb_wa; have hz_wa := hb_wa.size; (try simp only [World.size_alloc, World.size_setCell, World.size_drew] at hz_wa); (try simp only [World.size_alloc, World.size_setCell, World.size_drew] at hc_wa); (try simp only [World.size_alloc, World.size_setCell, World.size_drew] at hf_wa); (try have q_w_0_wa : w.heap.size < wa.heap.size := by omega)))
        have hS : wa.cell? ⟨w.heap.size, 0, none⟩ = some (.string a) ∧ wa.cell? ⟨w.heap.size, 1, none⟩ = some (.string b) ∧ wa.cell? ⟨w.heap.size, 2, none⟩ = some (.string c) ∧ wa.cell? ⟨w.heap.size, 3, none⟩ = some (.string d) := by
          refine ⟨?_, ?_, ?_, ?_⟩ <;> (rw [hc_wa _ _ (by omega)]; simp [go_sem])
        obtain ⟨e0, e1, e2, e3⟩ := hS
        clear hc_wa hf_wa
        go_wp2
        go_region_held3 (fun w' => w'.cell? ⟨w.heap.size, 0, none⟩ = some (.string a) ∧ w'.cell? ⟨w.heap.size, 1, none⟩ = some (.string b) ∧ w'.cell? ⟨w.heap.size, 2, none⟩ = some (.string c) ∧ w'.cell? ⟨w.heap.size, 3, none⟩ = some (.string d))
          (first
            | exact held4BB (B := wa.heap.size) (by assumption) (by simp; omega) (by assumption)
            | assumption
            | (go_keep; done))
          (first
            | (go_at_call_of 125 (Value.string a); refine (bsized_any wa.heap.size wa.heap.size [] a _ ?_ ?_ ?_ ?_).mono ?_; (· exact Bld.fresh _ wa.drew); (· omega); (· simp; done); (· simp; done); rintro e wx ⟨rfl, hBx, hbx⟩; rw [List.nil_append] at hBx; have hzx := hbx.size; simp only [World.size_alloc, World.size_drew] at hzx)
            | (go_at_call_of 125 (Value.string b); refine (bsized_any wa.heap.size wa.heap.size (sizedL a) b _ ?_ ?_ ?_ ?_).mono ?_; (· assumption); (· omega); (· have := LA.out; omega); (· omega); rintro e wx ⟨rfl, hBx, hbx⟩; have hzx := hbx.size)
            | (go_at_call 126; refine (bnumber_any wa.heap.size wa.heap.size (sizedL a ++ sizedL b) 0 1 false _ ?_ ?_ ?_ ?_ ?_).mono ?_; (· assumption); (· omega); (· omega); (· have := LA.out; have := LB.out; rw [List.length_append]; omega); (· omega); rintro e wx ⟨rfl, hBx, hbx⟩; have hzx := hbx.size)
            | (go_at_call_of 127 (Value.string c); refine (btext_any wa.heap.size wa.heap.size (sizedL a ++ sizedL b ++ numL 0 1 false 1) c _ ?_ ?_ ?_).mono ?_; (· assumption); (· have := LA.out; have := LB.out; have := LN.out; simp only [List.length_append, this]; omega); (· omega); rintro e wx ⟨rfl, hBx, hbx⟩; have hzx := hbx.size)
            | (go_at_call_of 127 (Value.string d); refine (btext_any wa.heap.size wa.heap.size (sizedL a ++ sizedL b ++ numL 0 1 false 1 ++ c.data.toList) d _ ?_ ?_ ?_).mono ?_; (· assumption); (· have := LA.out; have := LB.out; have := LN.out; have hcl : c.data.toList.length = c.size := rfl; simp only [List.length_append, this, hcl]; omega); (· omega); rintro e wx ⟨rfl, hBx, hbx⟩; have hzx := hbx.size))
        go_wp2_with (go_at_call 95; refine (string_any 168 wa.heap.size wa.heap.size _ _ hBx ?_).mono ?_; (· intro h; have := congrArg List.length h; simp only [List.length_append, LN.out, List.length_nil] at this; omega); rintro e wz ⟨rfl, hbz⟩)
        go_ret
        have hz : Below wa.heap.size wa wz := by
          refine Below.trans ?_ hbz
          repeat' (first | (refine Below.trans ?_ (by assumption)))
          (repeat' (first | exact Below.refl _ _ | (with_reducible assumption) | (with_reducible refine Below.setCell ?_ (by first | (simp; done) | (simp; omega)) _) | refine below_then ?_ (by assumption) | (with_reducible refine below_new2 ?_ _) | (with_reducible refine Below.drew ?_) | (with_reducible refine bdrewN ?_ _)))
        refine ⟨?_, by (repeat' (first | exact Below.refl _ _ | (with_reducible assumption) | (with_reducible refine Below.setCell ?_ (by first | (simp; done) | (simp; omega)) _) | refine below_then ?_ (by assumption) | (with_reducible refine below_new2 ?_ _) | (with_reducible refine Below.drew ?_) | (with_reducible refine bdrewN ?_ _)))⟩
        rw [HE.out]
        refine congrArg (fun z => Ending.returned (.string z)) (encList a b c d 0 (by decide) ?_)
        rw [isEmpty_size, decide_eq_true_eq] at hc hd
        simp [flagsOf, hc, hd]
      · go_enter Tryd.func113, Tryd.ntmps113
        go_wp2_with (first | (go_at_call 107; refine (nodeValid_any _ _ _ _ _ _).mono ?_; rintro e wa ⟨rfl, hb_wa⟩; obtain ⟨hc_wa, hf_wa⟩ := bcell hb_wa; have hz_wa := hb_wa.size; (try simp only [World.size_alloc, World.size_setCell, World.size_drew] at hz_wa); (try simp only [World.size_alloc, World.size_setCell, World.size_drew] at hc_wa); (try simp only [World.size_alloc, World.size_setCell, World.size_drew] at hf_wa); (try have q_w_0_wa : w.heap.size < wa.heap.size := by omega)))
        have hS : wa.cell? ⟨w.heap.size, 0, none⟩ = some (.string a) ∧ wa.cell? ⟨w.heap.size, 1, none⟩ = some (.string b) ∧ wa.cell? ⟨w.heap.size, 2, none⟩ = some (.string c) ∧ wa.cell? ⟨w.heap.size, 3, none⟩ = some (.string d) := by
          refine ⟨?_, ?_, ?_, ?_⟩ <;> (rw [hc_wa _ _ (by omega)]; simp [go_sem])
        obtain ⟨e0, e1, e2, e3⟩ := hS
        clear hc_wa hf_wa
        go_wp2
        go_region_held3 (fun w' => w'.cell? ⟨w.heap.size, 0, none⟩ = some (.string a) ∧ w'.cell? ⟨w.heap.size, 1, none⟩ = some (.string b) ∧ w'.cell? ⟨w.heap.size, 2, none⟩ = some (.string c) ∧ w'.cell? ⟨w.heap.size, 3, none⟩ = some (.string d))
          (first
            | exact held4BB (B := wa.heap.size) (by assumption) (by simp; omega) (by assumption)
            | assumption
            | (go_keep; done))
          (first
            | (go_at_call_of 125 (Value.string a); refine (bsized_any wa.heap.size wa.heap.size [] a _ ?_ ?_ ?_ ?_).mono ?_; (· exact Bld.fresh _ wa.drew); (· omega); (· simp; done); (· simp; done); rintro e wx ⟨rfl, hBx, hbx⟩; rw [List.nil_append] at hBx; have hzx := hbx.size; simp only [World.size_alloc, World.size_drew] at hzx)
            | (go_at_call_of 125 (Value.string b); refine (bsized_any wa.heap.size wa.heap.size (sizedL a) b _ ?_ ?_ ?_ ?_).mono ?_; (· assumption); (· omega); (· have := LA.out; omega); (· omega); rintro e wx ⟨rfl, hBx, hbx⟩; have hzx := hbx.size)
            | (go_at_call 126; refine (bnumber_any wa.heap.size wa.heap.size (sizedL a ++ sizedL b) 2 1 false _ ?_ ?_ ?_ ?_ ?_).mono ?_; (· assumption); (· omega); (· omega); (· have := LA.out; have := LB.out; rw [List.length_append]; omega); (· omega); rintro e wx ⟨rfl, hBx, hbx⟩; have hzx := hbx.size)
            | (go_at_call_of 127 (Value.string c); refine (btext_any wa.heap.size wa.heap.size (sizedL a ++ sizedL b ++ numL 2 1 false 1) c _ ?_ ?_ ?_).mono ?_; (· assumption); (· have := LA.out; have := LB.out; have := LN.out; simp only [List.length_append, this]; omega); (· omega); rintro e wx ⟨rfl, hBx, hbx⟩; have hzx := hbx.size)
            | (go_at_call_of 127 (Value.string d); refine (btext_any wa.heap.size wa.heap.size (sizedL a ++ sizedL b ++ numL 2 1 false 1 ++ c.data.toList) d _ ?_ ?_ ?_).mono ?_; (· assumption); (· have := LA.out; have := LB.out; have := LN.out; have hcl : c.data.toList.length = c.size := rfl; simp only [List.length_append, this, hcl]; omega); (· omega); rintro e wx ⟨rfl, hBx, hbx⟩; have hzx := hbx.size))
        go_wp2_with (go_at_call 95; refine (string_any 168 wa.heap.size wa.heap.size _ _ hBx ?_).mono ?_; (· intro h; have := congrArg List.length h; simp only [List.length_append, LN.out, List.length_nil] at this; omega); rintro e wz ⟨rfl, hbz⟩)
        go_ret
        have hz : Below wa.heap.size wa wz := by
          refine Below.trans ?_ hbz
          repeat' (first | (refine Below.trans ?_ (by assumption)))
          (repeat' (first | exact Below.refl _ _ | (with_reducible assumption) | (with_reducible refine Below.setCell ?_ (by first | (simp; done) | (simp; omega)) _) | refine below_then ?_ (by assumption) | (with_reducible refine below_new2 ?_ _) | (with_reducible refine Below.drew ?_) | (with_reducible refine bdrewN ?_ _)))
        refine ⟨?_, by (repeat' (first | exact Below.refl _ _ | (with_reducible assumption) | (with_reducible refine Below.setCell ?_ (by first | (simp; done) | (simp; omega)) _) | refine below_then ?_ (by assumption) | (with_reducible refine below_new2 ?_ _) | (with_reducible refine Below.drew ?_) | (with_reducible refine bdrewN ?_ _)))⟩
        rw [HE.out]
        refine congrArg (fun z => Ending.returned (.string z)) (encList a b c d 2 (by decide) ?_)
        rw [isEmpty_size, decide_eq_true_eq] at hc hd
        simp [flagsOf, hc, hd]
    · by_cases hd : d.toList.isEmpty = true
      · go_enter Tryd.func113, Tryd.ntmps113
        go_wp2_with (first | (go_at_call 107; refine (nodeValid_any _ _ _ _ _ _).mono ?_; rintro e wa ⟨rfl, hb_wa⟩; obtain ⟨hc_wa, hf_wa⟩ := bcell hb_wa; have hz_wa := hb_wa.size; (try simp only [World.size_alloc, World.size_setCell, World.size_drew] at hz_wa); (try simp only [World.size_alloc, World.size_setCell, World.size_drew] at hc_wa); (try simp only [World.size_alloc, World.size_setCell, World.size_drew] at hf_wa); (try have q_w_0_wa : w.heap.size < wa.heap.size := by omega)))
        have hS : wa.cell? ⟨w.heap.size, 0, none⟩ = some (.string a) ∧ wa.cell? ⟨w.heap.size, 1, none⟩ = some (.string b) ∧ wa.cell? ⟨w.heap.size, 2, none⟩ = some (.string c) ∧ wa.cell? ⟨w.heap.size, 3, none⟩ = some (.string d) := by
          refine ⟨?_, ?_, ?_, ?_⟩ <;> (rw [hc_wa _ _ (by omega)]; simp [go_sem])
        obtain ⟨e0, e1, e2, e3⟩ := hS
        clear hc_wa hf_wa
        go_wp2
        go_region_held3 (fun w' => w'.cell? ⟨w.heap.size, 0, none⟩ = some (.string a) ∧ w'.cell? ⟨w.heap.size, 1, none⟩ = some (.string b) ∧ w'.cell? ⟨w.heap.size, 2, none⟩ = some (.string c) ∧ w'.cell? ⟨w.heap.size, 3, none⟩ = some (.string d))
          (first
            | exact held4BB (B := wa.heap.size) (by assumption) (by simp; omega) (by assumption)
            | assumption
            | (go_keep; done))
          (first
            | (go_at_call_of 125 (Value.string a); refine (bsized_any wa.heap.size wa.heap.size [] a _ ?_ ?_ ?_ ?_).mono ?_; (· exact Bld.fresh _ wa.drew); (· omega); (· simp; done); (· simp; done); rintro e wx ⟨rfl, hBx, hbx⟩; rw [List.nil_append] at hBx; have hzx := hbx.size; simp only [World.size_alloc, World.size_drew] at hzx)
            | (go_at_call_of 125 (Value.string b); refine (bsized_any wa.heap.size wa.heap.size (sizedL a) b _ ?_ ?_ ?_ ?_).mono ?_; (· assumption); (· omega); (· have := LA.out; omega); (· omega); rintro e wx ⟨rfl, hBx, hbx⟩; have hzx := hbx.size)
            | (go_at_call 126; refine (bnumber_any wa.heap.size wa.heap.size (sizedL a ++ sizedL b) 1 1 false _ ?_ ?_ ?_ ?_ ?_).mono ?_; (· assumption); (· omega); (· omega); (· have := LA.out; have := LB.out; rw [List.length_append]; omega); (· omega); rintro e wx ⟨rfl, hBx, hbx⟩; have hzx := hbx.size)
            | (go_at_call_of 127 (Value.string c); refine (btext_any wa.heap.size wa.heap.size (sizedL a ++ sizedL b ++ numL 1 1 false 1) c _ ?_ ?_ ?_).mono ?_; (· assumption); (· have := LA.out; have := LB.out; have := LN.out; simp only [List.length_append, this]; omega); (· omega); rintro e wx ⟨rfl, hBx, hbx⟩; have hzx := hbx.size)
            | (go_at_call_of 127 (Value.string d); refine (btext_any wa.heap.size wa.heap.size (sizedL a ++ sizedL b ++ numL 1 1 false 1 ++ c.data.toList) d _ ?_ ?_ ?_).mono ?_; (· assumption); (· have := LA.out; have := LB.out; have := LN.out; have hcl : c.data.toList.length = c.size := rfl; simp only [List.length_append, this, hcl]; omega); (· omega); rintro e wx ⟨rfl, hBx, hbx⟩; have hzx := hbx.size))
        go_wp2_with (go_at_call 95; refine (string_any 168 wa.heap.size wa.heap.size _ _ hBx ?_).mono ?_; (· intro h; have := congrArg List.length h; simp only [List.length_append, LN.out, List.length_nil] at this; omega); rintro e wz ⟨rfl, hbz⟩)
        go_ret
        have hz : Below wa.heap.size wa wz := by
          refine Below.trans ?_ hbz
          repeat' (first | (refine Below.trans ?_ (by assumption)))
          (repeat' (first | exact Below.refl _ _ | (with_reducible assumption) | (with_reducible refine Below.setCell ?_ (by first | (simp; done) | (simp; omega)) _) | refine below_then ?_ (by assumption) | (with_reducible refine below_new2 ?_ _) | (with_reducible refine Below.drew ?_) | (with_reducible refine bdrewN ?_ _)))
        refine ⟨?_, by (repeat' (first | exact Below.refl _ _ | (with_reducible assumption) | (with_reducible refine Below.setCell ?_ (by first | (simp; done) | (simp; omega)) _) | refine below_then ?_ (by assumption) | (with_reducible refine below_new2 ?_ _) | (with_reducible refine Below.drew ?_) | (with_reducible refine bdrewN ?_ _)))⟩
        rw [HE.out]
        refine congrArg (fun z => Ending.returned (.string z)) (encList a b c d 1 (by decide) ?_)
        rw [isEmpty_size, decide_eq_true_eq] at hc hd
        simp [flagsOf, hc, hd]
      · go_enter Tryd.func113, Tryd.ntmps113
        go_wp2_with (first | (go_at_call 107; refine (nodeValid_any _ _ _ _ _ _).mono ?_; rintro e wa ⟨rfl, hb_wa⟩; obtain ⟨hc_wa, hf_wa⟩ := bcell hb_wa; have hz_wa := hb_wa.size; (try simp only [World.size_alloc, World.size_setCell, World.size_drew] at hz_wa); (try simp only [World.size_alloc, World.size_setCell, World.size_drew] at hc_wa); (try simp only [World.size_alloc, World.size_setCell, World.size_drew] at hf_wa); (try have q_w_0_wa : w.heap.size < wa.heap.size := by omega)))
        have hS : wa.cell? ⟨w.heap.size, 0, none⟩ = some (.string a) ∧ wa.cell? ⟨w.heap.size, 1, none⟩ = some (.string b) ∧ wa.cell? ⟨w.heap.size, 2, none⟩ = some (.string c) ∧ wa.cell? ⟨w.heap.size, 3, none⟩ = some (.string d) := by
          refine ⟨?_, ?_, ?_, ?_⟩ <;> (rw [hc_wa _ _ (by omega)]; simp [go_sem])
        obtain ⟨e0, e1, e2, e3⟩ := hS
        clear hc_wa hf_wa
        go_wp2
        go_region_held3 (fun w' => w'.cell? ⟨w.heap.size, 0, none⟩ = some (.string a) ∧ w'.cell? ⟨w.heap.size, 1, none⟩ = some (.string b) ∧ w'.cell? ⟨w.heap.size, 2, none⟩ = some (.string c) ∧ w'.cell? ⟨w.heap.size, 3, none⟩ = some (.string d))
          (first
            | exact held4BB (B := wa.heap.size) (by assumption) (by simp; omega) (by assumption)
            | assumption
            | (go_keep; done))
          (first
            | (go_at_call_of 125 (Value.string a); refine (bsized_any wa.heap.size wa.heap.size [] a _ ?_ ?_ ?_ ?_).mono ?_; (· exact Bld.fresh _ wa.drew); (· omega); (· simp; done); (· simp; done); rintro e wx ⟨rfl, hBx, hbx⟩; rw [List.nil_append] at hBx; have hzx := hbx.size; simp only [World.size_alloc, World.size_drew] at hzx)
            | (go_at_call_of 125 (Value.string b); refine (bsized_any wa.heap.size wa.heap.size (sizedL a) b _ ?_ ?_ ?_ ?_).mono ?_; (· assumption); (· omega); (· have := LA.out; omega); (· omega); rintro e wx ⟨rfl, hBx, hbx⟩; have hzx := hbx.size)
            | (go_at_call 126; refine (bnumber_any wa.heap.size wa.heap.size (sizedL a ++ sizedL b) 3 1 false _ ?_ ?_ ?_ ?_ ?_).mono ?_; (· assumption); (· omega); (· omega); (· have := LA.out; have := LB.out; rw [List.length_append]; omega); (· omega); rintro e wx ⟨rfl, hBx, hbx⟩; have hzx := hbx.size)
            | (go_at_call_of 127 (Value.string c); refine (btext_any wa.heap.size wa.heap.size (sizedL a ++ sizedL b ++ numL 3 1 false 1) c _ ?_ ?_ ?_).mono ?_; (· assumption); (· have := LA.out; have := LB.out; have := LN.out; simp only [List.length_append, this]; omega); (· omega); rintro e wx ⟨rfl, hBx, hbx⟩; have hzx := hbx.size)
            | (go_at_call_of 127 (Value.string d); refine (btext_any wa.heap.size wa.heap.size (sizedL a ++ sizedL b ++ numL 3 1 false 1 ++ c.data.toList) d _ ?_ ?_ ?_).mono ?_; (· assumption); (· have := LA.out; have := LB.out; have := LN.out; have hcl : c.data.toList.length = c.size := rfl; simp only [List.length_append, this, hcl]; omega); (· omega); rintro e wx ⟨rfl, hBx, hbx⟩; have hzx := hbx.size))
        go_wp2_with (go_at_call 95; refine (string_any 168 wa.heap.size wa.heap.size _ _ hBx ?_).mono ?_; (· intro h; have := congrArg List.length h; simp only [List.length_append, LN.out, List.length_nil] at this; omega); rintro e wz ⟨rfl, hbz⟩)
        go_ret
        have hz : Below wa.heap.size wa wz := by
          refine Below.trans ?_ hbz
          repeat' (first | (refine Below.trans ?_ (by assumption)))
          (repeat' (first | exact Below.refl _ _ | (with_reducible assumption) | (with_reducible refine Below.setCell ?_ (by first | (simp; done) | (simp; omega)) _) | refine below_then ?_ (by assumption) | (with_reducible refine below_new2 ?_ _) | (with_reducible refine Below.drew ?_) | (with_reducible refine bdrewN ?_ _)))
        refine ⟨?_, by (repeat' (first | exact Below.refl _ _ | (with_reducible assumption) | (with_reducible refine Below.setCell ?_ (by first | (simp; done) | (simp; omega)) _) | refine below_then ?_ (by assumption) | (with_reducible refine below_new2 ?_ _) | (with_reducible refine Below.drew ?_) | (with_reducible refine bdrewN ?_ _)))⟩
        rw [HE.out]
        refine congrArg (fun z => Ending.returned (.string z)) (encList a b c d 3 (by decide) ?_)
        rw [isEmpty_size, decide_eq_true_eq] at hc hd
        simp [flagsOf, hc, hd]
  · have he : encNode a b c d x = ⟨#[]⟩ := by unfold encNode; rw [if_neg hok]
    have HE := Lib.hid he; clear he
    go_enter Tryd.func113, Tryd.ntmps113
    go_wp2_with (first | (go_at_call 107; refine (nodeValid_any _ _ _ _ _ _).mono ?_; rintro e wa ⟨rfl, hb_wa⟩; obtain ⟨hc_wa, hf_wa⟩ := bcell hb_wa; have hz_wa := hb_wa.size; (try simp only [World.size_alloc, World.size_setCell, World.size_drew] at hz_wa); (try simp only [World.size_alloc, World.size_setCell, World.size_drew] at hc_wa); (try simp only [World.size_alloc, World.size_setCell, World.size_drew] at hf_wa); skip))
    all_goals
      go_ret
      exact ⟨by rw [HE.out]; rfl, by (repeat' (first | exact Below.refl _ _ | (with_reducible assumption) | (with_reducible refine Below.setCell ?_ (by first | (simp; done) | (simp; omega)) _) | refine below_then ?_ (by assumption) | (with_reducible refine below_new2 ?_ _) | (with_reducible refine Below.drew ?_) | (with_reducible refine bdrewN ?_ _)))⟩
end Go.Proofs.YtmfejehhfmaodabDoor

end

/- The reader of encodings: what its methods give. -/
section
namespace Go.Proofs.YtmfejehhfmaodabDoor
open Go.RowKit
set_option linter.unusedVariables false
set_option linter.unusedSimpArgs false
/-- Block b is a reader with r before it. -/
def Rdr (b : Nat) (r : ByteArray) (bad : Bool) (w : World) : Prop := w.heap[b]? = some (.cells #[.string r, .bool bad] 141)
section
variable {b : Nat} {r : ByteArray} {bad : Bool} {w w1 : World}
theorem Rdr.c0 (h : Rdr b r bad w) : w.cell? ⟨b, 0, none⟩ = some (.string r) := by
  unfold Rdr at h
  simp [World.cell?, h]
theorem Rdr.c1 (h : Rdr b r bad w) : w.cell? ⟨b, 1, none⟩ = some (.bool bad) := by
  unfold Rdr at h
  simp [World.cell?, h]
theorem Rdr.f (h : Rdr b r bad w) (i : Nat) : w.frozen? ⟨b, i, none⟩ = false := by
  unfold Rdr at h
  simp [World.frozen?, h]
theorem Rdr.lt (h : Rdr b r bad w) : b < w.heap.size := by
  rcases Nat.lt_or_ge b w.heap.size with h' | h'
  · exact h'
  · unfold Rdr at h
    simp [Array.getElem?_eq_none h'] at h
theorem Rdr.set0 (h : Rdr b r bad w) (s : ByteArray) : Rdr b s bad (w.setCell ⟨b, 0, none⟩ (.string s)) := by
  have hl := h.lt
  unfold Rdr at h ⊢
  rw [Array.getElem?_eq_getElem hl] at h
  have h' := Option.some.inj h
  simp [World.setCell, hl, Array.getElem_modify, h']
theorem Rdr.set1 (h : Rdr b r bad w) (s : Bool) : Rdr b r s (w.setCell ⟨b, 1, none⟩ (.bool s)) := by
  have hl := h.lt
  unfold Rdr at h ⊢
  rw [Array.getElem?_eq_getElem hl] at h
  have h' := Option.some.inj h
  simp [World.setCell, hl, Array.getElem_modify, h']
theorem Rdr.below (h : Rdr b r bad w) (hb : Below w.heap.size w w1) : Rdr b r bad w1 := (hb.block b h.lt).trans h
theorem Rdr.grown (h : Rdr b r bad w) {row : Option Nat} (hb : w.grownBy w1 row) (hn : some b ≠ row) : Rdr b r bad w1 := (hb.block b h.lt hn).trans h
theorem Rdr.fresh (s : ByteArray) (w : World) : Rdr w.heap.size s false (w.alloc (.cells #[.string s, .bool false] 141)) := by
  show (w.heap.push _)[w.heap.size]? = _
  simp
end
def textR (r : ByteArray) (bad : Bool) (n : Int) : ByteArray × ByteArray × Bool :=
  if bad = true ∨ n < 0 ∨ (r.size : Int) < n then (⟨#[]⟩, r, true) else (r.extract 0 n.toNat, r.extract n.toNat r.size, false)
set_option maxHeartbeats 400000 in
theorem text_any (b : Nat) (r : ByteArray) (bad : Bool) (n : Int) (w : World) (h : Rdr b r bad w) :
    Calls Tryd.prog 106 #[.pointer (some ⟨b, 0, none⟩), .int .i64 n] w fun e w' => e = .returned (.string (textR r bad n).1) ∧ Rdr b (textR r bad n).2.1 (textR r bad n).2.2 w' ∧ w.grownBy w' (some b) := by
  have c0 := h.c0
  have c1 := h.c1
  have f0 := h.f 0
  have f1 := h.f 1
  have H := Lib.hid h; clear h
  by_cases hc : bad = true ∨ n < 0 ∨ (r.size : Int) < n
  · have ht : textR r bad n = (⟨#[]⟩, r, true) := by unfold textR; rw [if_pos hc]
    rw [ht]; clear ht
    by_cases hb : bad = true
    · subst hb
      go_enter Tryd.func106, Tryd.ntmps106
      go_wp2
      go_ret
      exact ⟨rfl, H.out.set1 true, Lib.grownBy_setCell _ _ _ _⟩
    · obtain rfl : bad = false := by simpa using hb
      by_cases hn : n < 0
      · go_enter Tryd.func106, Tryd.ntmps106
        go_wp2
        go_ret
        exact ⟨rfl, H.out.set1 true, Lib.grownBy_setCell _ _ _ _⟩
      · have hn2 : (r.size : Int) < n := by simp at hc; omega
        go_enter Tryd.func106, Tryd.ntmps106
        go_wp2
        go_ret
        exact ⟨rfl, H.out.set1 true, Lib.grownBy_setCell _ _ _ _⟩
  · have ht : textR r bad n = (r.extract 0 n.toNat, r.extract n.toNat r.size, false) := by unfold textR; rw [if_neg hc]
    rw [ht]; clear ht
    simp only [not_or, Bool.not_eq_true] at hc
    obtain ⟨rfl, hn0, hn1⟩ := hc
    have hn2 : 0 ≤ n := by omega
    have hn3 : n ≤ r.size := by omega
    have hn4 : ¬ (r.size : Int) < n := by omega
    go_enter Tryd.func106, Tryd.ntmps106
    go_wp2
    go_ret
    exact ⟨rfl, H.out.set0 _, Lib.grownBy_setCell _ _ _ _⟩
theorem or_join (x y : Nat) (hy : y < 256) : (x * 256) ||| y = x * 256 + y := by
  have h := Nat.shiftLeft_add_eq_or_of_lt (i := 8) hy x
  rw [Nat.shiftLeft_eq] at h
  exact h.symm
theorem or_vec (n a b : Nat) : (BitVec.ofInt n (a : Int) ||| BitVec.ofInt n (b : Int)).toNat = (a % 2 ^ n) ||| (b % 2 ^ n) := by
  rw [BitVec.toNat_or, BitVec.ofInt_natCast, BitVec.ofInt_natCast, BitVec.toNat_ofNat, BitVec.toNat_ofNat]
theorem wrap_u32 (n : Nat) (h : n < 4294967296) : IntKind.u32.wrap (n : Int) = n := by
  simp [IntKind.wrap, IntKind.bits, IntKind.signed]
  omega
theorem wrap_i64 (n : Nat) (h : n < 9223372036854775808) : IntKind.i64.wrap (n : Int) = n := by
  simp [IntKind.wrap, IntKind.bits, IntKind.signed]
  omega
theorem bitsOrU32 (x y : Nat) (hx : x < 16777216) (hy : y < 256) : bits .or .u32 ((x : Int) * 256) (y : Int) = ((x * 256 + y : Nat) : Int) := by
  have e : ((x : Int) * 256) = ((x * 256 : Nat) : Int) := by simp
  rw [e]
  show IntKind.u32.wrap (((BitVec.ofInt 32 ((x * 256 : Nat) : Int) ||| BitVec.ofInt 32 (y : Int)).toNat : Nat) : Int) = _
  rw [or_vec, Nat.mod_eq_of_lt (by omega), Nat.mod_eq_of_lt (by omega), or_join x y hy, wrap_u32 _ (by omega)]
theorem bitsOrI64 (x y : Nat) (hx : x < 16777216) (hy : y < 256) : bits .or .i64 ((x : Int) * 256) (y : Int) = ((x * 256 + y : Nat) : Int) := by
  have e : ((x : Int) * 256) = ((x * 256 : Nat) : Int) := by simp
  rw [e]
  show IntKind.i64.wrap (((BitVec.ofInt 64 ((x * 256 : Nat) : Int) ||| BitVec.ofInt 64 (y : Int)).toNat : Nat) : Int) = _
  rw [or_vec, Nat.mod_eq_of_lt (by omega), Nat.mod_eq_of_lt (by omega), or_join x y hy, wrap_i64 _ (by omega)]
/-- The number that bytes give, the highest first. -/
def numV (l : List UInt8) : Nat := l.foldl (fun a b => a * 256 + b.toNat) 0
theorem numV_snoc (l : List UInt8) (b : UInt8) : numV (l ++ [b]) = numV l * 256 + b.toNat := by simp [numV]
theorem numV_lt (l : List UInt8) : numV l < 256 ^ l.length := by
  have gen : ∀ (l : List UInt8) (a n : Nat), a < 256 ^ n → l.foldl (fun a b => a * 256 + b.toNat) a < 256 ^ (n + l.length) := by
    intro l
    induction l with
    | nil => intro a n h; simpa using h
    | cons x r ih =>
      intro a n h
      have hx : x.toNat < 256 := x.toNat_lt
      have h2 := ih (a * 256 + x.toNat) (n + 1) (by rw [Nat.pow_succ]; omega)
      rw [List.foldl_cons, List.length_cons, show n + (r.length + 1) = n + 1 + r.length by omega]
      exact h2
  have h := gen l 0 0 (by decide)
  simpa [numV] using h
theorem numV_step (t : ByteArray) (m : Nat) (hm : m < t.size) (h2 : t.size ≤ 2) :
    numV (t.data.toList.take m) < 256 ∧ numV (t.data.toList.take (m + 1)) = numV (t.data.toList.take m) * 256 + (t.data[m]'hm).toNat := by
  constructor
  · have h := numV_lt (t.data.toList.take m)
    have hl : (t.data.toList.take m).length ≤ 1 := by rw [List.length_take]; omega
    have := Nat.pow_le_pow_right (n := 256) (by decide) hl
    omega
  · rw [List.take_succ_eq_append_getElem (by simpa using hm), numV_snoc]
    simp
theorem numU32_step (t : ByteArray) (m : Nat) (hm : m < t.size) (h2 : t.size ≤ 2) :
    bits .or .u32 ((numV (t.data.toList.take m) : Int) * 256 % 4294967296) (((t.data[m]'hm).toNat : Int) % 4294967296) = (numV (t.data.toList.take (m + 1)) : Int) := by
  obtain ⟨h1, h3⟩ := numV_step t m hm h2
  have h4 := (t.data[m]'hm).toNat_lt
  rw [Int.emod_eq_of_lt (by omega) (by omega), Int.emod_eq_of_lt (by omega) (by omega), bitsOrU32 _ _ (by omega) (by omega), h3]
set_option maxHeartbeats 1000000 in
theorem numFlag_any (b : Nat) (r : ByteArray) (bad : Bool) (k : Nat) (hk : k ≤ 2) (w : World) (h : Rdr b r bad w) :
    Calls Tryd.prog 105 #[.pointer (some ⟨b, 0, none⟩), .int .i64 k] w fun e w' => e = .returned (.int .u32 (numV (textR r bad k).1.data.toList)) ∧ Rdr b (textR r bad k).2.1 (textR r bad k).2.2 w' ∧ w.grownBy w' (some b) := by
  have hlt := h.lt
  have hsz : (textR r bad k).1.size ≤ 2 := by
    unfold textR
    split
    · exact Nat.zero_le _
    · simp; omega
  have H := Lib.hid h; clear h
  generalize ht : (textR r bad k).1 = t at hsz ⊢
  have HT := Lib.hid ht; clear ht
  go_enter Tryd.func105, Tryd.ntmps105
  go_wp2_with (first | (go_at_call 106; refine (text_any b r bad k _ H.out).mono ?_; rintro e wa ⟨rfl, hRa, hga⟩; rw [HT.out]; have hza := hga.size) | (((with_reducible refine gate_dst (N := 11) rfl ?_); refine wpList_bytes wa.heap.size rfl 9 113 5 _ rfl Tryd.underlying9 Tryd.underlying113 Tryd.underlying5 t rfl (by first | assumption | (simp; omega) | omega) (by unfold maxLen; omega) ?_; rintro v_wb wb ho_wb hv_wb hb_wb; obtain ⟨hc_wb, hf_wb⟩ := bcell hb_wb; have hz_wb := hb_wb.size; (try simp only [World.size_alloc, World.size_setCell, World.size_drew] at hz_wb); (try simp only [World.size_alloc, World.size_setCell, World.size_drew] at hc_wb); (try simp only [World.size_alloc, World.size_setCell, World.size_drew] at hf_wb); skip); obtain ⟨A, c, rfl⟩ := ho_wb.form))
  have HO := Lib.hid ho_wb; clear ho_wb
  have htl : t.data.toList.length = t.size := rfl
  have HTL := Lib.hid htl; clear htl
  go_loopw [5, 13] (fun v i wr => ∃ m : Nat, m ≤ t.size ∧ i = .int .i64 m ∧ v = .int .u32 (numV (t.data.toList.take m)) ∧ wr = wb) (fun _ i _ => t.size - (intOf i).toNat)
  case atStart => exact ⟨0, Nat.zero_le _, rfl, rfl, rfl⟩
  case round =>
    obtain ⟨m, hm, rfl, rfl, rfl⟩ := hrel
    by_cases hlt2 : m < t.size
    · obtain ⟨g, cap, hv, h1, h2, h3, hcell, hfr⟩ := (HO.out).at (by rw [HTL.out]; omega)
      cases hv
      have hc := hcell m (by rw [HTL.out]; omega)
      rw [bcs_get _ _ (by rw [HTL.out]; omega)] at hc
      clear hcell hfr
      go_wp2
      refine ⟨⟨m + 1, by omega, by go_num, ?_, trivial⟩, by simp [intOf]; omega⟩
      rw [numU32_step t m hlt2 hsz]
    · have hm2 : m = t.size := by omega
      subst hm2
      clear hlt2
      go_wp2
      go_ret
      refine ⟨?_, hRa.below hb_wb, Lib.grownBy_below hga hb_wb⟩
      rw [List.take_of_length_le (by rw [HTL.out]; omega)]
      rfl
theorem wrap64_small (n : Nat) (h : n < 9223372036854775808) : wrap64 (n : Int) = n := by unfold wrap64; omega
theorem numI64_step (t : ByteArray) (m : Nat) (hm : m < t.size) (h2 : t.size ≤ 2) :
    bits .or .i64 (wrap64 ((numV (t.data.toList.take m) : Int) * 256)) (wrap64 ((t.data[m]'hm).toNat : Int)) = (numV (t.data.toList.take (m + 1)) : Int) := by
  obtain ⟨h1, h3⟩ := numV_step t m hm h2
  have h4 := (t.data[m]'hm).toNat_lt
  rw [show ((numV (t.data.toList.take m) : Int) * 256) = ((numV (t.data.toList.take m) * 256 : Nat) : Int) by simp, wrap64_small _ (by omega), wrap64_small _ (by omega), Int.natCast_mul]
  rw [show ((256 : Nat) : Int) = 256 from rfl, bitsOrI64 _ _ (by omega) (by omega), h3]
set_option maxHeartbeats 1000000 in
theorem numInt_any (b : Nat) (r : ByteArray) (bad : Bool) (k : Nat) (hk : k ≤ 2) (w : World) (h : Rdr b r bad w) :
    Calls Tryd.prog 122 #[.pointer (some ⟨b, 0, none⟩), .int .i64 k] w fun e w' => e = .returned (.int .i64 (numV (textR r bad k).1.data.toList)) ∧ Rdr b (textR r bad k).2.1 (textR r bad k).2.2 w' ∧ w.grownBy w' (some b) := by
  have hlt := h.lt
  have hsz : (textR r bad k).1.size ≤ 2 := by
    unfold textR
    split
    · exact Nat.zero_le _
    · simp; omega
  have H := Lib.hid h; clear h
  generalize ht : (textR r bad k).1 = t at hsz ⊢
  have HT := Lib.hid ht; clear ht
  go_enter Tryd.func122, Tryd.ntmps122
  go_wp2_with (first | (go_at_call 106; refine (text_any b r bad k _ H.out).mono ?_; rintro e wa ⟨rfl, hRa, hga⟩; rw [HT.out]; have hza := hga.size) | (((with_reducible refine gate_dst (N := 11) rfl ?_); refine wpList_bytes wa.heap.size rfl 9 113 5 _ rfl Tryd.underlying9 Tryd.underlying113 Tryd.underlying5 t rfl (by first | assumption | (simp; omega) | omega) (by unfold maxLen; omega) ?_; rintro v_wb wb ho_wb hv_wb hb_wb; obtain ⟨hc_wb, hf_wb⟩ := bcell hb_wb; have hz_wb := hb_wb.size; (try simp only [World.size_alloc, World.size_setCell, World.size_drew] at hz_wb); (try simp only [World.size_alloc, World.size_setCell, World.size_drew] at hc_wb); (try simp only [World.size_alloc, World.size_setCell, World.size_drew] at hf_wb); skip); obtain ⟨A, c, rfl⟩ := ho_wb.form))
  have HO := Lib.hid ho_wb; clear ho_wb
  have htl : t.data.toList.length = t.size := rfl
  have HTL := Lib.hid htl; clear htl
  go_loopw [5, 13] (fun v i wr => ∃ m : Nat, m ≤ t.size ∧ i = .int .i64 m ∧ v = .int .i64 (numV (t.data.toList.take m)) ∧ wr = wb) (fun _ i _ => t.size - (intOf i).toNat)
  case atStart => exact ⟨0, Nat.zero_le _, rfl, rfl, rfl⟩
  case round =>
    obtain ⟨m, hm, rfl, rfl, rfl⟩ := hrel
    by_cases hlt2 : m < t.size
    · obtain ⟨g, cap, hv, h1, h2, h3, hcell, hfr⟩ := (HO.out).at (by rw [HTL.out]; omega)
      cases hv
      have hc := hcell m (by rw [HTL.out]; omega)
      rw [bcs_get _ _ (by rw [HTL.out]; omega)] at hc
      clear hcell hfr
      go_wp2
      refine ⟨⟨m + 1, by omega, by go_num, ?_, trivial⟩, by simp [intOf]; omega⟩
      rw [numI64_step t m hlt2 hsz]
    · have hm2 : m = t.size := by omega
      subst hm2
      clear hlt2
      go_wp2
      go_ret
      refine ⟨?_, hRa.below hb_wb, Lib.grownBy_below hga hb_wb⟩
      rw [List.take_of_length_le (by rw [HTL.out]; omega)]
      rfl
def sizedR (r : ByteArray) (bad : Bool) : ByteArray × ByteArray × Bool :=
  textR (textR r bad 2).2.1 (textR r bad 2).2.2 (numV (textR r bad 2).1.data.toList)
set_option maxHeartbeats 400000 in
theorem rsized_any (b : Nat) (r : ByteArray) (bad : Bool) (w : World) (h : Rdr b r bad w) :
    Calls Tryd.prog 104 #[.pointer (some ⟨b, 0, none⟩)] w fun e w' => e = .returned (.string (sizedR r bad).1) ∧ Rdr b (sizedR r bad).2.1 (sizedR r bad).2.2 w' ∧ w.grownBy w' (some b) := by
  have H := Lib.hid h; clear h
  go_enter Tryd.func104, Tryd.ntmps104
  go_wp2_with (first | (go_at_call 122; refine (numInt_any b r bad 2 (by omega) _ H.out).mono ?_; rintro e wa ⟨rfl, hRa, hga⟩) | (go_at_call 106; refine (text_any b _ _ _ _ hRa).mono ?_; rintro e wc ⟨rfl, hRc, hgc⟩))
  go_ret
  exact ⟨rfl, hRc, hga.trans hgc⟩
end Go.Proofs.YtmfejehhfmaodabDoor

end
