/- Own texts and the print's words that they use, joined by a program of this session. -/
import Derived.Test.YtmfejehhfmaodabDoorYFnExactPoolFind21
import Derived.Test.YtmfejehhfmaodabDoorYFnExactPoolFind27
import Derived.Test.YtmfejehhfmaodabDoorYFnExactPoolFind26
import Derived.Test.YtmfejehhfmaodabDoorYFnExactPoolFind23
import Derived.Test.YtmfejehhfmaodabDoorYFnExactPoolFind24
section
namespace Go.Proofs.YtmfejehhfmaodabDoor.Z
open Go.RowKit Go.Proofs.YtmfejehhfmaodabDoorW.PrintWords Go.Proofs.YtmfejehhfmaodabDoorW.PrintLast Go.Proofs.YtmfejehhfmaodabDoorW.PrintMore
attribute [local go_sem] max2_int min2_int max_two min_two max_three min_three max_four min_four   -- for this text's walks alone
set_option linter.unusedVariables false
set_option linter.unusedSimpArgs false
def spec_PoolFind.j0 : Nat → ByteArray → Bool → Int → List ByteArray → Option (ByteArray × ByteArray × ByteArray × ByteArray × Int)
  | 0, _, _, _, _ => none
  | k + 1, x1, x15, x100002000, x100002001 => if x15 = true then (some ((⟨#[]⟩ : ByteArray), (⟨#[]⟩ : ByteArray), (⟨#[]⟩ : ByteArray), (⟨#[]⟩ : ByteArray), 1)) else ((spec_l3Hashes.f k x100002000 x100002001).bind fun t100004 => ((spec_l3Find.f k x100002000 x100002001 t100004 x1).bind fun bt100007 => (some (bt100007.1, bt100007.2.1, bt100007.2.2.1, bt100007.2.2.2.1, bt100007.2.2.2.2))))
def spec_PoolFind.f (k : Nat) (a0_0 : Int) (l0_1 : List ByteArray) (a1 : ByteArray) : Option (ByteArray × ByteArray × ByteArray × ByteArray × Int) := (spec_l3PoolOk.f a0_0 l0_1).bind fun t100003 => (if t100003 = true then (spec_PoolFind.j0 k a1 ((a1.size : Int) != a0_0) a0_0 l0_1) else (spec_PoolFind.j0 k a1 true a0_0 l0_1))
theorem spec_PoolFind.mono_l : ∀ k, (∀ y0 y1 y2 y3, LeO (spec_PoolFind.j0 k y0 y1 y2 y3) (spec_PoolFind.j0 (k + 1) y0 y1 y2 y3))
  | 0 => fun _ _ _ _ r h => by simp [spec_PoolFind.j0] at h
  | k + 1 => by
    have ih0 := spec_PoolFind.mono_l k
    · intro y0 y1 y2 y3
      unfold spec_PoolFind.j0
      repeat' first
      | (with_reducible exact ih0 _ _ _ _)
      | (with_reducible exact spec_l3Find.mono _ _ _ _ _)
      | (with_reducible exact spec_l3Hashes.mono _ _ _)
      | (with_reducible exact LeO.refl _)
      | (with_reducible exact LeO.none _)
      | (with_reducible refine LeO.ite ?_ ?_)
      | (with_reducible refine LeO.bind ?_ (fun _ => ?_))
      | exact ih0 _ _ _ _
      | exact spec_l3Find.mono _ _ _ _ _
      | exact spec_l3Hashes.mono _ _ _
      | exact LeO.none _
      | refine LeO.ite ?_ ?_
      | refine LeO.bind ?_ (fun _ => ?_)
theorem spec_PoolFind.mono : ∀ a0 a1 a2 k, LeO (spec_PoolFind.f k a0 a1 a2) (spec_PoolFind.f (k + 1) a0 a1 a2) := by
  intro a0 a1 a2 k
  have ih0 := spec_PoolFind.mono_l k
  unfold spec_PoolFind.f
  repeat' first
      | (with_reducible exact ih0 _ _ _ _)
      | (with_reducible exact spec_l3Find.mono _ _ _ _ _)
      | (with_reducible exact spec_l3Hashes.mono _ _ _)
      | (with_reducible exact LeO.refl _)
      | (with_reducible exact LeO.none _)
      | (with_reducible refine LeO.ite ?_ ?_)
      | (with_reducible refine LeO.bind ?_ (fun _ => ?_))
      | exact ih0 _ _ _ _
      | exact spec_l3Find.mono _ _ _ _ _
      | exact spec_l3Hashes.mono _ _ _
      | exact LeO.none _
      | refine LeO.ite ?_ ?_
      | refine LeO.bind ?_ (fun _ => ?_)
def spec_PoolFind.T3 : Bool × List (List Nat × List Nat) := (true, [([], []), ([], []), ([1], [1]), ([], []), ([0, 2, 3, 2], [0, 2, 3]), ([4], [4]), ([4], [4]), ([5, 4, 0, 1, 2, 3, 4, 5, 6], [5]), ([6, 7, 0, 1, 2, 3, 4, 5, 6, 7], [6])])
def spec_PoolFind.B3 : List Nat := [0, 0, 2, 0, 15, 31, 31, 127, 255]
theorem spec_PoolFind.tab3 : rtab .any (opsOf Tryd.f10 3) = spec_PoolFind.T3 := by kernel_rfl
theorem spec_PoolFind.bits3 : waitsOk spec_PoolFind.T3.2 spec_PoolFind.B3 = true := by kernel_rfl
set_option maxHeartbeats 8000000 in
set_option maxRecDepth 100000 in
theorem spec_PoolFind.calls (k : Nat) (a0_0 : Int) (A0_1 : Option Addr) (c0_1 : Nat) (l0_1 : List ByteArray) (a1 : ByteArray) (r1 : ByteArray) (r2 : ByteArray) (r3 : ByteArray) (r4 : ByteArray) (r5 : Int) (w : World) (hr0_1 : Kd.C Kd.string w A0_1 l0_1.length l0_1) (hc0_1 : l0_1.length ≤ c0_1) (h : spec_PoolFind.f k a0_0 l0_1 a1 = some (r1, r2, r3, r4, r5)) :
    Calls Tryd.prog 10 #[.agg #[.int .i64 a0_0, .slice A0_1 l0_1.length c0_1], .string a1] w fun e w' => e = .returned (.tuple #[.agg #[.string r1, .string r2, .string r3, .string r4], .int .i64 r5]) ∧ Below w.heap.size w w' := by
  have hu30 := Tryd.underlying30
  have hu27 := Tryd.underlying27
  have HR0_1 := Aside0.mk hr0_1
  have HC0_1 := Aside0.mk hc0_1
  clear hr0_1 hc0_1
  have HB := Aside0.mk (Below.refl w.heap.size w)
  have H : ((spec_l3PoolOk.f a0_0 l0_1).bind fun t100003 => (if t100003 = true then (spec_PoolFind.j0 k a1 ((a1.size : Int) != a0_0) a0_0 l0_1) else (spec_PoolFind.j0 k a1 true a0_0 l0_1))) = some (r1, r2, r3, r4, r5) := h
  clear h
  have HC3 := Aside0.mk H
  clear H
  go_enter Tryd.func10, Tryd.ntmps10
  go_upto_region 1 with (first | ((with_reducible refine gate_dst (N := 2) rfl ?_); (try (refine gate_guard (by rfl) ?_; dsimp only)); refine box_event ?hg (N := 2) ?hd (cs := #[.int .i64 a0_0, .slice A0_1 l0_1.length c0_1]) (t := 30) ?hr ?_; (case hd => rfl); (case hg => rfl); (case hr => first | (go_simp; done) | (go_simp; rfl)); intro gb100001 hg w4 hbox hb; have n0_ := Aside0.mk (below_step (by repeat (first | (with_reducible first | exact HB.out | apply below_alloc | apply pw_below_drewN | apply below_drew1) | exact HB.out)) hb); have n1_ := Aside0.mk (hbox); have n2_ := Aside0.mk ((by rw [hg]; exact (below_size (by repeat (first | (with_reducible first | exact HB.out | apply below_alloc | apply pw_below_drewN | apply below_drew1) | exact HB.out))) : w.heap.size ≤ gb100001)); have n3_ := Aside0.mk ((by rw [hg]; exact (below_size (by repeat (first | (with_reducible first | exact HB.out | apply below_alloc | apply pw_below_drewN | apply below_drew1) | exact HB.out))) : w.heap.size ≤ gb100001)); clear HB; have HB := n0_; have BK100001 := n1_; have GW100001 := n2_; have GE100001 := n3_; clear n0_ n1_ n2_ n3_; clear hb hbox hg) | ((with_reducible refine gate_dst (N := 4) rfl ?_); (try (refine gate_guard (by rfl) ?_; dsimp only)); refine box_event ?hg (N := 4) ?hd (cs := #[.string (⟨#[]⟩ : ByteArray), .string (⟨#[]⟩ : ByteArray), .string (⟨#[]⟩ : ByteArray), .string (⟨#[]⟩ : ByteArray)]) (t := 27) ?hr ?_; (case hd => rfl); (case hg => rfl); (case hr => first | (go_simp; done) | (go_simp; rfl)); intro gb100002 hg w5 hbox hb; have n0_ := Aside0.mk (blk_below (g := gb100001) (o := .cells #[.int .i64 a0_0, .slice A0_1 l0_1.length c0_1] 30 (0, 0)) (by (with_reducible repeat (first | refine blk_drewN ?_ _ | refine blk_drew ?_ | refine blk_alloc ?_ _)); exact BK100001.out) hb); have n1_ := Aside0.mk (below_step (by repeat (first | (with_reducible first | exact HB.out | apply below_alloc | apply pw_below_drewN | apply below_drew1 | refine below_set ?_ GE100001.out) | exact HB.out)) hb); have n2_ := Aside0.mk (hbox); have n3_ := Aside0.mk ((by rw [hg]; exact (below_size (by repeat (first | (with_reducible first | exact HB.out | apply below_alloc | apply pw_below_drewN | apply below_drew1 | refine below_set ?_ GE100001.out) | exact HB.out))) : w.heap.size ≤ gb100002)); have n4_ := Aside0.mk ((by rw [hg]; exact (below_size (by repeat (first | (with_reducible first | exact HB.out | apply below_alloc | apply pw_below_drewN | apply below_drew1 | refine below_set ?_ GE100001.out) | exact HB.out))) : w.heap.size ≤ gb100002)); have n5_ := Aside0.mk ((by rw [hg]; exact Nat.ne_of_lt (blk_lt (g := gb100001) (o := .cells #[.int .i64 a0_0, .slice A0_1 l0_1.length c0_1] 30 (0, 0)) (by (with_reducible repeat (first | refine blk_drewN ?_ _ | refine blk_drew ?_ | refine blk_alloc ?_ _)); exact BK100001.out)) : gb100001 ≠ gb100002)); have n6_ := Aside0.mk ((by rw [hg]; exact Nat.ne_of_gt (blk_lt (g := gb100001) (o := .cells #[.int .i64 a0_0, .slice A0_1 l0_1.length c0_1] 30 (0, 0)) (by (with_reducible repeat (first | refine blk_drewN ?_ _ | refine blk_drew ?_ | refine blk_alloc ?_ _)); exact BK100001.out)) : gb100002 ≠ gb100001)); clear BK100001; clear HB; have BK100001 := n0_; have HB := n1_; have BK100002 := n2_; have GW100002 := n3_; have GE100002 := n4_; have NB100001_100002 := n5_; have NB100002_100001 := n6_; clear n0_ n1_ n2_ n3_ n4_ n5_ n6_; clear hb hbox hg))
  (try simp only [Act.put, List.setIfInBounds_toArray, List.set_cons_zero, List.set_cons_succ])
  go_cut [15] (fun v15 wc => ∃ (kq : Nat) (x15_2 : Bool), v15 = .bool x15_2 ∧ Aside0 (spec_PoolFind.j0 kq a1 x15_2 a0_0 l0_1 = some (r1, r2, r3, r4, r5)) ∧ Aside0 (kq ≤ k) ∧ Aside0 (wc.heap[gb100001]? = some (.cells #[.int .i64 a0_0, (.slice A0_1 l0_1.length c0_1)] 30 (0, 0))) ∧ Aside0 (wc.heap[gb100002]? = some (.cells #[.string (⟨#[]⟩ : ByteArray), .string (⟨#[]⟩ : ByteArray), .string (⟨#[]⟩ : ByteArray), .string (⟨#[]⟩ : ByteArray)] 27 (0, 0))) ∧ Aside0 (Below w.heap.size w wc))
  case first =>
    have H := HC3.out
    clear HC3
    replace H := Option.bind_eq_some_iff.mp H
    obtain ⟨t100003, A60, H⟩ := H
    replace H : (if t100003 = true then (spec_PoolFind.j0 k a1 ((a1.size : Int) != a0_0) a0_0 l0_1) else (spec_PoolFind.j0 k a1 true a0_0 l0_1)) = some (r1, r2, r3, r4, r5) := H
    have A6 := Aside0.mk A60
    clear A60
    by_cases c7 : t100003 = true
    · subst c7
      have H1 : (spec_PoolFind.j0 k a1 ((a1.size : Int) != a0_0) a0_0 l0_1) = some (r1, r2, r3, r4, r5) := by rw [if_pos rfl] at H; exact H
      clear H
      have H := H1
      clear H1
      have H' := Aside0.mk H
      clear H
      have hnb8 := NB100001_100002.out
      have hnc8 := NB100002_100001.out
      have hcz9_0 : w5.cell? ⟨gb100001, 0, none⟩ = some (.int .i64 a0_0) := (blk_cell BK100001.out 0).trans rfl
      have hcz9_1 : w5.cell? ⟨gb100001, 1, none⟩ = some (.slice A0_1 l0_1.length c0_1) := (blk_cell BK100001.out 1).trans rfl
      have hfz9_0 := blk_frozen BK100001.out 0
      have hfz9_1 := blk_frozen BK100001.out 1
      go_wp2_with (first | ((with_reducible refine gate_callee (f := 33) rfl ?_); refine goesL_ (some 7) rfl rfl Tryd.func33 (by kernel_rfl) rfl #[.agg #[.int .i64 a0_0, .slice A0_1 l0_1.length c0_1]] rfl (by (try simp only [List.map_toArray, List.map_cons, List.map_nil]); first | done | rfl | (simp only [List.length_drop, List.length_take]; rfl)) ?_; (with_reducible refine (spec_l3PoolOk.calls a0_0 _ _ l0_1 true _ ?side1 ?side2 A6.out).mono ?_); (case side1 => repeat (first | exact (Kd.C_below HR0_1.out HB.out) | (with_reducible refine Kd.C_alloc ?_ _) | (with_reducible refine Kd.C_drewN ?_ _) | (with_reducible refine Kd.C_drew ?_))); (case side2 => exact HC0_1.out); rintro e w10 ⟨rfl, hb⟩; refine ⟨_, rfl, ?_⟩; have n0_ := Aside0.mk (blk_below (g := gb100001) (o := .cells #[.int .i64 a0_0, .slice A0_1 l0_1.length c0_1] 30 (0, 0)) (by (with_reducible repeat (first | refine blk_drewN ?_ _ | refine blk_drew ?_ | refine blk_alloc ?_ _)); exact BK100001.out) hb); have n1_ := Aside0.mk (blk_below (g := gb100002) (o := .cells #[.string (⟨#[]⟩ : ByteArray), .string (⟨#[]⟩ : ByteArray), .string (⟨#[]⟩ : ByteArray), .string (⟨#[]⟩ : ByteArray)] 27 (0, 0)) (by (with_reducible repeat (first | refine blk_drewN ?_ _ | refine blk_drew ?_ | refine blk_alloc ?_ _)); exact BK100002.out) hb); have n2_ := Aside0.mk (below_step (by repeat (first | (with_reducible first | exact HB.out | apply below_alloc | apply pw_below_drewN | apply below_drew1 | refine below_set ?_ GE100001.out | refine below_set ?_ GE100002.out) | exact HB.out)) hb); clear BK100001; clear BK100002; clear HB; have BK100001 := n0_; have BK100002 := n1_; have HB := n2_; clear n0_ n1_ n2_; (try clear hb); (try clear hb2); (try clear hk); (try clear hi); have hcz11_0 : w10.cell? ⟨gb100001, 0, none⟩ = some (.int .i64 a0_0) := (blk_cell BK100001.out 0).trans rfl; have hcz11_1 : w10.cell? ⟨gb100001, 1, none⟩ = some (.slice A0_1 l0_1.length c0_1) := (blk_cell BK100001.out 1).trans rfl; have hfz11_0 := blk_frozen BK100001.out 0; have hfz11_1 := blk_frozen BK100001.out 1))
      go_meet
      case rel => exact ⟨_, (((a1.size : Int) != a0_0)), (by first | rfl | (simp; done) | (simp [*]; done)), H', ⟨by first | omega | exact Nat.le_refl _⟩, ⟨by (with_reducible repeat (first | refine blk_drewN ?_ _ | refine blk_drew ?_ | refine blk_alloc ?_ _)); exact BK100001.out⟩, ⟨by (with_reducible repeat (first | refine blk_drewN ?_ _ | refine blk_drew ?_ | refine blk_alloc ?_ _)); exact BK100002.out⟩, ⟨by repeat (first | (with_reducible first | exact HB.out | apply below_alloc | apply pw_below_drewN | apply below_drew1 | refine below_set ?_ GE100001.out | refine below_set ?_ GE100002.out) | exact HB.out)⟩⟩
    · replace c7 := Bool.eq_false_iff.mpr c7
      subst c7
      have H1 : (spec_PoolFind.j0 k a1 true a0_0 l0_1) = some (r1, r2, r3, r4, r5) := by rw [if_neg (show ¬ (false = true) by decide)] at H; exact H
      clear H
      have H := H1
      clear H1
      have H' := Aside0.mk H
      clear H
      have hnb12 := NB100001_100002.out
      have hnc12 := NB100002_100001.out
      have hcz13_0 : w5.cell? ⟨gb100001, 0, none⟩ = some (.int .i64 a0_0) := (blk_cell BK100001.out 0).trans rfl
      have hcz13_1 : w5.cell? ⟨gb100001, 1, none⟩ = some (.slice A0_1 l0_1.length c0_1) := (blk_cell BK100001.out 1).trans rfl
      have hfz13_0 := blk_frozen BK100001.out 0
      have hfz13_1 := blk_frozen BK100001.out 1
      go_wp2_with (first | ((with_reducible refine gate_callee (f := 33) rfl ?_); refine goesL_ (some 7) rfl rfl Tryd.func33 (by kernel_rfl) rfl #[.agg #[.int .i64 a0_0, .slice A0_1 l0_1.length c0_1]] rfl (by (try simp only [List.map_toArray, List.map_cons, List.map_nil]); first | done | rfl | (simp only [List.length_drop, List.length_take]; rfl)) ?_; (with_reducible refine (spec_l3PoolOk.calls a0_0 _ _ l0_1 false _ ?side1 ?side2 A6.out).mono ?_); (case side1 => repeat (first | exact (Kd.C_below HR0_1.out HB.out) | (with_reducible refine Kd.C_alloc ?_ _) | (with_reducible refine Kd.C_drewN ?_ _) | (with_reducible refine Kd.C_drew ?_))); (case side2 => exact HC0_1.out); rintro e w14 ⟨rfl, hb⟩; refine ⟨_, rfl, ?_⟩; have n0_ := Aside0.mk (blk_below (g := gb100001) (o := .cells #[.int .i64 a0_0, .slice A0_1 l0_1.length c0_1] 30 (0, 0)) (by (with_reducible repeat (first | refine blk_drewN ?_ _ | refine blk_drew ?_ | refine blk_alloc ?_ _)); exact BK100001.out) hb); have n1_ := Aside0.mk (blk_below (g := gb100002) (o := .cells #[.string (⟨#[]⟩ : ByteArray), .string (⟨#[]⟩ : ByteArray), .string (⟨#[]⟩ : ByteArray), .string (⟨#[]⟩ : ByteArray)] 27 (0, 0)) (by (with_reducible repeat (first | refine blk_drewN ?_ _ | refine blk_drew ?_ | refine blk_alloc ?_ _)); exact BK100002.out) hb); have n2_ := Aside0.mk (below_step (by repeat (first | (with_reducible first | exact HB.out | apply below_alloc | apply pw_below_drewN | apply below_drew1 | refine below_set ?_ GE100001.out | refine below_set ?_ GE100002.out) | exact HB.out)) hb); clear BK100001; clear BK100002; clear HB; have BK100001 := n0_; have BK100002 := n1_; have HB := n2_; clear n0_ n1_ n2_; (try clear hb); (try clear hb2); (try clear hk); (try clear hi)))
      go_meet
      case rel => exact ⟨_, (true), (by first | rfl | (simp; done) | (simp [*]; done)), H', ⟨by first | omega | exact Nat.le_refl _⟩, ⟨by (with_reducible repeat (first | refine blk_drewN ?_ _ | refine blk_drew ?_ | refine blk_alloc ?_ _)); exact BK100001.out⟩, ⟨by (with_reducible repeat (first | refine blk_drewN ?_ _ | refine blk_drew ?_ | refine blk_alloc ?_ _)); exact BK100002.out⟩, ⟨by repeat (first | (with_reducible first | exact HB.out | apply below_alloc | apply pw_below_drewN | apply below_drew1 | refine below_set ?_ GE100001.out | refine below_set ?_ GE100002.out) | exact HB.out)⟩⟩
  case rest =>
    clear HC3
    try clear c1
    try clear p2
    try clear c3
    try clear c7
    try clear c8
    try clear c10
    try clear c12
    try clear hcz11_0
    try clear hcz11_1
    try clear hcz13_0
    try clear hcz13_1
    try clear hcz9_0
    try clear hcz9_1
    try clear hfz11_0
    try clear hfz11_1
    try clear hfz13_0
    try clear hfz13_1
    try clear hfz9_0
    try clear hfz9_1
    obtain ⟨kq, x15_2, rfl, HA, HJ2, BK100001, BK100002, HB⟩ := hcut
    cases kq with
    | zero => exact absurd HA.out (by simp [spec_PoolFind.j0])
    | succ kj2 =>
      have H := HA.out
      clear HA
      simp only [spec_PoolFind.j0] at H
      by_cases c15 : x15_2 = true
      · subst c15
        have H1 : (some ((⟨#[]⟩ : ByteArray), (⟨#[]⟩ : ByteArray), (⟨#[]⟩ : ByteArray), (⟨#[]⟩ : ByteArray), 1)) = some (r1, r2, r3, r4, r5) := by rw [if_pos rfl] at H; exact H
        clear H
        have H := H1
        clear H1
        simp only [Option.some.injEq, Prod.mk.injEq] at H
        obtain ⟨rfl, rfl, rfl, rfl, rfl⟩ := H
        have hnb16 := NB100002_100001.out
        have hnc16 := NB100001_100002.out
        have hcz17_0 : wc.cell? ⟨gb100002, 0, none⟩ = some (.string (⟨#[]⟩ : ByteArray)) := (blk_cell BK100002.out 0).trans rfl
        have hcz17_1 : wc.cell? ⟨gb100002, 1, none⟩ = some (.string (⟨#[]⟩ : ByteArray)) := (blk_cell BK100002.out 1).trans rfl
        have hcz17_2 : wc.cell? ⟨gb100002, 2, none⟩ = some (.string (⟨#[]⟩ : ByteArray)) := (blk_cell BK100002.out 2).trans rfl
        have hcz17_3 : wc.cell? ⟨gb100002, 3, none⟩ = some (.string (⟨#[]⟩ : ByteArray)) := (blk_cell BK100002.out 3).trans rfl
        have hfz17_0 := blk_frozen BK100002.out 0
        have hfz17_1 := blk_frozen BK100002.out 1
        have hfz17_2 := blk_frozen BK100002.out 2
        have hfz17_3 := blk_frozen BK100002.out 3
        go_wp2
        refine bodyPost_ret (results_ct rfl _ _ gb100002 27 #[.string (⟨#[]⟩ : ByteArray), .string (⟨#[]⟩ : ByteArray), .string (⟨#[]⟩ : ByteArray), .string (⟨#[]⟩ : ByteArray)] (0, 0) _ rfl (by (with_reducible repeat (first | refine blk_drewN ?_ _ | refine blk_drew ?_ | refine blk_alloc ?_ _)); refine blk_put (cs := #[.string (⟨#[]⟩ : ByteArray), .string (⟨#[]⟩ : ByteArray), .string (⟨#[]⟩ : ByteArray), .string (⟨#[]⟩ : ByteArray)]) ?_ 3 _ rfl; (with_reducible repeat (first | refine blk_drewN ?_ _ | refine blk_drew ?_ | refine blk_alloc ?_ _)); refine blk_put (cs := #[.string (⟨#[]⟩ : ByteArray), .string (⟨#[]⟩ : ByteArray), .string (⟨#[]⟩ : ByteArray), .string (⟨#[]⟩ : ByteArray)]) ?_ 2 _ rfl; (with_reducible repeat (first | refine blk_drewN ?_ _ | refine blk_drew ?_ | refine blk_alloc ?_ _)); refine blk_put (cs := #[.string (⟨#[]⟩ : ByteArray), .string (⟨#[]⟩ : ByteArray), .string (⟨#[]⟩ : ByteArray), .string (⟨#[]⟩ : ByteArray)]) ?_ 1 _ rfl; (with_reducible repeat (first | refine blk_drewN ?_ _ | refine blk_drew ?_ | refine blk_alloc ?_ _)); refine blk_put (cs := #[.string (⟨#[]⟩ : ByteArray), .string (⟨#[]⟩ : ByteArray), .string (⟨#[]⟩ : ByteArray), .string (⟨#[]⟩ : ByteArray)]) ?_ 0 _ rfl; (with_reducible repeat (first | refine blk_drewN ?_ _ | refine blk_drew ?_ | refine blk_alloc ?_ _)); exact BK100002.out) Tryd.underlying27 rfl (by kernel_rfl)) rfl ?_
        exact ⟨by first | rfl | (simp [errW_none, errW_some] <;> rfl) | (simp [*, errW_none, errW_some] <;> rfl), by repeat (first | (with_reducible first | exact HB.out | apply below_alloc | apply pw_below_drewN | apply below_drew1 | refine below_set ?_ GE100001.out | refine below_set ?_ GE100002.out) | exact HB.out)⟩
      · replace c15 := Bool.eq_false_iff.mpr c15
        subst c15
        have H1 : ((spec_l3Hashes.f kj2 a0_0 l0_1).bind fun t100004 => ((spec_l3Find.f kj2 a0_0 l0_1 t100004 a1).bind fun bt100007 => (some (bt100007.1, bt100007.2.1, bt100007.2.2.1, bt100007.2.2.2.1, bt100007.2.2.2.2)))) = some (r1, r2, r3, r4, r5) := by rw [if_neg (show ¬ (false = true) by decide)] at H; exact H
        clear H
        have H := H1
        clear H1
        replace H := Option.bind_eq_some_iff.mp H
        obtain ⟨t100004, A180, H⟩ := H
        replace H : ((spec_l3Find.f kj2 a0_0 l0_1 t100004 a1).bind fun bt100007 => (some (bt100007.1, bt100007.2.1, bt100007.2.2.1, bt100007.2.2.2.1, bt100007.2.2.2.2))) = some (r1, r2, r3, r4, r5) := H
        have A18 := Aside0.mk A180
        clear A180
        replace H := Option.bind_eq_some_iff.mp H
        obtain ⟨⟨t100007, t100008, t100009, t100010, t100011⟩, A190, H⟩ := H
        replace H : (some (t100007, t100008, t100009, t100010, t100011)) = some (r1, r2, r3, r4, r5) := H
        have A19 := Aside0.mk A190
        clear A190
        simp only [Option.some.injEq, Prod.mk.injEq] at H
        obtain ⟨rfl, rfl, rfl, rfl, rfl⟩ := H
        try go_wp2
        have n0_ := Aside0.mk (blk_drew BK100001.out)
        have n1_ := Aside0.mk (blk_drew BK100002.out)
        have n2_ := Aside0.mk (below_drew1 HB.out)
        clear BK100001
        clear BK100002
        clear HB
        have BK100001 := n0_
        have BK100002 := n1_
        have HB := n2_
        clear n0_ n1_ n2_
        refine start_ (n := 9) (S := fun w' => w'.cell? ⟨gb100001, 0, none⟩ = some (.int .i64 a0_0) ∧ w'.cell? ⟨gb100001, 1, none⟩ = some (.slice A0_1 l0_1.length c0_1)) (ds := []) #[false, false, false, false, false, false, false, false, false] (by kernel_rfl) rfl rfl ⟨(blk_cell BK100001.out 0).trans rfl, (blk_cell BK100001.out 1).trans rfl⟩ (fun hHeld => ?_); refine with_tabW spec_PoolFind.tab3 spec_PoolFind.bits3 (fun HT_ HW_ => ?_)
        generalize wc.drew = w20 at BK100001 BK100002 HB hHeld ⊢
        refine pure_ (i := 3) (N := some 20) (v := ?_) (a' := ?_) #[false, false, false, true, false, false, false, false, false] rfl rfl (any_of HT_.out (by kernel_rfl)) (fun _ _ _ h => h) (Or.inl ⟨by rfl, ?_⟩) ?_ ?_
        rotate_left
        · intro w'
          go_simp
          with_reducible rfl
        rotate_left
        · simp only [Act.put, List.setIfInBounds_toArray, List.set_cons_zero, List.set_cons_succ, i64_w, i32_w]
          rfl
        refine take_ (i := 0) (N := some 17) (v := ?_) (a' := ?_) #[true, false, false, true, false, false, false, false, false] rfl rfl (take_ofW HT_.out HW_.out (by kernel_rfl)) (fun _ _ _ h => h) (Or.inl ⟨by rfl, ?_⟩) hHeld ?_ ?_
        rotate_left
        · rintro w' ⟨s0, s1⟩
          go_simp
          with_reducible rfl
        rotate_left
        · simp only [Act.put, List.setIfInBounds_toArray, List.set_cons_zero, List.set_cons_succ, i64_w, i32_w]
          rfl
        refine take_ (i := 1) (N := some 18) (v := ?_) (a' := ?_) #[true, true, false, true, false, false, false, false, false] rfl rfl (take_ofW HT_.out HW_.out (by kernel_rfl)) (fun _ _ _ h => h) (Or.inl ⟨by rfl, ?_⟩) hHeld ?_ ?_
        rotate_left
        · rintro w' ⟨s0, s1⟩
          go_simp
          with_reducible rfl
        rotate_left
        · simp only [Act.put, List.setIfInBounds_toArray, List.set_cons_zero, List.set_cons_succ, i64_w, i32_w]
          rfl
        refine one_ (i := 2) (N := some 19) #[true, true, true, true, false, false, false, false, false] rfl rfl (one_of HT_.out (by kernel_rfl)) (by decide) (fun K hK => ?_)
        refine goes_ Tryd.func35 (by kernel_rfl) rfl #[.agg #[.int .i64 a0_0, .slice A0_1 l0_1.length c0_1]] (by rfl) rfl rfl (by (try simp only [List.map_toArray, List.map_cons, List.map_nil]); first | done | rfl | (simp only [List.length_drop, List.length_take]; rfl)) ?_
        with_reducible refine (spec_l3Hashes.calls kj2 a0_0 _ _ l0_1 t100004 _ ?side1 ?side2 A18.out).mono ?_
        (case side1 => repeat (first | exact (Kd.C_below HR0_1.out HB.out) | (with_reducible refine Kd.C_alloc ?_ _) | (with_reducible refine Kd.C_drewN ?_ _) | (with_reducible refine Kd.C_drew ?_)))
        (case side2 => exact HC0_1.out)
        rintro e w21 ⟨v100005, rfl, ho0, hb⟩
        refine ⟨_, rfl, ?_⟩
        have n0_ := Aside0.mk (Kd.R_lower ho0 (below_size (by repeat (first | (with_reducible first | exact HB.out | apply below_alloc | apply pw_below_drewN | apply below_drew1 | refine below_set ?_ GE100001.out | refine below_set ?_ GE100002.out) | exact HB.out))))
        have n1_ := Aside0.mk (blk_below (g := gb100001) (o := .cells #[.int .i64 a0_0, .slice A0_1 l0_1.length c0_1] 30 (0, 0)) (by (with_reducible repeat (first | refine blk_drewN ?_ _ | refine blk_drew ?_ | refine blk_alloc ?_ _)); exact BK100001.out) hb)
        have n2_ := Aside0.mk (blk_below (g := gb100002) (o := .cells #[.string (⟨#[]⟩ : ByteArray), .string (⟨#[]⟩ : ByteArray), .string (⟨#[]⟩ : ByteArray), .string (⟨#[]⟩ : ByteArray)] 27 (0, 0)) (by (with_reducible repeat (first | refine blk_drewN ?_ _ | refine blk_drew ?_ | refine blk_alloc ?_ _)); exact BK100002.out) hb)
        have n3_ := Aside0.mk (below_step (by repeat (first | (with_reducible first | exact HB.out | apply below_alloc | apply pw_below_drewN | apply below_drew1 | refine below_set ?_ GE100001.out | refine below_set ?_ GE100002.out) | exact HB.out)) hb)
        clear BK100001
        clear BK100002
        clear HB
        have HO100006 := n0_
        have BK100001 := n1_
        have BK100002 := n2_
        have HB := n3_
        clear n0_ n1_ n2_ n3_
        (try clear hb)
        (try clear hb2)
        (try clear hk)
        (try clear hi)
        (try clear ho0)
        obtain ⟨Ao22, co22, eo22⟩ := Kd.R_slice HO100006.out
        (first | subst eo22 | (injection eo22 with f1_ f2_ f3_; have f4_ := f1_.symm; have f5_ := f3_.symm; clear f1_ f2_ f3_; subst f4_; subst f5_))
        refine hK.out _ _ ⟨(blk_cell BK100001.out 0).trans rfl, (blk_cell BK100001.out 1).trans rfl⟩ (fun hHeld => ?_)
        clear hK K
        refine norm_ (a' := ?_) ?_ ?_
        rotate_left
        · show Act.put _ (some 19) _ = _
          simp only [Act.put, List.setIfInBounds_toArray, List.set_cons_zero, List.set_cons_succ, i64_w, i32_w]
          rfl
        refine one_ (i := 4) (N := some 21) #[true, true, true, true, true, false, false, false, false] rfl rfl (one_of HT_.out (by kernel_rfl)) (by decide) (fun K hK => ?_)
        refine goes_ Tryd.func34 (by kernel_rfl) rfl #[.agg #[.int .i64 a0_0, .slice A0_1 l0_1.length c0_1], .slice Ao22 t100004.length co22, .string a1] (by rfl) rfl rfl (by (try simp only [List.map_toArray, List.map_cons, List.map_nil]); first | done | rfl | (simp only [List.length_drop, List.length_take]; rfl)) ?_
        with_reducible refine (spec_l3Find.calls kj2 a0_0 _ _ l0_1 _ _ t100004 a1 t100007 t100008 t100009 t100010 t100011 _ ?side1 ?side2 ?side3 ?side4 A19.out).mono ?_
        (case side1 => repeat (first | exact (Kd.C_below HR0_1.out HB.out) | (with_reducible refine Kd.C_alloc ?_ _) | (with_reducible refine Kd.C_drewN ?_ _) | (with_reducible refine Kd.C_drew ?_)))
        (case side2 => exact HC0_1.out)
        (case side3 => repeat (first | exact (Kd.R_reads' HO100006.out).2.2 | (with_reducible refine Kd.C_alloc ?_ _) | (with_reducible refine Kd.C_drewN ?_ _) | (with_reducible refine Kd.C_drew ?_)))
        (case side4 => exact (Kd.R_reads' HO100006.out).2.1)
        rintro e w23 ⟨rfl, hb⟩
        refine ⟨_, rfl, ?_⟩
        have n0_ := Aside0.mk (Kd.R_below (by (with_reducible repeat (first | apply Kd.R_alloc | apply Kd.R_drewN | apply Kd.R_drew)); exact HO100006.out) hb)
        have n1_ := Aside0.mk (blk_below (g := gb100001) (o := .cells #[.int .i64 a0_0, .slice A0_1 l0_1.length c0_1] 30 (0, 0)) (by (with_reducible repeat (first | refine blk_drewN ?_ _ | refine blk_drew ?_ | refine blk_alloc ?_ _)); exact BK100001.out) hb)
        have n2_ := Aside0.mk (blk_below (g := gb100002) (o := .cells #[.string (⟨#[]⟩ : ByteArray), .string (⟨#[]⟩ : ByteArray), .string (⟨#[]⟩ : ByteArray), .string (⟨#[]⟩ : ByteArray)] 27 (0, 0)) (by (with_reducible repeat (first | refine blk_drewN ?_ _ | refine blk_drew ?_ | refine blk_alloc ?_ _)); exact BK100002.out) hb)
        have n3_ := Aside0.mk (below_step (by repeat (first | (with_reducible first | exact HB.out | apply below_alloc | apply pw_below_drewN | apply below_drew1 | refine below_set ?_ GE100001.out | refine below_set ?_ GE100002.out) | exact HB.out)) hb)
        clear HO100006
        clear BK100001
        clear BK100002
        clear HB
        have HO100006 := n0_
        have BK100001 := n1_
        have BK100002 := n2_
        have HB := n3_
        clear n0_ n1_ n2_ n3_
        (try clear hb)
        (try clear hb2)
        (try clear hk)
        (try clear hi)
        refine hK.out _ _ ⟨(blk_cell BK100001.out 0).trans rfl, (blk_cell BK100001.out 1).trans rfl⟩ (fun hHeld => ?_)
        clear hK K
        refine norm_ (a' := ?_) ?_ ?_
        rotate_left
        · show Act.put _ (some 21) _ = _
          simp only [Act.put, List.setIfInBounds_toArray, List.set_cons_zero, List.set_cons_succ, i64_w, i32_w]
          rfl
        refine pure_ (i := 5) (N := some 22) (v := ?_) (a' := ?_) #[true, true, true, true, true, true, false, false, false] rfl rfl (any_of HT_.out (by kernel_rfl)) (fun _ _ _ h => h) (Or.inl ⟨by rfl, ?_⟩) ?_ ?_
        rotate_left
        · intro w'
          go_simp
          with_reducible rfl
        rotate_left
        · simp only [Act.put, List.setIfInBounds_toArray, List.set_cons_zero, List.set_cons_succ, i64_w, i32_w]
          rfl
        refine pure_ (i := 6) (N := some 23) (v := ?_) (a' := ?_) #[true, true, true, true, true, true, true, false, false] rfl rfl (any_of HT_.out (by kernel_rfl)) (fun _ _ _ h => h) (Or.inl ⟨by rfl, ?_⟩) ?_ ?_
        rotate_left
        · intro w'
          go_simp
          with_reducible rfl
        rotate_left
        · simp only [Act.put, List.setIfInBounds_toArray, List.set_cons_zero, List.set_cons_succ, i64_w, i32_w]
          rfl
        refine one_ (i := 7) (N := none) #[true, true, true, true, true, true, true, true, false] rfl rfl (one_of HT_.out (by kernel_rfl)) (by decide) (fun K hK => ?_)
        have hs24 : w23.cell? ⟨gb100002, 0, none⟩ = some (.string (⟨#[]⟩ : ByteArray)) := (blk_cell BK100002.out 0).trans rfl
        have hfs24 := blk_frozen BK100002.out 0
        have hns24_0 := NB100001_100002.out
        have hms24_0 := NB100002_100001.out
        have hs25 : w23.cell? ⟨gb100002, 1, none⟩ = some (.string (⟨#[]⟩ : ByteArray)) := (blk_cell BK100002.out 1).trans rfl
        have hfs25 := blk_frozen BK100002.out 1
        have hns25_0 := NB100001_100002.out
        have hms25_0 := NB100002_100001.out
        have hs26 : w23.cell? ⟨gb100002, 2, none⟩ = some (.string (⟨#[]⟩ : ByteArray)) := (blk_cell BK100002.out 2).trans rfl
        have hfs26 := blk_frozen BK100002.out 2
        have hns26_0 := NB100001_100002.out
        have hms26_0 := NB100002_100001.out
        have hs27 : w23.cell? ⟨gb100002, 3, none⟩ = some (.string (⟨#[]⟩ : ByteArray)) := (blk_cell BK100002.out 3).trans rfl
        have hfs27 := blk_frozen BK100002.out 3
        have hns27_0 := NB100001_100002.out
        have hms27_0 := NB100002_100001.out
        refine skip_ (w1 := ?_) (by rfl) rfl ?_ ?_
        rotate_left
        · go_simp
          rfl
        refine hK.out _ _ ⟨((cell_far (p := ⟨gb100002, _, none⟩) NB100001_100002.out _).trans (((cell_far (p := ⟨gb100002, _, none⟩) NB100001_100002.out _).trans (((cell_far (p := ⟨gb100002, _, none⟩) NB100001_100002.out _).trans (((cell_far (p := ⟨gb100002, _, none⟩) NB100001_100002.out _).trans (hHeld.1)))))))), ((cell_far (p := ⟨gb100002, _, none⟩) NB100001_100002.out _).trans (((cell_far (p := ⟨gb100002, _, none⟩) NB100001_100002.out _).trans (((cell_far (p := ⟨gb100002, _, none⟩) NB100001_100002.out _).trans (((cell_far (p := ⟨gb100002, _, none⟩) NB100001_100002.out _).trans (hHeld.2))))))))⟩ (fun hHeld => ?_)
        clear hK K
        refine pure_ (i := 8) (N := some 5) (v := ?_) (a' := ?_) #[true, true, true, true, true, true, true, true, true] rfl rfl (any_of HT_.out (by kernel_rfl)) (fun _ _ _ h => h) (Or.inl ⟨by rfl, ?_⟩) ?_ ?_
        rotate_left
        · intro w'
          go_simp
          with_reducible rfl
        rotate_left
        · simp only [Act.put, List.setIfInBounds_toArray, List.set_cons_zero, List.set_cons_succ, i64_w, i32_w]
          rfl
        refine done_ (done_of HT_.out (by kernel_rfl)) ?_
        try go_wp2
        refine bodyPost_ret (results_ct rfl _ _ gb100002 27 #[.string t100007, .string t100008, .string t100009, .string t100010] (0, 0) _ rfl (by (with_reducible repeat (first | refine blk_drewN ?_ _ | refine blk_drew ?_ | refine blk_alloc ?_ _)); refine blk_put (cs := #[.string t100007, .string t100008, .string t100009, .string (⟨#[]⟩ : ByteArray)]) ?_ 3 _ rfl; (with_reducible repeat (first | refine blk_drewN ?_ _ | refine blk_drew ?_ | refine blk_alloc ?_ _)); refine blk_put (cs := #[.string t100007, .string t100008, .string (⟨#[]⟩ : ByteArray), .string (⟨#[]⟩ : ByteArray)]) ?_ 2 _ rfl; (with_reducible repeat (first | refine blk_drewN ?_ _ | refine blk_drew ?_ | refine blk_alloc ?_ _)); refine blk_put (cs := #[.string t100007, .string (⟨#[]⟩ : ByteArray), .string (⟨#[]⟩ : ByteArray), .string (⟨#[]⟩ : ByteArray)]) ?_ 1 _ rfl; (with_reducible repeat (first | refine blk_drewN ?_ _ | refine blk_drew ?_ | refine blk_alloc ?_ _)); refine blk_put (cs := #[.string (⟨#[]⟩ : ByteArray), .string (⟨#[]⟩ : ByteArray), .string (⟨#[]⟩ : ByteArray), .string (⟨#[]⟩ : ByteArray)]) ?_ 0 _ rfl; (with_reducible repeat (first | refine blk_drewN ?_ _ | refine blk_drew ?_ | refine blk_alloc ?_ _)); exact BK100002.out) Tryd.underlying27 rfl (by kernel_rfl)) rfl ?_
        exact ⟨by first | rfl | (simp [errW_none, errW_some] <;> rfl) | (simp [*, errW_none, errW_some] <;> rfl), by repeat (first | (with_reducible first | exact HB.out | apply below_alloc | apply pw_below_drewN | apply below_drew1 | refine below_set ?_ GE100001.out | refine below_set ?_ GE100002.out) | exact HB.out)⟩
end Go.Proofs.YtmfejehhfmaodabDoor.Z
end
section
namespace Go.Proofs.YtmfejehhfmaodabDoor.Z
open Go.RowKit Go.Proofs.YtmfejehhfmaodabDoorW.PrintWords Go.Proofs.YtmfejehhfmaodabDoorW.PrintLast Go.Proofs.YtmfejehhfmaodabDoorW.PrintMore
attribute [local go_sem] max2_int min2_int max_two min_two max_three min_three max_four min_four   -- for this text's walks alone
set_option linter.unusedVariables false
set_option linter.unusedSimpArgs false
def laws_FnExactPoolFind.j0 : Nat → Bool → Int → List ByteArray → Int → List ByteArray → Option (Bool)
  | 0, _, _, _, _, _ => none
  | k + 1, x42, x30002000, x30002001, x30018000, x30018001 => if x42 = true then (some false) else ((laws_toPool.f k x30002000 x30002001).bind fun bt30025 => ((laws_eqPool.f k x30018000 x30018001 bt30025.1 bt30025.2).bind fun t30029 => (if t30029 = true then (some true) else (some false))))
def laws_FnExactPoolFind.f (k : Nat) (a0_0 : Int) (l0_1 : List ByteArray) (a1 : ByteArray) : Option (Bool) := if (a1.size : Int) > 1048576 then (some true) else ((laws_szPool.f k a0_0 l0_1 1048576).bind fun t30002 => (if t30002 < 0 then (some true) else ((laws_toPool.f k a0_0 l0_1).bind fun bt30003 => ((spec_PoolFind.f k bt30003.1 bt30003.2 a1).bind fun bt30007 => ((laws_toPool.f k a0_0 l0_1).bind fun bt30013 => ((impl_PoolFind.f bt30013.1 bt30013.2 a1).bind fun bt30018 => ((laws_eqNode.f bt30018.1 bt30018.2.1 bt30018.2.2.1 bt30018.2.2.2.1 bt30007.1 bt30007.2.1 bt30007.2.2.1 bt30007.2.2.2.1).bind fun t30024 => (if t30024 = true then (laws_FnExactPoolFind.j0 k (bt30018.2.2.2.2 != bt30007.2.2.2.2) a0_0 l0_1 bt30013.1 bt30013.2) else (laws_FnExactPoolFind.j0 k true a0_0 l0_1 bt30013.1 bt30013.2)))))))))
theorem laws_FnExactPoolFind.mono_l : ∀ k, (∀ y0 y1 y2 y3 y4, LeO (laws_FnExactPoolFind.j0 k y0 y1 y2 y3 y4) (laws_FnExactPoolFind.j0 (k + 1) y0 y1 y2 y3 y4))
  | 0 => fun _ _ _ _ _ r h => by simp [laws_FnExactPoolFind.j0] at h
  | k + 1 => by
    have ih0 := laws_FnExactPoolFind.mono_l k
    · intro y0 y1 y2 y3 y4
      unfold laws_FnExactPoolFind.j0
      repeat' first
      | (with_reducible exact ih0 _ _ _ _ _)
      | (with_reducible exact laws_eqPool.mono _ _ _ _ _)
      | (with_reducible exact laws_szPool.mono _ _ _ _)
      | (with_reducible exact laws_toPool.mono _ _ _)
      | (with_reducible exact spec_PoolFind.mono _ _ _ _)
      | (with_reducible exact LeO.refl _)
      | (with_reducible exact LeO.none _)
      | (with_reducible refine LeO.ite ?_ ?_)
      | (with_reducible refine LeO.bind ?_ (fun _ => ?_))
      | exact ih0 _ _ _ _ _
      | exact laws_eqPool.mono _ _ _ _ _
      | exact laws_szPool.mono _ _ _ _
      | exact laws_toPool.mono _ _ _
      | exact spec_PoolFind.mono _ _ _ _
      | exact LeO.none _
      | refine LeO.ite ?_ ?_
      | refine LeO.bind ?_ (fun _ => ?_)
theorem laws_FnExactPoolFind.mono : ∀ a0 a1 a2 k, LeO (laws_FnExactPoolFind.f k a0 a1 a2) (laws_FnExactPoolFind.f (k + 1) a0 a1 a2) := by
  intro a0 a1 a2 k
  have ih0 := laws_FnExactPoolFind.mono_l k
  unfold laws_FnExactPoolFind.f
  repeat' first
      | (with_reducible exact ih0 _ _ _ _ _)
      | (with_reducible exact laws_eqPool.mono _ _ _ _ _)
      | (with_reducible exact laws_szPool.mono _ _ _ _)
      | (with_reducible exact laws_toPool.mono _ _ _)
      | (with_reducible exact spec_PoolFind.mono _ _ _ _)
      | (with_reducible exact LeO.refl _)
      | (with_reducible exact LeO.none _)
      | (with_reducible refine LeO.ite ?_ ?_)
      | (with_reducible refine LeO.bind ?_ (fun _ => ?_))
      | exact ih0 _ _ _ _ _
      | exact laws_eqPool.mono _ _ _ _ _
      | exact laws_szPool.mono _ _ _ _
      | exact laws_toPool.mono _ _ _
      | exact spec_PoolFind.mono _ _ _ _
      | exact LeO.none _
      | refine LeO.ite ?_ ?_
      | refine LeO.bind ?_ (fun _ => ?_)
set_option maxHeartbeats 8000000 in
set_option maxRecDepth 100000 in
theorem laws_FnExactPoolFind.calls (k : Nat) (a0_0 : Int) (A0_1 : Option Addr) (c0_1 : Nat) (l0_1 : List ByteArray) (a1 : ByteArray) (r : Bool) (w : World) (hTab : Tab w) (hr0_1 : Kd.C Kd.string w A0_1 l0_1.length l0_1) (hc0_1 : l0_1.length ≤ c0_1) (h : laws_FnExactPoolFind.f k a0_0 l0_1 a1 = some r) :
    Calls Tryd.prog 3 #[.agg #[.int .i64 a0_0, .slice A0_1 l0_1.length c0_1], .string a1] w fun e w' => e = .returned (.bool r) ∧ Below w.heap.size w w' := by
  have hu24 := Tryd.underlying24
  have hu27 := Tryd.underlying27
  have hu30 := Tryd.underlying30
  have HR0_1 := Aside0.mk hr0_1
  have HC0_1 := Aside0.mk hc0_1
  clear hr0_1 hc0_1
  have HB := Aside0.mk (Below.refl w.heap.size w)
  have H : (if (a1.size : Int) > 1048576 then (some true) else ((laws_szPool.f k a0_0 l0_1 1048576).bind fun t30002 => (if t30002 < 0 then (some true) else ((laws_toPool.f k a0_0 l0_1).bind fun bt30003 => ((spec_PoolFind.f k bt30003.1 bt30003.2 a1).bind fun bt30007 => ((laws_toPool.f k a0_0 l0_1).bind fun bt30013 => ((impl_PoolFind.f bt30013.1 bt30013.2 a1).bind fun bt30018 => ((laws_eqNode.f bt30018.1 bt30018.2.1 bt30018.2.2.1 bt30018.2.2.2.1 bt30007.1 bt30007.2.1 bt30007.2.2.1 bt30007.2.2.2.1).bind fun t30024 => (if t30024 = true then (laws_FnExactPoolFind.j0 k (bt30018.2.2.2.2 != bt30007.2.2.2.2) a0_0 l0_1 bt30013.1 bt30013.2) else (laws_FnExactPoolFind.j0 k true a0_0 l0_1 bt30013.1 bt30013.2)))))))))) = some r := h
  clear h
  by_cases c3 : (a1.size : Int) > 1048576
  · rw [if_pos c3] at H
    have c3b0 : decide (1048576 < (a1.size : Int)) = true := decide_eq_true c3
    have c3b1 : decide (1048576 < a1.size) = true := decide_eq_true (by omega)
    clear c3
    obtain rfl := Option.some.inj H
    go_enter Tryd.func3, Tryd.ntmps3
    go_wp2_with (first | ((with_reducible refine gate_dst (N := 2) rfl ?_); refine box_event ?hg (N := 2) ?hd (cs := #[.int .i64 a0_0, .slice A0_1 l0_1.length c0_1]) (t := 24) ?hr ?_; (case hd => rfl); (case hg => rfl); (case hr => first | (go_simp; done) | (go_simp; rfl)); intro gb30001 hg w4 hbox hb; have n0_ := Aside0.mk (below_step (by repeat (first | (with_reducible first | exact HB.out | apply below_alloc | apply pw_below_drewN | apply below_drew1) | exact HB.out)) hb); have n1_ := Aside0.mk (hbox); have n2_ := Aside0.mk ((by rw [hg]; exact (below_size (by repeat (first | (with_reducible first | exact HB.out | apply below_alloc | apply pw_below_drewN | apply below_drew1) | exact HB.out))) : w.heap.size ≤ gb30001)); have n3_ := Aside0.mk ((by rw [hg]; exact (below_size (by repeat (first | (with_reducible first | exact HB.out | apply below_alloc | apply pw_below_drewN | apply below_drew1) | exact HB.out))) : w.heap.size ≤ gb30001)); clear HB; have HB := n0_; have BK30001 := n1_; have GW30001 := n2_; have GE30001 := n3_; clear n0_ n1_ n2_ n3_; clear hb hbox hg))
    go_ret
    exact ⟨by first | rfl | (simp [errW_none, errW_some] <;> rfl) | (simp [*, errW_none, errW_some] <;> rfl), by repeat (first | (with_reducible first | exact HB.out | apply below_alloc | apply pw_below_drewN | apply below_drew1 | refine below_set ?_ GE30001.out) | exact HB.out)⟩
  · rw [if_neg c3] at H
    have c3b0 : decide (1048576 < (a1.size : Int)) = false := decide_eq_false c3
    have c3b1 : decide (1048576 < a1.size) = false := decide_eq_false (by omega)
    clear c3
    replace H := Option.bind_eq_some_iff.mp H
    obtain ⟨t30002, A50, H⟩ := H
    replace H : (if t30002 < 0 then (some true) else ((laws_toPool.f k a0_0 l0_1).bind fun bt30003 => ((spec_PoolFind.f k bt30003.1 bt30003.2 a1).bind fun bt30007 => ((laws_toPool.f k a0_0 l0_1).bind fun bt30013 => ((impl_PoolFind.f bt30013.1 bt30013.2 a1).bind fun bt30018 => ((laws_eqNode.f bt30018.1 bt30018.2.1 bt30018.2.2.1 bt30018.2.2.2.1 bt30007.1 bt30007.2.1 bt30007.2.2.1 bt30007.2.2.2.1).bind fun t30024 => (if t30024 = true then (laws_FnExactPoolFind.j0 k (bt30018.2.2.2.2 != bt30007.2.2.2.2) a0_0 l0_1 bt30013.1 bt30013.2) else (laws_FnExactPoolFind.j0 k true a0_0 l0_1 bt30013.1 bt30013.2)))))))) = some r := H
    have A5 := Aside0.mk A50
    clear A50
    by_cases c6 : t30002 < 0
    · rw [if_pos c6] at H
      have c6b0 : decide (t30002 < 0) = true := decide_eq_true c6
      clear c6
      obtain rfl := Option.some.inj H
      go_enter Tryd.func3, Tryd.ntmps3
      go_wp2_with (first | ((with_reducible refine gate_dst (N := 2) rfl ?_); refine box_event ?hg (N := 2) ?hd (cs := #[.int .i64 a0_0, .slice A0_1 l0_1.length c0_1]) (t := 24) ?hr ?_; (case hd => rfl); (case hg => rfl); (case hr => first | (go_simp; done) | (go_simp; rfl)); intro gb30001 hg w7 hbox hb; have n0_ := Aside0.mk (below_step (by repeat (first | (with_reducible first | exact HB.out | apply below_alloc | apply pw_below_drewN | apply below_drew1) | exact HB.out)) hb); have n1_ := Aside0.mk (hbox); have n2_ := Aside0.mk ((by rw [hg]; exact (below_size (by repeat (first | (with_reducible first | exact HB.out | apply below_alloc | apply pw_below_drewN | apply below_drew1) | exact HB.out))) : w.heap.size ≤ gb30001)); have n3_ := Aside0.mk ((by rw [hg]; exact (below_size (by repeat (first | (with_reducible first | exact HB.out | apply below_alloc | apply pw_below_drewN | apply below_drew1) | exact HB.out))) : w.heap.size ≤ gb30001)); clear HB; have HB := n0_; have BK30001 := n1_; have GW30001 := n2_; have GE30001 := n3_; clear n0_ n1_ n2_ n3_; clear hb hbox hg; have hcz8_0 : w7.cell? ⟨gb30001, 0, none⟩ = some (.int .i64 a0_0) := (blk_cell BK30001.out 0).trans rfl; have hcz8_1 : w7.cell? ⟨gb30001, 1, none⟩ = some (.slice A0_1 l0_1.length c0_1) := (blk_cell BK30001.out 1).trans rfl; have hfz8_0 := blk_frozen BK30001.out 0; have hfz8_1 := blk_frozen BK30001.out 1) | ((with_reducible refine gate_callee (f := 9) rfl ?_); refine goesL_ (some 16) rfl rfl Tryd.func9 (by kernel_rfl) rfl #[.agg #[.int .i64 a0_0, .slice A0_1 l0_1.length c0_1], .int .i64 1048576] rfl (by (try simp only [List.map_toArray, List.map_cons, List.map_nil]); first | done | rfl | (simp only [List.length_drop, List.length_take]; rfl)) ?_; (with_reducible refine (laws_szPool.calls k a0_0 _ _ l0_1 1048576 t30002 _ ?side1 ?side2 A5.out).mono ?_); (case side1 => repeat (first | exact (Kd.C_below HR0_1.out HB.out) | (with_reducible refine Kd.C_alloc ?_ _) | (with_reducible refine Kd.C_drewN ?_ _) | (with_reducible refine Kd.C_drew ?_))); (case side2 => exact HC0_1.out); rintro e w9 ⟨rfl, hb⟩; refine ⟨_, rfl, ?_⟩; have n0_ := Aside0.mk (blk_below (g := gb30001) (o := .cells #[.int .i64 a0_0, .slice A0_1 l0_1.length c0_1] 24 (0, 0)) (by (with_reducible repeat (first | refine blk_drewN ?_ _ | refine blk_drew ?_ | refine blk_alloc ?_ _)); exact BK30001.out) hb); have n1_ := Aside0.mk (below_step (by repeat (first | (with_reducible first | exact HB.out | apply below_alloc | apply pw_below_drewN | apply below_drew1 | refine below_set ?_ GE30001.out) | exact HB.out)) hb); clear BK30001; clear HB; have BK30001 := n0_; have HB := n1_; clear n0_ n1_; (try clear hb); (try clear hb2); (try clear hk); (try clear hi)))
      go_ret
      exact ⟨by first | rfl | (simp [errW_none, errW_some] <;> rfl) | (simp [*, errW_none, errW_some] <;> rfl), by repeat (first | (with_reducible first | exact HB.out | apply below_alloc | apply pw_below_drewN | apply below_drew1 | refine below_set ?_ GE30001.out) | exact HB.out)⟩
    · rw [if_neg c6] at H
      have c6b0 : decide (t30002 < 0) = false := decide_eq_false c6
      clear c6
      replace H := Option.bind_eq_some_iff.mp H
      obtain ⟨⟨t30003, t30004⟩, A100, H⟩ := H
      replace H : ((spec_PoolFind.f k t30003 t30004 a1).bind fun bt30007 => ((laws_toPool.f k a0_0 l0_1).bind fun bt30013 => ((impl_PoolFind.f bt30013.1 bt30013.2 a1).bind fun bt30018 => ((laws_eqNode.f bt30018.1 bt30018.2.1 bt30018.2.2.1 bt30018.2.2.2.1 bt30007.1 bt30007.2.1 bt30007.2.2.1 bt30007.2.2.2.1).bind fun t30024 => (if t30024 = true then (laws_FnExactPoolFind.j0 k (bt30018.2.2.2.2 != bt30007.2.2.2.2) a0_0 l0_1 bt30013.1 bt30013.2) else (laws_FnExactPoolFind.j0 k true a0_0 l0_1 bt30013.1 bt30013.2)))))) = some r := H
      have A10 := Aside0.mk A100
      clear A100
      replace H := Option.bind_eq_some_iff.mp H
      obtain ⟨⟨t30007, t30008, t30009, t30010, t30011⟩, A110, H⟩ := H
      replace H : ((laws_toPool.f k a0_0 l0_1).bind fun bt30013 => ((impl_PoolFind.f bt30013.1 bt30013.2 a1).bind fun bt30018 => ((laws_eqNode.f bt30018.1 bt30018.2.1 bt30018.2.2.1 bt30018.2.2.2.1 t30007 t30008 t30009 t30010).bind fun t30024 => (if t30024 = true then (laws_FnExactPoolFind.j0 k (bt30018.2.2.2.2 != t30011) a0_0 l0_1 bt30013.1 bt30013.2) else (laws_FnExactPoolFind.j0 k true a0_0 l0_1 bt30013.1 bt30013.2))))) = some r := H
      have A11 := Aside0.mk A110
      clear A110
      replace H := Option.bind_eq_some_iff.mp H
      obtain ⟨⟨t30013, t30014⟩, A120, H⟩ := H
      replace H : ((impl_PoolFind.f t30013 t30014 a1).bind fun bt30018 => ((laws_eqNode.f bt30018.1 bt30018.2.1 bt30018.2.2.1 bt30018.2.2.2.1 t30007 t30008 t30009 t30010).bind fun t30024 => (if t30024 = true then (laws_FnExactPoolFind.j0 k (bt30018.2.2.2.2 != t30011) a0_0 l0_1 t30013 t30014) else (laws_FnExactPoolFind.j0 k true a0_0 l0_1 t30013 t30014)))) = some r := H
      have A12 := Aside0.mk A120
      clear A120
      replace H := Option.bind_eq_some_iff.mp H
      obtain ⟨⟨t30018, t30019, t30020, t30021, t30022⟩, A130, H⟩ := H
      replace H : ((laws_eqNode.f t30018 t30019 t30020 t30021 t30007 t30008 t30009 t30010).bind fun t30024 => (if t30024 = true then (laws_FnExactPoolFind.j0 k (t30022 != t30011) a0_0 l0_1 t30013 t30014) else (laws_FnExactPoolFind.j0 k true a0_0 l0_1 t30013 t30014))) = some r := H
      have A13 := Aside0.mk A130
      clear A130
      have HC14 := Aside0.mk H
      clear H
      go_enter Tryd.func3, Tryd.ntmps3
      go_upto_region 10 with (first | ((with_reducible refine gate_dst (N := 2) rfl ?_); refine box_event ?hg (N := 2) ?hd (cs := #[.int .i64 a0_0, .slice A0_1 l0_1.length c0_1]) (t := 24) ?hr ?_; (case hd => rfl); (case hg => rfl); (case hr => first | (go_simp; done) | (go_simp; rfl)); intro gb30001 hg w15 hbox hb; have n0_ := Aside0.mk (below_step (by repeat (first | (with_reducible first | exact HB.out | apply below_alloc | apply pw_below_drewN | apply below_drew1) | exact HB.out)) hb); have n1_ := Aside0.mk (hbox); have n2_ := Aside0.mk ((by rw [hg]; exact (below_size (by repeat (first | (with_reducible first | exact HB.out | apply below_alloc | apply pw_below_drewN | apply below_drew1) | exact HB.out))) : w.heap.size ≤ gb30001)); have n3_ := Aside0.mk ((by rw [hg]; exact (below_size (by repeat (first | (with_reducible first | exact HB.out | apply below_alloc | apply pw_below_drewN | apply below_drew1) | exact HB.out))) : w.heap.size ≤ gb30001)); clear HB; have HB := n0_; have BK30001 := n1_; have GW30001 := n2_; have GE30001 := n3_; clear n0_ n1_ n2_ n3_; clear hb hbox hg; have hcz16_0 : w15.cell? ⟨gb30001, 0, none⟩ = some (.int .i64 a0_0) := (blk_cell BK30001.out 0).trans rfl; have hcz16_1 : w15.cell? ⟨gb30001, 1, none⟩ = some (.slice A0_1 l0_1.length c0_1) := (blk_cell BK30001.out 1).trans rfl; have hfz16_0 := blk_frozen BK30001.out 0; have hfz16_1 := blk_frozen BK30001.out 1) | ((with_reducible refine gate_callee (f := 9) rfl ?_); refine goesL_ (some 16) rfl rfl Tryd.func9 (by kernel_rfl) rfl #[.agg #[.int .i64 a0_0, .slice A0_1 l0_1.length c0_1], .int .i64 1048576] rfl (by (try simp only [List.map_toArray, List.map_cons, List.map_nil]); first | done | rfl | (simp only [List.length_drop, List.length_take]; rfl)) ?_; (with_reducible refine (laws_szPool.calls k a0_0 _ _ l0_1 1048576 t30002 _ ?side1 ?side2 A5.out).mono ?_); (case side1 => repeat (first | exact (Kd.C_below HR0_1.out HB.out) | (with_reducible refine Kd.C_alloc ?_ _) | (with_reducible refine Kd.C_drewN ?_ _) | (with_reducible refine Kd.C_drew ?_))); (case side2 => exact HC0_1.out); rintro e w17 ⟨rfl, hb⟩; refine ⟨_, rfl, ?_⟩; have n0_ := Aside0.mk (blk_below (g := gb30001) (o := .cells #[.int .i64 a0_0, .slice A0_1 l0_1.length c0_1] 24 (0, 0)) (by (with_reducible repeat (first | refine blk_drewN ?_ _ | refine blk_drew ?_ | refine blk_alloc ?_ _)); exact BK30001.out) hb); have n1_ := Aside0.mk (below_step (by repeat (first | (with_reducible first | exact HB.out | apply below_alloc | apply pw_below_drewN | apply below_drew1 | refine below_set ?_ GE30001.out) | exact HB.out)) hb); clear BK30001; clear HB; have BK30001 := n0_; have HB := n1_; clear n0_ n1_; (try clear hb); (try clear hb2); (try clear hk); (try clear hi); have hcz18_0 : w17.cell? ⟨gb30001, 0, none⟩ = some (.int .i64 a0_0) := (blk_cell BK30001.out 0).trans rfl; have hcz18_1 : w17.cell? ⟨gb30001, 1, none⟩ = some (.slice A0_1 l0_1.length c0_1) := (blk_cell BK30001.out 1).trans rfl; have hfz18_0 := blk_frozen BK30001.out 0; have hfz18_1 := blk_frozen BK30001.out 1) | ((with_reducible refine gate_callee (f := 11) rfl ?_); refine goesL_ (some 21) rfl rfl Tryd.func11 (by kernel_rfl) rfl #[.agg #[.int .i64 a0_0, .slice A0_1 l0_1.length c0_1]] rfl (by (try simp only [List.map_toArray, List.map_cons, List.map_nil]); first | done | rfl | (simp only [List.length_drop, List.length_take]; rfl)) ?_; (with_reducible refine (laws_toPool.calls k a0_0 _ _ l0_1 t30003 t30004 _ ?side1 ?side2 A10.out).mono ?_); (case side1 => repeat (first | exact (Kd.C_below HR0_1.out HB.out) | (with_reducible refine Kd.C_alloc ?_ _) | (with_reducible refine Kd.C_drewN ?_ _) | (with_reducible refine Kd.C_drew ?_))); (case side2 => exact HC0_1.out); rintro e w19 ⟨v30005, rfl, ho0, hb⟩; refine ⟨_, rfl, ?_⟩; have n0_ := Aside0.mk (Kd.R_lower ho0 (below_size (by repeat (first | (with_reducible first | exact HB.out | apply below_alloc | apply pw_below_drewN | apply below_drew1 | refine below_set ?_ GE30001.out) | exact HB.out)))); have n1_ := Aside0.mk (blk_below (g := gb30001) (o := .cells #[.int .i64 a0_0, .slice A0_1 l0_1.length c0_1] 24 (0, 0)) (by (with_reducible repeat (first | refine blk_drewN ?_ _ | refine blk_drew ?_ | refine blk_alloc ?_ _)); exact BK30001.out) hb); have n2_ := Aside0.mk (below_step (by repeat (first | (with_reducible first | exact HB.out | apply below_alloc | apply pw_below_drewN | apply below_drew1 | refine below_set ?_ GE30001.out) | exact HB.out)) hb); clear BK30001; clear HB; have HO30006 := n0_; have BK30001 := n1_; have HB := n2_; clear n0_ n1_ n2_; (try clear hb); (try clear hb2); (try clear hk); (try clear hi); (try clear ho0); obtain ⟨Ao20, co20, eo20⟩ := Kd.R_slice HO30006.out; subst eo20) | ((with_reducible refine gate_callee (f := 10) rfl ?_); refine goesL_ (some 23) rfl rfl Tryd.func10 (by kernel_rfl) rfl #[.agg #[.int .i64 t30003, .slice Ao20 t30004.length co20], .string a1] rfl (by (try simp only [List.map_toArray, List.map_cons, List.map_nil]); first | done | rfl | (simp only [List.length_drop, List.length_take]; rfl)) ?_; (with_reducible refine (spec_PoolFind.calls k t30003 _ _ t30004 a1 t30007 t30008 t30009 t30010 t30011 _ ?side1 ?side2 A11.out).mono ?_); (case side1 => repeat (first | exact (Kd.R_reads' HO30006.out).2.2 | (with_reducible refine Kd.C_alloc ?_ _) | (with_reducible refine Kd.C_drewN ?_ _) | (with_reducible refine Kd.C_drew ?_))); (case side2 => exact (Kd.R_reads' HO30006.out).2.1); rintro e w21 ⟨rfl, hb⟩; refine ⟨_, rfl, ?_⟩; have n0_ := Aside0.mk (Kd.R_below (by (with_reducible repeat (first | apply Kd.R_alloc | apply Kd.R_drewN | apply Kd.R_drew)); exact HO30006.out) hb); have n1_ := Aside0.mk (blk_below (g := gb30001) (o := .cells #[.int .i64 a0_0, .slice A0_1 l0_1.length c0_1] 24 (0, 0)) (by (with_reducible repeat (first | refine blk_drewN ?_ _ | refine blk_drew ?_ | refine blk_alloc ?_ _)); exact BK30001.out) hb); have n2_ := Aside0.mk (below_step (by repeat (first | (with_reducible first | exact HB.out | apply below_alloc | apply pw_below_drewN | apply below_drew1 | refine below_set ?_ GE30001.out) | exact HB.out)) hb); clear HO30006; clear BK30001; clear HB; have HO30006 := n0_; have BK30001 := n1_; have HB := n2_; clear n0_ n1_ n2_; (try clear hb); (try clear hb2); (try clear hk); (try clear hi)) | ((with_reducible refine gate_dst (N := 6) rfl ?_); refine box_event ?hg (N := 6) ?hd (cs := #[.string (⟨#[]⟩ : ByteArray), .string (⟨#[]⟩ : ByteArray), .string (⟨#[]⟩ : ByteArray), .string (⟨#[]⟩ : ByteArray)]) (t := 27) ?hr ?_; (case hd => rfl); (case hg => rfl); (case hr => first | (go_simp; done) | (go_simp; rfl)); intro gb30012 hg w22 hbox hb; have n0_ := Aside0.mk (Kd.R_below (by (with_reducible repeat (first | apply Kd.R_alloc | apply Kd.R_drewN | apply Kd.R_drew)); exact HO30006.out) hb); have n1_ := Aside0.mk (blk_below (g := gb30001) (o := .cells #[.int .i64 a0_0, .slice A0_1 l0_1.length c0_1] 24 (0, 0)) (by (with_reducible repeat (first | refine blk_drewN ?_ _ | refine blk_drew ?_ | refine blk_alloc ?_ _)); exact BK30001.out) hb); have n2_ := Aside0.mk (below_step (by repeat (first | (with_reducible first | exact HB.out | apply below_alloc | apply pw_below_drewN | apply below_drew1 | refine below_set ?_ GE30001.out) | exact HB.out)) hb); have n3_ := Aside0.mk (hbox); have n4_ := Aside0.mk ((by rw [hg]; exact (below_size (by repeat (first | (with_reducible first | exact HB.out | apply below_alloc | apply pw_below_drewN | apply below_drew1 | refine below_set ?_ GE30001.out) | exact HB.out))) : w.heap.size ≤ gb30012)); have n5_ := Aside0.mk ((by rw [hg]; exact (below_size (by repeat (first | (with_reducible first | exact HB.out | apply below_alloc | apply pw_below_drewN | apply below_drew1 | refine below_set ?_ GE30001.out) | exact HB.out))) : w.heap.size ≤ gb30012)); have n6_ := Aside0.mk ((by rw [hg]; exact Nat.ne_of_lt (blk_lt (g := gb30001) (o := .cells #[.int .i64 a0_0, .slice A0_1 l0_1.length c0_1] 24 (0, 0)) (by (with_reducible repeat (first | refine blk_drewN ?_ _ | refine blk_drew ?_ | refine blk_alloc ?_ _)); exact BK30001.out)) : gb30001 ≠ gb30012)); have n7_ := Aside0.mk ((by rw [hg]; exact Nat.ne_of_gt (blk_lt (g := gb30001) (o := .cells #[.int .i64 a0_0, .slice A0_1 l0_1.length c0_1] 24 (0, 0)) (by (with_reducible repeat (first | refine blk_drewN ?_ _ | refine blk_drew ?_ | refine blk_alloc ?_ _)); exact BK30001.out)) : gb30012 ≠ gb30001)); clear HO30006; clear BK30001; clear HB; have HO30006 := n0_; have BK30001 := n1_; have HB := n2_; have BK30012 := n3_; have GW30012 := n4_; have GE30012 := n5_; have NB30001_30012 := n6_; have NB30012_30001 := n7_; clear n0_ n1_ n2_ n3_ n4_ n5_ n6_ n7_; clear hb hbox hg; have hnb23 := NB30012_30001.out; have hnc23 := NB30001_30012.out; have hcz24_0 : w22.cell? ⟨gb30012, 0, none⟩ = some (.string (⟨#[]⟩ : ByteArray)) := (blk_cell BK30012.out 0).trans rfl; have hcz24_1 : w22.cell? ⟨gb30012, 1, none⟩ = some (.string (⟨#[]⟩ : ByteArray)) := (blk_cell BK30012.out 1).trans rfl; have hcz24_2 : w22.cell? ⟨gb30012, 2, none⟩ = some (.string (⟨#[]⟩ : ByteArray)) := (blk_cell BK30012.out 2).trans rfl; have hcz24_3 : w22.cell? ⟨gb30012, 3, none⟩ = some (.string (⟨#[]⟩ : ByteArray)) := (blk_cell BK30012.out 3).trans rfl; have hfz24_0 := blk_frozen BK30012.out 0; have hfz24_1 := blk_frozen BK30012.out 1; have hfz24_2 := blk_frozen BK30012.out 2; have hfz24_3 := blk_frozen BK30012.out 3; have hcz25_0 : w22.cell? ⟨gb30001, 0, none⟩ = some (.int .i64 a0_0) := (blk_cell BK30001.out 0).trans rfl; have hcz25_1 : w22.cell? ⟨gb30001, 1, none⟩ = some (.slice A0_1 l0_1.length c0_1) := (blk_cell BK30001.out 1).trans rfl; have hfz25_0 := blk_frozen BK30001.out 0; have hfz25_1 := blk_frozen BK30001.out 1) | ((with_reducible refine gate_callee (f := 11) rfl ?_); refine goesL_ (some 27) rfl rfl Tryd.func11 (by kernel_rfl) rfl #[.agg #[.int .i64 a0_0, .slice A0_1 l0_1.length c0_1]] rfl (by (try simp only [List.map_toArray, List.map_cons, List.map_nil]); first | done | rfl | (simp only [List.length_drop, List.length_take]; rfl)) ?_; (with_reducible refine (laws_toPool.calls k a0_0 _ _ l0_1 t30013 t30014 _ ?side1 ?side2 A12.out).mono ?_); (case side1 => exact Kd.C_below HR0_1.out (by repeat (first | (with_reducible first | exact HB.out | apply below_alloc | apply pw_below_drewN | apply below_drew1 | refine below_set ?_ GE30001.out | refine below_set ?_ GE30012.out) | exact HB.out))); (case side2 => exact HC0_1.out); rintro e w26 ⟨v30015, rfl, ho0, hb⟩; refine ⟨_, rfl, ?_⟩; have n0_ := Aside0.mk (Kd.R_elder' (by (with_reducible repeat (first | apply Kd.R_alloc | apply Kd.R_drewN | apply Kd.R_drew)); exact (Kd.R_mono (Kd.R_far (p := ⟨gb30012, 3, none⟩) (Kd.R_far (p := ⟨gb30012, 2, none⟩) (Kd.R_far (p := ⟨gb30012, 1, none⟩) (Kd.R_far (p := ⟨gb30012, 0, none⟩) (Kd.R_types HO30006.out BK30012.out (by decide)) (fun _ hk => hk.2) (.string t30007)) (fun _ hk => hk.2) (.string t30008)) (fun _ hk => hk.2) (.string t30009)) (fun _ hk => hk.2) (.string t30010)) (fun _ h_ => h_.1))) (Kd.R_base ho0) hb); have n1_ := Aside0.mk (Kd.R_lower (Kd.R_new' ho0 (Kd.R_lt (by (with_reducible repeat (first | apply Kd.R_alloc | apply Kd.R_drewN | apply Kd.R_drew)); exact (Kd.R_mono (Kd.R_far (p := ⟨gb30012, 3, none⟩) (Kd.R_far (p := ⟨gb30012, 2, none⟩) (Kd.R_far (p := ⟨gb30012, 1, none⟩) (Kd.R_far (p := ⟨gb30012, 0, none⟩) (Kd.R_types HO30006.out BK30012.out (by decide)) (fun _ hk => hk.2) (.string t30007)) (fun _ hk => hk.2) (.string t30008)) (fun _ hk => hk.2) (.string t30009)) (fun _ hk => hk.2) (.string t30010)) (fun _ h_ => h_.1))))) (below_size (by repeat (first | (with_reducible first | exact HB.out | apply below_alloc | apply pw_below_drewN | apply below_drew1 | refine below_set ?_ GE30001.out | refine below_set ?_ GE30012.out) | exact HB.out)))); have n2_ := Aside0.mk (blk_below (g := gb30001) (o := .cells #[.int .i64 a0_0, .slice A0_1 l0_1.length c0_1] 24 (0, 0)) (by (with_reducible repeat (first | refine blk_drewN ?_ _ | refine blk_drew ?_ | refine blk_alloc ?_ _)); refine blk_far ?_ NB30001_30012.out _; (with_reducible repeat (first | refine blk_drewN ?_ _ | refine blk_drew ?_ | refine blk_alloc ?_ _)); refine blk_far ?_ NB30001_30012.out _; (with_reducible repeat (first | refine blk_drewN ?_ _ | refine blk_drew ?_ | refine blk_alloc ?_ _)); refine blk_far ?_ NB30001_30012.out _; (with_reducible repeat (first | refine blk_drewN ?_ _ | refine blk_drew ?_ | refine blk_alloc ?_ _)); refine blk_far ?_ NB30001_30012.out _; (with_reducible repeat (first | refine blk_drewN ?_ _ | refine blk_drew ?_ | refine blk_alloc ?_ _)); exact BK30001.out) hb); have n3_ := Aside0.mk (blk_below (g := gb30012) (o := .cells #[.string t30007, .string t30008, .string t30009, .string t30010] 27 (0, 0)) (by (with_reducible repeat (first | refine blk_drewN ?_ _ | refine blk_drew ?_ | refine blk_alloc ?_ _)); refine blk_put (cs := #[.string t30007, .string t30008, .string t30009, .string (⟨#[]⟩ : ByteArray)]) ?_ 3 _ rfl; (with_reducible repeat (first | refine blk_drewN ?_ _ | refine blk_drew ?_ | refine blk_alloc ?_ _)); refine blk_put (cs := #[.string t30007, .string t30008, .string (⟨#[]⟩ : ByteArray), .string (⟨#[]⟩ : ByteArray)]) ?_ 2 _ rfl; (with_reducible repeat (first | refine blk_drewN ?_ _ | refine blk_drew ?_ | refine blk_alloc ?_ _)); refine blk_put (cs := #[.string t30007, .string (⟨#[]⟩ : ByteArray), .string (⟨#[]⟩ : ByteArray), .string (⟨#[]⟩ : ByteArray)]) ?_ 1 _ rfl; (with_reducible repeat (first | refine blk_drewN ?_ _ | refine blk_drew ?_ | refine blk_alloc ?_ _)); refine blk_put (cs := #[.string (⟨#[]⟩ : ByteArray), .string (⟨#[]⟩ : ByteArray), .string (⟨#[]⟩ : ByteArray), .string (⟨#[]⟩ : ByteArray)]) ?_ 0 _ rfl; (with_reducible repeat (first | refine blk_drewN ?_ _ | refine blk_drew ?_ | refine blk_alloc ?_ _)); exact BK30012.out) hb); have n4_ := Aside0.mk (below_step (by repeat (first | (with_reducible first | exact HB.out | apply below_alloc | apply pw_below_drewN | apply below_drew1 | refine below_set ?_ GE30001.out | refine below_set ?_ GE30012.out) | exact HB.out)) hb); clear HO30006; clear BK30001; clear BK30012; clear HB; have HO30006 := n0_; have HO30016 := n1_; have BK30001 := n2_; have BK30012 := n3_; have HB := n4_; clear n0_ n1_ n2_ n3_ n4_; (try clear hb); (try clear hb2); (try clear hk); (try clear hi); (try clear ho0)) | ((with_reducible refine gate_dst (N := 8) rfl ?_); refine box_event ?hg (N := 8) ?hd (cs := #[.int .i64 0, .slice none 0 0]) (t := 30) ?hr ?_; (case hd => rfl); (case hg => rfl); (case hr => first | (go_simp; done) | (go_simp; rfl)); intro gb30017 hg w27 hbox hb; have n0_ := Aside0.mk (Kd.R_below (by (with_reducible repeat (first | apply Kd.R_alloc | apply Kd.R_drewN | apply Kd.R_drew)); exact HO30006.out) hb); have n1_ := Aside0.mk (Kd.R_below (by (with_reducible repeat (first | apply Kd.R_alloc | apply Kd.R_drewN | apply Kd.R_drew)); exact HO30016.out) hb); have n2_ := Aside0.mk (blk_below (g := gb30001) (o := .cells #[.int .i64 a0_0, .slice A0_1 l0_1.length c0_1] 24 (0, 0)) (by (with_reducible repeat (first | refine blk_drewN ?_ _ | refine blk_drew ?_ | refine blk_alloc ?_ _)); exact BK30001.out) hb); have n3_ := Aside0.mk (blk_below (g := gb30012) (o := .cells #[.string t30007, .string t30008, .string t30009, .string t30010] 27 (0, 0)) (by (with_reducible repeat (first | refine blk_drewN ?_ _ | refine blk_drew ?_ | refine blk_alloc ?_ _)); exact BK30012.out) hb); have n4_ := Aside0.mk (below_step (by repeat (first | (with_reducible first | exact HB.out | apply below_alloc | apply pw_below_drewN | apply below_drew1 | refine below_set ?_ GE30001.out | refine below_set ?_ GE30012.out) | exact HB.out)) hb); have n5_ := Aside0.mk (hbox); have n6_ := Aside0.mk ((by rw [hg]; exact (below_size (by repeat (first | (with_reducible first | exact HB.out | apply below_alloc | apply pw_below_drewN | apply below_drew1 | refine below_set ?_ GE30001.out | refine below_set ?_ GE30012.out) | exact HB.out))) : w.heap.size ≤ gb30017)); have n7_ := Aside0.mk ((by rw [hg]; exact (below_size (by repeat (first | (with_reducible first | exact HB.out | apply below_alloc | apply pw_below_drewN | apply below_drew1 | refine below_set ?_ GE30001.out | refine below_set ?_ GE30012.out) | exact HB.out))) : w.heap.size ≤ gb30017)); have n8_ := Aside0.mk ((by rw [hg]; exact Nat.ne_of_lt (blk_lt (g := gb30001) (o := .cells #[.int .i64 a0_0, .slice A0_1 l0_1.length c0_1] 24 (0, 0)) (by (with_reducible repeat (first | refine blk_drewN ?_ _ | refine blk_drew ?_ | refine blk_alloc ?_ _)); exact BK30001.out)) : gb30001 ≠ gb30017)); have n9_ := Aside0.mk ((by rw [hg]; exact Nat.ne_of_gt (blk_lt (g := gb30001) (o := .cells #[.int .i64 a0_0, .slice A0_1 l0_1.length c0_1] 24 (0, 0)) (by (with_reducible repeat (first | refine blk_drewN ?_ _ | refine blk_drew ?_ | refine blk_alloc ?_ _)); exact BK30001.out)) : gb30017 ≠ gb30001)); have n10_ := Aside0.mk ((by rw [hg]; exact Nat.ne_of_lt (blk_lt (g := gb30012) (o := .cells #[.string t30007, .string t30008, .string t30009, .string t30010] 27 (0, 0)) (by (with_reducible repeat (first | refine blk_drewN ?_ _ | refine blk_drew ?_ | refine blk_alloc ?_ _)); exact BK30012.out)) : gb30012 ≠ gb30017)); have n11_ := Aside0.mk ((by rw [hg]; exact Nat.ne_of_gt (blk_lt (g := gb30012) (o := .cells #[.string t30007, .string t30008, .string t30009, .string t30010] 27 (0, 0)) (by (with_reducible repeat (first | refine blk_drewN ?_ _ | refine blk_drew ?_ | refine blk_alloc ?_ _)); exact BK30012.out)) : gb30017 ≠ gb30012)); clear HO30006; clear HO30016; clear BK30001; clear BK30012; clear HB; have HO30006 := n0_; have HO30016 := n1_; have BK30001 := n2_; have BK30012 := n3_; have HB := n4_; have BK30017 := n5_; have GW30017 := n6_; have GE30017 := n7_; have NB30001_30017 := n8_; have NB30017_30001 := n9_; have NB30012_30017 := n10_; have NB30017_30012 := n11_; clear n0_ n1_ n2_ n3_ n4_ n5_ n6_ n7_ n8_ n9_ n10_ n11_; clear hb hbox hg; have hnb28 := NB30017_30001.out; have hnc28 := NB30001_30017.out; have hnb29 := NB30017_30012.out; have hnc29 := NB30012_30017.out; have hcz30_0 : w27.cell? ⟨gb30017, 0, none⟩ = some (.int .i64 0) := (blk_cell BK30017.out 0).trans rfl; have hcz30_1 : w27.cell? ⟨gb30017, 1, none⟩ = some (.slice none 0 0) := (blk_cell BK30017.out 1).trans rfl; have hfz30_0 := blk_frozen BK30017.out 0; have hfz30_1 := blk_frozen BK30017.out 1; obtain ⟨Ao31, co31, eo31⟩ := Kd.R_slice HO30016.out; subst eo31) | ((with_reducible refine gate_callee (f := 12) rfl ?_); refine goesL_ (some 31) rfl rfl Tryd.func12 (by kernel_rfl) rfl #[.agg #[.int .i64 t30013, .slice Ao31 t30014.length co31], .string a1] rfl (by (try simp only [List.map_toArray, List.map_cons, List.map_nil]); first | done | rfl | (simp only [List.length_drop, List.length_take]; rfl)) ?_; (with_reducible refine (impl_PoolFind.calls t30013 _ _ t30014 a1 t30018 t30019 t30020 t30021 t30022 _ ?side1 ?side2 A13.out).mono ?_); (case side1 => refine (Kd.R_reads' (e := 9) (base := w.heap.size) (ok := fun k_ => (True ∧ some k_ ≠ (.slice Ao20 t30004.length co20 : Value).ownBlock)) (n := t30014.length) (c := co31) ?_).2.2; exact (by (with_reducible repeat (first | apply Kd.R_alloc | apply Kd.R_drewN | apply Kd.R_drew)); exact (Kd.R_mono (Kd.R_far (p := ⟨gb30017, 1, none⟩) (Kd.R_far (p := ⟨gb30017, 0, none⟩) (Kd.R_types HO30016.out BK30017.out (by decide)) (fun _ hk => hk.2) (.int .i64 t30013)) (fun _ hk => hk.2) (.slice Ao31 t30014.length co31)) (fun _ h_ => h_.1)))); (case side2 => exact (Kd.R_reads' HO30016.out).2.1); rintro e w32 ⟨rfl, hb⟩; refine ⟨_, rfl, ?_⟩; have n0_ := Aside0.mk (Kd.R_below (by (with_reducible repeat (first | apply Kd.R_alloc | apply Kd.R_drewN | apply Kd.R_drew)); exact (Kd.R_mono (Kd.R_far (p := ⟨gb30017, 1, none⟩) (Kd.R_far (p := ⟨gb30017, 0, none⟩) (Kd.R_types HO30006.out BK30017.out (by decide)) (fun _ hk => hk.2) (.int .i64 t30013)) (fun _ hk => hk.2) (.slice Ao31 t30014.length co31)) (fun _ h_ => h_.1))) hb); have n1_ := Aside0.mk (Kd.R_below (by (with_reducible repeat (first | apply Kd.R_alloc | apply Kd.R_drewN | apply Kd.R_drew)); exact (Kd.R_mono (Kd.R_far (p := ⟨gb30017, 1, none⟩) (Kd.R_far (p := ⟨gb30017, 0, none⟩) (Kd.R_types HO30016.out BK30017.out (by decide)) (fun _ hk => hk.2) (.int .i64 t30013)) (fun _ hk => hk.2) (.slice Ao31 t30014.length co31)) (fun _ h_ => h_.1))) hb); have n2_ := Aside0.mk (blk_below (g := gb30001) (o := .cells #[.int .i64 a0_0, .slice A0_1 l0_1.length c0_1] 24 (0, 0)) (by (with_reducible repeat (first | refine blk_drewN ?_ _ | refine blk_drew ?_ | refine blk_alloc ?_ _)); refine blk_far ?_ NB30001_30017.out _; (with_reducible repeat (first | refine blk_drewN ?_ _ | refine blk_drew ?_ | refine blk_alloc ?_ _)); refine blk_far ?_ NB30001_30017.out _; (with_reducible repeat (first | refine blk_drewN ?_ _ | refine blk_drew ?_ | refine blk_alloc ?_ _)); exact BK30001.out) hb); have n3_ := Aside0.mk (blk_below (g := gb30012) (o := .cells #[.string t30007, .string t30008, .string t30009, .string t30010] 27 (0, 0)) (by (with_reducible repeat (first | refine blk_drewN ?_ _ | refine blk_drew ?_ | refine blk_alloc ?_ _)); refine blk_far ?_ NB30012_30017.out _; (with_reducible repeat (first | refine blk_drewN ?_ _ | refine blk_drew ?_ | refine blk_alloc ?_ _)); refine blk_far ?_ NB30012_30017.out _; (with_reducible repeat (first | refine blk_drewN ?_ _ | refine blk_drew ?_ | refine blk_alloc ?_ _)); exact BK30012.out) hb); have n4_ := Aside0.mk (blk_below (g := gb30017) (o := .cells #[.int .i64 t30013, .slice Ao31 t30014.length co31] 30 (0, 0)) (by (with_reducible repeat (first | refine blk_drewN ?_ _ | refine blk_drew ?_ | refine blk_alloc ?_ _)); refine blk_put (cs := #[.int .i64 t30013, .slice none 0 0]) ?_ 1 _ rfl; (with_reducible repeat (first | refine blk_drewN ?_ _ | refine blk_drew ?_ | refine blk_alloc ?_ _)); refine blk_put (cs := #[.int .i64 0, .slice none 0 0]) ?_ 0 _ rfl; (with_reducible repeat (first | refine blk_drewN ?_ _ | refine blk_drew ?_ | refine blk_alloc ?_ _)); exact BK30017.out) hb); have n5_ := Aside0.mk (below_step (by repeat (first | (with_reducible first | exact HB.out | apply below_alloc | apply pw_below_drewN | apply below_drew1 | refine below_set ?_ GE30001.out | refine below_set ?_ GE30012.out | refine below_set ?_ GE30017.out) | exact HB.out)) hb); clear HO30006; clear HO30016; clear BK30001; clear BK30012; clear BK30017; clear HB; have HO30006 := n0_; have HO30016 := n1_; have BK30001 := n2_; have BK30012 := n3_; have BK30017 := n4_; have HB := n5_; clear n0_ n1_ n2_ n3_ n4_ n5_; (try clear hb); (try clear hb2); (try clear hk); (try clear hi)) | ((with_reducible refine gate_dst (N := 9) rfl ?_); refine box_event ?hg (N := 9) ?hd (cs := #[.string (⟨#[]⟩ : ByteArray), .string (⟨#[]⟩ : ByteArray), .string (⟨#[]⟩ : ByteArray), .string (⟨#[]⟩ : ByteArray)]) (t := 27) ?hr ?_; (case hd => rfl); (case hg => rfl); (case hr => first | (go_simp; done) | (go_simp; rfl)); intro gb30023 hg w33 hbox hb; have n0_ := Aside0.mk (Kd.R_below (by (with_reducible repeat (first | apply Kd.R_alloc | apply Kd.R_drewN | apply Kd.R_drew)); exact HO30006.out) hb); have n1_ := Aside0.mk (Kd.R_below (by (with_reducible repeat (first | apply Kd.R_alloc | apply Kd.R_drewN | apply Kd.R_drew)); exact HO30016.out) hb); have n2_ := Aside0.mk (blk_below (g := gb30001) (o := .cells #[.int .i64 a0_0, .slice A0_1 l0_1.length c0_1] 24 (0, 0)) (by (with_reducible repeat (first | refine blk_drewN ?_ _ | refine blk_drew ?_ | refine blk_alloc ?_ _)); exact BK30001.out) hb); have n3_ := Aside0.mk (blk_below (g := gb30012) (o := .cells #[.string t30007, .string t30008, .string t30009, .string t30010] 27 (0, 0)) (by (with_reducible repeat (first | refine blk_drewN ?_ _ | refine blk_drew ?_ | refine blk_alloc ?_ _)); exact BK30012.out) hb); have n4_ := Aside0.mk (blk_below (g := gb30017) (o := .cells #[.int .i64 t30013, .slice Ao31 t30014.length co31] 30 (0, 0)) (by (with_reducible repeat (first | refine blk_drewN ?_ _ | refine blk_drew ?_ | refine blk_alloc ?_ _)); exact BK30017.out) hb); have n5_ := Aside0.mk (below_step (by repeat (first | (with_reducible first | exact HB.out | apply below_alloc | apply pw_below_drewN | apply below_drew1 | refine below_set ?_ GE30001.out | refine below_set ?_ GE30012.out | refine below_set ?_ GE30017.out) | exact HB.out)) hb); have n6_ := Aside0.mk (hbox); have n7_ := Aside0.mk ((by rw [hg]; exact (below_size (by repeat (first | (with_reducible first | exact HB.out | apply below_alloc | apply pw_below_drewN | apply below_drew1 | refine below_set ?_ GE30001.out | refine below_set ?_ GE30012.out | refine below_set ?_ GE30017.out) | exact HB.out))) : w.heap.size ≤ gb30023)); have n8_ := Aside0.mk ((by rw [hg]; exact (below_size (by repeat (first | (with_reducible first | exact HB.out | apply below_alloc | apply pw_below_drewN | apply below_drew1 | refine below_set ?_ GE30001.out | refine below_set ?_ GE30012.out | refine below_set ?_ GE30017.out) | exact HB.out))) : w.heap.size ≤ gb30023)); have n9_ := Aside0.mk ((by rw [hg]; exact Nat.ne_of_lt (blk_lt (g := gb30001) (o := .cells #[.int .i64 a0_0, .slice A0_1 l0_1.length c0_1] 24 (0, 0)) (by (with_reducible repeat (first | refine blk_drewN ?_ _ | refine blk_drew ?_ | refine blk_alloc ?_ _)); exact BK30001.out)) : gb30001 ≠ gb30023)); have n10_ := Aside0.mk ((by rw [hg]; exact Nat.ne_of_gt (blk_lt (g := gb30001) (o := .cells #[.int .i64 a0_0, .slice A0_1 l0_1.length c0_1] 24 (0, 0)) (by (with_reducible repeat (first | refine blk_drewN ?_ _ | refine blk_drew ?_ | refine blk_alloc ?_ _)); exact BK30001.out)) : gb30023 ≠ gb30001)); have n11_ := Aside0.mk ((by rw [hg]; exact Nat.ne_of_lt (blk_lt (g := gb30012) (o := .cells #[.string t30007, .string t30008, .string t30009, .string t30010] 27 (0, 0)) (by (with_reducible repeat (first | refine blk_drewN ?_ _ | refine blk_drew ?_ | refine blk_alloc ?_ _)); exact BK30012.out)) : gb30012 ≠ gb30023)); have n12_ := Aside0.mk ((by rw [hg]; exact Nat.ne_of_gt (blk_lt (g := gb30012) (o := .cells #[.string t30007, .string t30008, .string t30009, .string t30010] 27 (0, 0)) (by (with_reducible repeat (first | refine blk_drewN ?_ _ | refine blk_drew ?_ | refine blk_alloc ?_ _)); exact BK30012.out)) : gb30023 ≠ gb30012)); have n13_ := Aside0.mk ((by rw [hg]; exact Nat.ne_of_lt (blk_lt (g := gb30017) (o := .cells #[.int .i64 t30013, .slice Ao31 t30014.length co31] 30 (0, 0)) (by (with_reducible repeat (first | refine blk_drewN ?_ _ | refine blk_drew ?_ | refine blk_alloc ?_ _)); exact BK30017.out)) : gb30017 ≠ gb30023)); have n14_ := Aside0.mk ((by rw [hg]; exact Nat.ne_of_gt (blk_lt (g := gb30017) (o := .cells #[.int .i64 t30013, .slice Ao31 t30014.length co31] 30 (0, 0)) (by (with_reducible repeat (first | refine blk_drewN ?_ _ | refine blk_drew ?_ | refine blk_alloc ?_ _)); exact BK30017.out)) : gb30023 ≠ gb30017)); clear HO30006; clear HO30016; clear BK30001; clear BK30012; clear BK30017; clear HB; have HO30006 := n0_; have HO30016 := n1_; have BK30001 := n2_; have BK30012 := n3_; have BK30017 := n4_; have HB := n5_; have BK30023 := n6_; have GW30023 := n7_; have GE30023 := n8_; have NB30001_30023 := n9_; have NB30023_30001 := n10_; have NB30012_30023 := n11_; have NB30023_30012 := n12_; have NB30017_30023 := n13_; have NB30023_30017 := n14_; clear n0_ n1_ n2_ n3_ n4_ n5_ n6_ n7_ n8_ n9_ n10_ n11_ n12_ n13_ n14_; clear hb hbox hg; have hnb34 := NB30023_30001.out; have hnc34 := NB30001_30023.out; have hnb35 := NB30023_30012.out; have hnc35 := NB30012_30023.out; have hnb36 := NB30023_30017.out; have hnc36 := NB30017_30023.out; have hcz37_0 : w33.cell? ⟨gb30023, 0, none⟩ = some (.string (⟨#[]⟩ : ByteArray)) := (blk_cell BK30023.out 0).trans rfl; have hcz37_1 : w33.cell? ⟨gb30023, 1, none⟩ = some (.string (⟨#[]⟩ : ByteArray)) := (blk_cell BK30023.out 1).trans rfl; have hcz37_2 : w33.cell? ⟨gb30023, 2, none⟩ = some (.string (⟨#[]⟩ : ByteArray)) := (blk_cell BK30023.out 2).trans rfl; have hcz37_3 : w33.cell? ⟨gb30023, 3, none⟩ = some (.string (⟨#[]⟩ : ByteArray)) := (blk_cell BK30023.out 3).trans rfl; have hfz37_0 := blk_frozen BK30023.out 0; have hfz37_1 := blk_frozen BK30023.out 1; have hfz37_2 := blk_frozen BK30023.out 2; have hfz37_3 := blk_frozen BK30023.out 3))
      (try simp only [Act.put, List.setIfInBounds_toArray, List.set_cons_zero, List.set_cons_succ])
      go_cut [42] (fun v42 wc => ∃ (kq : Nat) (x42_13 : Bool), v42 = .bool x42_13 ∧ Aside0 (laws_FnExactPoolFind.j0 kq x42_13 a0_0 l0_1 t30013 t30014 = some r) ∧ Aside0 (kq ≤ k) ∧ Aside0 (Kd.R Kd.string 9 wc w.heap.size (fun _ => True) (.slice Ao31 t30014.length co31) t30014) ∧ Aside0 (wc.heap[gb30001]? = some (.cells #[.int .i64 a0_0, (.slice A0_1 l0_1.length c0_1)] 24 (0, 0))) ∧ Aside0 (wc.heap[gb30012]? = some (.cells #[.string t30007, .string t30008, .string t30009, .string t30010] 27 (0, 0))) ∧ Aside0 (wc.heap[gb30017]? = some (.cells #[.int .i64 t30013, (.slice Ao31 t30014.length co31)] 30 (0, 0))) ∧ Aside0 (wc.heap[gb30023]? = some (.cells #[.string t30018, .string t30019, .string t30020, .string t30021] 27 (0, 0))) ∧ Aside0 (Below w.heap.size w wc))
      case first =>
        have H := HC14.out
        clear HC14
        replace H := Option.bind_eq_some_iff.mp H
        obtain ⟨t30024, A380, H⟩ := H
        replace H : (if t30024 = true then (laws_FnExactPoolFind.j0 k (t30022 != t30011) a0_0 l0_1 t30013 t30014) else (laws_FnExactPoolFind.j0 k true a0_0 l0_1 t30013 t30014)) = some r := H
        have A38 := Aside0.mk A380
        clear A380
        by_cases c39 : t30024 = true
        · subst c39
          have H1 : (laws_FnExactPoolFind.j0 k (t30022 != t30011) a0_0 l0_1 t30013 t30014) = some r := by rw [if_pos rfl] at H; exact H
          clear H
          have H := H1
          clear H1
          have H' := Aside0.mk H
          clear H
          have hnb40 := NB30023_30001.out
          have hnc40 := NB30001_30023.out
          have hnb41 := NB30023_30012.out
          have hnc41 := NB30012_30023.out
          have hnb42 := NB30023_30017.out
          have hnc42 := NB30017_30023.out
          have hcz43_0 : w33.cell? ⟨gb30023, 0, none⟩ = some (.string (⟨#[]⟩ : ByteArray)) := (blk_cell BK30023.out 0).trans rfl
          have hcz43_1 : w33.cell? ⟨gb30023, 1, none⟩ = some (.string (⟨#[]⟩ : ByteArray)) := (blk_cell BK30023.out 1).trans rfl
          have hcz43_2 : w33.cell? ⟨gb30023, 2, none⟩ = some (.string (⟨#[]⟩ : ByteArray)) := (blk_cell BK30023.out 2).trans rfl
          have hcz43_3 : w33.cell? ⟨gb30023, 3, none⟩ = some (.string (⟨#[]⟩ : ByteArray)) := (blk_cell BK30023.out 3).trans rfl
          have hfz43_0 := blk_frozen BK30023.out 0
          have hfz43_1 := blk_frozen BK30023.out 1
          have hfz43_2 := blk_frozen BK30023.out 2
          have hfz43_3 := blk_frozen BK30023.out 3
          have hnb44 := NB30012_30001.out
          have hnc44 := NB30001_30012.out
          have hnb45 := NB30012_30017.out
          have hnc45 := NB30017_30012.out
          have hcz46_0 : w33.cell? ⟨gb30012, 0, none⟩ = some (.string t30007) := (blk_cell BK30012.out 0).trans rfl
          have hcz46_1 : w33.cell? ⟨gb30012, 1, none⟩ = some (.string t30008) := (blk_cell BK30012.out 1).trans rfl
          have hcz46_2 : w33.cell? ⟨gb30012, 2, none⟩ = some (.string t30009) := (blk_cell BK30012.out 2).trans rfl
          have hcz46_3 : w33.cell? ⟨gb30012, 3, none⟩ = some (.string t30010) := (blk_cell BK30012.out 3).trans rfl
          have hfz46_0 := blk_frozen BK30012.out 0
          have hfz46_1 := blk_frozen BK30012.out 1
          have hfz46_2 := blk_frozen BK30012.out 2
          have hfz46_3 := blk_frozen BK30012.out 3
          go_wp2_with (first | ((with_reducible refine gate_callee (f := 13) rfl ?_); refine goesL_ (some 36) rfl rfl Tryd.func13 (by kernel_rfl) rfl #[.agg #[.string t30018, .string t30019, .string t30020, .string t30021], .agg #[.string t30007, .string t30008, .string t30009, .string t30010]] rfl (by (try simp only [List.map_toArray, List.map_cons, List.map_nil]); first | done | rfl | (simp only [List.length_drop, List.length_take]; rfl)) ?_; (with_reducible refine (laws_eqNode.calls t30018 t30019 t30020 t30021 t30007 t30008 t30009 t30010 true _ A38.out).mono ?_); rintro e w47 ⟨rfl, hb⟩; refine ⟨_, rfl, ?_⟩; have n0_ := Aside0.mk (Kd.R_below (by (with_reducible repeat (first | apply Kd.R_alloc | apply Kd.R_drewN | apply Kd.R_drew)); exact (Kd.R_mono (Kd.R_far (p := ⟨gb30023, 3, none⟩) (Kd.R_far (p := ⟨gb30023, 2, none⟩) (Kd.R_far (p := ⟨gb30023, 1, none⟩) (Kd.R_far (p := ⟨gb30023, 0, none⟩) (Kd.R_types HO30006.out BK30023.out (by decide)) (fun _ hk => hk.2) (.string t30018)) (fun _ hk => hk.2) (.string t30019)) (fun _ hk => hk.2) (.string t30020)) (fun _ hk => hk.2) (.string t30021)) (fun _ h_ => h_.1))) hb); have n1_ := Aside0.mk (Kd.R_below (by (with_reducible repeat (first | apply Kd.R_alloc | apply Kd.R_drewN | apply Kd.R_drew)); exact (Kd.R_mono (Kd.R_far (p := ⟨gb30023, 3, none⟩) (Kd.R_far (p := ⟨gb30023, 2, none⟩) (Kd.R_far (p := ⟨gb30023, 1, none⟩) (Kd.R_far (p := ⟨gb30023, 0, none⟩) (Kd.R_types HO30016.out BK30023.out (by decide)) (fun _ hk => hk.2) (.string t30018)) (fun _ hk => hk.2) (.string t30019)) (fun _ hk => hk.2) (.string t30020)) (fun _ hk => hk.2) (.string t30021)) (fun _ h_ => h_.1))) hb); have n2_ := Aside0.mk (blk_below (g := gb30001) (o := .cells #[.int .i64 a0_0, .slice A0_1 l0_1.length c0_1] 24 (0, 0)) (by (with_reducible repeat (first | refine blk_drewN ?_ _ | refine blk_drew ?_ | refine blk_alloc ?_ _)); refine blk_far ?_ NB30001_30023.out _; (with_reducible repeat (first | refine blk_drewN ?_ _ | refine blk_drew ?_ | refine blk_alloc ?_ _)); refine blk_far ?_ NB30001_30023.out _; (with_reducible repeat (first | refine blk_drewN ?_ _ | refine blk_drew ?_ | refine blk_alloc ?_ _)); refine blk_far ?_ NB30001_30023.out _; (with_reducible repeat (first | refine blk_drewN ?_ _ | refine blk_drew ?_ | refine blk_alloc ?_ _)); refine blk_far ?_ NB30001_30023.out _; (with_reducible repeat (first | refine blk_drewN ?_ _ | refine blk_drew ?_ | refine blk_alloc ?_ _)); exact BK30001.out) hb); have n3_ := Aside0.mk (blk_below (g := gb30012) (o := .cells #[.string t30007, .string t30008, .string t30009, .string t30010] 27 (0, 0)) (by (with_reducible repeat (first | refine blk_drewN ?_ _ | refine blk_drew ?_ | refine blk_alloc ?_ _)); refine blk_far ?_ NB30012_30023.out _; (with_reducible repeat (first | refine blk_drewN ?_ _ | refine blk_drew ?_ | refine blk_alloc ?_ _)); refine blk_far ?_ NB30012_30023.out _; (with_reducible repeat (first | refine blk_drewN ?_ _ | refine blk_drew ?_ | refine blk_alloc ?_ _)); refine blk_far ?_ NB30012_30023.out _; (with_reducible repeat (first | refine blk_drewN ?_ _ | refine blk_drew ?_ | refine blk_alloc ?_ _)); refine blk_far ?_ NB30012_30023.out _; (with_reducible repeat (first | refine blk_drewN ?_ _ | refine blk_drew ?_ | refine blk_alloc ?_ _)); exact BK30012.out) hb); have n4_ := Aside0.mk (blk_below (g := gb30017) (o := .cells #[.int .i64 t30013, .slice Ao31 t30014.length co31] 30 (0, 0)) (by (with_reducible repeat (first | refine blk_drewN ?_ _ | refine blk_drew ?_ | refine blk_alloc ?_ _)); refine blk_far ?_ NB30017_30023.out _; (with_reducible repeat (first | refine blk_drewN ?_ _ | refine blk_drew ?_ | refine blk_alloc ?_ _)); refine blk_far ?_ NB30017_30023.out _; (with_reducible repeat (first | refine blk_drewN ?_ _ | refine blk_drew ?_ | refine blk_alloc ?_ _)); refine blk_far ?_ NB30017_30023.out _; (with_reducible repeat (first | refine blk_drewN ?_ _ | refine blk_drew ?_ | refine blk_alloc ?_ _)); refine blk_far ?_ NB30017_30023.out _; (with_reducible repeat (first | refine blk_drewN ?_ _ | refine blk_drew ?_ | refine blk_alloc ?_ _)); exact BK30017.out) hb); have n5_ := Aside0.mk (blk_below (g := gb30023) (o := .cells #[.string t30018, .string t30019, .string t30020, .string t30021] 27 (0, 0)) (by (with_reducible repeat (first | refine blk_drewN ?_ _ | refine blk_drew ?_ | refine blk_alloc ?_ _)); refine blk_put (cs := #[.string t30018, .string t30019, .string t30020, .string (⟨#[]⟩ : ByteArray)]) ?_ 3 _ rfl; (with_reducible repeat (first | refine blk_drewN ?_ _ | refine blk_drew ?_ | refine blk_alloc ?_ _)); refine blk_put (cs := #[.string t30018, .string t30019, .string (⟨#[]⟩ : ByteArray), .string (⟨#[]⟩ : ByteArray)]) ?_ 2 _ rfl; (with_reducible repeat (first | refine blk_drewN ?_ _ | refine blk_drew ?_ | refine blk_alloc ?_ _)); refine blk_put (cs := #[.string t30018, .string (⟨#[]⟩ : ByteArray), .string (⟨#[]⟩ : ByteArray), .string (⟨#[]⟩ : ByteArray)]) ?_ 1 _ rfl; (with_reducible repeat (first | refine blk_drewN ?_ _ | refine blk_drew ?_ | refine blk_alloc ?_ _)); refine blk_put (cs := #[.string (⟨#[]⟩ : ByteArray), .string (⟨#[]⟩ : ByteArray), .string (⟨#[]⟩ : ByteArray), .string (⟨#[]⟩ : ByteArray)]) ?_ 0 _ rfl; (with_reducible repeat (first | refine blk_drewN ?_ _ | refine blk_drew ?_ | refine blk_alloc ?_ _)); exact BK30023.out) hb); have n6_ := Aside0.mk (below_step (by repeat (first | (with_reducible first | exact HB.out | apply below_alloc | apply pw_below_drewN | apply below_drew1 | refine below_set ?_ GE30001.out | refine below_set ?_ GE30012.out | refine below_set ?_ GE30017.out | refine below_set ?_ GE30023.out) | exact HB.out)) hb); clear HO30006; clear HO30016; clear BK30001; clear BK30012; clear BK30017; clear BK30023; clear HB; have HO30006 := n0_; have HO30016 := n1_; have BK30001 := n2_; have BK30012 := n3_; have BK30017 := n4_; have BK30023 := n5_; have HB := n6_; clear n0_ n1_ n2_ n3_ n4_ n5_ n6_; (try clear hb); (try clear hb2); (try clear hk); (try clear hi)))
          go_meet
          case rel => exact ⟨_, ((t30022 != t30011)), (by first | rfl | (simp; done) | (simp [*]; done)), H', ⟨by first | omega | exact Nat.le_refl _⟩, ⟨by (with_reducible repeat (first | apply Kd.R_alloc | apply Kd.R_drewN | apply Kd.R_drew)); exact Kd.R_mono HO30016.out (fun _ hk => trivial)⟩, ⟨by (with_reducible repeat (first | refine blk_drewN ?_ _ | refine blk_drew ?_ | refine blk_alloc ?_ _)); exact BK30001.out⟩, ⟨by (with_reducible repeat (first | refine blk_drewN ?_ _ | refine blk_drew ?_ | refine blk_alloc ?_ _)); exact BK30012.out⟩, ⟨by (with_reducible repeat (first | refine blk_drewN ?_ _ | refine blk_drew ?_ | refine blk_alloc ?_ _)); exact BK30017.out⟩, ⟨by (with_reducible repeat (first | refine blk_drewN ?_ _ | refine blk_drew ?_ | refine blk_alloc ?_ _)); exact BK30023.out⟩, ⟨by repeat (first | (with_reducible first | exact HB.out | apply below_alloc | apply pw_below_drewN | apply below_drew1 | refine below_set ?_ GE30001.out | refine below_set ?_ GE30012.out | refine below_set ?_ GE30017.out | refine below_set ?_ GE30023.out) | exact HB.out)⟩⟩
        · replace c39 := Bool.eq_false_iff.mpr c39
          subst c39
          have H1 : (laws_FnExactPoolFind.j0 k true a0_0 l0_1 t30013 t30014) = some r := by rw [if_neg (show ¬ (false = true) by decide)] at H; exact H
          clear H
          have H := H1
          clear H1
          have H' := Aside0.mk H
          clear H
          have hnb48 := NB30023_30001.out
          have hnc48 := NB30001_30023.out
          have hnb49 := NB30023_30012.out
          have hnc49 := NB30012_30023.out
          have hnb50 := NB30023_30017.out
          have hnc50 := NB30017_30023.out
          have hcz51_0 : w33.cell? ⟨gb30023, 0, none⟩ = some (.string (⟨#[]⟩ : ByteArray)) := (blk_cell BK30023.out 0).trans rfl
          have hcz51_1 : w33.cell? ⟨gb30023, 1, none⟩ = some (.string (⟨#[]⟩ : ByteArray)) := (blk_cell BK30023.out 1).trans rfl
          have hcz51_2 : w33.cell? ⟨gb30023, 2, none⟩ = some (.string (⟨#[]⟩ : ByteArray)) := (blk_cell BK30023.out 2).trans rfl
          have hcz51_3 : w33.cell? ⟨gb30023, 3, none⟩ = some (.string (⟨#[]⟩ : ByteArray)) := (blk_cell BK30023.out 3).trans rfl
          have hfz51_0 := blk_frozen BK30023.out 0
          have hfz51_1 := blk_frozen BK30023.out 1
          have hfz51_2 := blk_frozen BK30023.out 2
          have hfz51_3 := blk_frozen BK30023.out 3
          have hnb52 := NB30012_30001.out
          have hnc52 := NB30001_30012.out
          have hnb53 := NB30012_30017.out
          have hnc53 := NB30017_30012.out
          have hcz54_0 : w33.cell? ⟨gb30012, 0, none⟩ = some (.string t30007) := (blk_cell BK30012.out 0).trans rfl
          have hcz54_1 : w33.cell? ⟨gb30012, 1, none⟩ = some (.string t30008) := (blk_cell BK30012.out 1).trans rfl
          have hcz54_2 : w33.cell? ⟨gb30012, 2, none⟩ = some (.string t30009) := (blk_cell BK30012.out 2).trans rfl
          have hcz54_3 : w33.cell? ⟨gb30012, 3, none⟩ = some (.string t30010) := (blk_cell BK30012.out 3).trans rfl
          have hfz54_0 := blk_frozen BK30012.out 0
          have hfz54_1 := blk_frozen BK30012.out 1
          have hfz54_2 := blk_frozen BK30012.out 2
          have hfz54_3 := blk_frozen BK30012.out 3
          go_wp2_with (first | ((with_reducible refine gate_callee (f := 13) rfl ?_); refine goesL_ (some 36) rfl rfl Tryd.func13 (by kernel_rfl) rfl #[.agg #[.string t30018, .string t30019, .string t30020, .string t30021], .agg #[.string t30007, .string t30008, .string t30009, .string t30010]] rfl (by (try simp only [List.map_toArray, List.map_cons, List.map_nil]); first | done | rfl | (simp only [List.length_drop, List.length_take]; rfl)) ?_; (with_reducible refine (laws_eqNode.calls t30018 t30019 t30020 t30021 t30007 t30008 t30009 t30010 false _ A38.out).mono ?_); rintro e w55 ⟨rfl, hb⟩; refine ⟨_, rfl, ?_⟩; have n0_ := Aside0.mk (Kd.R_below (by (with_reducible repeat (first | apply Kd.R_alloc | apply Kd.R_drewN | apply Kd.R_drew)); exact (Kd.R_mono (Kd.R_far (p := ⟨gb30023, 3, none⟩) (Kd.R_far (p := ⟨gb30023, 2, none⟩) (Kd.R_far (p := ⟨gb30023, 1, none⟩) (Kd.R_far (p := ⟨gb30023, 0, none⟩) (Kd.R_types HO30006.out BK30023.out (by decide)) (fun _ hk => hk.2) (.string t30018)) (fun _ hk => hk.2) (.string t30019)) (fun _ hk => hk.2) (.string t30020)) (fun _ hk => hk.2) (.string t30021)) (fun _ h_ => h_.1))) hb); have n1_ := Aside0.mk (Kd.R_below (by (with_reducible repeat (first | apply Kd.R_alloc | apply Kd.R_drewN | apply Kd.R_drew)); exact (Kd.R_mono (Kd.R_far (p := ⟨gb30023, 3, none⟩) (Kd.R_far (p := ⟨gb30023, 2, none⟩) (Kd.R_far (p := ⟨gb30023, 1, none⟩) (Kd.R_far (p := ⟨gb30023, 0, none⟩) (Kd.R_types HO30016.out BK30023.out (by decide)) (fun _ hk => hk.2) (.string t30018)) (fun _ hk => hk.2) (.string t30019)) (fun _ hk => hk.2) (.string t30020)) (fun _ hk => hk.2) (.string t30021)) (fun _ h_ => h_.1))) hb); have n2_ := Aside0.mk (blk_below (g := gb30001) (o := .cells #[.int .i64 a0_0, .slice A0_1 l0_1.length c0_1] 24 (0, 0)) (by (with_reducible repeat (first | refine blk_drewN ?_ _ | refine blk_drew ?_ | refine blk_alloc ?_ _)); refine blk_far ?_ NB30001_30023.out _; (with_reducible repeat (first | refine blk_drewN ?_ _ | refine blk_drew ?_ | refine blk_alloc ?_ _)); refine blk_far ?_ NB30001_30023.out _; (with_reducible repeat (first | refine blk_drewN ?_ _ | refine blk_drew ?_ | refine blk_alloc ?_ _)); refine blk_far ?_ NB30001_30023.out _; (with_reducible repeat (first | refine blk_drewN ?_ _ | refine blk_drew ?_ | refine blk_alloc ?_ _)); refine blk_far ?_ NB30001_30023.out _; (with_reducible repeat (first | refine blk_drewN ?_ _ | refine blk_drew ?_ | refine blk_alloc ?_ _)); exact BK30001.out) hb); have n3_ := Aside0.mk (blk_below (g := gb30012) (o := .cells #[.string t30007, .string t30008, .string t30009, .string t30010] 27 (0, 0)) (by (with_reducible repeat (first | refine blk_drewN ?_ _ | refine blk_drew ?_ | refine blk_alloc ?_ _)); refine blk_far ?_ NB30012_30023.out _; (with_reducible repeat (first | refine blk_drewN ?_ _ | refine blk_drew ?_ | refine blk_alloc ?_ _)); refine blk_far ?_ NB30012_30023.out _; (with_reducible repeat (first | refine blk_drewN ?_ _ | refine blk_drew ?_ | refine blk_alloc ?_ _)); refine blk_far ?_ NB30012_30023.out _; (with_reducible repeat (first | refine blk_drewN ?_ _ | refine blk_drew ?_ | refine blk_alloc ?_ _)); refine blk_far ?_ NB30012_30023.out _; (with_reducible repeat (first | refine blk_drewN ?_ _ | refine blk_drew ?_ | refine blk_alloc ?_ _)); exact BK30012.out) hb); have n4_ := Aside0.mk (blk_below (g := gb30017) (o := .cells #[.int .i64 t30013, .slice Ao31 t30014.length co31] 30 (0, 0)) (by (with_reducible repeat (first | refine blk_drewN ?_ _ | refine blk_drew ?_ | refine blk_alloc ?_ _)); refine blk_far ?_ NB30017_30023.out _; (with_reducible repeat (first | refine blk_drewN ?_ _ | refine blk_drew ?_ | refine blk_alloc ?_ _)); refine blk_far ?_ NB30017_30023.out _; (with_reducible repeat (first | refine blk_drewN ?_ _ | refine blk_drew ?_ | refine blk_alloc ?_ _)); refine blk_far ?_ NB30017_30023.out _; (with_reducible repeat (first | refine blk_drewN ?_ _ | refine blk_drew ?_ | refine blk_alloc ?_ _)); refine blk_far ?_ NB30017_30023.out _; (with_reducible repeat (first | refine blk_drewN ?_ _ | refine blk_drew ?_ | refine blk_alloc ?_ _)); exact BK30017.out) hb); have n5_ := Aside0.mk (blk_below (g := gb30023) (o := .cells #[.string t30018, .string t30019, .string t30020, .string t30021] 27 (0, 0)) (by (with_reducible repeat (first | refine blk_drewN ?_ _ | refine blk_drew ?_ | refine blk_alloc ?_ _)); refine blk_put (cs := #[.string t30018, .string t30019, .string t30020, .string (⟨#[]⟩ : ByteArray)]) ?_ 3 _ rfl; (with_reducible repeat (first | refine blk_drewN ?_ _ | refine blk_drew ?_ | refine blk_alloc ?_ _)); refine blk_put (cs := #[.string t30018, .string t30019, .string (⟨#[]⟩ : ByteArray), .string (⟨#[]⟩ : ByteArray)]) ?_ 2 _ rfl; (with_reducible repeat (first | refine blk_drewN ?_ _ | refine blk_drew ?_ | refine blk_alloc ?_ _)); refine blk_put (cs := #[.string t30018, .string (⟨#[]⟩ : ByteArray), .string (⟨#[]⟩ : ByteArray), .string (⟨#[]⟩ : ByteArray)]) ?_ 1 _ rfl; (with_reducible repeat (first | refine blk_drewN ?_ _ | refine blk_drew ?_ | refine blk_alloc ?_ _)); refine blk_put (cs := #[.string (⟨#[]⟩ : ByteArray), .string (⟨#[]⟩ : ByteArray), .string (⟨#[]⟩ : ByteArray), .string (⟨#[]⟩ : ByteArray)]) ?_ 0 _ rfl; (with_reducible repeat (first | refine blk_drewN ?_ _ | refine blk_drew ?_ | refine blk_alloc ?_ _)); exact BK30023.out) hb); have n6_ := Aside0.mk (below_step (by repeat (first | (with_reducible first | exact HB.out | apply below_alloc | apply pw_below_drewN | apply below_drew1 | refine below_set ?_ GE30001.out | refine below_set ?_ GE30012.out | refine below_set ?_ GE30017.out | refine below_set ?_ GE30023.out) | exact HB.out)) hb); clear HO30006; clear HO30016; clear BK30001; clear BK30012; clear BK30017; clear BK30023; clear HB; have HO30006 := n0_; have HO30016 := n1_; have BK30001 := n2_; have BK30012 := n3_; have BK30017 := n4_; have BK30023 := n5_; have HB := n6_; clear n0_ n1_ n2_ n3_ n4_ n5_ n6_; (try clear hb); (try clear hb2); (try clear hk); (try clear hi)))
          go_meet
          case rel => exact ⟨_, (true), (by first | rfl | (simp; done) | (simp [*]; done)), H', ⟨by first | omega | exact Nat.le_refl _⟩, ⟨by (with_reducible repeat (first | apply Kd.R_alloc | apply Kd.R_drewN | apply Kd.R_drew)); exact Kd.R_mono HO30016.out (fun _ hk => trivial)⟩, ⟨by (with_reducible repeat (first | refine blk_drewN ?_ _ | refine blk_drew ?_ | refine blk_alloc ?_ _)); exact BK30001.out⟩, ⟨by (with_reducible repeat (first | refine blk_drewN ?_ _ | refine blk_drew ?_ | refine blk_alloc ?_ _)); exact BK30012.out⟩, ⟨by (with_reducible repeat (first | refine blk_drewN ?_ _ | refine blk_drew ?_ | refine blk_alloc ?_ _)); exact BK30017.out⟩, ⟨by (with_reducible repeat (first | refine blk_drewN ?_ _ | refine blk_drew ?_ | refine blk_alloc ?_ _)); exact BK30023.out⟩, ⟨by repeat (first | (with_reducible first | exact HB.out | apply below_alloc | apply pw_below_drewN | apply below_drew1 | refine below_set ?_ GE30001.out | refine below_set ?_ GE30012.out | refine below_set ?_ GE30017.out | refine below_set ?_ GE30023.out) | exact HB.out)⟩⟩
      case rest =>
        clear HC14
        try clear c1
        try clear c2
        try clear p2
        try clear c3
        try clear c3b0
        try clear c3b1
        try clear c4
        try clear c5
        try clear c6
        try clear c6b0
        try clear c9
        try clear c10
        try clear c11
        try clear c12
        try clear c13
        try clear c23
        try clear c28
        try clear c29
        try clear c34
        try clear c35
        try clear c36
        try clear c39
        try clear c40
        try clear c41
        try clear c42
        try clear c44
        try clear c45
        try clear c48
        try clear c49
        try clear c50
        try clear c52
        try clear c53
        try clear hcz16_0
        try clear hcz16_1
        try clear hcz18_0
        try clear hcz18_1
        try clear hcz24_0
        try clear hcz24_1
        try clear hcz24_2
        try clear hcz24_3
        try clear hcz25_0
        try clear hcz25_1
        try clear hcz30_0
        try clear hcz30_1
        try clear hcz37_0
        try clear hcz37_1
        try clear hcz37_2
        try clear hcz37_3
        try clear hcz43_0
        try clear hcz43_1
        try clear hcz43_2
        try clear hcz43_3
        try clear hcz46_0
        try clear hcz46_1
        try clear hcz46_2
        try clear hcz46_3
        try clear hcz51_0
        try clear hcz51_1
        try clear hcz51_2
        try clear hcz51_3
        try clear hcz54_0
        try clear hcz54_1
        try clear hcz54_2
        try clear hcz54_3
        try clear hcz8_0
        try clear hcz8_1
        try clear hfz16_0
        try clear hfz16_1
        try clear hfz18_0
        try clear hfz18_1
        try clear hfz24_0
        try clear hfz24_1
        try clear hfz24_2
        try clear hfz24_3
        try clear hfz25_0
        try clear hfz25_1
        try clear hfz30_0
        try clear hfz30_1
        try clear hfz37_0
        try clear hfz37_1
        try clear hfz37_2
        try clear hfz37_3
        try clear hfz43_0
        try clear hfz43_1
        try clear hfz43_2
        try clear hfz43_3
        try clear hfz46_0
        try clear hfz46_1
        try clear hfz46_2
        try clear hfz46_3
        try clear hfz51_0
        try clear hfz51_1
        try clear hfz51_2
        try clear hfz51_3
        try clear hfz54_0
        try clear hfz54_1
        try clear hfz54_2
        try clear hfz54_3
        try clear hfz8_0
        try clear hfz8_1
        obtain ⟨kq, x42_13, rfl, HA, HJ13, HO_30018001, BK30001, BK30012, BK30017, BK30023, HB⟩ := hcut
        cases kq with
        | zero => exact absurd HA.out (by simp [laws_FnExactPoolFind.j0])
        | succ kj13 =>
          have H := HA.out
          clear HA
          simp only [laws_FnExactPoolFind.j0] at H
          by_cases c56 : x42_13 = true
          · subst c56
            have H1 : (some false) = some r := by rw [if_pos rfl] at H; exact H
            clear H
            have H := H1
            clear H1
            obtain rfl := Option.some.inj H
            go_wp2
            go_ret
            exact ⟨by first | rfl | (simp [errW_none, errW_some] <;> rfl) | (simp [*, errW_none, errW_some] <;> rfl), by repeat (first | (with_reducible first | exact HB.out | apply below_alloc | apply pw_below_drewN | apply below_drew1 | refine below_set ?_ GE30001.out | refine below_set ?_ GE30012.out | refine below_set ?_ GE30017.out | refine below_set ?_ GE30023.out) | exact HB.out)⟩
          · replace c56 := Bool.eq_false_iff.mpr c56
            subst c56
            have H1 : ((laws_toPool.f kj13 a0_0 l0_1).bind fun bt30025 => ((laws_eqPool.f kj13 t30013 t30014 bt30025.1 bt30025.2).bind fun t30029 => (if t30029 = true then (some true) else (some false)))) = some r := by rw [if_neg (show ¬ (false = true) by decide)] at H; exact H
            clear H
            have H := H1
            clear H1
            replace H := Option.bind_eq_some_iff.mp H
            obtain ⟨⟨t30025, t30026⟩, A570, H⟩ := H
            replace H : ((laws_eqPool.f kj13 t30013 t30014 t30025 t30026).bind fun t30029 => (if t30029 = true then (some true) else (some false))) = some r := H
            have A57 := Aside0.mk A570
            clear A570
            replace H := Option.bind_eq_some_iff.mp H
            obtain ⟨t30029, A580, H⟩ := H
            replace H : (if t30029 = true then (some true) else (some false)) = some r := H
            have A58 := Aside0.mk A580
            clear A580
            by_cases c59 : t30029 = true
            · subst c59
              have H1 : (some true) = some r := by rw [if_pos rfl] at H; exact H
              clear H
              have H := H1
              clear H1
              obtain rfl := Option.some.inj H
              try go_wp2
              have n0_ := Aside0.mk (Kd.R_drew HO_30018001.out)
              have n1_ := Aside0.mk (blk_drew BK30001.out)
              have n2_ := Aside0.mk (blk_drew BK30012.out)
              have n3_ := Aside0.mk (blk_drew BK30017.out)
              have n4_ := Aside0.mk (blk_drew BK30023.out)
              have n5_ := Aside0.mk (below_drew1 HB.out)
              clear HO_30018001
              clear BK30001
              clear BK30012
              clear BK30017
              clear BK30023
              clear HB
              have HO_30018001 := n0_
              have BK30001 := n1_
              have BK30012 := n2_
              have BK30017 := n3_
              have BK30023 := n4_
              have HB := n5_
              clear n0_ n1_ n2_ n3_ n4_ n5_
              refine start_ (n := 5) (S := fun w' => w'.cell? ⟨gb30017, 0, none⟩ = some (.int .i64 t30013) ∧ w'.cell? ⟨gb30017, 1, none⟩ = some (.slice Ao31 t30014.length co31) ∧ w'.cell? ⟨gb30001, 0, none⟩ = some (.int .i64 a0_0) ∧ w'.cell? ⟨gb30001, 1, none⟩ = some (.slice A0_1 l0_1.length c0_1)) (ds := []) #[false, false, false, false, false] (by kernel_rfl) rfl rfl ⟨(blk_cell BK30017.out 0).trans rfl, (blk_cell BK30017.out 1).trans rfl, (blk_cell BK30001.out 0).trans rfl, (blk_cell BK30001.out 1).trans rfl⟩ (fun hHeld => ?_)
              generalize wc.drew = w60 at HO_30018001 BK30001 BK30012 BK30017 BK30023 HB hHeld ⊢
              refine take_ (i := 0) (N := some 43) (v := ?_) (a' := ?_) #[true, false, false, false, false] rfl rfl (by kernel_rfl) (fun _ _ _ h => h) (Or.inl ⟨by rfl, ?_⟩) hHeld ?_ ?_
              rotate_left
              · rintro w' ⟨s0, s1, s2, s3⟩
                go_simp
                with_reducible rfl
              rotate_left
              · simp only [Act.put, List.setIfInBounds_toArray, List.set_cons_zero, List.set_cons_succ, i64_w, i32_w]
                rfl
              refine take_ (i := 1) (N := some 44) (v := ?_) (a' := ?_) #[true, true, false, false, false] rfl rfl (by kernel_rfl) (fun _ _ _ h => h) (Or.inl ⟨by rfl, ?_⟩) hHeld ?_ ?_
              rotate_left
              · rintro w' ⟨s0, s1, s2, s3⟩
                go_simp
                with_reducible rfl
              rotate_left
              · simp only [Act.put, List.setIfInBounds_toArray, List.set_cons_zero, List.set_cons_succ, i64_w, i32_w]
                rfl
              refine one_ (i := 2) (N := some 45) #[true, true, true, false, false] rfl rfl (by kernel_rfl) (by decide) (fun K hK => ?_)
              refine goes_ Tryd.func11 (by kernel_rfl) rfl #[.agg #[.int .i64 a0_0, .slice A0_1 l0_1.length c0_1]] (by rfl) rfl rfl (by (try simp only [List.map_toArray, List.map_cons, List.map_nil]); first | done | rfl | (simp only [List.length_drop, List.length_take]; rfl)) ?_
              with_reducible refine (laws_toPool.calls kj13 a0_0 _ _ l0_1 t30025 t30026 _ ?side1 ?side2 A57.out).mono ?_
              (case side1 => repeat (first | exact (Kd.C_below HR0_1.out HB.out) | (with_reducible refine Kd.C_alloc ?_ _) | (with_reducible refine Kd.C_drewN ?_ _) | (with_reducible refine Kd.C_drew ?_)))
              (case side2 => exact HC0_1.out)
              rintro e w61 ⟨v30027, rfl, ho0, hb⟩
              refine ⟨_, rfl, ?_⟩
              have n0_ := Aside0.mk (Kd.R_elder' (by (with_reducible repeat (first | apply Kd.R_alloc | apply Kd.R_drewN | apply Kd.R_drew)); exact HO_30018001.out) (Kd.R_base ho0) hb)
              have n1_ := Aside0.mk (Kd.R_lower (Kd.R_new' ho0 (Kd.R_lt (by (with_reducible repeat (first | apply Kd.R_alloc | apply Kd.R_drewN | apply Kd.R_drew)); exact HO_30018001.out))) (below_size (by repeat (first | (with_reducible first | exact HB.out | apply below_alloc | apply pw_below_drewN | apply below_drew1 | refine below_set ?_ GE30001.out | refine below_set ?_ GE30012.out | refine below_set ?_ GE30017.out | refine below_set ?_ GE30023.out) | exact HB.out))))
              have n2_ := Aside0.mk (blk_below (g := gb30001) (o := .cells #[.int .i64 a0_0, .slice A0_1 l0_1.length c0_1] 24 (0, 0)) (by (with_reducible repeat (first | refine blk_drewN ?_ _ | refine blk_drew ?_ | refine blk_alloc ?_ _)); exact BK30001.out) hb)
              have n3_ := Aside0.mk (blk_below (g := gb30012) (o := .cells #[.string t30007, .string t30008, .string t30009, .string t30010] 27 (0, 0)) (by (with_reducible repeat (first | refine blk_drewN ?_ _ | refine blk_drew ?_ | refine blk_alloc ?_ _)); exact BK30012.out) hb)
              have n4_ := Aside0.mk (blk_below (g := gb30017) (o := .cells #[.int .i64 t30013, .slice Ao31 t30014.length co31] 30 (0, 0)) (by (with_reducible repeat (first | refine blk_drewN ?_ _ | refine blk_drew ?_ | refine blk_alloc ?_ _)); exact BK30017.out) hb)
              have n5_ := Aside0.mk (blk_below (g := gb30023) (o := .cells #[.string t30018, .string t30019, .string t30020, .string t30021] 27 (0, 0)) (by (with_reducible repeat (first | refine blk_drewN ?_ _ | refine blk_drew ?_ | refine blk_alloc ?_ _)); exact BK30023.out) hb)
              have n6_ := Aside0.mk (below_step (by repeat (first | (with_reducible first | exact HB.out | apply below_alloc | apply pw_below_drewN | apply below_drew1 | refine below_set ?_ GE30001.out | refine below_set ?_ GE30012.out | refine below_set ?_ GE30017.out | refine below_set ?_ GE30023.out) | exact HB.out)) hb)
              clear HO_30018001
              clear BK30001
              clear BK30012
              clear BK30017
              clear BK30023
              clear HB
              have HO_30018001 := n0_
              have HO30028 := n1_
              have BK30001 := n2_
              have BK30012 := n3_
              have BK30017 := n4_
              have BK30023 := n5_
              have HB := n6_
              clear n0_ n1_ n2_ n3_ n4_ n5_ n6_
              (try clear hb)
              (try clear hb2)
              (try clear hk)
              (try clear hi)
              (try clear ho0)
              obtain ⟨Ao62, co62, eo62⟩ := Kd.R_slice HO30028.out
              (first | subst eo62 | (injection eo62 with f1_ f2_ f3_; have f4_ := f1_.symm; have f5_ := f3_.symm; clear f1_ f2_ f3_; subst f4_; subst f5_))
              refine hK.out _ _ ⟨(blk_cell BK30017.out 0).trans rfl, (blk_cell BK30017.out 1).trans rfl, (blk_cell BK30001.out 0).trans rfl, (blk_cell BK30001.out 1).trans rfl⟩ (fun hHeld => ?_)
              clear hK K
              refine norm_ (a' := ?_) ?_ ?_
              rotate_left
              · show Act.put _ (some 45) _ = _
                simp only [Act.put, List.setIfInBounds_toArray, List.set_cons_zero, List.set_cons_succ, i64_w, i32_w]
                rfl
              refine one_ (i := 3) (N := some 46) #[true, true, true, true, false] rfl rfl (by kernel_rfl) (by decide) (fun K hK => ?_)
              refine goes_ Tryd.func14 (by kernel_rfl) rfl #[.agg #[.int .i64 t30013, .slice Ao31 t30014.length co31], .agg #[.int .i64 t30025, .slice Ao62 t30026.length co62]] (by rfl) rfl rfl (by (try simp only [List.map_toArray, List.map_cons, List.map_nil]); first | done | rfl | (simp only [List.length_drop, List.length_take]; rfl)) ?_
              with_reducible refine (laws_eqPool.calls kj13 t30013 _ _ t30014 t30025 _ _ t30026 true _ ?side1 ?side2 ?side3 ?side4 A58.out).mono ?_
              (case side1 => repeat (first | exact (Kd.R_reads' HO_30018001.out).2.2 | (with_reducible refine Kd.C_alloc ?_ _) | (with_reducible refine Kd.C_drewN ?_ _) | (with_reducible refine Kd.C_drew ?_)))
              (case side2 => exact (Kd.R_reads' HO_30018001.out).2.1)
              (case side3 => repeat (first | exact (Kd.R_reads' HO30028.out).2.2 | (with_reducible refine Kd.C_alloc ?_ _) | (with_reducible refine Kd.C_drewN ?_ _) | (with_reducible refine Kd.C_drew ?_)))
              (case side4 => exact (Kd.R_reads' HO30028.out).2.1)
              rintro e w63 ⟨rfl, hb⟩
              refine ⟨_, rfl, ?_⟩
              have n0_ := Aside0.mk (Kd.R_below (by (with_reducible repeat (first | apply Kd.R_alloc | apply Kd.R_drewN | apply Kd.R_drew)); exact HO_30018001.out) hb)
              have n1_ := Aside0.mk (Kd.R_below (by (with_reducible repeat (first | apply Kd.R_alloc | apply Kd.R_drewN | apply Kd.R_drew)); exact HO30028.out) hb)
              have n2_ := Aside0.mk (blk_below (g := gb30001) (o := .cells #[.int .i64 a0_0, .slice A0_1 l0_1.length c0_1] 24 (0, 0)) (by (with_reducible repeat (first | refine blk_drewN ?_ _ | refine blk_drew ?_ | refine blk_alloc ?_ _)); exact BK30001.out) hb)
              have n3_ := Aside0.mk (blk_below (g := gb30012) (o := .cells #[.string t30007, .string t30008, .string t30009, .string t30010] 27 (0, 0)) (by (with_reducible repeat (first | refine blk_drewN ?_ _ | refine blk_drew ?_ | refine blk_alloc ?_ _)); exact BK30012.out) hb)
              have n4_ := Aside0.mk (blk_below (g := gb30017) (o := .cells #[.int .i64 t30013, .slice Ao31 t30014.length co31] 30 (0, 0)) (by (with_reducible repeat (first | refine blk_drewN ?_ _ | refine blk_drew ?_ | refine blk_alloc ?_ _)); exact BK30017.out) hb)
              have n5_ := Aside0.mk (blk_below (g := gb30023) (o := .cells #[.string t30018, .string t30019, .string t30020, .string t30021] 27 (0, 0)) (by (with_reducible repeat (first | refine blk_drewN ?_ _ | refine blk_drew ?_ | refine blk_alloc ?_ _)); exact BK30023.out) hb)
              have n6_ := Aside0.mk (below_step (by repeat (first | (with_reducible first | exact HB.out | apply below_alloc | apply pw_below_drewN | apply below_drew1 | refine below_set ?_ GE30001.out | refine below_set ?_ GE30012.out | refine below_set ?_ GE30017.out | refine below_set ?_ GE30023.out) | exact HB.out)) hb)
              clear HO_30018001
              clear HO30028
              clear BK30001
              clear BK30012
              clear BK30017
              clear BK30023
              clear HB
              have HO_30018001 := n0_
              have HO30028 := n1_
              have BK30001 := n2_
              have BK30012 := n3_
              have BK30017 := n4_
              have BK30023 := n5_
              have HB := n6_
              clear n0_ n1_ n2_ n3_ n4_ n5_ n6_
              (try clear hb)
              (try clear hb2)
              (try clear hk)
              (try clear hi)
              refine hK.out _ _ ⟨(blk_cell BK30017.out 0).trans rfl, (blk_cell BK30017.out 1).trans rfl, (blk_cell BK30001.out 0).trans rfl, (blk_cell BK30001.out 1).trans rfl⟩ (fun hHeld => ?_)
              clear hK K
              refine norm_ (a' := ?_) ?_ ?_
              rotate_left
              · show Act.put _ (some 46) _ = _
                simp only [Act.put, List.setIfInBounds_toArray, List.set_cons_zero, List.set_cons_succ, i64_w, i32_w]
                rfl
              refine pure_ (i := 4) (N := some 47) (v := ?_) (a' := ?_) #[true, true, true, true, true] rfl rfl (by kernel_rfl) (fun _ _ _ h => h) (Or.inl ⟨by rfl, ?_⟩) ?_ ?_
              rotate_left
              · intro w'
                go_simp
                with_reducible rfl
              rotate_left
              · simp only [Act.put, List.setIfInBounds_toArray, List.set_cons_zero, List.set_cons_succ, i64_w, i32_w]
                rfl
              refine done_ (by kernel_rfl) ?_
              try go_wp2
              go_ret
              exact ⟨by first | rfl | (simp [errW_none, errW_some] <;> rfl) | (simp [*, errW_none, errW_some] <;> rfl), by repeat (first | (with_reducible first | exact HB.out | apply below_alloc | apply pw_below_drewN | apply below_drew1 | refine below_set ?_ GE30001.out | refine below_set ?_ GE30012.out | refine below_set ?_ GE30017.out | refine below_set ?_ GE30023.out) | exact HB.out)⟩
            · replace c59 := Bool.eq_false_iff.mpr c59
              subst c59
              have H1 : (some false) = some r := by rw [if_neg (show ¬ (false = true) by decide)] at H; exact H
              clear H
              have H := H1
              clear H1
              obtain rfl := Option.some.inj H
              try go_wp2
              have n0_ := Aside0.mk (Kd.R_drew HO_30018001.out)
              have n1_ := Aside0.mk (blk_drew BK30001.out)
              have n2_ := Aside0.mk (blk_drew BK30012.out)
              have n3_ := Aside0.mk (blk_drew BK30017.out)
              have n4_ := Aside0.mk (blk_drew BK30023.out)
              have n5_ := Aside0.mk (below_drew1 HB.out)
              clear HO_30018001
              clear BK30001
              clear BK30012
              clear BK30017
              clear BK30023
              clear HB
              have HO_30018001 := n0_
              have BK30001 := n1_
              have BK30012 := n2_
              have BK30017 := n3_
              have BK30023 := n4_
              have HB := n5_
              clear n0_ n1_ n2_ n3_ n4_ n5_
              refine start_ (n := 5) (S := fun w' => w'.cell? ⟨gb30017, 0, none⟩ = some (.int .i64 t30013) ∧ w'.cell? ⟨gb30017, 1, none⟩ = some (.slice Ao31 t30014.length co31) ∧ w'.cell? ⟨gb30001, 0, none⟩ = some (.int .i64 a0_0) ∧ w'.cell? ⟨gb30001, 1, none⟩ = some (.slice A0_1 l0_1.length c0_1)) (ds := []) #[false, false, false, false, false] (by kernel_rfl) rfl rfl ⟨(blk_cell BK30017.out 0).trans rfl, (blk_cell BK30017.out 1).trans rfl, (blk_cell BK30001.out 0).trans rfl, (blk_cell BK30001.out 1).trans rfl⟩ (fun hHeld => ?_)
              generalize wc.drew = w64 at HO_30018001 BK30001 BK30012 BK30017 BK30023 HB hHeld ⊢
              refine take_ (i := 0) (N := some 43) (v := ?_) (a' := ?_) #[true, false, false, false, false] rfl rfl (by kernel_rfl) (fun _ _ _ h => h) (Or.inl ⟨by rfl, ?_⟩) hHeld ?_ ?_
              rotate_left
              · rintro w' ⟨s0, s1, s2, s3⟩
                go_simp
                with_reducible rfl
              rotate_left
              · simp only [Act.put, List.setIfInBounds_toArray, List.set_cons_zero, List.set_cons_succ, i64_w, i32_w]
                rfl
              refine take_ (i := 1) (N := some 44) (v := ?_) (a' := ?_) #[true, true, false, false, false] rfl rfl (by kernel_rfl) (fun _ _ _ h => h) (Or.inl ⟨by rfl, ?_⟩) hHeld ?_ ?_
              rotate_left
              · rintro w' ⟨s0, s1, s2, s3⟩
                go_simp
                with_reducible rfl
              rotate_left
              · simp only [Act.put, List.setIfInBounds_toArray, List.set_cons_zero, List.set_cons_succ, i64_w, i32_w]
                rfl
              refine one_ (i := 2) (N := some 45) #[true, true, true, false, false] rfl rfl (by kernel_rfl) (by decide) (fun K hK => ?_)
              refine goes_ Tryd.func11 (by kernel_rfl) rfl #[.agg #[.int .i64 a0_0, .slice A0_1 l0_1.length c0_1]] (by rfl) rfl rfl (by (try simp only [List.map_toArray, List.map_cons, List.map_nil]); first | done | rfl | (simp only [List.length_drop, List.length_take]; rfl)) ?_
              with_reducible refine (laws_toPool.calls kj13 a0_0 _ _ l0_1 t30025 t30026 _ ?side1 ?side2 A57.out).mono ?_
              (case side1 => repeat (first | exact (Kd.C_below HR0_1.out HB.out) | (with_reducible refine Kd.C_alloc ?_ _) | (with_reducible refine Kd.C_drewN ?_ _) | (with_reducible refine Kd.C_drew ?_)))
              (case side2 => exact HC0_1.out)
              rintro e w65 ⟨v30027, rfl, ho0, hb⟩
              refine ⟨_, rfl, ?_⟩
              have n0_ := Aside0.mk (Kd.R_elder' (by (with_reducible repeat (first | apply Kd.R_alloc | apply Kd.R_drewN | apply Kd.R_drew)); exact HO_30018001.out) (Kd.R_base ho0) hb)
              have n1_ := Aside0.mk (Kd.R_lower (Kd.R_new' ho0 (Kd.R_lt (by (with_reducible repeat (first | apply Kd.R_alloc | apply Kd.R_drewN | apply Kd.R_drew)); exact HO_30018001.out))) (below_size (by repeat (first | (with_reducible first | exact HB.out | apply below_alloc | apply pw_below_drewN | apply below_drew1 | refine below_set ?_ GE30001.out | refine below_set ?_ GE30012.out | refine below_set ?_ GE30017.out | refine below_set ?_ GE30023.out) | exact HB.out))))
              have n2_ := Aside0.mk (blk_below (g := gb30001) (o := .cells #[.int .i64 a0_0, .slice A0_1 l0_1.length c0_1] 24 (0, 0)) (by (with_reducible repeat (first | refine blk_drewN ?_ _ | refine blk_drew ?_ | refine blk_alloc ?_ _)); exact BK30001.out) hb)
              have n3_ := Aside0.mk (blk_below (g := gb30012) (o := .cells #[.string t30007, .string t30008, .string t30009, .string t30010] 27 (0, 0)) (by (with_reducible repeat (first | refine blk_drewN ?_ _ | refine blk_drew ?_ | refine blk_alloc ?_ _)); exact BK30012.out) hb)
              have n4_ := Aside0.mk (blk_below (g := gb30017) (o := .cells #[.int .i64 t30013, .slice Ao31 t30014.length co31] 30 (0, 0)) (by (with_reducible repeat (first | refine blk_drewN ?_ _ | refine blk_drew ?_ | refine blk_alloc ?_ _)); exact BK30017.out) hb)
              have n5_ := Aside0.mk (blk_below (g := gb30023) (o := .cells #[.string t30018, .string t30019, .string t30020, .string t30021] 27 (0, 0)) (by (with_reducible repeat (first | refine blk_drewN ?_ _ | refine blk_drew ?_ | refine blk_alloc ?_ _)); exact BK30023.out) hb)
              have n6_ := Aside0.mk (below_step (by repeat (first | (with_reducible first | exact HB.out | apply below_alloc | apply pw_below_drewN | apply below_drew1 | refine below_set ?_ GE30001.out | refine below_set ?_ GE30012.out | refine below_set ?_ GE30017.out | refine below_set ?_ GE30023.out) | exact HB.out)) hb)
              clear HO_30018001
              clear BK30001
              clear BK30012
              clear BK30017
              clear BK30023
              clear HB
              have HO_30018001 := n0_
              have HO30028 := n1_
              have BK30001 := n2_
              have BK30012 := n3_
              have BK30017 := n4_
              have BK30023 := n5_
              have HB := n6_
              clear n0_ n1_ n2_ n3_ n4_ n5_ n6_
              (try clear hb)
              (try clear hb2)
              (try clear hk)
              (try clear hi)
              (try clear ho0)
              obtain ⟨Ao66, co66, eo66⟩ := Kd.R_slice HO30028.out
              (first | subst eo66 | (injection eo66 with f1_ f2_ f3_; have f4_ := f1_.symm; have f5_ := f3_.symm; clear f1_ f2_ f3_; subst f4_; subst f5_))
              refine hK.out _ _ ⟨(blk_cell BK30017.out 0).trans rfl, (blk_cell BK30017.out 1).trans rfl, (blk_cell BK30001.out 0).trans rfl, (blk_cell BK30001.out 1).trans rfl⟩ (fun hHeld => ?_)
              clear hK K
              refine norm_ (a' := ?_) ?_ ?_
              rotate_left
              · show Act.put _ (some 45) _ = _
                simp only [Act.put, List.setIfInBounds_toArray, List.set_cons_zero, List.set_cons_succ, i64_w, i32_w]
                rfl
              refine one_ (i := 3) (N := some 46) #[true, true, true, true, false] rfl rfl (by kernel_rfl) (by decide) (fun K hK => ?_)
              refine goes_ Tryd.func14 (by kernel_rfl) rfl #[.agg #[.int .i64 t30013, .slice Ao31 t30014.length co31], .agg #[.int .i64 t30025, .slice Ao66 t30026.length co66]] (by rfl) rfl rfl (by (try simp only [List.map_toArray, List.map_cons, List.map_nil]); first | done | rfl | (simp only [List.length_drop, List.length_take]; rfl)) ?_
              with_reducible refine (laws_eqPool.calls kj13 t30013 _ _ t30014 t30025 _ _ t30026 false _ ?side1 ?side2 ?side3 ?side4 A58.out).mono ?_
              (case side1 => repeat (first | exact (Kd.R_reads' HO_30018001.out).2.2 | (with_reducible refine Kd.C_alloc ?_ _) | (with_reducible refine Kd.C_drewN ?_ _) | (with_reducible refine Kd.C_drew ?_)))
              (case side2 => exact (Kd.R_reads' HO_30018001.out).2.1)
              (case side3 => repeat (first | exact (Kd.R_reads' HO30028.out).2.2 | (with_reducible refine Kd.C_alloc ?_ _) | (with_reducible refine Kd.C_drewN ?_ _) | (with_reducible refine Kd.C_drew ?_)))
              (case side4 => exact (Kd.R_reads' HO30028.out).2.1)
              rintro e w67 ⟨rfl, hb⟩
              refine ⟨_, rfl, ?_⟩
              have n0_ := Aside0.mk (Kd.R_below (by (with_reducible repeat (first | apply Kd.R_alloc | apply Kd.R_drewN | apply Kd.R_drew)); exact HO_30018001.out) hb)
              have n1_ := Aside0.mk (Kd.R_below (by (with_reducible repeat (first | apply Kd.R_alloc | apply Kd.R_drewN | apply Kd.R_drew)); exact HO30028.out) hb)
              have n2_ := Aside0.mk (blk_below (g := gb30001) (o := .cells #[.int .i64 a0_0, .slice A0_1 l0_1.length c0_1] 24 (0, 0)) (by (with_reducible repeat (first | refine blk_drewN ?_ _ | refine blk_drew ?_ | refine blk_alloc ?_ _)); exact BK30001.out) hb)
              have n3_ := Aside0.mk (blk_below (g := gb30012) (o := .cells #[.string t30007, .string t30008, .string t30009, .string t30010] 27 (0, 0)) (by (with_reducible repeat (first | refine blk_drewN ?_ _ | refine blk_drew ?_ | refine blk_alloc ?_ _)); exact BK30012.out) hb)
              have n4_ := Aside0.mk (blk_below (g := gb30017) (o := .cells #[.int .i64 t30013, .slice Ao31 t30014.length co31] 30 (0, 0)) (by (with_reducible repeat (first | refine blk_drewN ?_ _ | refine blk_drew ?_ | refine blk_alloc ?_ _)); exact BK30017.out) hb)
              have n5_ := Aside0.mk (blk_below (g := gb30023) (o := .cells #[.string t30018, .string t30019, .string t30020, .string t30021] 27 (0, 0)) (by (with_reducible repeat (first | refine blk_drewN ?_ _ | refine blk_drew ?_ | refine blk_alloc ?_ _)); exact BK30023.out) hb)
              have n6_ := Aside0.mk (below_step (by repeat (first | (with_reducible first | exact HB.out | apply below_alloc | apply pw_below_drewN | apply below_drew1 | refine below_set ?_ GE30001.out | refine below_set ?_ GE30012.out | refine below_set ?_ GE30017.out | refine below_set ?_ GE30023.out) | exact HB.out)) hb)
              clear HO_30018001
              clear HO30028
              clear BK30001
              clear BK30012
              clear BK30017
              clear BK30023
              clear HB
              have HO_30018001 := n0_
              have HO30028 := n1_
              have BK30001 := n2_
              have BK30012 := n3_
              have BK30017 := n4_
              have BK30023 := n5_
              have HB := n6_
              clear n0_ n1_ n2_ n3_ n4_ n5_ n6_
              (try clear hb)
              (try clear hb2)
              (try clear hk)
              (try clear hi)
              refine hK.out _ _ ⟨(blk_cell BK30017.out 0).trans rfl, (blk_cell BK30017.out 1).trans rfl, (blk_cell BK30001.out 0).trans rfl, (blk_cell BK30001.out 1).trans rfl⟩ (fun hHeld => ?_)
              clear hK K
              refine norm_ (a' := ?_) ?_ ?_
              rotate_left
              · show Act.put _ (some 46) _ = _
                simp only [Act.put, List.setIfInBounds_toArray, List.set_cons_zero, List.set_cons_succ, i64_w, i32_w]
                rfl
              refine pure_ (i := 4) (N := some 47) (v := ?_) (a' := ?_) #[true, true, true, true, true] rfl rfl (by kernel_rfl) (fun _ _ _ h => h) (Or.inl ⟨by rfl, ?_⟩) ?_ ?_
              rotate_left
              · intro w'
                go_simp
                with_reducible rfl
              rotate_left
              · simp only [Act.put, List.setIfInBounds_toArray, List.set_cons_zero, List.set_cons_succ, i64_w, i32_w]
                rfl
              refine done_ (by kernel_rfl) ?_
              try go_wp2
              go_ret
              exact ⟨by first | rfl | (simp [errW_none, errW_some] <;> rfl) | (simp [*, errW_none, errW_some] <;> rfl), by repeat (first | (with_reducible first | exact HB.out | apply below_alloc | apply pw_below_drewN | apply below_drew1 | refine below_set ?_ GE30001.out | refine below_set ?_ GE30012.out | refine below_set ?_ GE30017.out | refine below_set ?_ GE30023.out) | exact HB.out)⟩
end Go.Proofs.YtmfejehhfmaodabDoor.Z
end
section
namespace Go.Proofs.YtmfejehhfmaodabDoor.Z
open Go.RowKit Go.Proofs.YtmfejehhfmaodabDoorW.PrintWords Go.Proofs.YtmfejehhfmaodabDoorW.PrintLast Go.Proofs.YtmfejehhfmaodabDoorW.PrintMore
attribute [local go_sem] max2_int min2_int max_two min_two max_three min_three max_four min_four   -- for this text's walks alone
set_option linter.unusedVariables false
set_option linter.unusedSimpArgs false
mutual
def spec_l1Less.l0 : Nat → ByteArray → ByteArray → Int → Option (Bool)
  | 0, _, _, _ => none
  | k + 1, x0, x1, x5 => if x5 < (x0.size : Int) then (spec_l1Less.j1 k x0 x1 x5 (decide (x5 < (x1.size : Int)))) else (spec_l1Less.j1 k x0 x1 x5 false)
def spec_l1Less.j1 : Nat → ByteArray → ByteArray → Int → Bool → Option (Bool)
  | 0, _, _, _, _ => none
  | k + 1, x0, x1, x5, x15 => if x15 = true then (if 0 ≤ x5 then (if x5 < (x0.size : Int) then (if x5 < (x1.size : Int) then (if (bt x0 x5) = (bt x1 x5) then (spec_l1Less.l0 k x0 x1 (wrap64 (x5 + 1))) else (some (decide ((bt x0 x5) < (bt x1 x5))))) else (none)) else (none)) else (none)) else (some (decide ((x0.size : Int) < (x1.size : Int))))
end
def spec_l1Less.f (k : Nat) (a0 : ByteArray) (a1 : ByteArray) : Option (Bool) := spec_l1Less.l0 k a0 a1 0
theorem spec_l1Less.mono_l : ∀ k, (∀ y0 y1 y2, LeO (spec_l1Less.l0 k y0 y1 y2) (spec_l1Less.l0 (k + 1) y0 y1 y2)) ∧ (∀ y0 y1 y2 y3, LeO (spec_l1Less.j1 k y0 y1 y2 y3) (spec_l1Less.j1 (k + 1) y0 y1 y2 y3))
  | 0 => ⟨fun _ _ _ r h => by simp [spec_l1Less.l0] at h, fun _ _ _ _ r h => by simp [spec_l1Less.j1] at h⟩
  | k + 1 => by
    obtain ⟨ih0, ih1⟩ := spec_l1Less.mono_l k
    refine ⟨?_, ?_⟩
    · intro y0 y1 y2
      unfold spec_l1Less.l0
      repeat' first
      | (with_reducible exact ih0 _ _ _)
      | (with_reducible exact ih1 _ _ _ _)
      | (with_reducible exact LeO.refl _)
      | (with_reducible exact LeO.none _)
      | (with_reducible refine LeO.ite ?_ ?_)
      | (with_reducible refine LeO.bind ?_ (fun _ => ?_))
      | exact ih0 _ _ _
      | exact ih1 _ _ _ _
      | exact LeO.none _
      | refine LeO.ite ?_ ?_
      | refine LeO.bind ?_ (fun _ => ?_)
    · intro y0 y1 y2 y3
      unfold spec_l1Less.j1
      repeat' first
      | (with_reducible exact ih0 _ _ _)
      | (with_reducible exact ih1 _ _ _ _)
      | (with_reducible exact LeO.refl _)
      | (with_reducible exact LeO.none _)
      | (with_reducible refine LeO.ite ?_ ?_)
      | (with_reducible refine LeO.bind ?_ (fun _ => ?_))
      | exact ih0 _ _ _
      | exact ih1 _ _ _ _
      | exact LeO.none _
      | refine LeO.ite ?_ ?_
      | refine LeO.bind ?_ (fun _ => ?_)
theorem spec_l1Less.mono : ∀ a0 a1 k, LeO (spec_l1Less.f k a0 a1) (spec_l1Less.f (k + 1) a0 a1) := by
  intro a0 a1 k
  obtain ⟨ih0, ih1⟩ := spec_l1Less.mono_l k
  unfold spec_l1Less.f
  repeat' first
      | (with_reducible exact ih0 _ _ _)
      | (with_reducible exact ih1 _ _ _ _)
      | (with_reducible exact LeO.refl _)
      | (with_reducible exact LeO.none _)
      | (with_reducible refine LeO.ite ?_ ?_)
      | (with_reducible refine LeO.bind ?_ (fun _ => ?_))
      | exact ih0 _ _ _
      | exact ih1 _ _ _ _
      | exact LeO.none _
      | refine LeO.ite ?_ ?_
      | refine LeO.bind ?_ (fun _ => ?_)
set_option maxHeartbeats 8000000 in
set_option maxRecDepth 100000 in
theorem spec_l1Less.calls (k : Nat) (a0 : ByteArray) (a1 : ByteArray) (r : Bool) (w : World) (h : spec_l1Less.f k a0 a1 = some r) :
    Calls Tryd.prog 79 #[.string a0, .string a1] w fun e w' => e = .returned (.bool r) ∧ Drawn0 w w' := by
  have H : (spec_l1Less.l0 k a0 a1 0) = some r := h
  clear h
  have H' := Aside0.mk H
  clear H
  go_enter Tryd.func79, Tryd.ntmps79
  go_wp2
  repeat (go_quiet (fail); try go_wp2)
  go_loopg [5] k (fun kq v5 w' => ∃ (x5_1 : Int), v5 = .int .i64 x5_1 ∧ Aside0 (spec_l1Less.l0 kq a0 a1 x5_1 = some r) ∧ Aside0 (kq ≤ k) ∧ Drawn0 w w')
  case atStart => exact ⟨(0), (by first | rfl | (simp; done) | (simp [*]; done)), H', ⟨Nat.le_refl _⟩, by repeat (first | exact Drawn0.refl _ | apply Drawn0.step)⟩
  case round =>
    clear H'
    try clear p2
    obtain ⟨x5_1, rfl, HA, HK1, ⟨m1, rfl⟩⟩ := hrel
    cases gk with
    | zero => exact absurd HA.out (by simp [spec_l1Less.l0])
    | succ k1 =>
      have H := HA.out
      clear HA
      simp only [spec_l1Less.l0] at H
      have HC3 := Aside0.mk H
      clear H
      go_upto_region 2 with (fail)
      repeat (go_quiet (fail); go_upto_region 2 with (fail))
      go_cut [15] (fun v15 wc => ∃ (kq : Nat) (x15_2 : Bool), v15 = .bool x15_2 ∧ Aside0 (spec_l1Less.j1 kq a0 a1 x5_1 x15_2 = some r) ∧ Aside0 (kq ≤ k1) ∧ Drawn0 w wc)
      case first =>
        have H := HC3.out
        clear HC3
        by_cases c4 : x5_1 < (a0.size : Int)
        · rw [if_pos c4] at H
          have c4b0 : decide (x5_1 < (a0.size : Int)) = true := decide_eq_true c4
          clear c4
          (first | rw [c4b0] | (simp only [i64_w, i32_w]; rw [c4b0]) | skip)
          have H' := Aside0.mk H
          clear H
          go_wp2
          repeat (go_quiet (fail); try go_wp2)
          go_meet
          case rel => exact ⟨_, (decide (x5_1 < (a1.size : Int))), (by first | rfl | (simp; done) | (simp [*]; done)), H', ⟨by have := HK1.out; first | omega | exact Nat.le_refl _⟩, by repeat (first | exact Drawn0.refl _ | apply Drawn0.step)⟩
        · rw [if_neg c4] at H
          have c4b0 : decide (x5_1 < (a0.size : Int)) = false := decide_eq_false c4
          clear c4
          (first | rw [c4b0] | (simp only [i64_w, i32_w]; rw [c4b0]) | skip)
          have H' := Aside0.mk H
          clear H
          go_wp2
          repeat (go_quiet (fail); try go_wp2)
          go_meet
          case rel => exact ⟨_, (false), (by first | rfl | (simp; done) | (simp [*]; done)), H', ⟨by have := HK1.out; first | omega | exact Nat.le_refl _⟩, by repeat (first | exact Drawn0.refl _ | apply Drawn0.step)⟩
      case rest =>
        clear HC3
        try clear p2
        try clear c4
        try clear c4b0
        try clear p2
        obtain ⟨kq, x15_2, rfl, HA, HJ2, ⟨mc2, rfl⟩⟩ := hcut
        cases kq with
        | zero => exact absurd HA.out (by simp [spec_l1Less.j1])
        | succ kj2 =>
          have H := HA.out
          clear HA
          simp only [spec_l1Less.j1] at H
          by_cases c5 : x15_2 = true
          · subst c5
            have H1 : (if 0 ≤ x5_1 then (if x5_1 < (a0.size : Int) then (if x5_1 < (a1.size : Int) then (if (bt a0 x5_1) = (bt a1 x5_1) then (spec_l1Less.l0 kj2 a0 a1 (wrap64 (x5_1 + 1))) else (some (decide ((bt a0 x5_1) < (bt a1 x5_1))))) else (none)) else (none)) else (none)) = some r := by rw [if_pos rfl] at H; exact H
            clear H
            have H := H1
            clear H1
            by_cases c6 : 0 ≤ x5_1
            · rw [if_pos c6] at H
              have c6b0 : decide (0 ≤ x5_1) = true := decide_eq_true c6
              clear c6
              by_cases c7 : x5_1 < (a0.size : Int)
              · rw [if_pos c7] at H
                have c7b0 : decide (x5_1 < (a0.size : Int)) = true := decide_eq_true c7
                clear c7
                by_cases c9 : x5_1 < (a1.size : Int)
                · rw [if_pos c9] at H
                  have c9b0 : decide (x5_1 < (a1.size : Int)) = true := decide_eq_true c9
                  clear c9
                  by_cases c11 : (bt a0 x5_1) = (bt a1 x5_1)
                  · rw [if_pos c11] at H
                    have c11b0 : ((bt a0 x5_1) == (bt a1 x5_1)) = true := beq_iff_eq.mpr c11
                    have c11b1 : ((bt a0 x5_1) != (bt a1 x5_1)) = false := bne_eq_false_iff_eq.mpr c11
                    clear c11
                    have H' := Aside0.mk H
                    clear H
                    have p8 : 0 ≤ (x5_1 : Int) := of_decide_eq_true (by first | (with_reducible assumption) | assumption)
                    have q8 : x5_1 < (a0.size : Int) := of_decide_eq_true (by first | (with_reducible assumption) | assumption)
                    have hx8 := bt_at a0 x5_1
                    replace p8 := eq_true p8
                    replace q8 := eq_true q8
                    have p10 : 0 ≤ (x5_1 : Int) := of_decide_eq_true (by first | (with_reducible assumption) | assumption)
                    have q10 : x5_1 < (a1.size : Int) := of_decide_eq_true (by first | (with_reducible assumption) | assumption)
                    have hx10 := bt_at a1 x5_1
                    replace p10 := eq_true p10
                    replace q10 := eq_true q10
                    go_wp2
                    repeat (go_quiet (fail); try go_wp2)
                    go_roundg kj2
                    case measure => have := HK1.out; have := HJ2.out; omega
                    case rel => exact ⟨(wrap64 (x5_1 + 1)), (by first | rfl | (simp; done) | (simp [*]; done)), H', ⟨by have := HK1.out; have := HJ2.out; omega⟩, by repeat (first | exact Drawn0.refl _ | apply Drawn0.step)⟩
                  · rw [if_neg c11] at H
                    have c11b0 : ((bt a0 x5_1) == (bt a1 x5_1)) = false := beq_eq_false_iff_ne.mpr c11
                    have c11b1 : ((bt a0 x5_1) != (bt a1 x5_1)) = true := bne_iff_ne.mpr c11
                    obtain rfl := Option.some.inj H
                    have p8 : 0 ≤ (x5_1 : Int) := of_decide_eq_true (by first | (with_reducible assumption) | assumption)
                    have q8 : x5_1 < (a0.size : Int) := of_decide_eq_true (by first | (with_reducible assumption) | assumption)
                    have hx8 := bt_at a0 x5_1
                    replace p8 := eq_true p8
                    replace q8 := eq_true q8
                    have p10 : 0 ≤ (x5_1 : Int) := of_decide_eq_true (by first | (with_reducible assumption) | assumption)
                    have q10 : x5_1 < (a1.size : Int) := of_decide_eq_true (by first | (with_reducible assumption) | assumption)
                    have hx10 := bt_at a1 x5_1
                    replace p10 := eq_true p10
                    replace q10 := eq_true q10
                    have p12 : 0 ≤ (x5_1 : Int) := of_decide_eq_true (by first | (with_reducible assumption) | assumption)
                    have q12 : x5_1 < (a0.size : Int) := of_decide_eq_true (by first | (with_reducible assumption) | assumption)
                    have hx12 := bt_at a0 x5_1
                    replace p12 := eq_true p12
                    replace q12 := eq_true q12
                    have p13 : 0 ≤ (x5_1 : Int) := of_decide_eq_true (by first | (with_reducible assumption) | assumption)
                    have q13 : x5_1 < (a1.size : Int) := of_decide_eq_true (by first | (with_reducible assumption) | assumption)
                    have hx13 := bt_at a1 x5_1
                    replace p13 := eq_true p13
                    replace q13 := eq_true q13
                    go_wp2
                    repeat (go_quiet (fail); try go_wp2)
                    go_ret
                    exact ⟨by first | rfl | (simp; done) | (simp [*]; done), by repeat (first | exact Drawn0.refl _ | apply Drawn0.step)⟩
                · rw [if_neg c9] at H
                  exact absurd H (by simp)
              · rw [if_neg c7] at H
                exact absurd H (by simp)
            · rw [if_neg c6] at H
              exact absurd H (by simp)
          · replace c5 := Bool.eq_false_iff.mpr c5
            subst c5
            have H1 : (some (decide ((a0.size : Int) < (a1.size : Int)))) = some r := by rw [if_neg (show ¬ (false = true) by decide)] at H; exact H
            clear H
            have H := H1
            clear H1
            obtain rfl := Option.some.inj H
            go_wp2
            repeat (go_quiet (fail); try go_wp2)
            go_ret
            exact ⟨by first | rfl | (simp; done) | (simp [*]; done), by repeat (first | exact Drawn0.refl _ | apply Drawn0.step)⟩
end Go.Proofs.YtmfejehhfmaodabDoor.Z
end
section
namespace Go.Proofs.YtmfejehhfmaodabDoor.Z
open Go.RowKit Go.Proofs.YtmfejehhfmaodabDoorW.PrintWords Go.Proofs.YtmfejehhfmaodabDoorW.PrintLast Go.Proofs.YtmfejehhfmaodabDoorW.PrintMore
attribute [local go_sem] max2_int min2_int max_two min_two max_three min_three max_four min_four   -- for this text's walks alone
set_option linter.unusedVariables false
set_option linter.unusedSimpArgs false
def spec_Higher.f (k : Nat) (a0 : ByteArray) (a1 : ByteArray) : Option (Bool) := (spec_Sha256.f k a0).bind fun t1000001 => ((spec_Sha256.f k a1).bind fun t1000002 => (if t1000001.toList = t1000002.toList then ((spec_l1Less.f k a0 a1).bind fun t1000003 => (some t1000003)) else ((spec_l1Less.f k t1000002 t1000001).bind fun t1000004 => (some t1000004))))
theorem spec_Higher.mono : ∀ a0 a1 k, LeO (spec_Higher.f k a0 a1) (spec_Higher.f (k + 1) a0 a1) := by
  intro a0 a1 k
  unfold spec_Higher.f
  repeat' first
      | (with_reducible exact spec_Sha256.mono _ _)
      | (with_reducible exact spec_l1Less.mono _ _ _)
      | (with_reducible exact LeO.refl _)
      | (with_reducible exact LeO.none _)
      | (with_reducible refine LeO.ite ?_ ?_)
      | (with_reducible refine LeO.bind ?_ (fun _ => ?_))
      | exact spec_Sha256.mono _ _
      | exact spec_l1Less.mono _ _ _
      | exact LeO.none _
      | refine LeO.ite ?_ ?_
      | refine LeO.bind ?_ (fun _ => ?_)
set_option maxHeartbeats 8000000 in
set_option maxRecDepth 100000 in
theorem spec_Higher.calls (k : Nat) (a0 : ByteArray) (a1 : ByteArray) (r : Bool) (w : World) (h : spec_Higher.f k a0 a1 = some r) :
    Calls Tryd.prog 100 #[.string a0, .string a1] w fun e w' => e = .returned (.bool r) ∧ Below w.heap.size w w' := by
  have HB := Aside0.mk (Below.refl w.heap.size w)
  have H : ((spec_Sha256.f k a0).bind fun t1000001 => ((spec_Sha256.f k a1).bind fun t1000002 => (if t1000001.toList = t1000002.toList then ((spec_l1Less.f k a0 a1).bind fun t1000003 => (some t1000003)) else ((spec_l1Less.f k t1000002 t1000001).bind fun t1000004 => (some t1000004))))) = some r := h
  clear h
  replace H := Option.bind_eq_some_iff.mp H
  obtain ⟨t1000001, A30, H⟩ := H
  replace H : ((spec_Sha256.f k a1).bind fun t1000002 => (if t1000001.toList = t1000002.toList then ((spec_l1Less.f k a0 a1).bind fun t1000003 => (some t1000003)) else ((spec_l1Less.f k t1000002 t1000001).bind fun t1000004 => (some t1000004)))) = some r := H
  have A3 := Aside0.mk A30
  clear A30
  replace H := Option.bind_eq_some_iff.mp H
  obtain ⟨t1000002, A40, H⟩ := H
  replace H : (if t1000001.toList = t1000002.toList then ((spec_l1Less.f k a0 a1).bind fun t1000003 => (some t1000003)) else ((spec_l1Less.f k t1000002 t1000001).bind fun t1000004 => (some t1000004))) = some r := H
  have A4 := Aside0.mk A40
  clear A40
  by_cases c5 : t1000001.toList = t1000002.toList
  · rw [if_pos c5] at H
    have c5b0 : (t1000001.toList == t1000002.toList) = true := beq_iff_eq.mpr c5
    have c5b1 : (t1000001.toList != t1000002.toList) = false := bne_eq_false_iff_eq.mpr c5
    clear c5
    replace H := Option.bind_eq_some_iff.mp H
    obtain ⟨t1000003, A60, H⟩ := H
    replace H : (some t1000003) = some r := H
    have A6 := Aside0.mk A60
    clear A60
    obtain rfl := Option.some.inj H
    go_enter Tryd.func100, Tryd.ntmps100
    go_wp2_with (first | ((with_reducible refine gate_callee (f := 96) rfl ?_); refine goesL_ (some 8) rfl rfl Tryd.func96 (by kernel_rfl) rfl #[.string a0] rfl (by (try simp only [List.map_toArray, List.map_cons, List.map_nil]); first | done | rfl | (simp only [List.length_drop, List.length_take]; rfl)) ?_; (with_reducible refine (spec_Sha256.calls k a0 t1000001 _ A3.out).mono ?_); rintro e w7 ⟨rfl, hb⟩; refine ⟨_, rfl, ?_⟩; have n0_ := Aside0.mk (below_step (by repeat (first | (with_reducible first | exact HB.out | apply below_alloc | apply pw_below_drewN | apply below_drew1) | exact HB.out)) hb); clear HB; have HB := n0_; clear n0_; (try clear hb); (try clear hb2); (try clear hk); (try clear hi)) | ((with_reducible refine gate_callee (f := 96) rfl ?_); refine goesL_ (some 10) rfl rfl Tryd.func96 (by kernel_rfl) rfl #[.string a1] rfl (by (try simp only [List.map_toArray, List.map_cons, List.map_nil]); first | done | rfl | (simp only [List.length_drop, List.length_take]; rfl)) ?_; (with_reducible refine (spec_Sha256.calls k a1 t1000002 _ A4.out).mono ?_); rintro e w8 ⟨rfl, hb⟩; refine ⟨_, rfl, ?_⟩; have n0_ := Aside0.mk (below_step (by repeat (first | (with_reducible first | exact HB.out | apply below_alloc | apply pw_below_drewN | apply below_drew1) | exact HB.out)) hb); clear HB; have HB := n0_; clear n0_; (try clear hb); (try clear hb2); (try clear hk); (try clear hi)) | ((with_reducible refine gate_callee (f := 79) rfl ?_); refine goesL_ (some 19) rfl rfl Tryd.func79 (by kernel_rfl) rfl #[.string a0, .string a1] rfl (by (try simp only [List.map_toArray, List.map_cons, List.map_nil]); first | done | rfl | (simp only [List.length_drop, List.length_take]; rfl)) ?_; (with_reducible refine (spec_l1Less.calls k a0 a1 t1000003 _ A6.out).mono ?_); rintro e w' ⟨rfl, ⟨nd, rfl⟩⟩; refine ⟨_, rfl, ?_⟩))
    go_ret
    exact ⟨by first | rfl | (simp [errW_none, errW_some] <;> rfl) | (simp [*, errW_none, errW_some] <;> rfl), by repeat (first | (with_reducible first | exact HB.out | apply below_alloc | apply pw_below_drewN | apply below_drew1) | exact HB.out)⟩
  · rw [if_neg c5] at H
    have c5b0 : (t1000001.toList == t1000002.toList) = false := beq_eq_false_iff_ne.mpr c5
    have c5b1 : (t1000001.toList != t1000002.toList) = true := bne_iff_ne.mpr c5
    replace H := Option.bind_eq_some_iff.mp H
    obtain ⟨t1000004, A90, H⟩ := H
    replace H : (some t1000004) = some r := H
    have A9 := Aside0.mk A90
    clear A90
    obtain rfl := Option.some.inj H
    go_enter Tryd.func100, Tryd.ntmps100
    go_wp2_with (first | ((with_reducible refine gate_callee (f := 96) rfl ?_); refine goesL_ (some 8) rfl rfl Tryd.func96 (by kernel_rfl) rfl #[.string a0] rfl (by (try simp only [List.map_toArray, List.map_cons, List.map_nil]); first | done | rfl | (simp only [List.length_drop, List.length_take]; rfl)) ?_; (with_reducible refine (spec_Sha256.calls k a0 t1000001 _ A3.out).mono ?_); rintro e w10 ⟨rfl, hb⟩; refine ⟨_, rfl, ?_⟩; have n0_ := Aside0.mk (below_step (by repeat (first | (with_reducible first | exact HB.out | apply below_alloc | apply pw_below_drewN | apply below_drew1) | exact HB.out)) hb); clear HB; have HB := n0_; clear n0_; (try clear hb); (try clear hb2); (try clear hk); (try clear hi)) | ((with_reducible refine gate_callee (f := 96) rfl ?_); refine goesL_ (some 10) rfl rfl Tryd.func96 (by kernel_rfl) rfl #[.string a1] rfl (by (try simp only [List.map_toArray, List.map_cons, List.map_nil]); first | done | rfl | (simp only [List.length_drop, List.length_take]; rfl)) ?_; (with_reducible refine (spec_Sha256.calls k a1 t1000002 _ A4.out).mono ?_); rintro e w11 ⟨rfl, hb⟩; refine ⟨_, rfl, ?_⟩; have n0_ := Aside0.mk (below_step (by repeat (first | (with_reducible first | exact HB.out | apply below_alloc | apply pw_below_drewN | apply below_drew1) | exact HB.out)) hb); clear HB; have HB := n0_; clear n0_; (try clear hb); (try clear hb2); (try clear hk); (try clear hi)) | ((with_reducible refine gate_callee (f := 79) rfl ?_); refine goesL_ (some 16) rfl rfl Tryd.func79 (by kernel_rfl) rfl #[.string t1000002, .string t1000001] rfl (by (try simp only [List.map_toArray, List.map_cons, List.map_nil]); first | done | rfl | (simp only [List.length_drop, List.length_take]; rfl)) ?_; (with_reducible refine (spec_l1Less.calls k t1000002 t1000001 t1000004 _ A9.out).mono ?_); rintro e w' ⟨rfl, ⟨nd, rfl⟩⟩; refine ⟨_, rfl, ?_⟩))
    go_ret
    exact ⟨by first | rfl | (simp [errW_none, errW_some] <;> rfl) | (simp [*, errW_none, errW_some] <;> rfl), by repeat (first | (with_reducible first | exact HB.out | apply below_alloc | apply pw_below_drewN | apply below_drew1) | exact HB.out)⟩
end Go.Proofs.YtmfejehhfmaodabDoor.Z
end
section
namespace Go.Proofs.YtmfejehhfmaodabDoor.Z
open Go.RowKit Go.Proofs.YtmfejehhfmaodabDoor Go.Proofs.YtmfejehhfmaodabDoorW.PrintWords Go.Proofs.YtmfejehhfmaodabDoorW.PrintLast
set_option linter.unusedVariables false
set_option linter.unusedSimpArgs false
theorem l1Width_f (n : Int) : spec_l1Width.f n = some (widB n) := by
  unfold spec_l1Width.f widB
  by_cases h : n ≥ 1
  · rw [if_pos h]; congr 1; simp; omega
  · rw [if_neg h]; congr 1; simp; omega
theorem spec_Digest_f (a0 : ByteArray) (a1 : Int) (ha : a0.size ≤ 4294967296) (k : Nat) (hk : a0.size + 100 < k) : spec_Digest.f k a0 a1 = some (digV a0 a1) := by
  unfold spec_Digest.f
  rw [l1Width_f]
  simp only [Option.bind_some]
  by_cases hw : widB a1 = true
  · have hr : 1 ≤ a1 ∧ a1 ≤ 32 := by unfold widB at hw; exact of_decide_eq_true hw
    rw [if_pos hw, digV_yes hw, spec_Sha256_f a0 ha k hk]
    simp only [Option.bind_some]
    rw [if_pos (by omega), if_pos (by rw [shaV_size]; omega)]
  · rw [if_neg hw, digV_no (Bool.eq_false_iff.2 hw)]
theorem toList_inj {a b : ByteArray} : a.toList = b.toList ↔ a = b := by
  rw [ByteArray.toList_eq, ByteArray.toList_eq]
  exact ⟨fun h => ByteArray.ext (Array.toList_inj.mp h), fun h => by rw [h]⟩
end Go.Proofs.YtmfejehhfmaodabDoor.Z
end
