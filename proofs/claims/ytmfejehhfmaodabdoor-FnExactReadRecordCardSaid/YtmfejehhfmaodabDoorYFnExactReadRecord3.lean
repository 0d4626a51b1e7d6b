/- Own texts, joined. -/
import Derived.Test.YtmfejehhfmaodabDoorYFnExactReadRecord0
import Derived.Test.YtmfejehhfmaodabDoorYFnExactReadRecord2
/- Contracts of functions of the program, written by a program of this session over the translation's print. -/
section
namespace Go.Proofs.YtmfejehhfmaodabDoor.Z
open Go.RowKit Go.Proofs.YtmfejehhfmaodabDoorW.PrintWords Go.Proofs.YtmfejehhfmaodabDoorW.PrintLast Go.Proofs.YtmfejehhfmaodabDoorW.PrintMore
attribute [local go_sem] max2_int min2_int max_two min_two max_three min_three max_four min_four   -- for this text's walks alone
set_option linter.unusedVariables false
set_option linter.unusedSimpArgs false

/-! ### spec_ReadRecord: function 20 -/
mutual
def spec_ReadRecord.j0 : Nat → ByteArray → Int → Bool → Option (Int × ByteArray × Int × ByteArray × Int)
  | 0, _, _, _ => none
  | k + 1, x0, x1, x19 => if x19 = true then (some (0, (⟨#[]⟩ : ByteArray), 0, (⟨#[]⟩ : ByteArray), 0)) else (if (wrap64 ((x0.size : Int) - (wrap64 (x1 * 64)))) < 64 then (some (0, (⟨#[]⟩ : ByteArray), 0, (⟨#[]⟩ : ByteArray), 0)) else ((spec_l2Number.f x0 (wrap64 (x1 * 64))).bind fun t200002 => (if 0 ≤ (wrap64 ((wrap64 (x1 * 64)) + 63)) then (if (wrap64 ((wrap64 (x1 * 64)) + 63)) < (x0.size : Int) then (if (bt x0 (wrap64 ((wrap64 (x1 * 64)) + 63))) = 67 then (if 0 ≤ (wrap64 ((wrap64 (x1 * 64)) + 4)) then (if (wrap64 ((wrap64 (x1 * 64)) + 4)) < (x0.size : Int) then (if (wrap64 (bt x0 (wrap64 ((wrap64 (x1 * 64)) + 4)))) > 32 then (some (0, (⟨#[]⟩ : ByteArray), 0, (⟨#[]⟩ : ByteArray), 0)) else (if 0 ≤ (wrap64 ((wrap64 (x1 * 64)) + 5)) then (if (wrap64 ((wrap64 (x1 * 64)) + 5)) ≤ (wrap64 ((wrap64 ((wrap64 (x1 * 64)) + 5)) + (wrap64 (bt x0 (wrap64 ((wrap64 (x1 * 64)) + 4)))))) then (if (wrap64 ((wrap64 ((wrap64 (x1 * 64)) + 5)) + (wrap64 (bt x0 (wrap64 ((wrap64 (x1 * 64)) + 4)))))) ≤ (x0.size : Int) then ((spec_CommitRecord.f k t200002 (x0.extract ((wrap64 ((wrap64 (x1 * 64)) + 5)) : Int).toNat ((wrap64 ((wrap64 ((wrap64 (x1 * 64)) + 5)) + (wrap64 (bt x0 (wrap64 ((wrap64 (x1 * 64)) + 4)))))) : Int).toNat)).bind fun t200003 => (if 0 ≤ (wrap64 (x1 * 64)) then (if (wrap64 (x1 * 64)) ≤ (wrap64 ((wrap64 (x1 * 64)) + 64)) then (if (wrap64 ((wrap64 (x1 * 64)) + 64)) ≤ (x0.size : Int) then (if t200003.toList = (x0.extract ((wrap64 (x1 * 64)) : Int).toNat ((wrap64 ((wrap64 (x1 * 64)) + 64)) : Int).toNat).toList then (some (2, (⟨#[]⟩ : ByteArray), t200002, x0.extract ((wrap64 ((wrap64 (x1 * 64)) + 5)) : Int).toNat ((wrap64 ((wrap64 ((wrap64 (x1 * 64)) + 5)) + (wrap64 (bt x0 (wrap64 ((wrap64 (x1 * 64)) + 4)))))) : Int).toNat, wrap64 (x1 + 1))) else (some (0, (⟨#[]⟩ : ByteArray), 0, (⟨#[]⟩ : ByteArray), 0))) else (none)) else (none)) else (none))) else (none)) else (none)) else (none))) else (none)) else (none)) else (if t200002 < 1 then (spec_ReadRecord.j1 k x0 x1 (wrap64 (x1 * 64)) t200002 true) else (spec_ReadRecord.j1 k x0 x1 (wrap64 (x1 * 64)) t200002 (decide (t200002 > 4000))))) else (none)) else (none))))
def spec_ReadRecord.j1 : Nat → ByteArray → Int → Int → Int → Bool → Option (Int × ByteArray × Int × ByteArray × Int)
  | 0, _, _, _, _, _ => none
  | k + 1, x0, x1, x5, x6, x73 => if x73 = true then (some (0, (⟨#[]⟩ : ByteArray), 0, (⟨#[]⟩ : ByteArray), 0)) else (if (wrap64 (x5 + (wrap64 ((wrap64 (Int.tdiv (wrap64 ((wrap64 (x6 + 4)) + 62)) 63)) * 64)))) > (x0.size : Int) then (some (0, (⟨#[]⟩ : ByteArray), 0, (⟨#[]⟩ : ByteArray), 0)) else ((spec_l2Unmarked.f k x0 x5 (wrap64 (Int.tdiv (wrap64 ((wrap64 (x6 + 4)) + 62)) 63))).bind fun t200004 => (if 4 ≤ (wrap64 (4 + x6)) then (if (wrap64 (4 + x6)) ≤ (t200004.size : Int) then ((spec_NodeRecord.f k (t200004.extract 4 ((wrap64 (4 + x6)) : Int).toNat)).bind fun t200005 => (if 0 ≤ x5 then (if x5 ≤ (wrap64 (x5 + (wrap64 ((wrap64 (Int.tdiv (wrap64 ((wrap64 (x6 + 4)) + 62)) 63)) * 64)))) then (if (wrap64 (x5 + (wrap64 ((wrap64 (Int.tdiv (wrap64 ((wrap64 (x6 + 4)) + 62)) 63)) * 64)))) ≤ (x0.size : Int) then (if t200005.toList = (x0.extract (x5 : Int).toNat ((wrap64 (x5 + (wrap64 ((wrap64 (Int.tdiv (wrap64 ((wrap64 (x6 + 4)) + 62)) 63)) * 64)))) : Int).toNat).toList then (some (1, t200004.extract 4 ((wrap64 (4 + x6)) : Int).toNat, 0, (⟨#[]⟩ : ByteArray), wrap64 (x1 + (wrap64 (Int.tdiv (wrap64 ((wrap64 (x6 + 4)) + 62)) 63))))) else (some (0, (⟨#[]⟩ : ByteArray), 0, (⟨#[]⟩ : ByteArray), 0))) else (none)) else (none)) else (none))) else (none)) else (none))))
end
def spec_ReadRecord.f (k : Nat) (a0 : ByteArray) (a1 : Int) : Option (Int × ByteArray × Int × ByteArray × Int) := if a1 < 0 then (spec_ReadRecord.j0 k a0 a1 true) else (spec_ReadRecord.j0 k a0 a1 (decide (a1 > (wrap64 ((a0.size : Int) / 64)))))
theorem spec_ReadRecord.mono_l : ∀ k, (∀ y0 y1 y2, LeO (spec_ReadRecord.j0 k y0 y1 y2) (spec_ReadRecord.j0 (k + 1) y0 y1 y2)) ∧ (∀ y0 y1 y2 y3 y4, LeO (spec_ReadRecord.j1 k y0 y1 y2 y3 y4) (spec_ReadRecord.j1 (k + 1) y0 y1 y2 y3 y4))
  | 0 => ⟨fun _ _ _ r h => by simp [spec_ReadRecord.j0] at h, fun _ _ _ _ _ r h => by simp [spec_ReadRecord.j1] at h⟩
  | k + 1 => by
    obtain ⟨ih0, ih1⟩ := spec_ReadRecord.mono_l k
    refine ⟨?_, ?_⟩
    · intro y0 y1 y2
      unfold spec_ReadRecord.j0
      repeat' first
      | (with_reducible exact ih0 _ _ _)
      | (with_reducible exact ih1 _ _ _ _ _)
      | (with_reducible exact spec_CommitRecord.mono _ _ _)
      | (with_reducible exact spec_NodeRecord.mono _ _)
      | (with_reducible exact spec_l2Unmarked.mono _ _ _ _)
      | (with_reducible exact LeO.refl _)
      | (with_reducible exact LeO.none _)
      | (with_reducible refine LeO.ite ?_ ?_)
      | (with_reducible refine LeO.bind ?_ (fun _ => ?_))
      | exact ih0 _ _ _
      | exact ih1 _ _ _ _ _
      | exact spec_CommitRecord.mono _ _ _
      | exact spec_NodeRecord.mono _ _
      | exact spec_l2Unmarked.mono _ _ _ _
      | exact LeO.none _
      | refine LeO.ite ?_ ?_
      | refine LeO.bind ?_ (fun _ => ?_)
    · intro y0 y1 y2 y3 y4
      unfold spec_ReadRecord.j1
      repeat' first
      | (with_reducible exact ih0 _ _ _)
      | (with_reducible exact ih1 _ _ _ _ _)
      | (with_reducible exact spec_CommitRecord.mono _ _ _)
      | (with_reducible exact spec_NodeRecord.mono _ _)
      | (with_reducible exact spec_l2Unmarked.mono _ _ _ _)
      | (with_reducible exact LeO.refl _)
      | (with_reducible exact LeO.none _)
      | (with_reducible refine LeO.ite ?_ ?_)
      | (with_reducible refine LeO.bind ?_ (fun _ => ?_))
      | exact ih0 _ _ _
      | exact ih1 _ _ _ _ _
      | exact spec_CommitRecord.mono _ _ _
      | exact spec_NodeRecord.mono _ _
      | exact spec_l2Unmarked.mono _ _ _ _
      | exact LeO.none _
      | refine LeO.ite ?_ ?_
      | refine LeO.bind ?_ (fun _ => ?_)
theorem spec_ReadRecord.mono : ∀ a0 a1 k, LeO (spec_ReadRecord.f k a0 a1) (spec_ReadRecord.f (k + 1) a0 a1) := by
  intro a0 a1 k
  obtain ⟨ih0, ih1⟩ := spec_ReadRecord.mono_l k
  unfold spec_ReadRecord.f
  repeat' first
      | (with_reducible exact ih0 _ _ _)
      | (with_reducible exact ih1 _ _ _ _ _)
      | (with_reducible exact spec_CommitRecord.mono _ _ _)
      | (with_reducible exact spec_NodeRecord.mono _ _)
      | (with_reducible exact spec_l2Unmarked.mono _ _ _ _)
      | (with_reducible exact LeO.refl _)
      | (with_reducible exact LeO.none _)
      | (with_reducible refine LeO.ite ?_ ?_)
      | (with_reducible refine LeO.bind ?_ (fun _ => ?_))
      | exact ih0 _ _ _
      | exact ih1 _ _ _ _ _
      | exact spec_CommitRecord.mono _ _ _
      | exact spec_NodeRecord.mono _ _
      | exact spec_l2Unmarked.mono _ _ _ _
      | exact LeO.none _
      | refine LeO.ite ?_ ?_
      | refine LeO.bind ?_ (fun _ => ?_)
def spec_ReadRecord.T12 : Bool × List (List Nat × List Nat) := (true, [([], []), ([], []), ([0, 1], [0, 1]), ([], []), ([], []), ([], []), ([5], [5]), ([3, 4, 6], [3, 4, 6]), ([2, 7], [2, 7])])
def spec_ReadRecord.B12 : List Nat := [0, 0, 3, 0, 0, 0, 32, 120, 255]
theorem spec_ReadRecord.tab12 : rtab .any (opsOf Tryd.f20 12) = spec_ReadRecord.T12 := by kernel_rfl
theorem spec_ReadRecord.bits12 : waitsOk spec_ReadRecord.T12.2 spec_ReadRecord.B12 = true := by kernel_rfl
def spec_ReadRecord.T21 : Bool × List (List Nat × List Nat) := (true, [([], []), ([0], [0]), ([], []), ([], []), ([], []), ([], []), ([5], [5]), ([4, 6], [4, 6]), ([2, 3, 7], [2, 3, 7]), ([1, 8], [1, 8])])
def spec_ReadRecord.B21 : List Nat := [0, 1, 0, 0, 0, 0, 32, 112, 252, 511]
theorem spec_ReadRecord.tab21 : rtab .any (opsOf Tryd.f20 21) = spec_ReadRecord.T21 := by kernel_rfl
theorem spec_ReadRecord.bits21 : waitsOk spec_ReadRecord.T21.2 spec_ReadRecord.B21 = true := by kernel_rfl
set_option maxHeartbeats 8000000 in
set_option maxRecDepth 100000 in
theorem spec_ReadRecord.calls (k : Nat) (a0 : ByteArray) (a1 : Int) (r1 : Int) (r2 : ByteArray) (r3 : Int) (r4 : ByteArray) (r5 : Int) (w : World) (h : spec_ReadRecord.f k a0 a1 = some (r1, r2, r3, r4, r5)) :
    Calls Tryd.prog 20 #[.string a0, .int .i64 a1] w fun e w' => e = .returned (.agg #[.int .i64 r1, .string r2, .int .i64 r3, .string r4, .int .i64 r5]) ∧ Below w.heap.size w w' := by
  have hu43 := Tryd.underlying43
  have HB := Aside0.mk (Below.refl w.heap.size w)
  have H : (if a1 < 0 then (spec_ReadRecord.j0 k a0 a1 true) else (spec_ReadRecord.j0 k a0 a1 (decide (a1 > (wrap64 ((a0.size : Int) / 64)))))) = some (r1, r2, r3, r4, r5) := h
  clear h
  have HC3 := Aside0.mk H
  clear H
  go_enter Tryd.func20, Tryd.ntmps20
  go_upto_region 1 with (first | ((with_reducible refine gate_dst (N := 4) rfl ?_); (try (refine gate_guard (by rfl) ?_; dsimp only)); refine box_event ?hg (N := 4) ?hd (cs := #[.int .i64 0, .string (⟨#[]⟩ : ByteArray), .int .i64 0, .string (⟨#[]⟩ : ByteArray), .int .i64 0]) (t := 43) ?hr ?_; (case hd => rfl); (case hg => rfl); (case hr => first | (go_simp; done) | (go_simp; rfl)); intro gb200001 hg w4 hbox hb; have n0_ := Aside0.mk (below_step (by repeat (first | (with_reducible first | exact HB.out | apply below_alloc | apply pw_below_drewN | apply below_drew1) | exact HB.out)) hb); have n1_ := Aside0.mk (hbox); have n2_ := Aside0.mk ((by rw [hg]; exact (below_size (by repeat (first | (with_reducible first | exact HB.out | apply below_alloc | apply pw_below_drewN | apply below_drew1) | exact HB.out))) : w.heap.size ≤ gb200001)); have n3_ := Aside0.mk ((by rw [hg]; exact (below_size (by repeat (first | (with_reducible first | exact HB.out | apply below_alloc | apply pw_below_drewN | apply below_drew1) | exact HB.out))) : w.heap.size ≤ gb200001)); clear HB; have HB := n0_; have BK200001 := n1_; have GW200001 := n2_; have GE200001 := n3_; clear n0_ n1_ n2_ n3_; clear hb hbox hg))
  (try simp only [Act.put, List.setIfInBounds_toArray, List.set_cons_zero, List.set_cons_succ])
  go_cut [19] (fun v19 wc => ∃ (kq : Nat) (x19_2 : Bool), v19 = .bool x19_2 ∧ Aside0 (spec_ReadRecord.j0 kq a0 a1 x19_2 = some (r1, r2, r3, r4, r5)) ∧ Aside0 (kq ≤ k) ∧ Aside0 (wc.heap[gb200001]? = some (.cells #[.int .i64 0, .string (⟨#[]⟩ : ByteArray), .int .i64 0, .string (⟨#[]⟩ : ByteArray), .int .i64 0] 43 (0, 0))) ∧ Aside0 (Below w.heap.size w wc))
  case first =>
    have H := HC3.out
    clear HC3
    by_cases c5 : a1 < 0
    · rw [if_pos c5] at H
      have c5b0 : decide (a1 < 0) = true := decide_eq_true c5
      clear c5
      (first | rw [c5b0] | (simp only [i64_w, i32_w]; rw [c5b0]) | skip)
      have H' := Aside0.mk H
      clear H
      go_wp2
      go_meet
      case rel => exact ⟨_, (true), (by first | rfl | (simp; done) | (simp [*]; done)), H', ⟨by first | omega | exact Nat.le_refl _⟩, ⟨by (with_reducible repeat (first | refine blk_drewN ?_ _ | refine blk_drew ?_ | refine blk_alloc ?_ _)); exact BK200001.out⟩, ⟨by repeat (first | (with_reducible first | exact HB.out | apply below_alloc | apply pw_below_drewN | apply below_drew1 | refine below_set ?_ GE200001.out) | exact HB.out)⟩⟩
    · rw [if_neg c5] at H
      have c5b0 : decide (a1 < 0) = false := decide_eq_false c5
      clear c5
      (first | rw [c5b0] | (simp only [i64_w, i32_w]; rw [c5b0]) | skip)
      have H' := Aside0.mk H
      clear H
      go_wp2
      go_meet
      case rel => exact ⟨_, (decide (a1 > (wrap64 ((a0.size : Int) / 64)))), (by first | rfl | (simp; done) | (simp [*]; done)), H', ⟨by first | omega | exact Nat.le_refl _⟩, ⟨by (with_reducible repeat (first | refine blk_drewN ?_ _ | refine blk_drew ?_ | refine blk_alloc ?_ _)); exact BK200001.out⟩, ⟨by repeat (first | (with_reducible first | exact HB.out | apply below_alloc | apply pw_below_drewN | apply below_drew1 | refine below_set ?_ GE200001.out) | exact HB.out)⟩⟩
  case rest =>
    clear HC3
    try clear c2
    try clear p2
    try clear c5
    try clear c5b0
    obtain ⟨kq, x19_2, rfl, HA, HJ2, BK200001, HB⟩ := hcut
    cases kq with
    | zero => exact absurd HA.out (by simp [spec_ReadRecord.j0])
    | succ kj2 =>
      have H := HA.out
      clear HA
      simp only [spec_ReadRecord.j0] at H
      by_cases c6 : x19_2 = true
      · subst c6
        have H1 : (some (0, (⟨#[]⟩ : ByteArray), 0, (⟨#[]⟩ : ByteArray), 0)) = some (r1, r2, r3, r4, r5) := by rw [if_pos rfl] at H; exact H
        clear H
        have H := H1
        clear H1
        simp only [Option.some.injEq, Prod.mk.injEq] at H
        obtain ⟨rfl, rfl, rfl, rfl, rfl⟩ := H
        have hcz7_0 : wc.cell? ⟨gb200001, 0, none⟩ = some (.int .i64 0) := (blk_cell BK200001.out 0).trans rfl
        have hcz7_1 : wc.cell? ⟨gb200001, 1, none⟩ = some (.string (⟨#[]⟩ : ByteArray)) := (blk_cell BK200001.out 1).trans rfl
        have hcz7_2 : wc.cell? ⟨gb200001, 2, none⟩ = some (.int .i64 0) := (blk_cell BK200001.out 2).trans rfl
        have hcz7_3 : wc.cell? ⟨gb200001, 3, none⟩ = some (.string (⟨#[]⟩ : ByteArray)) := (blk_cell BK200001.out 3).trans rfl
        have hcz7_4 : wc.cell? ⟨gb200001, 4, none⟩ = some (.int .i64 0) := (blk_cell BK200001.out 4).trans rfl
        have hfz7_0 := blk_frozen BK200001.out 0
        have hfz7_1 := blk_frozen BK200001.out 1
        have hfz7_2 := blk_frozen BK200001.out 2
        have hfz7_3 := blk_frozen BK200001.out 3
        have hfz7_4 := blk_frozen BK200001.out 4
        go_wp2
        refine bodyPost_ret (results_cell_row rfl _ _ gb200001 43 #[.int .i64 0, .string (⟨#[]⟩ : ByteArray), .int .i64 0, .string (⟨#[]⟩ : ByteArray), .int .i64 0] (0, 0) _ rfl (by (with_reducible repeat (first | refine blk_drewN ?_ _ | refine blk_drew ?_ | refine blk_alloc ?_ _)); refine blk_put (cs := #[.int .i64 0, .string (⟨#[]⟩ : ByteArray), .int .i64 0, .string (⟨#[]⟩ : ByteArray), .int .i64 0]) ?_ 4 _ rfl; (with_reducible repeat (first | refine blk_drewN ?_ _ | refine blk_drew ?_ | refine blk_alloc ?_ _)); refine blk_put (cs := #[.int .i64 0, .string (⟨#[]⟩ : ByteArray), .int .i64 0, .string (⟨#[]⟩ : ByteArray), .int .i64 0]) ?_ 3 _ rfl; (with_reducible repeat (first | refine blk_drewN ?_ _ | refine blk_drew ?_ | refine blk_alloc ?_ _)); refine blk_put (cs := #[.int .i64 0, .string (⟨#[]⟩ : ByteArray), .int .i64 0, .string (⟨#[]⟩ : ByteArray), .int .i64 0]) ?_ 2 _ rfl; (with_reducible repeat (first | refine blk_drewN ?_ _ | refine blk_drew ?_ | refine blk_alloc ?_ _)); refine blk_put (cs := #[.int .i64 0, .string (⟨#[]⟩ : ByteArray), .int .i64 0, .string (⟨#[]⟩ : ByteArray), .int .i64 0]) ?_ 1 _ rfl; (with_reducible repeat (first | refine blk_drewN ?_ _ | refine blk_drew ?_ | refine blk_alloc ?_ _)); refine blk_put (cs := #[.int .i64 0, .string (⟨#[]⟩ : ByteArray), .int .i64 0, .string (⟨#[]⟩ : ByteArray), .int .i64 0]) ?_ 0 _ rfl; (with_reducible repeat (first | refine blk_drewN ?_ _ | refine blk_drew ?_ | refine blk_alloc ?_ _)); exact BK200001.out) Tryd.underlying43 rfl (by kernel_rfl)) rfl ?_
        exact ⟨by first | rfl | (simp [errW_none, errW_some] <;> rfl) | (simp [*, errW_none, errW_some] <;> rfl), by repeat (first | (with_reducible first | exact HB.out | apply below_alloc | apply pw_below_drewN | apply below_drew1 | refine below_set ?_ GE200001.out) | exact HB.out)⟩
      · replace c6 := Bool.eq_false_iff.mpr c6
        subst c6
        have H1 : (if (wrap64 ((a0.size : Int) - (wrap64 (a1 * 64)))) < 64 then (some (0, (⟨#[]⟩ : ByteArray), 0, (⟨#[]⟩ : ByteArray), 0)) else ((spec_l2Number.f a0 (wrap64 (a1 * 64))).bind fun t200002 => (if 0 ≤ (wrap64 ((wrap64 (a1 * 64)) + 63)) then (if (wrap64 ((wrap64 (a1 * 64)) + 63)) < (a0.size : Int) then (if (bt a0 (wrap64 ((wrap64 (a1 * 64)) + 63))) = 67 then (if 0 ≤ (wrap64 ((wrap64 (a1 * 64)) + 4)) then (if (wrap64 ((wrap64 (a1 * 64)) + 4)) < (a0.size : Int) then (if (wrap64 (bt a0 (wrap64 ((wrap64 (a1 * 64)) + 4)))) > 32 then (some (0, (⟨#[]⟩ : ByteArray), 0, (⟨#[]⟩ : ByteArray), 0)) else (if 0 ≤ (wrap64 ((wrap64 (a1 * 64)) + 5)) then (if (wrap64 ((wrap64 (a1 * 64)) + 5)) ≤ (wrap64 ((wrap64 ((wrap64 (a1 * 64)) + 5)) + (wrap64 (bt a0 (wrap64 ((wrap64 (a1 * 64)) + 4)))))) then (if (wrap64 ((wrap64 ((wrap64 (a1 * 64)) + 5)) + (wrap64 (bt a0 (wrap64 ((wrap64 (a1 * 64)) + 4)))))) ≤ (a0.size : Int) then ((spec_CommitRecord.f kj2 t200002 (a0.extract ((wrap64 ((wrap64 (a1 * 64)) + 5)) : Int).toNat ((wrap64 ((wrap64 ((wrap64 (a1 * 64)) + 5)) + (wrap64 (bt a0 (wrap64 ((wrap64 (a1 * 64)) + 4)))))) : Int).toNat)).bind fun t200003 => (if 0 ≤ (wrap64 (a1 * 64)) then (if (wrap64 (a1 * 64)) ≤ (wrap64 ((wrap64 (a1 * 64)) + 64)) then (if (wrap64 ((wrap64 (a1 * 64)) + 64)) ≤ (a0.size : Int) then (if t200003.toList = (a0.extract ((wrap64 (a1 * 64)) : Int).toNat ((wrap64 ((wrap64 (a1 * 64)) + 64)) : Int).toNat).toList then (some (2, (⟨#[]⟩ : ByteArray), t200002, a0.extract ((wrap64 ((wrap64 (a1 * 64)) + 5)) : Int).toNat ((wrap64 ((wrap64 ((wrap64 (a1 * 64)) + 5)) + (wrap64 (bt a0 (wrap64 ((wrap64 (a1 * 64)) + 4)))))) : Int).toNat, wrap64 (a1 + 1))) else (some (0, (⟨#[]⟩ : ByteArray), 0, (⟨#[]⟩ : ByteArray), 0))) else (none)) else (none)) else (none))) else (none)) else (none)) else (none))) else (none)) else (none)) else (if t200002 < 1 then (spec_ReadRecord.j1 kj2 a0 a1 (wrap64 (a1 * 64)) t200002 true) else (spec_ReadRecord.j1 kj2 a0 a1 (wrap64 (a1 * 64)) t200002 (decide (t200002 > 4000))))) else (none)) else (none)))) = some (r1, r2, r3, r4, r5) := by rw [if_neg (show ¬ (false = true) by decide)] at H; exact H
        clear H
        have H := H1
        clear H1
        by_cases c8 : (wrap64 ((a0.size : Int) - (wrap64 (a1 * 64)))) < 64
        · rw [if_pos c8] at H
          have c8b0 : decide ((wrap64 ((a0.size : Int) - (wrap64 (a1 * 64)))) < 64) = true := decide_eq_true c8
          clear c8
          simp only [Option.some.injEq, Prod.mk.injEq] at H
          obtain ⟨rfl, rfl, rfl, rfl, rfl⟩ := H
          have hcz9_0 : wc.cell? ⟨gb200001, 0, none⟩ = some (.int .i64 0) := (blk_cell BK200001.out 0).trans rfl
          have hcz9_1 : wc.cell? ⟨gb200001, 1, none⟩ = some (.string (⟨#[]⟩ : ByteArray)) := (blk_cell BK200001.out 1).trans rfl
          have hcz9_2 : wc.cell? ⟨gb200001, 2, none⟩ = some (.int .i64 0) := (blk_cell BK200001.out 2).trans rfl
          have hcz9_3 : wc.cell? ⟨gb200001, 3, none⟩ = some (.string (⟨#[]⟩ : ByteArray)) := (blk_cell BK200001.out 3).trans rfl
          have hcz9_4 : wc.cell? ⟨gb200001, 4, none⟩ = some (.int .i64 0) := (blk_cell BK200001.out 4).trans rfl
          have hfz9_0 := blk_frozen BK200001.out 0
          have hfz9_1 := blk_frozen BK200001.out 1
          have hfz9_2 := blk_frozen BK200001.out 2
          have hfz9_3 := blk_frozen BK200001.out 3
          have hfz9_4 := blk_frozen BK200001.out 4
          go_wp2
          refine bodyPost_ret (results_cell_row rfl _ _ gb200001 43 #[.int .i64 0, .string (⟨#[]⟩ : ByteArray), .int .i64 0, .string (⟨#[]⟩ : ByteArray), .int .i64 0] (0, 0) _ rfl (by (with_reducible repeat (first | refine blk_drewN ?_ _ | refine blk_drew ?_ | refine blk_alloc ?_ _)); refine blk_put (cs := #[.int .i64 0, .string (⟨#[]⟩ : ByteArray), .int .i64 0, .string (⟨#[]⟩ : ByteArray), .int .i64 0]) ?_ 4 _ rfl; (with_reducible repeat (first | refine blk_drewN ?_ _ | refine blk_drew ?_ | refine blk_alloc ?_ _)); refine blk_put (cs := #[.int .i64 0, .string (⟨#[]⟩ : ByteArray), .int .i64 0, .string (⟨#[]⟩ : ByteArray), .int .i64 0]) ?_ 3 _ rfl; (with_reducible repeat (first | refine blk_drewN ?_ _ | refine blk_drew ?_ | refine blk_alloc ?_ _)); refine blk_put (cs := #[.int .i64 0, .string (⟨#[]⟩ : ByteArray), .int .i64 0, .string (⟨#[]⟩ : ByteArray), .int .i64 0]) ?_ 2 _ rfl; (with_reducible repeat (first | refine blk_drewN ?_ _ | refine blk_drew ?_ | refine blk_alloc ?_ _)); refine blk_put (cs := #[.int .i64 0, .string (⟨#[]⟩ : ByteArray), .int .i64 0, .string (⟨#[]⟩ : ByteArray), .int .i64 0]) ?_ 1 _ rfl; (with_reducible repeat (first | refine blk_drewN ?_ _ | refine blk_drew ?_ | refine blk_alloc ?_ _)); refine blk_put (cs := #[.int .i64 0, .string (⟨#[]⟩ : ByteArray), .int .i64 0, .string (⟨#[]⟩ : ByteArray), .int .i64 0]) ?_ 0 _ rfl; (with_reducible repeat (first | refine blk_drewN ?_ _ | refine blk_drew ?_ | refine blk_alloc ?_ _)); exact BK200001.out) Tryd.underlying43 rfl (by kernel_rfl)) rfl ?_
          exact ⟨by first | rfl | (simp [errW_none, errW_some] <;> rfl) | (simp [*, errW_none, errW_some] <;> rfl), by repeat (first | (with_reducible first | exact HB.out | apply below_alloc | apply pw_below_drewN | apply below_drew1 | refine below_set ?_ GE200001.out) | exact HB.out)⟩
        · rw [if_neg c8] at H
          have c8b0 : decide ((wrap64 ((a0.size : Int) - (wrap64 (a1 * 64)))) < 64) = false := decide_eq_false c8
          clear c8
          replace H := Option.bind_eq_some_iff.mp H
          obtain ⟨t200002, A100, H⟩ := H
          replace H : (if 0 ≤ (wrap64 ((wrap64 (a1 * 64)) + 63)) then (if (wrap64 ((wrap64 (a1 * 64)) + 63)) < (a0.size : Int) then (if (bt a0 (wrap64 ((wrap64 (a1 * 64)) + 63))) = 67 then (if 0 ≤ (wrap64 ((wrap64 (a1 * 64)) + 4)) then (if (wrap64 ((wrap64 (a1 * 64)) + 4)) < (a0.size : Int) then (if (wrap64 (bt a0 (wrap64 ((wrap64 (a1 * 64)) + 4)))) > 32 then (some (0, (⟨#[]⟩ : ByteArray), 0, (⟨#[]⟩ : ByteArray), 0)) else (if 0 ≤ (wrap64 ((wrap64 (a1 * 64)) + 5)) then (if (wrap64 ((wrap64 (a1 * 64)) + 5)) ≤ (wrap64 ((wrap64 ((wrap64 (a1 * 64)) + 5)) + (wrap64 (bt a0 (wrap64 ((wrap64 (a1 * 64)) + 4)))))) then (if (wrap64 ((wrap64 ((wrap64 (a1 * 64)) + 5)) + (wrap64 (bt a0 (wrap64 ((wrap64 (a1 * 64)) + 4)))))) ≤ (a0.size : Int) then ((spec_CommitRecord.f kj2 t200002 (a0.extract ((wrap64 ((wrap64 (a1 * 64)) + 5)) : Int).toNat ((wrap64 ((wrap64 ((wrap64 (a1 * 64)) + 5)) + (wrap64 (bt a0 (wrap64 ((wrap64 (a1 * 64)) + 4)))))) : Int).toNat)).bind fun t200003 => (if 0 ≤ (wrap64 (a1 * 64)) then (if (wrap64 (a1 * 64)) ≤ (wrap64 ((wrap64 (a1 * 64)) + 64)) then (if (wrap64 ((wrap64 (a1 * 64)) + 64)) ≤ (a0.size : Int) then (if t200003.toList = (a0.extract ((wrap64 (a1 * 64)) : Int).toNat ((wrap64 ((wrap64 (a1 * 64)) + 64)) : Int).toNat).toList then (some (2, (⟨#[]⟩ : ByteArray), t200002, a0.extract ((wrap64 ((wrap64 (a1 * 64)) + 5)) : Int).toNat ((wrap64 ((wrap64 ((wrap64 (a1 * 64)) + 5)) + (wrap64 (bt a0 (wrap64 ((wrap64 (a1 * 64)) + 4)))))) : Int).toNat, wrap64 (a1 + 1))) else (some (0, (⟨#[]⟩ : ByteArray), 0, (⟨#[]⟩ : ByteArray), 0))) else (none)) else (none)) else (none))) else (none)) else (none)) else (none))) else (none)) else (none)) else (if t200002 < 1 then (spec_ReadRecord.j1 kj2 a0 a1 (wrap64 (a1 * 64)) t200002 true) else (spec_ReadRecord.j1 kj2 a0 a1 (wrap64 (a1 * 64)) t200002 (decide (t200002 > 4000))))) else (none)) else (none)) = some (r1, r2, r3, r4, r5) := H
          have A10 := Aside0.mk A100
          clear A100
          obtain ⟨ji11, hji11⟩ : ∃ j_ : Int, (wrap64 ((wrap64 (a1 * 64)) + 63)) = j_ := ⟨_, rfl⟩
          replace H : (if 0 ≤ (ji11) then (if (ji11) < (a0.size : Int) then (if (bt a0 (ji11)) = 67 then (if 0 ≤ (wrap64 ((wrap64 (a1 * 64)) + 4)) then (if (wrap64 ((wrap64 (a1 * 64)) + 4)) < (a0.size : Int) then (if (wrap64 (bt a0 (wrap64 ((wrap64 (a1 * 64)) + 4)))) > 32 then (some (0, (⟨#[]⟩ : ByteArray), 0, (⟨#[]⟩ : ByteArray), 0)) else (if 0 ≤ (wrap64 ((wrap64 (a1 * 64)) + 5)) then (if (wrap64 ((wrap64 (a1 * 64)) + 5)) ≤ (wrap64 ((wrap64 ((wrap64 (a1 * 64)) + 5)) + (wrap64 (bt a0 (wrap64 ((wrap64 (a1 * 64)) + 4)))))) then (if (wrap64 ((wrap64 ((wrap64 (a1 * 64)) + 5)) + (wrap64 (bt a0 (wrap64 ((wrap64 (a1 * 64)) + 4)))))) ≤ (a0.size : Int) then ((spec_CommitRecord.f kj2 t200002 (a0.extract ((wrap64 ((wrap64 (a1 * 64)) + 5)) : Int).toNat ((wrap64 ((wrap64 ((wrap64 (a1 * 64)) + 5)) + (wrap64 (bt a0 (wrap64 ((wrap64 (a1 * 64)) + 4)))))) : Int).toNat)).bind fun t200003 => (if 0 ≤ (wrap64 (a1 * 64)) then (if (wrap64 (a1 * 64)) ≤ (wrap64 ((wrap64 (a1 * 64)) + 64)) then (if (wrap64 ((wrap64 (a1 * 64)) + 64)) ≤ (a0.size : Int) then (if t200003.toList = (a0.extract ((wrap64 (a1 * 64)) : Int).toNat ((wrap64 ((wrap64 (a1 * 64)) + 64)) : Int).toNat).toList then (some (2, (⟨#[]⟩ : ByteArray), t200002, a0.extract ((wrap64 ((wrap64 (a1 * 64)) + 5)) : Int).toNat ((wrap64 ((wrap64 ((wrap64 (a1 * 64)) + 5)) + (wrap64 (bt a0 (wrap64 ((wrap64 (a1 * 64)) + 4)))))) : Int).toNat, wrap64 (a1 + 1))) else (some (0, (⟨#[]⟩ : ByteArray), 0, (⟨#[]⟩ : ByteArray), 0))) else (none)) else (none)) else (none))) else (none)) else (none)) else (none))) else (none)) else (none)) else (if t200002 < 1 then (spec_ReadRecord.j1 kj2 a0 a1 (wrap64 (a1 * 64)) t200002 true) else (spec_ReadRecord.j1 kj2 a0 a1 (wrap64 (a1 * 64)) t200002 (decide (t200002 > 4000))))) else (none)) else (none)) = some (r1, r2, r3, r4, r5) := by first | (rw [hji11] at H; exact H) | (simp only [hji11] at H ⊢; exact H)
          (try rw [hji11] at A10)
          have hji11w : (IntKind.i64.wrap ((wrap64 (a1 * 64)) + 63)) = ji11 := (i64_w _).trans hji11
          by_cases c12 : 0 ≤ (ji11)
          · rw [if_pos c12] at H
            have c12b0 : decide (0 ≤ (ji11)) = true := decide_eq_true c12
            clear c12
            by_cases c13 : (ji11) < (a0.size : Int)
            · rw [if_pos c13] at H
              have c13b0 : decide ((ji11) < (a0.size : Int)) = true := decide_eq_true c13
              clear c13
              by_cases c15 : (bt a0 (ji11)) = 67
              · rw [if_pos c15] at H
                have c15b0 : ((bt a0 (ji11)) == 67) = true := beq_iff_eq.mpr c15
                have c15b1 : ((bt a0 (ji11)) != 67) = false := bne_eq_false_iff_eq.mpr c15
                clear c15
                obtain ⟨ji16, hji16⟩ : ∃ j_ : Int, (wrap64 ((wrap64 (a1 * 64)) + 4)) = j_ := ⟨_, rfl⟩
                replace H : (if 0 ≤ (ji16) then (if (ji16) < (a0.size : Int) then (if (wrap64 (bt a0 (ji16))) > 32 then (some (0, (⟨#[]⟩ : ByteArray), 0, (⟨#[]⟩ : ByteArray), 0)) else (if 0 ≤ (wrap64 ((wrap64 (a1 * 64)) + 5)) then (if (wrap64 ((wrap64 (a1 * 64)) + 5)) ≤ (wrap64 ((wrap64 ((wrap64 (a1 * 64)) + 5)) + (wrap64 (bt a0 (ji16))))) then (if (wrap64 ((wrap64 ((wrap64 (a1 * 64)) + 5)) + (wrap64 (bt a0 (ji16))))) ≤ (a0.size : Int) then ((spec_CommitRecord.f kj2 t200002 (a0.extract ((wrap64 ((wrap64 (a1 * 64)) + 5)) : Int).toNat ((wrap64 ((wrap64 ((wrap64 (a1 * 64)) + 5)) + (wrap64 (bt a0 (ji16))))) : Int).toNat)).bind fun t200003 => (if 0 ≤ (wrap64 (a1 * 64)) then (if (wrap64 (a1 * 64)) ≤ (wrap64 ((wrap64 (a1 * 64)) + 64)) then (if (wrap64 ((wrap64 (a1 * 64)) + 64)) ≤ (a0.size : Int) then (if t200003.toList = (a0.extract ((wrap64 (a1 * 64)) : Int).toNat ((wrap64 ((wrap64 (a1 * 64)) + 64)) : Int).toNat).toList then (some (2, (⟨#[]⟩ : ByteArray), t200002, a0.extract ((wrap64 ((wrap64 (a1 * 64)) + 5)) : Int).toNat ((wrap64 ((wrap64 ((wrap64 (a1 * 64)) + 5)) + (wrap64 (bt a0 (ji16))))) : Int).toNat, wrap64 (a1 + 1))) else (some (0, (⟨#[]⟩ : ByteArray), 0, (⟨#[]⟩ : ByteArray), 0))) else (none)) else (none)) else (none))) else (none)) else (none)) else (none))) else (none)) else (none)) = some (r1, r2, r3, r4, r5) := by first | (rw [hji16] at H; exact H) | (simp only [hji16] at H ⊢; exact H)
                (try rw [hji16] at A10)
                have hji16w : (IntKind.i64.wrap ((wrap64 (a1 * 64)) + 4)) = ji16 := (i64_w _).trans hji16
                by_cases c17 : 0 ≤ (ji16)
                · rw [if_pos c17] at H
                  have c17b0 : decide (0 ≤ (ji16)) = true := decide_eq_true c17
                  clear c17
                  by_cases c18 : (ji16) < (a0.size : Int)
                  · rw [if_pos c18] at H
                    have c18b0 : decide ((ji16) < (a0.size : Int)) = true := decide_eq_true c18
                    clear c18
                    by_cases c20 : (wrap64 (bt a0 (ji16))) > 32
                    · rw [if_pos c20] at H
                      have c20b0 : decide (32 < (wrap64 (bt a0 (ji16)))) = true := decide_eq_true c20
                      clear c20
                      simp only [Option.some.injEq, Prod.mk.injEq] at H
                      obtain ⟨rfl, rfl, rfl, rfl, rfl⟩ := H
                      go_wp2_with (first | ((with_reducible refine gate_callee (f := 51) rfl ?_); refine goesL_ (some 31) rfl rfl Tryd.func51 (by kernel_rfl) rfl #[.string a0, .int .i64 (wrap64 (a1 * 64))] rfl (by (try simp only [List.map_toArray, List.map_cons, List.map_nil]); first | done | rfl | (simp only [List.length_drop, List.length_take]; rfl)) ?_; (with_reducible refine (spec_l2Number.calls a0 (wrap64 (a1 * 64)) t200002 _ A10.out).mono ?_); rintro e w' ⟨rfl, ⟨nd, rfl⟩⟩; refine ⟨_, rfl, ?_⟩; (try (rw [drewN_self wc]; generalize hq_ : World.drewN wc _ = wc; have n0_ : Aside0 (wc.heap[gb200001]? = some (.cells #[.int .i64 0, .string (⟨#[]⟩ : ByteArray), .int .i64 0, .string (⟨#[]⟩ : ByteArray), .int .i64 0] 43 (0, 0))) := ⟨by rw [← hq_]; exact (by (with_reducible repeat (first | refine blk_drewN ?_ _ | refine blk_drew ?_ | refine blk_alloc ?_ _)); exact BK200001.out)⟩; have n1_ : Aside0 (Below w.heap.size w wc) := ⟨by rw [← hq_]; exact (by repeat (first | (with_reducible first | exact HB.out | apply below_alloc | apply pw_below_drewN | apply below_drew1 | refine below_set ?_ GE200001.out) | exact HB.out))⟩; clear BK200001 HB hq_; have BK200001 := n0_; have HB := n1_; clear n0_ n1_)); have p14 : 0 ≤ ((ji11) : Int) := of_decide_eq_true (by first | (with_reducible assumption) | assumption); have q14 : (ji11) < (a0.size : Int) := of_decide_eq_true (by first | (with_reducible assumption) | assumption); have hx14 := bt_at a0 (ji11); replace p14 := eq_true p14; replace q14 := eq_true q14; have p19 : 0 ≤ ((ji16) : Int) := of_decide_eq_true (by first | (with_reducible assumption) | assumption); have q19 : (ji16) < (a0.size : Int) := of_decide_eq_true (by first | (with_reducible assumption) | assumption); have hx19 := bt_at a0 (ji16); replace p19 := eq_true p19; replace q19 := eq_true q19; have hcz21_0 : wc.cell? ⟨gb200001, 0, none⟩ = some (.int .i64 0) := (blk_cell BK200001.out 0).trans rfl; have hcz21_1 : wc.cell? ⟨gb200001, 1, none⟩ = some (.string (⟨#[]⟩ : ByteArray)) := (blk_cell BK200001.out 1).trans rfl; have hcz21_2 : wc.cell? ⟨gb200001, 2, none⟩ = some (.int .i64 0) := (blk_cell BK200001.out 2).trans rfl; have hcz21_3 : wc.cell? ⟨gb200001, 3, none⟩ = some (.string (⟨#[]⟩ : ByteArray)) := (blk_cell BK200001.out 3).trans rfl; have hcz21_4 : wc.cell? ⟨gb200001, 4, none⟩ = some (.int .i64 0) := (blk_cell BK200001.out 4).trans rfl; have hfz21_0 := blk_frozen BK200001.out 0; have hfz21_1 := blk_frozen BK200001.out 1; have hfz21_2 := blk_frozen BK200001.out 2; have hfz21_3 := blk_frozen BK200001.out 3; have hfz21_4 := blk_frozen BK200001.out 4))
                      refine bodyPost_ret (results_cell_row rfl _ _ gb200001 43 #[.int .i64 0, .string (⟨#[]⟩ : ByteArray), .int .i64 0, .string (⟨#[]⟩ : ByteArray), .int .i64 0] (0, 0) _ rfl (by (with_reducible repeat (first | refine blk_drewN ?_ _ | refine blk_drew ?_ | refine blk_alloc ?_ _)); refine blk_put (cs := #[.int .i64 0, .string (⟨#[]⟩ : ByteArray), .int .i64 0, .string (⟨#[]⟩ : ByteArray), .int .i64 0]) ?_ 4 _ rfl; (with_reducible repeat (first | refine blk_drewN ?_ _ | refine blk_drew ?_ | refine blk_alloc ?_ _)); refine blk_put (cs := #[.int .i64 0, .string (⟨#[]⟩ : ByteArray), .int .i64 0, .string (⟨#[]⟩ : ByteArray), .int .i64 0]) ?_ 3 _ rfl; (with_reducible repeat (first | refine blk_drewN ?_ _ | refine blk_drew ?_ | refine blk_alloc ?_ _)); refine blk_put (cs := #[.int .i64 0, .string (⟨#[]⟩ : ByteArray), .int .i64 0, .string (⟨#[]⟩ : ByteArray), .int .i64 0]) ?_ 2 _ rfl; (with_reducible repeat (first | refine blk_drewN ?_ _ | refine blk_drew ?_ | refine blk_alloc ?_ _)); refine blk_put (cs := #[.int .i64 0, .string (⟨#[]⟩ : ByteArray), .int .i64 0, .string (⟨#[]⟩ : ByteArray), .int .i64 0]) ?_ 1 _ rfl; (with_reducible repeat (first | refine blk_drewN ?_ _ | refine blk_drew ?_ | refine blk_alloc ?_ _)); refine blk_put (cs := #[.int .i64 0, .string (⟨#[]⟩ : ByteArray), .int .i64 0, .string (⟨#[]⟩ : ByteArray), .int .i64 0]) ?_ 0 _ rfl; (with_reducible repeat (first | refine blk_drewN ?_ _ | refine blk_drew ?_ | refine blk_alloc ?_ _)); exact BK200001.out) Tryd.underlying43 rfl (by kernel_rfl)) rfl ?_
                      exact ⟨by first | rfl | (simp [errW_none, errW_some] <;> rfl) | (simp only [← hji11, ← hji16]; first | rfl | (simp [errW_none, errW_some] <;> rfl)) | (simp [*, errW_none, errW_some] <;> rfl), by repeat (first | (with_reducible first | exact HB.out | apply below_alloc | apply pw_below_drewN | apply below_drew1 | refine below_set ?_ GE200001.out) | exact HB.out)⟩
                    · rw [if_neg c20] at H
                      have c20b0 : decide (32 < (wrap64 (bt a0 (ji16)))) = false := decide_eq_false c20
                      clear c20
                      obtain ⟨ji22, hji22⟩ : ∃ j_ : Int, (wrap64 ((wrap64 (a1 * 64)) + 5)) = j_ := ⟨_, rfl⟩
                      replace H : (if 0 ≤ (ji22) then (if (ji22) ≤ (wrap64 ((ji22) + (wrap64 (bt a0 (ji16))))) then (if (wrap64 ((ji22) + (wrap64 (bt a0 (ji16))))) ≤ (a0.size : Int) then ((spec_CommitRecord.f kj2 t200002 (a0.extract ((ji22) : Int).toNat ((wrap64 ((ji22) + (wrap64 (bt a0 (ji16))))) : Int).toNat)).bind fun t200003 => (if 0 ≤ (wrap64 (a1 * 64)) then (if (wrap64 (a1 * 64)) ≤ (wrap64 ((wrap64 (a1 * 64)) + 64)) then (if (wrap64 ((wrap64 (a1 * 64)) + 64)) ≤ (a0.size : Int) then (if t200003.toList = (a0.extract ((wrap64 (a1 * 64)) : Int).toNat ((wrap64 ((wrap64 (a1 * 64)) + 64)) : Int).toNat).toList then (some (2, (⟨#[]⟩ : ByteArray), t200002, a0.extract ((ji22) : Int).toNat ((wrap64 ((ji22) + (wrap64 (bt a0 (ji16))))) : Int).toNat, wrap64 (a1 + 1))) else (some (0, (⟨#[]⟩ : ByteArray), 0, (⟨#[]⟩ : ByteArray), 0))) else (none)) else (none)) else (none))) else (none)) else (none)) else (none)) = some (r1, r2, r3, r4, r5) := by first | (rw [hji22] at H; exact H) | (simp only [hji22] at H ⊢; exact H)
                      (try rw [hji22] at A10)
                      have hji22w : (IntKind.i64.wrap ((wrap64 (a1 * 64)) + 5)) = ji22 := (i64_w _).trans hji22
                      by_cases c23 : 0 ≤ (ji22)
                      · rw [if_pos c23] at H
                        have c23b0 := eq_true c23
                        have c23b1 : decide (0 ≤ (ji22)) = true := decide_eq_true c23
                        clear c23
                        by_cases c24 : (ji22) ≤ (wrap64 ((ji22) + (wrap64 (bt a0 (ji16)))))
                        · rw [if_pos c24] at H
                          have c24b0 := eq_true c24
                          have c24b1 : decide ((ji22) ≤ (wrap64 ((ji22) + (wrap64 (bt a0 (ji16)))))) = true := decide_eq_true c24
                          by_cases c25 : (wrap64 ((ji22) + (wrap64 (bt a0 (ji16))))) ≤ (a0.size : Int)
                          · rw [if_pos c25] at H
                            have c25b0 := eq_true c25
                            have c25b1 : decide ((wrap64 ((ji22) + (wrap64 (bt a0 (ji16))))) ≤ (a0.size : Int)) = true := decide_eq_true c25
                            replace H := Option.bind_eq_some_iff.mp H
                            obtain ⟨t200003, A260, H⟩ := H
                            replace H : (if 0 ≤ (wrap64 (a1 * 64)) then (if (wrap64 (a1 * 64)) ≤ (wrap64 ((wrap64 (a1 * 64)) + 64)) then (if (wrap64 ((wrap64 (a1 * 64)) + 64)) ≤ (a0.size : Int) then (if t200003.toList = (a0.extract ((wrap64 (a1 * 64)) : Int).toNat ((wrap64 ((wrap64 (a1 * 64)) + 64)) : Int).toNat).toList then (some (2, (⟨#[]⟩ : ByteArray), t200002, a0.extract ((ji22) : Int).toNat ((wrap64 ((ji22) + (wrap64 (bt a0 (ji16))))) : Int).toNat, wrap64 (a1 + 1))) else (some (0, (⟨#[]⟩ : ByteArray), 0, (⟨#[]⟩ : ByteArray), 0))) else (none)) else (none)) else (none)) = some (r1, r2, r3, r4, r5) := H
                            have A26 := Aside0.mk A260
                            clear A260
                            obtain ⟨ji27, hji27⟩ : ∃ j_ : Int, (wrap64 (a1 * 64)) = j_ := ⟨_, rfl⟩
                            replace H : (if 0 ≤ (ji27) then (if (ji27) ≤ (wrap64 ((ji27) + 64)) then (if (wrap64 ((ji27) + 64)) ≤ (a0.size : Int) then (if t200003.toList = (a0.extract ((ji27) : Int).toNat ((wrap64 ((ji27) + 64)) : Int).toNat).toList then (some (2, (⟨#[]⟩ : ByteArray), t200002, a0.extract ((ji22) : Int).toNat ((wrap64 ((ji22) + (wrap64 (bt a0 (ji16))))) : Int).toNat, wrap64 (a1 + 1))) else (some (0, (⟨#[]⟩ : ByteArray), 0, (⟨#[]⟩ : ByteArray), 0))) else (none)) else (none)) else (none)) = some (r1, r2, r3, r4, r5) := by first | (rw [hji27] at H; exact H) | (simp only [hji27] at H ⊢; exact H)
                            (try rw [hji27] at c8b0)
                            (try rw [hji27] at A10)
                            (try rw [hji27] at A26)
                            have hji27w : (IntKind.i64.wrap (a1 * 64)) = ji27 := (i64_w _).trans hji27
                            (try rw [hji27] at hji11)
                            (try rw [hji27] at hji11w)
                            (try rw [hji27] at hji16)
                            (try rw [hji27] at hji16w)
                            (try rw [hji27] at hji22)
                            (try rw [hji27] at hji22w)
                            by_cases c28 : 0 ≤ (ji27)
                            · rw [if_pos c28] at H
                              have c28b0 := eq_true c28
                              have c28b1 : decide (0 ≤ (ji27)) = true := decide_eq_true c28
                              clear c28
                              by_cases c29 : (ji27) ≤ (wrap64 ((ji27) + 64))
                              · rw [if_pos c29] at H
                                have c29b0 := eq_true c29
                                have c29b1 : decide ((ji27) ≤ (wrap64 ((ji27) + 64))) = true := decide_eq_true c29
                                by_cases c30 : (wrap64 ((ji27) + 64)) ≤ (a0.size : Int)
                                · rw [if_pos c30] at H
                                  have c30b0 := eq_true c30
                                  have c30b1 : decide ((wrap64 ((ji27) + 64)) ≤ (a0.size : Int)) = true := decide_eq_true c30
                                  by_cases c31 : t200003.toList = (a0.extract ((ji27) : Int).toNat ((wrap64 ((ji27) + 64)) : Int).toNat).toList
                                  · rw [if_pos c31] at H
                                    have c31b0 : (t200003.toList == (a0.extract ((ji27) : Int).toNat ((wrap64 ((ji27) + 64)) : Int).toNat).toList) = true := beq_iff_eq.mpr c31
                                    have c31b1 : (t200003.toList != (a0.extract ((ji27) : Int).toNat ((wrap64 ((ji27) + 64)) : Int).toNat).toList) = false := bne_eq_false_iff_eq.mpr c31
                                    clear c31
                                    simp only [Option.some.injEq, Prod.mk.injEq] at H
                                    obtain ⟨rfl, rfl, rfl, rfl, rfl⟩ := H
                                    try go_wp2_with (first | ((with_reducible refine gate_callee (f := 51) rfl ?_); refine goesL_ (some 31) rfl rfl Tryd.func51 (by kernel_rfl) rfl #[.string a0, .int .i64 ji27] rfl (by (try simp only [List.map_toArray, List.map_cons, List.map_nil]); first | done | (simp only [hji27]; rfl) | rfl | (simp only [List.length_drop, List.length_take]; rfl)) ?_; (with_reducible refine (spec_l2Number.calls a0 ji27 t200002 _ A10.out).mono ?_); rintro e w' ⟨rfl, ⟨nd, rfl⟩⟩; refine ⟨_, rfl, ?_⟩; (try (rw [drewN_self wc]; generalize hq_ : World.drewN wc _ = wc; have n0_ : Aside0 (wc.heap[gb200001]? = some (.cells #[.int .i64 0, .string (⟨#[]⟩ : ByteArray), .int .i64 0, .string (⟨#[]⟩ : ByteArray), .int .i64 0] 43 (0, 0))) := ⟨by rw [← hq_]; exact (by (with_reducible repeat (first | refine blk_drewN ?_ _ | refine blk_drew ?_ | refine blk_alloc ?_ _)); exact BK200001.out)⟩; have n1_ : Aside0 (Below w.heap.size w wc) := ⟨by rw [← hq_]; exact (by repeat (first | (with_reducible first | exact HB.out | apply below_alloc | apply pw_below_drewN | apply below_drew1 | refine below_set ?_ GE200001.out) | exact HB.out))⟩; clear BK200001 HB hq_; have BK200001 := n0_; have HB := n1_; clear n0_ n1_)); have p14 : 0 ≤ ((ji11) : Int) := of_decide_eq_true (by first | (with_reducible assumption) | assumption); have q14 : (ji11) < (a0.size : Int) := of_decide_eq_true (by first | (with_reducible assumption) | assumption); have hx14 := bt_at a0 (ji11); replace p14 := eq_true p14; replace q14 := eq_true q14; have p19 : 0 ≤ ((ji16) : Int) := of_decide_eq_true (by first | (with_reducible assumption) | assumption); have q19 : (ji16) < (a0.size : Int) := of_decide_eq_true (by first | (with_reducible assumption) | assumption); have hx19 := bt_at a0 (ji16); replace p19 := eq_true p19; replace q19 := eq_true q19))
                                    have n0_ := Aside0.mk (blk_drew BK200001.out)
                                    have n1_ := Aside0.mk (below_drew1 HB.out)
                                    clear BK200001
                                    clear HB
                                    have BK200001 := n0_
                                    have HB := n1_
                                    clear n0_ n1_
                                    refine start_ (n := 9) (S := fun w' => True) (ds := []) #[false, false, false, false, false, false, false, false, false] (by kernel_rfl) rfl rfl trivial (fun hHeld => ?_); refine with_tabW spec_ReadRecord.tab12 spec_ReadRecord.bits12 (fun HT_ HW_ => ?_)
                                    generalize wc.drew = w32 at BK200001 HB hHeld ⊢
                                    refine pure_ (i := 0) (N := some 53) (v := ?_) (a' := ?_) #[true, false, false, false, false, false, false, false, false] rfl rfl (any_of HT_.out (by kernel_rfl)) (fun _ _ _ h => h) (Or.inl ⟨by rfl, ?_⟩) ?_ ?_
                                    rotate_left
                                    · intro w'
                                      go_simp
                                      with_reducible rfl
                                    rotate_left
                                    · simp only [Act.put, List.setIfInBounds_toArray, List.set_cons_zero, List.set_cons_succ, i64_w, i32_w]
                                      rfl
                                    refine pure_ (i := 1) (N := some 54) (v := ?_) (a' := ?_) #[true, true, false, false, false, false, false, false, false] rfl rfl (any_of HT_.out (by kernel_rfl)) (fun _ _ _ h => h) (Or.inl ⟨by rfl, ?_⟩) ?_ ?_
                                    rotate_left
                                    · intro w'
                                      go_simp
                                      with_reducible rfl
                                    rotate_left
                                    · simp only [Act.put, List.setIfInBounds_toArray, List.set_cons_zero, List.set_cons_succ, i64_w, i32_w]
                                      rfl
                                    refine pure_ (i := 3) (N := some 56) (v := ?_) (a' := ?_) #[true, true, false, true, false, false, false, false, false] rfl rfl (any_of HT_.out (by kernel_rfl)) (fun _ _ _ h => h) (Or.inl ⟨by rfl, ?_⟩) ?_ ?_
                                    rotate_left
                                    · intro w'
                                      go_simp
                                      with_reducible rfl
                                    rotate_left
                                    · simp only [Act.put, List.setIfInBounds_toArray, List.set_cons_zero, List.set_cons_succ, i64_w, i32_w]
                                      rfl
                                    refine pure_ (i := 4) (N := some 57) (v := ?_) (a' := ?_) #[true, true, false, true, true, false, false, false, false] rfl rfl (any_of HT_.out (by kernel_rfl)) (fun _ _ _ h => h) (Or.inl ⟨by rfl, ?_⟩) ?_ ?_
                                    rotate_left
                                    · intro w'
                                      go_simp
                                      with_reducible rfl
                                    rotate_left
                                    · simp only [Act.put, List.setIfInBounds_toArray, List.set_cons_zero, List.set_cons_succ, i64_w, i32_w]
                                      rfl
                                    refine pure_ (i := 5) (N := some 58) (v := ?_) (a' := ?_) #[true, true, false, true, true, true, false, false, false] rfl rfl (any_of HT_.out (by kernel_rfl)) (fun _ _ _ h => h) (Or.inl ⟨by rfl, ?_⟩) ?_ ?_
                                    rotate_left
                                    · intro w'
                                      go_simp
                                      with_reducible rfl
                                    rotate_left
                                    · simp only [Act.put, List.setIfInBounds_toArray, List.set_cons_zero, List.set_cons_succ, i64_w, i32_w]
                                      rfl
                                    refine pure_ (i := 6) (N := some 59) (v := ?_) (a' := ?_) #[true, true, false, true, true, true, true, false, false] rfl rfl (any_of HT_.out (by kernel_rfl)) (fun _ _ _ h => h) (Or.inl ⟨by rfl, ?_⟩) ?_ ?_
                                    rotate_left
                                    · intro w'
                                      go_simp
                                      with_reducible rfl
                                    rotate_left
                                    · simp only [Act.put, List.setIfInBounds_toArray, List.set_cons_zero, List.set_cons_succ, i64_w, i32_w]
                                      rfl
                                    refine pure_ (i := 7) (N := some 60) (v := ?_) (a' := ?_) #[true, true, false, true, true, true, true, true, false] rfl rfl (any_of HT_.out (by kernel_rfl)) (fun _ _ _ h => h) (Or.inl ⟨by rfl, ?_⟩) ?_ ?_
                                    rotate_left
                                    · intro w'
                                      go_simp
                                      with_reducible rfl
                                    rotate_left
                                    · simp only [Act.put, List.setIfInBounds_toArray, List.set_cons_zero, List.set_cons_succ, i64_w, i32_w]
                                      rfl
                                    refine one_ (i := 2) (N := some 55) #[true, true, true, true, true, true, true, true, false] rfl rfl (one_of HT_.out (by kernel_rfl)) (by decide) (fun K hK => ?_)
                                    refine goes_ Tryd.func52 (by kernel_rfl) rfl #[.int .i64 t200002, .string (a0.extract ((ji22) : Int).toNat ((wrap64 ((ji22) + (wrap64 (bt a0 (ji16))))) : Int).toNat)] (by rfl) rfl rfl (by (try simp only [List.map_toArray, List.map_cons, List.map_nil]); first | done | (simp only [hji16, hji22]; rfl) | rfl | (simp only [List.length_drop, List.length_take]; rfl)) ?_
                                    with_reducible refine (spec_CommitRecord.calls kj2 t200002 (a0.extract ((ji22) : Int).toNat ((wrap64 ((ji22) + (wrap64 (bt a0 (ji16))))) : Int).toNat) t200003 _ A26.out).mono ?_
                                    rintro e w33 ⟨rfl, hb⟩
                                    refine ⟨_, rfl, ?_⟩
                                    have n0_ := Aside0.mk (blk_below (g := gb200001) (o := .cells #[.int .i64 0, .string (⟨#[]⟩ : ByteArray), .int .i64 0, .string (⟨#[]⟩ : ByteArray), .int .i64 0] 43 (0, 0)) (by (with_reducible repeat (first | refine blk_drewN ?_ _ | refine blk_drew ?_ | refine blk_alloc ?_ _)); exact BK200001.out) hb)
                                    have n1_ := Aside0.mk (below_step (by repeat (first | (with_reducible first | exact HB.out | apply below_alloc | apply pw_below_drewN | apply below_drew1 | refine below_set ?_ GE200001.out) | exact HB.out)) hb)
                                    clear BK200001
                                    clear HB
                                    have BK200001 := n0_
                                    have HB := n1_
                                    clear n0_ n1_
                                    (try clear hb)
                                    (try clear hb2)
                                    (try clear hk)
                                    (try clear hi)
                                    refine hK.out _ _ trivial (fun hHeld => ?_)
                                    clear hK K
                                    refine norm_ (a' := ?_) ?_ ?_
                                    rotate_left
                                    · show Act.put _ (some 55) _ = _
                                      simp only [Act.put, List.setIfInBounds_toArray, List.set_cons_zero, List.set_cons_succ, i64_w, i32_w]
                                      rfl
                                    refine pure_ (i := 8) (N := some 61) (v := ?_) (a' := ?_) #[true, true, true, true, true, true, true, true, true] rfl rfl (any_of HT_.out (by kernel_rfl)) (fun _ _ _ h => h) (Or.inl ⟨by rfl, ?_⟩) ?_ ?_
                                    rotate_left
                                    · intro w'
                                      go_simp
                                      with_reducible rfl
                                    rotate_left
                                    · simp only [Act.put, List.setIfInBounds_toArray, List.set_cons_zero, List.set_cons_succ, i64_w, i32_w]
                                      rfl
                                    refine done_ (done_of HT_.out (by kernel_rfl)) ?_
                                    have hcz34_0 : w33.cell? ⟨gb200001, 0, none⟩ = some (.int .i64 0) := (blk_cell BK200001.out 0).trans rfl
                                    have hcz34_1 : w33.cell? ⟨gb200001, 1, none⟩ = some (.string (⟨#[]⟩ : ByteArray)) := (blk_cell BK200001.out 1).trans rfl
                                    have hcz34_2 : w33.cell? ⟨gb200001, 2, none⟩ = some (.int .i64 0) := (blk_cell BK200001.out 2).trans rfl
                                    have hcz34_3 : w33.cell? ⟨gb200001, 3, none⟩ = some (.string (⟨#[]⟩ : ByteArray)) := (blk_cell BK200001.out 3).trans rfl
                                    have hcz34_4 : w33.cell? ⟨gb200001, 4, none⟩ = some (.int .i64 0) := (blk_cell BK200001.out 4).trans rfl
                                    have hfz34_0 := blk_frozen BK200001.out 0
                                    have hfz34_1 := blk_frozen BK200001.out 1
                                    have hfz34_2 := blk_frozen BK200001.out 2
                                    have hfz34_3 := blk_frozen BK200001.out 3
                                    have hfz34_4 := blk_frozen BK200001.out 4
                                    try go_wp2
                                    refine bodyPost_ret (results_cell_row rfl _ _ gb200001 43 #[.int .i64 2, .string (⟨#[]⟩ : ByteArray), .int .i64 t200002, .string (a0.extract ((ji22) : Int).toNat ((wrap64 ((ji22) + (wrap64 (bt a0 (ji16))))) : Int).toNat), .int .i64 (wrap64 (a1 + 1))] (0, 0) _ rfl (by (with_reducible repeat (first | refine blk_drewN ?_ _ | refine blk_drew ?_ | refine blk_alloc ?_ _)); refine blk_put (cs := #[.int .i64 2, .string (⟨#[]⟩ : ByteArray), .int .i64 t200002, .string (a0.extract ((ji22) : Int).toNat ((wrap64 ((ji22) + (wrap64 (bt a0 (ji16))))) : Int).toNat), .int .i64 0]) ?_ 4 _ rfl; (with_reducible repeat (first | refine blk_drewN ?_ _ | refine blk_drew ?_ | refine blk_alloc ?_ _)); refine blk_put (cs := #[.int .i64 2, .string (⟨#[]⟩ : ByteArray), .int .i64 t200002, .string (⟨#[]⟩ : ByteArray), .int .i64 0]) ?_ 3 _ rfl; (with_reducible repeat (first | refine blk_drewN ?_ _ | refine blk_drew ?_ | refine blk_alloc ?_ _)); refine blk_put (cs := #[.int .i64 2, .string (⟨#[]⟩ : ByteArray), .int .i64 0, .string (⟨#[]⟩ : ByteArray), .int .i64 0]) ?_ 2 _ rfl; (with_reducible repeat (first | refine blk_drewN ?_ _ | refine blk_drew ?_ | refine blk_alloc ?_ _)); refine blk_put (cs := #[.int .i64 2, .string (⟨#[]⟩ : ByteArray), .int .i64 0, .string (⟨#[]⟩ : ByteArray), .int .i64 0]) ?_ 1 _ rfl; (with_reducible repeat (first | refine blk_drewN ?_ _ | refine blk_drew ?_ | refine blk_alloc ?_ _)); refine blk_put (cs := #[.int .i64 0, .string (⟨#[]⟩ : ByteArray), .int .i64 0, .string (⟨#[]⟩ : ByteArray), .int .i64 0]) ?_ 0 _ rfl; (with_reducible repeat (first | refine blk_drewN ?_ _ | refine blk_drew ?_ | refine blk_alloc ?_ _)); exact BK200001.out) Tryd.underlying43 rfl (by kernel_rfl)) rfl ?_
                                    exact ⟨by first | rfl | (simp [errW_none, errW_some] <;> rfl) | (simp only [← hji11, ← hji16, ← hji22, ← hji27]; first | rfl | (simp [errW_none, errW_some] <;> rfl)) | (simp [*, errW_none, errW_some] <;> rfl), by repeat (first | (with_reducible first | exact HB.out | apply below_alloc | apply pw_below_drewN | apply below_drew1 | refine below_set ?_ GE200001.out) | exact HB.out)⟩
                                  · rw [if_neg c31] at H
                                    have c31b0 : (t200003.toList == (a0.extract ((ji27) : Int).toNat ((wrap64 ((ji27) + 64)) : Int).toNat).toList) = false := beq_eq_false_iff_ne.mpr c31
                                    have c31b1 : (t200003.toList != (a0.extract ((ji27) : Int).toNat ((wrap64 ((ji27) + 64)) : Int).toNat).toList) = true := bne_iff_ne.mpr c31
                                    simp only [Option.some.injEq, Prod.mk.injEq] at H
                                    obtain ⟨rfl, rfl, rfl, rfl, rfl⟩ := H
                                    try go_wp2_with (first | ((with_reducible refine gate_callee (f := 51) rfl ?_); refine goesL_ (some 31) rfl rfl Tryd.func51 (by kernel_rfl) rfl #[.string a0, .int .i64 ji27] rfl (by (try simp only [List.map_toArray, List.map_cons, List.map_nil]); first | done | (simp only [hji27]; rfl) | rfl | (simp only [List.length_drop, List.length_take]; rfl)) ?_; (with_reducible refine (spec_l2Number.calls a0 ji27 t200002 _ A10.out).mono ?_); rintro e w' ⟨rfl, ⟨nd, rfl⟩⟩; refine ⟨_, rfl, ?_⟩; (try (rw [drewN_self wc]; generalize hq_ : World.drewN wc _ = wc; have n0_ : Aside0 (wc.heap[gb200001]? = some (.cells #[.int .i64 0, .string (⟨#[]⟩ : ByteArray), .int .i64 0, .string (⟨#[]⟩ : ByteArray), .int .i64 0] 43 (0, 0))) := ⟨by rw [← hq_]; exact (by (with_reducible repeat (first | refine blk_drewN ?_ _ | refine blk_drew ?_ | refine blk_alloc ?_ _)); exact BK200001.out)⟩; have n1_ : Aside0 (Below w.heap.size w wc) := ⟨by rw [← hq_]; exact (by repeat (first | (with_reducible first | exact HB.out | apply below_alloc | apply pw_below_drewN | apply below_drew1 | refine below_set ?_ GE200001.out) | exact HB.out))⟩; clear BK200001 HB hq_; have BK200001 := n0_; have HB := n1_; clear n0_ n1_)); have p14 : 0 ≤ ((ji11) : Int) := of_decide_eq_true (by first | (with_reducible assumption) | assumption); have q14 : (ji11) < (a0.size : Int) := of_decide_eq_true (by first | (with_reducible assumption) | assumption); have hx14 := bt_at a0 (ji11); replace p14 := eq_true p14; replace q14 := eq_true q14; have p19 : 0 ≤ ((ji16) : Int) := of_decide_eq_true (by first | (with_reducible assumption) | assumption); have q19 : (ji16) < (a0.size : Int) := of_decide_eq_true (by first | (with_reducible assumption) | assumption); have hx19 := bt_at a0 (ji16); replace p19 := eq_true p19; replace q19 := eq_true q19))
                                    have n0_ := Aside0.mk (blk_drew BK200001.out)
                                    have n1_ := Aside0.mk (below_drew1 HB.out)
                                    clear BK200001
                                    clear HB
                                    have BK200001 := n0_
                                    have HB := n1_
                                    clear n0_ n1_
                                    refine start_ (n := 9) (S := fun w' => True) (ds := []) #[false, false, false, false, false, false, false, false, false] (by kernel_rfl) rfl rfl trivial (fun hHeld => ?_); refine with_tabW spec_ReadRecord.tab12 spec_ReadRecord.bits12 (fun HT_ HW_ => ?_)
                                    generalize wc.drew = w35 at BK200001 HB hHeld ⊢
                                    refine pure_ (i := 0) (N := some 53) (v := ?_) (a' := ?_) #[true, false, false, false, false, false, false, false, false] rfl rfl (any_of HT_.out (by kernel_rfl)) (fun _ _ _ h => h) (Or.inl ⟨by rfl, ?_⟩) ?_ ?_
                                    rotate_left
                                    · intro w'
                                      go_simp
                                      with_reducible rfl
                                    rotate_left
                                    · simp only [Act.put, List.setIfInBounds_toArray, List.set_cons_zero, List.set_cons_succ, i64_w, i32_w]
                                      rfl
                                    refine pure_ (i := 1) (N := some 54) (v := ?_) (a' := ?_) #[true, true, false, false, false, false, false, false, false] rfl rfl (any_of HT_.out (by kernel_rfl)) (fun _ _ _ h => h) (Or.inl ⟨by rfl, ?_⟩) ?_ ?_
                                    rotate_left
                                    · intro w'
                                      go_simp
                                      with_reducible rfl
                                    rotate_left
                                    · simp only [Act.put, List.setIfInBounds_toArray, List.set_cons_zero, List.set_cons_succ, i64_w, i32_w]
                                      rfl
                                    refine pure_ (i := 3) (N := some 56) (v := ?_) (a' := ?_) #[true, true, false, true, false, false, false, false, false] rfl rfl (any_of HT_.out (by kernel_rfl)) (fun _ _ _ h => h) (Or.inl ⟨by rfl, ?_⟩) ?_ ?_
                                    rotate_left
                                    · intro w'
                                      go_simp
                                      with_reducible rfl
                                    rotate_left
                                    · simp only [Act.put, List.setIfInBounds_toArray, List.set_cons_zero, List.set_cons_succ, i64_w, i32_w]
                                      rfl
                                    refine pure_ (i := 4) (N := some 57) (v := ?_) (a' := ?_) #[true, true, false, true, true, false, false, false, false] rfl rfl (any_of HT_.out (by kernel_rfl)) (fun _ _ _ h => h) (Or.inl ⟨by rfl, ?_⟩) ?_ ?_
                                    rotate_left
                                    · intro w'
                                      go_simp
                                      with_reducible rfl
                                    rotate_left
                                    · simp only [Act.put, List.setIfInBounds_toArray, List.set_cons_zero, List.set_cons_succ, i64_w, i32_w]
                                      rfl
                                    refine pure_ (i := 5) (N := some 58) (v := ?_) (a' := ?_) #[true, true, false, true, true, true, false, false, false] rfl rfl (any_of HT_.out (by kernel_rfl)) (fun _ _ _ h => h) (Or.inl ⟨by rfl, ?_⟩) ?_ ?_
                                    rotate_left
                                    · intro w'
                                      go_simp
                                      with_reducible rfl
                                    rotate_left
                                    · simp only [Act.put, List.setIfInBounds_toArray, List.set_cons_zero, List.set_cons_succ, i64_w, i32_w]
                                      rfl
                                    refine pure_ (i := 6) (N := some 59) (v := ?_) (a' := ?_) #[true, true, false, true, true, true, true, false, false] rfl rfl (any_of HT_.out (by kernel_rfl)) (fun _ _ _ h => h) (Or.inl ⟨by rfl, ?_⟩) ?_ ?_
                                    rotate_left
                                    · intro w'
                                      go_simp
                                      with_reducible rfl
                                    rotate_left
                                    · simp only [Act.put, List.setIfInBounds_toArray, List.set_cons_zero, List.set_cons_succ, i64_w, i32_w]
                                      rfl
                                    refine pure_ (i := 7) (N := some 60) (v := ?_) (a' := ?_) #[true, true, false, true, true, true, true, true, false] rfl rfl (any_of HT_.out (by kernel_rfl)) (fun _ _ _ h => h) (Or.inl ⟨by rfl, ?_⟩) ?_ ?_
                                    rotate_left
                                    · intro w'
                                      go_simp
                                      with_reducible rfl
                                    rotate_left
                                    · simp only [Act.put, List.setIfInBounds_toArray, List.set_cons_zero, List.set_cons_succ, i64_w, i32_w]
                                      rfl
                                    refine one_ (i := 2) (N := some 55) #[true, true, true, true, true, true, true, true, false] rfl rfl (one_of HT_.out (by kernel_rfl)) (by decide) (fun K hK => ?_)
                                    refine goes_ Tryd.func52 (by kernel_rfl) rfl #[.int .i64 t200002, .string (a0.extract ((ji22) : Int).toNat ((wrap64 ((ji22) + (wrap64 (bt a0 (ji16))))) : Int).toNat)] (by rfl) rfl rfl (by (try simp only [List.map_toArray, List.map_cons, List.map_nil]); first | done | (simp only [hji16, hji22]; rfl) | rfl | (simp only [List.length_drop, List.length_take]; rfl)) ?_
                                    with_reducible refine (spec_CommitRecord.calls kj2 t200002 (a0.extract ((ji22) : Int).toNat ((wrap64 ((ji22) + (wrap64 (bt a0 (ji16))))) : Int).toNat) t200003 _ A26.out).mono ?_
                                    rintro e w36 ⟨rfl, hb⟩
                                    refine ⟨_, rfl, ?_⟩
                                    have n0_ := Aside0.mk (blk_below (g := gb200001) (o := .cells #[.int .i64 0, .string (⟨#[]⟩ : ByteArray), .int .i64 0, .string (⟨#[]⟩ : ByteArray), .int .i64 0] 43 (0, 0)) (by (with_reducible repeat (first | refine blk_drewN ?_ _ | refine blk_drew ?_ | refine blk_alloc ?_ _)); exact BK200001.out) hb)
                                    have n1_ := Aside0.mk (below_step (by repeat (first | (with_reducible first | exact HB.out | apply below_alloc | apply pw_below_drewN | apply below_drew1 | refine below_set ?_ GE200001.out) | exact HB.out)) hb)
                                    clear BK200001
                                    clear HB
                                    have BK200001 := n0_
                                    have HB := n1_
                                    clear n0_ n1_
                                    (try clear hb)
                                    (try clear hb2)
                                    (try clear hk)
                                    (try clear hi)
                                    refine hK.out _ _ trivial (fun hHeld => ?_)
                                    clear hK K
                                    refine norm_ (a' := ?_) ?_ ?_
                                    rotate_left
                                    · show Act.put _ (some 55) _ = _
                                      simp only [Act.put, List.setIfInBounds_toArray, List.set_cons_zero, List.set_cons_succ, i64_w, i32_w]
                                      rfl
                                    refine pure_ (i := 8) (N := some 61) (v := ?_) (a' := ?_) #[true, true, true, true, true, true, true, true, true] rfl rfl (any_of HT_.out (by kernel_rfl)) (fun _ _ _ h => h) (Or.inl ⟨by rfl, ?_⟩) ?_ ?_
                                    rotate_left
                                    · intro w'
                                      go_simp
                                      with_reducible rfl
                                    rotate_left
                                    · simp only [Act.put, List.setIfInBounds_toArray, List.set_cons_zero, List.set_cons_succ, i64_w, i32_w]
                                      rfl
                                    refine done_ (done_of HT_.out (by kernel_rfl)) ?_
                                    have hcz37_0 : w36.cell? ⟨gb200001, 0, none⟩ = some (.int .i64 0) := (blk_cell BK200001.out 0).trans rfl
                                    have hcz37_1 : w36.cell? ⟨gb200001, 1, none⟩ = some (.string (⟨#[]⟩ : ByteArray)) := (blk_cell BK200001.out 1).trans rfl
                                    have hcz37_2 : w36.cell? ⟨gb200001, 2, none⟩ = some (.int .i64 0) := (blk_cell BK200001.out 2).trans rfl
                                    have hcz37_3 : w36.cell? ⟨gb200001, 3, none⟩ = some (.string (⟨#[]⟩ : ByteArray)) := (blk_cell BK200001.out 3).trans rfl
                                    have hcz37_4 : w36.cell? ⟨gb200001, 4, none⟩ = some (.int .i64 0) := (blk_cell BK200001.out 4).trans rfl
                                    have hfz37_0 := blk_frozen BK200001.out 0
                                    have hfz37_1 := blk_frozen BK200001.out 1
                                    have hfz37_2 := blk_frozen BK200001.out 2
                                    have hfz37_3 := blk_frozen BK200001.out 3
                                    have hfz37_4 := blk_frozen BK200001.out 4
                                    try go_wp2
                                    refine bodyPost_ret (results_cell_row rfl _ _ gb200001 43 #[.int .i64 0, .string (⟨#[]⟩ : ByteArray), .int .i64 0, .string (⟨#[]⟩ : ByteArray), .int .i64 0] (0, 0) _ rfl (by (with_reducible repeat (first | refine blk_drewN ?_ _ | refine blk_drew ?_ | refine blk_alloc ?_ _)); refine blk_put (cs := #[.int .i64 0, .string (⟨#[]⟩ : ByteArray), .int .i64 0, .string (⟨#[]⟩ : ByteArray), .int .i64 0]) ?_ 4 _ rfl; (with_reducible repeat (first | refine blk_drewN ?_ _ | refine blk_drew ?_ | refine blk_alloc ?_ _)); refine blk_put (cs := #[.int .i64 0, .string (⟨#[]⟩ : ByteArray), .int .i64 0, .string (⟨#[]⟩ : ByteArray), .int .i64 0]) ?_ 3 _ rfl; (with_reducible repeat (first | refine blk_drewN ?_ _ | refine blk_drew ?_ | refine blk_alloc ?_ _)); refine blk_put (cs := #[.int .i64 0, .string (⟨#[]⟩ : ByteArray), .int .i64 0, .string (⟨#[]⟩ : ByteArray), .int .i64 0]) ?_ 2 _ rfl; (with_reducible repeat (first | refine blk_drewN ?_ _ | refine blk_drew ?_ | refine blk_alloc ?_ _)); refine blk_put (cs := #[.int .i64 0, .string (⟨#[]⟩ : ByteArray), .int .i64 0, .string (⟨#[]⟩ : ByteArray), .int .i64 0]) ?_ 1 _ rfl; (with_reducible repeat (first | refine blk_drewN ?_ _ | refine blk_drew ?_ | refine blk_alloc ?_ _)); refine blk_put (cs := #[.int .i64 0, .string (⟨#[]⟩ : ByteArray), .int .i64 0, .string (⟨#[]⟩ : ByteArray), .int .i64 0]) ?_ 0 _ rfl; (with_reducible repeat (first | refine blk_drewN ?_ _ | refine blk_drew ?_ | refine blk_alloc ?_ _)); exact BK200001.out) Tryd.underlying43 rfl (by kernel_rfl)) rfl ?_
                                    exact ⟨by first | rfl | (simp [errW_none, errW_some] <;> rfl) | (simp only [← hji11, ← hji16, ← hji22, ← hji27]; first | rfl | (simp [errW_none, errW_some] <;> rfl)) | (simp [*, errW_none, errW_some] <;> rfl), by repeat (first | (with_reducible first | exact HB.out | apply below_alloc | apply pw_below_drewN | apply below_drew1 | refine below_set ?_ GE200001.out) | exact HB.out)⟩
                                · rw [if_neg c30] at H
                                  exact absurd H (by simp)
                              · rw [if_neg c29] at H
                                exact absurd H (by simp)
                            · rw [if_neg c28] at H
                              exact absurd H (by simp)
                          · rw [if_neg c25] at H
                            exact absurd H (by simp)
                        · rw [if_neg c24] at H
                          exact absurd H (by simp)
                      · rw [if_neg c23] at H
                        exact absurd H (by simp)
                  · rw [if_neg c18] at H
                    exact absurd H (by simp)
                · rw [if_neg c17] at H
                  exact absurd H (by simp)
              · rw [if_neg c15] at H
                have c15b0 : ((bt a0 (ji11)) == 67) = false := beq_eq_false_iff_ne.mpr c15
                have c15b1 : ((bt a0 (ji11)) != 67) = true := bne_iff_ne.mpr c15
                have HC38 := Aside0.mk H
                clear H
                go_upto_region 15 with (first | ((with_reducible refine gate_callee (f := 51) rfl ?_); refine goesL_ (some 31) rfl rfl Tryd.func51 (by kernel_rfl) rfl #[.string a0, .int .i64 (wrap64 (a1 * 64))] rfl (by (try simp only [List.map_toArray, List.map_cons, List.map_nil]); first | done | rfl | (simp only [List.length_drop, List.length_take]; rfl)) ?_; (with_reducible refine (spec_l2Number.calls a0 (wrap64 (a1 * 64)) t200002 _ A10.out).mono ?_); rintro e w' ⟨rfl, ⟨nd, rfl⟩⟩; refine ⟨_, rfl, ?_⟩; have p14 : 0 ≤ ((ji11) : Int) := of_decide_eq_true (by first | (with_reducible assumption) | assumption); have q14 : (ji11) < (a0.size : Int) := of_decide_eq_true (by first | (with_reducible assumption) | assumption); have hx14 := bt_at a0 (ji11); replace p14 := eq_true p14; replace q14 := eq_true q14))
                (try simp only [Act.put, List.setIfInBounds_toArray, List.set_cons_zero, List.set_cons_succ])
                go_cut [73] (fun v73 wc => ∃ (kq : Nat) (x73_37 : Bool), v73 = .bool x73_37 ∧ Aside0 (spec_ReadRecord.j1 kq a0 a1 (wrap64 (a1 * 64)) t200002 x73_37 = some (r1, r2, r3, r4, r5)) ∧ Aside0 (kq ≤ kj2) ∧ Aside0 (wc.heap[gb200001]? = some (.cells #[.int .i64 0, .string (⟨#[]⟩ : ByteArray), .int .i64 0, .string (⟨#[]⟩ : ByteArray), .int .i64 0] 43 (0, 0))) ∧ Aside0 (Below w.heap.size w wc))
                case first =>
                  have H := HC38.out
                  clear HC38
                  by_cases c39 : t200002 < 1
                  · rw [if_pos c39] at H
                    have c39b0 : decide (t200002 < 1) = true := decide_eq_true c39
                    clear c39
                    (first | rw [c39b0] | (simp only [i64_w, i32_w]; rw [c39b0]) | skip)
                    have H' := Aside0.mk H
                    clear H
                    go_wp2
                    go_meet
                    case rel => exact ⟨_, (true), (by first | rfl | (simp; done) | (simp [*]; done)), H', ⟨by have := HJ2.out; first | omega | exact Nat.le_refl _⟩, ⟨by (with_reducible repeat (first | refine blk_drewN ?_ _ | refine blk_drew ?_ | refine blk_alloc ?_ _)); exact BK200001.out⟩, ⟨by repeat (first | (with_reducible first | exact HB.out | apply below_alloc | apply pw_below_drewN | apply below_drew1 | refine below_set ?_ GE200001.out) | exact HB.out)⟩⟩
                  · rw [if_neg c39] at H
                    have c39b0 : decide (t200002 < 1) = false := decide_eq_false c39
                    clear c39
                    (first | rw [c39b0] | (simp only [i64_w, i32_w]; rw [c39b0]) | skip)
                    have H' := Aside0.mk H
                    clear H
                    go_wp2
                    go_meet
                    case rel => exact ⟨_, (decide (t200002 > 4000)), (by first | rfl | (simp; done) | (simp [*]; done)), H', ⟨by have := HJ2.out; first | omega | exact Nat.le_refl _⟩, ⟨by (with_reducible repeat (first | refine blk_drewN ?_ _ | refine blk_drew ?_ | refine blk_alloc ?_ _)); exact BK200001.out⟩, ⟨by repeat (first | (with_reducible first | exact HB.out | apply below_alloc | apply pw_below_drewN | apply below_drew1 | refine below_set ?_ GE200001.out) | exact HB.out)⟩⟩
                case rest =>
                  clear HC38
                  try clear c1
                  try clear p1
                  try clear q1
                  try clear hx1
                  try clear c2
                  try clear p2
                  try clear c3
                  try clear c5
                  try clear c5b0
                  try clear c6
                  try clear p6
                  try clear c8
                  try clear c8b0
                  try clear c12
                  try clear c12b0
                  try clear c13
                  try clear c13b0
                  try clear p14
                  try clear q14
                  try clear hx14
                  try clear c15
                  try clear c15b0
                  try clear c15b1
                  try clear c17
                  try clear c17b0
                  try clear c18
                  try clear c18b0
                  try clear p19
                  try clear q19
                  try clear hx19
                  try clear c20
                  try clear c20b0
                  try clear c23
                  try clear c23b0
                  try clear c23b1
                  try clear c24
                  try clear c24b0
                  try clear c24b1
                  try clear c25
                  try clear c25b0
                  try clear c25b1
                  try clear c28
                  try clear c28b0
                  try clear c28b1
                  try clear c29
                  try clear c29b0
                  try clear c29b1
                  try clear c30
                  try clear c30b0
                  try clear c30b1
                  try clear c31
                  try clear c31b0
                  try clear c31b1
                  try clear c39
                  try clear c39b0
                  try clear hcz21_0
                  try clear hcz21_1
                  try clear hcz21_2
                  try clear hcz21_3
                  try clear hcz21_4
                  try clear hcz34_0
                  try clear hcz34_1
                  try clear hcz34_2
                  try clear hcz34_3
                  try clear hcz34_4
                  try clear hcz37_0
                  try clear hcz37_1
                  try clear hcz37_2
                  try clear hcz37_3
                  try clear hcz37_4
                  try clear hcz7_0
                  try clear hcz7_1
                  try clear hcz7_2
                  try clear hcz7_3
                  try clear hcz7_4
                  try clear hcz9_0
                  try clear hcz9_1
                  try clear hcz9_2
                  try clear hcz9_3
                  try clear hcz9_4
                  try clear hfz21_0
                  try clear hfz21_1
                  try clear hfz21_2
                  try clear hfz21_3
                  try clear hfz21_4
                  try clear hfz34_0
                  try clear hfz34_1
                  try clear hfz34_2
                  try clear hfz34_3
                  try clear hfz34_4
                  try clear hfz37_0
                  try clear hfz37_1
                  try clear hfz37_2
                  try clear hfz37_3
                  try clear hfz37_4
                  try clear hfz7_0
                  try clear hfz7_1
                  try clear hfz7_2
                  try clear hfz7_3
                  try clear hfz7_4
                  try clear hfz9_0
                  try clear hfz9_1
                  try clear hfz9_2
                  try clear hfz9_3
                  try clear hfz9_4
                  try clear p14
                  try clear p19
                  try clear p2
                  try clear q14
                  try clear q19
                  obtain ⟨kq, x73_37, rfl, HA, HJ37, BK200001, HB⟩ := hcut
                  cases kq with
                  | zero => exact absurd HA.out (by simp [spec_ReadRecord.j1])
                  | succ kj37 =>
                    have H := HA.out
                    clear HA
                    simp only [spec_ReadRecord.j1] at H
                    by_cases c40 : x73_37 = true
                    · subst c40
                      have H1 : (some (0, (⟨#[]⟩ : ByteArray), 0, (⟨#[]⟩ : ByteArray), 0)) = some (r1, r2, r3, r4, r5) := by rw [if_pos rfl] at H; exact H
                      clear H
                      have H := H1
                      clear H1
                      simp only [Option.some.injEq, Prod.mk.injEq] at H
                      obtain ⟨rfl, rfl, rfl, rfl, rfl⟩ := H
                      have hcz41_0 : wc.cell? ⟨gb200001, 0, none⟩ = some (.int .i64 0) := (blk_cell BK200001.out 0).trans rfl
                      have hcz41_1 : wc.cell? ⟨gb200001, 1, none⟩ = some (.string (⟨#[]⟩ : ByteArray)) := (blk_cell BK200001.out 1).trans rfl
                      have hcz41_2 : wc.cell? ⟨gb200001, 2, none⟩ = some (.int .i64 0) := (blk_cell BK200001.out 2).trans rfl
                      have hcz41_3 : wc.cell? ⟨gb200001, 3, none⟩ = some (.string (⟨#[]⟩ : ByteArray)) := (blk_cell BK200001.out 3).trans rfl
                      have hcz41_4 : wc.cell? ⟨gb200001, 4, none⟩ = some (.int .i64 0) := (blk_cell BK200001.out 4).trans rfl
                      have hfz41_0 := blk_frozen BK200001.out 0
                      have hfz41_1 := blk_frozen BK200001.out 1
                      have hfz41_2 := blk_frozen BK200001.out 2
                      have hfz41_3 := blk_frozen BK200001.out 3
                      have hfz41_4 := blk_frozen BK200001.out 4
                      go_wp2
                      refine bodyPost_ret (results_cell_row rfl _ _ gb200001 43 #[.int .i64 0, .string (⟨#[]⟩ : ByteArray), .int .i64 0, .string (⟨#[]⟩ : ByteArray), .int .i64 0] (0, 0) _ rfl (by (with_reducible repeat (first | refine blk_drewN ?_ _ | refine blk_drew ?_ | refine blk_alloc ?_ _)); refine blk_put (cs := #[.int .i64 0, .string (⟨#[]⟩ : ByteArray), .int .i64 0, .string (⟨#[]⟩ : ByteArray), .int .i64 0]) ?_ 4 _ rfl; (with_reducible repeat (first | refine blk_drewN ?_ _ | refine blk_drew ?_ | refine blk_alloc ?_ _)); refine blk_put (cs := #[.int .i64 0, .string (⟨#[]⟩ : ByteArray), .int .i64 0, .string (⟨#[]⟩ : ByteArray), .int .i64 0]) ?_ 3 _ rfl; (with_reducible repeat (first | refine blk_drewN ?_ _ | refine blk_drew ?_ | refine blk_alloc ?_ _)); refine blk_put (cs := #[.int .i64 0, .string (⟨#[]⟩ : ByteArray), .int .i64 0, .string (⟨#[]⟩ : ByteArray), .int .i64 0]) ?_ 2 _ rfl; (with_reducible repeat (first | refine blk_drewN ?_ _ | refine blk_drew ?_ | refine blk_alloc ?_ _)); refine blk_put (cs := #[.int .i64 0, .string (⟨#[]⟩ : ByteArray), .int .i64 0, .string (⟨#[]⟩ : ByteArray), .int .i64 0]) ?_ 1 _ rfl; (with_reducible repeat (first | refine blk_drewN ?_ _ | refine blk_drew ?_ | refine blk_alloc ?_ _)); refine blk_put (cs := #[.int .i64 0, .string (⟨#[]⟩ : ByteArray), .int .i64 0, .string (⟨#[]⟩ : ByteArray), .int .i64 0]) ?_ 0 _ rfl; (with_reducible repeat (first | refine blk_drewN ?_ _ | refine blk_drew ?_ | refine blk_alloc ?_ _)); exact BK200001.out) Tryd.underlying43 rfl (by kernel_rfl)) rfl ?_
                      exact ⟨by first | rfl | (simp [errW_none, errW_some] <;> rfl) | (simp only [← hji11]; first | rfl | (simp [errW_none, errW_some] <;> rfl)) | (simp [*, errW_none, errW_some] <;> rfl), by repeat (first | (with_reducible first | exact HB.out | apply below_alloc | apply pw_below_drewN | apply below_drew1 | refine below_set ?_ GE200001.out) | exact HB.out)⟩
                    · replace c40 := Bool.eq_false_iff.mpr c40
                      subst c40
                      have H1 : (if (wrap64 ((wrap64 (a1 * 64)) + (wrap64 ((wrap64 (Int.tdiv (wrap64 ((wrap64 (t200002 + 4)) + 62)) 63)) * 64)))) > (a0.size : Int) then (some (0, (⟨#[]⟩ : ByteArray), 0, (⟨#[]⟩ : ByteArray), 0)) else ((spec_l2Unmarked.f kj37 a0 (wrap64 (a1 * 64)) (wrap64 (Int.tdiv (wrap64 ((wrap64 (t200002 + 4)) + 62)) 63))).bind fun t200004 => (if 4 ≤ (wrap64 (4 + t200002)) then (if (wrap64 (4 + t200002)) ≤ (t200004.size : Int) then ((spec_NodeRecord.f kj37 (t200004.extract 4 ((wrap64 (4 + t200002)) : Int).toNat)).bind fun t200005 => (if 0 ≤ (wrap64 (a1 * 64)) then (if (wrap64 (a1 * 64)) ≤ (wrap64 ((wrap64 (a1 * 64)) + (wrap64 ((wrap64 (Int.tdiv (wrap64 ((wrap64 (t200002 + 4)) + 62)) 63)) * 64)))) then (if (wrap64 ((wrap64 (a1 * 64)) + (wrap64 ((wrap64 (Int.tdiv (wrap64 ((wrap64 (t200002 + 4)) + 62)) 63)) * 64)))) ≤ (a0.size : Int) then (if t200005.toList = (a0.extract ((wrap64 (a1 * 64)) : Int).toNat ((wrap64 ((wrap64 (a1 * 64)) + (wrap64 ((wrap64 (Int.tdiv (wrap64 ((wrap64 (t200002 + 4)) + 62)) 63)) * 64)))) : Int).toNat).toList then (some (1, t200004.extract 4 ((wrap64 (4 + t200002)) : Int).toNat, 0, (⟨#[]⟩ : ByteArray), wrap64 (a1 + (wrap64 (Int.tdiv (wrap64 ((wrap64 (t200002 + 4)) + 62)) 63))))) else (some (0, (⟨#[]⟩ : ByteArray), 0, (⟨#[]⟩ : ByteArray), 0))) else (none)) else (none)) else (none))) else (none)) else (none)))) = some (r1, r2, r3, r4, r5) := by rw [if_neg (show ¬ (false = true) by decide)] at H; exact H
                      clear H
                      have H := H1
                      clear H1
                      by_cases c42 : (wrap64 ((wrap64 (a1 * 64)) + (wrap64 ((wrap64 (Int.tdiv (wrap64 ((wrap64 (t200002 + 4)) + 62)) 63)) * 64)))) > (a0.size : Int)
                      · rw [if_pos c42] at H
                        have c42b0 : decide ((a0.size : Int) < (wrap64 ((wrap64 (a1 * 64)) + (wrap64 ((wrap64 (Int.tdiv (wrap64 ((wrap64 (t200002 + 4)) + 62)) 63)) * 64))))) = true := decide_eq_true c42
                        clear c42
                        simp only [Option.some.injEq, Prod.mk.injEq] at H
                        obtain ⟨rfl, rfl, rfl, rfl, rfl⟩ := H
                        have hcz43_0 : wc.cell? ⟨gb200001, 0, none⟩ = some (.int .i64 0) := (blk_cell BK200001.out 0).trans rfl
                        have hcz43_1 : wc.cell? ⟨gb200001, 1, none⟩ = some (.string (⟨#[]⟩ : ByteArray)) := (blk_cell BK200001.out 1).trans rfl
                        have hcz43_2 : wc.cell? ⟨gb200001, 2, none⟩ = some (.int .i64 0) := (blk_cell BK200001.out 2).trans rfl
                        have hcz43_3 : wc.cell? ⟨gb200001, 3, none⟩ = some (.string (⟨#[]⟩ : ByteArray)) := (blk_cell BK200001.out 3).trans rfl
                        have hcz43_4 : wc.cell? ⟨gb200001, 4, none⟩ = some (.int .i64 0) := (blk_cell BK200001.out 4).trans rfl
                        have hfz43_0 := blk_frozen BK200001.out 0
                        have hfz43_1 := blk_frozen BK200001.out 1
                        have hfz43_2 := blk_frozen BK200001.out 2
                        have hfz43_3 := blk_frozen BK200001.out 3
                        have hfz43_4 := blk_frozen BK200001.out 4
                        go_wp2
                        refine bodyPost_ret (results_cell_row rfl _ _ gb200001 43 #[.int .i64 0, .string (⟨#[]⟩ : ByteArray), .int .i64 0, .string (⟨#[]⟩ : ByteArray), .int .i64 0] (0, 0) _ rfl (by (with_reducible repeat (first | refine blk_drewN ?_ _ | refine blk_drew ?_ | refine blk_alloc ?_ _)); refine blk_put (cs := #[.int .i64 0, .string (⟨#[]⟩ : ByteArray), .int .i64 0, .string (⟨#[]⟩ : ByteArray), .int .i64 0]) ?_ 4 _ rfl; (with_reducible repeat (first | refine blk_drewN ?_ _ | refine blk_drew ?_ | refine blk_alloc ?_ _)); refine blk_put (cs := #[.int .i64 0, .string (⟨#[]⟩ : ByteArray), .int .i64 0, .string (⟨#[]⟩ : ByteArray), .int .i64 0]) ?_ 3 _ rfl; (with_reducible repeat (first | refine blk_drewN ?_ _ | refine blk_drew ?_ | refine blk_alloc ?_ _)); refine blk_put (cs := #[.int .i64 0, .string (⟨#[]⟩ : ByteArray), .int .i64 0, .string (⟨#[]⟩ : ByteArray), .int .i64 0]) ?_ 2 _ rfl; (with_reducible repeat (first | refine blk_drewN ?_ _ | refine blk_drew ?_ | refine blk_alloc ?_ _)); refine blk_put (cs := #[.int .i64 0, .string (⟨#[]⟩ : ByteArray), .int .i64 0, .string (⟨#[]⟩ : ByteArray), .int .i64 0]) ?_ 1 _ rfl; (with_reducible repeat (first | refine blk_drewN ?_ _ | refine blk_drew ?_ | refine blk_alloc ?_ _)); refine blk_put (cs := #[.int .i64 0, .string (⟨#[]⟩ : ByteArray), .int .i64 0, .string (⟨#[]⟩ : ByteArray), .int .i64 0]) ?_ 0 _ rfl; (with_reducible repeat (first | refine blk_drewN ?_ _ | refine blk_drew ?_ | refine blk_alloc ?_ _)); exact BK200001.out) Tryd.underlying43 rfl (by kernel_rfl)) rfl ?_
                        exact ⟨by first | rfl | (simp [errW_none, errW_some] <;> rfl) | (simp only [← hji11]; first | rfl | (simp [errW_none, errW_some] <;> rfl)) | (simp [*, errW_none, errW_some] <;> rfl), by repeat (first | (with_reducible first | exact HB.out | apply below_alloc | apply pw_below_drewN | apply below_drew1 | refine below_set ?_ GE200001.out) | exact HB.out)⟩
                      · rw [if_neg c42] at H
                        have c42b0 : decide ((a0.size : Int) < (wrap64 ((wrap64 (a1 * 64)) + (wrap64 ((wrap64 (Int.tdiv (wrap64 ((wrap64 (t200002 + 4)) + 62)) 63)) * 64))))) = false := decide_eq_false c42
                        clear c42
                        replace H := Option.bind_eq_some_iff.mp H
                        obtain ⟨t200004, A440, H⟩ := H
                        replace H : (if 4 ≤ (wrap64 (4 + t200002)) then (if (wrap64 (4 + t200002)) ≤ (t200004.size : Int) then ((spec_NodeRecord.f kj37 (t200004.extract 4 ((wrap64 (4 + t200002)) : Int).toNat)).bind fun t200005 => (if 0 ≤ (wrap64 (a1 * 64)) then (if (wrap64 (a1 * 64)) ≤ (wrap64 ((wrap64 (a1 * 64)) + (wrap64 ((wrap64 (Int.tdiv (wrap64 ((wrap64 (t200002 + 4)) + 62)) 63)) * 64)))) then (if (wrap64 ((wrap64 (a1 * 64)) + (wrap64 ((wrap64 (Int.tdiv (wrap64 ((wrap64 (t200002 + 4)) + 62)) 63)) * 64)))) ≤ (a0.size : Int) then (if t200005.toList = (a0.extract ((wrap64 (a1 * 64)) : Int).toNat ((wrap64 ((wrap64 (a1 * 64)) + (wrap64 ((wrap64 (Int.tdiv (wrap64 ((wrap64 (t200002 + 4)) + 62)) 63)) * 64)))) : Int).toNat).toList then (some (1, t200004.extract 4 ((wrap64 (4 + t200002)) : Int).toNat, 0, (⟨#[]⟩ : ByteArray), wrap64 (a1 + (wrap64 (Int.tdiv (wrap64 ((wrap64 (t200002 + 4)) + 62)) 63))))) else (some (0, (⟨#[]⟩ : ByteArray), 0, (⟨#[]⟩ : ByteArray), 0))) else (none)) else (none)) else (none))) else (none)) else (none)) = some (r1, r2, r3, r4, r5) := H
                        have A44 := Aside0.mk A440
                        clear A440
                        by_cases c45 : 4 ≤ (wrap64 (4 + t200002))
                        · rw [if_pos c45] at H
                          have c45b0 := eq_true c45
                          have c45b1 : decide (4 ≤ (wrap64 (4 + t200002))) = true := decide_eq_true c45
                          by_cases c46 : (wrap64 (4 + t200002)) ≤ (t200004.size : Int)
                          · rw [if_pos c46] at H
                            have c46b0 := eq_true c46
                            have c46b1 : decide ((wrap64 (4 + t200002)) ≤ (t200004.size : Int)) = true := decide_eq_true c46
                            replace H := Option.bind_eq_some_iff.mp H
                            obtain ⟨t200005, A470, H⟩ := H
                            replace H : (if 0 ≤ (wrap64 (a1 * 64)) then (if (wrap64 (a1 * 64)) ≤ (wrap64 ((wrap64 (a1 * 64)) + (wrap64 ((wrap64 (Int.tdiv (wrap64 ((wrap64 (t200002 + 4)) + 62)) 63)) * 64)))) then (if (wrap64 ((wrap64 (a1 * 64)) + (wrap64 ((wrap64 (Int.tdiv (wrap64 ((wrap64 (t200002 + 4)) + 62)) 63)) * 64)))) ≤ (a0.size : Int) then (if t200005.toList = (a0.extract ((wrap64 (a1 * 64)) : Int).toNat ((wrap64 ((wrap64 (a1 * 64)) + (wrap64 ((wrap64 (Int.tdiv (wrap64 ((wrap64 (t200002 + 4)) + 62)) 63)) * 64)))) : Int).toNat).toList then (some (1, t200004.extract 4 ((wrap64 (4 + t200002)) : Int).toNat, 0, (⟨#[]⟩ : ByteArray), wrap64 (a1 + (wrap64 (Int.tdiv (wrap64 ((wrap64 (t200002 + 4)) + 62)) 63))))) else (some (0, (⟨#[]⟩ : ByteArray), 0, (⟨#[]⟩ : ByteArray), 0))) else (none)) else (none)) else (none)) = some (r1, r2, r3, r4, r5) := H
                            have A47 := Aside0.mk A470
                            clear A470
                            obtain ⟨ji48, hji48⟩ : ∃ j_ : Int, (wrap64 (a1 * 64)) = j_ := ⟨_, rfl⟩
                            replace H : (if 0 ≤ (ji48) then (if (ji48) ≤ (wrap64 ((ji48) + (wrap64 ((wrap64 (Int.tdiv (wrap64 ((wrap64 (t200002 + 4)) + 62)) 63)) * 64)))) then (if (wrap64 ((ji48) + (wrap64 ((wrap64 (Int.tdiv (wrap64 ((wrap64 (t200002 + 4)) + 62)) 63)) * 64)))) ≤ (a0.size : Int) then (if t200005.toList = (a0.extract ((ji48) : Int).toNat ((wrap64 ((ji48) + (wrap64 ((wrap64 (Int.tdiv (wrap64 ((wrap64 (t200002 + 4)) + 62)) 63)) * 64)))) : Int).toNat).toList then (some (1, t200004.extract 4 ((wrap64 (4 + t200002)) : Int).toNat, 0, (⟨#[]⟩ : ByteArray), wrap64 (a1 + (wrap64 (Int.tdiv (wrap64 ((wrap64 (t200002 + 4)) + 62)) 63))))) else (some (0, (⟨#[]⟩ : ByteArray), 0, (⟨#[]⟩ : ByteArray), 0))) else (none)) else (none)) else (none)) = some (r1, r2, r3, r4, r5) := by first | (rw [hji48] at H; exact H) | (simp only [hji48] at H ⊢; exact H)
                            (try rw [hji48] at c8b0)
                            (try rw [hji48] at c42b0)
                            (try rw [hji48] at A44)
                            (try rw [hji48] at A47)
                            have hji48w : (IntKind.i64.wrap (a1 * 64)) = ji48 := (i64_w _).trans hji48
                            (try rw [hji48] at hji11)
                            (try rw [hji48] at hji11w)
                            by_cases c49 : 0 ≤ (ji48)
                            · rw [if_pos c49] at H
                              have c49b0 := eq_true c49
                              have c49b1 : decide (0 ≤ (ji48)) = true := decide_eq_true c49
                              clear c49
                              by_cases c50 : (ji48) ≤ (wrap64 ((ji48) + (wrap64 ((wrap64 (Int.tdiv (wrap64 ((wrap64 (t200002 + 4)) + 62)) 63)) * 64))))
                              · rw [if_pos c50] at H
                                have c50b0 := eq_true c50
                                have c50b1 : decide ((ji48) ≤ (wrap64 ((ji48) + (wrap64 ((wrap64 (Int.tdiv (wrap64 ((wrap64 (t200002 + 4)) + 62)) 63)) * 64))))) = true := decide_eq_true c50
                                by_cases c51 : (wrap64 ((ji48) + (wrap64 ((wrap64 (Int.tdiv (wrap64 ((wrap64 (t200002 + 4)) + 62)) 63)) * 64)))) ≤ (a0.size : Int)
                                · rw [if_pos c51] at H
                                  have c51b0 := eq_true c51
                                  have c51b1 : decide ((wrap64 ((ji48) + (wrap64 ((wrap64 (Int.tdiv (wrap64 ((wrap64 (t200002 + 4)) + 62)) 63)) * 64)))) ≤ (a0.size : Int)) = true := decide_eq_true c51
                                  by_cases c52 : t200005.toList = (a0.extract ((ji48) : Int).toNat ((wrap64 ((ji48) + (wrap64 ((wrap64 (Int.tdiv (wrap64 ((wrap64 (t200002 + 4)) + 62)) 63)) * 64)))) : Int).toNat).toList
                                  · rw [if_pos c52] at H
                                    have c52b0 : (t200005.toList == (a0.extract ((ji48) : Int).toNat ((wrap64 ((ji48) + (wrap64 ((wrap64 (Int.tdiv (wrap64 ((wrap64 (t200002 + 4)) + 62)) 63)) * 64)))) : Int).toNat).toList) = true := beq_iff_eq.mpr c52
                                    have c52b1 : (t200005.toList != (a0.extract ((ji48) : Int).toNat ((wrap64 ((ji48) + (wrap64 ((wrap64 (Int.tdiv (wrap64 ((wrap64 (t200002 + 4)) + 62)) 63)) * 64)))) : Int).toNat).toList) = false := bne_eq_false_iff_eq.mpr c52
                                    clear c52
                                    simp only [Option.some.injEq, Prod.mk.injEq] at H
                                    obtain ⟨rfl, rfl, rfl, rfl, rfl⟩ := H
                                    try go_wp2_with (first | ((with_reducible refine gate_callee (f := 53) rfl ?_); refine goesL_ (some 90) rfl rfl Tryd.func53 (by kernel_rfl) rfl #[.string a0, .int .i64 (ji48), .int .i64 (wrap64 (Int.tdiv (wrap64 ((wrap64 (t200002 + 4)) + 62)) 63))] rfl (by (try simp only [List.map_toArray, List.map_cons, List.map_nil]); first | done | (simp only [hji48]; rfl) | rfl | (simp only [List.length_drop, List.length_take]; rfl)) ?_; (with_reducible refine (spec_l2Unmarked.calls kj37 a0 (ji48) (wrap64 (Int.tdiv (wrap64 ((wrap64 (t200002 + 4)) + 62)) 63)) t200004 _ A44.out).mono ?_); rintro e w' ⟨rfl, ⟨nd, rfl⟩⟩; refine ⟨_, rfl, ?_⟩; (try (rw [drewN_self wc]; generalize hq_ : World.drewN wc _ = wc; have n0_ : Aside0 (wc.heap[gb200001]? = some (.cells #[.int .i64 0, .string (⟨#[]⟩ : ByteArray), .int .i64 0, .string (⟨#[]⟩ : ByteArray), .int .i64 0] 43 (0, 0))) := ⟨by rw [← hq_]; exact (by (with_reducible repeat (first | refine blk_drewN ?_ _ | refine blk_drew ?_ | refine blk_alloc ?_ _)); exact BK200001.out)⟩; have n1_ : Aside0 (Below w.heap.size w wc) := ⟨by rw [← hq_]; exact (by repeat (first | (with_reducible first | exact HB.out | apply below_alloc | apply pw_below_drewN | apply below_drew1 | refine below_set ?_ GE200001.out) | exact HB.out))⟩; clear BK200001 HB hq_; have BK200001 := n0_; have HB := n1_; clear n0_ n1_))))
                                    have n0_ := Aside0.mk (blk_drew BK200001.out)
                                    have n1_ := Aside0.mk (below_drew1 HB.out)
                                    clear BK200001
                                    clear HB
                                    have BK200001 := n0_
                                    have HB := n1_
                                    clear n0_ n1_
                                    refine start_ (n := 10) (S := fun w' => True) (ds := []) #[false, false, false, false, false, false, false, false, false, false] (by kernel_rfl) rfl rfl trivial (fun hHeld => ?_); refine with_tabW spec_ReadRecord.tab21 spec_ReadRecord.bits21 (fun HT_ HW_ => ?_)
                                    generalize wc.drew = w53 at BK200001 HB hHeld ⊢
                                    refine pure_ (i := 0) (N := some 94) (v := ?_) (a' := ?_) #[true, false, false, false, false, false, false, false, false, false] rfl rfl (any_of HT_.out (by kernel_rfl)) (fun _ _ _ h => h) (Or.inl ⟨by rfl, ?_⟩) ?_ ?_
                                    rotate_left
                                    · intro w'
                                      go_simp
                                      with_reducible rfl
                                    rotate_left
                                    · simp only [Act.put, List.setIfInBounds_toArray, List.set_cons_zero, List.set_cons_succ, i64_w, i32_w]
                                      rfl
                                    refine pure_ (i := 2) (N := some 96) (v := ?_) (a' := ?_) #[true, false, true, false, false, false, false, false, false, false] rfl rfl (any_of HT_.out (by kernel_rfl)) (fun _ _ _ h => h) (Or.inl ⟨by rfl, ?_⟩) ?_ ?_
                                    rotate_left
                                    · intro w'
                                      go_simp
                                      with_reducible rfl
                                    rotate_left
                                    · simp only [Act.put, List.setIfInBounds_toArray, List.set_cons_zero, List.set_cons_succ, i64_w, i32_w]
                                      rfl
                                    refine pure_ (i := 3) (N := some 97) (v := ?_) (a' := ?_) #[true, false, true, true, false, false, false, false, false, false] rfl rfl (any_of HT_.out (by kernel_rfl)) (fun _ _ _ h => h) (Or.inl ⟨by rfl, ?_⟩) ?_ ?_
                                    rotate_left
                                    · intro w'
                                      go_simp
                                      with_reducible rfl
                                    rotate_left
                                    · simp only [Act.put, List.setIfInBounds_toArray, List.set_cons_zero, List.set_cons_succ, i64_w, i32_w]
                                      rfl
                                    refine pure_ (i := 4) (N := some 98) (v := ?_) (a' := ?_) #[true, false, true, true, true, false, false, false, false, false] rfl rfl (any_of HT_.out (by kernel_rfl)) (fun _ _ _ h => h) (Or.inl ⟨by rfl, ?_⟩) ?_ ?_
                                    rotate_left
                                    · intro w'
                                      go_simp
                                      with_reducible rfl
                                    rotate_left
                                    · simp only [Act.put, List.setIfInBounds_toArray, List.set_cons_zero, List.set_cons_succ, i64_w, i32_w]
                                      rfl
                                    refine pure_ (i := 5) (N := some 99) (v := ?_) (a' := ?_) #[true, false, true, true, true, true, false, false, false, false] rfl rfl (any_of HT_.out (by kernel_rfl)) (fun _ _ _ h => h) (Or.inl ⟨by rfl, ?_⟩) ?_ ?_
                                    rotate_left
                                    · intro w'
                                      go_simp
                                      with_reducible rfl
                                    rotate_left
                                    · simp only [Act.put, List.setIfInBounds_toArray, List.set_cons_zero, List.set_cons_succ, i64_w, i32_w]
                                      rfl
                                    refine pure_ (i := 6) (N := some 100) (v := ?_) (a' := ?_) #[true, false, true, true, true, true, true, false, false, false] rfl rfl (any_of HT_.out (by kernel_rfl)) (fun _ _ _ h => h) (Or.inl ⟨by rfl, ?_⟩) ?_ ?_
                                    rotate_left
                                    · intro w'
                                      go_simp
                                      with_reducible rfl
                                    rotate_left
                                    · simp only [Act.put, List.setIfInBounds_toArray, List.set_cons_zero, List.set_cons_succ, i64_w, i32_w]
                                      rfl
                                    refine pure_ (i := 7) (N := some 101) (v := ?_) (a' := ?_) #[true, false, true, true, true, true, true, true, false, false] rfl rfl (any_of HT_.out (by kernel_rfl)) (fun _ _ _ h => h) (Or.inl ⟨by rfl, ?_⟩) ?_ ?_
                                    rotate_left
                                    · intro w'
                                      go_simp
                                      with_reducible rfl
                                    rotate_left
                                    · simp only [Act.put, List.setIfInBounds_toArray, List.set_cons_zero, List.set_cons_succ, i64_w, i32_w]
                                      rfl
                                    refine pure_ (i := 8) (N := some 102) (v := ?_) (a' := ?_) #[true, false, true, true, true, true, true, true, true, false] rfl rfl (any_of HT_.out (by kernel_rfl)) (fun _ _ _ h => h) (Or.inl ⟨by rfl, ?_⟩) ?_ ?_
                                    rotate_left
                                    · intro w'
                                      go_simp
                                      with_reducible rfl
                                    rotate_left
                                    · simp only [Act.put, List.setIfInBounds_toArray, List.set_cons_zero, List.set_cons_succ, i64_w, i32_w]
                                      rfl
                                    refine one_ (i := 1) (N := some 95) #[true, true, true, true, true, true, true, true, true, false] rfl rfl (one_of HT_.out (by kernel_rfl)) (by decide) (fun K hK => ?_)
                                    refine goes_ Tryd.func54 (by kernel_rfl) rfl #[.string (t200004.extract 4 ((wrap64 (4 + t200002)) : Int).toNat)] (by rfl) rfl rfl (by (try simp only [List.map_toArray, List.map_cons, List.map_nil]); first | done | rfl | (simp only [List.length_drop, List.length_take]; rfl)) ?_
                                    with_reducible refine (spec_NodeRecord.calls kj37 (t200004.extract 4 ((wrap64 (4 + t200002)) : Int).toNat) t200005 _ A47.out).mono ?_
                                    rintro e w54 ⟨rfl, hb⟩
                                    refine ⟨_, rfl, ?_⟩
                                    have n0_ := Aside0.mk (blk_below (g := gb200001) (o := .cells #[.int .i64 0, .string (⟨#[]⟩ : ByteArray), .int .i64 0, .string (⟨#[]⟩ : ByteArray), .int .i64 0] 43 (0, 0)) (by (with_reducible repeat (first | refine blk_drewN ?_ _ | refine blk_drew ?_ | refine blk_alloc ?_ _)); exact BK200001.out) hb)
                                    have n1_ := Aside0.mk (below_step (by repeat (first | (with_reducible first | exact HB.out | apply below_alloc | apply pw_below_drewN | apply below_drew1 | refine below_set ?_ GE200001.out) | exact HB.out)) hb)
                                    clear BK200001
                                    clear HB
                                    have BK200001 := n0_
                                    have HB := n1_
                                    clear n0_ n1_
                                    (try clear hb)
                                    (try clear hb2)
                                    (try clear hk)
                                    (try clear hi)
                                    refine hK.out _ _ trivial (fun hHeld => ?_)
                                    clear hK K
                                    refine norm_ (a' := ?_) ?_ ?_
                                    rotate_left
                                    · show Act.put _ (some 95) _ = _
                                      simp only [Act.put, List.setIfInBounds_toArray, List.set_cons_zero, List.set_cons_succ, i64_w, i32_w]
                                      rfl
                                    refine pure_ (i := 9) (N := some 103) (v := ?_) (a' := ?_) #[true, true, true, true, true, true, true, true, true, true] rfl rfl (any_of HT_.out (by kernel_rfl)) (fun _ _ _ h => h) (Or.inl ⟨by rfl, ?_⟩) ?_ ?_
                                    rotate_left
                                    · intro w'
                                      go_simp
                                      with_reducible rfl
                                    rotate_left
                                    · simp only [Act.put, List.setIfInBounds_toArray, List.set_cons_zero, List.set_cons_succ, i64_w, i32_w]
                                      rfl
                                    refine done_ (done_of HT_.out (by kernel_rfl)) ?_
                                    have hcz55_0 : w54.cell? ⟨gb200001, 0, none⟩ = some (.int .i64 0) := (blk_cell BK200001.out 0).trans rfl
                                    have hcz55_1 : w54.cell? ⟨gb200001, 1, none⟩ = some (.string (⟨#[]⟩ : ByteArray)) := (blk_cell BK200001.out 1).trans rfl
                                    have hcz55_2 : w54.cell? ⟨gb200001, 2, none⟩ = some (.int .i64 0) := (blk_cell BK200001.out 2).trans rfl
                                    have hcz55_3 : w54.cell? ⟨gb200001, 3, none⟩ = some (.string (⟨#[]⟩ : ByteArray)) := (blk_cell BK200001.out 3).trans rfl
                                    have hcz55_4 : w54.cell? ⟨gb200001, 4, none⟩ = some (.int .i64 0) := (blk_cell BK200001.out 4).trans rfl
                                    have hfz55_0 := blk_frozen BK200001.out 0
                                    have hfz55_1 := blk_frozen BK200001.out 1
                                    have hfz55_2 := blk_frozen BK200001.out 2
                                    have hfz55_3 := blk_frozen BK200001.out 3
                                    have hfz55_4 := blk_frozen BK200001.out 4
                                    try go_wp2
                                    refine bodyPost_ret (results_cell_row rfl _ _ gb200001 43 #[.int .i64 1, .string (t200004.extract 4 ((wrap64 (4 + t200002)) : Int).toNat), .int .i64 0, .string (⟨#[]⟩ : ByteArray), .int .i64 (wrap64 (a1 + (wrap64 (Int.tdiv (wrap64 ((wrap64 (t200002 + 4)) + 62)) 63))))] (0, 0) _ rfl (by (with_reducible repeat (first | refine blk_drewN ?_ _ | refine blk_drew ?_ | refine blk_alloc ?_ _)); refine blk_put (cs := #[.int .i64 1, .string (t200004.extract 4 ((wrap64 (4 + t200002)) : Int).toNat), .int .i64 0, .string (⟨#[]⟩ : ByteArray), .int .i64 0]) ?_ 4 _ rfl; (with_reducible repeat (first | refine blk_drewN ?_ _ | refine blk_drew ?_ | refine blk_alloc ?_ _)); refine blk_put (cs := #[.int .i64 1, .string (t200004.extract 4 ((wrap64 (4 + t200002)) : Int).toNat), .int .i64 0, .string (⟨#[]⟩ : ByteArray), .int .i64 0]) ?_ 3 _ rfl; (with_reducible repeat (first | refine blk_drewN ?_ _ | refine blk_drew ?_ | refine blk_alloc ?_ _)); refine blk_put (cs := #[.int .i64 1, .string (t200004.extract 4 ((wrap64 (4 + t200002)) : Int).toNat), .int .i64 0, .string (⟨#[]⟩ : ByteArray), .int .i64 0]) ?_ 2 _ rfl; (with_reducible repeat (first | refine blk_drewN ?_ _ | refine blk_drew ?_ | refine blk_alloc ?_ _)); refine blk_put (cs := #[.int .i64 1, .string (⟨#[]⟩ : ByteArray), .int .i64 0, .string (⟨#[]⟩ : ByteArray), .int .i64 0]) ?_ 1 _ rfl; (with_reducible repeat (first | refine blk_drewN ?_ _ | refine blk_drew ?_ | refine blk_alloc ?_ _)); refine blk_put (cs := #[.int .i64 0, .string (⟨#[]⟩ : ByteArray), .int .i64 0, .string (⟨#[]⟩ : ByteArray), .int .i64 0]) ?_ 0 _ rfl; (with_reducible repeat (first | refine blk_drewN ?_ _ | refine blk_drew ?_ | refine blk_alloc ?_ _)); exact BK200001.out) Tryd.underlying43 rfl (by kernel_rfl)) rfl ?_
                                    exact ⟨by first | rfl | (simp [errW_none, errW_some] <;> rfl) | (simp only [← hji11, ← hji48]; first | rfl | (simp [errW_none, errW_some] <;> rfl)) | (simp [*, errW_none, errW_some] <;> rfl), by repeat (first | (with_reducible first | exact HB.out | apply below_alloc | apply pw_below_drewN | apply below_drew1 | refine below_set ?_ GE200001.out) | exact HB.out)⟩
                                  · rw [if_neg c52] at H
                                    have c52b0 : (t200005.toList == (a0.extract ((ji48) : Int).toNat ((wrap64 ((ji48) + (wrap64 ((wrap64 (Int.tdiv (wrap64 ((wrap64 (t200002 + 4)) + 62)) 63)) * 64)))) : Int).toNat).toList) = false := beq_eq_false_iff_ne.mpr c52
                                    have c52b1 : (t200005.toList != (a0.extract ((ji48) : Int).toNat ((wrap64 ((ji48) + (wrap64 ((wrap64 (Int.tdiv (wrap64 ((wrap64 (t200002 + 4)) + 62)) 63)) * 64)))) : Int).toNat).toList) = true := bne_iff_ne.mpr c52
                                    simp only [Option.some.injEq, Prod.mk.injEq] at H
                                    obtain ⟨rfl, rfl, rfl, rfl, rfl⟩ := H
                                    try go_wp2_with (first | ((with_reducible refine gate_callee (f := 53) rfl ?_); refine goesL_ (some 90) rfl rfl Tryd.func53 (by kernel_rfl) rfl #[.string a0, .int .i64 (ji48), .int .i64 (wrap64 (Int.tdiv (wrap64 ((wrap64 (t200002 + 4)) + 62)) 63))] rfl (by (try simp only [List.map_toArray, List.map_cons, List.map_nil]); first | done | (simp only [hji48]; rfl) | rfl | (simp only [List.length_drop, List.length_take]; rfl)) ?_; (with_reducible refine (spec_l2Unmarked.calls kj37 a0 (ji48) (wrap64 (Int.tdiv (wrap64 ((wrap64 (t200002 + 4)) + 62)) 63)) t200004 _ A44.out).mono ?_); rintro e w' ⟨rfl, ⟨nd, rfl⟩⟩; refine ⟨_, rfl, ?_⟩; (try (rw [drewN_self wc]; generalize hq_ : World.drewN wc _ = wc; have n0_ : Aside0 (wc.heap[gb200001]? = some (.cells #[.int .i64 0, .string (⟨#[]⟩ : ByteArray), .int .i64 0, .string (⟨#[]⟩ : ByteArray), .int .i64 0] 43 (0, 0))) := ⟨by rw [← hq_]; exact (by (with_reducible repeat (first | refine blk_drewN ?_ _ | refine blk_drew ?_ | refine blk_alloc ?_ _)); exact BK200001.out)⟩; have n1_ : Aside0 (Below w.heap.size w wc) := ⟨by rw [← hq_]; exact (by repeat (first | (with_reducible first | exact HB.out | apply below_alloc | apply pw_below_drewN | apply below_drew1 | refine below_set ?_ GE200001.out) | exact HB.out))⟩; clear BK200001 HB hq_; have BK200001 := n0_; have HB := n1_; clear n0_ n1_))))
                                    have n0_ := Aside0.mk (blk_drew BK200001.out)
                                    have n1_ := Aside0.mk (below_drew1 HB.out)
                                    clear BK200001
                                    clear HB
                                    have BK200001 := n0_
                                    have HB := n1_
                                    clear n0_ n1_
                                    refine start_ (n := 10) (S := fun w' => True) (ds := []) #[false, false, false, false, false, false, false, false, false, false] (by kernel_rfl) rfl rfl trivial (fun hHeld => ?_); refine with_tabW spec_ReadRecord.tab21 spec_ReadRecord.bits21 (fun HT_ HW_ => ?_)
                                    generalize wc.drew = w56 at BK200001 HB hHeld ⊢
                                    refine pure_ (i := 0) (N := some 94) (v := ?_) (a' := ?_) #[true, false, false, false, false, false, false, false, false, false] rfl rfl (any_of HT_.out (by kernel_rfl)) (fun _ _ _ h => h) (Or.inl ⟨by rfl, ?_⟩) ?_ ?_
                                    rotate_left
                                    · intro w'
                                      go_simp
                                      with_reducible rfl
                                    rotate_left
                                    · simp only [Act.put, List.setIfInBounds_toArray, List.set_cons_zero, List.set_cons_succ, i64_w, i32_w]
                                      rfl
                                    refine pure_ (i := 2) (N := some 96) (v := ?_) (a' := ?_) #[true, false, true, false, false, false, false, false, false, false] rfl rfl (any_of HT_.out (by kernel_rfl)) (fun _ _ _ h => h) (Or.inl ⟨by rfl, ?_⟩) ?_ ?_
                                    rotate_left
                                    · intro w'
                                      go_simp
                                      with_reducible rfl
                                    rotate_left
                                    · simp only [Act.put, List.setIfInBounds_toArray, List.set_cons_zero, List.set_cons_succ, i64_w, i32_w]
                                      rfl
                                    refine pure_ (i := 3) (N := some 97) (v := ?_) (a' := ?_) #[true, false, true, true, false, false, false, false, false, false] rfl rfl (any_of HT_.out (by kernel_rfl)) (fun _ _ _ h => h) (Or.inl ⟨by rfl, ?_⟩) ?_ ?_
                                    rotate_left
                                    · intro w'
                                      go_simp
                                      with_reducible rfl
                                    rotate_left
                                    · simp only [Act.put, List.setIfInBounds_toArray, List.set_cons_zero, List.set_cons_succ, i64_w, i32_w]
                                      rfl
                                    refine pure_ (i := 4) (N := some 98) (v := ?_) (a' := ?_) #[true, false, true, true, true, false, false, false, false, false] rfl rfl (any_of HT_.out (by kernel_rfl)) (fun _ _ _ h => h) (Or.inl ⟨by rfl, ?_⟩) ?_ ?_
                                    rotate_left
                                    · intro w'
                                      go_simp
                                      with_reducible rfl
                                    rotate_left
                                    · simp only [Act.put, List.setIfInBounds_toArray, List.set_cons_zero, List.set_cons_succ, i64_w, i32_w]
                                      rfl
                                    refine pure_ (i := 5) (N := some 99) (v := ?_) (a' := ?_) #[true, false, true, true, true, true, false, false, false, false] rfl rfl (any_of HT_.out (by kernel_rfl)) (fun _ _ _ h => h) (Or.inl ⟨by rfl, ?_⟩) ?_ ?_
                                    rotate_left
                                    · intro w'
                                      go_simp
                                      with_reducible rfl
                                    rotate_left
                                    · simp only [Act.put, List.setIfInBounds_toArray, List.set_cons_zero, List.set_cons_succ, i64_w, i32_w]
                                      rfl
                                    refine pure_ (i := 6) (N := some 100) (v := ?_) (a' := ?_) #[true, false, true, true, true, true, true, false, false, false] rfl rfl (any_of HT_.out (by kernel_rfl)) (fun _ _ _ h => h) (Or.inl ⟨by rfl, ?_⟩) ?_ ?_
                                    rotate_left
                                    · intro w'
                                      go_simp
                                      with_reducible rfl
                                    rotate_left
                                    · simp only [Act.put, List.setIfInBounds_toArray, List.set_cons_zero, List.set_cons_succ, i64_w, i32_w]
                                      rfl
                                    refine pure_ (i := 7) (N := some 101) (v := ?_) (a' := ?_) #[true, false, true, true, true, true, true, true, false, false] rfl rfl (any_of HT_.out (by kernel_rfl)) (fun _ _ _ h => h) (Or.inl ⟨by rfl, ?_⟩) ?_ ?_
                                    rotate_left
                                    · intro w'
                                      go_simp
                                      with_reducible rfl
                                    rotate_left
                                    · simp only [Act.put, List.setIfInBounds_toArray, List.set_cons_zero, List.set_cons_succ, i64_w, i32_w]
                                      rfl
                                    refine pure_ (i := 8) (N := some 102) (v := ?_) (a' := ?_) #[true, false, true, true, true, true, true, true, true, false] rfl rfl (any_of HT_.out (by kernel_rfl)) (fun _ _ _ h => h) (Or.inl ⟨by rfl, ?_⟩) ?_ ?_
                                    rotate_left
                                    · intro w'
                                      go_simp
                                      with_reducible rfl
                                    rotate_left
                                    · simp only [Act.put, List.setIfInBounds_toArray, List.set_cons_zero, List.set_cons_succ, i64_w, i32_w]
                                      rfl
                                    refine one_ (i := 1) (N := some 95) #[true, true, true, true, true, true, true, true, true, false] rfl rfl (one_of HT_.out (by kernel_rfl)) (by decide) (fun K hK => ?_)
                                    refine goes_ Tryd.func54 (by kernel_rfl) rfl #[.string (t200004.extract 4 ((wrap64 (4 + t200002)) : Int).toNat)] (by rfl) rfl rfl (by (try simp only [List.map_toArray, List.map_cons, List.map_nil]); first | done | rfl | (simp only [List.length_drop, List.length_take]; rfl)) ?_
                                    with_reducible refine (spec_NodeRecord.calls kj37 (t200004.extract 4 ((wrap64 (4 + t200002)) : Int).toNat) t200005 _ A47.out).mono ?_
                                    rintro e w57 ⟨rfl, hb⟩
                                    refine ⟨_, rfl, ?_⟩
                                    have n0_ := Aside0.mk (blk_below (g := gb200001) (o := .cells #[.int .i64 0, .string (⟨#[]⟩ : ByteArray), .int .i64 0, .string (⟨#[]⟩ : ByteArray), .int .i64 0] 43 (0, 0)) (by (with_reducible repeat (first | refine blk_drewN ?_ _ | refine blk_drew ?_ | refine blk_alloc ?_ _)); exact BK200001.out) hb)
                                    have n1_ := Aside0.mk (below_step (by repeat (first | (with_reducible first | exact HB.out | apply below_alloc | apply pw_below_drewN | apply below_drew1 | refine below_set ?_ GE200001.out) | exact HB.out)) hb)
                                    clear BK200001
                                    clear HB
                                    have BK200001 := n0_
                                    have HB := n1_
                                    clear n0_ n1_
                                    (try clear hb)
                                    (try clear hb2)
                                    (try clear hk)
                                    (try clear hi)
                                    refine hK.out _ _ trivial (fun hHeld => ?_)
                                    clear hK K
                                    refine norm_ (a' := ?_) ?_ ?_
                                    rotate_left
                                    · show Act.put _ (some 95) _ = _
                                      simp only [Act.put, List.setIfInBounds_toArray, List.set_cons_zero, List.set_cons_succ, i64_w, i32_w]
                                      rfl
                                    refine pure_ (i := 9) (N := some 103) (v := ?_) (a' := ?_) #[true, true, true, true, true, true, true, true, true, true] rfl rfl (any_of HT_.out (by kernel_rfl)) (fun _ _ _ h => h) (Or.inl ⟨by rfl, ?_⟩) ?_ ?_
                                    rotate_left
                                    · intro w'
                                      go_simp
                                      with_reducible rfl
                                    rotate_left
                                    · simp only [Act.put, List.setIfInBounds_toArray, List.set_cons_zero, List.set_cons_succ, i64_w, i32_w]
                                      rfl
                                    refine done_ (done_of HT_.out (by kernel_rfl)) ?_
                                    have hcz58_0 : w57.cell? ⟨gb200001, 0, none⟩ = some (.int .i64 0) := (blk_cell BK200001.out 0).trans rfl
                                    have hcz58_1 : w57.cell? ⟨gb200001, 1, none⟩ = some (.string (⟨#[]⟩ : ByteArray)) := (blk_cell BK200001.out 1).trans rfl
                                    have hcz58_2 : w57.cell? ⟨gb200001, 2, none⟩ = some (.int .i64 0) := (blk_cell BK200001.out 2).trans rfl
                                    have hcz58_3 : w57.cell? ⟨gb200001, 3, none⟩ = some (.string (⟨#[]⟩ : ByteArray)) := (blk_cell BK200001.out 3).trans rfl
                                    have hcz58_4 : w57.cell? ⟨gb200001, 4, none⟩ = some (.int .i64 0) := (blk_cell BK200001.out 4).trans rfl
                                    have hfz58_0 := blk_frozen BK200001.out 0
                                    have hfz58_1 := blk_frozen BK200001.out 1
                                    have hfz58_2 := blk_frozen BK200001.out 2
                                    have hfz58_3 := blk_frozen BK200001.out 3
                                    have hfz58_4 := blk_frozen BK200001.out 4
                                    try go_wp2
                                    refine bodyPost_ret (results_cell_row rfl _ _ gb200001 43 #[.int .i64 0, .string (⟨#[]⟩ : ByteArray), .int .i64 0, .string (⟨#[]⟩ : ByteArray), .int .i64 0] (0, 0) _ rfl (by (with_reducible repeat (first | refine blk_drewN ?_ _ | refine blk_drew ?_ | refine blk_alloc ?_ _)); refine blk_put (cs := #[.int .i64 0, .string (⟨#[]⟩ : ByteArray), .int .i64 0, .string (⟨#[]⟩ : ByteArray), .int .i64 0]) ?_ 4 _ rfl; (with_reducible repeat (first | refine blk_drewN ?_ _ | refine blk_drew ?_ | refine blk_alloc ?_ _)); refine blk_put (cs := #[.int .i64 0, .string (⟨#[]⟩ : ByteArray), .int .i64 0, .string (⟨#[]⟩ : ByteArray), .int .i64 0]) ?_ 3 _ rfl; (with_reducible repeat (first | refine blk_drewN ?_ _ | refine blk_drew ?_ | refine blk_alloc ?_ _)); refine blk_put (cs := #[.int .i64 0, .string (⟨#[]⟩ : ByteArray), .int .i64 0, .string (⟨#[]⟩ : ByteArray), .int .i64 0]) ?_ 2 _ rfl; (with_reducible repeat (first | refine blk_drewN ?_ _ | refine blk_drew ?_ | refine blk_alloc ?_ _)); refine blk_put (cs := #[.int .i64 0, .string (⟨#[]⟩ : ByteArray), .int .i64 0, .string (⟨#[]⟩ : ByteArray), .int .i64 0]) ?_ 1 _ rfl; (with_reducible repeat (first | refine blk_drewN ?_ _ | refine blk_drew ?_ | refine blk_alloc ?_ _)); refine blk_put (cs := #[.int .i64 0, .string (⟨#[]⟩ : ByteArray), .int .i64 0, .string (⟨#[]⟩ : ByteArray), .int .i64 0]) ?_ 0 _ rfl; (with_reducible repeat (first | refine blk_drewN ?_ _ | refine blk_drew ?_ | refine blk_alloc ?_ _)); exact BK200001.out) Tryd.underlying43 rfl (by kernel_rfl)) rfl ?_
                                    exact ⟨by first | rfl | (simp [errW_none, errW_some] <;> rfl) | (simp only [← hji11, ← hji48]; first | rfl | (simp [errW_none, errW_some] <;> rfl)) | (simp [*, errW_none, errW_some] <;> rfl), by repeat (first | (with_reducible first | exact HB.out | apply below_alloc | apply pw_below_drewN | apply below_drew1 | refine below_set ?_ GE200001.out) | exact HB.out)⟩
                                · rw [if_neg c51] at H
                                  exact absurd H (by simp)
                              · rw [if_neg c50] at H
                                exact absurd H (by simp)
                            · rw [if_neg c49] at H
                              exact absurd H (by simp)
                          · rw [if_neg c46] at H
                            exact absurd H (by simp)
                        · rw [if_neg c45] at H
                          exact absurd H (by simp)
            · rw [if_neg c13] at H
              exact absurd H (by simp)
          · rw [if_neg c12] at H
            exact absurd H (by simp)

end Go.Proofs.YtmfejehhfmaodabDoor.Z

end
