/- Own texts and the print's words that they use, joined by a program of this session. -/
import Derived.Test.YtmfejehhfmaodabDoorYFnExactPoolFind25
import Derived.Test.YtmfejehhfmaodabDoorYFnExactPoolFind21
import Derived.Test.YtmfejehhfmaodabDoorYFnExactPoolFind23
section
namespace Go.Proofs.YtmfejehhfmaodabDoor.Z
open Go.RowKit Go.Proofs.YtmfejehhfmaodabDoorW.PrintWords Go.Proofs.YtmfejehhfmaodabDoorW.PrintLast Go.Proofs.YtmfejehhfmaodabDoorW.PrintMore
attribute [local go_sem] max2_int min2_int max_two min_two max_three min_three max_four min_four   -- for this text's walks alone
set_option linter.unusedVariables false
set_option linter.unusedSimpArgs false
def spec_l3Find.l0 : Nat → List ByteArray → ByteArray → Int → Int → List ByteArray → Option (ByteArray × ByteArray × ByteArray × ByteArray × Int)
  | 0, _, _, _, _, _ => none
  | k + 1, x1, x2, x8, x340002000, x340002001 => if x8 < (x1.length : Int) then (if 0 ≤ x8 then (if (rdOf ByteArray.empty x1 x8).toList = x2.toList then (if x8 < (x340002001.length : Int) then ((spec_DecodeNode.f (rdOf ByteArray.empty x340002001 x8) x340002000).bind fun bt340005 => (if bt340005.2.2.2.2 = true then (some (bt340005.1, bt340005.2.1, bt340005.2.2.1, bt340005.2.2.2.1, 0)) else (some ((⟨#[]⟩ : ByteArray), (⟨#[]⟩ : ByteArray), (⟨#[]⟩ : ByteArray), (⟨#[]⟩ : ByteArray), 3)))) else (none)) else (spec_l3Find.l0 k x1 x2 (wrap64 (x8 + 1)) x340002000 x340002001)) else (none)) else (some ((⟨#[]⟩ : ByteArray), (⟨#[]⟩ : ByteArray), (⟨#[]⟩ : ByteArray), (⟨#[]⟩ : ByteArray), 2))
def spec_l3Find.f (k : Nat) (a0_0 : Int) (l0_1 : List ByteArray) (l1 : List ByteArray) (a2 : ByteArray) : Option (ByteArray × ByteArray × ByteArray × ByteArray × Int) := spec_l3Find.l0 k l1 a2 0 a0_0 l0_1
theorem spec_l3Find.mono_l : ∀ k, (∀ y0 y1 y2 y3 y4, LeO (spec_l3Find.l0 k y0 y1 y2 y3 y4) (spec_l3Find.l0 (k + 1) y0 y1 y2 y3 y4))
  | 0 => fun _ _ _ _ _ r h => by simp [spec_l3Find.l0] at h
  | k + 1 => by
    have ih0 := spec_l3Find.mono_l k
    · intro y0 y1 y2 y3 y4
      unfold spec_l3Find.l0
      repeat' first
      | (with_reducible exact ih0 _ _ _ _ _)
      | (with_reducible exact LeO.refl _)
      | (with_reducible exact LeO.none _)
      | (with_reducible refine LeO.ite ?_ ?_)
      | (with_reducible refine LeO.bind ?_ (fun _ => ?_))
      | exact ih0 _ _ _ _ _
      | exact LeO.none _
      | refine LeO.ite ?_ ?_
      | refine LeO.bind ?_ (fun _ => ?_)
theorem spec_l3Find.mono : ∀ a0 a1 a2 a3 k, LeO (spec_l3Find.f k a0 a1 a2 a3) (spec_l3Find.f (k + 1) a0 a1 a2 a3) := by
  intro a0 a1 a2 a3 k
  have ih0 := spec_l3Find.mono_l k
  unfold spec_l3Find.f
  repeat' first
      | (with_reducible exact ih0 _ _ _ _ _)
      | (with_reducible exact LeO.refl _)
      | (with_reducible exact LeO.none _)
      | (with_reducible refine LeO.ite ?_ ?_)
      | (with_reducible refine LeO.bind ?_ (fun _ => ?_))
      | exact ih0 _ _ _ _ _
      | exact LeO.none _
      | refine LeO.ite ?_ ?_
      | refine LeO.bind ?_ (fun _ => ?_)
def spec_l3Find.T5 : Bool × List (List Nat × List Nat) := (true, [([], []), ([0], [0]), ([], []), ([1, 2], [1, 2]), ([3], [3]), ([], []), ([5], [5]), ([4, 6], [4, 6]), ([7], [7]), ([8], [8]), ([8], [8]), ([], []), ([11, 9, 7, 0, 1, 2, 3, 4, 5, 6, 7, 8, 9, 11], [9, 11]), ([10, 12, 0, 1, 2, 3, 4, 5, 6, 7, 8, 9, 10, 11, 12], [10])])
def spec_l3Find.B5 : List Nat := [0, 1, 0, 7, 15, 0, 32, 127, 255, 511, 511, 0, 3071, 8191]
theorem spec_l3Find.tab5 : rtab .any (opsOf Tryd.f34 5) = spec_l3Find.T5 := by kernel_rfl
theorem spec_l3Find.bits5 : waitsOk spec_l3Find.T5.2 spec_l3Find.B5 = true := by kernel_rfl
set_option maxHeartbeats 8000000 in
set_option maxRecDepth 100000 in
theorem spec_l3Find.calls (k : Nat) (a0_0 : Int) (A0_1 : Option Addr) (c0_1 : Nat) (l0_1 : List ByteArray) (A1 : Option Addr) (c1 : Nat) (l1 : List ByteArray) (a2 : ByteArray) (r1 : ByteArray) (r2 : ByteArray) (r3 : ByteArray) (r4 : ByteArray) (r5 : Int) (w : World) (hr0_1 : Kd.C Kd.string w A0_1 l0_1.length l0_1) (hc0_1 : l0_1.length ≤ c0_1) (hr1 : Kd.C Kd.string w A1 l1.length l1) (hc1 : l1.length ≤ c1) (h : spec_l3Find.f k a0_0 l0_1 l1 a2 = some (r1, r2, r3, r4, r5)) :
    Calls Tryd.prog 34 #[.agg #[.int .i64 a0_0, .slice A0_1 l0_1.length c0_1], .slice A1 l1.length c1, .string a2] w fun e w' => e = .returned (.tuple #[.agg #[.string r1, .string r2, .string r3, .string r4], .int .i64 r5]) ∧ Below w.heap.size w w' := by
  have hu30 := Tryd.underlying30
  have hu27 := Tryd.underlying27
  have HR0_1 := Aside0.mk hr0_1
  have HC0_1 := Aside0.mk hc0_1
  clear hr0_1 hc0_1
  have HR1 := Aside0.mk hr1
  have HC1 := Aside0.mk hc1
  clear hr1 hc1
  have HB := Aside0.mk (Below.refl w.heap.size w)
  have H : (spec_l3Find.l0 k l1 a2 0 a0_0 l0_1) = some (r1, r2, r3, r4, r5) := h
  clear h
  have H' := Aside0.mk H
  clear H
  go_enter Tryd.func34, Tryd.ntmps34
  go_wp2_with (first | ((with_reducible refine gate_dst (N := 3) rfl ?_); refine box_event ?hg (N := 3) ?hd (cs := #[.int .i64 a0_0, .slice A0_1 l0_1.length c0_1]) (t := 30) ?hr ?_; (case hd => rfl); (case hg => rfl); (case hr => first | (go_simp; done) | (go_simp; rfl)); intro gb340001 hg w4 hbox hb; have n0_ := Aside0.mk (below_step (by repeat (first | (with_reducible first | exact HB.out | apply below_alloc | apply pw_below_drewN | apply below_drew1) | exact HB.out)) hb); have n1_ := Aside0.mk (hbox); have n2_ := Aside0.mk ((by rw [hg]; exact (below_size (by repeat (first | (with_reducible first | exact HB.out | apply below_alloc | apply pw_below_drewN | apply below_drew1) | exact HB.out))) : w.heap.size ≤ gb340001)); have n3_ := Aside0.mk ((by rw [hg]; exact (below_size (by repeat (first | (with_reducible first | exact HB.out | apply below_alloc | apply pw_below_drewN | apply below_drew1) | exact HB.out))) : w.heap.size ≤ gb340001)); clear HB; have HB := n0_; have BK340001 := n1_; have GW340001 := n2_; have GE340001 := n3_; clear n0_ n1_ n2_ n3_; clear hb hbox hg) | ((with_reducible refine gate_dst (N := 6) rfl ?_); refine box_event ?hg (N := 6) ?hd (cs := #[.string (⟨#[]⟩ : ByteArray), .string (⟨#[]⟩ : ByteArray), .string (⟨#[]⟩ : ByteArray), .string (⟨#[]⟩ : ByteArray)]) (t := 27) ?hr ?_; (case hd => rfl); (case hg => rfl); (case hr => first | (go_simp; done) | (go_simp; rfl)); intro gb340002 hg w5 hbox hb; have n0_ := Aside0.mk (blk_below (g := gb340001) (o := .cells #[.int .i64 a0_0, .slice A0_1 l0_1.length c0_1] 30 (0, 0)) (by (with_reducible repeat (first | refine blk_drewN ?_ _ | refine blk_drew ?_ | refine blk_alloc ?_ _)); exact BK340001.out) hb); have n1_ := Aside0.mk (below_step (by repeat (first | (with_reducible first | exact HB.out | apply below_alloc | apply pw_below_drewN | apply below_drew1 | refine below_set ?_ GE340001.out) | exact HB.out)) hb); have n2_ := Aside0.mk (hbox); have n3_ := Aside0.mk ((by rw [hg]; exact (below_size (by repeat (first | (with_reducible first | exact HB.out | apply below_alloc | apply pw_below_drewN | apply below_drew1 | refine below_set ?_ GE340001.out) | exact HB.out))) : w.heap.size ≤ gb340002)); have n4_ := Aside0.mk ((by rw [hg]; exact (below_size (by repeat (first | (with_reducible first | exact HB.out | apply below_alloc | apply pw_below_drewN | apply below_drew1 | refine below_set ?_ GE340001.out) | exact HB.out))) : w.heap.size ≤ gb340002)); have n5_ := Aside0.mk ((by rw [hg]; exact Nat.ne_of_lt (blk_lt (g := gb340001) (o := .cells #[.int .i64 a0_0, .slice A0_1 l0_1.length c0_1] 30 (0, 0)) (by (with_reducible repeat (first | refine blk_drewN ?_ _ | refine blk_drew ?_ | refine blk_alloc ?_ _)); exact BK340001.out)) : gb340001 ≠ gb340002)); have n6_ := Aside0.mk ((by rw [hg]; exact Nat.ne_of_gt (blk_lt (g := gb340001) (o := .cells #[.int .i64 a0_0, .slice A0_1 l0_1.length c0_1] 30 (0, 0)) (by (with_reducible repeat (first | refine blk_drewN ?_ _ | refine blk_drew ?_ | refine blk_alloc ?_ _)); exact BK340001.out)) : gb340002 ≠ gb340001)); clear BK340001; clear HB; have BK340001 := n0_; have HB := n1_; have BK340002 := n2_; have GW340002 := n3_; have GE340002 := n4_; have NB340001_340002 := n5_; have NB340002_340001 := n6_; clear n0_ n1_ n2_ n3_ n4_ n5_ n6_; clear hb hbox hg))
  go_loopg [8] k (fun kq v8 w' => ∃ (x8_1 : Int) (x340003000_1 : ByteArray) (x340003001_1 : ByteArray) (x340003002_1 : ByteArray) (x340003003_1 : ByteArray), v8 = .int .i64 x8_1 ∧ Aside0 (spec_l3Find.l0 kq l1 a2 x8_1 a0_0 l0_1 = some (r1, r2, r3, r4, r5)) ∧ Aside0 (kq ≤ k) ∧ Aside0 (w'.heap[gb340001]? = some (.cells #[.int .i64 a0_0, (.slice A0_1 l0_1.length c0_1)] 30 (0, 0))) ∧ Aside0 (w'.heap[gb340002]? = some (.cells #[.string x340003000_1, .string x340003001_1, .string x340003002_1, .string x340003003_1] 27 (0, 0))) ∧ Aside0 (Below w.heap.size w w'))
  case atStart => exact ⟨(0), ((⟨#[]⟩ : ByteArray)), ((⟨#[]⟩ : ByteArray)), ((⟨#[]⟩ : ByteArray)), ((⟨#[]⟩ : ByteArray)), (by first | rfl | (simp; done) | (simp [*]; done)), H', ⟨Nat.le_refl _⟩, ⟨by (with_reducible repeat (first | refine blk_drewN ?_ _ | refine blk_drew ?_ | refine blk_alloc ?_ _)); exact BK340001.out⟩, ⟨by (with_reducible repeat (first | refine blk_drewN ?_ _ | refine blk_drew ?_ | refine blk_alloc ?_ _)); exact BK340002.out⟩, ⟨by repeat (first | (with_reducible first | exact HB.out | apply below_alloc | apply pw_below_drewN | apply below_drew1 | refine below_set ?_ GE340001.out | refine below_set ?_ GE340002.out) | exact HB.out)⟩⟩
  case round =>
    clear H'
    try clear c1
    try clear p2
    try clear c3
    obtain ⟨x8_1, x340003000_1, x340003001_1, x340003002_1, x340003003_1, rfl, HA, HK1, BK340001, BK340002, HB⟩ := hrel
    cases gk with
    | zero => exact absurd HA.out (by simp [spec_l3Find.l0])
    | succ k1 =>
      have H := HA.out
      clear HA
      simp only [spec_l3Find.l0] at H
      by_cases c6 : x8_1 < (l1.length : Int)
      · rw [if_pos c6] at H
        have c6b0 : decide (x8_1 < (l1.length : Int)) = true := decide_eq_true c6
        clear c6
        by_cases c7 : 0 ≤ x8_1
        · rw [if_pos c7] at H
          have c7b0 : decide (0 ≤ x8_1) = true := decide_eq_true c7
          clear c7
          by_cases c8 : (rdOf ByteArray.empty l1 x8_1).toList = a2.toList
          · rw [if_pos c8] at H
            have c8b0 : ((rdOf ByteArray.empty l1 x8_1).toList == a2.toList) = true := beq_iff_eq.mpr c8
            have c8b1 : ((rdOf ByteArray.empty l1 x8_1).toList != a2.toList) = false := bne_eq_false_iff_eq.mpr c8
            clear c8
            by_cases c9 : x8_1 < (l0_1.length : Int)
            · rw [if_pos c9] at H
              have c9b0 : decide (x8_1 < (l0_1.length : Int)) = true := decide_eq_true c9
              clear c9
              replace H := Option.bind_eq_some_iff.mp H
              obtain ⟨⟨t340005, t340006, t340007, t340008, t340009⟩, A100, H⟩ := H
              replace H : (if t340009 = true then (some (t340005, t340006, t340007, t340008, 0)) else (some ((⟨#[]⟩ : ByteArray), (⟨#[]⟩ : ByteArray), (⟨#[]⟩ : ByteArray), (⟨#[]⟩ : ByteArray), 3))) = some (r1, r2, r3, r4, r5) := H
              have A10 := Aside0.mk A100
              clear A100
              by_cases c11 : t340009 = true
              · subst c11
                have H1 : (some (t340005, t340006, t340007, t340008, 0)) = some (r1, r2, r3, r4, r5) := by rw [if_pos rfl] at H; exact H
                clear H
                have H := H1
                clear H1
                simp only [Option.some.injEq, Prod.mk.injEq] at H
                obtain ⟨rfl, rfl, rfl, rfl, rfl⟩ := H
                have p340003 : 0 ≤ (x8_1 : Int) := of_decide_eq_true (by first | (with_reducible assumption) | assumption)
                have q340003 : x8_1 < (l1.length : Int) := of_decide_eq_true (by first | (with_reducible assumption) | assumption)
                obtain ⟨ad340003, e340003, hx340003_0⟩ := Kd.at_string HR1.out x8_1 p340003 q340003
                cases e340003
                replace hx340003_0 := (HB.out.cell (World.block_lt_of_cell? w _ hx340003_0)).trans hx340003_0
                replace p340003 := eq_true p340003
                replace q340003 := eq_true q340003
                try go_wp2
                have n0_ := Aside0.mk (blk_drew BK340001.out)
                have n1_ := Aside0.mk (blk_drew BK340002.out)
                have n2_ := Aside0.mk (below_drew1 HB.out)
                clear BK340001
                clear BK340002
                clear HB
                have BK340001 := n0_
                have BK340002 := n1_
                have HB := n2_
                clear n0_ n1_ n2_
                have p340004 : 0 ≤ (x8_1 : Int) := of_decide_eq_true (by first | (with_reducible assumption) | assumption)
                have q340004 : x8_1 < (l0_1.length : Int) := of_decide_eq_true (by first | (with_reducible assumption) | assumption)
                obtain ⟨ad340004, e340004, hx340004_0⟩ := Kd.at_string HR0_1.out x8_1 p340004 q340004
                have hw340004_0 := hx340004_0
                cases e340004
                replace hx340004_0 := (HB.out.cell (World.block_lt_of_cell? w _ hx340004_0)).trans hx340004_0
                replace p340004 := eq_true p340004
                replace q340004 := eq_true q340004
                refine start_ (n := 14) (S := fun w' => w'.cell? ⟨gb340001, 0, none⟩ = some (.int .i64 a0_0) ∧ w'.cell? ⟨gb340001, 1, none⟩ = some (.slice (some ad340004) l0_1.length c0_1) ∧ w'.cell? (ad340004.add (x8_1).toNat) = some (.string (rdOf ByteArray.empty l0_1 x8_1))) (ds := []) #[false, false, false, false, false, false, false, false, false, false, false, false, false, false] (by kernel_rfl) rfl rfl ⟨(blk_cell BK340001.out 0).trans rfl, (blk_cell BK340001.out 1).trans rfl, ((HB.out.cell (World.block_lt_of_cell? w _ hw340004_0)).trans hw340004_0)⟩ (fun hHeld => ?_); refine with_tabW spec_l3Find.tab5 spec_l3Find.bits5 (fun HT_ HW_ => ?_)
                generalize wr.drew = w12 at BK340001 BK340002 HB hx340004_0 hHeld ⊢
                refine pure_ (i := 0) (N := some 24) (v := ?_) (a' := ?_) #[true, false, false, false, false, false, false, false, false, false, false, false, false, false] rfl rfl (any_of HT_.out (by kernel_rfl)) (fun _ _ _ h => h) (Or.inl ⟨by rfl, ?_⟩) ?_ ?_
                rotate_left
                · intro w'
                  go_simp
                  with_reducible rfl
                rotate_left
                · simp only [Act.put, List.setIfInBounds_toArray, List.set_cons_zero, List.set_cons_succ, i64_w, i32_w]
                  rfl
                refine pure_ (i := 2) (N := some 26) (v := ?_) (a' := ?_) #[true, false, true, false, false, false, false, false, false, false, false, false, false, false] rfl rfl (any_of HT_.out (by kernel_rfl)) (fun _ _ _ h => h) (Or.inl ⟨by rfl, ?_⟩) ?_ ?_
                rotate_left
                · intro w'
                  go_simp
                  with_reducible rfl
                rotate_left
                · simp only [Act.put, List.setIfInBounds_toArray, List.set_cons_zero, List.set_cons_succ, i64_w, i32_w]
                  rfl
                refine pure_ (i := 5) (N := some 29) (v := ?_) (a' := ?_) #[true, false, true, false, false, true, false, false, false, false, false, false, false, false] rfl rfl (any_of HT_.out (by kernel_rfl)) (fun _ _ _ h => h) (Or.inl ⟨by rfl, ?_⟩) ?_ ?_
                rotate_left
                · intro w'
                  go_simp
                  with_reducible rfl
                rotate_left
                · simp only [Act.put, List.setIfInBounds_toArray, List.set_cons_zero, List.set_cons_succ, i64_w, i32_w]
                  rfl
                refine take_ (i := 1) (N := some 25) (v := ?_) (a' := ?_) #[true, true, true, false, false, true, false, false, false, false, false, false, false, false] rfl rfl (take_ofW HT_.out HW_.out (by kernel_rfl)) (fun _ _ _ h => h) (Or.inl ⟨by rfl, ?_⟩) hHeld ?_ ?_
                rotate_left
                · rintro w' ⟨s0, s1, s2⟩
                  go_simp
                  with_reducible rfl
                rotate_left
                · simp only [Act.put, List.setIfInBounds_toArray, List.set_cons_zero, List.set_cons_succ, i64_w, i32_w]
                  rfl
                refine pure_ (i := 3) (N := some 27) (v := ?_) (a' := ?_) #[true, true, true, true, false, true, false, false, false, false, false, false, false, false] rfl rfl (any_of HT_.out (by kernel_rfl)) (fun _ _ _ h => h) (Or.inl ⟨by rfl, ?_⟩) ?_ ?_
                rotate_left
                · intro w'
                  go_simp
                  with_reducible rfl
                rotate_left
                · simp only [Act.put, List.setIfInBounds_toArray, List.set_cons_zero, List.set_cons_succ, i64_w, i32_w]
                  rfl
                refine take_ (i := 4) (N := some 28) (v := ?_) (a' := ?_) #[true, true, true, true, true, true, false, false, false, false, false, false, false, false] rfl rfl (take_ofW HT_.out HW_.out (by kernel_rfl)) (fun _ _ _ h => h) (Or.inl ⟨by rfl, ?_⟩) hHeld ?_ ?_
                rotate_left
                · rintro w' ⟨s0, s1, s2⟩
                  go_simp
                  with_reducible rfl
                rotate_left
                · simp only [Act.put, List.setIfInBounds_toArray, List.set_cons_zero, List.set_cons_succ, i64_w, i32_w]
                  rfl
                refine take_ (i := 6) (N := some 30) (v := ?_) (a' := ?_) #[true, true, true, true, true, true, true, false, false, false, false, false, false, false] rfl rfl (take_ofW HT_.out HW_.out (by kernel_rfl)) (fun _ _ _ h => h) (Or.inl ⟨by rfl, ?_⟩) hHeld ?_ ?_
                rotate_left
                · rintro w' ⟨s0, s1, s2⟩
                  go_simp
                  with_reducible rfl
                rotate_left
                · simp only [Act.put, List.setIfInBounds_toArray, List.set_cons_zero, List.set_cons_succ, i64_w, i32_w]
                  rfl
                refine join_ (σ := Nat) 2 #[true, true, true, true, true, true, true, true, true, true, true, true, false, false] (fun s_ => [(31, .tuple #[.agg #[.string t340005, .string t340006, .string t340007, .string t340008], .bool true]), (9, .pointer (some ⟨s_, 0, none⟩)), (23, .tuple #[.agg #[.string t340005, .string t340006, .string t340007, .string t340008], .bool true]), (32, .agg #[.string t340005, .string t340006, .string t340007, .string t340008]), (33, .bool true)]) (fun s_ w' => (w'.cell? ⟨gb340001, 0, none⟩ = some (.int .i64 a0_0) ∧ w'.cell? ⟨gb340001, 1, none⟩ = some (.slice (some ad340004) l0_1.length c0_1) ∧ w'.cell? (ad340004.add (x8_1).toNat) = some (.string (rdOf ByteArray.empty l0_1 x8_1))) ∧ (w'.heap[gb340001]? = some (.cells #[.int .i64 a0_0, .slice (some ad340004) l0_1.length c0_1] 30 (0, 0))) ∧ (w'.heap[gb340002]? = some (.cells #[.string x340003000_1, .string x340003001_1, .string x340003002_1, .string x340003003_1] 27 (0, 0))) ∧ (w'.heap[s_]? = some (.cells #[.string (⟨#[]⟩ : ByteArray), .string (⟨#[]⟩ : ByteArray), .string (⟨#[]⟩ : ByteArray), .string (⟨#[]⟩ : ByteArray)] 27 (0, 0))) ∧ (w.heap.size ≤ s_) ∧ (w.heap.size ≤ s_) ∧ (gb340001 ≠ s_) ∧ (s_ ≠ gb340001) ∧ (gb340002 ≠ s_) ∧ (s_ ≠ gb340002) ∧ (Below w.heap.size w w')) ?_ ?_
                rotate_left
                · intro hCont
                  refine two_ (i := 7) (j := 11) (Ni := some 31) (Nj := some 9) #[true, true, true, true, true, true, true, true, false, false, false, false, false, false] #[true, true, true, true, true, true, true, false, false, false, false, true, false, false] rfl rfl rfl rfl (two_of HT_.out (by kernel_rfl)) (by decide) (by decide) (fun K hK => ?_) (fun K hK => ?_)
                  · skip
                    refine goes_ Tryd.func73 (by kernel_rfl) rfl #[.string (rdOf ByteArray.empty l0_1 x8_1), .int .i64 a0_0] (by rfl) rfl rfl (by (try simp only [List.map_toArray, List.map_cons, List.map_nil]); first | done | rfl | (simp only [List.length_drop, List.length_take]; rfl)) ?_
                    with_reducible refine (spec_DecodeNode.calls (rdOf ByteArray.empty l0_1 x8_1) a0_0 t340005 t340006 t340007 t340008 true _ A10.out).mono ?_
                    rintro e w13 ⟨rfl, hb⟩
                    refine ⟨_, rfl, ?_⟩
                    have n0_ := Aside0.mk (blk_below (g := gb340001) (o := .cells #[.int .i64 a0_0, .slice (some ad340004) l0_1.length c0_1] 30 (0, 0)) (by (with_reducible repeat (first | refine blk_drewN ?_ _ | refine blk_drew ?_ | refine blk_alloc ?_ _)); exact BK340001.out) hb)
                    have n1_ := Aside0.mk (blk_below (g := gb340002) (o := .cells #[.string x340003000_1, .string x340003001_1, .string x340003002_1, .string x340003003_1] 27 (0, 0)) (by (with_reducible repeat (first | refine blk_drewN ?_ _ | refine blk_drew ?_ | refine blk_alloc ?_ _)); exact BK340002.out) hb)
                    have n2_ := Aside0.mk (below_step (by repeat (first | (with_reducible first | exact HB.out | apply below_alloc | apply pw_below_drewN | apply below_drew1 | refine below_set ?_ GE340001.out | refine below_set ?_ GE340002.out) | exact HB.out)) hb)
                    clear BK340001
                    clear BK340002
                    clear HB
                    have BK340001 := n0_
                    have BK340002 := n1_
                    have HB := n2_
                    clear n0_ n1_ n2_
                    (try clear hb)
                    (try clear hb2)
                    (try clear hk)
                    (try clear hi)
                    refine hK.out _ _ ⟨(blk_cell BK340001.out 0).trans rfl, (blk_cell BK340001.out 1).trans rfl, ((HB.out.cell (World.block_lt_of_cell? w _ hw340004_0)).trans hw340004_0)⟩ (fun hHeld => ?_)
                    clear hK K
                    refine norm_ (a' := ?_) ?_ ?_
                    rotate_left
                    · show Act.put _ (some 31) _ = _
                      simp only [Act.put, List.setIfInBounds_toArray, List.set_cons_zero, List.set_cons_succ, i64_w, i32_w]
                      rfl
                    refine pure_ (i := 8) (N := some 23) (v := ?_) (a' := ?_) #[true, true, true, true, true, true, true, true, true, false, false, false, false, false] rfl rfl (any_of HT_.out (by kernel_rfl)) (fun _ _ _ h => h) (Or.inl ⟨by rfl, ?_⟩) ?_ ?_
                    rotate_left
                    · intro w'
                      go_simp
                      with_reducible rfl
                    rotate_left
                    · simp only [Act.put, List.setIfInBounds_toArray, List.set_cons_zero, List.set_cons_succ, i64_w, i32_w]
                      rfl
                    refine pure_ (i := 9) (N := some 32) (v := ?_) (a' := ?_) #[true, true, true, true, true, true, true, true, true, true, false, false, false, false] rfl rfl (any_of HT_.out (by kernel_rfl)) (fun _ _ _ h => h) (Or.inl ⟨by rfl, ?_⟩) ?_ ?_
                    rotate_left
                    · intro w'
                      go_simp
                      with_reducible rfl
                    rotate_left
                    · simp only [Act.put, List.setIfInBounds_toArray, List.set_cons_zero, List.set_cons_succ, i64_w, i32_w]
                      rfl
                    refine pure_ (i := 10) (N := some 33) (v := ?_) (a' := ?_) #[true, true, true, true, true, true, true, true, true, true, true, false, false, false] rfl rfl (any_of HT_.out (by kernel_rfl)) (fun _ _ _ h => h) (Or.inl ⟨by rfl, ?_⟩) ?_ ?_
                    rotate_left
                    · intro w'
                      go_simp
                      with_reducible rfl
                    rotate_left
                    · simp only [Act.put, List.setIfInBounds_toArray, List.set_cons_zero, List.set_cons_succ, i64_w, i32_w]
                      rfl
                    refine one_ (i := 11) (N := some 9) #[true, true, true, true, true, true, true, true, true, true, true, true, false, false] rfl rfl (one_of HT_.out (by kernel_rfl)) (by decide) (fun K hK => ?_)
                    refine box_step ?hg (N := 9) ?hd (cs := #[.string (⟨#[]⟩ : ByteArray), .string (⟨#[]⟩ : ByteArray), .string (⟨#[]⟩ : ByteArray), .string (⟨#[]⟩ : ByteArray)]) (t := 27) ?hr ?_; (case hd => rfl); (case hg => rfl); (case hr => first | (go_simp; done) | (go_simp; rfl))
                    intro gb340010 hg w14 hbox hb
                    have n0_ := Aside0.mk (blk_below (g := gb340001) (o := .cells #[.int .i64 a0_0, .slice (some ad340004) l0_1.length c0_1] 30 (0, 0)) (by (with_reducible repeat (first | refine blk_drewN ?_ _ | refine blk_drew ?_ | refine blk_alloc ?_ _)); exact BK340001.out) hb)
                    have n1_ := Aside0.mk (blk_below (g := gb340002) (o := .cells #[.string x340003000_1, .string x340003001_1, .string x340003002_1, .string x340003003_1] 27 (0, 0)) (by (with_reducible repeat (first | refine blk_drewN ?_ _ | refine blk_drew ?_ | refine blk_alloc ?_ _)); exact BK340002.out) hb)
                    have n2_ := Aside0.mk (below_step (by repeat (first | (with_reducible first | exact HB.out | apply below_alloc | apply pw_below_drewN | apply below_drew1 | refine below_set ?_ GE340001.out | refine below_set ?_ GE340002.out) | exact HB.out)) hb)
                    have n3_ := Aside0.mk (hbox)
                    have n4_ := Aside0.mk ((by rw [hg]; exact (below_size (by repeat (first | (with_reducible first | exact HB.out | apply below_alloc | apply pw_below_drewN | apply below_drew1 | refine below_set ?_ GE340001.out | refine below_set ?_ GE340002.out) | exact HB.out))) : w.heap.size ≤ gb340010))
                    have n5_ := Aside0.mk ((by rw [hg]; exact (below_size (by repeat (first | (with_reducible first | exact HB.out | apply below_alloc | apply pw_below_drewN | apply below_drew1 | refine below_set ?_ GE340001.out | refine below_set ?_ GE340002.out) | exact HB.out))) : w.heap.size ≤ gb340010))
                    have n6_ := Aside0.mk ((by rw [hg]; exact Nat.ne_of_lt (blk_lt (g := gb340001) (o := .cells #[.int .i64 a0_0, .slice (some ad340004) l0_1.length c0_1] 30 (0, 0)) (by (with_reducible repeat (first | refine blk_drewN ?_ _ | refine blk_drew ?_ | refine blk_alloc ?_ _)); exact BK340001.out)) : gb340001 ≠ gb340010))
                    have n7_ := Aside0.mk ((by rw [hg]; exact Nat.ne_of_gt (blk_lt (g := gb340001) (o := .cells #[.int .i64 a0_0, .slice (some ad340004) l0_1.length c0_1] 30 (0, 0)) (by (with_reducible repeat (first | refine blk_drewN ?_ _ | refine blk_drew ?_ | refine blk_alloc ?_ _)); exact BK340001.out)) : gb340010 ≠ gb340001))
                    have n8_ := Aside0.mk ((by rw [hg]; exact Nat.ne_of_lt (blk_lt (g := gb340002) (o := .cells #[.string x340003000_1, .string x340003001_1, .string x340003002_1, .string x340003003_1] 27 (0, 0)) (by (with_reducible repeat (first | refine blk_drewN ?_ _ | refine blk_drew ?_ | refine blk_alloc ?_ _)); exact BK340002.out)) : gb340002 ≠ gb340010))
                    have n9_ := Aside0.mk ((by rw [hg]; exact Nat.ne_of_gt (blk_lt (g := gb340002) (o := .cells #[.string x340003000_1, .string x340003001_1, .string x340003002_1, .string x340003003_1] 27 (0, 0)) (by (with_reducible repeat (first | refine blk_drewN ?_ _ | refine blk_drew ?_ | refine blk_alloc ?_ _)); exact BK340002.out)) : gb340010 ≠ gb340002))
                    clear BK340001
                    clear BK340002
                    clear HB
                    have BK340001 := n0_
                    have BK340002 := n1_
                    have HB := n2_
                    have BK340010 := n3_
                    have GW340010 := n4_
                    have GE340010 := n5_
                    have NB340001_340010 := n6_
                    have NB340010_340001 := n7_
                    have NB340002_340010 := n8_
                    have NB340010_340002 := n9_
                    clear n0_ n1_ n2_ n3_ n4_ n5_ n6_ n7_ n8_ n9_
                    clear hb hbox hg
                    refine hK.out _ _ ⟨(blk_cell BK340001.out 0).trans rfl, (blk_cell BK340001.out 1).trans rfl, ((HB.out.cell (World.block_lt_of_cell? w _ hw340004_0)).trans hw340004_0)⟩ (fun hHeld => ?_)
                    clear hK K
                    refine norm_ (a' := ?_) ?_ ?_
                    rotate_left
                    · show Act.put _ (some 9) _ = _
                      simp only [Act.put, List.setIfInBounds_toArray, List.set_cons_zero, List.set_cons_succ, i64_w, i32_w]
                      rfl
                    exact norm_ (by simp only [putAll, Act.put, List.setIfInBounds_toArray, List.set_cons_zero, List.set_cons_succ]) (hCont (gb340010) _ ⟨hHeld, (by (with_reducible repeat (first | refine blk_drewN ?_ _ | refine blk_drew ?_ | refine blk_alloc ?_ _)); exact BK340001.out), (by (with_reducible repeat (first | refine blk_drewN ?_ _ | refine blk_drew ?_ | refine blk_alloc ?_ _)); exact BK340002.out), (by (with_reducible repeat (first | refine blk_drewN ?_ _ | refine blk_drew ?_ | refine blk_alloc ?_ _)); exact BK340010.out), GW340010.out, GE340010.out, NB340001_340010.out, NB340010_340001.out, NB340002_340010.out, NB340010_340002.out, (by repeat (first | (with_reducible first | exact HB.out | apply below_alloc | apply pw_below_drewN | apply below_drew1 | refine below_set ?_ GE340001.out | refine below_set ?_ GE340002.out | refine below_set ?_ GE340010.out) | exact HB.out))⟩)
                  · skip
                    refine box_step ?hg (N := 9) ?hd (cs := #[.string (⟨#[]⟩ : ByteArray), .string (⟨#[]⟩ : ByteArray), .string (⟨#[]⟩ : ByteArray), .string (⟨#[]⟩ : ByteArray)]) (t := 27) ?hr ?_; (case hd => rfl); (case hg => rfl); (case hr => first | (go_simp; done) | (go_simp; rfl))
                    intro gb340010 hg w13 hbox hb
                    have n0_ := Aside0.mk (blk_below (g := gb340001) (o := .cells #[.int .i64 a0_0, .slice (some ad340004) l0_1.length c0_1] 30 (0, 0)) (by (with_reducible repeat (first | refine blk_drewN ?_ _ | refine blk_drew ?_ | refine blk_alloc ?_ _)); exact BK340001.out) hb)
                    have n1_ := Aside0.mk (blk_below (g := gb340002) (o := .cells #[.string x340003000_1, .string x340003001_1, .string x340003002_1, .string x340003003_1] 27 (0, 0)) (by (with_reducible repeat (first | refine blk_drewN ?_ _ | refine blk_drew ?_ | refine blk_alloc ?_ _)); exact BK340002.out) hb)
                    have n2_ := Aside0.mk (below_step (by repeat (first | (with_reducible first | exact HB.out | apply below_alloc | apply pw_below_drewN | apply below_drew1 | refine below_set ?_ GE340001.out | refine below_set ?_ GE340002.out) | exact HB.out)) hb)
                    have n3_ := Aside0.mk (hbox)
                    have n4_ := Aside0.mk ((by rw [hg]; exact (below_size (by repeat (first | (with_reducible first | exact HB.out | apply below_alloc | apply pw_below_drewN | apply below_drew1 | refine below_set ?_ GE340001.out | refine below_set ?_ GE340002.out) | exact HB.out))) : w.heap.size ≤ gb340010))
                    have n5_ := Aside0.mk ((by rw [hg]; exact (below_size (by repeat (first | (with_reducible first | exact HB.out | apply below_alloc | apply pw_below_drewN | apply below_drew1 | refine below_set ?_ GE340001.out | refine below_set ?_ GE340002.out) | exact HB.out))) : w.heap.size ≤ gb340010))
                    have n6_ := Aside0.mk ((by rw [hg]; exact Nat.ne_of_lt (blk_lt (g := gb340001) (o := .cells #[.int .i64 a0_0, .slice (some ad340004) l0_1.length c0_1] 30 (0, 0)) (by (with_reducible repeat (first | refine blk_drewN ?_ _ | refine blk_drew ?_ | refine blk_alloc ?_ _)); exact BK340001.out)) : gb340001 ≠ gb340010))
                    have n7_ := Aside0.mk ((by rw [hg]; exact Nat.ne_of_gt (blk_lt (g := gb340001) (o := .cells #[.int .i64 a0_0, .slice (some ad340004) l0_1.length c0_1] 30 (0, 0)) (by (with_reducible repeat (first | refine blk_drewN ?_ _ | refine blk_drew ?_ | refine blk_alloc ?_ _)); exact BK340001.out)) : gb340010 ≠ gb340001))
                    have n8_ := Aside0.mk ((by rw [hg]; exact Nat.ne_of_lt (blk_lt (g := gb340002) (o := .cells #[.string x340003000_1, .string x340003001_1, .string x340003002_1, .string x340003003_1] 27 (0, 0)) (by (with_reducible repeat (first | refine blk_drewN ?_ _ | refine blk_drew ?_ | refine blk_alloc ?_ _)); exact BK340002.out)) : gb340002 ≠ gb340010))
                    have n9_ := Aside0.mk ((by rw [hg]; exact Nat.ne_of_gt (blk_lt (g := gb340002) (o := .cells #[.string x340003000_1, .string x340003001_1, .string x340003002_1, .string x340003003_1] 27 (0, 0)) (by (with_reducible repeat (first | refine blk_drewN ?_ _ | refine blk_drew ?_ | refine blk_alloc ?_ _)); exact BK340002.out)) : gb340010 ≠ gb340002))
                    clear BK340001
                    clear BK340002
                    clear HB
                    have BK340001 := n0_
                    have BK340002 := n1_
                    have HB := n2_
                    have BK340010 := n3_
                    have GW340010 := n4_
                    have GE340010 := n5_
                    have NB340001_340010 := n6_
                    have NB340010_340001 := n7_
                    have NB340002_340010 := n8_
                    have NB340010_340002 := n9_
                    clear n0_ n1_ n2_ n3_ n4_ n5_ n6_ n7_ n8_ n9_
                    clear hb hbox hg
                    refine hK.out _ _ ⟨(blk_cell BK340001.out 0).trans rfl, (blk_cell BK340001.out 1).trans rfl, ((HB.out.cell (World.block_lt_of_cell? w _ hw340004_0)).trans hw340004_0)⟩ (fun hHeld => ?_)
                    clear hK K
                    refine norm_ (a' := ?_) ?_ ?_
                    rotate_left
                    · show Act.put _ (some 9) _ = _
                      simp only [Act.put, List.setIfInBounds_toArray, List.set_cons_zero, List.set_cons_succ, i64_w, i32_w]
                      rfl
                    refine one_ (i := 7) (N := some 31) #[true, true, true, true, true, true, true, true, false, false, false, true, false, false] rfl rfl (one_of HT_.out (by kernel_rfl)) (by decide) (fun K hK => ?_)
                    refine goes_ Tryd.func73 (by kernel_rfl) rfl #[.string (rdOf ByteArray.empty l0_1 x8_1), .int .i64 a0_0] (by rfl) rfl rfl (by (try simp only [List.map_toArray, List.map_cons, List.map_nil]); first | done | rfl | (simp only [List.length_drop, List.length_take]; rfl)) ?_
                    with_reducible refine (spec_DecodeNode.calls (rdOf ByteArray.empty l0_1 x8_1) a0_0 t340005 t340006 t340007 t340008 true _ A10.out).mono ?_
                    rintro e w14 ⟨rfl, hb⟩
                    refine ⟨_, rfl, ?_⟩
                    have n0_ := Aside0.mk (blk_below (g := gb340001) (o := .cells #[.int .i64 a0_0, .slice (some ad340004) l0_1.length c0_1] 30 (0, 0)) (by (with_reducible repeat (first | refine blk_drewN ?_ _ | refine blk_drew ?_ | refine blk_alloc ?_ _)); exact BK340001.out) hb)
                    have n1_ := Aside0.mk (blk_below (g := gb340002) (o := .cells #[.string x340003000_1, .string x340003001_1, .string x340003002_1, .string x340003003_1] 27 (0, 0)) (by (with_reducible repeat (first | refine blk_drewN ?_ _ | refine blk_drew ?_ | refine blk_alloc ?_ _)); exact BK340002.out) hb)
                    have n2_ := Aside0.mk (blk_below (g := gb340010) (o := .cells #[.string (⟨#[]⟩ : ByteArray), .string (⟨#[]⟩ : ByteArray), .string (⟨#[]⟩ : ByteArray), .string (⟨#[]⟩ : ByteArray)] 27 (0, 0)) (by (with_reducible repeat (first | refine blk_drewN ?_ _ | refine blk_drew ?_ | refine blk_alloc ?_ _)); exact BK340010.out) hb)
                    have n3_ := Aside0.mk (below_step (by repeat (first | (with_reducible first | exact HB.out | apply below_alloc | apply pw_below_drewN | apply below_drew1 | refine below_set ?_ GE340001.out | refine below_set ?_ GE340002.out | refine below_set ?_ GE340010.out) | exact HB.out)) hb)
                    clear BK340001
                    clear BK340002
                    clear BK340010
                    clear HB
                    have BK340001 := n0_
                    have BK340002 := n1_
                    have BK340010 := n2_
                    have HB := n3_
                    clear n0_ n1_ n2_ n3_
                    (try clear hb)
                    (try clear hb2)
                    (try clear hk)
                    (try clear hi)
                    refine hK.out _ _ ⟨(blk_cell BK340001.out 0).trans rfl, (blk_cell BK340001.out 1).trans rfl, ((HB.out.cell (World.block_lt_of_cell? w _ hw340004_0)).trans hw340004_0)⟩ (fun hHeld => ?_)
                    clear hK K
                    refine norm_ (a' := ?_) ?_ ?_
                    rotate_left
                    · show Act.put _ (some 31) _ = _
                      simp only [Act.put, List.setIfInBounds_toArray, List.set_cons_zero, List.set_cons_succ, i64_w, i32_w]
                      rfl
                    refine pure_ (i := 8) (N := some 23) (v := ?_) (a' := ?_) #[true, true, true, true, true, true, true, true, true, false, false, true, false, false] rfl rfl (any_of HT_.out (by kernel_rfl)) (fun _ _ _ h => h) (Or.inl ⟨by rfl, ?_⟩) ?_ ?_
                    rotate_left
                    · intro w'
                      go_simp
                      with_reducible rfl
                    rotate_left
                    · simp only [Act.put, List.setIfInBounds_toArray, List.set_cons_zero, List.set_cons_succ, i64_w, i32_w]
                      rfl
                    refine pure_ (i := 9) (N := some 32) (v := ?_) (a' := ?_) #[true, true, true, true, true, true, true, true, true, true, false, true, false, false] rfl rfl (any_of HT_.out (by kernel_rfl)) (fun _ _ _ h => h) (Or.inl ⟨by rfl, ?_⟩) ?_ ?_
                    rotate_left
                    · intro w'
                      go_simp
                      with_reducible rfl
                    rotate_left
                    · simp only [Act.put, List.setIfInBounds_toArray, List.set_cons_zero, List.set_cons_succ, i64_w, i32_w]
                      rfl
                    refine pure_ (i := 10) (N := some 33) (v := ?_) (a' := ?_) #[true, true, true, true, true, true, true, true, true, true, true, true, false, false] rfl rfl (any_of HT_.out (by kernel_rfl)) (fun _ _ _ h => h) (Or.inl ⟨by rfl, ?_⟩) ?_ ?_
                    rotate_left
                    · intro w'
                      go_simp
                      with_reducible rfl
                    rotate_left
                    · simp only [Act.put, List.setIfInBounds_toArray, List.set_cons_zero, List.set_cons_succ, i64_w, i32_w]
                      rfl
                    exact norm_ (by simp only [putAll, Act.put, List.setIfInBounds_toArray, List.set_cons_zero, List.set_cons_succ]) (hCont (gb340010) _ ⟨hHeld, (by (with_reducible repeat (first | refine blk_drewN ?_ _ | refine blk_drew ?_ | refine blk_alloc ?_ _)); exact BK340001.out), (by (with_reducible repeat (first | refine blk_drewN ?_ _ | refine blk_drew ?_ | refine blk_alloc ?_ _)); exact BK340002.out), (by (with_reducible repeat (first | refine blk_drewN ?_ _ | refine blk_drew ?_ | refine blk_alloc ?_ _)); exact BK340010.out), GW340010.out, GE340010.out, NB340001_340010.out, NB340010_340001.out, NB340002_340010.out, NB340010_340002.out, (by repeat (first | (with_reducible first | exact HB.out | apply below_alloc | apply pw_below_drewN | apply below_drew1 | refine below_set ?_ GE340001.out | refine below_set ?_ GE340002.out | refine below_set ?_ GE340010.out) | exact HB.out))⟩)
                rintro gb340010 w15 ⟨hS_, h0_, h1_, h2_, h3_, h4_, h5_, h6_, h7_, h8_, h9_⟩
                have n0_ : Aside0 (w15.heap[gb340001]? = some (.cells #[.int .i64 a0_0, .slice (some ad340004) l0_1.length c0_1] 30 (0, 0))) := ⟨h0_⟩
                have n1_ : Aside0 (w15.heap[gb340002]? = some (.cells #[.string x340003000_1, .string x340003001_1, .string x340003002_1, .string x340003003_1] 27 (0, 0))) := ⟨h1_⟩
                have n2_ : Aside0 (w15.heap[gb340010]? = some (.cells #[.string (⟨#[]⟩ : ByteArray), .string (⟨#[]⟩ : ByteArray), .string (⟨#[]⟩ : ByteArray), .string (⟨#[]⟩ : ByteArray)] 27 (0, 0))) := ⟨h2_⟩
                have n3_ : Aside0 (w.heap.size ≤ gb340010) := ⟨h3_⟩
                have n4_ : Aside0 (w.heap.size ≤ gb340010) := ⟨h4_⟩
                have n5_ : Aside0 (gb340001 ≠ gb340010) := ⟨h5_⟩
                have n6_ : Aside0 (gb340010 ≠ gb340001) := ⟨h6_⟩
                have n7_ : Aside0 (gb340002 ≠ gb340010) := ⟨h7_⟩
                have n8_ : Aside0 (gb340010 ≠ gb340002) := ⟨h8_⟩
                have n9_ : Aside0 (Below w.heap.size w w15) := ⟨h9_⟩
                clear BK340001
                clear BK340002
                clear HB
                clear h0_ h1_ h2_ h3_ h4_ h5_ h6_ h7_ h8_ h9_
                have BK340001 := n0_
                have BK340002 := n1_
                have BK340010 := n2_
                have GW340010 := n3_
                have GE340010 := n4_
                have NB340001_340010 := n5_
                have NB340010_340001 := n6_
                have NB340002_340010 := n7_
                have NB340010_340002 := n8_
                have HB := n9_
                clear n0_ n1_ n2_ n3_ n4_ n5_ n6_ n7_ n8_ n9_
                have hHeld : w15.cell? ⟨gb340001, 0, none⟩ = some (.int .i64 a0_0) ∧ w15.cell? ⟨gb340001, 1, none⟩ = some (.slice (some ad340004) l0_1.length c0_1) ∧ w15.cell? (ad340004.add (x8_1).toNat) = some (.string (rdOf ByteArray.empty l0_1 x8_1)) := hS_
                refine norm_ (a' := ?_) ?_ ?_
                rotate_left
                · simp only [putAll, Act.put, List.setIfInBounds_toArray, List.set_cons_zero, List.set_cons_succ]
                  rfl
                refine one_ (i := 12) (N := none) #[true, true, true, true, true, true, true, true, true, true, true, true, true, false] rfl rfl (one_of HT_.out (by kernel_rfl)) (by decide) (fun K hK => ?_)
                have hs16 : w15.cell? ⟨gb340010, 0, none⟩ = some (.string (⟨#[]⟩ : ByteArray)) := (blk_cell BK340010.out 0).trans rfl
                have hfs16 := blk_frozen BK340010.out 0
                have hns16_0 := NB340001_340010.out
                have hns16_1 := NB340002_340010.out
                have hms16_0 := NB340010_340001.out
                have hms16_1 := NB340010_340002.out
                have hs17 : w15.cell? ⟨gb340010, 1, none⟩ = some (.string (⟨#[]⟩ : ByteArray)) := (blk_cell BK340010.out 1).trans rfl
                have hfs17 := blk_frozen BK340010.out 1
                have hns17_0 := NB340001_340010.out
                have hns17_1 := NB340002_340010.out
                have hms17_0 := NB340010_340001.out
                have hms17_1 := NB340010_340002.out
                have hs18 : w15.cell? ⟨gb340010, 2, none⟩ = some (.string (⟨#[]⟩ : ByteArray)) := (blk_cell BK340010.out 2).trans rfl
                have hfs18 := blk_frozen BK340010.out 2
                have hns18_0 := NB340001_340010.out
                have hns18_1 := NB340002_340010.out
                have hms18_0 := NB340010_340001.out
                have hms18_1 := NB340010_340002.out
                have hs19 : w15.cell? ⟨gb340010, 3, none⟩ = some (.string (⟨#[]⟩ : ByteArray)) := (blk_cell BK340010.out 3).trans rfl
                have hfs19 := blk_frozen BK340010.out 3
                have hns19_0 := NB340001_340010.out
                have hns19_1 := NB340002_340010.out
                have hms19_0 := NB340010_340001.out
                have hms19_1 := NB340010_340002.out
                refine skip_ (w1 := ?_) (by rfl) rfl ?_ ?_
                rotate_left
                · go_simp
                  rfl
                refine hK.out _ _ ⟨((cell_far (p := ⟨gb340010, _, none⟩) NB340001_340010.out _).trans (((cell_far (p := ⟨gb340010, _, none⟩) NB340001_340010.out _).trans (((cell_far (p := ⟨gb340010, _, none⟩) NB340001_340010.out _).trans (((cell_far (p := ⟨gb340010, _, none⟩) NB340001_340010.out _).trans (hHeld.1)))))))), ((cell_far (p := ⟨gb340010, _, none⟩) NB340001_340010.out _).trans (((cell_far (p := ⟨gb340010, _, none⟩) NB340001_340010.out _).trans (((cell_far (p := ⟨gb340010, _, none⟩) NB340001_340010.out _).trans (((cell_far (p := ⟨gb340010, _, none⟩) NB340001_340010.out _).trans (hHeld.2.1)))))))), ((cell_far (p := ⟨gb340010, _, none⟩) (by first | exact Nat.ne_of_lt (Nat.lt_of_lt_of_le (by have := World.block_lt_of_cell? _ _ hw340004_0; first | rwa [add_block] at this | exact this) GW340010.out) | (rw [add_block]; exact Nat.ne_of_lt (Nat.lt_of_lt_of_le (by have := World.block_lt_of_cell? _ _ hw340004_0; first | rwa [add_block] at this | exact this) GW340010.out)) | (show (Addr.add _ _).block ≠ _; rw [add_block]; exact Nat.ne_of_lt (Nat.lt_of_lt_of_le (by have := World.block_lt_of_cell? _ _ hw340004_0; first | rwa [add_block] at this | exact this) GW340010.out)) | (dsimp only; exact Nat.ne_of_lt (Nat.lt_of_lt_of_le (by have := World.block_lt_of_cell? _ _ hw340004_0; first | rwa [add_block] at this | exact this) GW340010.out))) _).trans (((cell_far (p := ⟨gb340010, _, none⟩) (by first | exact Nat.ne_of_lt (Nat.lt_of_lt_of_le (by have := World.block_lt_of_cell? _ _ hw340004_0; first | rwa [add_block] at this | exact this) GW340010.out) | (rw [add_block]; exact Nat.ne_of_lt (Nat.lt_of_lt_of_le (by have := World.block_lt_of_cell? _ _ hw340004_0; first | rwa [add_block] at this | exact this) GW340010.out)) | (show (Addr.add _ _).block ≠ _; rw [add_block]; exact Nat.ne_of_lt (Nat.lt_of_lt_of_le (by have := World.block_lt_of_cell? _ _ hw340004_0; first | rwa [add_block] at this | exact this) GW340010.out)) | (dsimp only; exact Nat.ne_of_lt (Nat.lt_of_lt_of_le (by have := World.block_lt_of_cell? _ _ hw340004_0; first | rwa [add_block] at this | exact this) GW340010.out))) _).trans (((cell_far (p := ⟨gb340010, _, none⟩) (by first | exact Nat.ne_of_lt (Nat.lt_of_lt_of_le (by have := World.block_lt_of_cell? _ _ hw340004_0; first | rwa [add_block] at this | exact this) GW340010.out) | (rw [add_block]; exact Nat.ne_of_lt (Nat.lt_of_lt_of_le (by have := World.block_lt_of_cell? _ _ hw340004_0; first | rwa [add_block] at this | exact this) GW340010.out)) | (show (Addr.add _ _).block ≠ _; rw [add_block]; exact Nat.ne_of_lt (Nat.lt_of_lt_of_le (by have := World.block_lt_of_cell? _ _ hw340004_0; first | rwa [add_block] at this | exact this) GW340010.out)) | (dsimp only; exact Nat.ne_of_lt (Nat.lt_of_lt_of_le (by have := World.block_lt_of_cell? _ _ hw340004_0; first | rwa [add_block] at this | exact this) GW340010.out))) _).trans (((cell_far (p := ⟨gb340010, _, none⟩) (by first | exact Nat.ne_of_lt (Nat.lt_of_lt_of_le (by have := World.block_lt_of_cell? _ _ hw340004_0; first | rwa [add_block] at this | exact this) GW340010.out) | (rw [add_block]; exact Nat.ne_of_lt (Nat.lt_of_lt_of_le (by have := World.block_lt_of_cell? _ _ hw340004_0; first | rwa [add_block] at this | exact this) GW340010.out)) | (show (Addr.add _ _).block ≠ _; rw [add_block]; exact Nat.ne_of_lt (Nat.lt_of_lt_of_le (by have := World.block_lt_of_cell? _ _ hw340004_0; first | rwa [add_block] at this | exact this) GW340010.out)) | (dsimp only; exact Nat.ne_of_lt (Nat.lt_of_lt_of_le (by have := World.block_lt_of_cell? _ _ hw340004_0; first | rwa [add_block] at this | exact this) GW340010.out))) _).trans (hHeld.2.2))))))))⟩ (fun hHeld => ?_)
                clear hK K
                refine pure_ (i := 13) (N := some 10) (v := ?_) (a' := ?_) #[true, true, true, true, true, true, true, true, true, true, true, true, true, true] rfl rfl (any_of HT_.out (by kernel_rfl)) (fun _ _ _ h => h) (Or.inl ⟨by rfl, ?_⟩) ?_ ?_
                rotate_left
                · intro w'
                  go_simp
                  with_reducible rfl
                rotate_left
                · simp only [Act.put, List.setIfInBounds_toArray, List.set_cons_zero, List.set_cons_succ, i64_w, i32_w]
                  rfl
                refine done_ (done_of HT_.out (by kernel_rfl)) ?_
                have hnb20 := NB340010_340001.out
                have hnc20 := NB340001_340010.out
                have hnb21 := NB340010_340002.out
                have hnc21 := NB340002_340010.out
                have hcz22_0 : w15.cell? ⟨gb340010, 0, none⟩ = some (.string (⟨#[]⟩ : ByteArray)) := (blk_cell BK340010.out 0).trans rfl
                have hcz22_1 : w15.cell? ⟨gb340010, 1, none⟩ = some (.string (⟨#[]⟩ : ByteArray)) := (blk_cell BK340010.out 1).trans rfl
                have hcz22_2 : w15.cell? ⟨gb340010, 2, none⟩ = some (.string (⟨#[]⟩ : ByteArray)) := (blk_cell BK340010.out 2).trans rfl
                have hcz22_3 : w15.cell? ⟨gb340010, 3, none⟩ = some (.string (⟨#[]⟩ : ByteArray)) := (blk_cell BK340010.out 3).trans rfl
                have hfz22_0 := blk_frozen BK340010.out 0
                have hfz22_1 := blk_frozen BK340010.out 1
                have hfz22_2 := blk_frozen BK340010.out 2
                have hfz22_3 := blk_frozen BK340010.out 3
                have hnb23 := NB340002_340001.out
                have hnc23 := NB340001_340002.out
                have hcz24_0 : w15.cell? ⟨gb340002, 0, none⟩ = some (.string x340003000_1) := (blk_cell BK340002.out 0).trans rfl
                have hcz24_1 : w15.cell? ⟨gb340002, 1, none⟩ = some (.string x340003001_1) := (blk_cell BK340002.out 1).trans rfl
                have hcz24_2 : w15.cell? ⟨gb340002, 2, none⟩ = some (.string x340003002_1) := (blk_cell BK340002.out 2).trans rfl
                have hcz24_3 : w15.cell? ⟨gb340002, 3, none⟩ = some (.string x340003003_1) := (blk_cell BK340002.out 3).trans rfl
                have hfz24_0 := blk_frozen BK340002.out 0
                have hfz24_1 := blk_frozen BK340002.out 1
                have hfz24_2 := blk_frozen BK340002.out 2
                have hfz24_3 := blk_frozen BK340002.out 3
                try go_wp2
                refine bodyPost_ret (results_ct rfl _ _ gb340002 27 #[.string t340005, .string t340006, .string t340007, .string t340008] (0, 0) _ rfl (by (with_reducible repeat (first | refine blk_drewN ?_ _ | refine blk_drew ?_ | refine blk_alloc ?_ _)); refine blk_put (cs := #[.string t340005, .string t340006, .string t340007, .string x340003003_1]) ?_ 3 _ rfl; (with_reducible repeat (first | refine blk_drewN ?_ _ | refine blk_drew ?_ | refine blk_alloc ?_ _)); refine blk_put (cs := #[.string t340005, .string t340006, .string x340003002_1, .string x340003003_1]) ?_ 2 _ rfl; (with_reducible repeat (first | refine blk_drewN ?_ _ | refine blk_drew ?_ | refine blk_alloc ?_ _)); refine blk_put (cs := #[.string t340005, .string x340003001_1, .string x340003002_1, .string x340003003_1]) ?_ 1 _ rfl; (with_reducible repeat (first | refine blk_drewN ?_ _ | refine blk_drew ?_ | refine blk_alloc ?_ _)); refine blk_put (cs := #[.string x340003000_1, .string x340003001_1, .string x340003002_1, .string x340003003_1]) ?_ 0 _ rfl; (with_reducible repeat (first | refine blk_drewN ?_ _ | refine blk_drew ?_ | refine blk_alloc ?_ _)); refine blk_far ?_ NB340002_340010.out _; (with_reducible repeat (first | refine blk_drewN ?_ _ | refine blk_drew ?_ | refine blk_alloc ?_ _)); refine blk_far ?_ NB340002_340010.out _; (with_reducible repeat (first | refine blk_drewN ?_ _ | refine blk_drew ?_ | refine blk_alloc ?_ _)); refine blk_far ?_ NB340002_340010.out _; (with_reducible repeat (first | refine blk_drewN ?_ _ | refine blk_drew ?_ | refine blk_alloc ?_ _)); refine blk_far ?_ NB340002_340010.out _; (with_reducible repeat (first | refine blk_drewN ?_ _ | refine blk_drew ?_ | refine blk_alloc ?_ _)); exact BK340002.out) Tryd.underlying27 rfl (by kernel_rfl)) rfl ?_
                exact ⟨by first | rfl | (simp [errW_none, errW_some] <;> rfl) | (simp [*, errW_none, errW_some] <;> rfl), by repeat (first | (with_reducible first | exact HB.out | apply below_alloc | apply pw_below_drewN | apply below_drew1 | refine below_set ?_ GE340001.out | refine below_set ?_ GE340002.out | refine below_set ?_ GE340010.out) | exact HB.out)⟩
              · replace c11 := Bool.eq_false_iff.mpr c11
                subst c11
                have H1 : (some ((⟨#[]⟩ : ByteArray), (⟨#[]⟩ : ByteArray), (⟨#[]⟩ : ByteArray), (⟨#[]⟩ : ByteArray), 3)) = some (r1, r2, r3, r4, r5) := by rw [if_neg (show ¬ (false = true) by decide)] at H; exact H
                clear H
                have H := H1
                clear H1
                simp only [Option.some.injEq, Prod.mk.injEq] at H
                obtain ⟨rfl, rfl, rfl, rfl, rfl⟩ := H
                have p340003 : 0 ≤ (x8_1 : Int) := of_decide_eq_true (by first | (with_reducible assumption) | assumption)
                have q340003 : x8_1 < (l1.length : Int) := of_decide_eq_true (by first | (with_reducible assumption) | assumption)
                obtain ⟨ad340003, e340003, hx340003_0⟩ := Kd.at_string HR1.out x8_1 p340003 q340003
                cases e340003
                replace hx340003_0 := (HB.out.cell (World.block_lt_of_cell? w _ hx340003_0)).trans hx340003_0
                replace p340003 := eq_true p340003
                replace q340003 := eq_true q340003
                try go_wp2
                have n0_ := Aside0.mk (blk_drew BK340001.out)
                have n1_ := Aside0.mk (blk_drew BK340002.out)
                have n2_ := Aside0.mk (below_drew1 HB.out)
                clear BK340001
                clear BK340002
                clear HB
                have BK340001 := n0_
                have BK340002 := n1_
                have HB := n2_
                clear n0_ n1_ n2_
                have p340004 : 0 ≤ (x8_1 : Int) := of_decide_eq_true (by first | (with_reducible assumption) | assumption)
                have q340004 : x8_1 < (l0_1.length : Int) := of_decide_eq_true (by first | (with_reducible assumption) | assumption)
                obtain ⟨ad340004, e340004, hx340004_0⟩ := Kd.at_string HR0_1.out x8_1 p340004 q340004
                have hw340004_0 := hx340004_0
                cases e340004
                replace hx340004_0 := (HB.out.cell (World.block_lt_of_cell? w _ hx340004_0)).trans hx340004_0
                replace p340004 := eq_true p340004
                replace q340004 := eq_true q340004
                refine start_ (n := 14) (S := fun w' => w'.cell? ⟨gb340001, 0, none⟩ = some (.int .i64 a0_0) ∧ w'.cell? ⟨gb340001, 1, none⟩ = some (.slice (some ad340004) l0_1.length c0_1) ∧ w'.cell? (ad340004.add (x8_1).toNat) = some (.string (rdOf ByteArray.empty l0_1 x8_1))) (ds := []) #[false, false, false, false, false, false, false, false, false, false, false, false, false, false] (by kernel_rfl) rfl rfl ⟨(blk_cell BK340001.out 0).trans rfl, (blk_cell BK340001.out 1).trans rfl, ((HB.out.cell (World.block_lt_of_cell? w _ hw340004_0)).trans hw340004_0)⟩ (fun hHeld => ?_); refine with_tabW spec_l3Find.tab5 spec_l3Find.bits5 (fun HT_ HW_ => ?_)
                generalize wr.drew = w25 at BK340001 BK340002 HB hx340004_0 hHeld ⊢
                refine pure_ (i := 0) (N := some 24) (v := ?_) (a' := ?_) #[true, false, false, false, false, false, false, false, false, false, false, false, false, false] rfl rfl (any_of HT_.out (by kernel_rfl)) (fun _ _ _ h => h) (Or.inl ⟨by rfl, ?_⟩) ?_ ?_
                rotate_left
                · intro w'
                  go_simp
                  with_reducible rfl
                rotate_left
                · simp only [Act.put, List.setIfInBounds_toArray, List.set_cons_zero, List.set_cons_succ, i64_w, i32_w]
                  rfl
                refine pure_ (i := 2) (N := some 26) (v := ?_) (a' := ?_) #[true, false, true, false, false, false, false, false, false, false, false, false, false, false] rfl rfl (any_of HT_.out (by kernel_rfl)) (fun _ _ _ h => h) (Or.inl ⟨by rfl, ?_⟩) ?_ ?_
                rotate_left
                · intro w'
                  go_simp
                  with_reducible rfl
                rotate_left
                · simp only [Act.put, List.setIfInBounds_toArray, List.set_cons_zero, List.set_cons_succ, i64_w, i32_w]
                  rfl
                refine pure_ (i := 5) (N := some 29) (v := ?_) (a' := ?_) #[true, false, true, false, false, true, false, false, false, false, false, false, false, false] rfl rfl (any_of HT_.out (by kernel_rfl)) (fun _ _ _ h => h) (Or.inl ⟨by rfl, ?_⟩) ?_ ?_
                rotate_left
                · intro w'
                  go_simp
                  with_reducible rfl
                rotate_left
                · simp only [Act.put, List.setIfInBounds_toArray, List.set_cons_zero, List.set_cons_succ, i64_w, i32_w]
                  rfl
                refine take_ (i := 1) (N := some 25) (v := ?_) (a' := ?_) #[true, true, true, false, false, true, false, false, false, false, false, false, false, false] rfl rfl (take_ofW HT_.out HW_.out (by kernel_rfl)) (fun _ _ _ h => h) (Or.inl ⟨by rfl, ?_⟩) hHeld ?_ ?_
                rotate_left
                · rintro w' ⟨s0, s1, s2⟩
                  go_simp
                  with_reducible rfl
                rotate_left
                · simp only [Act.put, List.setIfInBounds_toArray, List.set_cons_zero, List.set_cons_succ, i64_w, i32_w]
                  rfl
                refine pure_ (i := 3) (N := some 27) (v := ?_) (a' := ?_) #[true, true, true, true, false, true, false, false, false, false, false, false, false, false] rfl rfl (any_of HT_.out (by kernel_rfl)) (fun _ _ _ h => h) (Or.inl ⟨by rfl, ?_⟩) ?_ ?_
                rotate_left
                · intro w'
                  go_simp
                  with_reducible rfl
                rotate_left
                · simp only [Act.put, List.setIfInBounds_toArray, List.set_cons_zero, List.set_cons_succ, i64_w, i32_w]
                  rfl
                refine take_ (i := 4) (N := some 28) (v := ?_) (a' := ?_) #[true, true, true, true, true, true, false, false, false, false, false, false, false, false] rfl rfl (take_ofW HT_.out HW_.out (by kernel_rfl)) (fun _ _ _ h => h) (Or.inl ⟨by rfl, ?_⟩) hHeld ?_ ?_
                rotate_left
                · rintro w' ⟨s0, s1, s2⟩
                  go_simp
                  with_reducible rfl
                rotate_left
                · simp only [Act.put, List.setIfInBounds_toArray, List.set_cons_zero, List.set_cons_succ, i64_w, i32_w]
                  rfl
                refine take_ (i := 6) (N := some 30) (v := ?_) (a' := ?_) #[true, true, true, true, true, true, true, false, false, false, false, false, false, false] rfl rfl (take_ofW HT_.out HW_.out (by kernel_rfl)) (fun _ _ _ h => h) (Or.inl ⟨by rfl, ?_⟩) hHeld ?_ ?_
                rotate_left
                · rintro w' ⟨s0, s1, s2⟩
                  go_simp
                  with_reducible rfl
                rotate_left
                · simp only [Act.put, List.setIfInBounds_toArray, List.set_cons_zero, List.set_cons_succ, i64_w, i32_w]
                  rfl
                refine join_ (σ := Nat) 2 #[true, true, true, true, true, true, true, true, true, true, true, true, false, false] (fun s_ => [(31, .tuple #[.agg #[.string t340005, .string t340006, .string t340007, .string t340008], .bool false]), (9, .pointer (some ⟨s_, 0, none⟩)), (23, .tuple #[.agg #[.string t340005, .string t340006, .string t340007, .string t340008], .bool false]), (32, .agg #[.string t340005, .string t340006, .string t340007, .string t340008]), (33, .bool false)]) (fun s_ w' => (w'.cell? ⟨gb340001, 0, none⟩ = some (.int .i64 a0_0) ∧ w'.cell? ⟨gb340001, 1, none⟩ = some (.slice (some ad340004) l0_1.length c0_1) ∧ w'.cell? (ad340004.add (x8_1).toNat) = some (.string (rdOf ByteArray.empty l0_1 x8_1))) ∧ (w'.heap[gb340001]? = some (.cells #[.int .i64 a0_0, .slice (some ad340004) l0_1.length c0_1] 30 (0, 0))) ∧ (w'.heap[gb340002]? = some (.cells #[.string x340003000_1, .string x340003001_1, .string x340003002_1, .string x340003003_1] 27 (0, 0))) ∧ (w'.heap[s_]? = some (.cells #[.string (⟨#[]⟩ : ByteArray), .string (⟨#[]⟩ : ByteArray), .string (⟨#[]⟩ : ByteArray), .string (⟨#[]⟩ : ByteArray)] 27 (0, 0))) ∧ (w.heap.size ≤ s_) ∧ (w.heap.size ≤ s_) ∧ (gb340001 ≠ s_) ∧ (s_ ≠ gb340001) ∧ (gb340002 ≠ s_) ∧ (s_ ≠ gb340002) ∧ (Below w.heap.size w w')) ?_ ?_
                rotate_left
                · intro hCont
                  refine two_ (i := 7) (j := 11) (Ni := some 31) (Nj := some 9) #[true, true, true, true, true, true, true, true, false, false, false, false, false, false] #[true, true, true, true, true, true, true, false, false, false, false, true, false, false] rfl rfl rfl rfl (two_of HT_.out (by kernel_rfl)) (by decide) (by decide) (fun K hK => ?_) (fun K hK => ?_)
                  · skip
                    refine goes_ Tryd.func73 (by kernel_rfl) rfl #[.string (rdOf ByteArray.empty l0_1 x8_1), .int .i64 a0_0] (by rfl) rfl rfl (by (try simp only [List.map_toArray, List.map_cons, List.map_nil]); first | done | rfl | (simp only [List.length_drop, List.length_take]; rfl)) ?_
                    with_reducible refine (spec_DecodeNode.calls (rdOf ByteArray.empty l0_1 x8_1) a0_0 t340005 t340006 t340007 t340008 false _ A10.out).mono ?_
                    rintro e w26 ⟨rfl, hb⟩
                    refine ⟨_, rfl, ?_⟩
                    have n0_ := Aside0.mk (blk_below (g := gb340001) (o := .cells #[.int .i64 a0_0, .slice (some ad340004) l0_1.length c0_1] 30 (0, 0)) (by (with_reducible repeat (first | refine blk_drewN ?_ _ | refine blk_drew ?_ | refine blk_alloc ?_ _)); exact BK340001.out) hb)
                    have n1_ := Aside0.mk (blk_below (g := gb340002) (o := .cells #[.string x340003000_1, .string x340003001_1, .string x340003002_1, .string x340003003_1] 27 (0, 0)) (by (with_reducible repeat (first | refine blk_drewN ?_ _ | refine blk_drew ?_ | refine blk_alloc ?_ _)); exact BK340002.out) hb)
                    have n2_ := Aside0.mk (below_step (by repeat (first | (with_reducible first | exact HB.out | apply below_alloc | apply pw_below_drewN | apply below_drew1 | refine below_set ?_ GE340001.out | refine below_set ?_ GE340002.out) | exact HB.out)) hb)
                    clear BK340001
                    clear BK340002
                    clear HB
                    have BK340001 := n0_
                    have BK340002 := n1_
                    have HB := n2_
                    clear n0_ n1_ n2_
                    (try clear hb)
                    (try clear hb2)
                    (try clear hk)
                    (try clear hi)
                    refine hK.out _ _ ⟨(blk_cell BK340001.out 0).trans rfl, (blk_cell BK340001.out 1).trans rfl, ((HB.out.cell (World.block_lt_of_cell? w _ hw340004_0)).trans hw340004_0)⟩ (fun hHeld => ?_)
                    clear hK K
                    refine norm_ (a' := ?_) ?_ ?_
                    rotate_left
                    · show Act.put _ (some 31) _ = _
                      simp only [Act.put, List.setIfInBounds_toArray, List.set_cons_zero, List.set_cons_succ, i64_w, i32_w]
                      rfl
                    refine pure_ (i := 8) (N := some 23) (v := ?_) (a' := ?_) #[true, true, true, true, true, true, true, true, true, false, false, false, false, false] rfl rfl (any_of HT_.out (by kernel_rfl)) (fun _ _ _ h => h) (Or.inl ⟨by rfl, ?_⟩) ?_ ?_
                    rotate_left
                    · intro w'
                      go_simp
                      with_reducible rfl
                    rotate_left
                    · simp only [Act.put, List.setIfInBounds_toArray, List.set_cons_zero, List.set_cons_succ, i64_w, i32_w]
                      rfl
                    refine pure_ (i := 9) (N := some 32) (v := ?_) (a' := ?_) #[true, true, true, true, true, true, true, true, true, true, false, false, false, false] rfl rfl (any_of HT_.out (by kernel_rfl)) (fun _ _ _ h => h) (Or.inl ⟨by rfl, ?_⟩) ?_ ?_
                    rotate_left
                    · intro w'
                      go_simp
                      with_reducible rfl
                    rotate_left
                    · simp only [Act.put, List.setIfInBounds_toArray, List.set_cons_zero, List.set_cons_succ, i64_w, i32_w]
                      rfl
                    refine pure_ (i := 10) (N := some 33) (v := ?_) (a' := ?_) #[true, true, true, true, true, true, true, true, true, true, true, false, false, false] rfl rfl (any_of HT_.out (by kernel_rfl)) (fun _ _ _ h => h) (Or.inl ⟨by rfl, ?_⟩) ?_ ?_
                    rotate_left
                    · intro w'
                      go_simp
                      with_reducible rfl
                    rotate_left
                    · simp only [Act.put, List.setIfInBounds_toArray, List.set_cons_zero, List.set_cons_succ, i64_w, i32_w]
                      rfl
                    refine one_ (i := 11) (N := some 9) #[true, true, true, true, true, true, true, true, true, true, true, true, false, false] rfl rfl (one_of HT_.out (by kernel_rfl)) (by decide) (fun K hK => ?_)
                    refine box_step ?hg (N := 9) ?hd (cs := #[.string (⟨#[]⟩ : ByteArray), .string (⟨#[]⟩ : ByteArray), .string (⟨#[]⟩ : ByteArray), .string (⟨#[]⟩ : ByteArray)]) (t := 27) ?hr ?_; (case hd => rfl); (case hg => rfl); (case hr => first | (go_simp; done) | (go_simp; rfl))
                    intro gb340010 hg w27 hbox hb
                    have n0_ := Aside0.mk (blk_below (g := gb340001) (o := .cells #[.int .i64 a0_0, .slice (some ad340004) l0_1.length c0_1] 30 (0, 0)) (by (with_reducible repeat (first | refine blk_drewN ?_ _ | refine blk_drew ?_ | refine blk_alloc ?_ _)); exact BK340001.out) hb)
                    have n1_ := Aside0.mk (blk_below (g := gb340002) (o := .cells #[.string x340003000_1, .string x340003001_1, .string x340003002_1, .string x340003003_1] 27 (0, 0)) (by (with_reducible repeat (first | refine blk_drewN ?_ _ | refine blk_drew ?_ | refine blk_alloc ?_ _)); exact BK340002.out) hb)
                    have n2_ := Aside0.mk (below_step (by repeat (first | (with_reducible first | exact HB.out | apply below_alloc | apply pw_below_drewN | apply below_drew1 | refine below_set ?_ GE340001.out | refine below_set ?_ GE340002.out) | exact HB.out)) hb)
                    have n3_ := Aside0.mk (hbox)
                    have n4_ := Aside0.mk ((by rw [hg]; exact (below_size (by repeat (first | (with_reducible first | exact HB.out | apply below_alloc | apply pw_below_drewN | apply below_drew1 | refine below_set ?_ GE340001.out | refine below_set ?_ GE340002.out) | exact HB.out))) : w.heap.size ≤ gb340010))
                    have n5_ := Aside0.mk ((by rw [hg]; exact (below_size (by repeat (first | (with_reducible first | exact HB.out | apply below_alloc | apply pw_below_drewN | apply below_drew1 | refine below_set ?_ GE340001.out | refine below_set ?_ GE340002.out) | exact HB.out))) : w.heap.size ≤ gb340010))
                    have n6_ := Aside0.mk ((by rw [hg]; exact Nat.ne_of_lt (blk_lt (g := gb340001) (o := .cells #[.int .i64 a0_0, .slice (some ad340004) l0_1.length c0_1] 30 (0, 0)) (by (with_reducible repeat (first | refine blk_drewN ?_ _ | refine blk_drew ?_ | refine blk_alloc ?_ _)); exact BK340001.out)) : gb340001 ≠ gb340010))
                    have n7_ := Aside0.mk ((by rw [hg]; exact Nat.ne_of_gt (blk_lt (g := gb340001) (o := .cells #[.int .i64 a0_0, .slice (some ad340004) l0_1.length c0_1] 30 (0, 0)) (by (with_reducible repeat (first | refine blk_drewN ?_ _ | refine blk_drew ?_ | refine blk_alloc ?_ _)); exact BK340001.out)) : gb340010 ≠ gb340001))
                    have n8_ := Aside0.mk ((by rw [hg]; exact Nat.ne_of_lt (blk_lt (g := gb340002) (o := .cells #[.string x340003000_1, .string x340003001_1, .string x340003002_1, .string x340003003_1] 27 (0, 0)) (by (with_reducible repeat (first | refine blk_drewN ?_ _ | refine blk_drew ?_ | refine blk_alloc ?_ _)); exact BK340002.out)) : gb340002 ≠ gb340010))
                    have n9_ := Aside0.mk ((by rw [hg]; exact Nat.ne_of_gt (blk_lt (g := gb340002) (o := .cells #[.string x340003000_1, .string x340003001_1, .string x340003002_1, .string x340003003_1] 27 (0, 0)) (by (with_reducible repeat (first | refine blk_drewN ?_ _ | refine blk_drew ?_ | refine blk_alloc ?_ _)); exact BK340002.out)) : gb340010 ≠ gb340002))
                    clear BK340001
                    clear BK340002
                    clear HB
                    have BK340001 := n0_
                    have BK340002 := n1_
                    have HB := n2_
                    have BK340010 := n3_
                    have GW340010 := n4_
                    have GE340010 := n5_
                    have NB340001_340010 := n6_
                    have NB340010_340001 := n7_
                    have NB340002_340010 := n8_
                    have NB340010_340002 := n9_
                    clear n0_ n1_ n2_ n3_ n4_ n5_ n6_ n7_ n8_ n9_
                    clear hb hbox hg
                    refine hK.out _ _ ⟨(blk_cell BK340001.out 0).trans rfl, (blk_cell BK340001.out 1).trans rfl, ((HB.out.cell (World.block_lt_of_cell? w _ hw340004_0)).trans hw340004_0)⟩ (fun hHeld => ?_)
                    clear hK K
                    refine norm_ (a' := ?_) ?_ ?_
                    rotate_left
                    · show Act.put _ (some 9) _ = _
                      simp only [Act.put, List.setIfInBounds_toArray, List.set_cons_zero, List.set_cons_succ, i64_w, i32_w]
                      rfl
                    exact norm_ (by simp only [putAll, Act.put, List.setIfInBounds_toArray, List.set_cons_zero, List.set_cons_succ]) (hCont (gb340010) _ ⟨hHeld, (by (with_reducible repeat (first | refine blk_drewN ?_ _ | refine blk_drew ?_ | refine blk_alloc ?_ _)); exact BK340001.out), (by (with_reducible repeat (first | refine blk_drewN ?_ _ | refine blk_drew ?_ | refine blk_alloc ?_ _)); exact BK340002.out), (by (with_reducible repeat (first | refine blk_drewN ?_ _ | refine blk_drew ?_ | refine blk_alloc ?_ _)); exact BK340010.out), GW340010.out, GE340010.out, NB340001_340010.out, NB340010_340001.out, NB340002_340010.out, NB340010_340002.out, (by repeat (first | (with_reducible first | exact HB.out | apply below_alloc | apply pw_below_drewN | apply below_drew1 | refine below_set ?_ GE340001.out | refine below_set ?_ GE340002.out | refine below_set ?_ GE340010.out) | exact HB.out))⟩)
                  · skip
                    refine box_step ?hg (N := 9) ?hd (cs := #[.string (⟨#[]⟩ : ByteArray), .string (⟨#[]⟩ : ByteArray), .string (⟨#[]⟩ : ByteArray), .string (⟨#[]⟩ : ByteArray)]) (t := 27) ?hr ?_; (case hd => rfl); (case hg => rfl); (case hr => first | (go_simp; done) | (go_simp; rfl))
                    intro gb340010 hg w26 hbox hb
                    have n0_ := Aside0.mk (blk_below (g := gb340001) (o := .cells #[.int .i64 a0_0, .slice (some ad340004) l0_1.length c0_1] 30 (0, 0)) (by (with_reducible repeat (first | refine blk_drewN ?_ _ | refine blk_drew ?_ | refine blk_alloc ?_ _)); exact BK340001.out) hb)
                    have n1_ := Aside0.mk (blk_below (g := gb340002) (o := .cells #[.string x340003000_1, .string x340003001_1, .string x340003002_1, .string x340003003_1] 27 (0, 0)) (by (with_reducible repeat (first | refine blk_drewN ?_ _ | refine blk_drew ?_ | refine blk_alloc ?_ _)); exact BK340002.out) hb)
                    have n2_ := Aside0.mk (below_step (by repeat (first | (with_reducible first | exact HB.out | apply below_alloc | apply pw_below_drewN | apply below_drew1 | refine below_set ?_ GE340001.out | refine below_set ?_ GE340002.out) | exact HB.out)) hb)
                    have n3_ := Aside0.mk (hbox)
                    have n4_ := Aside0.mk ((by rw [hg]; exact (below_size (by repeat (first | (with_reducible first | exact HB.out | apply below_alloc | apply pw_below_drewN | apply below_drew1 | refine below_set ?_ GE340001.out | refine below_set ?_ GE340002.out) | exact HB.out))) : w.heap.size ≤ gb340010))
                    have n5_ := Aside0.mk ((by rw [hg]; exact (below_size (by repeat (first | (with_reducible first | exact HB.out | apply below_alloc | apply pw_below_drewN | apply below_drew1 | refine below_set ?_ GE340001.out | refine below_set ?_ GE340002.out) | exact HB.out))) : w.heap.size ≤ gb340010))
                    have n6_ := Aside0.mk ((by rw [hg]; exact Nat.ne_of_lt (blk_lt (g := gb340001) (o := .cells #[.int .i64 a0_0, .slice (some ad340004) l0_1.length c0_1] 30 (0, 0)) (by (with_reducible repeat (first | refine blk_drewN ?_ _ | refine blk_drew ?_ | refine blk_alloc ?_ _)); exact BK340001.out)) : gb340001 ≠ gb340010))
                    have n7_ := Aside0.mk ((by rw [hg]; exact Nat.ne_of_gt (blk_lt (g := gb340001) (o := .cells #[.int .i64 a0_0, .slice (some ad340004) l0_1.length c0_1] 30 (0, 0)) (by (with_reducible repeat (first | refine blk_drewN ?_ _ | refine blk_drew ?_ | refine blk_alloc ?_ _)); exact BK340001.out)) : gb340010 ≠ gb340001))
                    have n8_ := Aside0.mk ((by rw [hg]; exact Nat.ne_of_lt (blk_lt (g := gb340002) (o := .cells #[.string x340003000_1, .string x340003001_1, .string x340003002_1, .string x340003003_1] 27 (0, 0)) (by (with_reducible repeat (first | refine blk_drewN ?_ _ | refine blk_drew ?_ | refine blk_alloc ?_ _)); exact BK340002.out)) : gb340002 ≠ gb340010))
                    have n9_ := Aside0.mk ((by rw [hg]; exact Nat.ne_of_gt (blk_lt (g := gb340002) (o := .cells #[.string x340003000_1, .string x340003001_1, .string x340003002_1, .string x340003003_1] 27 (0, 0)) (by (with_reducible repeat (first | refine blk_drewN ?_ _ | refine blk_drew ?_ | refine blk_alloc ?_ _)); exact BK340002.out)) : gb340010 ≠ gb340002))
                    clear BK340001
                    clear BK340002
                    clear HB
                    have BK340001 := n0_
                    have BK340002 := n1_
                    have HB := n2_
                    have BK340010 := n3_
                    have GW340010 := n4_
                    have GE340010 := n5_
                    have NB340001_340010 := n6_
                    have NB340010_340001 := n7_
                    have NB340002_340010 := n8_
                    have NB340010_340002 := n9_
                    clear n0_ n1_ n2_ n3_ n4_ n5_ n6_ n7_ n8_ n9_
                    clear hb hbox hg
                    refine hK.out _ _ ⟨(blk_cell BK340001.out 0).trans rfl, (blk_cell BK340001.out 1).trans rfl, ((HB.out.cell (World.block_lt_of_cell? w _ hw340004_0)).trans hw340004_0)⟩ (fun hHeld => ?_)
                    clear hK K
                    refine norm_ (a' := ?_) ?_ ?_
                    rotate_left
                    · show Act.put _ (some 9) _ = _
                      simp only [Act.put, List.setIfInBounds_toArray, List.set_cons_zero, List.set_cons_succ, i64_w, i32_w]
                      rfl
                    refine one_ (i := 7) (N := some 31) #[true, true, true, true, true, true, true, true, false, false, false, true, false, false] rfl rfl (one_of HT_.out (by kernel_rfl)) (by decide) (fun K hK => ?_)
                    refine goes_ Tryd.func73 (by kernel_rfl) rfl #[.string (rdOf ByteArray.empty l0_1 x8_1), .int .i64 a0_0] (by rfl) rfl rfl (by (try simp only [List.map_toArray, List.map_cons, List.map_nil]); first | done | rfl | (simp only [List.length_drop, List.length_take]; rfl)) ?_
                    with_reducible refine (spec_DecodeNode.calls (rdOf ByteArray.empty l0_1 x8_1) a0_0 t340005 t340006 t340007 t340008 false _ A10.out).mono ?_
                    rintro e w27 ⟨rfl, hb⟩
                    refine ⟨_, rfl, ?_⟩
                    have n0_ := Aside0.mk (blk_below (g := gb340001) (o := .cells #[.int .i64 a0_0, .slice (some ad340004) l0_1.length c0_1] 30 (0, 0)) (by (with_reducible repeat (first | refine blk_drewN ?_ _ | refine blk_drew ?_ | refine blk_alloc ?_ _)); exact BK340001.out) hb)
                    have n1_ := Aside0.mk (blk_below (g := gb340002) (o := .cells #[.string x340003000_1, .string x340003001_1, .string x340003002_1, .string x340003003_1] 27 (0, 0)) (by (with_reducible repeat (first | refine blk_drewN ?_ _ | refine blk_drew ?_ | refine blk_alloc ?_ _)); exact BK340002.out) hb)
                    have n2_ := Aside0.mk (blk_below (g := gb340010) (o := .cells #[.string (⟨#[]⟩ : ByteArray), .string (⟨#[]⟩ : ByteArray), .string (⟨#[]⟩ : ByteArray), .string (⟨#[]⟩ : ByteArray)] 27 (0, 0)) (by (with_reducible repeat (first | refine blk_drewN ?_ _ | refine blk_drew ?_ | refine blk_alloc ?_ _)); exact BK340010.out) hb)
                    have n3_ := Aside0.mk (below_step (by repeat (first | (with_reducible first | exact HB.out | apply below_alloc | apply pw_below_drewN | apply below_drew1 | refine below_set ?_ GE340001.out | refine below_set ?_ GE340002.out | refine below_set ?_ GE340010.out) | exact HB.out)) hb)
                    clear BK340001
                    clear BK340002
                    clear BK340010
                    clear HB
                    have BK340001 := n0_
                    have BK340002 := n1_
                    have BK340010 := n2_
                    have HB := n3_
                    clear n0_ n1_ n2_ n3_
                    (try clear hb)
                    (try clear hb2)
                    (try clear hk)
                    (try clear hi)
                    refine hK.out _ _ ⟨(blk_cell BK340001.out 0).trans rfl, (blk_cell BK340001.out 1).trans rfl, ((HB.out.cell (World.block_lt_of_cell? w _ hw340004_0)).trans hw340004_0)⟩ (fun hHeld => ?_)
                    clear hK K
                    refine norm_ (a' := ?_) ?_ ?_
                    rotate_left
                    · show Act.put _ (some 31) _ = _
                      simp only [Act.put, List.setIfInBounds_toArray, List.set_cons_zero, List.set_cons_succ, i64_w, i32_w]
                      rfl
                    refine pure_ (i := 8) (N := some 23) (v := ?_) (a' := ?_) #[true, true, true, true, true, true, true, true, true, false, false, true, false, false] rfl rfl (any_of HT_.out (by kernel_rfl)) (fun _ _ _ h => h) (Or.inl ⟨by rfl, ?_⟩) ?_ ?_
                    rotate_left
                    · intro w'
                      go_simp
                      with_reducible rfl
                    rotate_left
                    · simp only [Act.put, List.setIfInBounds_toArray, List.set_cons_zero, List.set_cons_succ, i64_w, i32_w]
                      rfl
                    refine pure_ (i := 9) (N := some 32) (v := ?_) (a' := ?_) #[true, true, true, true, true, true, true, true, true, true, false, true, false, false] rfl rfl (any_of HT_.out (by kernel_rfl)) (fun _ _ _ h => h) (Or.inl ⟨by rfl, ?_⟩) ?_ ?_
                    rotate_left
                    · intro w'
                      go_simp
                      with_reducible rfl
                    rotate_left
                    · simp only [Act.put, List.setIfInBounds_toArray, List.set_cons_zero, List.set_cons_succ, i64_w, i32_w]
                      rfl
                    refine pure_ (i := 10) (N := some 33) (v := ?_) (a' := ?_) #[true, true, true, true, true, true, true, true, true, true, true, true, false, false] rfl rfl (any_of HT_.out (by kernel_rfl)) (fun _ _ _ h => h) (Or.inl ⟨by rfl, ?_⟩) ?_ ?_
                    rotate_left
                    · intro w'
                      go_simp
                      with_reducible rfl
                    rotate_left
                    · simp only [Act.put, List.setIfInBounds_toArray, List.set_cons_zero, List.set_cons_succ, i64_w, i32_w]
                      rfl
                    exact norm_ (by simp only [putAll, Act.put, List.setIfInBounds_toArray, List.set_cons_zero, List.set_cons_succ]) (hCont (gb340010) _ ⟨hHeld, (by (with_reducible repeat (first | refine blk_drewN ?_ _ | refine blk_drew ?_ | refine blk_alloc ?_ _)); exact BK340001.out), (by (with_reducible repeat (first | refine blk_drewN ?_ _ | refine blk_drew ?_ | refine blk_alloc ?_ _)); exact BK340002.out), (by (with_reducible repeat (first | refine blk_drewN ?_ _ | refine blk_drew ?_ | refine blk_alloc ?_ _)); exact BK340010.out), GW340010.out, GE340010.out, NB340001_340010.out, NB340010_340001.out, NB340002_340010.out, NB340010_340002.out, (by repeat (first | (with_reducible first | exact HB.out | apply below_alloc | apply pw_below_drewN | apply below_drew1 | refine below_set ?_ GE340001.out | refine below_set ?_ GE340002.out | refine below_set ?_ GE340010.out) | exact HB.out))⟩)
                rintro gb340010 w28 ⟨hS_, h0_, h1_, h2_, h3_, h4_, h5_, h6_, h7_, h8_, h9_⟩
                have n0_ : Aside0 (w28.heap[gb340001]? = some (.cells #[.int .i64 a0_0, .slice (some ad340004) l0_1.length c0_1] 30 (0, 0))) := ⟨h0_⟩
                have n1_ : Aside0 (w28.heap[gb340002]? = some (.cells #[.string x340003000_1, .string x340003001_1, .string x340003002_1, .string x340003003_1] 27 (0, 0))) := ⟨h1_⟩
                have n2_ : Aside0 (w28.heap[gb340010]? = some (.cells #[.string (⟨#[]⟩ : ByteArray), .string (⟨#[]⟩ : ByteArray), .string (⟨#[]⟩ : ByteArray), .string (⟨#[]⟩ : ByteArray)] 27 (0, 0))) := ⟨h2_⟩
                have n3_ : Aside0 (w.heap.size ≤ gb340010) := ⟨h3_⟩
                have n4_ : Aside0 (w.heap.size ≤ gb340010) := ⟨h4_⟩
                have n5_ : Aside0 (gb340001 ≠ gb340010) := ⟨h5_⟩
                have n6_ : Aside0 (gb340010 ≠ gb340001) := ⟨h6_⟩
                have n7_ : Aside0 (gb340002 ≠ gb340010) := ⟨h7_⟩
                have n8_ : Aside0 (gb340010 ≠ gb340002) := ⟨h8_⟩
                have n9_ : Aside0 (Below w.heap.size w w28) := ⟨h9_⟩
                clear BK340001
                clear BK340002
                clear HB
                clear h0_ h1_ h2_ h3_ h4_ h5_ h6_ h7_ h8_ h9_
                have BK340001 := n0_
                have BK340002 := n1_
                have BK340010 := n2_
                have GW340010 := n3_
                have GE340010 := n4_
                have NB340001_340010 := n5_
                have NB340010_340001 := n6_
                have NB340002_340010 := n7_
                have NB340010_340002 := n8_
                have HB := n9_
                clear n0_ n1_ n2_ n3_ n4_ n5_ n6_ n7_ n8_ n9_
                have hHeld : w28.cell? ⟨gb340001, 0, none⟩ = some (.int .i64 a0_0) ∧ w28.cell? ⟨gb340001, 1, none⟩ = some (.slice (some ad340004) l0_1.length c0_1) ∧ w28.cell? (ad340004.add (x8_1).toNat) = some (.string (rdOf ByteArray.empty l0_1 x8_1)) := hS_
                refine norm_ (a' := ?_) ?_ ?_
                rotate_left
                · simp only [putAll, Act.put, List.setIfInBounds_toArray, List.set_cons_zero, List.set_cons_succ]
                  rfl
                refine one_ (i := 12) (N := none) #[true, true, true, true, true, true, true, true, true, true, true, true, true, false] rfl rfl (one_of HT_.out (by kernel_rfl)) (by decide) (fun K hK => ?_)
                have hs29 : w28.cell? ⟨gb340010, 0, none⟩ = some (.string (⟨#[]⟩ : ByteArray)) := (blk_cell BK340010.out 0).trans rfl
                have hfs29 := blk_frozen BK340010.out 0
                have hns29_0 := NB340001_340010.out
                have hns29_1 := NB340002_340010.out
                have hms29_0 := NB340010_340001.out
                have hms29_1 := NB340010_340002.out
                have hs30 : w28.cell? ⟨gb340010, 1, none⟩ = some (.string (⟨#[]⟩ : ByteArray)) := (blk_cell BK340010.out 1).trans rfl
                have hfs30 := blk_frozen BK340010.out 1
                have hns30_0 := NB340001_340010.out
                have hns30_1 := NB340002_340010.out
                have hms30_0 := NB340010_340001.out
                have hms30_1 := NB340010_340002.out
                have hs31 : w28.cell? ⟨gb340010, 2, none⟩ = some (.string (⟨#[]⟩ : ByteArray)) := (blk_cell BK340010.out 2).trans rfl
                have hfs31 := blk_frozen BK340010.out 2
                have hns31_0 := NB340001_340010.out
                have hns31_1 := NB340002_340010.out
                have hms31_0 := NB340010_340001.out
                have hms31_1 := NB340010_340002.out
                have hs32 : w28.cell? ⟨gb340010, 3, none⟩ = some (.string (⟨#[]⟩ : ByteArray)) := (blk_cell BK340010.out 3).trans rfl
                have hfs32 := blk_frozen BK340010.out 3
                have hns32_0 := NB340001_340010.out
                have hns32_1 := NB340002_340010.out
                have hms32_0 := NB340010_340001.out
                have hms32_1 := NB340010_340002.out
                refine skip_ (w1 := ?_) (by rfl) rfl ?_ ?_
                rotate_left
                · go_simp
                  rfl
                refine hK.out _ _ ⟨((cell_far (p := ⟨gb340010, _, none⟩) NB340001_340010.out _).trans (((cell_far (p := ⟨gb340010, _, none⟩) NB340001_340010.out _).trans (((cell_far (p := ⟨gb340010, _, none⟩) NB340001_340010.out _).trans (((cell_far (p := ⟨gb340010, _, none⟩) NB340001_340010.out _).trans (hHeld.1)))))))), ((cell_far (p := ⟨gb340010, _, none⟩) NB340001_340010.out _).trans (((cell_far (p := ⟨gb340010, _, none⟩) NB340001_340010.out _).trans (((cell_far (p := ⟨gb340010, _, none⟩) NB340001_340010.out _).trans (((cell_far (p := ⟨gb340010, _, none⟩) NB340001_340010.out _).trans (hHeld.2.1)))))))), ((cell_far (p := ⟨gb340010, _, none⟩) (by first | exact Nat.ne_of_lt (Nat.lt_of_lt_of_le (by have := World.block_lt_of_cell? _ _ hw340004_0; first | rwa [add_block] at this | exact this) GW340010.out) | (rw [add_block]; exact Nat.ne_of_lt (Nat.lt_of_lt_of_le (by have := World.block_lt_of_cell? _ _ hw340004_0; first | rwa [add_block] at this | exact this) GW340010.out)) | (show (Addr.add _ _).block ≠ _; rw [add_block]; exact Nat.ne_of_lt (Nat.lt_of_lt_of_le (by have := World.block_lt_of_cell? _ _ hw340004_0; first | rwa [add_block] at this | exact this) GW340010.out)) | (dsimp only; exact Nat.ne_of_lt (Nat.lt_of_lt_of_le (by have := World.block_lt_of_cell? _ _ hw340004_0; first | rwa [add_block] at this | exact this) GW340010.out))) _).trans (((cell_far (p := ⟨gb340010, _, none⟩) (by first | exact Nat.ne_of_lt (Nat.lt_of_lt_of_le (by have := World.block_lt_of_cell? _ _ hw340004_0; first | rwa [add_block] at this | exact this) GW340010.out) | (rw [add_block]; exact Nat.ne_of_lt (Nat.lt_of_lt_of_le (by have := World.block_lt_of_cell? _ _ hw340004_0; first | rwa [add_block] at this | exact this) GW340010.out)) | (show (Addr.add _ _).block ≠ _; rw [add_block]; exact Nat.ne_of_lt (Nat.lt_of_lt_of_le (by have := World.block_lt_of_cell? _ _ hw340004_0; first | rwa [add_block] at this | exact this) GW340010.out)) | (dsimp only; exact Nat.ne_of_lt (Nat.lt_of_lt_of_le (by have := World.block_lt_of_cell? _ _ hw340004_0; first | rwa [add_block] at this | exact this) GW340010.out))) _).trans (((cell_far (p := ⟨gb340010, _, none⟩) (by first | exact Nat.ne_of_lt (Nat.lt_of_lt_of_le (by have := World.block_lt_of_cell? _ _ hw340004_0; first | rwa [add_block] at this | exact this) GW340010.out) | (rw [add_block]; exact Nat.ne_of_lt (Nat.lt_of_lt_of_le (by have := World.block_lt_of_cell? _ _ hw340004_0; first | rwa [add_block] at this | exact this) GW340010.out)) | (show (Addr.add _ _).block ≠ _; rw [add_block]; exact Nat.ne_of_lt (Nat.lt_of_lt_of_le (by have := World.block_lt_of_cell? _ _ hw340004_0; first | rwa [add_block] at this | exact this) GW340010.out)) | (dsimp only; exact Nat.ne_of_lt (Nat.lt_of_lt_of_le (by have := World.block_lt_of_cell? _ _ hw340004_0; first | rwa [add_block] at this | exact this) GW340010.out))) _).trans (((cell_far (p := ⟨gb340010, _, none⟩) (by first | exact Nat.ne_of_lt (Nat.lt_of_lt_of_le (by have := World.block_lt_of_cell? _ _ hw340004_0; first | rwa [add_block] at this | exact this) GW340010.out) | (rw [add_block]; exact Nat.ne_of_lt (Nat.lt_of_lt_of_le (by have := World.block_lt_of_cell? _ _ hw340004_0; first | rwa [add_block] at this | exact this) GW340010.out)) | (show (Addr.add _ _).block ≠ _; rw [add_block]; exact Nat.ne_of_lt (Nat.lt_of_lt_of_le (by have := World.block_lt_of_cell? _ _ hw340004_0; first | rwa [add_block] at this | exact this) GW340010.out)) | (dsimp only; exact Nat.ne_of_lt (Nat.lt_of_lt_of_le (by have := World.block_lt_of_cell? _ _ hw340004_0; first | rwa [add_block] at this | exact this) GW340010.out))) _).trans (hHeld.2.2))))))))⟩ (fun hHeld => ?_)
                clear hK K
                refine pure_ (i := 13) (N := some 10) (v := ?_) (a' := ?_) #[true, true, true, true, true, true, true, true, true, true, true, true, true, true] rfl rfl (any_of HT_.out (by kernel_rfl)) (fun _ _ _ h => h) (Or.inl ⟨by rfl, ?_⟩) ?_ ?_
                rotate_left
                · intro w'
                  go_simp
                  with_reducible rfl
                rotate_left
                · simp only [Act.put, List.setIfInBounds_toArray, List.set_cons_zero, List.set_cons_succ, i64_w, i32_w]
                  rfl
                refine done_ (done_of HT_.out (by kernel_rfl)) ?_
                have hnb33 := NB340002_340001.out
                have hnc33 := NB340001_340002.out
                have hnb34 := NB340002_340010.out
                have hnc34 := NB340010_340002.out
                have hcz35_0 : w28.cell? ⟨gb340002, 0, none⟩ = some (.string x340003000_1) := (blk_cell BK340002.out 0).trans rfl
                have hcz35_1 : w28.cell? ⟨gb340002, 1, none⟩ = some (.string x340003001_1) := (blk_cell BK340002.out 1).trans rfl
                have hcz35_2 : w28.cell? ⟨gb340002, 2, none⟩ = some (.string x340003002_1) := (blk_cell BK340002.out 2).trans rfl
                have hcz35_3 : w28.cell? ⟨gb340002, 3, none⟩ = some (.string x340003003_1) := (blk_cell BK340002.out 3).trans rfl
                have hfz35_0 := blk_frozen BK340002.out 0
                have hfz35_1 := blk_frozen BK340002.out 1
                have hfz35_2 := blk_frozen BK340002.out 2
                have hfz35_3 := blk_frozen BK340002.out 3
                try go_wp2
                refine bodyPost_ret (results_ct rfl _ _ gb340002 27 #[.string (⟨#[]⟩ : ByteArray), .string (⟨#[]⟩ : ByteArray), .string (⟨#[]⟩ : ByteArray), .string (⟨#[]⟩ : ByteArray)] (0, 0) _ rfl (by (with_reducible repeat (first | refine blk_drewN ?_ _ | refine blk_drew ?_ | refine blk_alloc ?_ _)); refine blk_put (cs := #[.string (⟨#[]⟩ : ByteArray), .string (⟨#[]⟩ : ByteArray), .string (⟨#[]⟩ : ByteArray), .string x340003003_1]) ?_ 3 _ rfl; (with_reducible repeat (first | refine blk_drewN ?_ _ | refine blk_drew ?_ | refine blk_alloc ?_ _)); refine blk_put (cs := #[.string (⟨#[]⟩ : ByteArray), .string (⟨#[]⟩ : ByteArray), .string x340003002_1, .string x340003003_1]) ?_ 2 _ rfl; (with_reducible repeat (first | refine blk_drewN ?_ _ | refine blk_drew ?_ | refine blk_alloc ?_ _)); refine blk_put (cs := #[.string (⟨#[]⟩ : ByteArray), .string x340003001_1, .string x340003002_1, .string x340003003_1]) ?_ 1 _ rfl; (with_reducible repeat (first | refine blk_drewN ?_ _ | refine blk_drew ?_ | refine blk_alloc ?_ _)); refine blk_put (cs := #[.string x340003000_1, .string x340003001_1, .string x340003002_1, .string x340003003_1]) ?_ 0 _ rfl; (with_reducible repeat (first | refine blk_drewN ?_ _ | refine blk_drew ?_ | refine blk_alloc ?_ _)); refine blk_far ?_ NB340002_340010.out _; (with_reducible repeat (first | refine blk_drewN ?_ _ | refine blk_drew ?_ | refine blk_alloc ?_ _)); refine blk_far ?_ NB340002_340010.out _; (with_reducible repeat (first | refine blk_drewN ?_ _ | refine blk_drew ?_ | refine blk_alloc ?_ _)); refine blk_far ?_ NB340002_340010.out _; (with_reducible repeat (first | refine blk_drewN ?_ _ | refine blk_drew ?_ | refine blk_alloc ?_ _)); refine blk_far ?_ NB340002_340010.out _; (with_reducible repeat (first | refine blk_drewN ?_ _ | refine blk_drew ?_ | refine blk_alloc ?_ _)); exact BK340002.out) Tryd.underlying27 rfl (by kernel_rfl)) rfl ?_
                exact ⟨by first | rfl | (simp [errW_none, errW_some] <;> rfl) | (simp [*, errW_none, errW_some] <;> rfl), by repeat (first | (with_reducible first | exact HB.out | apply below_alloc | apply pw_below_drewN | apply below_drew1 | refine below_set ?_ GE340001.out | refine below_set ?_ GE340002.out | refine below_set ?_ GE340010.out) | exact HB.out)⟩
            · rw [if_neg c9] at H
              exact absurd H (by simp)
          · rw [if_neg c8] at H
            have c8b0 : ((rdOf ByteArray.empty l1 x8_1).toList == a2.toList) = false := beq_eq_false_iff_ne.mpr c8
            have c8b1 : ((rdOf ByteArray.empty l1 x8_1).toList != a2.toList) = true := bne_iff_ne.mpr c8
            have H' := Aside0.mk H
            clear H
            have p340003 : 0 ≤ (x8_1 : Int) := of_decide_eq_true (by first | (with_reducible assumption) | assumption)
            have q340003 : x8_1 < (l1.length : Int) := of_decide_eq_true (by first | (with_reducible assumption) | assumption)
            obtain ⟨ad340003, e340003, hx340003_0⟩ := Kd.at_string HR1.out x8_1 p340003 q340003
            cases e340003
            replace hx340003_0 := (HB.out.cell (World.block_lt_of_cell? w _ hx340003_0)).trans hx340003_0
            replace p340003 := eq_true p340003
            replace q340003 := eq_true q340003
            go_wp2
            go_roundg k1
            case measure => have := HK1.out; omega
            case rel => exact ⟨(wrap64 (x8_1 + 1)), (x340003000_1), (x340003001_1), (x340003002_1), (x340003003_1), (by first | rfl | (simp; done) | (simp [*]; done)), H', ⟨by have := HK1.out; omega⟩, ⟨by (with_reducible repeat (first | refine blk_drewN ?_ _ | refine blk_drew ?_ | refine blk_alloc ?_ _)); exact BK340001.out⟩, ⟨by (with_reducible repeat (first | refine blk_drewN ?_ _ | refine blk_drew ?_ | refine blk_alloc ?_ _)); exact BK340002.out⟩, ⟨by repeat (first | (with_reducible first | exact HB.out | apply below_alloc | apply pw_below_drewN | apply below_drew1 | refine below_set ?_ GE340001.out | refine below_set ?_ GE340002.out) | exact HB.out)⟩⟩
        · rw [if_neg c7] at H
          exact absurd H (by simp)
      · rw [if_neg c6] at H
        have c6b0 : decide (x8_1 < (l1.length : Int)) = false := decide_eq_false c6
        clear c6
        simp only [Option.some.injEq, Prod.mk.injEq] at H
        obtain ⟨rfl, rfl, rfl, rfl, rfl⟩ := H
        have hnb36 := NB340002_340001.out
        have hnc36 := NB340001_340002.out
        have hcz37_0 : wr.cell? ⟨gb340002, 0, none⟩ = some (.string x340003000_1) := (blk_cell BK340002.out 0).trans rfl
        have hcz37_1 : wr.cell? ⟨gb340002, 1, none⟩ = some (.string x340003001_1) := (blk_cell BK340002.out 1).trans rfl
        have hcz37_2 : wr.cell? ⟨gb340002, 2, none⟩ = some (.string x340003002_1) := (blk_cell BK340002.out 2).trans rfl
        have hcz37_3 : wr.cell? ⟨gb340002, 3, none⟩ = some (.string x340003003_1) := (blk_cell BK340002.out 3).trans rfl
        have hfz37_0 := blk_frozen BK340002.out 0
        have hfz37_1 := blk_frozen BK340002.out 1
        have hfz37_2 := blk_frozen BK340002.out 2
        have hfz37_3 := blk_frozen BK340002.out 3
        go_wp2
        refine bodyPost_ret (results_ct rfl _ _ gb340002 27 #[.string (⟨#[]⟩ : ByteArray), .string (⟨#[]⟩ : ByteArray), .string (⟨#[]⟩ : ByteArray), .string (⟨#[]⟩ : ByteArray)] (0, 0) _ rfl (by (with_reducible repeat (first | refine blk_drewN ?_ _ | refine blk_drew ?_ | refine blk_alloc ?_ _)); refine blk_put (cs := #[.string (⟨#[]⟩ : ByteArray), .string (⟨#[]⟩ : ByteArray), .string (⟨#[]⟩ : ByteArray), .string x340003003_1]) ?_ 3 _ rfl; (with_reducible repeat (first | refine blk_drewN ?_ _ | refine blk_drew ?_ | refine blk_alloc ?_ _)); refine blk_put (cs := #[.string (⟨#[]⟩ : ByteArray), .string (⟨#[]⟩ : ByteArray), .string x340003002_1, .string x340003003_1]) ?_ 2 _ rfl; (with_reducible repeat (first | refine blk_drewN ?_ _ | refine blk_drew ?_ | refine blk_alloc ?_ _)); refine blk_put (cs := #[.string (⟨#[]⟩ : ByteArray), .string x340003001_1, .string x340003002_1, .string x340003003_1]) ?_ 1 _ rfl; (with_reducible repeat (first | refine blk_drewN ?_ _ | refine blk_drew ?_ | refine blk_alloc ?_ _)); refine blk_put (cs := #[.string x340003000_1, .string x340003001_1, .string x340003002_1, .string x340003003_1]) ?_ 0 _ rfl; (with_reducible repeat (first | refine blk_drewN ?_ _ | refine blk_drew ?_ | refine blk_alloc ?_ _)); exact BK340002.out) Tryd.underlying27 rfl (by kernel_rfl)) rfl ?_
        exact ⟨by first | rfl | (simp [errW_none, errW_some] <;> rfl) | (simp [*, errW_none, errW_some] <;> rfl), by repeat (first | (with_reducible first | exact HB.out | apply below_alloc | apply pw_below_drewN | apply below_drew1 | refine below_set ?_ GE340001.out | refine below_set ?_ GE340002.out) | exact HB.out)⟩
end Go.Proofs.YtmfejehhfmaodabDoor.Z
end
section
namespace Go.Proofs.YtmfejehhfmaodabDoor.Z
open Go.RowKit Go.Proofs.YtmfejehhfmaodabDoorW.PrintWords Go.Proofs.YtmfejehhfmaodabDoorW.PrintLast Go.Proofs.YtmfejehhfmaodabDoorW.PrintMore
attribute [local go_sem] max2_int min2_int max_two min_two max_three min_three max_four min_four   -- for this text's walks alone
set_option linter.unusedVariables false
set_option linter.unusedSimpArgs false
def spec_l1Width.f (a0 : Int) : Option (Bool) := if a0 ≥ 1 then (some (decide (a0 ≤ 32))) else (some false)
set_option maxHeartbeats 8000000 in
set_option maxRecDepth 100000 in
theorem spec_l1Width.calls (a0 : Int) (r : Bool) (w : World) (h : spec_l1Width.f a0 = some r) :
    Calls Tryd.prog 43 #[.int .i64 a0] w fun e w' => e = .returned (.bool r) ∧ Drawn0 w w' := by
  have H : (if a0 ≥ 1 then (some (decide (a0 ≤ 32))) else (some false)) = some r := h
  clear h
  by_cases c2 : a0 ≥ 1
  · rw [if_pos c2] at H
    have c2b0 : decide (1 ≤ a0) = true := decide_eq_true c2
    clear c2
    obtain rfl := Option.some.inj H
    go_enter Tryd.func43, Tryd.ntmps43
    go_wp2
    go_ret
    exact ⟨by first | rfl | (simp; done) | (simp [*]; done), by repeat (first | exact Drawn0.refl _ | apply Drawn0.step)⟩
  · rw [if_neg c2] at H
    have c2b0 : decide (1 ≤ a0) = false := decide_eq_false c2
    clear c2
    obtain rfl := Option.some.inj H
    go_enter Tryd.func43, Tryd.ntmps43
    go_wp2
    go_ret
    exact ⟨by first | rfl | (simp; done) | (simp [*]; done), by repeat (first | exact Drawn0.refl _ | apply Drawn0.step)⟩
end Go.Proofs.YtmfejehhfmaodabDoor.Z
end
section
namespace Go.Proofs.YtmfejehhfmaodabDoor.Z
open Go.RowKit Go.Proofs.YtmfejehhfmaodabDoorW.PrintWords Go.Proofs.YtmfejehhfmaodabDoorW.PrintLast Go.Proofs.YtmfejehhfmaodabDoorW.PrintMore
attribute [local go_sem] max2_int min2_int max_two min_two max_three min_three max_four min_four   -- for this text's walks alone
set_option linter.unusedVariables false
set_option linter.unusedSimpArgs false
def spec_Digest.f (k : Nat) (a0 : ByteArray) (a1 : Int) : Option (ByteArray) := (spec_l1Width.f a1).bind fun t740001 => (if t740001 = true then ((spec_Sha256.f k a0).bind fun t740002 => (if 0 ≤ a1 then (if a1 ≤ (t740002.size : Int) then (some (t740002.extract 0 (a1 : Int).toNat)) else (none)) else (none))) else (some (⟨#[]⟩ : ByteArray)))
theorem spec_Digest.mono : ∀ a0 a1 k, LeO (spec_Digest.f k a0 a1) (spec_Digest.f (k + 1) a0 a1) := by
  intro a0 a1 k
  unfold spec_Digest.f
  repeat' first
      | (with_reducible exact spec_Sha256.mono _ _)
      | (with_reducible exact LeO.refl _)
      | (with_reducible exact LeO.none _)
      | (with_reducible refine LeO.ite ?_ ?_)
      | (with_reducible refine LeO.bind ?_ (fun _ => ?_))
      | exact spec_Sha256.mono _ _
      | exact LeO.none _
      | refine LeO.ite ?_ ?_
      | refine LeO.bind ?_ (fun _ => ?_)
set_option maxHeartbeats 8000000 in
set_option maxRecDepth 100000 in
theorem spec_Digest.calls (k : Nat) (a0 : ByteArray) (a1 : Int) (r : ByteArray) (w : World) (h : spec_Digest.f k a0 a1 = some r) :
    Calls Tryd.prog 74 #[.string a0, .int .i64 a1] w fun e w' => e = .returned (.string r) ∧ Below w.heap.size w w' := by
  have HB := Aside0.mk (Below.refl w.heap.size w)
  have H : ((spec_l1Width.f a1).bind fun t740001 => (if t740001 = true then ((spec_Sha256.f k a0).bind fun t740002 => (if 0 ≤ a1 then (if a1 ≤ (t740002.size : Int) then (some (t740002.extract 0 (a1 : Int).toNat)) else (none)) else (none))) else (some (⟨#[]⟩ : ByteArray)))) = some r := h
  clear h
  replace H := Option.bind_eq_some_iff.mp H
  obtain ⟨t740001, A30, H⟩ := H
  replace H : (if t740001 = true then ((spec_Sha256.f k a0).bind fun t740002 => (if 0 ≤ a1 then (if a1 ≤ (t740002.size : Int) then (some (t740002.extract 0 (a1 : Int).toNat)) else (none)) else (none))) else (some (⟨#[]⟩ : ByteArray))) = some r := H
  have A3 := Aside0.mk A30
  clear A30
  by_cases c4 : t740001 = true
  · subst c4
    have H1 : ((spec_Sha256.f k a0).bind fun t740002 => (if 0 ≤ a1 then (if a1 ≤ (t740002.size : Int) then (some (t740002.extract 0 (a1 : Int).toNat)) else (none)) else (none))) = some r := by rw [if_pos rfl] at H; exact H
    clear H
    have H := H1
    clear H1
    replace H := Option.bind_eq_some_iff.mp H
    obtain ⟨t740002, A50, H⟩ := H
    replace H : (if 0 ≤ a1 then (if a1 ≤ (t740002.size : Int) then (some (t740002.extract 0 (a1 : Int).toNat)) else (none)) else (none)) = some r := H
    have A5 := Aside0.mk A50
    clear A50
    by_cases c6 : 0 ≤ a1
    · rw [if_pos c6] at H
      have c6b0 := eq_true c6
      have c6b1 : decide (0 ≤ a1) = true := decide_eq_true c6
      clear c6
      by_cases c7 : a1 ≤ (t740002.size : Int)
      · rw [if_pos c7] at H
        have c7b0 := eq_true c7
        have c7b1 : decide (a1 ≤ (t740002.size : Int)) = true := decide_eq_true c7
        clear c7
        obtain rfl := Option.some.inj H
        go_enter Tryd.func74, Tryd.ntmps74
        go_wp2_with (first | ((with_reducible refine gate_callee (f := 43) rfl ?_); refine goesL_ (some 6) rfl rfl Tryd.func43 (by kernel_rfl) rfl #[.int .i64 a1] rfl (by (try simp only [List.map_toArray, List.map_cons, List.map_nil]); first | done | rfl | (simp only [List.length_drop, List.length_take]; rfl)) ?_; (with_reducible refine (spec_l1Width.calls a1 true _ A3.out).mono ?_); rintro e w' ⟨rfl, ⟨nd, rfl⟩⟩; refine ⟨_, rfl, ?_⟩) | ((with_reducible refine gate_callee (f := 96) rfl ?_); refine goesL_ (some 9) rfl rfl Tryd.func96 (by kernel_rfl) rfl #[.string a0] rfl (by (try simp only [List.map_toArray, List.map_cons, List.map_nil]); first | done | rfl | (simp only [List.length_drop, List.length_take]; rfl)) ?_; (with_reducible refine (spec_Sha256.calls k a0 t740002 _ A5.out).mono ?_); rintro e w8 ⟨rfl, hb⟩; refine ⟨_, rfl, ?_⟩; have n0_ := Aside0.mk (below_step (by repeat (first | (with_reducible first | exact HB.out | apply below_alloc | apply pw_below_drewN | apply below_drew1) | exact HB.out)) hb); clear HB; have HB := n0_; clear n0_; (try clear hb); (try clear hb2); (try clear hk); (try clear hi)))
        go_ret
        exact ⟨by first | rfl | (simp [errW_none, errW_some] <;> rfl) | (simp [*, errW_none, errW_some] <;> rfl), by repeat (first | (with_reducible first | exact HB.out | apply below_alloc | apply pw_below_drewN | apply below_drew1) | exact HB.out)⟩
      · rw [if_neg c7] at H
        exact absurd H (by simp)
    · rw [if_neg c6] at H
      exact absurd H (by simp)
  · replace c4 := Bool.eq_false_iff.mpr c4
    subst c4
    have H1 : (some (⟨#[]⟩ : ByteArray)) = some r := by rw [if_neg (show ¬ (false = true) by decide)] at H; exact H
    clear H
    have H := H1
    clear H1
    obtain rfl := Option.some.inj H
    go_enter Tryd.func74, Tryd.ntmps74
    go_wp2_with (first | ((with_reducible refine gate_callee (f := 43) rfl ?_); refine goesL_ (some 6) rfl rfl Tryd.func43 (by kernel_rfl) rfl #[.int .i64 a1] rfl (by (try simp only [List.map_toArray, List.map_cons, List.map_nil]); first | done | rfl | (simp only [List.length_drop, List.length_take]; rfl)) ?_; (with_reducible refine (spec_l1Width.calls a1 false _ A3.out).mono ?_); rintro e w' ⟨rfl, ⟨nd, rfl⟩⟩; refine ⟨_, rfl, ?_⟩))
    go_ret
    exact ⟨by first | rfl | (simp [errW_none, errW_some] <;> rfl) | (simp [*, errW_none, errW_some] <;> rfl), by repeat (first | (with_reducible first | exact HB.out | apply below_alloc | apply pw_below_drewN | apply below_drew1) | exact HB.out)⟩
end Go.Proofs.YtmfejehhfmaodabDoor.Z
end
section
namespace Go.Proofs.YtmfejehhfmaodabDoor.Z
open Go.RowKit Go.Proofs.YtmfejehhfmaodabDoorW.PrintWords Go.Proofs.YtmfejehhfmaodabDoorW.PrintLast Go.Proofs.YtmfejehhfmaodabDoorW.PrintMore
attribute [local go_sem] max2_int min2_int max_two min_two max_three min_three max_four min_four   -- for this text's walks alone
set_option linter.unusedVariables false
set_option linter.unusedSimpArgs false
def spec_l2Text.f (a0 : ByteArray) : Option (ByteArray) := if 1 + a0.size ≤ 9223372036854775807 then (some ((⟨#[78]⟩ : ByteArray) ++ a0)) else (none)
set_option maxHeartbeats 8000000 in
set_option maxRecDepth 100000 in
theorem spec_l2Text.calls (a0 : ByteArray) (r : ByteArray) (w : World) (h : spec_l2Text.f a0 = some r) :
    Calls Tryd.prog 59 #[.string a0] w fun e w' => e = .returned (.string r) ∧ Drawn0 w w' := by
  have H : (if 1 + a0.size ≤ 9223372036854775807 then (some ((⟨#[78]⟩ : ByteArray) ++ a0)) else (none)) = some r := h
  clear h
  by_cases c2 : 1 + a0.size ≤ 9223372036854775807
  · rw [if_pos c2] at H
    have c2b0 := eq_true c2
    have c2b1 : decide (1 + a0.size ≤ 9223372036854775807) = true := decide_eq_true c2
    try have c2b2 : (9223372036854775807 < 1 + a0.size) = False := eq_false (Nat.not_lt.2 c2)
    obtain rfl := Option.some.inj H
    go_enter Tryd.func59, Tryd.ntmps59
    go_wp2
    go_ret
    exact ⟨by first | rfl | (simp; done) | (simp [*]; done), by repeat (first | exact Drawn0.refl _ | apply Drawn0.step)⟩
  · rw [if_neg c2] at H
    exact absurd H (by simp)
end Go.Proofs.YtmfejehhfmaodabDoor.Z
end
section
namespace Go.Proofs.YtmfejehhfmaodabDoor.Z
open Go.RowKit Go.Proofs.YtmfejehhfmaodabDoorW.PrintWords Go.Proofs.YtmfejehhfmaodabDoorW.PrintLast Go.Proofs.YtmfejehhfmaodabDoorW.PrintMore
attribute [local go_sem] max2_int min2_int max_two min_two max_three min_three max_four min_four   -- for this text's walks alone
set_option linter.unusedVariables false
set_option linter.unusedSimpArgs false
def spec_l3Hashes.l0 : Nat → List ByteArray → Int → Int → List ByteArray → Option (List ByteArray)
  | 0, _, _, _, _ => none
  | k + 1, x3, x4, x350002000, x350002001 => if x4 < (x350002001.length : Int) then (if 0 ≤ x4 then ((spec_l2Text.f (rdOf ByteArray.empty x350002001 x4)).bind fun t350006 => ((spec_Digest.f k t350006 x350002000).bind fun t350007 => (if x3.length < 8796093022208 then (spec_l3Hashes.l0 k (x3 ++ [t350007]) (wrap64 (x4 + 1)) x350002000 x350002001) else (none)))) else (none)) else (some x3)
def spec_l3Hashes.f (k : Nat) (a0_0 : Int) (l0_1 : List ByteArray) : Option (List ByteArray) := spec_l3Hashes.l0 k (([] : List ByteArray)) 0 a0_0 l0_1
theorem spec_l3Hashes.mono_l : ∀ k, (∀ y0 y1 y2 y3, LeO (spec_l3Hashes.l0 k y0 y1 y2 y3) (spec_l3Hashes.l0 (k + 1) y0 y1 y2 y3))
  | 0 => fun _ _ _ _ r h => by simp [spec_l3Hashes.l0] at h
  | k + 1 => by
    have ih0 := spec_l3Hashes.mono_l k
    · intro y0 y1 y2 y3
      unfold spec_l3Hashes.l0
      repeat' first
      | (with_reducible exact ih0 _ _ _ _)
      | (with_reducible exact spec_Digest.mono _ _ _)
      | (with_reducible exact LeO.refl _)
      | (with_reducible exact LeO.none _)
      | (with_reducible refine LeO.ite ?_ ?_)
      | (with_reducible refine LeO.bind ?_ (fun _ => ?_))
      | exact ih0 _ _ _ _
      | exact spec_Digest.mono _ _ _
      | exact LeO.none _
      | refine LeO.ite ?_ ?_
      | refine LeO.bind ?_ (fun _ => ?_)
theorem spec_l3Hashes.mono : ∀ a0 a1 k, LeO (spec_l3Hashes.f k a0 a1) (spec_l3Hashes.f (k + 1) a0 a1) := by
  intro a0 a1 k
  have ih0 := spec_l3Hashes.mono_l k
  unfold spec_l3Hashes.f
  repeat' first
      | (with_reducible exact ih0 _ _ _ _)
      | (with_reducible exact spec_Digest.mono _ _ _)
      | (with_reducible exact LeO.refl _)
      | (with_reducible exact LeO.none _)
      | (with_reducible refine LeO.ite ?_ ?_)
      | (with_reducible refine LeO.bind ?_ (fun _ => ?_))
      | exact ih0 _ _ _ _
      | exact spec_Digest.mono _ _ _
      | exact LeO.none _
      | refine LeO.ite ?_ ?_
      | refine LeO.bind ?_ (fun _ => ?_)
def spec_l3Hashes.T5 : Bool × List (List Nat × List Nat) := (true, [([], []), ([], []), ([1], [1]), ([], []), ([2, 3], [2, 3]), ([4], [4]), ([5], [5]), ([], []), ([7], [7]), ([6, 8, 6], [6, 8]), ([9], [9]), ([0, 10, 9], [0, 10]), ([11, 11, 0, 1, 2, 3, 4, 5, 6, 7, 8, 9, 10, 11], [0, 11])])
def spec_l3Hashes.B5 : List Nat := [0, 0, 2, 0, 14, 30, 62, 0, 128, 510, 1022, 2047, 4095]
theorem spec_l3Hashes.tab5 : rtab .any (opsOf Tryd.f35 5) = spec_l3Hashes.T5 := by kernel_rfl
theorem spec_l3Hashes.bits5 : waitsOk spec_l3Hashes.T5.2 spec_l3Hashes.B5 = true := by kernel_rfl
set_option maxHeartbeats 8000000 in
set_option maxRecDepth 100000 in
theorem spec_l3Hashes.calls (k : Nat) (a0_0 : Int) (A0_1 : Option Addr) (c0_1 : Nat) (l0_1 : List ByteArray) (r : List ByteArray) (w : World) (hr0_1 : Kd.C Kd.string w A0_1 l0_1.length l0_1) (hc0_1 : l0_1.length ≤ c0_1) (h : spec_l3Hashes.f k a0_0 l0_1 = some r) :
    Calls Tryd.prog 35 #[.agg #[.int .i64 a0_0, .slice A0_1 l0_1.length c0_1]] w fun e w' => ∃ v0_ : Value, e = .returned (v0_) ∧ Kd.R Kd.string 9 w' w.heap.size (fun _ => True) v0_ r ∧ Below w.heap.size w w' := by
  have hu30 := Tryd.underlying30
  have HR0_1 := Aside0.mk hr0_1
  have HC0_1 := Aside0.mk hc0_1
  clear hr0_1 hc0_1
  have HB := Aside0.mk (Below.refl w.heap.size w)
  have H : (spec_l3Hashes.l0 k (([] : List ByteArray)) 0 a0_0 l0_1) = some r := h
  clear h
  obtain ⟨y350002, hy350002⟩ : ∃ y_ : List ByteArray, y_ = (([] : List ByteArray)) := ⟨_, rfl⟩
  replace H : (spec_l3Hashes.l0 k y350002 0 a0_0 l0_1) = some r := by first | (rw [hy350002]; with_reducible exact H) | (have H2_ := (Option.bind_some _ _).symm.trans H; rw [hy350002]; with_reducible exact H2_) | (have H2_ := (Option.bind_some _ _).symm.trans H; with_reducible exact H2_) | with_reducible exact H | (rw [hy350002]; exact H) | exact H
  have Ny350002 := Aside0.mk hy350002
  clear hy350002
  have H' := Aside0.mk H
  clear H
  go_enter Tryd.func35, Tryd.ntmps35
  go_wp2_with (first | ((with_reducible refine gate_dst (N := 1) rfl ?_); refine box_event ?hg (N := 1) ?hd (cs := #[.int .i64 a0_0, .slice A0_1 l0_1.length c0_1]) (t := 30) ?hr ?_; (case hd => rfl); (case hg => rfl); (case hr => first | (go_simp; done) | (go_simp; rfl)); intro gb350001 hg w2 hbox hb; have n0_ := Aside0.mk (below_step (by repeat (first | (with_reducible first | exact HB.out | apply below_alloc | apply pw_below_drewN | apply below_drew1) | exact HB.out)) hb); have n1_ := Aside0.mk (hbox); have n2_ := Aside0.mk ((by rw [hg]; exact (below_size (by repeat (first | (with_reducible first | exact HB.out | apply below_alloc | apply pw_below_drewN | apply below_drew1) | exact HB.out))) : w.heap.size ≤ gb350001)); have n3_ := Aside0.mk ((by rw [hg]; exact (below_size (by repeat (first | (with_reducible first | exact HB.out | apply below_alloc | apply pw_below_drewN | apply below_drew1) | exact HB.out))) : w.heap.size ≤ gb350001)); clear HB; have HB := n0_; have BK350001 := n1_; have GW350001 := n2_; have GE350001 := n3_; clear n0_ n1_ n2_ n3_; clear hb hbox hg) | ((with_reducible refine gate_dst (N := 5) rfl ?_); refine Kd.R_lit Kd.string _ 9 ?hg (N := 5) ?hd (xs := ([] : List ByteArray)) (inner := []) (ok := fun _ => True) (okp := fun _ => True) ?hr ?hp (fun _ hk => hk) trivial (Below.refl _ _) (Nat.le_refl _) (by simp) ?_; (case hd => rfl); (case hg => rfl); (case hr => first | (go_simp; done) | (go_simp; rfl)); (case hp => exact (Reps.none _ _)); intro v350003 w3 ho4 hb hg_ hnew_; clear hg_ hnew_; (first | rw [← Ny350002.out] at ho4 | (simp only [Int.reduceToNat] at ho4; rw [← Ny350002.out] at ho4)); have n0_ := Aside0.mk (Kd.R_lower ho4 (below_size (by repeat (first | (with_reducible first | exact HB.out | apply below_alloc | apply pw_below_drewN | apply below_drew1 | refine below_set ?_ GE350001.out) | exact HB.out)))); have n1_ := Aside0.mk (blk_below (g := gb350001) (o := .cells #[.int .i64 a0_0, .slice A0_1 l0_1.length c0_1] 30 (0, 0)) (by (with_reducible repeat (first | refine blk_drewN ?_ _ | refine blk_drew ?_ | refine blk_alloc ?_ _)); exact BK350001.out) hb); have n2_ := Aside0.mk (below_step (by repeat (first | (with_reducible first | exact HB.out | apply below_alloc | apply pw_below_drewN | apply below_drew1 | refine below_set ?_ GE350001.out) | exact HB.out)) hb); clear BK350001; clear HB; have HO350004 := n0_; have BK350001 := n1_; have HB := n2_; clear n0_ n1_ n2_; clear hb ho4))
  go_loopg [3, 4] k (fun kq v3 v4 w' => ∃ (x3_1 : List ByteArray) (x4_1 : Int), v4 = .int .i64 x4_1 ∧ Aside0 (spec_l3Hashes.l0 kq x3_1 x4_1 a0_0 l0_1 = some r) ∧ Aside0 (kq ≤ k) ∧ Aside0 (Kd.R Kd.string 9 w' w.heap.size (fun _ => True) v3 x3_1) ∧ Aside0 (w'.heap[gb350001]? = some (.cells #[.int .i64 a0_0, (.slice A0_1 l0_1.length c0_1)] 30 (0, 0))) ∧ Aside0 (Below w.heap.size w w'))
  case atStart => exact ⟨(y350002), (0), (by first | rfl | (simp; done) | (simp [*]; done)), H', ⟨Nat.le_refl _⟩, ⟨by (with_reducible repeat (first | apply Kd.R_alloc | apply Kd.R_drewN | apply Kd.R_drew)); exact HO350004.out⟩, ⟨by (with_reducible repeat (first | refine blk_drewN ?_ _ | refine blk_drew ?_ | refine blk_alloc ?_ _)); exact BK350001.out⟩, ⟨by repeat (first | (with_reducible first | exact HB.out | apply below_alloc | apply pw_below_drewN | apply below_drew1 | refine below_set ?_ GE350001.out) | exact HB.out)⟩⟩
  case round =>
    clear H'
    try clear p2
    try clear c3
    obtain ⟨x3_1, x4_1, rfl, HA, HK1, HO_3, BK350001, HB⟩ := hrel
    cases gk with
    | zero => exact absurd HA.out (by simp [spec_l3Hashes.l0])
    | succ k1 =>
      have H := HA.out
      clear HA
      simp only [spec_l3Hashes.l0] at H
      by_cases c5 : x4_1 < (l0_1.length : Int)
      · rw [if_pos c5] at H
        have c5b0 : decide (x4_1 < (l0_1.length : Int)) = true := decide_eq_true c5
        clear c5
        by_cases c6 : 0 ≤ x4_1
        · rw [if_pos c6] at H
          have c6b0 : decide (0 ≤ x4_1) = true := decide_eq_true c6
          clear c6
          replace H := Option.bind_eq_some_iff.mp H
          obtain ⟨t350006, A70, H⟩ := H
          replace H : ((spec_Digest.f k1 t350006 a0_0).bind fun t350007 => (if x3_1.length < 8796093022208 then (spec_l3Hashes.l0 k1 (x3_1 ++ [t350007]) (wrap64 (x4_1 + 1)) a0_0 l0_1) else (none))) = some r := H
          have A7 := Aside0.mk A70
          clear A70
          replace H := Option.bind_eq_some_iff.mp H
          obtain ⟨t350007, A80, H⟩ := H
          replace H : (if x3_1.length < 8796093022208 then (spec_l3Hashes.l0 k1 (x3_1 ++ [t350007]) (wrap64 (x4_1 + 1)) a0_0 l0_1) else (none)) = some r := H
          have A8 := Aside0.mk A80
          clear A80
          by_cases c9 : x3_1.length < 8796093022208
          · rw [if_pos c9] at H
            have LMc9 := Aside0.mk c9
            clear c9
            obtain ⟨y350008, hy350008⟩ : ∃ y_ : List ByteArray, y_ = (x3_1 ++ [t350007]) := ⟨_, rfl⟩
            replace H : (spec_l3Hashes.l0 k1 y350008 (wrap64 (x4_1 + 1)) a0_0 l0_1) = some r := by first | (rw [hy350008]; with_reducible exact H) | (have H2_ := (Option.bind_some _ _).symm.trans H; rw [hy350008]; with_reducible exact H2_) | (have H2_ := (Option.bind_some _ _).symm.trans H; with_reducible exact H2_) | with_reducible exact H | (rw [hy350008]; exact H) | exact H
            have Ny350008 := Aside0.mk hy350008
            clear hy350008
            have H' := Aside0.mk H
            clear H
            have hcz10_0 : wr.cell? ⟨gb350001, 0, none⟩ = some (.int .i64 a0_0) := (blk_cell BK350001.out 0).trans rfl
            have hcz10_1 : wr.cell? ⟨gb350001, 1, none⟩ = some (.slice A0_1 l0_1.length c0_1) := (blk_cell BK350001.out 1).trans rfl
            have hfz10_0 := blk_frozen BK350001.out 0
            have hfz10_1 := blk_frozen BK350001.out 1
            try go_wp2
            have n0_ := Aside0.mk (Kd.R_drew HO_3.out)
            have n1_ := Aside0.mk (blk_drew BK350001.out)
            have n2_ := Aside0.mk (below_drew1 HB.out)
            clear HO_3
            clear BK350001
            clear HB
            have HO_3 := n0_
            have BK350001 := n1_
            have HB := n2_
            clear n0_ n1_ n2_
            have p350005 : 0 ≤ (x4_1 : Int) := of_decide_eq_true (by first | (with_reducible assumption) | assumption)
            have q350005 : x4_1 < (l0_1.length : Int) := of_decide_eq_true (by first | (with_reducible assumption) | assumption)
            obtain ⟨ad350005, e350005, hx350005_0⟩ := Kd.at_string HR0_1.out x4_1 p350005 q350005
            have hw350005_0 := hx350005_0
            cases e350005
            replace hx350005_0 := (HB.out.cell (World.block_lt_of_cell? w _ hx350005_0)).trans hx350005_0
            replace p350005 := eq_true p350005
            replace q350005 := eq_true q350005
            refine start_ (n := 13) (S := fun w' => w'.cell? ⟨gb350001, 0, none⟩ = some (.int .i64 a0_0) ∧ w'.cell? ⟨gb350001, 1, none⟩ = some (.slice (some ad350005) l0_1.length c0_1) ∧ w'.cell? (ad350005.add (x4_1).toNat) = some (.string (rdOf ByteArray.empty l0_1 x4_1))) (ds := []) #[false, false, false, false, false, false, false, false, false, false, false, false, false] (by kernel_rfl) rfl rfl ⟨(blk_cell BK350001.out 0).trans rfl, (blk_cell BK350001.out 1).trans rfl, ((HB.out.cell (World.block_lt_of_cell? w _ hw350005_0)).trans hw350005_0)⟩ (fun hHeld => ?_); refine with_tabW spec_l3Hashes.tab5 spec_l3Hashes.bits5 (fun HT_ HW_ => ?_)
            generalize wr.drew = w11 at HO_3 BK350001 HB hx350005_0 hHeld ⊢
            refine pure_ (i := 0) (N := some 13) (v := ?_) (a' := ?_) #[true, false, false, false, false, false, false, false, false, false, false, false, false] rfl rfl (any_of HT_.out (by kernel_rfl)) (fun _ _ _ h => h) (Or.inl ⟨by rfl, ?_⟩) ?_ ?_
            rotate_left
            · intro w'
              go_simp
              with_reducible rfl
            rotate_left
            · simp only [Act.put, List.setIfInBounds_toArray, List.set_cons_zero, List.set_cons_succ, i64_w, i32_w]
              rfl
            refine pure_ (i := 1) (N := some 14) (v := ?_) (a' := ?_) #[true, true, false, false, false, false, false, false, false, false, false, false, false] rfl rfl (any_of HT_.out (by kernel_rfl)) (fun _ _ _ h => h) (Or.inl ⟨by rfl, ?_⟩) ?_ ?_
            rotate_left
            · intro w'
              go_simp
              with_reducible rfl
            rotate_left
            · simp only [Act.put, List.setIfInBounds_toArray, List.set_cons_zero, List.set_cons_succ, i64_w, i32_w]
              rfl
            refine pure_ (i := 3) (N := some 16) (v := ?_) (a' := ?_) #[true, true, false, true, false, false, false, false, false, false, false, false, false] rfl rfl (any_of HT_.out (by kernel_rfl)) (fun _ _ _ h => h) (Or.inl ⟨by rfl, ?_⟩) ?_ ?_
            rotate_left
            · intro w'
              go_simp
              with_reducible rfl
            rotate_left
            · simp only [Act.put, List.setIfInBounds_toArray, List.set_cons_zero, List.set_cons_succ, i64_w, i32_w]
              rfl
            refine pure_ (i := 7) (N := some 20) (v := ?_) (a' := ?_) #[true, true, false, true, false, false, false, true, false, false, false, false, false] rfl rfl (any_of HT_.out (by kernel_rfl)) (fun _ _ _ h => h) (Or.inl ⟨by rfl, ?_⟩) ?_ ?_
            rotate_left
            · intro w'
              go_simp
              with_reducible rfl
            rotate_left
            · simp only [Act.put, List.setIfInBounds_toArray, List.set_cons_zero, List.set_cons_succ, i64_w, i32_w]
              rfl
            refine take_ (i := 2) (N := some 15) (v := ?_) (a' := ?_) #[true, true, true, true, false, false, false, true, false, false, false, false, false] rfl rfl (take_ofW HT_.out HW_.out (by kernel_rfl)) (fun _ _ _ h => h) (Or.inl ⟨by rfl, ?_⟩) hHeld ?_ ?_
            rotate_left
            · rintro w' ⟨s0, s1, s2⟩
              go_simp
              with_reducible rfl
            rotate_left
            · simp only [Act.put, List.setIfInBounds_toArray, List.set_cons_zero, List.set_cons_succ, i64_w, i32_w]
              rfl
            refine pure_ (i := 4) (N := some 17) (v := ?_) (a' := ?_) #[true, true, true, true, true, false, false, true, false, false, false, false, false] rfl rfl (any_of HT_.out (by kernel_rfl)) (fun _ _ _ h => h) (Or.inl ⟨by rfl, ?_⟩) ?_ ?_
            rotate_left
            · intro w'
              go_simp
              with_reducible rfl
            rotate_left
            · simp only [Act.put, List.setIfInBounds_toArray, List.set_cons_zero, List.set_cons_succ, i64_w, i32_w]
              rfl
            refine take_ (i := 5) (N := some 18) (v := ?_) (a' := ?_) #[true, true, true, true, true, true, false, true, false, false, false, false, false] rfl rfl (take_ofW HT_.out HW_.out (by kernel_rfl)) (fun _ _ _ h => h) (Or.inl ⟨by rfl, ?_⟩) hHeld ?_ ?_
            rotate_left
            · rintro w' ⟨s0, s1, s2⟩
              go_simp
              with_reducible rfl
            rotate_left
            · simp only [Act.put, List.setIfInBounds_toArray, List.set_cons_zero, List.set_cons_succ, i64_w, i32_w]
              rfl
            refine take_ (i := 8) (N := some 21) (v := ?_) (a' := ?_) #[true, true, true, true, true, true, false, true, true, false, false, false, false] rfl rfl (take_ofW HT_.out HW_.out (by kernel_rfl)) (fun _ _ _ h => h) (Or.inl ⟨by rfl, ?_⟩) hHeld ?_ ?_
            rotate_left
            · rintro w' ⟨s0, s1, s2⟩
              go_simp
              with_reducible rfl
            rotate_left
            · simp only [Act.put, List.setIfInBounds_toArray, List.set_cons_zero, List.set_cons_succ, i64_w, i32_w]
              rfl
            refine one_ (i := 6) (N := some 19) #[true, true, true, true, true, true, true, true, true, false, false, false, false] rfl rfl (one_of HT_.out (by kernel_rfl)) (by decide) (fun K hK => ?_)
            refine goes_ Tryd.func59 (by kernel_rfl) rfl #[.string (rdOf ByteArray.empty l0_1 x4_1)] (by rfl) rfl rfl (by (try simp only [List.map_toArray, List.map_cons, List.map_nil]); first | done | rfl | (simp only [List.length_drop, List.length_take]; rfl)) ?_
            with_reducible refine (spec_l2Text.calls (rdOf ByteArray.empty l0_1 x4_1) t350006 _ A7.out).mono ?_
            rintro e w' ⟨rfl, ⟨nd, rfl⟩⟩
            refine ⟨_, rfl, ?_⟩
            refine hK.out _ _ ⟨(blk_cell BK350001.out 0).trans rfl, (blk_cell BK350001.out 1).trans rfl, ((HB.out.cell (World.block_lt_of_cell? w _ hw350005_0)).trans hw350005_0)⟩ (fun hHeld => ?_)
            clear hK K
            refine norm_ (a' := ?_) ?_ ?_
            rotate_left
            · show Act.put _ (some 19) _ = _
              simp only [Act.put, List.setIfInBounds_toArray, List.set_cons_zero, List.set_cons_succ, i64_w, i32_w]
              rfl
            refine one_ (i := 9) (N := some 22) #[true, true, true, true, true, true, true, true, true, true, false, false, false] rfl rfl (one_of HT_.out (by kernel_rfl)) (by decide) (fun K hK => ?_)
            refine goes_ Tryd.func74 (by kernel_rfl) rfl #[.string t350006, .int .i64 a0_0] (by rfl) rfl rfl (by (try simp only [List.map_toArray, List.map_cons, List.map_nil]); first | done | rfl | (simp only [List.length_drop, List.length_take]; rfl)) ?_
            with_reducible refine (spec_Digest.calls k1 t350006 a0_0 t350007 _ A8.out).mono ?_
            rintro e w12 ⟨rfl, hb⟩
            refine ⟨_, rfl, ?_⟩
            have n0_ := Aside0.mk (Kd.R_below (by (with_reducible repeat (first | apply Kd.R_alloc | apply Kd.R_drewN | apply Kd.R_drew)); exact HO_3.out) hb)
            have n1_ := Aside0.mk (blk_below (g := gb350001) (o := .cells #[.int .i64 a0_0, .slice (some ad350005) l0_1.length c0_1] 30 (0, 0)) (by (with_reducible repeat (first | refine blk_drewN ?_ _ | refine blk_drew ?_ | refine blk_alloc ?_ _)); exact BK350001.out) hb)
            have n2_ := Aside0.mk (below_step (by repeat (first | (with_reducible first | exact HB.out | apply below_alloc | apply pw_below_drewN | apply below_drew1 | refine below_set ?_ GE350001.out) | exact HB.out)) hb)
            clear HO_3
            clear BK350001
            clear HB
            have HO_3 := n0_
            have BK350001 := n1_
            have HB := n2_
            clear n0_ n1_ n2_
            (try clear hb)
            (try clear hb2)
            (try clear hk)
            (try clear hi)
            refine hK.out _ _ ⟨(blk_cell BK350001.out 0).trans rfl, (blk_cell BK350001.out 1).trans rfl, ((HB.out.cell (World.block_lt_of_cell? w _ hw350005_0)).trans hw350005_0)⟩ (fun hHeld => ?_)
            clear hK K
            refine norm_ (a' := ?_) ?_ ?_
            rotate_left
            · show Act.put _ (some 22) _ = _
              simp only [Act.put, List.setIfInBounds_toArray, List.set_cons_zero, List.set_cons_succ, i64_w, i32_w]
              rfl
            refine one_ (i := 10) (N := some 23) #[true, true, true, true, true, true, true, true, true, true, true, false, false] rfl rfl (one_of HT_.out (by kernel_rfl)) (by decide) (fun K hK => ?_)
            refine value_ (w1 := ?_) (v := ?_) (by rfl) rfl ?_ ?_
            rotate_left 2
            · go_simp
              constructor
              · rfl
              · rfl
            refine hK.out _ _ ⟨(blk_cell (blk_alloc BK350001.out _) 0).trans rfl, (blk_cell (blk_alloc BK350001.out _) 1).trans rfl, (World.cell?_alloc_lt _ _ _ (World.block_lt_of_cell? _ _ (((HB.out.cell (World.block_lt_of_cell? w _ hw350005_0)).trans hw350005_0)))).trans (((HB.out.cell (World.block_lt_of_cell? w _ hw350005_0)).trans hw350005_0))⟩ (fun hHeld => ?_)
            clear hK K
            refine norm_ (a' := ?_) ?_ ?_
            rotate_left
            · show Act.put _ (some 23) _ = _
              simp only [Act.put, List.setIfInBounds_toArray, List.set_cons_zero, List.set_cons_succ, i64_w, i32_w]
              rfl
            refine one_ (i := 11) (N := some 24) #[true, true, true, true, true, true, true, true, true, true, true, true, false] rfl rfl (one_of HT_.out (by kernel_rfl)) (by decide) (fun K hK => ?_)
            refine Kd.R_append_step Kd.string (w0 := w) w.heap.size (by rfl) (.tmp 13) (.tmp 23) 22 9 (.string ⟨#[]⟩) 16 rfl Tryd.underlying22 info9 rfl (by decide) (by omega) u3 x3_1 t350007 [.string t350007] (fun _ => True) (fun _ => False) rfl rfl ?aP (fun _ hk => hk.elim) ?aF ?aO ?aB ?aS ?aL ?_
            (case aP => exact rfl)
            (case aB => exact (by repeat (first | (with_reducible first | exact HB.out | apply below_alloc | apply pw_below_drewN | apply below_drew1 | refine below_set ?_ GE350001.out) | exact HB.out)))
            (case aF => exact (fun _ _ => trivial))
            (case aO => exact (by (with_reducible repeat (first | apply Kd.R_alloc | apply Kd.R_drewN | apply Kd.R_drew)); exact HO_3.out))
            (case aS => exact (below_size (by repeat (first | (with_reducible first | exact HB.out | apply below_alloc | apply pw_below_drewN | apply below_drew1 | refine below_set ?_ GE350001.out) | exact HB.out))))
            (case aL => have := LMc9.out; omega)
            intro v350009 w13 ho hb hg hat
            rw [← Ny350008.out] at ho
            have n0_ := Aside0.mk (blk_grown (g := gb350001) (o := .cells #[.int .i64 a0_0, .slice (some ad350005) l0_1.length c0_1] 30 (0, 0)) (by (with_reducible repeat (first | refine blk_drewN ?_ _ | refine blk_drew ?_ | refine blk_alloc ?_ _)); exact BK350001.out) hg (Kd.R_ne HO_3.out BK350001.out (by decide)))
            have n1_ := Aside0.mk (hb)
            have n2_ := Aside0.mk (ho)
            clear BK350001
            clear HB
            clear HO_3
            have BK350001 := n0_
            have HB := n1_
            have HO350010 := n2_
            clear n0_ n1_ n2_
            clear ho hb hg hat
            refine hK.out _ _ ⟨(blk_cell BK350001.out 0).trans rfl, (blk_cell BK350001.out 1).trans rfl, ((HB.out.cell (World.block_lt_of_cell? w _ hw350005_0)).trans hw350005_0)⟩ (fun hHeld => ?_)
            clear hK K
            refine norm_ (a' := ?_) ?_ ?_
            rotate_left
            · show Act.put _ (some 24) _ = _
              simp only [Act.put, List.setIfInBounds_toArray, List.set_cons_zero, List.set_cons_succ, i64_w, i32_w]
              rfl
            refine pure_ (i := 12) (N := some 3) (v := ?_) (a' := ?_) #[true, true, true, true, true, true, true, true, true, true, true, true, true] rfl rfl (any_of HT_.out (by kernel_rfl)) (fun _ _ _ h => h) (Or.inl ⟨by rfl, ?_⟩) ?_ ?_
            rotate_left
            · intro w'
              go_simp
              with_reducible rfl
            rotate_left
            · simp only [Act.put, List.setIfInBounds_toArray, List.set_cons_zero, List.set_cons_succ, i64_w, i32_w]
              rfl
            refine done_ (done_of HT_.out (by kernel_rfl)) ?_
            try go_wp2
            go_roundg k1
            case measure => have := HK1.out; omega
            case rel => exact ⟨(y350008), (wrap64 (x4_1 + 1)), (by first | rfl | (simp; done) | (simp [*]; done)), H', ⟨by have := HK1.out; omega⟩, ⟨by (with_reducible repeat (first | apply Kd.R_alloc | apply Kd.R_drewN | apply Kd.R_drew)); exact HO350010.out⟩, ⟨by (with_reducible repeat (first | refine blk_drewN ?_ _ | refine blk_drew ?_ | refine blk_alloc ?_ _)); exact BK350001.out⟩, ⟨by repeat (first | (with_reducible first | exact HB.out | apply below_alloc | apply pw_below_drewN | apply below_drew1 | refine below_set ?_ GE350001.out) | exact HB.out)⟩⟩
          · rw [if_neg c9] at H
            exact absurd H (by simp)
        · rw [if_neg c6] at H
          exact absurd H (by simp)
      · rw [if_neg c5] at H
        have c5b0 : decide (x4_1 < (l0_1.length : Int)) = false := decide_eq_false c5
        clear c5
        obtain rfl := Option.some.inj H
        have hcz14_0 : wr.cell? ⟨gb350001, 0, none⟩ = some (.int .i64 a0_0) := (blk_cell BK350001.out 0).trans rfl
        have hcz14_1 : wr.cell? ⟨gb350001, 1, none⟩ = some (.slice A0_1 l0_1.length c0_1) := (blk_cell BK350001.out 1).trans rfl
        have hfz14_0 := blk_frozen BK350001.out 0
        have hfz14_1 := blk_frozen BK350001.out 1
        go_wp2
        go_ret
        exact ⟨_, by first | rfl | (simp [errW_none, errW_some] <;> rfl) | (simp [*, errW_none, errW_some] <;> rfl), by (with_reducible repeat (first | apply Kd.R_alloc | apply Kd.R_drewN | apply Kd.R_drew)); exact HO_3.out, by repeat (first | (with_reducible first | exact HB.out | apply below_alloc | apply pw_below_drewN | apply below_drew1 | refine below_set ?_ GE350001.out) | exact HB.out)⟩
end Go.Proofs.YtmfejehhfmaodabDoor.Z
end
section
namespace Go.Proofs.YtmfejehhfmaodabDoor.Z
open Go.RowKit Go.Proofs.YtmfejehhfmaodabDoorW.PrintWords Go.Proofs.YtmfejehhfmaodabDoorW.PrintLast Go.Proofs.YtmfejehhfmaodabDoorW.PrintMore
attribute [local go_sem] max2_int min2_int max_two min_two max_three min_three max_four min_four   -- for this text's walks alone
set_option linter.unusedVariables false
set_option linter.unusedSimpArgs false
def spec_l3PoolOk.f (a0_0 : Int) (l0_1 : List ByteArray) : Option (Bool) := (spec_l1Width.f a0_0).bind fun t330002 => (if t330002 = true then (some (decide ((l0_1.length : Int) ≤ 20000))) else (some false))
set_option maxHeartbeats 8000000 in
set_option maxRecDepth 100000 in
theorem spec_l3PoolOk.calls (a0_0 : Int) (A0_1 : Option Addr) (c0_1 : Nat) (l0_1 : List ByteArray) (r : Bool) (w : World) (hr0_1 : Kd.C Kd.string w A0_1 l0_1.length l0_1) (hc0_1 : l0_1.length ≤ c0_1) (h : spec_l3PoolOk.f a0_0 l0_1 = some r) :
    Calls Tryd.prog 33 #[.agg #[.int .i64 a0_0, .slice A0_1 l0_1.length c0_1]] w fun e w' => e = .returned (.bool r) ∧ Below w.heap.size w w' := by
  have hu30 := Tryd.underlying30
  have HR0_1 := Aside0.mk hr0_1
  have HC0_1 := Aside0.mk hc0_1
  clear hr0_1 hc0_1
  have HB := Aside0.mk (Below.refl w.heap.size w)
  have H : ((spec_l1Width.f a0_0).bind fun t330002 => (if t330002 = true then (some (decide ((l0_1.length : Int) ≤ 20000))) else (some false))) = some r := h
  clear h
  replace H := Option.bind_eq_some_iff.mp H
  obtain ⟨t330002, A20, H⟩ := H
  replace H : (if t330002 = true then (some (decide ((l0_1.length : Int) ≤ 20000))) else (some false)) = some r := H
  have A2 := Aside0.mk A20
  clear A20
  by_cases c3 : t330002 = true
  · subst c3
    have H1 : (some (decide ((l0_1.length : Int) ≤ 20000))) = some r := by rw [if_pos rfl] at H; exact H
    clear H
    have H := H1
    clear H1
    obtain rfl := Option.some.inj H
    go_enter Tryd.func33, Tryd.ntmps33
    go_wp2_with (first | ((with_reducible refine gate_dst (N := 1) rfl ?_); (try (refine gate_guard (by rfl) ?_; dsimp only)); refine box_event ?hg (N := 1) ?hd (cs := #[.int .i64 a0_0, .slice A0_1 l0_1.length c0_1]) (t := 30) ?hr ?_; (case hd => rfl); (case hg => rfl); (case hr => first | (go_simp; done) | (go_simp; rfl)); intro gb330001 hg w4 hbox hb; have n0_ := Aside0.mk (below_step (by repeat (first | (with_reducible first | exact HB.out | apply below_alloc | apply pw_below_drewN | apply below_drew1) | exact HB.out)) hb); have n1_ := Aside0.mk (hbox); have n2_ := Aside0.mk ((by rw [hg]; exact (below_size (by repeat (first | (with_reducible first | exact HB.out | apply below_alloc | apply pw_below_drewN | apply below_drew1) | exact HB.out))) : w.heap.size ≤ gb330001)); have n3_ := Aside0.mk ((by rw [hg]; exact (below_size (by repeat (first | (with_reducible first | exact HB.out | apply below_alloc | apply pw_below_drewN | apply below_drew1) | exact HB.out))) : w.heap.size ≤ gb330001)); clear HB; have HB := n0_; have BK330001 := n1_; have GW330001 := n2_; have GE330001 := n3_; clear n0_ n1_ n2_ n3_; clear hb hbox hg; have hcz5_0 : w4.cell? ⟨gb330001, 0, none⟩ = some (.int .i64 a0_0) := (blk_cell BK330001.out 0).trans rfl; have hcz5_1 : w4.cell? ⟨gb330001, 1, none⟩ = some (.slice A0_1 l0_1.length c0_1) := (blk_cell BK330001.out 1).trans rfl; have hfz5_0 := blk_frozen BK330001.out 0; have hfz5_1 := blk_frozen BK330001.out 1) | ((with_reducible refine gate_callee (f := 43) rfl ?_); refine goesL_ (some 5) rfl rfl Tryd.func43 (by kernel_rfl) rfl #[.int .i64 a0_0] rfl (by (try simp only [List.map_toArray, List.map_cons, List.map_nil]); first | done | rfl | (simp only [List.length_drop, List.length_take]; rfl)) ?_; (with_reducible refine (spec_l1Width.calls a0_0 true _ A2.out).mono ?_); rintro e w' ⟨rfl, ⟨nd, rfl⟩⟩; refine ⟨_, rfl, ?_⟩))
    go_ret
    exact ⟨by first | rfl | (simp [errW_none, errW_some] <;> rfl) | (simp [*, errW_none, errW_some] <;> rfl), by repeat (first | (with_reducible first | exact HB.out | apply below_alloc | apply pw_below_drewN | apply below_drew1 | refine below_set ?_ GE330001.out) | exact HB.out)⟩
  · replace c3 := Bool.eq_false_iff.mpr c3
    subst c3
    have H1 : (some false) = some r := by rw [if_neg (show ¬ (false = true) by decide)] at H; exact H
    clear H
    have H := H1
    clear H1
    obtain rfl := Option.some.inj H
    go_enter Tryd.func33, Tryd.ntmps33
    go_wp2_with (first | ((with_reducible refine gate_dst (N := 1) rfl ?_); (try (refine gate_guard (by rfl) ?_; dsimp only)); refine box_event ?hg (N := 1) ?hd (cs := #[.int .i64 a0_0, .slice A0_1 l0_1.length c0_1]) (t := 30) ?hr ?_; (case hd => rfl); (case hg => rfl); (case hr => first | (go_simp; done) | (go_simp; rfl)); intro gb330001 hg w6 hbox hb; have n0_ := Aside0.mk (below_step (by repeat (first | (with_reducible first | exact HB.out | apply below_alloc | apply pw_below_drewN | apply below_drew1) | exact HB.out)) hb); have n1_ := Aside0.mk (hbox); have n2_ := Aside0.mk ((by rw [hg]; exact (below_size (by repeat (first | (with_reducible first | exact HB.out | apply below_alloc | apply pw_below_drewN | apply below_drew1) | exact HB.out))) : w.heap.size ≤ gb330001)); have n3_ := Aside0.mk ((by rw [hg]; exact (below_size (by repeat (first | (with_reducible first | exact HB.out | apply below_alloc | apply pw_below_drewN | apply below_drew1) | exact HB.out))) : w.heap.size ≤ gb330001)); clear HB; have HB := n0_; have BK330001 := n1_; have GW330001 := n2_; have GE330001 := n3_; clear n0_ n1_ n2_ n3_; clear hb hbox hg; have hcz7_0 : w6.cell? ⟨gb330001, 0, none⟩ = some (.int .i64 a0_0) := (blk_cell BK330001.out 0).trans rfl; have hcz7_1 : w6.cell? ⟨gb330001, 1, none⟩ = some (.slice A0_1 l0_1.length c0_1) := (blk_cell BK330001.out 1).trans rfl; have hfz7_0 := blk_frozen BK330001.out 0; have hfz7_1 := blk_frozen BK330001.out 1) | ((with_reducible refine gate_callee (f := 43) rfl ?_); refine goesL_ (some 5) rfl rfl Tryd.func43 (by kernel_rfl) rfl #[.int .i64 a0_0] rfl (by (try simp only [List.map_toArray, List.map_cons, List.map_nil]); first | done | rfl | (simp only [List.length_drop, List.length_take]; rfl)) ?_; (with_reducible refine (spec_l1Width.calls a0_0 false _ A2.out).mono ?_); rintro e w' ⟨rfl, ⟨nd, rfl⟩⟩; refine ⟨_, rfl, ?_⟩))
    go_ret
    exact ⟨by first | rfl | (simp [errW_none, errW_some] <;> rfl) | (simp [*, errW_none, errW_some] <;> rfl), by repeat (first | (with_reducible first | exact HB.out | apply below_alloc | apply pw_below_drewN | apply below_drew1 | refine below_set ?_ GE330001.out) | exact HB.out)⟩
end Go.Proofs.YtmfejehhfmaodabDoor.Z
end
