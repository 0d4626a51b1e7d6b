/- Own texts and the print's words that they use, joined by a program of this session. -/
import Derived.Test.YthnnphinfiobmaaDoorYFnExactRoot24
import Derived.Test.YthnnphinfiobmaaDoorYFnExactRoot21
import Derived.Test.YthnnphinfiobmaaDoorYFnExactRoot26
section
namespace Go.Proofs.YthnnphinfiobmaaDoor.Z
open Go.RowKit Go.Proofs.YthnnphinfiobmaaDoorW.PrintWords Go.Proofs.YthnnphinfiobmaaDoorW.PrintLast Go.Proofs.YthnnphinfiobmaaDoorW.PrintMore
attribute [local go_sem] max2_int min2_int max_two min_two max_three min_three max_four min_four   -- for this text's walks alone
set_option linter.unusedVariables false
set_option linter.unusedSimpArgs false
mutual
def spec_l4Encs.l0 : Nat → Int → List ByteArray → List ByteArray → Int → ByteArray → ByteArray → ByteArray → ByteArray → Option (List ByteArray × ByteArray)
  | 0, _, _, _, _, _, _, _, _ => none
  | k + 1, x1, x7, x9, x12, x390024000, x390024001, x390024002, x390024003 => if x12 < (x9.length : Int) then (if 0 ≤ x12 then (if x7.length < 8796093022208 then (spec_l4Encs.l0 k x1 (x7 ++ [rdOf ByteArray.empty x9 x12]) x9 (wrap64 (x12 + 1)) x390024000 x390024001 x390024002 x390024003) else (none)) else (none)) else ((spec_EncodeNode.f x390024000 x390024001 x390024002 x390024003 x1).bind fun t390028 => (if x7.length < 8796093022208 then ((spec_NodeHash.f k x390024000 x390024001 x390024002 x390024003 x1).bind fun t390032 => (some ((x7 ++ [t390028]), t390032))) else (none)))
def spec_l4Encs.f : Nat → List (S65) → Int → Option (List ByteArray × ByteArray)
  | 0, _, _ => none
  | k + 1, l0, a1 => if (l0.length : Int) = 0 then (some ((([] : List ByteArray)), (⟨#[]⟩ : ByteArray))) else ((spec_l4Top.f k l0).bind fun t390004 => (if 0 ≤ t390004 then (if t390004 ≤ (l0.length : Int) then ((spec_l4Encs.f k (l0.take (t390004 : Int).toNat) a1).bind fun bt390009 => (if 0 ≤ (wrap64 (t390004 + 1)) then (if (wrap64 (t390004 + 1)) ≤ (l0.length : Int) then ((spec_l4Encs.f k (l0.drop ((wrap64 (t390004 + 1)) : Int).toNat) a1).bind fun bt390017 => (if t390004 < (l0.length : Int) then (spec_l4Encs.l0 k a1 bt390009.1 bt390017.1 0 ((rd_T65 l0 t390004).f0) ((rd_T65 l0 t390004).f1) bt390009.2 bt390017.2) else (none))) else (none)) else (none))) else (none)) else (none)))
end
theorem spec_l4Encs.mono_l : ∀ k, (∀ y0 y1, LeO (spec_l4Encs.f k y0 y1) (spec_l4Encs.f (k + 1) y0 y1)) ∧ (∀ y0 y1 y2 y3 y4 y5 y6 y7, LeO (spec_l4Encs.l0 k y0 y1 y2 y3 y4 y5 y6 y7) (spec_l4Encs.l0 (k + 1) y0 y1 y2 y3 y4 y5 y6 y7))
  | 0 => ⟨fun _ _ r h => by simp [spec_l4Encs.f] at h, fun _ _ _ _ _ _ _ _ r h => by simp [spec_l4Encs.l0] at h⟩
  | k + 1 => by
    obtain ⟨ih0, ih1⟩ := spec_l4Encs.mono_l k
    refine ⟨?_, ?_⟩
    · intro y0 y1
      unfold spec_l4Encs.f
      repeat' first
      | (with_reducible exact ih0 _ _)
      | (with_reducible exact ih1 _ _ _ _ _ _ _ _)
      | (with_reducible exact spec_NodeHash.mono _ _ _ _ _ _)
      | (with_reducible exact spec_l4Top.mono _ _)
      | (with_reducible exact LeO.refl _)
      | (with_reducible exact LeO.none _)
      | (with_reducible refine LeO.ite ?_ ?_)
      | (with_reducible refine LeO.bind ?_ (fun _ => ?_))
      | exact ih0 _ _
      | exact ih1 _ _ _ _ _ _ _ _
      | exact spec_NodeHash.mono _ _ _ _ _ _
      | exact spec_l4Top.mono _ _
      | exact LeO.none _
      | refine LeO.ite ?_ ?_
      | refine LeO.bind ?_ (fun _ => ?_)
    · intro y0 y1 y2 y3 y4 y5 y6 y7
      unfold spec_l4Encs.l0
      repeat' first
      | (with_reducible exact ih0 _ _)
      | (with_reducible exact ih1 _ _ _ _ _ _ _ _)
      | (with_reducible exact spec_NodeHash.mono _ _ _ _ _ _)
      | (with_reducible exact spec_l4Top.mono _ _)
      | (with_reducible exact LeO.refl _)
      | (with_reducible exact LeO.none _)
      | (with_reducible refine LeO.ite ?_ ?_)
      | (with_reducible refine LeO.bind ?_ (fun _ => ?_))
      | exact ih0 _ _
      | exact ih1 _ _ _ _ _ _ _ _
      | exact spec_NodeHash.mono _ _ _ _ _ _
      | exact spec_l4Top.mono _ _
      | exact LeO.none _
      | refine LeO.ite ?_ ?_
      | refine LeO.bind ?_ (fun _ => ?_)
theorem spec_l4Encs.mono : ∀ a0 a1 k, LeO (spec_l4Encs.f k a0 a1) (spec_l4Encs.f (k + 1) a0 a1) := by
  intro a0 a1 k
  obtain ⟨ih0, ih1⟩ := spec_l4Encs.mono_l k
  exact ih0 a0 a1
def spec_l4Encs.T6 : Bool × List (List Nat × List Nat) := (true, [([], []), ([], []), ([0, 1], [0, 1]), ([2], [2]), ([3], [3]), ([], []), ([], []), ([5, 6], [5, 6]), ([7], [7]), ([8], [8]), ([], []), ([], []), ([4, 9, 10, 11], [4, 9, 10, 11]), ([], []), ([13, 12, 0, 1, 2, 3, 4, 5, 6, 7, 8, 9, 10, 11, 12, 13], [12, 13])])
def spec_l4Encs.B6 : List Nat := [0, 0, 3, 7, 15, 0, 0, 96, 224, 480, 0, 0, 4095, 0, 16383]
theorem spec_l4Encs.tab6 : rtab .any (opsOf Tryd.f39 6) = spec_l4Encs.T6 := by kernel_rfl
theorem spec_l4Encs.bits6 : waitsOk spec_l4Encs.T6.2 spec_l4Encs.B6 = true := by kernel_rfl
def spec_l4Encs.T11 : Bool × List (List Nat × List Nat) := (true, [([], []), ([], []), ([], []), ([1, 2], [1, 2]), ([3], [3]), ([0, 4, 3], [0, 4]), ([], []), ([], []), ([6, 7, 5], [6, 7]), ([5, 8, 0, 1, 2, 3, 4, 5], [5]), ([8, 9, 0, 1, 2, 3, 4, 5, 6, 7, 8, 9], [8])])
def spec_l4Encs.B11 : List Nat := [0, 0, 0, 6, 14, 31, 0, 0, 255, 511, 1023]
theorem spec_l4Encs.tab11 : rtab .any (opsOf Tryd.f39 11) = spec_l4Encs.T11 := by kernel_rfl
theorem spec_l4Encs.bits11 : waitsOk spec_l4Encs.T11.2 spec_l4Encs.B11 = true := by kernel_rfl
set_option maxHeartbeats 8000000 in
set_option maxRecDepth 100000 in
theorem spec_l4Encs.calls (k : Nat) : ∀ (A0 : Option Addr) (c0 : Nat) (l0 : List (S65)) (a1 : Int) (r1 : List ByteArray) (r2 : ByteArray) (w : World) (hr0 : Kd.C k65 w A0 l0.length l0) (hc0 : l0.length ≤ c0) (h : spec_l4Encs.f k l0 a1 = some (r1, r2)),
    Calls Tryd.prog 39 #[.slice A0 l0.length c0, .int .i64 a1] w fun e w' => ∃ v0_ : Value, e = .returned (.tuple #[v0_, .string r2]) ∧ Kd.R Kd.string 9 w' w.heap.size (fun _ => True) v0_ r1 ∧ Below w.heap.size w w' := by
  induction k using Nat.strongRecOn with
  | _ k ih =>
  intro A0 c0 l0 a1 r1 r2 w hr0 hc0 h
  cases k with
  | zero => exact absurd h (by simp [spec_l4Encs.f])
  | succ k =>
  simp only [spec_l4Encs.f] at h
  have hu99 := Tryd.underlying99
  have HR0 := Aside0.mk hr0
  have HC0 := Aside0.mk hc0
  clear hr0 hc0
  have HB := Aside0.mk (Below.refl w.heap.size w)
  have H : (if (l0.length : Int) = 0 then (some ((([] : List ByteArray)), (⟨#[]⟩ : ByteArray))) else ((spec_l4Top.f k l0).bind fun t390004 => (if 0 ≤ t390004 then (if t390004 ≤ (l0.length : Int) then ((spec_l4Encs.f k (l0.take (t390004 : Int).toNat) a1).bind fun bt390009 => (if 0 ≤ (wrap64 (t390004 + 1)) then (if (wrap64 (t390004 + 1)) ≤ (l0.length : Int) then ((spec_l4Encs.f k (l0.drop ((wrap64 (t390004 + 1)) : Int).toNat) a1).bind fun bt390017 => (if t390004 < (l0.length : Int) then (spec_l4Encs.l0 k a1 bt390009.1 bt390017.1 0 ((rd_T65 l0 t390004).f0) ((rd_T65 l0 t390004).f1) bt390009.2 bt390017.2) else (none))) else (none)) else (none))) else (none)) else (none)))) = some (r1, r2) := h
  clear h
  by_cases c3 : (l0.length : Int) = 0
  · rw [if_pos c3] at H
    have c3b0 : ((l0.length : Int) == 0) = true := beq_iff_eq.mpr c3
    have c3b1 : ((l0.length : Int) != 0) = false := bne_eq_false_iff_eq.mpr c3
    clear c3
    obtain ⟨y390001, hy390001⟩ : ∃ y_ : List ByteArray, y_ = (([] : List ByteArray)) := ⟨_, rfl⟩
    replace H : (some (y390001, (⟨#[]⟩ : ByteArray))) = some (r1, r2) := by first | (rw [hy390001]; with_reducible exact H) | (have H2_ := (Option.bind_some _ _).symm.trans H; rw [hy390001]; with_reducible exact H2_) | (have H2_ := (Option.bind_some _ _).symm.trans H; with_reducible exact H2_) | with_reducible exact H | (rw [hy390001]; exact H) | exact H
    have Ny390001 := Aside0.mk hy390001
    clear hy390001
    simp only [Option.some.injEq, Prod.mk.injEq] at H
    obtain ⟨rfl, rfl⟩ := H
    go_enter Tryd.func39, Tryd.ntmps39
    go_wp2_with (first | ((with_reducible refine gate_dst (N := 16) rfl ?_); refine Kd.R_lit Kd.string _ 9 ?hg (N := 16) ?hd (xs := ([] : List ByteArray)) (inner := []) (ok := fun _ => True) (okp := fun _ => True) ?hr ?hp (fun _ hk => hk) trivial (Below.refl _ _) (Nat.le_refl _) (by simp) ?_; (case hd => rfl); (case hg => rfl); (case hr => first | (go_simp; done) | (go_simp; rfl)); (case hp => exact (Reps.none _ _)); intro v390002 w4 ho5 hb hg_ hnew_; clear hg_ hnew_; (first | rw [← Ny390001.out] at ho5 | (simp only [Int.reduceToNat] at ho5; rw [← Ny390001.out] at ho5)); have n0_ := Aside0.mk (Kd.R_lower ho5 (below_size (by repeat (first | (with_reducible first | exact HB.out | apply below_alloc | apply pw_below_drewN | apply below_drew1) | exact HB.out)))); have n1_ := Aside0.mk (below_step (by repeat (first | (with_reducible first | exact HB.out | apply below_alloc | apply pw_below_drewN | apply below_drew1) | exact HB.out)) hb); clear HB; have HO390003 := n0_; have HB := n1_; clear n0_ n1_; clear hb ho5))
    go_ret2
    exact ⟨_, by first | rfl | (simp [errW_none, errW_some] <;> rfl) | (simp [*, errW_none, errW_some] <;> rfl), by (with_reducible repeat (first | apply Kd.R_alloc | apply Kd.R_drewN | apply Kd.R_drew)); exact HO390003.out, by repeat (first | (with_reducible first | exact HB.out | apply below_alloc | apply pw_below_drewN | apply below_drew1) | exact HB.out)⟩
  · rw [if_neg c3] at H
    have c3b0 : ((l0.length : Int) == 0) = false := beq_eq_false_iff_ne.mpr c3
    have c3b1 : ((l0.length : Int) != 0) = true := bne_iff_ne.mpr c3
    have c3b2 : ¬ (l0 = []) := fun h_ => c3 (by rw [h_]; rfl)
    replace H := Option.bind_eq_some_iff.mp H
    obtain ⟨t390004, A60, H⟩ := H
    replace H : (if 0 ≤ t390004 then (if t390004 ≤ (l0.length : Int) then ((spec_l4Encs.f k (l0.take (t390004 : Int).toNat) a1).bind fun bt390009 => (if 0 ≤ (wrap64 (t390004 + 1)) then (if (wrap64 (t390004 + 1)) ≤ (l0.length : Int) then ((spec_l4Encs.f k (l0.drop ((wrap64 (t390004 + 1)) : Int).toNat) a1).bind fun bt390017 => (if t390004 < (l0.length : Int) then (spec_l4Encs.l0 k a1 bt390009.1 bt390017.1 0 ((rd_T65 l0 t390004).f0) ((rd_T65 l0 t390004).f1) bt390009.2 bt390017.2) else (none))) else (none)) else (none))) else (none)) else (none)) = some (r1, r2) := H
    have A6 := Aside0.mk A60
    clear A60
    by_cases c7 : 0 ≤ t390004
    · rw [if_pos c7] at H
      have c7b0 := eq_true c7
      have c7b1 : decide (0 ≤ t390004) = true := decide_eq_true c7
      clear c7
      by_cases c8 : t390004 ≤ (l0.length : Int)
      · rw [if_pos c8] at H
        have c8b0 := eq_true c8
        have c8b1 : decide (t390004 ≤ (l0.length : Int)) = true := decide_eq_true c8
        clear c8
        obtain ⟨y390005, hy390005⟩ : ∃ y_ : List (S65), y_ = (l0.take (t390004 : Int).toNat) := ⟨_, rfl⟩
        replace H : ((spec_l4Encs.f k y390005 a1).bind fun bt390009 => (if 0 ≤ (wrap64 (t390004 + 1)) then (if (wrap64 (t390004 + 1)) ≤ (l0.length : Int) then ((spec_l4Encs.f k (l0.drop ((wrap64 (t390004 + 1)) : Int).toNat) a1).bind fun bt390017 => (if t390004 < (l0.length : Int) then (spec_l4Encs.l0 k a1 bt390009.1 bt390017.1 0 ((rd_T65 l0 t390004).f0) ((rd_T65 l0 t390004).f1) bt390009.2 bt390017.2) else (none))) else (none)) else (none))) = some (r1, r2) := by first | (rw [hy390005]; with_reducible exact H) | (have H2_ := (Option.bind_some _ _).symm.trans H; rw [hy390005]; with_reducible exact H2_) | (have H2_ := (Option.bind_some _ _).symm.trans H; with_reducible exact H2_) | with_reducible exact H | (rw [hy390005]; exact H) | exact H
        have Ny390005 := Aside0.mk hy390005
        clear hy390005
        replace H := Option.bind_eq_some_iff.mp H
        obtain ⟨⟨t390009, t390010⟩, A90, H⟩ := H
        replace H : (if 0 ≤ (wrap64 (t390004 + 1)) then (if (wrap64 (t390004 + 1)) ≤ (l0.length : Int) then ((spec_l4Encs.f k (l0.drop ((wrap64 (t390004 + 1)) : Int).toNat) a1).bind fun bt390017 => (if t390004 < (l0.length : Int) then (spec_l4Encs.l0 k a1 t390009 bt390017.1 0 ((rd_T65 l0 t390004).f0) ((rd_T65 l0 t390004).f1) t390010 bt390017.2) else (none))) else (none)) else (none)) = some (r1, r2) := H
        have A9 := Aside0.mk A90
        clear A90
        obtain ⟨ji10, hji10⟩ : ∃ j_ : Int, (wrap64 (t390004 + 1)) = j_ := ⟨_, rfl⟩
        replace H : (if 0 ≤ (ji10) then (if (ji10) ≤ (l0.length : Int) then ((spec_l4Encs.f k (l0.drop ((ji10) : Int).toNat) a1).bind fun bt390017 => (if t390004 < (l0.length : Int) then (spec_l4Encs.l0 k a1 t390009 bt390017.1 0 ((rd_T65 l0 t390004).f0) ((rd_T65 l0 t390004).f1) t390010 bt390017.2) else (none))) else (none)) else (none)) = some (r1, r2) := by first | (rw [hji10] at H; exact H) | (simp only [hji10] at H ⊢; exact H)
        (try rw [hji10] at A6)
        (try rw [hji10] at A9)
        have hji10w : (IntKind.i64.wrap (t390004 + 1)) = ji10 := (i64_w _).trans hji10
        by_cases c11 : 0 ≤ (ji10)
        · rw [if_pos c11] at H
          have c11b0 := eq_true c11
          have c11b1 : decide (0 ≤ (ji10)) = true := decide_eq_true c11
          clear c11
          by_cases c12 : (ji10) ≤ (l0.length : Int)
          · rw [if_pos c12] at H
            have c12b0 := eq_true c12
            have c12b1 : decide ((ji10) ≤ (l0.length : Int)) = true := decide_eq_true c12
            clear c12
            obtain ⟨y390013, hy390013⟩ : ∃ y_ : List (S65), y_ = (l0.drop ((ji10) : Int).toNat) := ⟨_, rfl⟩
            replace H : ((spec_l4Encs.f k y390013 a1).bind fun bt390017 => (if t390004 < (l0.length : Int) then (spec_l4Encs.l0 k a1 t390009 bt390017.1 0 ((rd_T65 l0 t390004).f0) ((rd_T65 l0 t390004).f1) t390010 bt390017.2) else (none))) = some (r1, r2) := by first | (rw [hy390013]; with_reducible exact H) | (have H2_ := (Option.bind_some _ _).symm.trans H; rw [hy390013]; with_reducible exact H2_) | (have H2_ := (Option.bind_some _ _).symm.trans H; with_reducible exact H2_) | with_reducible exact H | (rw [hy390013]; exact H) | exact H
            have Ny390013 := Aside0.mk hy390013
            clear hy390013
            replace H := Option.bind_eq_some_iff.mp H
            obtain ⟨⟨t390017, t390018⟩, A130, H⟩ := H
            replace H : (if t390004 < (l0.length : Int) then (spec_l4Encs.l0 k a1 t390009 t390017 0 ((rd_T65 l0 t390004).f0) ((rd_T65 l0 t390004).f1) t390010 t390018) else (none)) = some (r1, r2) := H
            have A13 := Aside0.mk A130
            clear A130
            by_cases c14 : t390004 < (l0.length : Int)
            · rw [if_pos c14] at H
              have c14b0 : decide (t390004 < (l0.length : Int)) = true := decide_eq_true c14
              clear c14
              have H' := Aside0.mk H
              clear H
              go_enter Tryd.func39, Tryd.ntmps39
              try go_wp2_with (first | ((with_reducible refine gate_callee (f := 49) rfl ?_); refine goesL_ (some 18) rfl rfl Tryd.func49 (by kernel_rfl) rfl #[.slice A0 l0.length c0] rfl (by (try simp only [List.map_toArray, List.map_cons, List.map_nil]); first | done | rfl | (simp only [List.length_drop, List.length_take]; rfl)) ?_; (with_reducible refine (spec_l4Top.calls k _ _ l0 t390004 _ ?side1 ?side2 A6.out).mono ?_); (case side1 => repeat (first | exact HR0.out | (with_reducible refine Kd.C_alloc ?_ _) | (with_reducible refine Kd.C_drewN ?_ _) | (with_reducible refine Kd.C_drew ?_))); (case side2 => exact HC0.out); rintro e w15 ⟨rfl, hb⟩; refine ⟨_, rfl, ?_⟩; have n0_ := Aside0.mk (below_step (by repeat (first | (with_reducible first | exact HB.out | apply below_alloc | apply pw_below_drewN | apply below_drew1) | exact HB.out)) hb); clear HB; have HB := n0_; clear n0_; (try clear hb); (try clear hb2); (try clear hk); (try clear hi); have q16 : (t390004 : Int) ≤ ((l0.length : Int) : Int) := of_decide_eq_true (by first | (with_reducible assumption) | assumption); obtain ⟨i016, hi016, _, hsz16, _⟩ := info_parts info65; have hroom16 : l0.length ≤ c0 := HC0.out; have hC16 : Kd.C k65 _ A0 l0.length l0 := HR0.out; have hcut16 := cut_to (P := Tryd.prog) 25 65 .i64 Tryd.underlying25 hi016 A0 l0.length c0 t390004 (of_decide_eq_true (by first | (with_reducible assumption) | assumption)) q16 hroom16; have hr16 := Kd.C_take (m := (t390004 : Int).toNat) hC16 (by omega); have hy16 : y390005.length = (t390004 : Int).toNat := (by rw [Ny390005.out, List.length_take]; omega); rw [← Ny390005.out] at hr16; rw [← hy16] at hcut16; have HR390008 := Aside0.mk hr16; have HC390008 := Aside0.mk (show y390005.length ≤ c0 from by omega); clear hr16 hC16 hroom16 hi016 hsz16; have KY16 := Aside0.mk hy16; clear hy16; replace q16 := eq_true q16) | ((with_reducible refine gate_callee (f := 39) rfl ?_); refine goesL_ (some 24) rfl rfl Tryd.func39 (by kernel_rfl) rfl #[.slice A0 y390005.length c0, .int .i64 a1] rfl (by (try simp only [List.map_toArray, List.map_cons, List.map_nil]); first | done | rfl | (simp only [List.length_drop, List.length_take]; rfl)) ?_; (with_reducible refine (ih k (by omega) _ _ y390005 a1 t390009 t390010 _ ?side1 ?side2 A9.out).mono ?_); (case side1 => repeat (first | exact (Kd.C_below HR390008.out HB.out) | (with_reducible refine Kd.C_alloc ?_ _) | (with_reducible refine Kd.C_drewN ?_ _) | (with_reducible refine Kd.C_drew ?_))); (case side2 => exact HC390008.out); rintro e w17 ⟨v390011, rfl, ho0, hb⟩; refine ⟨_, rfl, ?_⟩; have n0_ := Aside0.mk (Kd.R_lower ho0 (below_size (by repeat (first | (with_reducible first | exact HB.out | apply below_alloc | apply pw_below_drewN | apply below_drew1) | exact HB.out)))); have n1_ := Aside0.mk (below_step (by repeat (first | (with_reducible first | exact HB.out | apply below_alloc | apply pw_below_drewN | apply below_drew1) | exact HB.out)) hb); clear HB; have HO390012 := n0_; have HB := n1_; clear n0_ n1_; (try clear hb); (try clear hb2); (try clear hk); (try clear hi); (try clear ho0); have q18 : ((ji10) : Int) ≤ ((l0.length : Int) : Int) := of_decide_eq_true (by first | (with_reducible assumption) | assumption); obtain ⟨i018, hi018, _, hsz18, _⟩ := info_parts info65; have hroom18 : l0.length ≤ c0 := HC0.out; have hC18 : Kd.C k65 _ A0 l0.length l0 := HR0.out; have q018 : (0 : Int) ≤ ((ji10) : Int) := of_decide_eq_true (by first | (with_reducible assumption) | assumption); have hcut18 := cut_from (P := Tryd.prog) 25 65 .i64 Tryd.underlying25 hi018 2 hsz18 A0 l0.length c0 (ji10) q018 q18; have hr18 := Kd.C_drop (m := ((ji10) : Int).toNat) (c := c0) hC18 (by omega) hroom18; obtain ⟨A18, hA18⟩ : ∃ A1, A1 = (if c0 = ((ji10) : Int).toNat then A0 else (A0 : Option Addr).map (·.add (((ji10) : Int).toNat * 2))) := ⟨_, rfl⟩; obtain ⟨c18, hc18⟩ : ∃ c1, c1 = c0 - ((ji10) : Int).toNat := ⟨_, rfl⟩; have hy18 : y390013.length = l0.length - ((ji10) : Int).toNat := (by rw [Ny390013.out, List.length_drop] <;> omega); rw [show (l0).drop ((ji10) : Int).toNat = y390013 from Ny390013.out.symm] at hr18; replace hr18 : Kd.C k65 _ A18 y390013.length y390013 := (by rw [hA18]; exact hr18); rw [← hy18, ← hA18, ← hc18] at hcut18; have HR390016 := Aside0.mk hr18; have HC390016 := Aside0.mk (show y390013.length ≤ c18 from by rw [hy18, hc18]; exact Nat.sub_le_sub_right hroom18 _); clear hr18 hC18 hroom18 hi018 hsz18 hc18; have KY18 := Aside0.mk hy18; have KA18 := Aside0.mk hA18; clear hy18 hA18; replace q18 := eq_true q18) | ((with_reducible refine gate_callee (f := 39) rfl ?_); refine goesL_ (some 33) rfl rfl Tryd.func39 (by kernel_rfl) rfl #[.slice A18 y390013.length c18, .int .i64 a1] rfl (by (try simp only [List.map_toArray, List.map_cons, List.map_nil]); first | done | rfl | (simp only [List.length_drop, List.length_take]; rfl)) ?_; (with_reducible refine (ih k (by omega) _ _ y390013 a1 t390017 t390018 _ ?side1 ?side2 A13.out).mono ?_); (case side1 => repeat (first | exact (Kd.C_below HR390016.out HB.out) | (with_reducible refine Kd.C_alloc ?_ _) | (with_reducible refine Kd.C_drewN ?_ _) | (with_reducible refine Kd.C_drew ?_))); (case side2 => exact HC390016.out); rintro e w19 ⟨v390019, rfl, ho0, hb⟩; refine ⟨_, rfl, ?_⟩; have n0_ := Aside0.mk (Kd.R_elder' (by (with_reducible repeat (first | apply Kd.R_alloc | apply Kd.R_drewN | apply Kd.R_drew)); exact HO390012.out) (Kd.R_base ho0) hb); have n1_ := Aside0.mk (Kd.R_lower (Kd.R_new' ho0 (Kd.R_lt (by (with_reducible repeat (first | apply Kd.R_alloc | apply Kd.R_drewN | apply Kd.R_drew)); exact HO390012.out))) (below_size (by repeat (first | (with_reducible first | exact HB.out | apply below_alloc | apply pw_below_drewN | apply below_drew1) | exact HB.out)))); have n2_ := Aside0.mk (below_step (by repeat (first | (with_reducible first | exact HB.out | apply below_alloc | apply pw_below_drewN | apply below_drew1) | exact HB.out)) hb); clear HO390012; clear HB; have HO390012 := n0_; have HO390020 := n1_; have HB := n2_; clear n0_ n1_ n2_; (try clear hb); (try clear hb2); (try clear hk); (try clear hi); (try clear ho0)))
              have n0_ := Aside0.mk (Kd.R_drew HO390012.out)
              have n1_ := Aside0.mk (Kd.R_drew HO390020.out)
              have n2_ := Aside0.mk (below_drew1 HB.out)
              clear HO390012
              clear HO390020
              clear HB
              have HO390012 := n0_
              have HO390020 := n1_
              have HB := n2_
              clear n0_ n1_ n2_
              have p390021 : 0 ≤ (t390004 : Int) := of_decide_eq_true (by first | (with_reducible assumption) | assumption)
              have q390021 : t390004 < (l0.length : Int) := of_decide_eq_true (by first | (with_reducible assumption) | assumption)
              obtain ⟨ad390021, e390021, hx390021_0, hx390021_1⟩ := at_T65 HR0.out t390004 p390021 q390021
              have hw390021_1 := hx390021_1
              have hw390021_0 := hx390021_0
              cases e390021
              replace hx390021_0 := (HB.out.cell (World.block_lt_of_cell? w _ hx390021_0)).trans hx390021_0
              replace hx390021_1 := (HB.out.cell (World.block_lt_of_cell? w _ hx390021_1)).trans hx390021_1
              replace p390021 := eq_true p390021
              replace q390021 := eq_true q390021
              have p390022 : 0 ≤ (t390004 : Int) := of_decide_eq_true (by first | (with_reducible assumption) | assumption)
              have q390022 : t390004 < (l0.length : Int) := of_decide_eq_true (by first | (with_reducible assumption) | assumption)
              obtain ⟨ad390022, e390022, hx390022_0, hx390022_1⟩ := at_T65 HR0.out t390004 p390022 q390022
              have hw390022_1 := hx390022_1
              have hw390022_0 := hx390022_0
              obtain rfl : ad390021 = ad390022 := (by injection e390022)
              replace hx390022_0 := (HB.out.cell (World.block_lt_of_cell? w _ hx390022_0)).trans hx390022_0
              replace hx390022_1 := (HB.out.cell (World.block_lt_of_cell? w _ hx390022_1)).trans hx390022_1
              replace p390022 := eq_true p390022
              replace q390022 := eq_true q390022
              refine start_ (n := 15) (S := fun w' => w'.cell? (ad390021.add ((t390004).toNat * 2)) = some (.string ((rd_T65 l0 t390004).f0)) ∧ w'.cell? ⟨(ad390021.add ((t390004).toNat * 2)).block, (ad390021.add ((t390004).toNat * 2)).off + 1, none⟩ = some (.string ((rd_T65 l0 t390004).f1)) ∧ w'.cell? (ad390021.add ((t390004).toNat * 2)) = some (.string ((rd_T65 l0 t390004).f0)) ∧ w'.cell? ⟨(ad390021.add ((t390004).toNat * 2)).block, (ad390021.add ((t390004).toNat * 2)).off + 1, none⟩ = some (.string ((rd_T65 l0 t390004).f1))) (ds := []) #[false, false, false, false, false, false, false, false, false, false, false, false, false, false, false] (by kernel_rfl) rfl rfl ⟨((HB.out.cell (World.block_lt_of_cell? w _ hw390021_0)).trans hw390021_0), ((HB.out.cell (World.block_lt_of_cell? w _ hw390021_1)).trans hw390021_1), ((HB.out.cell (World.block_lt_of_cell? w _ hw390022_0)).trans hw390022_0), ((HB.out.cell (World.block_lt_of_cell? w _ hw390022_1)).trans hw390022_1)⟩ (fun hHeld => ?_); refine with_tabW spec_l4Encs.tab6 spec_l4Encs.bits6 (fun HT_ HW_ => ?_)
              generalize w19.drew = w20 at HO390012 HO390020 HB hx390021_0 hx390021_1 hx390022_0 hx390022_1 hHeld ⊢
              refine pure_ (i := 0) (N := some 36) (v := ?_) (a' := ?_) #[true, false, false, false, false, false, false, false, false, false, false, false, false, false, false] rfl rfl (any_of HT_.out (by kernel_rfl)) (fun _ _ _ h => h) (Or.inl ⟨by rfl, ?_⟩) ?_ ?_
              rotate_left
              · intro w'
                go_simp
                with_reducible rfl
              rotate_left
              · simp only [Act.put, List.setIfInBounds_toArray, List.set_cons_zero, List.set_cons_succ, i64_w, i32_w]
                rfl
              refine pure_ (i := 1) (N := some 37) (v := ?_) (a' := ?_) #[true, true, false, false, false, false, false, false, false, false, false, false, false, false, false] rfl rfl (any_of HT_.out (by kernel_rfl)) (fun _ _ _ h => h) (Or.inl ⟨by rfl, ?_⟩) ?_ ?_
              rotate_left
              · intro w'
                go_simp
                with_reducible rfl
              rotate_left
              · simp only [Act.put, List.setIfInBounds_toArray, List.set_cons_zero, List.set_cons_succ, i64_w, i32_w]
                rfl
              refine pure_ (i := 2) (N := some 38) (v := ?_) (a' := ?_) #[true, true, true, false, false, false, false, false, false, false, false, false, false, false, false] rfl rfl (any_of HT_.out (by kernel_rfl)) (fun _ _ _ h => h) (Or.inl ⟨by rfl, ?_⟩) ?_ ?_
              rotate_left
              · intro w'
                go_simp
                with_reducible rfl
              rotate_left
              · simp only [Act.put, List.setIfInBounds_toArray, List.set_cons_zero, List.set_cons_succ, i64_w, i32_w]
                rfl
              refine pure_ (i := 3) (N := some 39) (v := ?_) (a' := ?_) #[true, true, true, true, false, false, false, false, false, false, false, false, false, false, false] rfl rfl (any_of HT_.out (by kernel_rfl)) (fun _ _ _ h => h) (Or.inl ⟨by rfl, ?_⟩) ?_ ?_
              rotate_left
              · intro w'
                go_simp
                with_reducible rfl
              rotate_left
              · simp only [Act.put, List.setIfInBounds_toArray, List.set_cons_zero, List.set_cons_succ, i64_w, i32_w]
                rfl
              refine pure_ (i := 5) (N := some 41) (v := ?_) (a' := ?_) #[true, true, true, true, false, true, false, false, false, false, false, false, false, false, false] rfl rfl (any_of HT_.out (by kernel_rfl)) (fun _ _ _ h => h) (Or.inl ⟨by rfl, ?_⟩) ?_ ?_
              rotate_left
              · intro w'
                go_simp
                with_reducible rfl
              rotate_left
              · simp only [Act.put, List.setIfInBounds_toArray, List.set_cons_zero, List.set_cons_succ, i64_w, i32_w]
                rfl
              refine pure_ (i := 6) (N := some 42) (v := ?_) (a' := ?_) #[true, true, true, true, false, true, true, false, false, false, false, false, false, false, false] rfl rfl (any_of HT_.out (by kernel_rfl)) (fun _ _ _ h => h) (Or.inl ⟨by rfl, ?_⟩) ?_ ?_
              rotate_left
              · intro w'
                go_simp
                with_reducible rfl
              rotate_left
              · simp only [Act.put, List.setIfInBounds_toArray, List.set_cons_zero, List.set_cons_succ, i64_w, i32_w]
                rfl
              refine pure_ (i := 7) (N := some 43) (v := ?_) (a' := ?_) #[true, true, true, true, false, true, true, true, false, false, false, false, false, false, false] rfl rfl (any_of HT_.out (by kernel_rfl)) (fun _ _ _ h => h) (Or.inl ⟨by rfl, ?_⟩) ?_ ?_
              rotate_left
              · intro w'
                go_simp
                with_reducible rfl
              rotate_left
              · simp only [Act.put, List.setIfInBounds_toArray, List.set_cons_zero, List.set_cons_succ, i64_w, i32_w]
                rfl
              refine pure_ (i := 8) (N := some 44) (v := ?_) (a' := ?_) #[true, true, true, true, false, true, true, true, true, false, false, false, false, false, false] rfl rfl (any_of HT_.out (by kernel_rfl)) (fun _ _ _ h => h) (Or.inl ⟨by rfl, ?_⟩) ?_ ?_
              rotate_left
              · intro w'
                go_simp
                with_reducible rfl
              rotate_left
              · simp only [Act.put, List.setIfInBounds_toArray, List.set_cons_zero, List.set_cons_succ, i64_w, i32_w]
                rfl
              refine pure_ (i := 10) (N := some 46) (v := ?_) (a' := ?_) #[true, true, true, true, false, true, true, true, true, false, true, false, false, false, false] rfl rfl (any_of HT_.out (by kernel_rfl)) (fun _ _ _ h => h) (Or.inl ⟨by rfl, ?_⟩) ?_ ?_
              rotate_left
              · intro w'
                go_simp
                with_reducible rfl
              rotate_left
              · simp only [Act.put, List.setIfInBounds_toArray, List.set_cons_zero, List.set_cons_succ, i64_w, i32_w]
                rfl
              refine pure_ (i := 11) (N := some 47) (v := ?_) (a' := ?_) #[true, true, true, true, false, true, true, true, true, false, true, true, false, false, false] rfl rfl (any_of HT_.out (by kernel_rfl)) (fun _ _ _ h => h) (Or.inl ⟨by rfl, ?_⟩) ?_ ?_
              rotate_left
              · intro w'
                go_simp
                with_reducible rfl
              rotate_left
              · simp only [Act.put, List.setIfInBounds_toArray, List.set_cons_zero, List.set_cons_succ, i64_w, i32_w]
                rfl
              refine take_ (i := 4) (N := some 40) (v := ?_) (a' := ?_) #[true, true, true, true, true, true, true, true, true, false, true, true, false, false, false] rfl rfl (take_ofW HT_.out HW_.out (by kernel_rfl)) (fun _ _ _ h => h) (Or.inl ⟨by rfl, ?_⟩) hHeld ?_ ?_
              rotate_left
              · rintro w' ⟨s0, s1, s2, s3⟩
                go_simp
                with_reducible rfl
              rotate_left
              · simp only [Act.put, List.setIfInBounds_toArray, List.set_cons_zero, List.set_cons_succ, i64_w, i32_w]
                rfl
              refine take_ (i := 9) (N := some 45) (v := ?_) (a' := ?_) #[true, true, true, true, true, true, true, true, true, true, true, true, false, false, false] rfl rfl (take_ofW HT_.out HW_.out (by kernel_rfl)) (fun _ _ _ h => h) (Or.inl ⟨by rfl, ?_⟩) hHeld ?_ ?_
              rotate_left
              · rintro w' ⟨s0, s1, s2, s3⟩
                go_simp
                with_reducible rfl
              rotate_left
              · simp only [Act.put, List.setIfInBounds_toArray, List.set_cons_zero, List.set_cons_succ, i64_w, i32_w]
                rfl
              refine pure_ (i := 12) (N := some 48) (v := ?_) (a' := ?_) #[true, true, true, true, true, true, true, true, true, true, true, true, true, false, false] rfl rfl (any_of HT_.out (by kernel_rfl)) (fun _ _ _ h => h) (Or.inl ⟨by rfl, ?_⟩) ?_ ?_
              rotate_left
              · intro w'
                go_simp
                with_reducible rfl
              rotate_left
              · simp only [Act.put, List.setIfInBounds_toArray, List.set_cons_zero, List.set_cons_succ, i64_w, i32_w]
                rfl
              refine one_ (i := 13) (N := some 11) #[true, true, true, true, true, true, true, true, true, true, true, true, true, true, false] rfl rfl (one_of HT_.out (by kernel_rfl)) (by decide) (fun K hK => ?_)
              refine box_step ?hg (N := 11) ?hd (cs := #[.string (⟨#[]⟩ : ByteArray), .string (⟨#[]⟩ : ByteArray), .string (⟨#[]⟩ : ByteArray), .string (⟨#[]⟩ : ByteArray)]) (t := 99) ?hr ?_; (case hd => rfl); (case hg => rfl); (case hr => first | (go_simp; done) | (go_simp; rfl))
              intro gb390023 hg w21 hbox hb
              have n0_ := Aside0.mk (Kd.R_below (by (with_reducible repeat (first | apply Kd.R_alloc | apply Kd.R_drewN | apply Kd.R_drew)); exact HO390012.out) hb)
              have n1_ := Aside0.mk (Kd.R_below (by (with_reducible repeat (first | apply Kd.R_alloc | apply Kd.R_drewN | apply Kd.R_drew)); exact HO390020.out) hb)
              have n2_ := Aside0.mk (below_step (by repeat (first | (with_reducible first | exact HB.out | apply below_alloc | apply pw_below_drewN | apply below_drew1) | exact HB.out)) hb)
              have n3_ := Aside0.mk (hbox)
              have n4_ := Aside0.mk ((by rw [hg]; exact (below_size (by repeat (first | (with_reducible first | exact HB.out | apply below_alloc | apply pw_below_drewN | apply below_drew1) | exact HB.out))) : w.heap.size ≤ gb390023))
              have n5_ := Aside0.mk ((by rw [hg]; exact (below_size (by repeat (first | (with_reducible first | exact HB.out | apply below_alloc | apply pw_below_drewN | apply below_drew1) | exact HB.out))) : w.heap.size ≤ gb390023))
              clear HO390012
              clear HO390020
              clear HB
              have HO390012 := n0_
              have HO390020 := n1_
              have HB := n2_
              have BK390023 := n3_
              have GW390023 := n4_
              have GE390023 := n5_
              clear n0_ n1_ n2_ n3_ n4_ n5_
              clear hb hbox hg
              refine hK.out _ _ ⟨((HB.out.cell (World.block_lt_of_cell? w _ hw390021_0)).trans hw390021_0), ((HB.out.cell (World.block_lt_of_cell? w _ hw390021_1)).trans hw390021_1), ((HB.out.cell (World.block_lt_of_cell? w _ hw390022_0)).trans hw390022_0), ((HB.out.cell (World.block_lt_of_cell? w _ hw390022_1)).trans hw390022_1)⟩ (fun hHeld => ?_)
              clear hK K
              refine norm_ (a' := ?_) ?_ ?_
              rotate_left
              · show Act.put _ (some 11) _ = _
                simp only [Act.put, List.setIfInBounds_toArray, List.set_cons_zero, List.set_cons_succ, i64_w, i32_w]
                rfl
              refine one_ (i := 14) (N := none) #[true, true, true, true, true, true, true, true, true, true, true, true, true, true, true] rfl rfl (one_of HT_.out (by kernel_rfl)) (by decide) (fun K hK => ?_)
              have hs22 : w21.cell? ⟨gb390023, 0, none⟩ = some (.string (⟨#[]⟩ : ByteArray)) := (blk_cell BK390023.out 0).trans rfl
              have hfs22 := blk_frozen BK390023.out 0
              have hs23 : w21.cell? ⟨gb390023, 1, none⟩ = some (.string (⟨#[]⟩ : ByteArray)) := (blk_cell BK390023.out 1).trans rfl
              have hfs23 := blk_frozen BK390023.out 1
              have hs24 : w21.cell? ⟨gb390023, 2, none⟩ = some (.string (⟨#[]⟩ : ByteArray)) := (blk_cell BK390023.out 2).trans rfl
              have hfs24 := blk_frozen BK390023.out 2
              have hs25 : w21.cell? ⟨gb390023, 3, none⟩ = some (.string (⟨#[]⟩ : ByteArray)) := (blk_cell BK390023.out 3).trans rfl
              have hfs25 := blk_frozen BK390023.out 3
              refine skip_ (w1 := ?_) (by rfl) rfl ?_ ?_
              rotate_left
              · go_simp
                rfl
              refine hK.out _ _ ⟨((cell_far (p := ⟨gb390023, _, none⟩) (by first | exact Nat.ne_of_lt (Nat.lt_of_lt_of_le (by have := World.block_lt_of_cell? _ _ hw390021_0; first | rwa [add_block] at this | exact this) GW390023.out) | (rw [add_block]; exact Nat.ne_of_lt (Nat.lt_of_lt_of_le (by have := World.block_lt_of_cell? _ _ hw390021_0; first | rwa [add_block] at this | exact this) GW390023.out)) | (show (Addr.add _ _).block ≠ _; rw [add_block]; exact Nat.ne_of_lt (Nat.lt_of_lt_of_le (by have := World.block_lt_of_cell? _ _ hw390021_0; first | rwa [add_block] at this | exact this) GW390023.out)) | (dsimp only; exact Nat.ne_of_lt (Nat.lt_of_lt_of_le (by have := World.block_lt_of_cell? _ _ hw390021_0; first | rwa [add_block] at this | exact this) GW390023.out))) _).trans (((cell_far (p := ⟨gb390023, _, none⟩) (by first | exact Nat.ne_of_lt (Nat.lt_of_lt_of_le (by have := World.block_lt_of_cell? _ _ hw390021_0; first | rwa [add_block] at this | exact this) GW390023.out) | (rw [add_block]; exact Nat.ne_of_lt (Nat.lt_of_lt_of_le (by have := World.block_lt_of_cell? _ _ hw390021_0; first | rwa [add_block] at this | exact this) GW390023.out)) | (show (Addr.add _ _).block ≠ _; rw [add_block]; exact Nat.ne_of_lt (Nat.lt_of_lt_of_le (by have := World.block_lt_of_cell? _ _ hw390021_0; first | rwa [add_block] at this | exact this) GW390023.out)) | (dsimp only; exact Nat.ne_of_lt (Nat.lt_of_lt_of_le (by have := World.block_lt_of_cell? _ _ hw390021_0; first | rwa [add_block] at this | exact this) GW390023.out))) _).trans (((cell_far (p := ⟨gb390023, _, none⟩) (by first | exact Nat.ne_of_lt (Nat.lt_of_lt_of_le (by have := World.block_lt_of_cell? _ _ hw390021_0; first | rwa [add_block] at this | exact this) GW390023.out) | (rw [add_block]; exact Nat.ne_of_lt (Nat.lt_of_lt_of_le (by have := World.block_lt_of_cell? _ _ hw390021_0; first | rwa [add_block] at this | exact this) GW390023.out)) | (show (Addr.add _ _).block ≠ _; rw [add_block]; exact Nat.ne_of_lt (Nat.lt_of_lt_of_le (by have := World.block_lt_of_cell? _ _ hw390021_0; first | rwa [add_block] at this | exact this) GW390023.out)) | (dsimp only; exact Nat.ne_of_lt (Nat.lt_of_lt_of_le (by have := World.block_lt_of_cell? _ _ hw390021_0; first | rwa [add_block] at this | exact this) GW390023.out))) _).trans (((cell_far (p := ⟨gb390023, _, none⟩) (by first | exact Nat.ne_of_lt (Nat.lt_of_lt_of_le (by have := World.block_lt_of_cell? _ _ hw390021_0; first | rwa [add_block] at this | exact this) GW390023.out) | (rw [add_block]; exact Nat.ne_of_lt (Nat.lt_of_lt_of_le (by have := World.block_lt_of_cell? _ _ hw390021_0; first | rwa [add_block] at this | exact this) GW390023.out)) | (show (Addr.add _ _).block ≠ _; rw [add_block]; exact Nat.ne_of_lt (Nat.lt_of_lt_of_le (by have := World.block_lt_of_cell? _ _ hw390021_0; first | rwa [add_block] at this | exact this) GW390023.out)) | (dsimp only; exact Nat.ne_of_lt (Nat.lt_of_lt_of_le (by have := World.block_lt_of_cell? _ _ hw390021_0; first | rwa [add_block] at this | exact this) GW390023.out))) _).trans (hHeld.1)))))))), ((cell_far (p := ⟨gb390023, _, none⟩) (by first | exact Nat.ne_of_lt (Nat.lt_of_lt_of_le (by have := World.block_lt_of_cell? _ _ hw390021_1; first | rwa [add_block] at this | exact this) GW390023.out) | (rw [add_block]; exact Nat.ne_of_lt (Nat.lt_of_lt_of_le (by have := World.block_lt_of_cell? _ _ hw390021_1; first | rwa [add_block] at this | exact this) GW390023.out)) | (show (Addr.add _ _).block ≠ _; rw [add_block]; exact Nat.ne_of_lt (Nat.lt_of_lt_of_le (by have := World.block_lt_of_cell? _ _ hw390021_1; first | rwa [add_block] at this | exact this) GW390023.out)) | (dsimp only; exact Nat.ne_of_lt (Nat.lt_of_lt_of_le (by have := World.block_lt_of_cell? _ _ hw390021_1; first | rwa [add_block] at this | exact this) GW390023.out))) _).trans (((cell_far (p := ⟨gb390023, _, none⟩) (by first | exact Nat.ne_of_lt (Nat.lt_of_lt_of_le (by have := World.block_lt_of_cell? _ _ hw390021_1; first | rwa [add_block] at this | exact this) GW390023.out) | (rw [add_block]; exact Nat.ne_of_lt (Nat.lt_of_lt_of_le (by have := World.block_lt_of_cell? _ _ hw390021_1; first | rwa [add_block] at this | exact this) GW390023.out)) | (show (Addr.add _ _).block ≠ _; rw [add_block]; exact Nat.ne_of_lt (Nat.lt_of_lt_of_le (by have := World.block_lt_of_cell? _ _ hw390021_1; first | rwa [add_block] at this | exact this) GW390023.out)) | (dsimp only; exact Nat.ne_of_lt (Nat.lt_of_lt_of_le (by have := World.block_lt_of_cell? _ _ hw390021_1; first | rwa [add_block] at this | exact this) GW390023.out))) _).trans (((cell_far (p := ⟨gb390023, _, none⟩) (by first | exact Nat.ne_of_lt (Nat.lt_of_lt_of_le (by have := World.block_lt_of_cell? _ _ hw390021_1; first | rwa [add_block] at this | exact this) GW390023.out) | (rw [add_block]; exact Nat.ne_of_lt (Nat.lt_of_lt_of_le (by have := World.block_lt_of_cell? _ _ hw390021_1; first | rwa [add_block] at this | exact this) GW390023.out)) | (show (Addr.add _ _).block ≠ _; rw [add_block]; exact Nat.ne_of_lt (Nat.lt_of_lt_of_le (by have := World.block_lt_of_cell? _ _ hw390021_1; first | rwa [add_block] at this | exact this) GW390023.out)) | (dsimp only; exact Nat.ne_of_lt (Nat.lt_of_lt_of_le (by have := World.block_lt_of_cell? _ _ hw390021_1; first | rwa [add_block] at this | exact this) GW390023.out))) _).trans (((cell_far (p := ⟨gb390023, _, none⟩) (by first | exact Nat.ne_of_lt (Nat.lt_of_lt_of_le (by have := World.block_lt_of_cell? _ _ hw390021_1; first | rwa [add_block] at this | exact this) GW390023.out) | (rw [add_block]; exact Nat.ne_of_lt (Nat.lt_of_lt_of_le (by have := World.block_lt_of_cell? _ _ hw390021_1; first | rwa [add_block] at this | exact this) GW390023.out)) | (show (Addr.add _ _).block ≠ _; rw [add_block]; exact Nat.ne_of_lt (Nat.lt_of_lt_of_le (by have := World.block_lt_of_cell? _ _ hw390021_1; first | rwa [add_block] at this | exact this) GW390023.out)) | (dsimp only; exact Nat.ne_of_lt (Nat.lt_of_lt_of_le (by have := World.block_lt_of_cell? _ _ hw390021_1; first | rwa [add_block] at this | exact this) GW390023.out))) _).trans (hHeld.2.1)))))))), ((cell_far (p := ⟨gb390023, _, none⟩) (by first | exact Nat.ne_of_lt (Nat.lt_of_lt_of_le (by have := World.block_lt_of_cell? _ _ hw390022_0; first | rwa [add_block] at this | exact this) GW390023.out) | (rw [add_block]; exact Nat.ne_of_lt (Nat.lt_of_lt_of_le (by have := World.block_lt_of_cell? _ _ hw390022_0; first | rwa [add_block] at this | exact this) GW390023.out)) | (show (Addr.add _ _).block ≠ _; rw [add_block]; exact Nat.ne_of_lt (Nat.lt_of_lt_of_le (by have := World.block_lt_of_cell? _ _ hw390022_0; first | rwa [add_block] at this | exact this) GW390023.out)) | (dsimp only; exact Nat.ne_of_lt (Nat.lt_of_lt_of_le (by have := World.block_lt_of_cell? _ _ hw390022_0; first | rwa [add_block] at this | exact this) GW390023.out))) _).trans (((cell_far (p := ⟨gb390023, _, none⟩) (by first | exact Nat.ne_of_lt (Nat.lt_of_lt_of_le (by have := World.block_lt_of_cell? _ _ hw390022_0; first | rwa [add_block] at this | exact this) GW390023.out) | (rw [add_block]; exact Nat.ne_of_lt (Nat.lt_of_lt_of_le (by have := World.block_lt_of_cell? _ _ hw390022_0; first | rwa [add_block] at this | exact this) GW390023.out)) | (show (Addr.add _ _).block ≠ _; rw [add_block]; exact Nat.ne_of_lt (Nat.lt_of_lt_of_le (by have := World.block_lt_of_cell? _ _ hw390022_0; first | rwa [add_block] at this | exact this) GW390023.out)) | (dsimp only; exact Nat.ne_of_lt (Nat.lt_of_lt_of_le (by have := World.block_lt_of_cell? _ _ hw390022_0; first | rwa [add_block] at this | exact this) GW390023.out))) _).trans (((cell_far (p := ⟨gb390023, _, none⟩) (by first | exact Nat.ne_of_lt (Nat.lt_of_lt_of_le (by have := World.block_lt_of_cell? _ _ hw390022_0; first | rwa [add_block] at this | exact this) GW390023.out) | (rw [add_block]; exact Nat.ne_of_lt (Nat.lt_of_lt_of_le (by have := World.block_lt_of_cell? _ _ hw390022_0; first | rwa [add_block] at this | exact this) GW390023.out)) | (show (Addr.add _ _).block ≠ _; rw [add_block]; exact Nat.ne_of_lt (Nat.lt_of_lt_of_le (by have := World.block_lt_of_cell? _ _ hw390022_0; first | rwa [add_block] at this | exact this) GW390023.out)) | (dsimp only; exact Nat.ne_of_lt (Nat.lt_of_lt_of_le (by have := World.block_lt_of_cell? _ _ hw390022_0; first | rwa [add_block] at this | exact this) GW390023.out))) _).trans (((cell_far (p := ⟨gb390023, _, none⟩) (by first | exact Nat.ne_of_lt (Nat.lt_of_lt_of_le (by have := World.block_lt_of_cell? _ _ hw390022_0; first | rwa [add_block] at this | exact this) GW390023.out) | (rw [add_block]; exact Nat.ne_of_lt (Nat.lt_of_lt_of_le (by have := World.block_lt_of_cell? _ _ hw390022_0; first | rwa [add_block] at this | exact this) GW390023.out)) | (show (Addr.add _ _).block ≠ _; rw [add_block]; exact Nat.ne_of_lt (Nat.lt_of_lt_of_le (by have := World.block_lt_of_cell? _ _ hw390022_0; first | rwa [add_block] at this | exact this) GW390023.out)) | (dsimp only; exact Nat.ne_of_lt (Nat.lt_of_lt_of_le (by have := World.block_lt_of_cell? _ _ hw390022_0; first | rwa [add_block] at this | exact this) GW390023.out))) _).trans (hHeld.2.2.1)))))))), ((cell_far (p := ⟨gb390023, _, none⟩) (by first | exact Nat.ne_of_lt (Nat.lt_of_lt_of_le (by have := World.block_lt_of_cell? _ _ hw390022_1; first | rwa [add_block] at this | exact this) GW390023.out) | (rw [add_block]; exact Nat.ne_of_lt (Nat.lt_of_lt_of_le (by have := World.block_lt_of_cell? _ _ hw390022_1; first | rwa [add_block] at this | exact this) GW390023.out)) | (show (Addr.add _ _).block ≠ _; rw [add_block]; exact Nat.ne_of_lt (Nat.lt_of_lt_of_le (by have := World.block_lt_of_cell? _ _ hw390022_1; first | rwa [add_block] at this | exact this) GW390023.out)) | (dsimp only; exact Nat.ne_of_lt (Nat.lt_of_lt_of_le (by have := World.block_lt_of_cell? _ _ hw390022_1; first | rwa [add_block] at this | exact this) GW390023.out))) _).trans (((cell_far (p := ⟨gb390023, _, none⟩) (by first | exact Nat.ne_of_lt (Nat.lt_of_lt_of_le (by have := World.block_lt_of_cell? _ _ hw390022_1; first | rwa [add_block] at this | exact this) GW390023.out) | (rw [add_block]; exact Nat.ne_of_lt (Nat.lt_of_lt_of_le (by have := World.block_lt_of_cell? _ _ hw390022_1; first | rwa [add_block] at this | exact this) GW390023.out)) | (show (Addr.add _ _).block ≠ _; rw [add_block]; exact Nat.ne_of_lt (Nat.lt_of_lt_of_le (by have := World.block_lt_of_cell? _ _ hw390022_1; first | rwa [add_block] at this | exact this) GW390023.out)) | (dsimp only; exact Nat.ne_of_lt (Nat.lt_of_lt_of_le (by have := World.block_lt_of_cell? _ _ hw390022_1; first | rwa [add_block] at this | exact this) GW390023.out))) _).trans (((cell_far (p := ⟨gb390023, _, none⟩) (by first | exact Nat.ne_of_lt (Nat.lt_of_lt_of_le (by have := World.block_lt_of_cell? _ _ hw390022_1; first | rwa [add_block] at this | exact this) GW390023.out) | (rw [add_block]; exact Nat.ne_of_lt (Nat.lt_of_lt_of_le (by have := World.block_lt_of_cell? _ _ hw390022_1; first | rwa [add_block] at this | exact this) GW390023.out)) | (show (Addr.add _ _).block ≠ _; rw [add_block]; exact Nat.ne_of_lt (Nat.lt_of_lt_of_le (by have := World.block_lt_of_cell? _ _ hw390022_1; first | rwa [add_block] at this | exact this) GW390023.out)) | (dsimp only; exact Nat.ne_of_lt (Nat.lt_of_lt_of_le (by have := World.block_lt_of_cell? _ _ hw390022_1; first | rwa [add_block] at this | exact this) GW390023.out))) _).trans (((cell_far (p := ⟨gb390023, _, none⟩) (by first | exact Nat.ne_of_lt (Nat.lt_of_lt_of_le (by have := World.block_lt_of_cell? _ _ hw390022_1; first | rwa [add_block] at this | exact this) GW390023.out) | (rw [add_block]; exact Nat.ne_of_lt (Nat.lt_of_lt_of_le (by have := World.block_lt_of_cell? _ _ hw390022_1; first | rwa [add_block] at this | exact this) GW390023.out)) | (show (Addr.add _ _).block ≠ _; rw [add_block]; exact Nat.ne_of_lt (Nat.lt_of_lt_of_le (by have := World.block_lt_of_cell? _ _ hw390022_1; first | rwa [add_block] at this | exact this) GW390023.out)) | (dsimp only; exact Nat.ne_of_lt (Nat.lt_of_lt_of_le (by have := World.block_lt_of_cell? _ _ hw390022_1; first | rwa [add_block] at this | exact this) GW390023.out))) _).trans (hHeld.2.2.2))))))))⟩ (fun hHeld => ?_)
              clear hK K
              refine done_ (done_of HT_.out (by kernel_rfl)) ?_
              try go_wp2
              go_loopg [7, 12] k (fun kq v7 v12 w' => ∃ (x7_1 : List ByteArray) (x12_1 : Int), v12 = .int .i64 x12_1 ∧ Aside0 (spec_l4Encs.l0 kq a1 x7_1 t390017 x12_1 ((rd_T65 l0 t390004).f0) ((rd_T65 l0 t390004).f1) t390010 t390018 = some (r1, r2)) ∧ Aside0 (kq ≤ k) ∧ Aside0 (Kd.R Kd.string 9 w' w.heap.size (fun k_ => some k_ ≠ (v390019 : Value).ownBlock) v7 x7_1) ∧ Aside0 (Kd.R Kd.string 9 w' w.heap.size (fun k_ => some k_ ≠ (v7 : Value).ownBlock) v390019 t390017) ∧ Aside0 (w'.heap[gb390023]? = some (.cells #[.string ((rd_T65 l0 t390004).f0), .string ((rd_T65 l0 t390004).f1), .string t390010, .string t390018] 99 (0, 0))) ∧ Aside0 (Below w.heap.size w w'))
              case atStart => exact ⟨(t390009), (0), (by first | rfl | (simp; done) | (simp [*]; done)), H', ⟨Nat.le_refl _⟩, ⟨by (with_reducible repeat (first | apply Kd.R_alloc | apply Kd.R_drewN | apply Kd.R_drew)); exact Kd.R_mono (Kd.R_far (p := ⟨gb390023, 3, none⟩) (Kd.R_far (p := ⟨gb390023, 2, none⟩) (Kd.R_far (p := ⟨gb390023, 1, none⟩) (Kd.R_far (p := ⟨gb390023, 0, none⟩) (Kd.R_types HO390012.out BK390023.out (by decide)) (fun _ hk => hk.2) (.string ((rd_T65 l0 t390004).f0))) (fun _ hk => hk.2) (.string ((rd_T65 l0 t390004).f1))) (fun _ hk => hk.2) (.string t390010)) (fun _ hk => hk.2) (.string t390018)) (fun _ hk => hk.1.2)⟩, ⟨by (with_reducible repeat (first | apply Kd.R_alloc | apply Kd.R_drewN | apply Kd.R_drew)); exact Kd.R_mono (Kd.R_far (p := ⟨gb390023, 3, none⟩) (Kd.R_far (p := ⟨gb390023, 2, none⟩) (Kd.R_far (p := ⟨gb390023, 1, none⟩) (Kd.R_far (p := ⟨gb390023, 0, none⟩) (Kd.R_types HO390020.out BK390023.out (by decide)) (fun _ hk => hk.2) (.string ((rd_T65 l0 t390004).f0))) (fun _ hk => hk.2) (.string ((rd_T65 l0 t390004).f1))) (fun _ hk => hk.2) (.string t390010)) (fun _ hk => hk.2) (.string t390018)) (fun _ hk => hk.1.2)⟩, ⟨by (with_reducible repeat (first | refine blk_drewN ?_ _ | refine blk_drew ?_ | refine blk_alloc ?_ _)); refine blk_put (cs := #[.string ((rd_T65 l0 t390004).f0), .string ((rd_T65 l0 t390004).f1), .string t390010, .string (⟨#[]⟩ : ByteArray)]) ?_ 3 _ rfl; (with_reducible repeat (first | refine blk_drewN ?_ _ | refine blk_drew ?_ | refine blk_alloc ?_ _)); refine blk_put (cs := #[.string ((rd_T65 l0 t390004).f0), .string ((rd_T65 l0 t390004).f1), .string (⟨#[]⟩ : ByteArray), .string (⟨#[]⟩ : ByteArray)]) ?_ 2 _ rfl; (with_reducible repeat (first | refine blk_drewN ?_ _ | refine blk_drew ?_ | refine blk_alloc ?_ _)); refine blk_put (cs := #[.string ((rd_T65 l0 t390004).f0), .string (⟨#[]⟩ : ByteArray), .string (⟨#[]⟩ : ByteArray), .string (⟨#[]⟩ : ByteArray)]) ?_ 1 _ rfl; (with_reducible repeat (first | refine blk_drewN ?_ _ | refine blk_drew ?_ | refine blk_alloc ?_ _)); refine blk_put (cs := #[.string (⟨#[]⟩ : ByteArray), .string (⟨#[]⟩ : ByteArray), .string (⟨#[]⟩ : ByteArray), .string (⟨#[]⟩ : ByteArray)]) ?_ 0 _ rfl; (with_reducible repeat (first | refine blk_drewN ?_ _ | refine blk_drew ?_ | refine blk_alloc ?_ _)); exact BK390023.out⟩, ⟨by repeat (first | (with_reducible first | exact HB.out | apply below_alloc | apply pw_below_drewN | apply below_drew1 | refine below_set ?_ GE390023.out) | exact HB.out)⟩⟩
              case round =>
                clear H'
                try clear c1
                try clear q1
                try clear p2
                try clear c3
                try clear c3b0
                try clear c3b1
                try clear c3b2
                try clear p3
                try clear q3
                try clear hx3
                try clear c4
                try clear p6
                try clear c7
                try clear c7b0
                try clear c7b1
                try clear c8
                try clear c8b0
                try clear c8b1
                try clear c11
                try clear c11b0
                try clear c11b1
                try clear c12
                try clear c12b0
                try clear c12b1
                try clear c14
                try clear c14b0
                try clear q16
                try clear c18
                try clear q18
                try clear hx390021_0
                try clear hx390021_1
                try clear hx390022_0
                try clear hx390022_1
                try clear p390021
                try clear p390022
                try clear q018
                try clear q16
                try clear q18
                try clear q390021
                try clear q390022
                obtain ⟨x7_1, x12_1, rfl, HA, HK1, HO_7, HO_9, BK390023, HB⟩ := hrel
                cases gk with
                | zero => exact absurd HA.out (by simp [spec_l4Encs.l0])
                | succ k1 =>
                  have H := HA.out
                  clear HA
                  simp only [spec_l4Encs.l0] at H
                  by_cases c26 : x12_1 < (t390017.length : Int)
                  · rw [if_pos c26] at H
                    have c26b0 : decide (x12_1 < (t390017.length : Int)) = true := decide_eq_true c26
                    clear c26
                    by_cases c27 : 0 ≤ x12_1
                    · rw [if_pos c27] at H
                      have c27b0 : decide (0 ≤ x12_1) = true := decide_eq_true c27
                      clear c27
                      by_cases c28 : x7_1.length < 8796093022208
                      · rw [if_pos c28] at H
                        have LMc28 := Aside0.mk c28
                        clear c28
                        obtain ⟨y390025, hy390025⟩ : ∃ y_ : List ByteArray, y_ = (x7_1 ++ [rdOf ByteArray.empty t390017 x12_1]) := ⟨_, rfl⟩
                        replace H : (spec_l4Encs.l0 k1 a1 y390025 t390017 (wrap64 (x12_1 + 1)) ((rd_T65 l0 t390004).f0) ((rd_T65 l0 t390004).f1) t390010 t390018) = some (r1, r2) := by first | (rw [hy390025]; with_reducible exact H) | (have H2_ := (Option.bind_some _ _).symm.trans H; rw [hy390025]; with_reducible exact H2_) | (have H2_ := (Option.bind_some _ _).symm.trans H; with_reducible exact H2_) | with_reducible exact H | (rw [hy390025]; exact H) | exact H
                        have Ny390025 := Aside0.mk hy390025
                        clear hy390025
                        have H' := Aside0.mk H
                        clear H
                        obtain ⟨Ao29, co29, eo29⟩ := Kd.R_slice HO_9.out
                        subst eo29
                        have p390024 : 0 ≤ (x12_1 : Int) := of_decide_eq_true (by first | (with_reducible assumption) | assumption)
                        have q390024 : x12_1 < (t390017.length : Int) := of_decide_eq_true (by first | (with_reducible assumption) | assumption)
                        obtain ⟨ad390024, e390024, hx390024_0⟩ := Kd.at_string (Kd.R_reads' HO_9.out).2.2 x12_1 p390024 q390024
                        cases e390024
                        replace p390024 := eq_true p390024
                        replace q390024 := eq_true q390024
                        go_wp2_with (first | ((with_reducible refine gate_builtin (b := .append) (xs := #[.tmp 55, .tmp 60]) rfl ?_); at_builtin; refine Kd.R_append Kd.string (w0 := w) w.heap.size rfl (.tmp 55) (.tmp 60) 32 9 (.string ⟨#[]⟩) 16 rfl Tryd.underlying32 info9 rfl (by decide) (by omega) u7 x7_1 (rdOf ByteArray.empty t390017 x12_1) [.string (rdOf ByteArray.empty t390017 x12_1)] (fun k_ => some k_ ≠ (.slice (some ad390024) t390017.length co29 : Value).ownBlock) (fun _ => False) rfl rfl ?aP (fun _ hk => hk.elim) ?aF ?aO ?aB ?aS ?aL ?_; (case aP => exact rfl); (case aB => exact (by repeat (first | (with_reducible first | exact HB.out | apply below_alloc | apply pw_below_drewN | apply below_drew1 | refine below_set ?_ GE390023.out) | exact HB.out))); (case aF => exact (fun k_ hk => Kd.fresh' (Kd.R_lt (by (with_reducible repeat (first | apply Kd.R_alloc | apply Kd.R_drewN | apply Kd.R_drew)); exact HO_9.out)) k_ hk)); (case aO => exact (by (with_reducible repeat (first | apply Kd.R_alloc | apply Kd.R_drewN | apply Kd.R_drew)); exact HO_7.out)); (case aS => exact (below_size (by repeat (first | (with_reducible first | exact HB.out | apply below_alloc | apply pw_below_drewN | apply below_drew1 | refine below_set ?_ GE390023.out) | exact HB.out)))); (case aL => have := LMc28.out; omega); intro v390026 w30 ho hb hg hat; rw [← Ny390025.out] at ho; have n0_ := Aside0.mk (Kd.R_after (ok := (fun _ => True)) (by (with_reducible repeat (first | apply Kd.R_alloc | apply Kd.R_drewN | apply Kd.R_drew)); exact Kd.R_mono HO_9.out (fun _ hk => ⟨trivial, hk⟩)) hg hat); have n1_ := Aside0.mk (blk_grown (g := gb390023) (o := .cells #[.string ((rd_T65 l0 t390004).f0), .string ((rd_T65 l0 t390004).f1), .string t390010, .string t390018] 99 (0, 0)) (by (with_reducible repeat (first | refine blk_drewN ?_ _ | refine blk_drew ?_ | refine blk_alloc ?_ _)); exact BK390023.out) hg (Kd.R_ne HO_7.out BK390023.out (by decide))); have n2_ := Aside0.mk (hb); have n3_ := Aside0.mk (ho); clear HO_9; clear BK390023; clear HB; clear HO_7; have HO_9 := n0_; have BK390023 := n1_; have HB := n2_; have HO390027 := n3_; clear n0_ n1_ n2_ n3_; clear ho hb hg hat))
                        go_roundg k1
                        case measure => have := HK1.out; omega
                        case rel => exact ⟨(y390025), (wrap64 (x12_1 + 1)), (by first | rfl | (simp; done) | (simp [*]; done)), H', ⟨by have := HK1.out; omega⟩, ⟨by (with_reducible repeat (first | apply Kd.R_alloc | apply Kd.R_drewN | apply Kd.R_drew)); exact HO390027.out⟩, ⟨by (with_reducible repeat (first | apply Kd.R_alloc | apply Kd.R_drewN | apply Kd.R_drew)); exact Kd.R_mono HO_9.out (fun _ hk => hk.2)⟩, ⟨by (with_reducible repeat (first | refine blk_drewN ?_ _ | refine blk_drew ?_ | refine blk_alloc ?_ _)); exact BK390023.out⟩, ⟨by repeat (first | (with_reducible first | exact HB.out | apply below_alloc | apply pw_below_drewN | apply below_drew1 | refine below_set ?_ GE390023.out) | exact HB.out)⟩⟩
                      · rw [if_neg c28] at H
                        exact absurd H (by simp)
                    · rw [if_neg c27] at H
                      exact absurd H (by simp)
                  · rw [if_neg c26] at H
                    have c26b0 : decide (x12_1 < (t390017.length : Int)) = false := decide_eq_false c26
                    clear c26
                    replace H := Option.bind_eq_some_iff.mp H
                    obtain ⟨t390028, A310, H⟩ := H
                    replace H : (if x7_1.length < 8796093022208 then ((spec_NodeHash.f k1 ((rd_T65 l0 t390004).f0) ((rd_T65 l0 t390004).f1) t390010 t390018 a1).bind fun t390032 => (some ((x7_1 ++ [t390028]), t390032))) else (none)) = some (r1, r2) := H
                    have A31 := Aside0.mk A310
                    clear A310
                    by_cases c32 : x7_1.length < 8796093022208
                    · rw [if_pos c32] at H
                      have LMc32 := Aside0.mk c32
                      clear c32
                      obtain ⟨y390029, hy390029⟩ : ∃ y_ : List ByteArray, y_ = (x7_1 ++ [t390028]) := ⟨_, rfl⟩
                      replace H : ((spec_NodeHash.f k1 ((rd_T65 l0 t390004).f0) ((rd_T65 l0 t390004).f1) t390010 t390018 a1).bind fun t390032 => (some (y390029, t390032))) = some (r1, r2) := by first | (rw [hy390029]; with_reducible exact H) | (have H2_ := (Option.bind_some _ _).symm.trans H; rw [hy390029]; with_reducible exact H2_) | (have H2_ := (Option.bind_some _ _).symm.trans H; with_reducible exact H2_) | with_reducible exact H | (rw [hy390029]; exact H) | exact H
                      have Ny390029 := Aside0.mk hy390029
                      clear hy390029
                      replace H := Option.bind_eq_some_iff.mp H
                      obtain ⟨t390032, A330, H⟩ := H
                      replace H : (some (y390029, t390032)) = some (r1, r2) := H
                      have A33 := Aside0.mk A330
                      clear A330
                      simp only [Option.some.injEq, Prod.mk.injEq] at H
                      obtain ⟨rfl, rfl⟩ := H
                      obtain ⟨Ao34, co34, eo34⟩ := Kd.R_slice HO_9.out
                      subst eo34
                      try go_wp2
                      have n0_ := Aside0.mk (Kd.R_drew HO_7.out)
                      have n1_ := Aside0.mk (Kd.R_drew HO_9.out)
                      have n2_ := Aside0.mk (blk_drew BK390023.out)
                      have n3_ := Aside0.mk (below_drew1 HB.out)
                      clear HO_7
                      clear HO_9
                      clear BK390023
                      clear HB
                      have HO_7 := n0_
                      have HO_9 := n1_
                      have BK390023 := n2_
                      have HB := n3_
                      clear n0_ n1_ n2_ n3_
                      refine start_ (n := 11) (S := fun w' => w'.cell? ⟨gb390023, 0, none⟩ = some (.string ((rd_T65 l0 t390004).f0)) ∧ w'.cell? ⟨gb390023, 1, none⟩ = some (.string ((rd_T65 l0 t390004).f1)) ∧ w'.cell? ⟨gb390023, 2, none⟩ = some (.string t390010) ∧ w'.cell? ⟨gb390023, 3, none⟩ = some (.string t390018)) (ds := []) #[false, false, false, false, false, false, false, false, false, false, false] (by kernel_rfl) rfl rfl ⟨(blk_cell BK390023.out 0).trans rfl, (blk_cell BK390023.out 1).trans rfl, (blk_cell BK390023.out 2).trans rfl, (blk_cell BK390023.out 3).trans rfl⟩ (fun hHeld => ?_); refine with_tabW spec_l4Encs.tab11 spec_l4Encs.bits11 (fun HT_ HW_ => ?_)
                      generalize wr.drew = w35 at HO_7 HO_9 BK390023 HB hHeld ⊢
                      refine pure_ (i := 0) (N := some 62) (v := ?_) (a' := ?_) #[true, false, false, false, false, false, false, false, false, false, false] rfl rfl (any_of HT_.out (by kernel_rfl)) (fun _ _ _ h => h) (Or.inl ⟨by rfl, ?_⟩) ?_ ?_
                      rotate_left
                      · intro w'
                        go_simp
                        with_reducible rfl
                      rotate_left
                      · simp only [Act.put, List.setIfInBounds_toArray, List.set_cons_zero, List.set_cons_succ, i64_w, i32_w]
                        rfl
                      refine pure_ (i := 2) (N := some 64) (v := ?_) (a' := ?_) #[true, false, true, false, false, false, false, false, false, false, false] rfl rfl (any_of HT_.out (by kernel_rfl)) (fun _ _ _ h => h) (Or.inl ⟨by rfl, ?_⟩) ?_ ?_
                      rotate_left
                      · intro w'
                        go_simp
                        with_reducible rfl
                      rotate_left
                      · simp only [Act.put, List.setIfInBounds_toArray, List.set_cons_zero, List.set_cons_succ, i64_w, i32_w]
                        rfl
                      refine pure_ (i := 7) (N := some 69) (v := ?_) (a' := ?_) #[true, false, true, false, false, false, false, true, false, false, false] rfl rfl (any_of HT_.out (by kernel_rfl)) (fun _ _ _ h => h) (Or.inl ⟨by rfl, ?_⟩) ?_ ?_
                      rotate_left
                      · intro w'
                        go_simp
                        with_reducible rfl
                      rotate_left
                      · simp only [Act.put, List.setIfInBounds_toArray, List.set_cons_zero, List.set_cons_succ, i64_w, i32_w]
                        rfl
                      refine take_ (i := 1) (N := some 63) (v := ?_) (a' := ?_) #[true, true, true, false, false, false, false, true, false, false, false] rfl rfl (take_ofW HT_.out HW_.out (by kernel_rfl)) (fun _ _ _ h => h) (Or.inl ⟨by rfl, ?_⟩) hHeld ?_ ?_
                      rotate_left
                      · rintro w' ⟨s0, s1, s2, s3⟩
                        go_simp
                        with_reducible rfl
                      rotate_left
                      · simp only [Act.put, List.setIfInBounds_toArray, List.set_cons_zero, List.set_cons_succ, i64_w, i32_w]
                        rfl
                      refine take_ (i := 6) (N := some 68) (v := ?_) (a' := ?_) #[true, true, true, false, false, false, true, true, false, false, false] rfl rfl (take_ofW HT_.out HW_.out (by kernel_rfl)) (fun _ _ _ h => h) (Or.inl ⟨by rfl, ?_⟩) hHeld ?_ ?_
                      rotate_left
                      · rintro w' ⟨s0, s1, s2, s3⟩
                        go_simp
                        with_reducible rfl
                      rotate_left
                      · simp only [Act.put, List.setIfInBounds_toArray, List.set_cons_zero, List.set_cons_succ, i64_w, i32_w]
                        rfl
                      refine one_ (i := 3) (N := some 65) #[true, true, true, true, false, false, true, true, false, false, false] rfl rfl (one_of HT_.out (by kernel_rfl)) (by decide) (fun K hK => ?_)
                      refine goes_ Tryd.func83 (by kernel_rfl) rfl #[.agg #[.string ((rd_T65 l0 t390004).f0), .string ((rd_T65 l0 t390004).f1), .string t390010, .string t390018], .int .i64 a1] (by rfl) rfl rfl (by (try simp only [List.map_toArray, List.map_cons, List.map_nil]); first | done | rfl | (simp only [List.length_drop, List.length_take]; rfl)) ?_
                      with_reducible refine (spec_EncodeNode.calls ((rd_T65 l0 t390004).f0) ((rd_T65 l0 t390004).f1) t390010 t390018 a1 t390028 _ A31.out).mono ?_
                      rintro e w36 ⟨rfl, hb⟩
                      refine ⟨_, rfl, ?_⟩
                      have n0_ := Aside0.mk (Kd.R_below (by (with_reducible repeat (first | apply Kd.R_alloc | apply Kd.R_drewN | apply Kd.R_drew)); exact HO_7.out) hb)
                      have n1_ := Aside0.mk (Kd.R_below (by (with_reducible repeat (first | apply Kd.R_alloc | apply Kd.R_drewN | apply Kd.R_drew)); exact HO_9.out) hb)
                      have n2_ := Aside0.mk (blk_below (g := gb390023) (o := .cells #[.string ((rd_T65 l0 t390004).f0), .string ((rd_T65 l0 t390004).f1), .string t390010, .string t390018] 99 (0, 0)) (by (with_reducible repeat (first | refine blk_drewN ?_ _ | refine blk_drew ?_ | refine blk_alloc ?_ _)); exact BK390023.out) hb)
                      have n3_ := Aside0.mk (below_step (by repeat (first | (with_reducible first | exact HB.out | apply below_alloc | apply pw_below_drewN | apply below_drew1 | refine below_set ?_ GE390023.out) | exact HB.out)) hb)
                      clear HO_7
                      clear HO_9
                      clear BK390023
                      clear HB
                      have HO_7 := n0_
                      have HO_9 := n1_
                      have BK390023 := n2_
                      have HB := n3_
                      clear n0_ n1_ n2_ n3_
                      (try clear hb)
                      (try clear hb2)
                      (try clear hk)
                      (try clear hi)
                      refine hK.out _ _ ⟨(blk_cell BK390023.out 0).trans rfl, (blk_cell BK390023.out 1).trans rfl, (blk_cell BK390023.out 2).trans rfl, (blk_cell BK390023.out 3).trans rfl⟩ (fun hHeld => ?_)
                      clear hK K
                      refine norm_ (a' := ?_) ?_ ?_
                      rotate_left
                      · show Act.put _ (some 65) _ = _
                        simp only [Act.put, List.setIfInBounds_toArray, List.set_cons_zero, List.set_cons_succ, i64_w, i32_w]
                        rfl
                      refine one_ (i := 4) (N := some 66) #[true, true, true, true, true, false, true, true, false, false, false] rfl rfl (one_of HT_.out (by kernel_rfl)) (by decide) (fun K hK => ?_)
                      refine value_ (w1 := ?_) (v := ?_) (by rfl) rfl ?_ ?_
                      rotate_left 2
                      · go_simp
                        constructor
                        · rfl
                        · rfl
                      refine hK.out _ _ ⟨(blk_cell (blk_alloc BK390023.out _) 0).trans rfl, (blk_cell (blk_alloc BK390023.out _) 1).trans rfl, (blk_cell (blk_alloc BK390023.out _) 2).trans rfl, (blk_cell (blk_alloc BK390023.out _) 3).trans rfl⟩ (fun hHeld => ?_)
                      clear hK K
                      refine norm_ (a' := ?_) ?_ ?_
                      rotate_left
                      · show Act.put _ (some 66) _ = _
                        simp only [Act.put, List.setIfInBounds_toArray, List.set_cons_zero, List.set_cons_succ, i64_w, i32_w]
                        rfl
                      refine one_ (i := 5) (N := some 67) #[true, true, true, true, true, true, true, true, false, false, false] rfl rfl (one_of HT_.out (by kernel_rfl)) (by decide) (fun K hK => ?_)
                      refine Kd.R_append_step Kd.string (w0 := w) w.heap.size (by rfl) (.tmp 62) (.tmp 66) 32 9 (.string ⟨#[]⟩) 16 rfl Tryd.underlying32 info9 rfl (by decide) (by omega) u7 x7_1 t390028 [.string t390028] (fun k_ => some k_ ≠ (.slice Ao34 t390017.length co34 : Value).ownBlock) (fun _ => False) rfl rfl ?aP (fun _ hk => hk.elim) ?aF ?aO ?aB ?aS ?aL ?_
                      (case aP => exact rfl)
                      (case aB => exact (by repeat (first | (with_reducible first | exact HB.out | apply below_alloc | apply pw_below_drewN | apply below_drew1 | refine below_set ?_ GE390023.out) | exact HB.out)))
                      (case aF => exact (fun k_ hk => Kd.fresh' (Kd.R_lt (by (with_reducible repeat (first | apply Kd.R_alloc | apply Kd.R_drewN | apply Kd.R_drew)); exact HO_9.out)) k_ hk))
                      (case aO => exact (by (with_reducible repeat (first | apply Kd.R_alloc | apply Kd.R_drewN | apply Kd.R_drew)); exact HO_7.out))
                      (case aS => exact (below_size (by repeat (first | (with_reducible first | exact HB.out | apply below_alloc | apply pw_below_drewN | apply below_drew1 | refine below_set ?_ GE390023.out) | exact HB.out))))
                      (case aL => have := LMc32.out; omega)
                      intro v390030 w37 ho hb hg hat
                      rw [← Ny390029.out] at ho
                      have n0_ := Aside0.mk (Kd.R_after (ok := (fun _ => True)) (by (with_reducible repeat (first | apply Kd.R_alloc | apply Kd.R_drewN | apply Kd.R_drew)); exact Kd.R_mono HO_9.out (fun _ hk => ⟨trivial, hk⟩)) hg hat)
                      have n1_ := Aside0.mk (blk_grown (g := gb390023) (o := .cells #[.string ((rd_T65 l0 t390004).f0), .string ((rd_T65 l0 t390004).f1), .string t390010, .string t390018] 99 (0, 0)) (by (with_reducible repeat (first | refine blk_drewN ?_ _ | refine blk_drew ?_ | refine blk_alloc ?_ _)); exact BK390023.out) hg (Kd.R_ne HO_7.out BK390023.out (by decide)))
                      have n2_ := Aside0.mk (hb)
                      have n3_ := Aside0.mk (ho)
                      clear HO_9
                      clear BK390023
                      clear HB
                      clear HO_7
                      have HO_9 := n0_
                      have BK390023 := n1_
                      have HB := n2_
                      have HO390031 := n3_
                      clear n0_ n1_ n2_ n3_
                      clear ho hb hg hat
                      refine hK.out _ _ ⟨(blk_cell BK390023.out 0).trans rfl, (blk_cell BK390023.out 1).trans rfl, (blk_cell BK390023.out 2).trans rfl, (blk_cell BK390023.out 3).trans rfl⟩ (fun hHeld => ?_)
                      clear hK K
                      refine norm_ (a' := ?_) ?_ ?_
                      rotate_left
                      · show Act.put _ (some 67) _ = _
                        simp only [Act.put, List.setIfInBounds_toArray, List.set_cons_zero, List.set_cons_succ, i64_w, i32_w]
                        rfl
                      refine one_ (i := 8) (N := some 70) #[true, true, true, true, true, true, true, true, true, false, false] rfl rfl (one_of HT_.out (by kernel_rfl)) (by decide) (fun K hK => ?_)
                      refine goes_ Tryd.func84 (by kernel_rfl) rfl #[.agg #[.string ((rd_T65 l0 t390004).f0), .string ((rd_T65 l0 t390004).f1), .string t390010, .string t390018], .int .i64 a1] (by rfl) rfl rfl (by (try simp only [List.map_toArray, List.map_cons, List.map_nil]); first | done | rfl | (simp only [List.length_drop, List.length_take]; rfl)) ?_
                      with_reducible refine (spec_NodeHash.calls k1 ((rd_T65 l0 t390004).f0) ((rd_T65 l0 t390004).f1) t390010 t390018 a1 t390032 _ A33.out).mono ?_
                      rintro e w38 ⟨rfl, hb⟩
                      refine ⟨_, rfl, ?_⟩
                      have n0_ := Aside0.mk (Kd.R_below (by (with_reducible repeat (first | apply Kd.R_alloc | apply Kd.R_drewN | apply Kd.R_drew)); exact HO_9.out) hb)
                      have n1_ := Aside0.mk (Kd.R_below (by (with_reducible repeat (first | apply Kd.R_alloc | apply Kd.R_drewN | apply Kd.R_drew)); exact HO390031.out) hb)
                      have n2_ := Aside0.mk (blk_below (g := gb390023) (o := .cells #[.string ((rd_T65 l0 t390004).f0), .string ((rd_T65 l0 t390004).f1), .string t390010, .string t390018] 99 (0, 0)) (by (with_reducible repeat (first | refine blk_drewN ?_ _ | refine blk_drew ?_ | refine blk_alloc ?_ _)); exact BK390023.out) hb)
                      have n3_ := Aside0.mk (below_step (by repeat (first | (with_reducible first | exact HB.out | apply below_alloc | apply pw_below_drewN | apply below_drew1 | refine below_set ?_ GE390023.out) | exact HB.out)) hb)
                      clear HO_9
                      clear HO390031
                      clear BK390023
                      clear HB
                      have HO_9 := n0_
                      have HO390031 := n1_
                      have BK390023 := n2_
                      have HB := n3_
                      clear n0_ n1_ n2_ n3_
                      (try clear hb)
                      (try clear hb2)
                      (try clear hk)
                      (try clear hi)
                      refine hK.out _ _ ⟨(blk_cell BK390023.out 0).trans rfl, (blk_cell BK390023.out 1).trans rfl, (blk_cell BK390023.out 2).trans rfl, (blk_cell BK390023.out 3).trans rfl⟩ (fun hHeld => ?_)
                      clear hK K
                      refine norm_ (a' := ?_) ?_ ?_
                      rotate_left
                      · show Act.put _ (some 70) _ = _
                        simp only [Act.put, List.setIfInBounds_toArray, List.set_cons_zero, List.set_cons_succ, i64_w, i32_w]
                        rfl
                      refine pure_ (i := 9) (N := some 4) (v := ?_) (a' := ?_) #[true, true, true, true, true, true, true, true, true, true, false] rfl rfl (any_of HT_.out (by kernel_rfl)) (fun _ _ _ h => h) (Or.inl ⟨by rfl, ?_⟩) ?_ ?_
                      rotate_left
                      · intro w'
                        go_simp
                        with_reducible rfl
                      rotate_left
                      · simp only [Act.put, List.setIfInBounds_toArray, List.set_cons_zero, List.set_cons_succ, i64_w, i32_w]
                        rfl
                      refine pure_ (i := 10) (N := some 5) (v := ?_) (a' := ?_) #[true, true, true, true, true, true, true, true, true, true, true] rfl rfl (any_of HT_.out (by kernel_rfl)) (fun _ _ _ h => h) (Or.inl ⟨by rfl, ?_⟩) ?_ ?_
                      rotate_left
                      · intro w'
                        go_simp
                        with_reducible rfl
                      rotate_left
                      · simp only [Act.put, List.setIfInBounds_toArray, List.set_cons_zero, List.set_cons_succ, i64_w, i32_w]
                        rfl
                      refine done_ (done_of HT_.out (by kernel_rfl)) ?_
                      try go_wp2
                      go_ret2
                      exact ⟨_, by first | rfl | (simp [errW_none, errW_some] <;> rfl) | (simp only [← hji10]; first | rfl | (simp [errW_none, errW_some] <;> rfl)) | (simp [*, errW_none, errW_some] <;> rfl), by (with_reducible repeat (first | apply Kd.R_alloc | apply Kd.R_drewN | apply Kd.R_drew)); exact Kd.R_mono HO390031.out (fun _ hk => trivial), by repeat (first | (with_reducible first | exact HB.out | apply below_alloc | apply pw_below_drewN | apply below_drew1 | refine below_set ?_ GE390023.out) | exact HB.out)⟩
                    · rw [if_neg c32] at H
                      exact absurd H (by simp)
            · rw [if_neg c14] at H
              exact absurd H (by simp)
          · rw [if_neg c12] at H
            exact absurd H (by simp)
        · rw [if_neg c11] at H
          exact absurd H (by simp)
      · rw [if_neg c8] at H
        exact absurd H (by simp)
    · rw [if_neg c7] at H
      exact absurd H (by simp)
end Go.Proofs.YthnnphinfiobmaaDoor.Z
end
section
namespace Go.Proofs.YthnnphinfiobmaaDoor.Z
open Go.RowKit Go.Proofs.YthnnphinfiobmaaDoorW.PrintWords Go.Proofs.YthnnphinfiobmaaDoorW.PrintLast Go.Proofs.YthnnphinfiobmaaDoorW.PrintMore
attribute [local go_sem] max2_int min2_int max_two min_two max_three min_three max_four min_four   -- for this text's walks alone
set_option linter.unusedVariables false
set_option linter.unusedSimpArgs false
def spec_l4PairOk.f (a0 : ByteArray) (a1 : ByteArray) : Option (Bool) := if (a0.size : Int) ≥ 1 then (if (a0.size : Int) ≤ 256 then (some (decide ((a1.size : Int) ≤ 2000))) else (some false)) else (some false)
set_option maxHeartbeats 8000000 in
set_option maxRecDepth 100000 in
theorem spec_l4PairOk.calls (a0 : ByteArray) (a1 : ByteArray) (r : Bool) (w : World) (h : spec_l4PairOk.f a0 a1 = some r) :
    Calls Tryd.prog 81 #[.string a0, .string a1] w fun e w' => e = .returned (.bool r) ∧ Drawn0 w w' := by
  have H : (if (a0.size : Int) ≥ 1 then (if (a0.size : Int) ≤ 256 then (some (decide ((a1.size : Int) ≤ 2000))) else (some false)) else (some false)) = some r := h
  clear h
  by_cases c3 : (a0.size : Int) ≥ 1
  · rw [if_pos c3] at H
    have c3b0 : decide (1 ≤ (a0.size : Int)) = true := decide_eq_true c3
    have c3b1 : decide (1 ≤ a0.size) = true := decide_eq_true (by omega)
    clear c3
    by_cases c4 : (a0.size : Int) ≤ 256
    · rw [if_pos c4] at H
      have c4b0 : decide ((a0.size : Int) ≤ 256) = true := decide_eq_true c4
      have c4b1 : decide (a0.size ≤ 256) = true := decide_eq_true (by omega)
      clear c4
      obtain rfl := Option.some.inj H
      go_enter Tryd.func81, Tryd.ntmps81
      go_wp2
      go_ret
      exact ⟨by first | rfl | (simp; done) | (simp [*]; done), by repeat (first | exact Drawn0.refl _ | apply Drawn0.step)⟩
    · rw [if_neg c4] at H
      have c4b0 : decide ((a0.size : Int) ≤ 256) = false := decide_eq_false c4
      have c4b1 : decide (a0.size ≤ 256) = false := decide_eq_false (by omega)
      clear c4
      obtain rfl := Option.some.inj H
      go_enter Tryd.func81, Tryd.ntmps81
      go_wp2
      go_ret
      exact ⟨by first | rfl | (simp; done) | (simp [*]; done), by repeat (first | exact Drawn0.refl _ | apply Drawn0.step)⟩
  · rw [if_neg c3] at H
    have c3b0 : decide (1 ≤ (a0.size : Int)) = false := decide_eq_false c3
    have c3b1 : decide (1 ≤ a0.size) = false := decide_eq_false (by omega)
    clear c3
    obtain rfl := Option.some.inj H
    go_enter Tryd.func81, Tryd.ntmps81
    go_wp2
    go_ret
    exact ⟨by first | rfl | (simp; done) | (simp [*]; done), by repeat (first | exact Drawn0.refl _ | apply Drawn0.step)⟩
end Go.Proofs.YthnnphinfiobmaaDoor.Z
end
