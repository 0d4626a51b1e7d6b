/- Own texts and the print's words that they use, joined by a program of this session. -/
import Derived.Test.YthnnphinfiobmaaDoorYFnExactRoot25
import Derived.Test.YthnnphinfiobmaaDoorYFnExactRoot21
import Derived.Test.YthnnphinfiobmaaDoorYFnExactRoot26
import Derived.Test.YthnnphinfiobmaaDoorYFnExactRoot28
import Derived.Test.YthnnphinfiobmaaDoorYFnExactRoot24
import Derived.Test.YthnnphinfiobmaaDoorYFnExactRoot0
import Derived.ProofKit
import Derived.OpenShut
import Derived.ChangeSame
section
namespace Go.Proofs.YthnnphinfiobmaaDoor.Z
open Go.RowKit Go.Proofs.YthnnphinfiobmaaDoorW.PrintWords Go.Proofs.YthnnphinfiobmaaDoorW.PrintLast Go.Proofs.YthnnphinfiobmaaDoorW.PrintMore
attribute [local go_sem] max2_int min2_int max_two min_two max_three min_three max_four min_four   -- for this text's walks alone
set_option linter.unusedVariables false
set_option linter.unusedSimpArgs false
def laws_FnExactRoot.f (k : Nat) (l0 : List (S60)) (a1 : Int) : Option (Bool) := (laws_szPairS.f k l0 1048576).bind fun t30001 => (if t30001 < 0 then (some true) else ((laws_toPairS.f k l0).bind fun t30002 => ((spec_Root.f k t30002 a1).bind fun t30005 => ((laws_toPairS.f k l0).bind fun t30006 => ((impl_Root.f t30006 a1).bind fun t30009 => (if t30009.toList = t30005.toList then ((laws_toPairS.f k l0).bind fun t30010 => ((laws_eqPairS.f k t30006 t30010).bind fun t30013 => (if t30013 = true then (some true) else (some false)))) else (some false)))))))
theorem laws_FnExactRoot.mono : ∀ a0 a1 k, LeO (laws_FnExactRoot.f k a0 a1) (laws_FnExactRoot.f (k + 1) a0 a1) := by
  intro a0 a1 k
  unfold laws_FnExactRoot.f
  repeat' first
      | (with_reducible exact laws_eqPairS.mono _ _ _)
      | (with_reducible exact laws_szPairS.mono _ _ _)
      | (with_reducible exact laws_toPairS.mono _ _)
      | (with_reducible exact spec_Root.mono _ _ _)
      | (with_reducible exact LeO.refl _)
      | (with_reducible exact LeO.none _)
      | (with_reducible refine LeO.ite ?_ ?_)
      | (with_reducible refine LeO.bind ?_ (fun _ => ?_))
      | exact laws_eqPairS.mono _ _ _
      | exact laws_szPairS.mono _ _ _
      | exact laws_toPairS.mono _ _
      | exact spec_Root.mono _ _ _
      | exact LeO.none _
      | refine LeO.ite ?_ ?_
      | refine LeO.bind ?_ (fun _ => ?_)
set_option maxHeartbeats 8000000 in
set_option maxRecDepth 100000 in
theorem laws_FnExactRoot.calls (k : Nat) (A0 : Option Addr) (c0 : Nat) (l0 : List (S60)) (a1 : Int) (r : Bool) (w : World) (hTab : Tab w) (hr0 : Kd.C k60 w A0 l0.length l0) (hc0 : l0.length ≤ c0) (h : laws_FnExactRoot.f k l0 a1 = some r) :
    Calls Tryd.prog 3 #[.slice A0 l0.length c0, .int .i64 a1] w fun e w' => e = .returned (.bool r) ∧ Below w.heap.size w w' := by
  have HR0 := Aside0.mk hr0
  have HC0 := Aside0.mk hc0
  clear hr0 hc0
  have HB := Aside0.mk (Below.refl w.heap.size w)
  have H : ((laws_szPairS.f k l0 1048576).bind fun t30001 => (if t30001 < 0 then (some true) else ((laws_toPairS.f k l0).bind fun t30002 => ((spec_Root.f k t30002 a1).bind fun t30005 => ((laws_toPairS.f k l0).bind fun t30006 => ((impl_Root.f t30006 a1).bind fun t30009 => (if t30009.toList = t30005.toList then ((laws_toPairS.f k l0).bind fun t30010 => ((laws_eqPairS.f k t30006 t30010).bind fun t30013 => (if t30013 = true then (some true) else (some false)))) else (some false)))))))) = some r := h
  clear h
  replace H := Option.bind_eq_some_iff.mp H
  obtain ⟨t30001, A30, H⟩ := H
  replace H : (if t30001 < 0 then (some true) else ((laws_toPairS.f k l0).bind fun t30002 => ((spec_Root.f k t30002 a1).bind fun t30005 => ((laws_toPairS.f k l0).bind fun t30006 => ((impl_Root.f t30006 a1).bind fun t30009 => (if t30009.toList = t30005.toList then ((laws_toPairS.f k l0).bind fun t30010 => ((laws_eqPairS.f k t30006 t30010).bind fun t30013 => (if t30013 = true then (some true) else (some false)))) else (some false))))))) = some r := H
  have A3 := Aside0.mk A30
  clear A30
  by_cases c4 : t30001 < 0
  · rw [if_pos c4] at H
    have c4b0 : decide (t30001 < 0) = true := decide_eq_true c4
    clear c4
    obtain rfl := Option.some.inj H
    go_enter Tryd.func3, Tryd.ntmps3
    go_wp2_with (first | ((with_reducible refine gate_callee (f := 9) rfl ?_); refine goesL_ (some 11) rfl rfl Tryd.func9 (by kernel_rfl) rfl #[.slice A0 l0.length c0, .int .i64 1048576] rfl (by (try simp only [List.map_toArray, List.map_cons, List.map_nil]); first | done | rfl | (simp only [List.length_drop, List.length_take]; rfl)) ?_; (with_reducible refine (laws_szPairS.calls k _ _ l0 1048576 t30001 _ ?side1 ?side2 A3.out).mono ?_); (case side1 => repeat (first | exact HR0.out | (with_reducible refine Kd.C_alloc ?_ _) | (with_reducible refine Kd.C_drewN ?_ _) | (with_reducible refine Kd.C_drew ?_))); (case side2 => exact HC0.out); rintro e w5 ⟨rfl, hb⟩; refine ⟨_, rfl, ?_⟩; have n0_ := Aside0.mk (below_step (by repeat (first | (with_reducible first | exact HB.out | apply below_alloc | apply pw_below_drewN | apply below_drew1) | exact HB.out)) hb); clear HB; have HB := n0_; clear n0_; (try clear hb); (try clear hb2); (try clear hk); (try clear hi)))
    go_ret
    exact ⟨by first | rfl | (simp [errW_none, errW_some] <;> rfl) | (simp [*, errW_none, errW_some] <;> rfl), by repeat (first | (with_reducible first | exact HB.out | apply below_alloc | apply pw_below_drewN | apply below_drew1) | exact HB.out)⟩
  · rw [if_neg c4] at H
    have c4b0 : decide (t30001 < 0) = false := decide_eq_false c4
    clear c4
    replace H := Option.bind_eq_some_iff.mp H
    obtain ⟨t30002, A60, H⟩ := H
    replace H : ((spec_Root.f k t30002 a1).bind fun t30005 => ((laws_toPairS.f k l0).bind fun t30006 => ((impl_Root.f t30006 a1).bind fun t30009 => (if t30009.toList = t30005.toList then ((laws_toPairS.f k l0).bind fun t30010 => ((laws_eqPairS.f k t30006 t30010).bind fun t30013 => (if t30013 = true then (some true) else (some false)))) else (some false))))) = some r := H
    have A6 := Aside0.mk A60
    clear A60
    replace H := Option.bind_eq_some_iff.mp H
    obtain ⟨t30005, A70, H⟩ := H
    replace H : ((laws_toPairS.f k l0).bind fun t30006 => ((impl_Root.f t30006 a1).bind fun t30009 => (if t30009.toList = t30005.toList then ((laws_toPairS.f k l0).bind fun t30010 => ((laws_eqPairS.f k t30006 t30010).bind fun t30013 => (if t30013 = true then (some true) else (some false)))) else (some false)))) = some r := H
    have A7 := Aside0.mk A70
    clear A70
    replace H := Option.bind_eq_some_iff.mp H
    obtain ⟨t30006, A80, H⟩ := H
    replace H : ((impl_Root.f t30006 a1).bind fun t30009 => (if t30009.toList = t30005.toList then ((laws_toPairS.f k l0).bind fun t30010 => ((laws_eqPairS.f k t30006 t30010).bind fun t30013 => (if t30013 = true then (some true) else (some false)))) else (some false))) = some r := H
    have A8 := Aside0.mk A80
    clear A80
    replace H := Option.bind_eq_some_iff.mp H
    obtain ⟨t30009, A90, H⟩ := H
    replace H : (if t30009.toList = t30005.toList then ((laws_toPairS.f k l0).bind fun t30010 => ((laws_eqPairS.f k t30006 t30010).bind fun t30013 => (if t30013 = true then (some true) else (some false)))) else (some false)) = some r := H
    have A9 := Aside0.mk A90
    clear A90
    by_cases c10 : t30009.toList = t30005.toList
    · rw [if_pos c10] at H
      have c10b0 : (t30009.toList == t30005.toList) = true := beq_iff_eq.mpr c10
      have c10b1 : (t30009.toList != t30005.toList) = false := bne_eq_false_iff_eq.mpr c10
      clear c10
      replace H := Option.bind_eq_some_iff.mp H
      obtain ⟨t30010, A110, H⟩ := H
      replace H : ((laws_eqPairS.f k t30006 t30010).bind fun t30013 => (if t30013 = true then (some true) else (some false))) = some r := H
      have A11 := Aside0.mk A110
      clear A110
      replace H := Option.bind_eq_some_iff.mp H
      obtain ⟨t30013, A120, H⟩ := H
      replace H : (if t30013 = true then (some true) else (some false)) = some r := H
      have A12 := Aside0.mk A120
      clear A120
      by_cases c13 : t30013 = true
      · subst c13
        have H1 : (some true) = some r := by rw [if_pos rfl] at H; exact H
        clear H
        have H := H1
        clear H1
        obtain rfl := Option.some.inj H
        go_enter Tryd.func3, Tryd.ntmps3
        go_wp2_with (first | ((with_reducible refine gate_callee (f := 9) rfl ?_); refine goesL_ (some 11) rfl rfl Tryd.func9 (by kernel_rfl) rfl #[.slice A0 l0.length c0, .int .i64 1048576] rfl (by (try simp only [List.map_toArray, List.map_cons, List.map_nil]); first | done | rfl | (simp only [List.length_drop, List.length_take]; rfl)) ?_; (with_reducible refine (laws_szPairS.calls k _ _ l0 1048576 t30001 _ ?side1 ?side2 A3.out).mono ?_); (case side1 => repeat (first | exact HR0.out | (with_reducible refine Kd.C_alloc ?_ _) | (with_reducible refine Kd.C_drewN ?_ _) | (with_reducible refine Kd.C_drew ?_))); (case side2 => exact HC0.out); rintro e w14 ⟨rfl, hb⟩; refine ⟨_, rfl, ?_⟩; have n0_ := Aside0.mk (below_step (by repeat (first | (with_reducible first | exact HB.out | apply below_alloc | apply pw_below_drewN | apply below_drew1) | exact HB.out)) hb); clear HB; have HB := n0_; clear n0_; (try clear hb); (try clear hb2); (try clear hk); (try clear hi)) | ((with_reducible refine gate_callee (f := 11) rfl ?_); refine goesL_ (some 15) rfl rfl Tryd.func11 (by kernel_rfl) rfl #[.slice A0 l0.length c0] rfl (by (try simp only [List.map_toArray, List.map_cons, List.map_nil]); first | done | rfl | (simp only [List.length_drop, List.length_take]; rfl)) ?_; (with_reducible refine (laws_toPairS.calls k _ _ l0 t30002 _ ?side1 ?side2 A6.out).mono ?_); (case side1 => repeat (first | exact (Kd.C_below HR0.out HB.out) | (with_reducible refine Kd.C_alloc ?_ _) | (with_reducible refine Kd.C_drewN ?_ _) | (with_reducible refine Kd.C_drew ?_))); (case side2 => exact HC0.out); rintro e w15 ⟨v30003, rfl, ho0, hb⟩; refine ⟨_, rfl, ?_⟩; have n0_ := Aside0.mk (Kd.R_lower ho0 (below_size (by repeat (first | (with_reducible first | exact HB.out | apply below_alloc | apply pw_below_drewN | apply below_drew1) | exact HB.out)))); have n1_ := Aside0.mk (below_step (by repeat (first | (with_reducible first | exact HB.out | apply below_alloc | apply pw_below_drewN | apply below_drew1) | exact HB.out)) hb); clear HB; have HO30004 := n0_; have HB := n1_; clear n0_ n1_; (try clear hb); (try clear hb2); (try clear hk); (try clear hi); (try clear ho0); obtain ⟨Ao16, co16, eo16⟩ := Kd.R_slice HO30004.out; subst eo16) | ((with_reducible refine gate_callee (f := 10) rfl ?_); refine goesL_ (some 17) rfl rfl Tryd.func10 (by kernel_rfl) rfl #[.slice Ao16 t30002.length co16, .int .i64 a1] rfl (by (try simp only [List.map_toArray, List.map_cons, List.map_nil]); first | done | rfl | (simp only [List.length_drop, List.length_take]; rfl)) ?_; (with_reducible refine (spec_Root.calls k _ _ t30002 a1 t30005 _ ?side1 ?side2 A7.out).mono ?_); (case side1 => repeat (first | exact (Kd.R_reads' HO30004.out).2.2 | (with_reducible refine Kd.C_alloc ?_ _) | (with_reducible refine Kd.C_drewN ?_ _) | (with_reducible refine Kd.C_drew ?_))); (case side2 => exact (Kd.R_reads' HO30004.out).2.1); rintro e w17 ⟨rfl, hb⟩; refine ⟨_, rfl, ?_⟩; have n0_ := Aside0.mk (Kd.R_below (by (with_reducible repeat (first | apply Kd.R_alloc | apply Kd.R_drewN | apply Kd.R_drew)); exact HO30004.out) hb); have n1_ := Aside0.mk (below_step (by repeat (first | (with_reducible first | exact HB.out | apply below_alloc | apply pw_below_drewN | apply below_drew1) | exact HB.out)) hb); clear HO30004; clear HB; have HO30004 := n0_; have HB := n1_; clear n0_ n1_; (try clear hb); (try clear hb2); (try clear hk); (try clear hi)) | ((with_reducible refine gate_callee (f := 11) rfl ?_); refine goesL_ (some 19) rfl rfl Tryd.func11 (by kernel_rfl) rfl #[.slice A0 l0.length c0] rfl (by (try simp only [List.map_toArray, List.map_cons, List.map_nil]); first | done | rfl | (simp only [List.length_drop, List.length_take]; rfl)) ?_; (with_reducible refine (laws_toPairS.calls k _ _ l0 t30006 _ ?side1 ?side2 A8.out).mono ?_); (case side1 => repeat (first | exact (Kd.C_below HR0.out HB.out) | (with_reducible refine Kd.C_alloc ?_ _) | (with_reducible refine Kd.C_drewN ?_ _) | (with_reducible refine Kd.C_drew ?_))); (case side2 => exact HC0.out); rintro e w18 ⟨v30007, rfl, ho0, hb⟩; refine ⟨_, rfl, ?_⟩; have n0_ := Aside0.mk (Kd.R_elder' (by (with_reducible repeat (first | apply Kd.R_alloc | apply Kd.R_drewN | apply Kd.R_drew)); exact HO30004.out) (Kd.R_base ho0) hb); have n1_ := Aside0.mk (Kd.R_lower (Kd.R_new' ho0 (Kd.R_lt (by (with_reducible repeat (first | apply Kd.R_alloc | apply Kd.R_drewN | apply Kd.R_drew)); exact HO30004.out))) (below_size (by repeat (first | (with_reducible first | exact HB.out | apply below_alloc | apply pw_below_drewN | apply below_drew1) | exact HB.out)))); have n2_ := Aside0.mk (below_step (by repeat (first | (with_reducible first | exact HB.out | apply below_alloc | apply pw_below_drewN | apply below_drew1) | exact HB.out)) hb); clear HO30004; clear HB; have HO30004 := n0_; have HO30008 := n1_; have HB := n2_; clear n0_ n1_ n2_; (try clear hb); (try clear hb2); (try clear hk); (try clear hi); (try clear ho0); obtain ⟨Ao19, co19, eo19⟩ := Kd.R_slice HO30008.out; subst eo19) | ((with_reducible refine gate_callee (f := 12) rfl ?_); refine goesL_ (some 22) rfl rfl Tryd.func12 (by kernel_rfl) rfl #[.slice Ao19 t30006.length co19, .int .i64 a1] rfl (by (try simp only [List.map_toArray, List.map_cons, List.map_nil]); first | done | rfl | (simp only [List.length_drop, List.length_take]; rfl)) ?_; (with_reducible refine (impl_Root.calls _ _ t30006 a1 t30009 _ ?side1 ?side2 A9.out).mono ?_); (case side1 => repeat (first | exact (Kd.R_reads' HO30008.out).2.2 | (with_reducible refine Kd.C_alloc ?_ _) | (with_reducible refine Kd.C_drewN ?_ _) | (with_reducible refine Kd.C_drew ?_))); (case side2 => exact (Kd.R_reads' HO30008.out).2.1); rintro e w20 ⟨rfl, hb⟩; refine ⟨_, rfl, ?_⟩; have n0_ := Aside0.mk (Kd.R_below (by (with_reducible repeat (first | apply Kd.R_alloc | apply Kd.R_drewN | apply Kd.R_drew)); exact HO30004.out) hb); have n1_ := Aside0.mk (Kd.R_below (by (with_reducible repeat (first | apply Kd.R_alloc | apply Kd.R_drewN | apply Kd.R_drew)); exact HO30008.out) hb); have n2_ := Aside0.mk (below_step (by repeat (first | (with_reducible first | exact HB.out | apply below_alloc | apply pw_below_drewN | apply below_drew1) | exact HB.out)) hb); clear HO30004; clear HO30008; clear HB; have HO30004 := n0_; have HO30008 := n1_; have HB := n2_; clear n0_ n1_ n2_; (try clear hb); (try clear hb2); (try clear hk); (try clear hi)) | ((with_reducible refine gate_callee (f := 11) rfl ?_); refine goesL_ (some 28) rfl rfl Tryd.func11 (by kernel_rfl) rfl #[.slice A0 l0.length c0] rfl (by (try simp only [List.map_toArray, List.map_cons, List.map_nil]); first | done | rfl | (simp only [List.length_drop, List.length_take]; rfl)) ?_; (with_reducible refine (laws_toPairS.calls k _ _ l0 t30010 _ ?side1 ?side2 A11.out).mono ?_); (case side1 => repeat (first | exact (Kd.C_below HR0.out HB.out) | (with_reducible refine Kd.C_alloc ?_ _) | (with_reducible refine Kd.C_drewN ?_ _) | (with_reducible refine Kd.C_drew ?_))); (case side2 => exact HC0.out); rintro e w21 ⟨v30011, rfl, ho0, hb⟩; refine ⟨_, rfl, ?_⟩; have n0_ := Aside0.mk (Kd.R_elder' (by (with_reducible repeat (first | apply Kd.R_alloc | apply Kd.R_drewN | apply Kd.R_drew)); exact HO30004.out) (Kd.R_base ho0) hb); have n1_ := Aside0.mk (Kd.R_elder' (by (with_reducible repeat (first | apply Kd.R_alloc | apply Kd.R_drewN | apply Kd.R_drew)); exact HO30008.out) (Kd.R_base ho0) hb); have n2_ := Aside0.mk (Kd.R_lower (Kd.R_new' (Kd.R_new' ho0 (Kd.R_lt (by (with_reducible repeat (first | apply Kd.R_alloc | apply Kd.R_drewN | apply Kd.R_drew)); exact HO30004.out))) (Kd.R_lt (by (with_reducible repeat (first | apply Kd.R_alloc | apply Kd.R_drewN | apply Kd.R_drew)); exact HO30008.out))) (below_size (by repeat (first | (with_reducible first | exact HB.out | apply below_alloc | apply pw_below_drewN | apply below_drew1) | exact HB.out)))); have n3_ := Aside0.mk (below_step (by repeat (first | (with_reducible first | exact HB.out | apply below_alloc | apply pw_below_drewN | apply below_drew1) | exact HB.out)) hb); clear HO30004; clear HO30008; clear HB; have HO30004 := n0_; have HO30008 := n1_; have HO30012 := n2_; have HB := n3_; clear n0_ n1_ n2_ n3_; (try clear hb); (try clear hb2); (try clear hk); (try clear hi); (try clear ho0); obtain ⟨Ao22, co22, eo22⟩ := Kd.R_slice HO30012.out; subst eo22) | ((with_reducible refine gate_callee (f := 13) rfl ?_); refine goesL_ (some 29) rfl rfl Tryd.func13 (by kernel_rfl) rfl #[.slice Ao19 t30006.length co19, .slice Ao22 t30010.length co22] rfl (by (try simp only [List.map_toArray, List.map_cons, List.map_nil]); first | done | rfl | (simp only [List.length_drop, List.length_take]; rfl)) ?_; (with_reducible refine (laws_eqPairS.calls k _ _ t30006 _ _ t30010 true _ ?side1 ?side2 ?side3 ?side4 A12.out).mono ?_); (case side1 => repeat (first | exact (Kd.R_reads' HO30008.out).2.2 | (with_reducible refine Kd.C_alloc ?_ _) | (with_reducible refine Kd.C_drewN ?_ _) | (with_reducible refine Kd.C_drew ?_))); (case side2 => exact (Kd.R_reads' HO30008.out).2.1); (case side3 => repeat (first | exact (Kd.R_reads' HO30012.out).2.2 | (with_reducible refine Kd.C_alloc ?_ _) | (with_reducible refine Kd.C_drewN ?_ _) | (with_reducible refine Kd.C_drew ?_))); (case side4 => exact (Kd.R_reads' HO30012.out).2.1); rintro e w23 ⟨rfl, hb⟩; refine ⟨_, rfl, ?_⟩; have n0_ := Aside0.mk (Kd.R_below (by (with_reducible repeat (first | apply Kd.R_alloc | apply Kd.R_drewN | apply Kd.R_drew)); exact HO30004.out) hb); have n1_ := Aside0.mk (Kd.R_below (by (with_reducible repeat (first | apply Kd.R_alloc | apply Kd.R_drewN | apply Kd.R_drew)); exact HO30008.out) hb); have n2_ := Aside0.mk (Kd.R_below (by (with_reducible repeat (first | apply Kd.R_alloc | apply Kd.R_drewN | apply Kd.R_drew)); exact HO30012.out) hb); have n3_ := Aside0.mk (below_step (by repeat (first | (with_reducible first | exact HB.out | apply below_alloc | apply pw_below_drewN | apply below_drew1) | exact HB.out)) hb); clear HO30004; clear HO30008; clear HO30012; clear HB; have HO30004 := n0_; have HO30008 := n1_; have HO30012 := n2_; have HB := n3_; clear n0_ n1_ n2_ n3_; (try clear hb); (try clear hb2); (try clear hk); (try clear hi)))
        go_ret
        exact ⟨by first | rfl | (simp [errW_none, errW_some] <;> rfl) | (simp [*, errW_none, errW_some] <;> rfl), by repeat (first | (with_reducible first | exact HB.out | apply below_alloc | apply pw_below_drewN | apply below_drew1) | exact HB.out)⟩
      · replace c13 := Bool.eq_false_iff.mpr c13
        subst c13
        have H1 : (some false) = some r := by rw [if_neg (show ¬ (false = true) by decide)] at H; exact H
        clear H
        have H := H1
        clear H1
        obtain rfl := Option.some.inj H
        go_enter Tryd.func3, Tryd.ntmps3
        go_wp2_with (first | ((with_reducible refine gate_callee (f := 9) rfl ?_); refine goesL_ (some 11) rfl rfl Tryd.func9 (by kernel_rfl) rfl #[.slice A0 l0.length c0, .int .i64 1048576] rfl (by (try simp only [List.map_toArray, List.map_cons, List.map_nil]); first | done | rfl | (simp only [List.length_drop, List.length_take]; rfl)) ?_; (with_reducible refine (laws_szPairS.calls k _ _ l0 1048576 t30001 _ ?side1 ?side2 A3.out).mono ?_); (case side1 => repeat (first | exact HR0.out | (with_reducible refine Kd.C_alloc ?_ _) | (with_reducible refine Kd.C_drewN ?_ _) | (with_reducible refine Kd.C_drew ?_))); (case side2 => exact HC0.out); rintro e w24 ⟨rfl, hb⟩; refine ⟨_, rfl, ?_⟩; have n0_ := Aside0.mk (below_step (by repeat (first | (with_reducible first | exact HB.out | apply below_alloc | apply pw_below_drewN | apply below_drew1) | exact HB.out)) hb); clear HB; have HB := n0_; clear n0_; (try clear hb); (try clear hb2); (try clear hk); (try clear hi)) | ((with_reducible refine gate_callee (f := 11) rfl ?_); refine goesL_ (some 15) rfl rfl Tryd.func11 (by kernel_rfl) rfl #[.slice A0 l0.length c0] rfl (by (try simp only [List.map_toArray, List.map_cons, List.map_nil]); first | done | rfl | (simp only [List.length_drop, List.length_take]; rfl)) ?_; (with_reducible refine (laws_toPairS.calls k _ _ l0 t30002 _ ?side1 ?side2 A6.out).mono ?_); (case side1 => repeat (first | exact (Kd.C_below HR0.out HB.out) | (with_reducible refine Kd.C_alloc ?_ _) | (with_reducible refine Kd.C_drewN ?_ _) | (with_reducible refine Kd.C_drew ?_))); (case side2 => exact HC0.out); rintro e w25 ⟨v30003, rfl, ho0, hb⟩; refine ⟨_, rfl, ?_⟩; have n0_ := Aside0.mk (Kd.R_lower ho0 (below_size (by repeat (first | (with_reducible first | exact HB.out | apply below_alloc | apply pw_below_drewN | apply below_drew1) | exact HB.out)))); have n1_ := Aside0.mk (below_step (by repeat (first | (with_reducible first | exact HB.out | apply below_alloc | apply pw_below_drewN | apply below_drew1) | exact HB.out)) hb); clear HB; have HO30004 := n0_; have HB := n1_; clear n0_ n1_; (try clear hb); (try clear hb2); (try clear hk); (try clear hi); (try clear ho0); obtain ⟨Ao26, co26, eo26⟩ := Kd.R_slice HO30004.out; subst eo26) | ((with_reducible refine gate_callee (f := 10) rfl ?_); refine goesL_ (some 17) rfl rfl Tryd.func10 (by kernel_rfl) rfl #[.slice Ao26 t30002.length co26, .int .i64 a1] rfl (by (try simp only [List.map_toArray, List.map_cons, List.map_nil]); first | done | rfl | (simp only [List.length_drop, List.length_take]; rfl)) ?_; (with_reducible refine (spec_Root.calls k _ _ t30002 a1 t30005 _ ?side1 ?side2 A7.out).mono ?_); (case side1 => repeat (first | exact (Kd.R_reads' HO30004.out).2.2 | (with_reducible refine Kd.C_alloc ?_ _) | (with_reducible refine Kd.C_drewN ?_ _) | (with_reducible refine Kd.C_drew ?_))); (case side2 => exact (Kd.R_reads' HO30004.out).2.1); rintro e w27 ⟨rfl, hb⟩; refine ⟨_, rfl, ?_⟩; have n0_ := Aside0.mk (Kd.R_below (by (with_reducible repeat (first | apply Kd.R_alloc | apply Kd.R_drewN | apply Kd.R_drew)); exact HO30004.out) hb); have n1_ := Aside0.mk (below_step (by repeat (first | (with_reducible first | exact HB.out | apply below_alloc | apply pw_below_drewN | apply below_drew1) | exact HB.out)) hb); clear HO30004; clear HB; have HO30004 := n0_; have HB := n1_; clear n0_ n1_; (try clear hb); (try clear hb2); (try clear hk); (try clear hi)) | ((with_reducible refine gate_callee (f := 11) rfl ?_); refine goesL_ (some 19) rfl rfl Tryd.func11 (by kernel_rfl) rfl #[.slice A0 l0.length c0] rfl (by (try simp only [List.map_toArray, List.map_cons, List.map_nil]); first | done | rfl | (simp only [List.length_drop, List.length_take]; rfl)) ?_; (with_reducible refine (laws_toPairS.calls k _ _ l0 t30006 _ ?side1 ?side2 A8.out).mono ?_); (case side1 => repeat (first | exact (Kd.C_below HR0.out HB.out) | (with_reducible refine Kd.C_alloc ?_ _) | (with_reducible refine Kd.C_drewN ?_ _) | (with_reducible refine Kd.C_drew ?_))); (case side2 => exact HC0.out); rintro e w28 ⟨v30007, rfl, ho0, hb⟩; refine ⟨_, rfl, ?_⟩; have n0_ := Aside0.mk (Kd.R_elder' (by (with_reducible repeat (first | apply Kd.R_alloc | apply Kd.R_drewN | apply Kd.R_drew)); exact HO30004.out) (Kd.R_base ho0) hb); have n1_ := Aside0.mk (Kd.R_lower (Kd.R_new' ho0 (Kd.R_lt (by (with_reducible repeat (first | apply Kd.R_alloc | apply Kd.R_drewN | apply Kd.R_drew)); exact HO30004.out))) (below_size (by repeat (first | (with_reducible first | exact HB.out | apply below_alloc | apply pw_below_drewN | apply below_drew1) | exact HB.out)))); have n2_ := Aside0.mk (below_step (by repeat (first | (with_reducible first | exact HB.out | apply below_alloc | apply pw_below_drewN | apply below_drew1) | exact HB.out)) hb); clear HO30004; clear HB; have HO30004 := n0_; have HO30008 := n1_; have HB := n2_; clear n0_ n1_ n2_; (try clear hb); (try clear hb2); (try clear hk); (try clear hi); (try clear ho0); obtain ⟨Ao29, co29, eo29⟩ := Kd.R_slice HO30008.out; subst eo29) | ((with_reducible refine gate_callee (f := 12) rfl ?_); refine goesL_ (some 22) rfl rfl Tryd.func12 (by kernel_rfl) rfl #[.slice Ao29 t30006.length co29, .int .i64 a1] rfl (by (try simp only [List.map_toArray, List.map_cons, List.map_nil]); first | done | rfl | (simp only [List.length_drop, List.length_take]; rfl)) ?_; (with_reducible refine (impl_Root.calls _ _ t30006 a1 t30009 _ ?side1 ?side2 A9.out).mono ?_); (case side1 => repeat (first | exact (Kd.R_reads' HO30008.out).2.2 | (with_reducible refine Kd.C_alloc ?_ _) | (with_reducible refine Kd.C_drewN ?_ _) | (with_reducible refine Kd.C_drew ?_))); (case side2 => exact (Kd.R_reads' HO30008.out).2.1); rintro e w30 ⟨rfl, hb⟩; refine ⟨_, rfl, ?_⟩; have n0_ := Aside0.mk (Kd.R_below (by (with_reducible repeat (first | apply Kd.R_alloc | apply Kd.R_drewN | apply Kd.R_drew)); exact HO30004.out) hb); have n1_ := Aside0.mk (Kd.R_below (by (with_reducible repeat (first | apply Kd.R_alloc | apply Kd.R_drewN | apply Kd.R_drew)); exact HO30008.out) hb); have n2_ := Aside0.mk (below_step (by repeat (first | (with_reducible first | exact HB.out | apply below_alloc | apply pw_below_drewN | apply below_drew1) | exact HB.out)) hb); clear HO30004; clear HO30008; clear HB; have HO30004 := n0_; have HO30008 := n1_; have HB := n2_; clear n0_ n1_ n2_; (try clear hb); (try clear hb2); (try clear hk); (try clear hi)) | ((with_reducible refine gate_callee (f := 11) rfl ?_); refine goesL_ (some 28) rfl rfl Tryd.func11 (by kernel_rfl) rfl #[.slice A0 l0.length c0] rfl (by (try simp only [List.map_toArray, List.map_cons, List.map_nil]); first | done | rfl | (simp only [List.length_drop, List.length_take]; rfl)) ?_; (with_reducible refine (laws_toPairS.calls k _ _ l0 t30010 _ ?side1 ?side2 A11.out).mono ?_); (case side1 => repeat (first | exact (Kd.C_below HR0.out HB.out) | (with_reducible refine Kd.C_alloc ?_ _) | (with_reducible refine Kd.C_drewN ?_ _) | (with_reducible refine Kd.C_drew ?_))); (case side2 => exact HC0.out); rintro e w31 ⟨v30011, rfl, ho0, hb⟩; refine ⟨_, rfl, ?_⟩; have n0_ := Aside0.mk (Kd.R_elder' (by (with_reducible repeat (first | apply Kd.R_alloc | apply Kd.R_drewN | apply Kd.R_drew)); exact HO30004.out) (Kd.R_base ho0) hb); have n1_ := Aside0.mk (Kd.R_elder' (by (with_reducible repeat (first | apply Kd.R_alloc | apply Kd.R_drewN | apply Kd.R_drew)); exact HO30008.out) (Kd.R_base ho0) hb); have n2_ := Aside0.mk (Kd.R_lower (Kd.R_new' (Kd.R_new' ho0 (Kd.R_lt (by (with_reducible repeat (first | apply Kd.R_alloc | apply Kd.R_drewN | apply Kd.R_drew)); exact HO30004.out))) (Kd.R_lt (by (with_reducible repeat (first | apply Kd.R_alloc | apply Kd.R_drewN | apply Kd.R_drew)); exact HO30008.out))) (below_size (by repeat (first | (with_reducible first | exact HB.out | apply below_alloc | apply pw_below_drewN | apply below_drew1) | exact HB.out)))); have n3_ := Aside0.mk (below_step (by repeat (first | (with_reducible first | exact HB.out | apply below_alloc | apply pw_below_drewN | apply below_drew1) | exact HB.out)) hb); clear HO30004; clear HO30008; clear HB; have HO30004 := n0_; have HO30008 := n1_; have HO30012 := n2_; have HB := n3_; clear n0_ n1_ n2_ n3_; (try clear hb); (try clear hb2); (try clear hk); (try clear hi); (try clear ho0); obtain ⟨Ao32, co32, eo32⟩ := Kd.R_slice HO30012.out; subst eo32) | ((with_reducible refine gate_callee (f := 13) rfl ?_); refine goesL_ (some 29) rfl rfl Tryd.func13 (by kernel_rfl) rfl #[.slice Ao29 t30006.length co29, .slice Ao32 t30010.length co32] rfl (by (try simp only [List.map_toArray, List.map_cons, List.map_nil]); first | done | rfl | (simp only [List.length_drop, List.length_take]; rfl)) ?_; (with_reducible refine (laws_eqPairS.calls k _ _ t30006 _ _ t30010 false _ ?side1 ?side2 ?side3 ?side4 A12.out).mono ?_); (case side1 => repeat (first | exact (Kd.R_reads' HO30008.out).2.2 | (with_reducible refine Kd.C_alloc ?_ _) | (with_reducible refine Kd.C_drewN ?_ _) | (with_reducible refine Kd.C_drew ?_))); (case side2 => exact (Kd.R_reads' HO30008.out).2.1); (case side3 => repeat (first | exact (Kd.R_reads' HO30012.out).2.2 | (with_reducible refine Kd.C_alloc ?_ _) | (with_reducible refine Kd.C_drewN ?_ _) | (with_reducible refine Kd.C_drew ?_))); (case side4 => exact (Kd.R_reads' HO30012.out).2.1); rintro e w33 ⟨rfl, hb⟩; refine ⟨_, rfl, ?_⟩; have n0_ := Aside0.mk (Kd.R_below (by (with_reducible repeat (first | apply Kd.R_alloc | apply Kd.R_drewN | apply Kd.R_drew)); exact HO30004.out) hb); have n1_ := Aside0.mk (Kd.R_below (by (with_reducible repeat (first | apply Kd.R_alloc | apply Kd.R_drewN | apply Kd.R_drew)); exact HO30008.out) hb); have n2_ := Aside0.mk (Kd.R_below (by (with_reducible repeat (first | apply Kd.R_alloc | apply Kd.R_drewN | apply Kd.R_drew)); exact HO30012.out) hb); have n3_ := Aside0.mk (below_step (by repeat (first | (with_reducible first | exact HB.out | apply below_alloc | apply pw_below_drewN | apply below_drew1) | exact HB.out)) hb); clear HO30004; clear HO30008; clear HO30012; clear HB; have HO30004 := n0_; have HO30008 := n1_; have HO30012 := n2_; have HB := n3_; clear n0_ n1_ n2_ n3_; (try clear hb); (try clear hb2); (try clear hk); (try clear hi)))
        go_ret
        exact ⟨by first | rfl | (simp [errW_none, errW_some] <;> rfl) | (simp [*, errW_none, errW_some] <;> rfl), by repeat (first | (with_reducible first | exact HB.out | apply below_alloc | apply pw_below_drewN | apply below_drew1) | exact HB.out)⟩
    · rw [if_neg c10] at H
      have c10b0 : (t30009.toList == t30005.toList) = false := beq_eq_false_iff_ne.mpr c10
      have c10b1 : (t30009.toList != t30005.toList) = true := bne_iff_ne.mpr c10
      obtain rfl := Option.some.inj H
      go_enter Tryd.func3, Tryd.ntmps3
      go_wp2_with (first | ((with_reducible refine gate_callee (f := 9) rfl ?_); refine goesL_ (some 11) rfl rfl Tryd.func9 (by kernel_rfl) rfl #[.slice A0 l0.length c0, .int .i64 1048576] rfl (by (try simp only [List.map_toArray, List.map_cons, List.map_nil]); first | done | rfl | (simp only [List.length_drop, List.length_take]; rfl)) ?_; (with_reducible refine (laws_szPairS.calls k _ _ l0 1048576 t30001 _ ?side1 ?side2 A3.out).mono ?_); (case side1 => repeat (first | exact HR0.out | (with_reducible refine Kd.C_alloc ?_ _) | (with_reducible refine Kd.C_drewN ?_ _) | (with_reducible refine Kd.C_drew ?_))); (case side2 => exact HC0.out); rintro e w34 ⟨rfl, hb⟩; refine ⟨_, rfl, ?_⟩; have n0_ := Aside0.mk (below_step (by repeat (first | (with_reducible first | exact HB.out | apply below_alloc | apply pw_below_drewN | apply below_drew1) | exact HB.out)) hb); clear HB; have HB := n0_; clear n0_; (try clear hb); (try clear hb2); (try clear hk); (try clear hi)) | ((with_reducible refine gate_callee (f := 11) rfl ?_); refine goesL_ (some 15) rfl rfl Tryd.func11 (by kernel_rfl) rfl #[.slice A0 l0.length c0] rfl (by (try simp only [List.map_toArray, List.map_cons, List.map_nil]); first | done | rfl | (simp only [List.length_drop, List.length_take]; rfl)) ?_; (with_reducible refine (laws_toPairS.calls k _ _ l0 t30002 _ ?side1 ?side2 A6.out).mono ?_); (case side1 => repeat (first | exact (Kd.C_below HR0.out HB.out) | (with_reducible refine Kd.C_alloc ?_ _) | (with_reducible refine Kd.C_drewN ?_ _) | (with_reducible refine Kd.C_drew ?_))); (case side2 => exact HC0.out); rintro e w35 ⟨v30003, rfl, ho0, hb⟩; refine ⟨_, rfl, ?_⟩; have n0_ := Aside0.mk (Kd.R_lower ho0 (below_size (by repeat (first | (with_reducible first | exact HB.out | apply below_alloc | apply pw_below_drewN | apply below_drew1) | exact HB.out)))); have n1_ := Aside0.mk (below_step (by repeat (first | (with_reducible first | exact HB.out | apply below_alloc | apply pw_below_drewN | apply below_drew1) | exact HB.out)) hb); clear HB; have HO30004 := n0_; have HB := n1_; clear n0_ n1_; (try clear hb); (try clear hb2); (try clear hk); (try clear hi); (try clear ho0); obtain ⟨Ao36, co36, eo36⟩ := Kd.R_slice HO30004.out; subst eo36) | ((with_reducible refine gate_callee (f := 10) rfl ?_); refine goesL_ (some 17) rfl rfl Tryd.func10 (by kernel_rfl) rfl #[.slice Ao36 t30002.length co36, .int .i64 a1] rfl (by (try simp only [List.map_toArray, List.map_cons, List.map_nil]); first | done | rfl | (simp only [List.length_drop, List.length_take]; rfl)) ?_; (with_reducible refine (spec_Root.calls k _ _ t30002 a1 t30005 _ ?side1 ?side2 A7.out).mono ?_); (case side1 => repeat (first | exact (Kd.R_reads' HO30004.out).2.2 | (with_reducible refine Kd.C_alloc ?_ _) | (with_reducible refine Kd.C_drewN ?_ _) | (with_reducible refine Kd.C_drew ?_))); (case side2 => exact (Kd.R_reads' HO30004.out).2.1); rintro e w37 ⟨rfl, hb⟩; refine ⟨_, rfl, ?_⟩; have n0_ := Aside0.mk (Kd.R_below (by (with_reducible repeat (first | apply Kd.R_alloc | apply Kd.R_drewN | apply Kd.R_drew)); exact HO30004.out) hb); have n1_ := Aside0.mk (below_step (by repeat (first | (with_reducible first | exact HB.out | apply below_alloc | apply pw_below_drewN | apply below_drew1) | exact HB.out)) hb); clear HO30004; clear HB; have HO30004 := n0_; have HB := n1_; clear n0_ n1_; (try clear hb); (try clear hb2); (try clear hk); (try clear hi)) | ((with_reducible refine gate_callee (f := 11) rfl ?_); refine goesL_ (some 19) rfl rfl Tryd.func11 (by kernel_rfl) rfl #[.slice A0 l0.length c0] rfl (by (try simp only [List.map_toArray, List.map_cons, List.map_nil]); first | done | rfl | (simp only [List.length_drop, List.length_take]; rfl)) ?_; (with_reducible refine (laws_toPairS.calls k _ _ l0 t30006 _ ?side1 ?side2 A8.out).mono ?_); (case side1 => repeat (first | exact (Kd.C_below HR0.out HB.out) | (with_reducible refine Kd.C_alloc ?_ _) | (with_reducible refine Kd.C_drewN ?_ _) | (with_reducible refine Kd.C_drew ?_))); (case side2 => exact HC0.out); rintro e w38 ⟨v30007, rfl, ho0, hb⟩; refine ⟨_, rfl, ?_⟩; have n0_ := Aside0.mk (Kd.R_elder' (by (with_reducible repeat (first | apply Kd.R_alloc | apply Kd.R_drewN | apply Kd.R_drew)); exact HO30004.out) (Kd.R_base ho0) hb); have n1_ := Aside0.mk (Kd.R_lower (Kd.R_new' ho0 (Kd.R_lt (by (with_reducible repeat (first | apply Kd.R_alloc | apply Kd.R_drewN | apply Kd.R_drew)); exact HO30004.out))) (below_size (by repeat (first | (with_reducible first | exact HB.out | apply below_alloc | apply pw_below_drewN | apply below_drew1) | exact HB.out)))); have n2_ := Aside0.mk (below_step (by repeat (first | (with_reducible first | exact HB.out | apply below_alloc | apply pw_below_drewN | apply below_drew1) | exact HB.out)) hb); clear HO30004; clear HB; have HO30004 := n0_; have HO30008 := n1_; have HB := n2_; clear n0_ n1_ n2_; (try clear hb); (try clear hb2); (try clear hk); (try clear hi); (try clear ho0); obtain ⟨Ao39, co39, eo39⟩ := Kd.R_slice HO30008.out; subst eo39) | ((with_reducible refine gate_callee (f := 12) rfl ?_); refine goesL_ (some 22) rfl rfl Tryd.func12 (by kernel_rfl) rfl #[.slice Ao39 t30006.length co39, .int .i64 a1] rfl (by (try simp only [List.map_toArray, List.map_cons, List.map_nil]); first | done | rfl | (simp only [List.length_drop, List.length_take]; rfl)) ?_; (with_reducible refine (impl_Root.calls _ _ t30006 a1 t30009 _ ?side1 ?side2 A9.out).mono ?_); (case side1 => repeat (first | exact (Kd.R_reads' HO30008.out).2.2 | (with_reducible refine Kd.C_alloc ?_ _) | (with_reducible refine Kd.C_drewN ?_ _) | (with_reducible refine Kd.C_drew ?_))); (case side2 => exact (Kd.R_reads' HO30008.out).2.1); rintro e w40 ⟨rfl, hb⟩; refine ⟨_, rfl, ?_⟩; have n0_ := Aside0.mk (Kd.R_below (by (with_reducible repeat (first | apply Kd.R_alloc | apply Kd.R_drewN | apply Kd.R_drew)); exact HO30004.out) hb); have n1_ := Aside0.mk (Kd.R_below (by (with_reducible repeat (first | apply Kd.R_alloc | apply Kd.R_drewN | apply Kd.R_drew)); exact HO30008.out) hb); have n2_ := Aside0.mk (below_step (by repeat (first | (with_reducible first | exact HB.out | apply below_alloc | apply pw_below_drewN | apply below_drew1) | exact HB.out)) hb); clear HO30004; clear HO30008; clear HB; have HO30004 := n0_; have HO30008 := n1_; have HB := n2_; clear n0_ n1_ n2_; (try clear hb); (try clear hb2); (try clear hk); (try clear hi)))
      go_ret
      exact ⟨by first | rfl | (simp [errW_none, errW_some] <;> rfl) | (simp [*, errW_none, errW_some] <;> rfl), by repeat (first | (with_reducible first | exact HB.out | apply below_alloc | apply pw_below_drewN | apply below_drew1) | exact HB.out)⟩
end Go.Proofs.YthnnphinfiobmaaDoor.Z
end
section
namespace Go.Proofs.YthnnphinfiobmaaDoor.Z
open Go.RowKit Go.Proofs.YthnnphinfiobmaaDoor
set_option linter.unusedVariables false
set_option linter.unusedSimpArgs false
theorem spec_NodeHash_f (a b c d : ByteArray) (x : Int) (k : Nat) (hk : 5000 < k) : spec_NodeHash.f k a b c d x = some (nodeHashV a b c d x) := by
  have hle := encNode_size_le a b c d x
  unfold spec_NodeHash.f spec_EncodeNode.f nodeHashV
  rw [Option.bind_some]
  by_cases h0 : (encNode a b c d x).size = 0
  · rw [if_pos (by omega), if_pos h0]
  · rw [if_neg (by omega), if_neg h0]
    have hs : (nText (encNode a b c d x)).size = 1 + (encNode a b c d x).size := by unfold nText; rw [ByteArray.size_append]; rfl
    have e : spec_l2Text.f (encNode a b c d x) = some (nText (encNode a b c d x)) := by unfold spec_l2Text.f; rw [if_pos (by omega)]; rfl
    rw [e, Option.bind_some, spec_Digest_f _ _ (by omega) _ (by omega), Option.bind_some]
theorem nodeHash_ok {a b c d : ByteArray} {x : Int} (h : nodeOk a b c d x = true) : nodeHashV a b c d x = (shaV (nText (encNode a b c d x))).extract 0 x.toNat := by
  have hw : widB x = true := by
    unfold nodeOk isW at h
    simp only [Bool.and_eq_true, decide_eq_true_eq] at h
    unfold widB; rw [decide_eq_true_eq]; omega
  have hs : (encNode a b c d x).size ≠ 0 := by
    unfold encNode
    rw [if_pos h]
    simp only [ByteArray.size_append, sizedS_size, byteS_size]
    omega
  unfold nodeHashV
  rw [if_neg hs, digV_yes hw]
end Go.Proofs.YthnnphinfiobmaaDoor.Z
end
section
namespace Go.Proofs.YthnnphinfiobmaaDoor.Z
open Go.RowKit Go.Proofs.YthnnphinfiobmaaDoor Go.Proofs.YthnnphinfiobmaaDoorW.PrintWords Go.Proofs.YthnnphinfiobmaaDoorW.PrintLast
set_option linter.unusedVariables false
set_option linter.unusedSimpArgs false
theorem l4PairOk_f (k v : ByteArray) : spec_l4PairOk.f k v = some (pairOk k v) := by
  unfold spec_l4PairOk.f pairOk
  by_cases h1 : 1 ≤ k.size
  · rw [if_pos (by omega), decide_eq_true h1]
    by_cases h2 : k.size ≤ 256
    · rw [if_pos (by omega), decide_eq_true h2]
      refine congrArg some ?_
      rw [Bool.true_and, Bool.true_and, decide_eq_decide]; omega
    · rw [if_neg (by omega), decide_eq_false h2]; rfl
  · rw [if_neg (by omega), decide_eq_false h1]; rfl
def keysOk (l : List S65) : Prop := ∀ p ∈ l, p.f0.size ≤ 1048576
theorem keysOk_get {l : List S65} (h : keysOk l) (i : Nat) (hi : i < l.length) : (l.getD i zP).f0.size ≤ 1048576 := by
  rw [List.getD_eq_getElem?_getD, List.getElem?_eq_getElem hi]; exact h _ (List.getElem_mem _)
theorem l4MapOk_loop (l : List S65) (hl : l.length ≤ 500) (hs : keysOk l) : ∀ (d i k : Nat), l.length = i + d → d + 2100000 < k → spec_l4MapOk.l0 k l (i : Int) = some (okD l i d) := by
  intro d
  induction d with
  | zero =>
    intro i k h hk
    obtain ⟨k, rfl⟩ : ∃ j, k = j + 1 := ⟨k - 1, by omega⟩
    simp only [spec_l4MapOk.l0]
    rw [if_neg (by omega)]; rfl
  | succ d ih =>
    intro i k h hk
    obtain ⟨k, rfl⟩ : ∃ j, k = j + 1 := ⟨k - 1, by omega⟩
    simp only [spec_l4MapOk.l0]
    rw [if_pos (by omega), if_pos (by omega), rdP l i (by omega), l4PairOk_f, Option.bind_some]
    rw [okD, okAt]
    cases hp : pairOk (l.getD i zP).f0 (l.getD i zP).f1
    · rw [if_neg (by decide)]; rfl
    rw [if_pos rfl, show wrap64 ((i : Int) + 1) = ((i + 1 : Nat) : Int) from wN (by omega) (by omega), ih (i + 1) k (by omega) (by omega)]
    by_cases h0 : i = 0
    · rw [if_neg (by omega), decide_eq_true h0]; rfl
    · have hk1 := keysOk_get hs (i - 1) (by omega)
      rw [if_pos (by omega), show wrap64 ((i : Int) - 1) = ((i - 1 : Nat) : Int) from wN (by omega) (by omega), if_pos (by omega), if_pos (by omega), rdP l (i - 1) (by omega), decide_eq_false h0, spec_l1Less_f _ _ (by omega) k (by omega), Option.bind_some]
      cases Op.bytesLess (l.getD (i - 1) zP).f0.toList (l.getD i zP).f0.toList <;> rfl
theorem l4MapOk_f (l : List S65) (hs : keysOk l) (k : Nat) (hk : 2101000 < k) : spec_l4MapOk.f k l = some (mapOk l) := by
  unfold spec_l4MapOk.f mapOk
  by_cases h : l.length ≤ 500
  · rw [if_neg (by omega), decide_eq_true h]
    exact l4MapOk_loop l h hs l.length 0 k (by omega) (by omega)
  · rw [if_pos (by omega), decide_eq_false h]; rfl
theorem less_irr0 : ∀ x : List UInt8, Op.bytesLess x x = false
  | [] => rfl
  | a :: r => by simp [Op.bytesLess, less_irr0 r]
theorem l4Top_loop (l : List S65) (hl : l.length ≤ 1048576) (hs : keysOk l) : ∀ (d i t k : Nat), l.length = i + d → t < l.length → d + 2100000 < k → spec_l4Top.l0 k l (t : Int) (shaV (l.getD t zP).f0) (i : Int) = some ((bestF abP (l.getD t zP) t i (l.drop i)).2 : Int) := by
  intro d
  induction d with
  | zero =>
    intro i t k h ht hk
    obtain ⟨k, rfl⟩ : ∃ j, k = j + 1 := ⟨k - 1, by omega⟩
    simp only [spec_l4Top.l0]
    rw [if_neg (by omega), List.drop_of_length_le (by omega)]; rfl
  | succ d ih =>
    intro i t k h ht hk
    obtain ⟨k, rfl⟩ : ∃ j, k = j + 1 := ⟨k - 1, by omega⟩
    simp only [spec_l4Top.l0]
    have hi := keysOk_get hs i (by omega)
    have hd : l.drop i = l.getD i zP :: l.drop (i + 1) := by
      rw [List.drop_eq_getElem_cons (by omega), List.getD_eq_getElem?_getD, List.getElem?_eq_getElem (by omega)]; rfl
    rw [if_pos (by omega), if_pos (by omega), rdP l i (by omega), rdP l t ht, spec_Sha256_f _ (by omega) k (by omega), Option.bind_some, spec_l1Less_f _ _ (by rw [shaV_size]; omega) k (by rw [shaV_size]; omega), Option.bind_some, hd, bestF, show abP (l.getD i zP) (l.getD t zP) = highB (l.getD i zP).f0 (l.getD t zP).f0 from rfl, highB_eq]
    rw [wN (n := i + 1) (by omega) (by omega), ih (i + 1) i k (by omega) (by omega) (by omega), ih (i + 1) t k (by omega) ht (by omega), spec_l1Less_f _ _ (by omega) k (by omega), if_pos (show (0 : Int) ≤ (t : Int) by omega), if_pos (show (t : Int) < (l.length : Int) by omega), Option.bind_some]
    by_cases he : (shaV (l.getD i zP).f0).toList = (shaV (l.getD t zP).f0).toList
    · rw [if_pos he, if_pos he, ← he, less_irr0, if_neg (by decide)]
      split <;> rfl
    · rw [if_neg he, if_neg he]
      split <;> rfl
theorem l4Top_f (a : S65) (r : List S65) (hl : (a :: r).length ≤ 1048576) (hs : keysOk (a :: r)) (k : Nat) (hk : (a :: r).length + 2100000 < k) : spec_l4Top.f k (a :: r) = some ((bestF abP a 0 1 r).2 : Int) := by
  unfold spec_l4Top.f
  have h0 := hs a (by simp)
  have hz : rd_T65 (a :: r) 0 = a := rdP (a :: r) 0 (by simp)
  rw [if_pos (by rw [List.length_cons]; omega), hz, spec_Sha256_f _ (by omega) k (by omega), Option.bind_some]
  have h := l4Top_loop (a :: r) hl hs r.length 1 0 k (by rw [List.length_cons]; omega) (by simp) (by rw [List.length_cons] at hk; omega)
  simpa using h
def encsSh (W : Int) : Sh S65 → List ByteArray
  | .nil => []
  | .node p l r => encsSh W l ++ encsSh W r ++ [encNode p.f0 p.f1 (hashSh W l) (hashSh W r) W]
theorem encsSh_length (W : Int) : ∀ t : Sh S65, (encsSh W t).length = t.list.length
  | .nil => rfl
  | .node p l r => by simp only [encsSh, Sh.list, List.length_append, List.length_cons, List.length_nil, encsSh_length W l, encsSh_length W r]; omega
theorem cart_list : ∀ (n : Nat) (l : List S65), l.length ≤ n → (cart abP l).list = l
  | _, [], _ => rfl
  | 0, a :: r, h => by rw [List.length_cons] at h; omega
  | n + 1, a :: r, h => by
    have hb := bestF_lt abP a r
    have hg := bestF_get abP a r
    rw [List.length_cons] at h hb
    rw [cart_cons, Sh.list, cart_list n _ (by rw [List.length_take, List.length_cons]; omega), cart_list n _ (by rw [List.length_drop, List.length_cons]; omega)]
    have hx : (a :: r)[(bestF abP a 0 1 r).2]'(by rw [List.length_cons]; omega) = (bestF abP a 0 1 r).1 := by
      rw [List.getElem?_eq_getElem (by rw [List.length_cons]; omega)] at hg
      exact Option.some.inj hg
    rw [← hx, ← List.drop_eq_getElem_cons, List.take_append_drop]
theorem hashSh_ok (W : Nat) (hW : W ≤ 32) (t : Sh S65) : hOk (hashSh W t) W = true := by
  unfold hOk
  cases t with
  | nil => rfl
  | node p l r =>
    rw [hashSh, Int.toNat_natCast, ByteArray.size_extract, shaV_size]
    simp only [Bool.or_eq_true, decide_eq_true_eq]
    omega
theorem l4Encs_loop (W : Int) (p : S65) (lh rh : ByteArray) (R : List ByteArray) (hR : R.length ≤ 1048576) : ∀ (d i k : Nat) (acc : List ByteArray), R.length = i + d → d + 5001 < k → acc.length + d ≤ 2097152 →
    spec_l4Encs.l0 k W acc R (i : Int) p.f0 p.f1 lh rh = some (acc ++ R.drop i ++ [encNode p.f0 p.f1 lh rh W], nodeHashV p.f0 p.f1 lh rh W) := by
  intro d
  induction d with
  | zero =>
    intro i k acc h hk ha
    obtain ⟨k, rfl⟩ : ∃ j, k = j + 1 := ⟨k - 1, by omega⟩
    simp only [spec_l4Encs.l0]
    rw [if_neg (by omega), List.drop_of_length_le (by omega), List.append_nil]
    unfold spec_EncodeNode.f
    rw [Option.bind_some, if_pos (by omega), spec_NodeHash_f _ _ _ _ _ _ (by omega), Option.bind_some]
  | succ d ih =>
    intro i k acc h hk ha
    obtain ⟨k, rfl⟩ : ∃ j, k = j + 1 := ⟨k - 1, by omega⟩
    simp only [spec_l4Encs.l0]
    have hd : R.drop i = R[i] :: R.drop (i + 1) := List.drop_eq_getElem_cons (by omega)
    rw [if_pos (by omega), if_pos (by omega), if_pos (by omega), wN (n := i + 1) (by omega) (by omega), rd_at _ R _ (by omega), ih (i + 1) k _ (by omega) (by omega) (by rw [List.length_append, List.length_singleton]; omega), hd]
    simp
theorem l4Encs_f (W : Nat) (hW1 : 1 ≤ W) (hW2 : W ≤ 32) : ∀ (n : Nat) (l : List S65) (k : Nat), l.length ≤ n → l.length ≤ 500 → (∀ p ∈ l, 1 ≤ p.f0.size ∧ p.f0.size ≤ 256 ∧ p.f1.size ≤ 2000) → 2200000 + l.length < k →
    spec_l4Encs.f k l W = some (encsSh W (cart abP l), hashSh W (cart abP l))
  | n, [], k, _, _, _, hk => by
    obtain ⟨k, rfl⟩ : ∃ j, k = j + 1 := ⟨k - 1, by omega⟩
    simp only [spec_l4Encs.f]
    rw [if_pos (by rfl)]; rfl
  | 0, a :: r, k, h, _, _, _ => by rw [List.length_cons] at h; omega
  | n + 1, a :: r, k, hn, hl, hp, hk => by
    obtain ⟨k, rfl⟩ : ∃ j, k = j + 1 := ⟨k - 1, by omega⟩
    have hb := bestF_lt abP a r
    have hg := bestF_get abP a r
    have hks : keysOk (a :: r) := fun p h => by have := hp p h; omega
    have hb' : (bestF abP a 0 1 r).2 ≤ r.length := by rw [List.length_cons] at hb; omega
    have hn' : r.length ≤ n := by rw [List.length_cons] at hn; omega
    have hc : (a :: r).length = r.length + 1 := List.length_cons
    simp only [spec_l4Encs.f]
    rw [if_neg (by rw [List.length_cons]; omega), l4Top_f a r (by omega) hks k (by omega), Option.bind_some, if_pos (by omega), if_pos (by omega), Int.toNat_natCast]
    rw [l4Encs_f W hW1 hW2 n _ k (by rw [List.length_take]; omega) (by rw [List.length_take]; omega) (fun p h => hp p (List.mem_of_mem_take h)) (by rw [List.length_take]; omega), Option.bind_some]
    rw [wN (n := (bestF abP a 0 1 r).2 + 1) (by omega) (by omega), if_pos (by omega), if_pos (by omega), Int.toNat_natCast]
    rw [l4Encs_f W hW1 hW2 n _ k (by rw [List.length_drop]; omega) (by rw [List.length_drop]; omega) (fun p h => hp p (List.mem_of_mem_drop h)) (by rw [List.length_drop]; omega), Option.bind_some]
    rw [if_pos (by omega), rd_pair _ _ hb]
    have hx : (a :: r)[(bestF abP a 0 1 r).2] = (bestF abP a 0 1 r).1 := by
      rw [List.getElem?_eq_getElem hb] at hg
      exact Option.some.inj hg
    have hmem := hp _ (List.getElem_mem hb)
    rw [hx] at hmem ⊢
    dsimp only
    have e1 : (encsSh W (cart abP (List.take (bestF abP a 0 1 r).2 (a :: r)))).length ≤ 500 := by rw [encsSh_length, cart_list _ _ (Nat.le_refl _), List.length_take]; omega
    have e2 : (encsSh W (cart abP (List.drop ((bestF abP a 0 1 r).2 + 1) (a :: r)))).length ≤ 500 := by rw [encsSh_length, cart_list _ _ (Nat.le_refl _), List.length_drop]; omega
    rw [show (0 : Int) = ((0 : Nat) : Int) from rfl, l4Encs_loop W _ _ _ _ (by omega) (encsSh W (cart abP (List.drop ((bestF abP a 0 1 r).2 + 1) (a :: r)))).length 0 k _ (by omega) (by omega) (by omega), List.drop_zero, cart_cons, encsSh, hashSh]
    rw [nodeHash_ok]
    unfold nodeOk isW
    rw [hashSh_ok W hW2, hashSh_ok W hW2]
    simp only [Bool.and_eq_true, decide_eq_true_eq, Bool.and_true]
    omega
theorem spec_Root_f (l : List S65) (W : Int) (hs : keysOk l) (k : Nat) (hk : 2300000 < k) : spec_Root.f k l W = some (rootR l W) := by
  unfold spec_Root.f rootR
  rw [l4MapOk_f l hs k (by omega), Option.bind_some]
  cases hm : mapOk l
  · rw [if_neg (by decide), if_neg (by simp)]
  rw [if_pos rfl, l1Width_f, Option.bind_some]
  have hp := mapOk_pair hm
  cases hw : isW W
  · rw [if_neg (fun g => by unfold widB at g; unfold isW at hw; simp at g hw; omega), if_neg (by simp)]
  · have hw2 := hw
    unfold isW at hw2
    simp only [Bool.and_eq_true, decide_eq_true_eq] at hw2
    obtain ⟨n, rfl⟩ : ∃ n : Nat, W = (n : Int) := ⟨W.toNat, by omega⟩
    rw [if_pos (by unfold widB; rw [decide_eq_true_eq]; omega), l4Encs_f n (by omega) (by omega) l.length l k (Nat.le_refl _) hp.1 hp.2 (by omega), Option.bind_some, if_pos ⟨rfl, rfl⟩]
end Go.Proofs.YthnnphinfiobmaaDoor.Z
end
section
namespace Go.Proofs.YthnnphinfiobmaaDoor.Z
open Go.RowKit Go.Proofs.YthnnphinfiobmaaDoor Go.Proofs.YthnnphinfiobmaaDoorW.PrintWords Go.Proofs.YthnnphinfiobmaaDoorW.PrintLast
set_option linter.unusedVariables false
set_option linter.unusedSimpArgs false
def toPr (p : S60) : S65 := ⟨p.f0, p.f1⟩
theorem rdL_at (l : List S60) (i : Nat) (h : i < l.length) : rd_T60 l (i : Int) = l[i] := by
  unfold rd_T60; rw [Int.toNat_natCast, List.getD_eq_getElem?_getD, List.getElem?_eq_getElem h]; rfl
theorem toPairS_loop (l : List S60) (hl : l.length ≤ 4294967296) : ∀ (d i k : Nat), l.length = i + d → d < k → laws_toPairS.l0 k l ((l.take i).map toPr ++ List.replicate (l.length - i) z65) (i : Int) = some (l.map toPr) := by
  intro d
  induction d with
  | zero =>
    intro i k h hk
    obtain ⟨k, rfl⟩ : ∃ j, k = j + 1 := ⟨k - 1, by omega⟩
    simp only [laws_toPairS.l0]
    rw [if_neg (by omega), List.take_of_length_le (by omega), show l.length - i = 0 by omega, List.replicate_zero, List.append_nil]
  | succ d ih =>
    intro i k h hk
    obtain ⟨k, rfl⟩ : ∃ j, k = j + 1 := ⟨k - 1, by omega⟩
    simp only [laws_toPairS.l0]
    have hL : ((l.take i).map toPr ++ List.replicate (l.length - i) z65).length = l.length := by rw [List.length_append, List.length_map, List.length_take, List.length_replicate]; omega
    rw [if_pos (by omega), if_pos (by omega), rdL_at l i (by omega)]
    unfold laws_toPair.f
    rw [Option.bind_some, if_pos (by rw [hL]; omega), Int.toNat_natCast, wN (n := i + 1) (by omega) (by omega)]
    have := ih (i + 1) k (by omega) (by omega)
    rw [show (l.take (i + 1)).map toPr ++ List.replicate (l.length - (i + 1)) z65 = ((l.take i).map toPr ++ List.replicate (l.length - i) z65).set i (toPr l[i]) by
      rw [List.set_append_right _ _ (by rw [List.length_map, List.length_take]; omega), List.length_map, List.length_take, Nat.min_eq_left (by omega), Nat.sub_self, show l.length - i = (l.length - (i + 1)) + 1 by omega, List.replicate_succ, List.set_cons_zero, List.take_succ_eq_append_getElem (by omega), List.map_append, List.append_assoc]
      rfl] at this
    exact this
theorem toPairS_f (l : List S60) (hl : l.length ≤ 4294967296) (k : Nat) (hk : l.length < k) : laws_toPairS.f k l = some (l.map toPr) := by
  unfold laws_toPairS.f
  rw [if_pos (by omega), if_pos (by omega), Int.toNat_natCast]
  have := toPairS_loop l hl l.length 0 k (by omega) hk
  rw [List.take_zero, List.map_nil, List.nil_append, Nat.sub_zero] at this
  exact this
theorem szPair_f (a b : ByteArray) (ha : a.size ≤ 9223372036854775807) (hb : b.size ≤ 9223372036854775807) (x : Int) (h0 : 0 ≤ x) (h1 : x ≤ 1048576) : ∃ t, laws_szPair.f a b x = some t ∧ t ≤ x ∧ (0 ≤ t → (a.size : Int) + (b.size : Int) ≤ x ∧ t = x - (a.size : Int) - (b.size : Int)) := by
  unfold laws_szPair.f
  obtain ⟨n, hn⟩ : ∃ n : Nat, a.size = n := ⟨_, rfl⟩
  obtain ⟨m, hm⟩ : ∃ m : Nat, b.size = m := ⟨_, rfl⟩
  rw [hn] at ha ⊢
  rw [hm] at hb ⊢
  rw [show wrap64 (x - (n : Int)) = x - (n : Int) by unfold wrap64; omega]
  by_cases h2 : x - (n : Int) < 0
  · rw [if_pos h2]; exact ⟨-1, rfl, by omega, fun h => by omega⟩
  · rw [if_neg h2, show wrap64 (x - (n : Int) - (m : Int)) = x - (n : Int) - (m : Int) by unfold wrap64; omega]
    by_cases h3 : x - (n : Int) - (m : Int) < 0
    · rw [if_pos h3]; exact ⟨-1, rfl, by omega, fun h => by omega⟩
    · rw [if_neg h3]; exact ⟨_, rfl, by omega, fun _ => ⟨by omega, rfl⟩⟩
theorem szPairS_loop (l : List S60) (hs : ∀ p ∈ l, p.f0.size ≤ 9223372036854775807 ∧ p.f1.size ≤ 9223372036854775807) : ∀ (d i k : Nat) (a : Int), l.length = i + d → d < k → 0 ≤ a → a ≤ 1048576 → l.length ≤ 4294967296 →
    ∃ t, laws_szPairS.l0 k l a (i : Int) = some t ∧ t ≤ a ∧ (0 ≤ t → ∀ j (h : j < l.length), i ≤ j → (l[j].f0.size : Int) ≤ a ∧ (l[j].f1.size : Int) ≤ a) := by
  intro d
  induction d with
  | zero =>
    intro i k a h hk h0 h1 hl
    obtain ⟨k, rfl⟩ : ∃ j, k = j + 1 := ⟨k - 1, by omega⟩
    refine ⟨a, ?_, by omega, fun _ j hj hij => by omega⟩
    simp only [laws_szPairS.l0]
    rw [if_neg (by omega)]
  | succ d ih =>
    intro i k a h hk h0 h1 hl
    obtain ⟨k, rfl⟩ : ∃ j, k = j + 1 := ⟨k - 1, by omega⟩
    simp only [laws_szPairS.l0]
    have hsi := hs l[i] (List.getElem_mem _)
    rw [if_pos (by omega), if_pos (by omega), rdL_at _ _ (by omega)]
    obtain ⟨t, h2, h3, h4⟩ := szPair_f l[i].f0 l[i].f1 hsi.1 hsi.2 a h0 h1
    rw [h2, Option.bind_some]
    by_cases hn : t < 0
    · rw [if_pos hn]
      exact ⟨-1, rfl, by omega, fun h => by omega⟩
    · obtain ⟨h5, h6⟩ := h4 (by omega)
      rw [if_neg hn, wN (n := i + 1) (by omega) (by omega)]
      obtain ⟨u, h7, h8, h9⟩ := ih (i + 1) k t (by omega) (by omega) (by omega) (by omega) hl
      refine ⟨u, h7, by omega, fun ht j hj hij => ?_⟩
      rcases Nat.eq_or_lt_of_le hij with e | e
      · subst e; omega
      · have := h9 ht j hj (by omega); omega
theorem szPairS_f (l : List S60) (hs : ∀ p ∈ l, p.f0.size ≤ 9223372036854775807 ∧ p.f1.size ≤ 9223372036854775807) (hl : l.length ≤ 9223372036854775807) (a : Int) (h0 : 0 ≤ a) (h1 : a ≤ 1048576) (k : Nat) (hk : 1048577 < k) :
    ∃ t, laws_szPairS.f k l a = some t ∧ (0 ≤ t → t ≤ a ∧ (l.length : Int) ≤ a ∧ ∀ p ∈ l, (p.f0.size : Int) ≤ a ∧ (p.f1.size : Int) ≤ a) := by
  unfold laws_szPairS.f
  have hw : wrap64 (a - (l.length : Int)) = a - (l.length : Int) := by unfold wrap64; omega
  rw [hw]
  by_cases hn : a - (l.length : Int) < 0
  · rw [if_pos hn]; exact ⟨-1, rfl, fun h => by omega⟩
  · rw [if_neg hn]
    obtain ⟨t, h3, h4, h5⟩ := szPairS_loop l hs l.length 0 k (a - l.length) (by omega) (by omega) (by omega) (by omega) (by omega)
    refine ⟨t, h3, fun ht => ⟨by omega, by omega, fun p hp => ?_⟩⟩
    obtain ⟨j, hj, rfl⟩ := List.getElem_of_mem hp
    have := h5 ht j hj (by omega)
    omega
theorem eqPairS_loop (l : List S65) (hl : l.length ≤ 4294967296) : ∀ (d i k : Nat), l.length = i + d → d < k → laws_eqPairS.l0 k l l (i : Int) = some true := by
  intro d
  induction d with
  | zero =>
    intro i k h hk
    obtain ⟨k, rfl⟩ : ∃ j, k = j + 1 := ⟨k - 1, by omega⟩
    simp only [laws_eqPairS.l0]
    rw [if_neg (by omega)]
  | succ d ih =>
    intro i k h hk
    obtain ⟨k, rfl⟩ : ∃ j, k = j + 1 := ⟨k - 1, by omega⟩
    simp only [laws_eqPairS.l0]
    unfold laws_eqPair.f
    simp only [if_true, Option.bind_some]
    rw [if_pos (by omega), if_pos (by omega), if_pos (by omega), wN (n := i + 1) (by omega) (by omega)]
    exact ih (i + 1) k (by omega) (by omega)
theorem eqPairS_f (l : List S65) (hl : l.length ≤ 4294967296) (k : Nat) (hk : l.length < k) : laws_eqPairS.f k l l = some true := by
  unfold laws_eqPairS.f
  rw [if_pos rfl]
  exact eqPairS_loop l hl l.length 0 k (by omega) hk
end Go.Proofs.YthnnphinfiobmaaDoor.Z
end
section
namespace Go.Proofs.YthnnphinfiobmaaDoor.Z
open Go.RowKit Go.Proofs.YthnnphinfiobmaaDoor
set_option linter.unusedVariables false
set_option linter.unusedSimpArgs false
theorem laws_FnExactRoot_f (l : List S60) (W : Int) (hs : ∀ p ∈ l, p.f0.size ≤ 9223372036854775807 ∧ p.f1.size ≤ 9223372036854775807) (hl : l.length ≤ 9223372036854775807) : laws_FnExactRoot.f 3000000 l W = some true := by
  unfold laws_FnExactRoot.f
  obtain ⟨t, h1, h2⟩ := szPairS_f l hs hl 1048576 (by omega) (by omega) 3000000 (by omega)
  rw [h1, Option.bind_some]
  by_cases hn : t < 0
  · rw [if_pos hn]
  · obtain ⟨h3, h4, h5⟩ := h2 (by omega)
    have hk : keysOk (l.map toPr) := fun p hp => by
      obtain ⟨q, hq, rfl⟩ := List.mem_map.1 hp
      have := h5 q hq
      show q.f0.size ≤ _
      omega
    rw [if_neg hn, toPairS_f l (by omega) _ (by omega), Option.bind_some, spec_Root_f _ _ hk _ (by omega), Option.bind_some, Option.bind_some]
    unfold impl_Root.f
    rw [Option.bind_some, if_pos rfl, Option.bind_some, eqPairS_f _ (by rw [List.length_map]; omega) _ (by rw [List.length_map]; omega), Option.bind_some, if_pos rfl]
end Go.Proofs.YthnnphinfiobmaaDoor.Z
namespace Go.Proofs.YthnnphinfiobmaaDoor
open Go.RowKit Go.Proofs.YthnnphinfiobmaaDoor.Z
theorem lawFnExactRoot (A0 : Option Addr) (c0 : Nat) (l0 : List Z.S60) (a1 : Int) (w : World) (hr0 : YthnnphinfiobmaaDoorW.PrintWords.Kd.C Z.k60 w A0 l0.length l0) (hc0 : l0.length ≤ c0) (hl : c0 ≤ maxLen) (hs : ∀ p ∈ l0, p.f0.size ≤ maxLen ∧ p.f1.size ≤ maxLen) (hTab : Z.Tab w) :
    Calls Tryd.prog 3 #[.slice A0 l0.length c0, .int .i64 a1] w fun e w' => e = .returned (.bool true) ∧ Below w.heap.size w w' :=
  laws_FnExactRoot.calls 3000000 A0 c0 l0 a1 true w hTab hr0 hc0 (laws_FnExactRoot_f l0 a1 (fun p h => by have := hs p h; unfold maxLen at this; omega) (by unfold maxLen at hl; omega))
end Go.Proofs.YthnnphinfiobmaaDoor
end
section
namespace Go.Proofs.YthnnphinfiobmaaDoor.Z
open Go.RowKit Go.ChangeShapes Go.WideShapes Go.ChangeAt Go.Proofs.YthnnphinfiobmaaDoorW.PrintWords
set_option linter.unusedVariables false
set_option linter.unusedSimpArgs false
section
variable {H : Type} {enc : TypeId × Value → H} {P : Program} {W : World} {base : Nat} {spare : Nat → Bool} {held : Bool}
theorem add_add (a : Addr) (i j : Nat) : (a.add i).add j = a.add (i + j) := by
  unfold Addr.add
  split <;> split <;> simp_all <;> omega
theorem list_of {α : Type} (Q : Nat → α → Prop) : ∀ n, (∀ i, i < n → ∃ x, Q i x) → ∃ l : List α, l.length = n ∧ ∀ i x, l[i]? = some x → Q i x
  | 0, _ => ⟨[], rfl, fun i x h => by simp at h⟩
  | n + 1, h => by
    obtain ⟨l, hl, hq⟩ := list_of Q n (fun i hi => h i (by omega))
    obtain ⟨x, hx⟩ := h n (by omega)
    refine ⟨l ++ [x], by simp [hl], fun i y hy => ?_⟩
    rcases Nat.lt_or_ge i l.length with h1 | h1
    · rw [List.getElem?_append_left h1] at hy; exact hq i y hy
    · rw [List.getElem?_append_right h1] at hy
      rcases Nat.eq_zero_or_pos (i - l.length) with h2 | h2
      · rw [h2] at hy
        obtain rfl := Option.some.inj hy
        obtain rfl : i = n := by omega
        exact hx
      · rw [List.getElem?_eq_none (by simp; omega)] at hy; cases hy
theorem open_kd {α : Type} (d : Kd α) (Q : α → Prop) {t e : TypeId} {fuel : Nat} {v : Value} {x : DataW H × List MemPlace} (ht : P.underlying t = some (.slice e)) (hc : P.cellsOf e = d.sz)
    (hK : ∀ cs n y, cs.length = d.sz → DataW.trod enc P W base spare held n e cs = some y → ∃ x, d.K W x cs ∧ Q x) (h : DataW.trod enc P W base spare held fuel t [v] = some x) :
    ∃ A c, ∃ l : List α, v = .slice A l.length c ∧ l.length ≤ c ∧ c ≤ maxLen ∧ d.C W A l.length l ∧ ∀ x ∈ l, Q x := by
  rcases DataW.trod_slice ht h with ⟨hcs, _⟩ | ⟨a, len, cap, elems, rest, m, _, hcs, hx, _, hl, hcap, hlen, hel, _⟩
  · simp at hcs; subst hcs
    refine ⟨none, 0, [], rfl, Nat.le_refl _, Nat.zero_le _, ⟨rfl, Nat.zero_le _, fun h => absurd h (Nat.lt_irrefl _)⟩, fun x hx => by cases hx⟩
  · simp at hcs; subst hcs
    have hp : ∀ i, i < len → ∃ x : α, ∃ cs, W.cells? base (a.add (i * d.sz)) d.sz = some cs ∧ cs.length = d.sz ∧ d.K W x cs ∧ Q x := by
      intro i hi
      have h1 := hel i hi
      rw [List.getElem?_eq_getElem (by omega), hc] at h1
      obtain ⟨cs, hcs, hy⟩ := Option.bind_eq_some_iff.1 h1
      have hln := (World.cells?_some hcs).2.1
      obtain ⟨x, hx1, hx2⟩ := hK cs m _ hln hy
      exact ⟨x, cs, hcs, hln, hx1, hx2⟩
    obtain ⟨l, hll, hq⟩ := list_of _ len hp
    subst hll
    refine ⟨some a, cap, l, rfl, hl, hcap, ⟨rfl, by unfold maxLen at hcap; omega, fun _ => ⟨a, rfl, fun j p hj => ?_⟩⟩, fun x hx => ?_⟩
    · obtain ⟨cs, h1, h2, h3, _⟩ := hq j p hj
      refine ⟨cs, h2, h3, fun i u hu => ?_⟩
      have h4 := (World.cells?_some h1).2.2 i (by rw [← h2]; exact (List.getElem?_eq_some_iff.1 hu).1)
      rw [← add_add]
      exact h4.trans hu
    · obtain ⟨i, hi, rfl⟩ := List.getElem_of_mem hx
      obtain ⟨cs, _, _, _, h5⟩ := hq i _ (List.getElem?_eq_getElem hi)
      exact h5
theorem open_pairs {α : Type} (d : Kd α) (Q : α → Prop) {t e : TypeId} {f0 f1 : Field} {fuel : Nat} {v : Value} {x : DataW H × List MemPlace} (hsz : d.sz = 2) (ht : P.underlying t = some (.slice e)) (he : P.underlying e = some (.struct #[f0, f1])) (u0 : P.underlying f0.type = some .string) (u1 : P.underlying f1.type = some .string)
    (o0 : f0.offset = 0) (o1 : f1.offset = 1) (c0 : P.cellsOf f0.type = 1) (c1 : P.cellsOf f1.type = 1) (hc : P.cellsOf e = 2) (hmk : ∀ a b : ByteArray, a.size ≤ maxLen → b.size ≤ maxLen → ∃ x, d.K W x [.string a, .string b] ∧ Q x)
    (h : DataW.trod enc P W base spare held fuel t [v] = some x) :
    ∃ A c, ∃ l : List α, v = .slice A l.length c ∧ l.length ≤ c ∧ c ≤ maxLen ∧ d.C W A l.length l ∧ ∀ s ∈ l, Q s :=
  open_kd d Q ht (hc.trans hsz.symm) (fun cs n y hl hy => by
    rw [hsz] at hl
    match cs, hl with
    | [a, b], _ =>
      obtain ⟨y0, y1, m, _, _, h0, h1⟩ := trod_struct2 he hy
      rw [o0, c0] at h0
      rw [o1, c1] at h1
      obtain ⟨s0, e0, _, w0⟩ := DataW.trod_string u0 h0
      obtain ⟨s1, e1, _, w1⟩ := DataW.trod_string u1 h1
      simp at e0 e1
      subst e0; subst e1
      exact hmk s0 s1 w0 w1) h
end
end Go.Proofs.YthnnphinfiobmaaDoor.Z
end
