/- Own texts, joined. -/
import Derived.Test.YtaepebkeijmjgaaYFnCrash21
import Derived.Test.YtaepebkeijmjgaaYFnCrash24
namespace Go.Proofs.Ytaepebkeijmjgaa.Z
open Go.RowKit Go.Proofs.YtaepebkeijmjgaaW.PrintWords Go.Proofs.YtaepebkeijmjgaaW.PrintLast Go.Proofs.YtaepebkeijmjgaaW.PrintMore
attribute [local go_sem] max2_int min2_int max_two min_two max_three min_three max_four min_four
set_option linter.unusedVariables false
set_option linter.unusedSimpArgs false
mutual
def laws_FnCrash.l0 : Nat → List Int → List Int → Int → ByteArray → ByteArray → Int → ByteArray → ByteArray → Int → ByteArray → ByteArray → Int → Option (Bool)
 | 0, _, _, _, _, _, _, _, _, _, _, _, _ => none
 | k + 1, x4, x11, x12, x30008000, x30008001, x30008002, x30015000, x30015001, x30015002, x30025000, x30025001, x30025002 => if x12 ≤ (wrap64 ((x30015001.size : Int) / 64)) then (if x11.length < 17592186044416 then (laws_FnCrash.l0 k x4 (x11 ++ [64]) (wrap64 (x12 + 1)) x30008000 x30008001 x30008002 x30015000 x30015001 x30015002 x30025000 x30025001 x30025002) else (none)) else ((impl_DiskCrash.f x30008000 x30008001 x30008002 (([] : List Int))).bind fun bt30034 => ((impl_DiskCrash.f x30008000 x30008001 x30008002 x11).bind fun bt30038 => ((impl_DiskCrash.f x30008000 x30008001 x30008002 x4).bind fun bt30042 => ((impl_DiskCrash.f bt30042.1 bt30042.2.1 bt30042.2.2 x4).bind fun bt30046 => (if bt30034.2.1.toList = x30015000.toList then (if bt30038.2.1.toList = x30015001.toList then (if bt30034.2.2 = x30015002 then (if bt30046.2.1.toList = bt30042.2.1.toList then (laws_FnCrash.j1 k (bt30042.1.toList != bt30042.2.1.toList) x30008000 x30008001 x30008002 x30015000 x30015001 x30015002 x30025000 x30025001 x30025002 bt30042.1 bt30042.2.1 bt30042.2.2) else (none)) else (none)) else (none)) else (none))))))
def laws_FnCrash.j1 : Nat → Bool → ByteArray → ByteArray → Int → ByteArray → ByteArray → Int → ByteArray → ByteArray → Int → ByteArray → ByteArray → Int → Option (Bool)
 | 0, _, _, _, _, _, _, _, _, _, _, _, _, _ => none
 | k + 1, x105, x30008000, x30008001, x30008002, x30015000, x30015001, x30015002, x30025000, x30025001, x30025002, x30046000, x30046001, x30046002 => if x105 = true then (none) else (if (x30046001.size : Int) < (x30015000.size : Int) then (laws_FnCrash.j2 k true x30008000 x30008001 x30008002 x30015000 x30015001 x30015002 x30025000 x30025001 x30025002 x30046000 x30046001 x30046002) else (if (x30046001.size : Int) > (x30015001.size : Int) then (laws_FnCrash.j2 k true x30008000 x30008001 x30008002 x30015000 x30015001 x30015002 x30025000 x30025001 x30025002 x30046000 x30046001 x30046002) else (if 0 ≤ (x30015000.size : Int) then (if (x30015000.size : Int) ≤ (x30046001.size : Int) then (laws_FnCrash.j2 k ((x30046001.extract 0 ((x30015000.size : Int) : Int).toNat).toList != x30015000.toList) x30008000 x30008001 x30008002 x30015000 x30015001 x30015002 x30025000 x30025001 x30025002 x30046000 x30046001 x30046002) else (none)) else (none))))
def laws_FnCrash.j2 : Nat → Bool → ByteArray → ByteArray → Int → ByteArray → ByteArray → Int → ByteArray → ByteArray → Int → ByteArray → ByteArray → Int → Option (Bool)
 | 0, _, _, _, _, _, _, _, _, _, _, _, _, _ => none
 | k + 1, x132, x30008000, x30008001, x30008002, x30015000, x30015001, x30015002, x30025000, x30025001, x30025002, x30046000, x30046001, x30046002 => if x132 = true then (none) else (laws_FnCrash.l1 k 0 x30008000 x30008001 x30008002 x30015000 x30015001 x30015002 x30025000 x30025001 x30025002 x30046000 x30046001 x30046002)
def laws_FnCrash.l1 : Nat → Int → ByteArray → ByteArray → Int → ByteArray → ByteArray → Int → ByteArray → ByteArray → Int → ByteArray → ByteArray → Int → Option (Bool)
 | 0, _, _, _, _, _, _, _, _, _, _, _, _, _ => none
 | k + 1, x17, x30008000, x30008001, x30008002, x30015000, x30015001, x30015002, x30025000, x30025001, x30025002, x30046000, x30046001, x30046002 => if x17 < (x30046001.size : Int) then (if 0 ≤ x17 then (if x17 < (x30015001.size : Int) then (if (bt x30046001 x17) = (bt x30015001 x17) then (laws_FnCrash.l1 k (wrap64 (x17 + 1)) x30008000 x30008001 x30008002 x30015000 x30015001 x30015002 x30025000 x30025001 x30025002 x30046000 x30046001 x30046002) else (if (bt x30046001 x17) = 0 then (laws_FnCrash.l1 k (wrap64 (x17 + 1)) x30008000 x30008001 x30008002 x30015000 x30015001 x30015002 x30025000 x30025001 x30025002 x30046000 x30046001 x30046002) else (none))) else (none)) else (none)) else ((impl_DiskCut.f x30008000 x30008001 x30008002 (x30015000.size : Int)).bind fun bt30050 => ((impl_DiskCrash.f x30025000 x30025001 x30025002 (([] : List Int))).bind fun bt30058 => (if bt30058.2.1.toList = x30015001.toList then (if bt30050.2.2.2 = 0 then (if bt30050.2.1.toList = x30015000.toList then (some (bt30050.1.toList == x30015000.toList)) else (none)) else (none)) else (none))))
end
def laws_FnCrash.f (k : Nat) (l0 : List Int) : Option (Bool) := if (l0.length : Int) > 1048576 then (some true) else ((spec_DrawDiskCrash.f k l0).bind fun bt30001 => ((spec_DrawDiskCrash.f k l0).bind fun bt30008 => ((spec_DiskSync.f bt30008.1 bt30008.2.1 bt30008.2.2.1).bind fun bt30015 => ((impl_DiskSync.f bt30001.1 bt30001.2.1 bt30001.2.2.1).bind fun bt30020 => (if bt30020.2.2.2 = bt30015.2.2.2 then (if bt30015.2.2.2 = 0 then (laws_FnCrash.l0 k bt30001.2.2.2 (([] : List Int)) 0 bt30001.1 bt30001.2.1 bt30001.2.2.1 bt30008.1 bt30008.2.1 bt30008.2.2.1 bt30020.1 bt30020.2.1 bt30020.2.2.1) else (some true)) else (none))))))
set_option maxHeartbeats 8000000 in
set_option maxRecDepth 100000 in
theorem laws_FnCrash.calls (k : Nat) (A0 : Option Addr) (c0 : Nat) (l0 : List Int) (r : Bool) (w : World) (hr0 : Kd.C (Kd.int .u8) w A0 l0.length l0) (hc0 : l0.length ≤ c0) (h : laws_FnCrash.f k l0 = some r) :
  Calls Try.prog 3 #[.slice A0 l0.length c0] w fun e w' => e = .returned (.bool r) ∧ Below w.heap.size w w' := by
 have hu24 := Try.underlying24; have HR0 := Aside0.mk hr0; have HC0 := Aside0.mk hc0; clear hr0 hc0; have HB := Aside0.mk (Below.refl w.heap.size w); have H : (if (l0.length : Int) > 1048576 then (some true) else ((spec_DrawDiskCrash.f k l0).bind fun bt30001 => ((spec_DrawDiskCrash.f k l0).bind fun bt30008 => ((spec_DiskSync.f bt30008.1 bt30008.2.1 bt30008.2.2.1).bind fun bt30015 => ((impl_DiskSync.f bt30001.1 bt30001.2.1 bt30001.2.2.1).bind fun bt30020 => (if bt30020.2.2.2 = bt30015.2.2.2 then (if bt30015.2.2.2 = 0 then (laws_FnCrash.l0 k bt30001.2.2.2 (([] : List Int)) 0 bt30001.1 bt30001.2.1 bt30001.2.2.1 bt30008.1 bt30008.2.1 bt30008.2.2.1 bt30020.1 bt30020.2.1 bt30020.2.2.1) else (some true)) else (none))))))) = some r := h; clear h
 by_cases c2 : (l0.length : Int) > 1048576
 ·rw [if_pos c2] at H; have c2b0 : decide (1048576 < (l0.length : Int)) = true := decide_eq_true c2; have c2b1 : decide (1048576 < l0.length) = true := decide_eq_true (by omega); clear c2; obtain rfl := Option.some.inj H
  go_enter Try.func3, Try.ntmps3
  go_wp2
  repeat (go_quiet (fail); try go_wp2)
  go_ret
  exact ⟨by first | rfl | (simp [errW_none, errW_some] <;> rfl) | (simp [*, errW_none, errW_some] <;> rfl), by repeat (first | (with_reducible first | exact HB.out | apply below_alloc | apply pw_below_drewN | apply below_drew1) | exact HB.out)⟩
 ·rw [if_neg c2] at H; have c2b0 : decide (1048576 < (l0.length : Int)) = false := decide_eq_false c2; have c2b1 : decide (1048576 < l0.length) = false := decide_eq_false (by omega); clear c2; replace H := Option.bind_eq_some_iff.mp H; obtain ⟨⟨t30001, t30002, t30003, t30004⟩, A30, H⟩ := H; replace H : ((spec_DrawDiskCrash.f k l0).bind fun bt30008 => ((spec_DiskSync.f bt30008.1 bt30008.2.1 bt30008.2.2.1).bind fun bt30015 => ((impl_DiskSync.f t30001 t30002 t30003).bind fun bt30020 => (if bt30020.2.2.2 = bt30015.2.2.2 then (if bt30015.2.2.2 = 0 then (laws_FnCrash.l0 k t30004 (([] : List Int)) 0 t30001 t30002 t30003 bt30008.1 bt30008.2.1 bt30008.2.2.1 bt30020.1 bt30020.2.1 bt30020.2.2.1) else (some true)) else (none))))) = some r := H; have A3 := Aside0.mk A30; clear A30; replace H := Option.bind_eq_some_iff.mp H; obtain ⟨⟨t30008, t30009, t30010, t30011⟩, A40, H⟩ := H; replace H : ((spec_DiskSync.f t30008 t30009 t30010).bind fun bt30015 => ((impl_DiskSync.f t30001 t30002 t30003).bind fun bt30020 => (if bt30020.2.2.2 = bt30015.2.2.2 then (if bt30015.2.2.2 = 0 then (laws_FnCrash.l0 k t30004 (([] : List Int)) 0 t30001 t30002 t30003 t30008 t30009 t30010 bt30020.1 bt30020.2.1 bt30020.2.2.1) else (some true)) else (none)))) = some r := H; have A4 := Aside0.mk A40; clear A40; replace H := Option.bind_eq_some_iff.mp H; obtain ⟨⟨t30015, t30016, t30017, t30018⟩, A50, H⟩ := H; replace H : ((impl_DiskSync.f t30001 t30002 t30003).bind fun bt30020 => (if bt30020.2.2.2 = t30018 then (if t30018 = 0 then (laws_FnCrash.l0 k t30004 (([] : List Int)) 0 t30001 t30002 t30003 t30008 t30009 t30010 bt30020.1 bt30020.2.1 bt30020.2.2.1) else (some true)) else (none))) = some r := H; have A5 := Aside0.mk A50; clear A50; replace H := Option.bind_eq_some_iff.mp H; obtain ⟨⟨t30020, t30021, t30022, t30023⟩, A60, H⟩ := H; replace H : (if t30023 = t30018 then (if t30018 = 0 then (laws_FnCrash.l0 k t30004 (([] : List Int)) 0 t30001 t30002 t30003 t30008 t30009 t30010 t30020 t30021 t30022) else (some true)) else (none)) = some r := H; have A6 := Aside0.mk A60; clear A60
  by_cases c7 : t30023 = t30018
  ·rw [if_pos c7] at H; have c7b0 : (t30023 == t30018) = true := beq_iff_eq.mpr c7; have c7b1 : (t30023 != t30018) = false := bne_eq_false_iff_eq.mpr c7; clear c7
   by_cases c8 : t30018 = 0
   ·rw [if_pos c8] at H; have c8b0 : (t30018 == 0) = true := beq_iff_eq.mpr c8; have c8b1 : (t30018 != 0) = false := bne_eq_false_iff_eq.mpr c8; clear c8; obtain ⟨y30025, hy30025⟩ : ∃ y_ : List Int, y_ = (([] : List Int)) := ⟨_, rfl⟩
    replace H : (laws_FnCrash.l0 k t30004 y30025 0 t30001 t30002 t30003 t30008 t30009 t30010 t30020 t30021 t30022) = some r := by first | (rw [hy30025]; with_reducible exact H) | (have H2_ := (Option.bind_some _ _).symm.trans H; rw [hy30025]; with_reducible exact H2_) | (have H2_ := (Option.bind_some _ _).symm.trans H; with_reducible exact H2_) | with_reducible exact H | (rw [hy30025]; exact H) | exact H
    have Ny30025 := Aside0.mk hy30025; clear hy30025; have H' := Aside0.mk H; clear H
    go_enter Try.func3, Try.ntmps3
    go_wp2_with (first | (go_at_call 4; (with_reducible refine (spec_DrawDiskCrash.calls k _ _ l0 t30001 t30002 t30003 t30004 _ ?side1 ?side2 A3.out).mono ?_); (case side1 => repeat (first | exact HR0.out | (with_reducible refine Kd.C_alloc ?_ _) | (with_reducible refine Kd.C_drewN ?_ _) | (with_reducible refine Kd.C_drew ?_))); (case side2 => exact HC0.out); rintro e w9 ⟨v30005, rfl, ho0, hb⟩; have n0_ := Aside0.mk (Kd.R_lower ho0 (below_size (by repeat (first | (with_reducible first | exact HB.out | apply below_alloc | apply pw_below_drewN | apply below_drew1) | exact HB.out)))); have n1_ := Aside0.mk (below_step (by repeat (first | (with_reducible first | exact HB.out | apply below_alloc | apply pw_below_drewN | apply below_drew1) | exact HB.out)) hb); clear HB; have HO30006 := n0_; have HB := n1_; clear n0_ n1_; (try clear hb); (try clear hb2); (try clear hk); (try clear hi); (try clear ho0)) | ((with_reducible refine gate_dst (N := 3) rfl ?_); (try (refine gate_guard (by rfl) ?_; dsimp only)); refine box_event ?hg (N := 3) ?hd (cs := #[.string (⟨#[]⟩ : ByteArray), .string (⟨#[]⟩ : ByteArray), .int .i64 0]) (t := 24) ?hr ?_; (case hd => rfl); (case hg => rfl); (case hr => first | (go_simp; done) | (go_simp; rfl)); intro gb30007 hg w10 hbox hb; have n0_ := Aside0.mk (Kd.R_below (by (with_reducible repeat (first | apply Kd.R_alloc | apply Kd.R_drewN | apply Kd.R_drew)); exact HO30006.out) hb); have n1_ := Aside0.mk (below_step (by repeat (first | (with_reducible first | exact HB.out | apply below_alloc | apply pw_below_drewN | apply below_drew1) | exact HB.out)) hb); have n2_ := Aside0.mk (hbox); have n3_ := Aside0.mk ((by rw [hg]; exact (below_size (by repeat (first | (with_reducible first | exact HB.out | apply below_alloc | apply pw_below_drewN | apply below_drew1) | exact HB.out))) : w.heap.size ≤ gb30007)); have n4_ := Aside0.mk ((by rw [hg]; exact (below_size (by repeat (first | (with_reducible first | exact HB.out | apply below_alloc | apply pw_below_drewN | apply below_drew1) | exact HB.out))) : w.heap.size ≤ gb30007)); clear HO30006; clear HB; have HO30006 := n0_; have HB := n1_; have BK30007 := n2_; have GW30007 := n3_; have GE30007 := n4_; clear n0_ n1_ n2_ n3_ n4_; clear hb hbox hg; have hcz11_0 : w10.cell? ⟨gb30007, 0, none⟩ = some (.string (⟨#[]⟩ : ByteArray)) := (blk_cell BK30007.out 0).trans rfl; have hcz11_1 : w10.cell? ⟨gb30007, 1, none⟩ = some (.string (⟨#[]⟩ : ByteArray)) := (blk_cell BK30007.out 1).trans rfl; have hcz11_2 : w10.cell? ⟨gb30007, 2, none⟩ = some (.int .i64 0) := (blk_cell BK30007.out 2).trans rfl; have hfz11_0 := blk_frozen BK30007.out 0; have hfz11_1 := blk_frozen BK30007.out 1; have hfz11_2 := blk_frozen BK30007.out 2) | (go_at_call 4; (with_reducible refine (spec_DrawDiskCrash.calls k _ _ l0 t30008 t30009 t30010 t30011 _ ?side1 ?side2 A4.out).mono ?_); (case side1 => exact Kd.C_below HR0.out (by repeat (first | (with_reducible first | exact HB.out | apply below_alloc | apply pw_below_drewN | apply below_drew1 | refine below_set ?_ GE30007.out) | exact HB.out))); (case side2 => exact HC0.out); rintro e w12 ⟨v30012, rfl, ho0, hb⟩; have n0_ := Aside0.mk (Kd.R_elder' (by (with_reducible repeat (first | apply Kd.R_alloc | apply Kd.R_drewN | apply Kd.R_drew)); exact (Kd.R_mono (Kd.R_far (p := ⟨gb30007, 2, none⟩) (Kd.R_far (p := ⟨gb30007, 1, none⟩) (Kd.R_far (p := ⟨gb30007, 0, none⟩) (Kd.R_types HO30006.out BK30007.out (by decide)) (fun _ hk => hk.2) (.string t30001)) (fun _ hk => hk.2) (.string t30002)) (fun _ hk => hk.2) (.int .i64 t30003)) (fun _ h_ => h_.1))) (Kd.R_base ho0) hb); have n1_ := Aside0.mk (Kd.R_lower (Kd.R_new' ho0 (Kd.R_lt (by (with_reducible repeat (first | apply Kd.R_alloc | apply Kd.R_drewN | apply Kd.R_drew)); exact (Kd.R_mono (Kd.R_far (p := ⟨gb30007, 2, none⟩) (Kd.R_far (p := ⟨gb30007, 1, none⟩) (Kd.R_far (p := ⟨gb30007, 0, none⟩) (Kd.R_types HO30006.out BK30007.out (by decide)) (fun _ hk => hk.2) (.string t30001)) (fun _ hk => hk.2) (.string t30002)) (fun _ hk => hk.2) (.int .i64 t30003)) (fun _ h_ => h_.1))))) (below_size (by repeat (first | (with_reducible first | exact HB.out | apply below_alloc | apply pw_below_drewN | apply below_drew1 | refine below_set ?_ GE30007.out) | exact HB.out)))); have n2_ := Aside0.mk (blk_below (g := gb30007) (o := .cells #[.string t30001, .string t30002, .int .i64 t30003] 24 (0, 0)) (by (with_reducible repeat (first | refine blk_drewN ?_ _ | refine blk_drew ?_ | refine blk_alloc ?_ _)); refine blk_put (cs := #[.string t30001, .string t30002, .int .i64 0]) ?_ 2 _ rfl; (with_reducible repeat (first | refine blk_drewN ?_ _ | refine blk_drew ?_ | refine blk_alloc ?_ _)); refine blk_put (cs := #[.string t30001, .string (⟨#[]⟩ : ByteArray), .int .i64 0]) ?_ 1 _ rfl; (with_reducible repeat (first | refine blk_drewN ?_ _ | refine blk_drew ?_ | refine blk_alloc ?_ _)); refine blk_put (cs := #[.string (⟨#[]⟩ : ByteArray), .string (⟨#[]⟩ : ByteArray), .int .i64 0]) ?_ 0 _ rfl; (with_reducible repeat (first | refine blk_drewN ?_ _ | refine blk_drew ?_ | refine blk_alloc ?_ _)); exact BK30007.out) hb); have n3_ := Aside0.mk (below_step (by repeat (first | (with_reducible first | exact HB.out | apply below_alloc | apply pw_below_drewN | apply below_drew1 | refine below_set ?_ GE30007.out) | exact HB.out)) hb); clear HO30006; clear BK30007; clear HB; have HO30006 := n0_; have HO30013 := n1_; have BK30007 := n2_; have HB := n3_; clear n0_ n1_ n2_ n3_; (try clear hb); (try clear hb2); (try clear hk); (try clear hi); (try clear ho0)) | ((with_reducible refine gate_dst (N := 5) rfl ?_); (try (refine gate_guard (by rfl) ?_; dsimp only)); refine box_event ?hg (N := 5) ?hd (cs := #[.string (⟨#[]⟩ : ByteArray), .string (⟨#[]⟩ : ByteArray), .int .i64 0]) (t := 24) ?hr ?_; (case hd => rfl); (case hg => rfl); (case hr => first | (go_simp; done) | (go_simp; rfl)); intro gb30014 hg w13 hbox hb; have n0_ := Aside0.mk (Kd.R_below (by (with_reducible repeat (first | apply Kd.R_alloc | apply Kd.R_drewN | apply Kd.R_drew)); exact HO30006.out) hb); have n1_ := Aside0.mk (Kd.R_below (by (with_reducible repeat (first | apply Kd.R_alloc | apply Kd.R_drewN | apply Kd.R_drew)); exact HO30013.out) hb); have n2_ := Aside0.mk (blk_below (g := gb30007) (o := .cells #[.string t30001, .string t30002, .int .i64 t30003] 24 (0, 0)) (by (with_reducible repeat (first | refine blk_drewN ?_ _ | refine blk_drew ?_ | refine blk_alloc ?_ _)); exact BK30007.out) hb); have n3_ := Aside0.mk (below_step (by repeat (first | (with_reducible first | exact HB.out | apply below_alloc | apply pw_below_drewN | apply below_drew1 | refine below_set ?_ GE30007.out) | exact HB.out)) hb); have n4_ := Aside0.mk (hbox); have n5_ := Aside0.mk ((by rw [hg]; exact (below_size (by repeat (first | (with_reducible first | exact HB.out | apply below_alloc | apply pw_below_drewN | apply below_drew1 | refine below_set ?_ GE30007.out) | exact HB.out))) : w.heap.size ≤ gb30014)); have n6_ := Aside0.mk ((by rw [hg]; exact (below_size (by repeat (first | (with_reducible first | exact HB.out | apply below_alloc | apply pw_below_drewN | apply below_drew1 | refine below_set ?_ GE30007.out) | exact HB.out))) : w.heap.size ≤ gb30014)); have n7_ := Aside0.mk ((by rw [hg]; exact Nat.ne_of_lt (blk_lt (g := gb30007) (o := .cells #[.string t30001, .string t30002, .int .i64 t30003] 24 (0, 0)) (by (with_reducible repeat (first | refine blk_drewN ?_ _ | refine blk_drew ?_ | refine blk_alloc ?_ _)); exact BK30007.out)) : gb30007 ≠ gb30014)); have n8_ := Aside0.mk ((by rw [hg]; exact Nat.ne_of_gt (blk_lt (g := gb30007) (o := .cells #[.string t30001, .string t30002, .int .i64 t30003] 24 (0, 0)) (by (with_reducible repeat (first | refine blk_drewN ?_ _ | refine blk_drew ?_ | refine blk_alloc ?_ _)); exact BK30007.out)) : gb30014 ≠ gb30007)); clear HO30006; clear HO30013; clear BK30007; clear HB; have HO30006 := n0_; have HO30013 := n1_; have BK30007 := n2_; have HB := n3_; have BK30014 := n4_; have GW30014 := n5_; have GE30014 := n6_; have NB30007_30014 := n7_; have NB30014_30007 := n8_; clear n0_ n1_ n2_ n3_ n4_ n5_ n6_ n7_ n8_; clear hb hbox hg; have hnb14 := NB30014_30007.out; have hnc14 := NB30007_30014.out; have hcz15_0 : w13.cell? ⟨gb30014, 0, none⟩ = some (.string (⟨#[]⟩ : ByteArray)) := (blk_cell BK30014.out 0).trans rfl; have hcz15_1 : w13.cell? ⟨gb30014, 1, none⟩ = some (.string (⟨#[]⟩ : ByteArray)) := (blk_cell BK30014.out 1).trans rfl; have hcz15_2 : w13.cell? ⟨gb30014, 2, none⟩ = some (.int .i64 0) := (blk_cell BK30014.out 2).trans rfl; have hfz15_0 := blk_frozen BK30014.out 0; have hfz15_1 := blk_frozen BK30014.out 1; have hfz15_2 := blk_frozen BK30014.out 2) | (go_at_call 5; (with_reducible refine (spec_DiskSync.calls t30008 t30009 t30010 t30015 t30016 t30017 t30018 _ A5.out).mono ?_); rintro e w16 ⟨rfl, hb⟩; have n0_ := Aside0.mk (Kd.R_below (by (with_reducible repeat (first | apply Kd.R_alloc | apply Kd.R_drewN | apply Kd.R_drew)); exact (Kd.R_mono (Kd.R_far (p := ⟨gb30014, 2, none⟩) (Kd.R_far (p := ⟨gb30014, 1, none⟩) (Kd.R_far (p := ⟨gb30014, 0, none⟩) (Kd.R_types HO30006.out BK30014.out (by decide)) (fun _ hk => hk.2) (.string t30008)) (fun _ hk => hk.2) (.string t30009)) (fun _ hk => hk.2) (.int .i64 t30010)) (fun _ h_ => h_.1))) hb); have n1_ := Aside0.mk (Kd.R_below (by (with_reducible repeat (first | apply Kd.R_alloc | apply Kd.R_drewN | apply Kd.R_drew)); exact (Kd.R_mono (Kd.R_far (p := ⟨gb30014, 2, none⟩) (Kd.R_far (p := ⟨gb30014, 1, none⟩) (Kd.R_far (p := ⟨gb30014, 0, none⟩) (Kd.R_types HO30013.out BK30014.out (by decide)) (fun _ hk => hk.2) (.string t30008)) (fun _ hk => hk.2) (.string t30009)) (fun _ hk => hk.2) (.int .i64 t30010)) (fun _ h_ => h_.1))) hb); have n2_ := Aside0.mk (blk_below (g := gb30007) (o := .cells #[.string t30001, .string t30002, .int .i64 t30003] 24 (0, 0)) (by (with_reducible repeat (first | refine blk_drewN ?_ _ | refine blk_drew ?_ | refine blk_alloc ?_ _)); refine blk_far ?_ NB30007_30014.out _; (with_reducible repeat (first | refine blk_drewN ?_ _ | refine blk_drew ?_ | refine blk_alloc ?_ _)); refine blk_far ?_ NB30007_30014.out _; (with_reducible repeat (first | refine blk_drewN ?_ _ | refine blk_drew ?_ | refine blk_alloc ?_ _)); refine blk_far ?_ NB30007_30014.out _; (with_reducible repeat (first | refine blk_drewN ?_ _ | refine blk_drew ?_ | refine blk_alloc ?_ _)); exact BK30007.out) hb); have n3_ := Aside0.mk (blk_below (g := gb30014) (o := .cells #[.string t30008, .string t30009, .int .i64 t30010] 24 (0, 0)) (by (with_reducible repeat (first | refine blk_drewN ?_ _ | refine blk_drew ?_ | refine blk_alloc ?_ _)); refine blk_put (cs := #[.string t30008, .string t30009, .int .i64 0]) ?_ 2 _ rfl; (with_reducible repeat (first | refine blk_drewN ?_ _ | refine blk_drew ?_ | refine blk_alloc ?_ _)); refine blk_put (cs := #[.string t30008, .string (⟨#[]⟩ : ByteArray), .int .i64 0]) ?_ 1 _ rfl; (with_reducible repeat (first | refine blk_drewN ?_ _ | refine blk_drew ?_ | refine blk_alloc ?_ _)); refine blk_put (cs := #[.string (⟨#[]⟩ : ByteArray), .string (⟨#[]⟩ : ByteArray), .int .i64 0]) ?_ 0 _ rfl; (with_reducible repeat (first | refine blk_drewN ?_ _ | refine blk_drew ?_ | refine blk_alloc ?_ _)); exact BK30014.out) hb); have n4_ := Aside0.mk (below_step (by repeat (first | (with_reducible first | exact HB.out | apply below_alloc | apply pw_below_drewN | apply below_drew1 | refine below_set ?_ GE30007.out | refine below_set ?_ GE30014.out) | exact HB.out)) hb); clear HO30006; clear HO30013; clear BK30007; clear BK30014; clear HB; have HO30006 := n0_; have HO30013 := n1_; have BK30007 := n2_; have BK30014 := n3_; have HB := n4_; clear n0_ n1_ n2_ n3_ n4_; (try clear hb); (try clear hb2); (try clear hk); (try clear hi)) | ((with_reducible refine gate_dst (N := 7) rfl ?_); (try (refine gate_guard (by rfl) ?_; dsimp only)); refine box_event ?hg (N := 7) ?hd (cs := #[.string (⟨#[]⟩ : ByteArray), .string (⟨#[]⟩ : ByteArray), .int .i64 0]) (t := 24) ?hr ?_; (case hd => rfl); (case hg => rfl); (case hr => first | (go_simp; done) | (go_simp; rfl)); intro gb30019 hg w17 hbox hb; have n0_ := Aside0.mk (Kd.R_below (by (with_reducible repeat (first | apply Kd.R_alloc | apply Kd.R_drewN | apply Kd.R_drew)); exact HO30006.out) hb); have n1_ := Aside0.mk (Kd.R_below (by (with_reducible repeat (first | apply Kd.R_alloc | apply Kd.R_drewN | apply Kd.R_drew)); exact HO30013.out) hb); have n2_ := Aside0.mk (blk_below (g := gb30007) (o := .cells #[.string t30001, .string t30002, .int .i64 t30003] 24 (0, 0)) (by (with_reducible repeat (first | refine blk_drewN ?_ _ | refine blk_drew ?_ | refine blk_alloc ?_ _)); exact BK30007.out) hb); have n3_ := Aside0.mk (blk_below (g := gb30014) (o := .cells #[.string t30008, .string t30009, .int .i64 t30010] 24 (0, 0)) (by (with_reducible repeat (first | refine blk_drewN ?_ _ | refine blk_drew ?_ | refine blk_alloc ?_ _)); exact BK30014.out) hb); have n4_ := Aside0.mk (below_step (by repeat (first | (with_reducible first | exact HB.out | apply below_alloc | apply pw_below_drewN | apply below_drew1 | refine below_set ?_ GE30007.out | refine below_set ?_ GE30014.out) | exact HB.out)) hb); have n5_ := Aside0.mk (hbox); have n6_ := Aside0.mk ((by rw [hg]; exact (below_size (by repeat (first | (with_reducible first | exact HB.out | apply below_alloc | apply pw_below_drewN | apply below_drew1 | refine below_set ?_ GE30007.out | refine below_set ?_ GE30014.out) | exact HB.out))) : w.heap.size ≤ gb30019)); have n7_ := Aside0.mk ((by rw [hg]; exact (below_size (by repeat (first | (with_reducible first | exact HB.out | apply below_alloc | apply pw_below_drewN | apply below_drew1 | refine below_set ?_ GE30007.out | refine below_set ?_ GE30014.out) | exact HB.out))) : w.heap.size ≤ gb30019)); have n8_ := Aside0.mk ((by rw [hg]; exact Nat.ne_of_lt (blk_lt (g := gb30007) (o := .cells #[.string t30001, .string t30002, .int .i64 t30003] 24 (0, 0)) (by (with_reducible repeat (first | refine blk_drewN ?_ _ | refine blk_drew ?_ | refine blk_alloc ?_ _)); exact BK30007.out)) : gb30007 ≠ gb30019)); have n9_ := Aside0.mk ((by rw [hg]; exact Nat.ne_of_gt (blk_lt (g := gb30007) (o := .cells #[.string t30001, .string t30002, .int .i64 t30003] 24 (0, 0)) (by (with_reducible repeat (first | refine blk_drewN ?_ _ | refine blk_drew ?_ | refine blk_alloc ?_ _)); exact BK30007.out)) : gb30019 ≠ gb30007)); have n10_ := Aside0.mk ((by rw [hg]; exact Nat.ne_of_lt (blk_lt (g := gb30014) (o := .cells #[.string t30008, .string t30009, .int .i64 t30010] 24 (0, 0)) (by (with_reducible repeat (first | refine blk_drewN ?_ _ | refine blk_drew ?_ | refine blk_alloc ?_ _)); exact BK30014.out)) : gb30014 ≠ gb30019)); have n11_ := Aside0.mk ((by rw [hg]; exact Nat.ne_of_gt (blk_lt (g := gb30014) (o := .cells #[.string t30008, .string t30009, .int .i64 t30010] 24 (0, 0)) (by (with_reducible repeat (first | refine blk_drewN ?_ _ | refine blk_drew ?_ | refine blk_alloc ?_ _)); exact BK30014.out)) : gb30019 ≠ gb30014)); clear HO30006; clear HO30013; clear BK30007; clear BK30014; clear HB; have HO30006 := n0_; have HO30013 := n1_; have BK30007 := n2_; have BK30014 := n3_; have HB := n4_; have BK30019 := n5_; have GW30019 := n6_; have GE30019 := n7_; have NB30007_30019 := n8_; have NB30019_30007 := n9_; have NB30014_30019 := n10_; have NB30019_30014 := n11_; clear n0_ n1_ n2_ n3_ n4_ n5_ n6_ n7_ n8_ n9_ n10_ n11_; clear hb hbox hg; have hnb18 := NB30019_30007.out; have hnc18 := NB30007_30019.out; have hnb19 := NB30019_30014.out; have hnc19 := NB30014_30019.out; have hcz20_0 : w17.cell? ⟨gb30019, 0, none⟩ = some (.string (⟨#[]⟩ : ByteArray)) := (blk_cell BK30019.out 0).trans rfl; have hcz20_1 : w17.cell? ⟨gb30019, 1, none⟩ = some (.string (⟨#[]⟩ : ByteArray)) := (blk_cell BK30019.out 1).trans rfl; have hcz20_2 : w17.cell? ⟨gb30019, 2, none⟩ = some (.int .i64 0) := (blk_cell BK30019.out 2).trans rfl; have hfz20_0 := blk_frozen BK30019.out 0; have hfz20_1 := blk_frozen BK30019.out 1; have hfz20_2 := blk_frozen BK30019.out 2; have hcz21_0 : w17.cell? ⟨gb30007, 0, none⟩ = some (.string t30001) := (blk_cell BK30007.out 0).trans rfl; have hcz21_1 : w17.cell? ⟨gb30007, 1, none⟩ = some (.string t30002) := (blk_cell BK30007.out 1).trans rfl; have hcz21_2 : w17.cell? ⟨gb30007, 2, none⟩ = some (.int .i64 t30003) := (blk_cell BK30007.out 2).trans rfl; have hfz21_0 := blk_frozen BK30007.out 0; have hfz21_1 := blk_frozen BK30007.out 1; have hfz21_2 := blk_frozen BK30007.out 2) | (go_at_call 6; (with_reducible refine (impl_DiskSync.calls t30001 t30002 t30003 t30020 t30021 t30022 t30023 _ A6.out).mono ?_); rintro e w22 ⟨rfl, hb⟩; have n0_ := Aside0.mk (Kd.R_below (by (with_reducible repeat (first | apply Kd.R_alloc | apply Kd.R_drewN | apply Kd.R_drew)); exact (Kd.R_mono (Kd.R_far (p := ⟨gb30019, 2, none⟩) (Kd.R_far (p := ⟨gb30019, 1, none⟩) (Kd.R_far (p := ⟨gb30019, 0, none⟩) (Kd.R_types HO30006.out BK30019.out (by decide)) (fun _ hk => hk.2) (.string t30015)) (fun _ hk => hk.2) (.string t30016)) (fun _ hk => hk.2) (.int .i64 t30017)) (fun _ h_ => h_.1))) hb); have n1_ := Aside0.mk (Kd.R_below (by (with_reducible repeat (first | apply Kd.R_alloc | apply Kd.R_drewN | apply Kd.R_drew)); exact (Kd.R_mono (Kd.R_far (p := ⟨gb30019, 2, none⟩) (Kd.R_far (p := ⟨gb30019, 1, none⟩) (Kd.R_far (p := ⟨gb30019, 0, none⟩) (Kd.R_types HO30013.out BK30019.out (by decide)) (fun _ hk => hk.2) (.string t30015)) (fun _ hk => hk.2) (.string t30016)) (fun _ hk => hk.2) (.int .i64 t30017)) (fun _ h_ => h_.1))) hb); have n2_ := Aside0.mk (blk_below (g := gb30007) (o := .cells #[.string t30001, .string t30002, .int .i64 t30003] 24 (0, 0)) (by (with_reducible repeat (first | refine blk_drewN ?_ _ | refine blk_drew ?_ | refine blk_alloc ?_ _)); refine blk_far ?_ NB30007_30019.out _; (with_reducible repeat (first | refine blk_drewN ?_ _ | refine blk_drew ?_ | refine blk_alloc ?_ _)); refine blk_far ?_ NB30007_30019.out _; (with_reducible repeat (first | refine blk_drewN ?_ _ | refine blk_drew ?_ | refine blk_alloc ?_ _)); refine blk_far ?_ NB30007_30019.out _; (with_reducible repeat (first | refine blk_drewN ?_ _ | refine blk_drew ?_ | refine blk_alloc ?_ _)); exact BK30007.out) hb); have n3_ := Aside0.mk (blk_below (g := gb30014) (o := .cells #[.string t30008, .string t30009, .int .i64 t30010] 24 (0, 0)) (by (with_reducible repeat (first | refine blk_drewN ?_ _ | refine blk_drew ?_ | refine blk_alloc ?_ _)); refine blk_far ?_ NB30014_30019.out _; (with_reducible repeat (first | refine blk_drewN ?_ _ | refine blk_drew ?_ | refine blk_alloc ?_ _)); refine blk_far ?_ NB30014_30019.out _; (with_reducible repeat (first | refine blk_drewN ?_ _ | refine blk_drew ?_ | refine blk_alloc ?_ _)); refine blk_far ?_ NB30014_30019.out _; (with_reducible repeat (first | refine blk_drewN ?_ _ | refine blk_drew ?_ | refine blk_alloc ?_ _)); exact BK30014.out) hb); have n4_ := Aside0.mk (blk_below (g := gb30019) (o := .cells #[.string t30015, .string t30016, .int .i64 t30017] 24 (0, 0)) (by (with_reducible repeat (first | refine blk_drewN ?_ _ | refine blk_drew ?_ | refine blk_alloc ?_ _)); refine blk_put (cs := #[.string t30015, .string t30016, .int .i64 0]) ?_ 2 _ rfl; (with_reducible repeat (first | refine blk_drewN ?_ _ | refine blk_drew ?_ | refine blk_alloc ?_ _)); refine blk_put (cs := #[.string t30015, .string (⟨#[]⟩ : ByteArray), .int .i64 0]) ?_ 1 _ rfl; (with_reducible repeat (first | refine blk_drewN ?_ _ | refine blk_drew ?_ | refine blk_alloc ?_ _)); refine blk_put (cs := #[.string (⟨#[]⟩ : ByteArray), .string (⟨#[]⟩ : ByteArray), .int .i64 0]) ?_ 0 _ rfl; (with_reducible repeat (first | refine blk_drewN ?_ _ | refine blk_drew ?_ | refine blk_alloc ?_ _)); exact BK30019.out) hb); have n5_ := Aside0.mk (below_step (by repeat (first | (with_reducible first | exact HB.out | apply below_alloc | apply pw_below_drewN | apply below_drew1 | refine below_set ?_ GE30007.out | refine below_set ?_ GE30014.out | refine below_set ?_ GE30019.out) | exact HB.out)) hb); clear HO30006; clear HO30013; clear BK30007; clear BK30014; clear BK30019; clear HB; have HO30006 := n0_; have HO30013 := n1_; have BK30007 := n2_; have BK30014 := n3_; have BK30019 := n4_; have HB := n5_; clear n0_ n1_ n2_ n3_ n4_ n5_; (try clear hb); (try clear hb2); (try clear hk); (try clear hi)) | ((with_reducible refine gate_dst (N := 9) rfl ?_); (try (refine gate_guard (by rfl) ?_; dsimp only)); refine box_event ?hg (N := 9) ?hd (cs := #[.string (⟨#[]⟩ : ByteArray), .string (⟨#[]⟩ : ByteArray), .int .i64 0]) (t := 24) ?hr ?_; (case hd => rfl); (case hg => rfl); (case hr => first | (go_simp; done) | (go_simp; rfl)); intro gb30024 hg w23 hbox hb; have n0_ := Aside0.mk (Kd.R_below (by (with_reducible repeat (first | apply Kd.R_alloc | apply Kd.R_drewN | apply Kd.R_drew)); exact HO30006.out) hb); have n1_ := Aside0.mk (Kd.R_below (by (with_reducible repeat (first | apply Kd.R_alloc | apply Kd.R_drewN | apply Kd.R_drew)); exact HO30013.out) hb); have n2_ := Aside0.mk (blk_below (g := gb30007) (o := .cells #[.string t30001, .string t30002, .int .i64 t30003] 24 (0, 0)) (by (with_reducible repeat (first | refine blk_drewN ?_ _ | refine blk_drew ?_ | refine blk_alloc ?_ _)); exact BK30007.out) hb); have n3_ := Aside0.mk (blk_below (g := gb30014) (o := .cells #[.string t30008, .string t30009, .int .i64 t30010] 24 (0, 0)) (by (with_reducible repeat (first | refine blk_drewN ?_ _ | refine blk_drew ?_ | refine blk_alloc ?_ _)); exact BK30014.out) hb); have n4_ := Aside0.mk (blk_below (g := gb30019) (o := .cells #[.string t30015, .string t30016, .int .i64 t30017] 24 (0, 0)) (by (with_reducible repeat (first | refine blk_drewN ?_ _ | refine blk_drew ?_ | refine blk_alloc ?_ _)); exact BK30019.out) hb); have n5_ := Aside0.mk (below_step (by repeat (first | (with_reducible first | exact HB.out | apply below_alloc | apply pw_below_drewN | apply below_drew1 | refine below_set ?_ GE30007.out | refine below_set ?_ GE30014.out | refine below_set ?_ GE30019.out) | exact HB.out)) hb); have n6_ := Aside0.mk (hbox); have n7_ := Aside0.mk ((by rw [hg]; exact (below_size (by repeat (first | (with_reducible first | exact HB.out | apply below_alloc | apply pw_below_drewN | apply below_drew1 | refine below_set ?_ GE30007.out | refine below_set ?_ GE30014.out | refine below_set ?_ GE30019.out) | exact HB.out))) : w.heap.size ≤ gb30024)); have n8_ := Aside0.mk ((by rw [hg]; exact (below_size (by repeat (first | (with_reducible first | exact HB.out | apply below_alloc | apply pw_below_drewN | apply below_drew1 | refine below_set ?_ GE30007.out | refine below_set ?_ GE30014.out | refine below_set ?_ GE30019.out) | exact HB.out))) : w.heap.size ≤ gb30024)); have n9_ := Aside0.mk ((by rw [hg]; exact Nat.ne_of_lt (blk_lt (g := gb30007) (o := .cells #[.string t30001, .string t30002, .int .i64 t30003] 24 (0, 0)) (by (with_reducible repeat (first | refine blk_drewN ?_ _ | refine blk_drew ?_ | refine blk_alloc ?_ _)); exact BK30007.out)) : gb30007 ≠ gb30024)); have n10_ := Aside0.mk ((by rw [hg]; exact Nat.ne_of_gt (blk_lt (g := gb30007) (o := .cells #[.string t30001, .string t30002, .int .i64 t30003] 24 (0, 0)) (by (with_reducible repeat (first | refine blk_drewN ?_ _ | refine blk_drew ?_ | refine blk_alloc ?_ _)); exact BK30007.out)) : gb30024 ≠ gb30007)); have n11_ := Aside0.mk ((by rw [hg]; exact Nat.ne_of_lt (blk_lt (g := gb30014) (o := .cells #[.string t30008, .string t30009, .int .i64 t30010] 24 (0, 0)) (by (with_reducible repeat (first | refine blk_drewN ?_ _ | refine blk_drew ?_ | refine blk_alloc ?_ _)); exact BK30014.out)) : gb30014 ≠ gb30024)); have n12_ := Aside0.mk ((by rw [hg]; exact Nat.ne_of_gt (blk_lt (g := gb30014) (o := .cells #[.string t30008, .string t30009, .int .i64 t30010] 24 (0, 0)) (by (with_reducible repeat (first | refine blk_drewN ?_ _ | refine blk_drew ?_ | refine blk_alloc ?_ _)); exact BK30014.out)) : gb30024 ≠ gb30014)); have n13_ := Aside0.mk ((by rw [hg]; exact Nat.ne_of_lt (blk_lt (g := gb30019) (o := .cells #[.string t30015, .string t30016, .int .i64 t30017] 24 (0, 0)) (by (with_reducible repeat (first | refine blk_drewN ?_ _ | refine blk_drew ?_ | refine blk_alloc ?_ _)); exact BK30019.out)) : gb30019 ≠ gb30024)); have n14_ := Aside0.mk ((by rw [hg]; exact Nat.ne_of_gt (blk_lt (g := gb30019) (o := .cells #[.string t30015, .string t30016, .int .i64 t30017] 24 (0, 0)) (by (with_reducible repeat (first | refine blk_drewN ?_ _ | refine blk_drew ?_ | refine blk_alloc ?_ _)); exact BK30019.out)) : gb30024 ≠ gb30019)); clear HO30006; clear HO30013; clear BK30007; clear BK30014; clear BK30019; clear HB; have HO30006 := n0_; have HO30013 := n1_; have BK30007 := n2_; have BK30014 := n3_; have BK30019 := n4_; have HB := n5_; have BK30024 := n6_; have GW30024 := n7_; have GE30024 := n8_; have NB30007_30024 := n9_; have NB30024_30007 := n10_; have NB30014_30024 := n11_; have NB30024_30014 := n12_; have NB30019_30024 := n13_; have NB30024_30019 := n14_; clear n0_ n1_ n2_ n3_ n4_ n5_ n6_ n7_ n8_ n9_ n10_ n11_ n12_ n13_ n14_; clear hb hbox hg; have hnb24 := NB30024_30007.out; have hnc24 := NB30007_30024.out; have hnb25 := NB30024_30014.out; have hnc25 := NB30014_30024.out; have hnb26 := NB30024_30019.out; have hnc26 := NB30019_30024.out; have hcz27_0 : w23.cell? ⟨gb30024, 0, none⟩ = some (.string (⟨#[]⟩ : ByteArray)) := (blk_cell BK30024.out 0).trans rfl; have hcz27_1 : w23.cell? ⟨gb30024, 1, none⟩ = some (.string (⟨#[]⟩ : ByteArray)) := (blk_cell BK30024.out 1).trans rfl; have hcz27_2 : w23.cell? ⟨gb30024, 2, none⟩ = some (.int .i64 0) := (blk_cell BK30024.out 2).trans rfl; have hfz27_0 := blk_frozen BK30024.out 0; have hfz27_1 := blk_frozen BK30024.out 1; have hfz27_2 := blk_frozen BK30024.out 2) | ((with_reducible refine gate_dst (N := 49) rfl ?_); (try (refine gate_guard (by rfl) ?_; dsimp only)); refine Kd.R_lit (Kd.int .i64) _ 3 ?hg (N := 49) ?hd (xs := ([] : List Int)) (inner := []) (ok := fun _ => True) (okp := fun _ => True) ?hr ?hp (fun _ hk => hk) trivial (Below.refl _ _) (Nat.le_refl _) (by simp) ?_; (case hd => rfl); (case hg => rfl); (case hr => first | (go_simp; done) | (go_simp; rfl)); (case hp => exact (Reps.none _ _)); intro v30026 w28 ho29 hb hg_ hnew_; clear hg_ hnew_; (first | rw [← Ny30025.out] at ho29 | (simp only [Int.reduceToNat] at ho29; rw [← Ny30025.out] at ho29)); have n0_ := Aside0.mk (Kd.R_elder' (by (with_reducible repeat (first | apply Kd.R_alloc | apply Kd.R_drewN | apply Kd.R_drew)); exact (Kd.R_mono (Kd.R_far (p := ⟨gb30024, 2, none⟩) (Kd.R_far (p := ⟨gb30024, 1, none⟩) (Kd.R_far (p := ⟨gb30024, 0, none⟩) (Kd.R_types HO30006.out BK30024.out (by decide)) (fun _ hk => hk.2) (.string t30020)) (fun _ hk => hk.2) (.string t30021)) (fun _ hk => hk.2) (.int .i64 t30022)) (fun _ h_ => h_.1))) (Kd.R_base ho29) hb); have n1_ := Aside0.mk (Kd.R_elder' (by (with_reducible repeat (first | apply Kd.R_alloc | apply Kd.R_drewN | apply Kd.R_drew)); exact (Kd.R_mono (Kd.R_far (p := ⟨gb30024, 2, none⟩) (Kd.R_far (p := ⟨gb30024, 1, none⟩) (Kd.R_far (p := ⟨gb30024, 0, none⟩) (Kd.R_types HO30013.out BK30024.out (by decide)) (fun _ hk => hk.2) (.string t30020)) (fun _ hk => hk.2) (.string t30021)) (fun _ hk => hk.2) (.int .i64 t30022)) (fun _ h_ => h_.1))) (Kd.R_base ho29) hb); have n2_ := Aside0.mk (Kd.R_lower (Kd.R_new' (Kd.R_new' ho29 (Kd.R_lt (by (with_reducible repeat (first | apply Kd.R_alloc | apply Kd.R_drewN | apply Kd.R_drew)); exact (Kd.R_mono (Kd.R_far (p := ⟨gb30024, 2, none⟩) (Kd.R_far (p := ⟨gb30024, 1, none⟩) (Kd.R_far (p := ⟨gb30024, 0, none⟩) (Kd.R_types HO30006.out BK30024.out (by decide)) (fun _ hk => hk.2) (.string t30020)) (fun _ hk => hk.2) (.string t30021)) (fun _ hk => hk.2) (.int .i64 t30022)) (fun _ h_ => h_.1))))) (Kd.R_lt (by (with_reducible repeat (first | apply Kd.R_alloc | apply Kd.R_drewN | apply Kd.R_drew)); exact (Kd.R_mono (Kd.R_far (p := ⟨gb30024, 2, none⟩) (Kd.R_far (p := ⟨gb30024, 1, none⟩) (Kd.R_far (p := ⟨gb30024, 0, none⟩) (Kd.R_types HO30013.out BK30024.out (by decide)) (fun _ hk => hk.2) (.string t30020)) (fun _ hk => hk.2) (.string t30021)) (fun _ hk => hk.2) (.int .i64 t30022)) (fun _ h_ => h_.1))))) (below_size (by repeat (first | (with_reducible first | exact HB.out | apply below_alloc | apply pw_below_drewN | apply below_drew1 | refine below_set ?_ GE30007.out | refine below_set ?_ GE30014.out | refine below_set ?_ GE30019.out | refine below_set ?_ GE30024.out) | exact HB.out)))); have n3_ := Aside0.mk (blk_below (g := gb30007) (o := .cells #[.string t30001, .string t30002, .int .i64 t30003] 24 (0, 0)) (by (with_reducible repeat (first | refine blk_drewN ?_ _ | refine blk_drew ?_ | refine blk_alloc ?_ _)); refine blk_far ?_ NB30007_30024.out _; (with_reducible repeat (first | refine blk_drewN ?_ _ | refine blk_drew ?_ | refine blk_alloc ?_ _)); refine blk_far ?_ NB30007_30024.out _; (with_reducible repeat (first | refine blk_drewN ?_ _ | refine blk_drew ?_ | refine blk_alloc ?_ _)); refine blk_far ?_ NB30007_30024.out _; (with_reducible repeat (first | refine blk_drewN ?_ _ | refine blk_drew ?_ | refine blk_alloc ?_ _)); exact BK30007.out) hb); have n4_ := Aside0.mk (blk_below (g := gb30014) (o := .cells #[.string t30008, .string t30009, .int .i64 t30010] 24 (0, 0)) (by (with_reducible repeat (first | refine blk_drewN ?_ _ | refine blk_drew ?_ | refine blk_alloc ?_ _)); refine blk_far ?_ NB30014_30024.out _; (with_reducible repeat (first | refine blk_drewN ?_ _ | refine blk_drew ?_ | refine blk_alloc ?_ _)); refine blk_far ?_ NB30014_30024.out _; (with_reducible repeat (first | refine blk_drewN ?_ _ | refine blk_drew ?_ | refine blk_alloc ?_ _)); refine blk_far ?_ NB30014_30024.out _; (with_reducible repeat (first | refine blk_drewN ?_ _ | refine blk_drew ?_ | refine blk_alloc ?_ _)); exact BK30014.out) hb); have n5_ := Aside0.mk (blk_below (g := gb30019) (o := .cells #[.string t30015, .string t30016, .int .i64 t30017] 24 (0, 0)) (by (with_reducible repeat (first | refine blk_drewN ?_ _ | refine blk_drew ?_ | refine blk_alloc ?_ _)); refine blk_far ?_ NB30019_30024.out _; (with_reducible repeat (first | refine blk_drewN ?_ _ | refine blk_drew ?_ | refine blk_alloc ?_ _)); refine blk_far ?_ NB30019_30024.out _; (with_reducible repeat (first | refine blk_drewN ?_ _ | refine blk_drew ?_ | refine blk_alloc ?_ _)); refine blk_far ?_ NB30019_30024.out _; (with_reducible repeat (first | refine blk_drewN ?_ _ | refine blk_drew ?_ | refine blk_alloc ?_ _)); exact BK30019.out) hb); have n6_ := Aside0.mk (blk_below (g := gb30024) (o := .cells #[.string t30020, .string t30021, .int .i64 t30022] 24 (0, 0)) (by (with_reducible repeat (first | refine blk_drewN ?_ _ | refine blk_drew ?_ | refine blk_alloc ?_ _)); refine blk_put (cs := #[.string t30020, .string t30021, .int .i64 0]) ?_ 2 _ rfl; (with_reducible repeat (first | refine blk_drewN ?_ _ | refine blk_drew ?_ | refine blk_alloc ?_ _)); refine blk_put (cs := #[.string t30020, .string (⟨#[]⟩ : ByteArray), .int .i64 0]) ?_ 1 _ rfl; (with_reducible repeat (first | refine blk_drewN ?_ _ | refine blk_drew ?_ | refine blk_alloc ?_ _)); refine blk_put (cs := #[.string (⟨#[]⟩ : ByteArray), .string (⟨#[]⟩ : ByteArray), .int .i64 0]) ?_ 0 _ rfl; (with_reducible repeat (first | refine blk_drewN ?_ _ | refine blk_drew ?_ | refine blk_alloc ?_ _)); exact BK30024.out) hb); have n7_ := Aside0.mk (below_step (by repeat (first | (with_reducible first | exact HB.out | apply below_alloc | apply pw_below_drewN | apply below_drew1 | refine below_set ?_ GE30007.out | refine below_set ?_ GE30014.out | refine below_set ?_ GE30019.out | refine below_set ?_ GE30024.out) | exact HB.out)) hb); clear HO30006; clear HO30013; clear BK30007; clear BK30014; clear BK30019; clear BK30024; clear HB; have HO30006 := n0_; have HO30013 := n1_; have HO30027 := n2_; have BK30007 := n3_; have BK30014 := n4_; have BK30019 := n5_; have BK30024 := n6_; have HB := n7_; clear n0_ n1_ n2_ n3_ n4_ n5_ n6_ n7_; clear hb ho29))
    go_loopg [11, 12] k (fun kq v11 v12 w' => ∃ (x11_1 : List Int) (x12_1 : Int), v12 = .int .i64 x12_1 ∧ Aside0 (laws_FnCrash.l0 kq t30004 x11_1 x12_1 t30001 t30002 t30003 t30008 t30009 t30010 t30020 t30021 t30022 = some r) ∧ Aside0 (kq ≤ k) ∧ Aside0 (Kd.R (Kd.int .i64) 3 w' w.heap.size (fun k_ => some k_ ≠ (v11 : Value).ownBlock) v30005 t30004) ∧ Aside0 (Kd.R (Kd.int .i64) 3 w' w.heap.size (fun k_ => some k_ ≠ (v30005 : Value).ownBlock) v11 x11_1) ∧ Aside0 (w'.heap[gb30007]? = some (.cells #[.string t30001, .string t30002, .int .i64 t30003] 24 (0, 0))) ∧ Aside0 (w'.heap[gb30014]? = some (.cells #[.string t30008, .string t30009, .int .i64 t30010] 24 (0, 0))) ∧ Aside0 (w'.heap[gb30019]? = some (.cells #[.string t30015, .string t30016, .int .i64 t30017] 24 (0, 0))) ∧ Aside0 (w'.heap[gb30024]? = some (.cells #[.string t30020, .string t30021, .int .i64 t30022] 24 (0, 0))) ∧ Aside0 (Below w.heap.size w w'))
    case atStart => exact ⟨(y30025), (0), (by first | rfl | (simp; done) | (simp [*]; done)), H', ⟨Nat.le_refl _⟩, ⟨by (with_reducible repeat (first | apply Kd.R_alloc | apply Kd.R_drewN | apply Kd.R_drew)); exact Kd.R_mono HO30006.out (fun _ hk => hk.2)⟩, ⟨by (with_reducible repeat (first | apply Kd.R_alloc | apply Kd.R_drewN | apply Kd.R_drew)); exact Kd.R_mono HO30027.out (fun _ hk => hk.1.2)⟩, ⟨by (with_reducible repeat (first | refine blk_drewN ?_ _ | refine blk_drew ?_ | refine blk_alloc ?_ _)); exact BK30007.out⟩, ⟨by (with_reducible repeat (first | refine blk_drewN ?_ _ | refine blk_drew ?_ | refine blk_alloc ?_ _)); exact BK30014.out⟩, ⟨by (with_reducible repeat (first | refine blk_drewN ?_ _ | refine blk_drew ?_ | refine blk_alloc ?_ _)); exact BK30019.out⟩, ⟨by (with_reducible repeat (first | refine blk_drewN ?_ _ | refine blk_drew ?_ | refine blk_alloc ?_ _)); exact BK30024.out⟩, ⟨by repeat (first | (with_reducible first | exact HB.out | apply below_alloc | apply pw_below_drewN | apply below_drew1 | refine below_set ?_ GE30007.out | refine below_set ?_ GE30014.out | refine below_set ?_ GE30019.out | refine below_set ?_ GE30024.out) | exact HB.out)⟩⟩
    case round =>
     clear H'
     try clear c1
     try clear c2
     try clear c2b0
     try clear c2b1
     try clear p2
     try clear c3
     try clear c7
     try clear c7b0
     try clear c7b1
     try clear c8
     try clear c8b0
     try clear c8b1
     try clear c14
     try clear c18
     try clear c19
     try clear c24
     try clear c25
     try clear c26
     try clear hcz11_0
     try clear hcz11_1
     try clear hcz11_2
     try clear hcz15_0
     try clear hcz15_1
     try clear hcz15_2
     try clear hcz20_0
     try clear hcz20_1
     try clear hcz20_2
     try clear hcz21_0
     try clear hcz21_1
     try clear hcz21_2
     try clear hcz27_0
     try clear hcz27_1
     try clear hcz27_2
     try clear hfz11_0
     try clear hfz11_1
     try clear hfz11_2
     try clear hfz15_0
     try clear hfz15_1
     try clear hfz15_2
     try clear hfz20_0
     try clear hfz20_1
     try clear hfz20_2
     try clear hfz21_0
     try clear hfz21_1
     try clear hfz21_2
     try clear hfz27_0
     try clear hfz27_1
     try clear hfz27_2
     obtain ⟨x11_1, x12_1, rfl, HA, HK1, HO_4, HO_11, BK30007, BK30014, BK30019, BK30024, HB⟩ := hrel
     cases gk with
     | zero => exact absurd HA.out (by simp [laws_FnCrash.l0])
     | succ k1 =>
      have H := HA.out; clear HA; simp only [laws_FnCrash.l0] at H
      by_cases c30 : x12_1 ≤ (wrap64 ((t30009.size : Int) / 64))
      ·rw [if_pos c30] at H; have c30b0 : decide (x12_1 ≤ (wrap64 ((t30009.size : Int) / 64))) = true := decide_eq_true c30; clear c30
       by_cases c31 : x11_1.length < 17592186044416
       ·rw [if_pos c31] at H; have LMc31 := Aside0.mk c31; clear c31; obtain ⟨y30028, hy30028⟩ : ∃ y_ : List Int, y_ = (x11_1 ++ [64]) := ⟨_, rfl⟩
        replace H : (laws_FnCrash.l0 k1 t30004 y30028 (wrap64 (x12_1 + 1)) t30001 t30002 t30003 t30008 t30009 t30010 t30020 t30021 t30022) = some r := by first | (rw [hy30028]; with_reducible exact H) | (have H2_ := (Option.bind_some _ _).symm.trans H; rw [hy30028]; with_reducible exact H2_) | (have H2_ := (Option.bind_some _ _).symm.trans H; with_reducible exact H2_) | with_reducible exact H | (rw [hy30028]; exact H) | exact H
        have Ny30028 := Aside0.mk hy30028; clear hy30028; have H' := Aside0.mk H; clear H; have hnb32 := NB30014_30007.out; have hnc32 := NB30007_30014.out; have hnb33 := NB30014_30019.out; have hnc33 := NB30019_30014.out; have hnb34 := NB30014_30024.out; have hnc34 := NB30024_30014.out; have hcz35_0 : wr.cell? ⟨gb30014, 0, none⟩ = some (.string t30008) := (blk_cell BK30014.out 0).trans rfl; have hcz35_1 : wr.cell? ⟨gb30014, 1, none⟩ = some (.string t30009) := (blk_cell BK30014.out 1).trans rfl; have hcz35_2 : wr.cell? ⟨gb30014, 2, none⟩ = some (.int .i64 t30010) := (blk_cell BK30014.out 2).trans rfl; have hfz35_0 := blk_frozen BK30014.out 0; have hfz35_1 := blk_frozen BK30014.out 1; have hfz35_2 := blk_frozen BK30014.out 2
        go_wp2_with (first | ((with_reducible refine gate_builtin (b := .append) (xs := #[.tmp 58, .tmp 59]) rfl ?_); (try (refine gate_guard (by rfl) ?_; dsimp only)); at_builtin; refine Kd.R_append (Kd.int .i64) (w0 := w) w.heap.size rfl (.tmp 58) (.tmp 59) 25 3 (.int .i64 0) 8 rfl Try.underlying25 info3 rfl (by decide) (by omega) u11 x11_1 64 [.int .i64 64] (fun k_ => some k_ ≠ (v30005 : Value).ownBlock) (fun _ => False) rfl rfl ?aP (fun _ hk => hk.elim) ?aF ?aO ?aB ?aS ?aL ?_; (case aP => exact rfl); (case aB => exact (by repeat (first | (with_reducible first | exact HB.out | apply below_alloc | apply pw_below_drewN | apply below_drew1 | refine below_set ?_ GE30007.out | refine below_set ?_ GE30014.out | refine below_set ?_ GE30019.out | refine below_set ?_ GE30024.out) | exact HB.out))); (case aF => exact (fun k_ hk => Kd.fresh' (Kd.R_lt (by (with_reducible repeat (first | apply Kd.R_alloc | apply Kd.R_drewN | apply Kd.R_drew)); exact HO_4.out)) k_ hk)); (case aO => exact (by (with_reducible repeat (first | apply Kd.R_alloc | apply Kd.R_drewN | apply Kd.R_drew)); exact HO_11.out)); (case aS => exact (below_size (by repeat (first | (with_reducible first | exact HB.out | apply below_alloc | apply pw_below_drewN | apply below_drew1 | refine below_set ?_ GE30007.out | refine below_set ?_ GE30014.out | refine below_set ?_ GE30019.out | refine below_set ?_ GE30024.out) | exact HB.out)))); (case aL => have := LMc31.out; omega); intro v30029 w36 ho hb hg hat; rw [← Ny30028.out] at ho; have n0_ := Aside0.mk (Kd.R_after (ok := (fun _ => True)) (by (with_reducible repeat (first | apply Kd.R_alloc | apply Kd.R_drewN | apply Kd.R_drew)); exact Kd.R_mono HO_4.out (fun _ hk => ⟨trivial, hk⟩)) hg hat); have n1_ := Aside0.mk (blk_grown (g := gb30007) (o := .cells #[.string t30001, .string t30002, .int .i64 t30003] 24 (0, 0)) (by (with_reducible repeat (first | refine blk_drewN ?_ _ | refine blk_drew ?_ | refine blk_alloc ?_ _)); exact BK30007.out) hg (Kd.R_ne HO_11.out BK30007.out (by decide))); have n2_ := Aside0.mk (blk_grown (g := gb30014) (o := .cells #[.string t30008, .string t30009, .int .i64 t30010] 24 (0, 0)) (by (with_reducible repeat (first | refine blk_drewN ?_ _ | refine blk_drew ?_ | refine blk_alloc ?_ _)); exact BK30014.out) hg (Kd.R_ne HO_11.out BK30014.out (by decide))); have n3_ := Aside0.mk (blk_grown (g := gb30019) (o := .cells #[.string t30015, .string t30016, .int .i64 t30017] 24 (0, 0)) (by (with_reducible repeat (first | refine blk_drewN ?_ _ | refine blk_drew ?_ | refine blk_alloc ?_ _)); exact BK30019.out) hg (Kd.R_ne HO_11.out BK30019.out (by decide))); have n4_ := Aside0.mk (blk_grown (g := gb30024) (o := .cells #[.string t30020, .string t30021, .int .i64 t30022] 24 (0, 0)) (by (with_reducible repeat (first | refine blk_drewN ?_ _ | refine blk_drew ?_ | refine blk_alloc ?_ _)); exact BK30024.out) hg (Kd.R_ne HO_11.out BK30024.out (by decide))); have n5_ := Aside0.mk (hb); have n6_ := Aside0.mk (ho); clear HO_4; clear BK30007; clear BK30014; clear BK30019; clear BK30024; clear HB; clear HO_11; have HO_4 := n0_; have BK30007 := n1_; have BK30014 := n2_; have BK30019 := n3_; have BK30024 := n4_; have HB := n5_; have HO30030 := n6_; clear n0_ n1_ n2_ n3_ n4_ n5_ n6_; clear ho hb hg hat))
        repeat (go_quiet (first | ((with_reducible refine gate_builtin (b := .append) (xs := #[.tmp 58, .tmp 59]) rfl ?_); (try (refine gate_guard (by rfl) ?_; dsimp only)); at_builtin; refine Kd.R_append (Kd.int .i64) (w0 := w) w.heap.size rfl (.tmp 58) (.tmp 59) 25 3 (.int .i64 0) 8 rfl Try.underlying25 info3 rfl (by decide) (by omega) u11 x11_1 64 [.int .i64 64] (fun k_ => some k_ ≠ (v30005 : Value).ownBlock) (fun _ => False) rfl rfl ?aP (fun _ hk => hk.elim) ?aF ?aO ?aB ?aS ?aL ?_; (case aP => exact rfl); (case aB => exact (by repeat (first | (with_reducible first | exact HB.out | apply below_alloc | apply pw_below_drewN | apply below_drew1 | refine below_set ?_ GE30007.out | refine below_set ?_ GE30014.out | refine below_set ?_ GE30019.out | refine below_set ?_ GE30024.out) | exact HB.out))); (case aF => exact (fun k_ hk => Kd.fresh' (Kd.R_lt (by (with_reducible repeat (first | apply Kd.R_alloc | apply Kd.R_drewN | apply Kd.R_drew)); exact HO_4.out)) k_ hk)); (case aO => exact (by (with_reducible repeat (first | apply Kd.R_alloc | apply Kd.R_drewN | apply Kd.R_drew)); exact HO_11.out)); (case aS => exact (below_size (by repeat (first | (with_reducible first | exact HB.out | apply below_alloc | apply pw_below_drewN | apply below_drew1 | refine below_set ?_ GE30007.out | refine below_set ?_ GE30014.out | refine below_set ?_ GE30019.out | refine below_set ?_ GE30024.out) | exact HB.out)))); (case aL => have := LMc31.out; omega); intro v30029 w36 ho hb hg hat; rw [← Ny30028.out] at ho; have n0_ := Aside0.mk (Kd.R_after (ok := (fun _ => True)) (by (with_reducible repeat (first | apply Kd.R_alloc | apply Kd.R_drewN | apply Kd.R_drew)); exact Kd.R_mono HO_4.out (fun _ hk => ⟨trivial, hk⟩)) hg hat); have n1_ := Aside0.mk (blk_grown (g := gb30007) (o := .cells #[.string t30001, .string t30002, .int .i64 t30003] 24 (0, 0)) (by (with_reducible repeat (first | refine blk_drewN ?_ _ | refine blk_drew ?_ | refine blk_alloc ?_ _)); exact BK30007.out) hg (Kd.R_ne HO_11.out BK30007.out (by decide))); have n2_ := Aside0.mk (blk_grown (g := gb30014) (o := .cells #[.string t30008, .string t30009, .int .i64 t30010] 24 (0, 0)) (by (with_reducible repeat (first | refine blk_drewN ?_ _ | refine blk_drew ?_ | refine blk_alloc ?_ _)); exact BK30014.out) hg (Kd.R_ne HO_11.out BK30014.out (by decide))); have n3_ := Aside0.mk (blk_grown (g := gb30019) (o := .cells #[.string t30015, .string t30016, .int .i64 t30017] 24 (0, 0)) (by (with_reducible repeat (first | refine blk_drewN ?_ _ | refine blk_drew ?_ | refine blk_alloc ?_ _)); exact BK30019.out) hg (Kd.R_ne HO_11.out BK30019.out (by decide))); have n4_ := Aside0.mk (blk_grown (g := gb30024) (o := .cells #[.string t30020, .string t30021, .int .i64 t30022] 24 (0, 0)) (by (with_reducible repeat (first | refine blk_drewN ?_ _ | refine blk_drew ?_ | refine blk_alloc ?_ _)); exact BK30024.out) hg (Kd.R_ne HO_11.out BK30024.out (by decide))); have n5_ := Aside0.mk (hb); have n6_ := Aside0.mk (ho); clear HO_4; clear BK30007; clear BK30014; clear BK30019; clear BK30024; clear HB; clear HO_11; have HO_4 := n0_; have BK30007 := n1_; have BK30014 := n2_; have BK30019 := n3_; have BK30024 := n4_; have HB := n5_; have HO30030 := n6_; clear n0_ n1_ n2_ n3_ n4_ n5_ n6_; clear ho hb hg hat)); try go_wp2_with (first | ((with_reducible refine gate_builtin (b := .append) (xs := #[.tmp 58, .tmp 59]) rfl ?_); (try (refine gate_guard (by rfl) ?_; dsimp only)); at_builtin; refine Kd.R_append (Kd.int .i64) (w0 := w) w.heap.size rfl (.tmp 58) (.tmp 59) 25 3 (.int .i64 0) 8 rfl Try.underlying25 info3 rfl (by decide) (by omega) u11 x11_1 64 [.int .i64 64] (fun k_ => some k_ ≠ (v30005 : Value).ownBlock) (fun _ => False) rfl rfl ?aP (fun _ hk => hk.elim) ?aF ?aO ?aB ?aS ?aL ?_; (case aP => exact rfl); (case aB => exact (by repeat (first | (with_reducible first | exact HB.out | apply below_alloc | apply pw_below_drewN | apply below_drew1 | refine below_set ?_ GE30007.out | refine below_set ?_ GE30014.out | refine below_set ?_ GE30019.out | refine below_set ?_ GE30024.out) | exact HB.out))); (case aF => exact (fun k_ hk => Kd.fresh' (Kd.R_lt (by (with_reducible repeat (first | apply Kd.R_alloc | apply Kd.R_drewN | apply Kd.R_drew)); exact HO_4.out)) k_ hk)); (case aO => exact (by (with_reducible repeat (first | apply Kd.R_alloc | apply Kd.R_drewN | apply Kd.R_drew)); exact HO_11.out)); (case aS => exact (below_size (by repeat (first | (with_reducible first | exact HB.out | apply below_alloc | apply pw_below_drewN | apply below_drew1 | refine below_set ?_ GE30007.out | refine below_set ?_ GE30014.out | refine below_set ?_ GE30019.out | refine below_set ?_ GE30024.out) | exact HB.out)))); (case aL => have := LMc31.out; omega); intro v30029 w36 ho hb hg hat; rw [← Ny30028.out] at ho; have n0_ := Aside0.mk (Kd.R_after (ok := (fun _ => True)) (by (with_reducible repeat (first | apply Kd.R_alloc | apply Kd.R_drewN | apply Kd.R_drew)); exact Kd.R_mono HO_4.out (fun _ hk => ⟨trivial, hk⟩)) hg hat); have n1_ := Aside0.mk (blk_grown (g := gb30007) (o := .cells #[.string t30001, .string t30002, .int .i64 t30003] 24 (0, 0)) (by (with_reducible repeat (first | refine blk_drewN ?_ _ | refine blk_drew ?_ | refine blk_alloc ?_ _)); exact BK30007.out) hg (Kd.R_ne HO_11.out BK30007.out (by decide))); have n2_ := Aside0.mk (blk_grown (g := gb30014) (o := .cells #[.string t30008, .string t30009, .int .i64 t30010] 24 (0, 0)) (by (with_reducible repeat (first | refine blk_drewN ?_ _ | refine blk_drew ?_ | refine blk_alloc ?_ _)); exact BK30014.out) hg (Kd.R_ne HO_11.out BK30014.out (by decide))); have n3_ := Aside0.mk (blk_grown (g := gb30019) (o := .cells #[.string t30015, .string t30016, .int .i64 t30017] 24 (0, 0)) (by (with_reducible repeat (first | refine blk_drewN ?_ _ | refine blk_drew ?_ | refine blk_alloc ?_ _)); exact BK30019.out) hg (Kd.R_ne HO_11.out BK30019.out (by decide))); have n4_ := Aside0.mk (blk_grown (g := gb30024) (o := .cells #[.string t30020, .string t30021, .int .i64 t30022] 24 (0, 0)) (by (with_reducible repeat (first | refine blk_drewN ?_ _ | refine blk_drew ?_ | refine blk_alloc ?_ _)); exact BK30024.out) hg (Kd.R_ne HO_11.out BK30024.out (by decide))); have n5_ := Aside0.mk (hb); have n6_ := Aside0.mk (ho); clear HO_4; clear BK30007; clear BK30014; clear BK30019; clear BK30024; clear HB; clear HO_11; have HO_4 := n0_; have BK30007 := n1_; have BK30014 := n2_; have BK30019 := n3_; have BK30024 := n4_; have HB := n5_; have HO30030 := n6_; clear n0_ n1_ n2_ n3_ n4_ n5_ n6_; clear ho hb hg hat)))
        go_roundg k1
        case measure => have := HK1.out; omega
        case rel => exact ⟨(y30028), (wrap64 (x12_1 + 1)), (by first | rfl | (simp; done) | (simp [*]; done)), H', ⟨by have := HK1.out; omega⟩, ⟨by (with_reducible repeat (first | apply Kd.R_alloc | apply Kd.R_drewN | apply Kd.R_drew)); exact Kd.R_mono HO_4.out (fun _ hk => hk.2)⟩, ⟨by (with_reducible repeat (first | apply Kd.R_alloc | apply Kd.R_drewN | apply Kd.R_drew)); exact HO30030.out⟩, ⟨by (with_reducible repeat (first | refine blk_drewN ?_ _ | refine blk_drew ?_ | refine blk_alloc ?_ _)); exact BK30007.out⟩, ⟨by (with_reducible repeat (first | refine blk_drewN ?_ _ | refine blk_drew ?_ | refine blk_alloc ?_ _)); exact BK30014.out⟩, ⟨by (with_reducible repeat (first | refine blk_drewN ?_ _ | refine blk_drew ?_ | refine blk_alloc ?_ _)); exact BK30019.out⟩, ⟨by (with_reducible repeat (first | refine blk_drewN ?_ _ | refine blk_drew ?_ | refine blk_alloc ?_ _)); exact BK30024.out⟩, ⟨by repeat (first | (with_reducible first | exact HB.out | apply below_alloc | apply pw_below_drewN | apply below_drew1 | refine below_set ?_ GE30007.out | refine below_set ?_ GE30014.out | refine below_set ?_ GE30019.out | refine below_set ?_ GE30024.out) | exact HB.out)⟩⟩
       ·rw [if_neg c31] at H; exact absurd H (by simp)
      ·rw [if_neg c30] at H; have c30b0 : decide (x12_1 ≤ (wrap64 ((t30009.size : Int) / 64))) = false := decide_eq_false c30; clear c30; obtain ⟨y30031, hy30031⟩ : ∃ y_ : List Int, y_ = (([] : List Int)) := ⟨_, rfl⟩
       replace H : ((impl_DiskCrash.f t30001 t30002 t30003 y30031).bind fun bt30034 => ((impl_DiskCrash.f t30001 t30002 t30003 x11_1).bind fun bt30038 => ((impl_DiskCrash.f t30001 t30002 t30003 t30004).bind fun bt30042 => ((impl_DiskCrash.f bt30042.1 bt30042.2.1 bt30042.2.2 t30004).bind fun bt30046 => (if bt30034.2.1.toList = t30008.toList then (if bt30038.2.1.toList = t30009.toList then (if bt30034.2.2 = t30010 then (if bt30046.2.1.toList = bt30042.2.1.toList then (laws_FnCrash.j1 k1 (bt30042.1.toList != bt30042.2.1.toList) t30001 t30002 t30003 t30008 t30009 t30010 t30020 t30021 t30022 bt30042.1 bt30042.2.1 bt30042.2.2) else (none)) else (none)) else (none)) else (none)))))) = some r := by first | (rw [hy30031]; with_reducible exact H) | (have H2_ := (Option.bind_some _ _).symm.trans H; rw [hy30031]; with_reducible exact H2_) | (have H2_ := (Option.bind_some _ _).symm.trans H; with_reducible exact H2_) | with_reducible exact H | (rw [hy30031]; exact H) | exact H
       have Ny30031 := Aside0.mk hy30031; clear hy30031; replace H := Option.bind_eq_some_iff.mp H; obtain ⟨⟨t30034, t30035, t30036⟩, A370, H⟩ := H; replace H : ((impl_DiskCrash.f t30001 t30002 t30003 x11_1).bind fun bt30038 => ((impl_DiskCrash.f t30001 t30002 t30003 t30004).bind fun bt30042 => ((impl_DiskCrash.f bt30042.1 bt30042.2.1 bt30042.2.2 t30004).bind fun bt30046 => (if t30035.toList = t30008.toList then (if bt30038.2.1.toList = t30009.toList then (if t30036 = t30010 then (if bt30046.2.1.toList = bt30042.2.1.toList then (laws_FnCrash.j1 k1 (bt30042.1.toList != bt30042.2.1.toList) t30001 t30002 t30003 t30008 t30009 t30010 t30020 t30021 t30022 bt30042.1 bt30042.2.1 bt30042.2.2) else (none)) else (none)) else (none)) else (none))))) = some r := H; have A37 := Aside0.mk A370; clear A370; replace H := Option.bind_eq_some_iff.mp H; obtain ⟨⟨t30038, t30039, t30040⟩, A380, H⟩ := H; replace H : ((impl_DiskCrash.f t30001 t30002 t30003 t30004).bind fun bt30042 => ((impl_DiskCrash.f bt30042.1 bt30042.2.1 bt30042.2.2 t30004).bind fun bt30046 => (if t30035.toList = t30008.toList then (if t30039.toList = t30009.toList then (if t30036 = t30010 then (if bt30046.2.1.toList = bt30042.2.1.toList then (laws_FnCrash.j1 k1 (bt30042.1.toList != bt30042.2.1.toList) t30001 t30002 t30003 t30008 t30009 t30010 t30020 t30021 t30022 bt30042.1 bt30042.2.1 bt30042.2.2) else (none)) else (none)) else (none)) else (none)))) = some r := H; have A38 := Aside0.mk A380; clear A380; replace H := Option.bind_eq_some_iff.mp H; obtain ⟨⟨t30042, t30043, t30044⟩, A390, H⟩ := H; replace H : ((impl_DiskCrash.f t30042 t30043 t30044 t30004).bind fun bt30046 => (if t30035.toList = t30008.toList then (if t30039.toList = t30009.toList then (if t30036 = t30010 then (if bt30046.2.1.toList = t30043.toList then (laws_FnCrash.j1 k1 (t30042.toList != t30043.toList) t30001 t30002 t30003 t30008 t30009 t30010 t30020 t30021 t30022 t30042 t30043 t30044) else (none)) else (none)) else (none)) else (none))) = some r := H; have A39 := Aside0.mk A390; clear A390; replace H := Option.bind_eq_some_iff.mp H; obtain ⟨⟨t30046, t30047, t30048⟩, A400, H⟩ := H; replace H : (if t30035.toList = t30008.toList then (if t30039.toList = t30009.toList then (if t30036 = t30010 then (if t30047.toList = t30043.toList then (laws_FnCrash.j1 k1 (t30042.toList != t30043.toList) t30001 t30002 t30003 t30008 t30009 t30010 t30020 t30021 t30022 t30042 t30043 t30044) else (none)) else (none)) else (none)) else (none)) = some r := H
       have A40 := Aside0.mk A400; clear A400; have HC41 := Aside0.mk H; clear H; have hnb42 := NB30014_30007.out; have hnc42 := NB30007_30014.out; have hnb43 := NB30014_30019.out; have hnc43 := NB30019_30014.out; have hnb44 := NB30014_30024.out; have hnc44 := NB30024_30014.out; have hcz45_0 : wr.cell? ⟨gb30014, 0, none⟩ = some (.string t30008) := (blk_cell BK30014.out 0).trans rfl; have hcz45_1 : wr.cell? ⟨gb30014, 1, none⟩ = some (.string t30009) := (blk_cell BK30014.out 1).trans rfl; have hcz45_2 : wr.cell? ⟨gb30014, 2, none⟩ = some (.int .i64 t30010) := (blk_cell BK30014.out 2).trans rfl; have hfz45_0 := blk_frozen BK30014.out 0; have hfz45_1 := blk_frozen BK30014.out 1; have hfz45_2 := blk_frozen BK30014.out 2; have hnb46 := NB30007_30019.out; have hnc46 := NB30019_30007.out; have hnb47 := NB30007_30024.out; have hnc47 := NB30024_30007.out; have hcz48_0 : wr.cell? ⟨gb30007, 0, none⟩ = some (.string t30001) := (blk_cell BK30007.out 0).trans rfl; have hcz48_1 : wr.cell? ⟨gb30007, 1, none⟩ = some (.string t30002) := (blk_cell BK30007.out 1).trans rfl; have hcz48_2 : wr.cell? ⟨gb30007, 2, none⟩ = some (.int .i64 t30003) := (blk_cell BK30007.out 2).trans rfl; have hfz48_0 := blk_frozen BK30007.out 0; have hfz48_1 := blk_frozen BK30007.out 1; have hfz48_2 := blk_frozen BK30007.out 2
       go_upto_region 20 with (first | ((with_reducible refine gate_dst (N := 62) rfl ?_); (try (refine gate_guard (by rfl) ?_; dsimp only)); refine Kd.R_lit (Kd.int .i64) _ 3 ?hg (N := 62) ?hd (xs := ([] : List Int)) (inner := []) (ok := fun _ => True) (okp := fun _ => True) ?hr ?hp (fun _ hk => hk) trivial (Below.refl _ _) (Nat.le_refl _) (by simp) ?_; (case hd => rfl); (case hg => rfl); (case hr => first | (go_simp; done) | (go_simp; rfl)); (case hp => exact (Reps.none _ _)); intro v30032 w49 ho50 hb hg_ hnew_; clear hg_ hnew_; (first | rw [← Ny30031.out] at ho50 | (simp only [Int.reduceToNat] at ho50; rw [← Ny30031.out] at ho50)); have n0_ := Aside0.mk (Kd.R_elder' (by (with_reducible repeat (first | apply Kd.R_alloc | apply Kd.R_drewN | apply Kd.R_drew)); exact HO_4.out) (Kd.R_base ho50) hb); have n1_ := Aside0.mk (Kd.R_elder' (by (with_reducible repeat (first | apply Kd.R_alloc | apply Kd.R_drewN | apply Kd.R_drew)); exact HO_11.out) (Kd.R_base ho50) hb); have n2_ := Aside0.mk (Kd.R_lower (Kd.R_new' (Kd.R_new' ho50 (Kd.R_lt (by (with_reducible repeat (first | apply Kd.R_alloc | apply Kd.R_drewN | apply Kd.R_drew)); exact HO_4.out))) (Kd.R_lt (by (with_reducible repeat (first | apply Kd.R_alloc | apply Kd.R_drewN | apply Kd.R_drew)); exact HO_11.out))) (below_size (by repeat (first | (with_reducible first | exact HB.out | apply below_alloc | apply pw_below_drewN | apply below_drew1 | refine below_set ?_ GE30007.out | refine below_set ?_ GE30014.out | refine below_set ?_ GE30019.out | refine below_set ?_ GE30024.out) | exact HB.out)))); have n3_ := Aside0.mk (blk_below (g := gb30007) (o := .cells #[.string t30001, .string t30002, .int .i64 t30003] 24 (0, 0)) (by (with_reducible repeat (first | refine blk_drewN ?_ _ | refine blk_drew ?_ | refine blk_alloc ?_ _)); exact BK30007.out) hb); have n4_ := Aside0.mk (blk_below (g := gb30014) (o := .cells #[.string t30008, .string t30009, .int .i64 t30010] 24 (0, 0)) (by (with_reducible repeat (first | refine blk_drewN ?_ _ | refine blk_drew ?_ | refine blk_alloc ?_ _)); exact BK30014.out) hb); have n5_ := Aside0.mk (blk_below (g := gb30019) (o := .cells #[.string t30015, .string t30016, .int .i64 t30017] 24 (0, 0)) (by (with_reducible repeat (first | refine blk_drewN ?_ _ | refine blk_drew ?_ | refine blk_alloc ?_ _)); exact BK30019.out) hb); have n6_ := Aside0.mk (blk_below (g := gb30024) (o := .cells #[.string t30020, .string t30021, .int .i64 t30022] 24 (0, 0)) (by (with_reducible repeat (first | refine blk_drewN ?_ _ | refine blk_drew ?_ | refine blk_alloc ?_ _)); exact BK30024.out) hb); have n7_ := Aside0.mk (below_step (by repeat (first | (with_reducible first | exact HB.out | apply below_alloc | apply pw_below_drewN | apply below_drew1 | refine below_set ?_ GE30007.out | refine below_set ?_ GE30014.out | refine below_set ?_ GE30019.out | refine below_set ?_ GE30024.out) | exact HB.out)) hb); clear HO_4; clear HO_11; clear BK30007; clear BK30014; clear BK30019; clear BK30024; clear HB; have HO_4 := n0_; have HO_11 := n1_; have HO30033 := n2_; have BK30007 := n3_; have BK30014 := n4_; have BK30019 := n5_; have BK30024 := n6_; have HB := n7_; clear n0_ n1_ n2_ n3_ n4_ n5_ n6_ n7_; clear hb ho50; obtain ⟨Ao51, co51, eo51⟩ := Kd.R_slice HO30033.out; subst eo51) | (go_at_call 7; (with_reducible refine (impl_DiskCrash.calls t30001 t30002 t30003 _ _ y30031 t30034 t30035 t30036 _ ?side1 ?side2 A37.out).mono ?_); (case side1 => repeat (first | exact (Kd.R_reads' HO30033.out).2.2 | (with_reducible refine Kd.C_alloc ?_ _) | (with_reducible refine Kd.C_drewN ?_ _) | (with_reducible refine Kd.C_drew ?_))); (case side2 => exact (Kd.R_reads' HO30033.out).2.1); rintro e w52 ⟨rfl, hb⟩; have n0_ := Aside0.mk (Kd.R_below (by (with_reducible repeat (first | apply Kd.R_alloc | apply Kd.R_drewN | apply Kd.R_drew)); exact HO_4.out) hb); have n1_ := Aside0.mk (Kd.R_below (by (with_reducible repeat (first | apply Kd.R_alloc | apply Kd.R_drewN | apply Kd.R_drew)); exact HO_11.out) hb); have n2_ := Aside0.mk (Kd.R_below (by (with_reducible repeat (first | apply Kd.R_alloc | apply Kd.R_drewN | apply Kd.R_drew)); exact HO30033.out) hb); have n3_ := Aside0.mk (blk_below (g := gb30007) (o := .cells #[.string t30001, .string t30002, .int .i64 t30003] 24 (0, 0)) (by (with_reducible repeat (first | refine blk_drewN ?_ _ | refine blk_drew ?_ | refine blk_alloc ?_ _)); exact BK30007.out) hb); have n4_ := Aside0.mk (blk_below (g := gb30014) (o := .cells #[.string t30008, .string t30009, .int .i64 t30010] 24 (0, 0)) (by (with_reducible repeat (first | refine blk_drewN ?_ _ | refine blk_drew ?_ | refine blk_alloc ?_ _)); exact BK30014.out) hb); have n5_ := Aside0.mk (blk_below (g := gb30019) (o := .cells #[.string t30015, .string t30016, .int .i64 t30017] 24 (0, 0)) (by (with_reducible repeat (first | refine blk_drewN ?_ _ | refine blk_drew ?_ | refine blk_alloc ?_ _)); exact BK30019.out) hb); have n6_ := Aside0.mk (blk_below (g := gb30024) (o := .cells #[.string t30020, .string t30021, .int .i64 t30022] 24 (0, 0)) (by (with_reducible repeat (first | refine blk_drewN ?_ _ | refine blk_drew ?_ | refine blk_alloc ?_ _)); exact BK30024.out) hb); have n7_ := Aside0.mk (below_step (by repeat (first | (with_reducible first | exact HB.out | apply below_alloc | apply pw_below_drewN | apply below_drew1 | refine below_set ?_ GE30007.out | refine below_set ?_ GE30014.out | refine below_set ?_ GE30019.out | refine below_set ?_ GE30024.out) | exact HB.out)) hb); clear HO_4; clear HO_11; clear HO30033; clear BK30007; clear BK30014; clear BK30019; clear BK30024; clear HB; have HO_4 := n0_; have HO_11 := n1_; have HO30033 := n2_; have BK30007 := n3_; have BK30014 := n4_; have BK30019 := n5_; have BK30024 := n6_; have HB := n7_; clear n0_ n1_ n2_ n3_ n4_ n5_ n6_ n7_; (try clear hb); (try clear hb2); (try clear hk); (try clear hi)) | ((with_reducible refine gate_dst (N := 13) rfl ?_); (try (refine gate_guard (by rfl) ?_; dsimp only)); refine box_event ?hg (N := 13) ?hd (cs := #[.string (⟨#[]⟩ : ByteArray), .string (⟨#[]⟩ : ByteArray), .int .i64 0]) (t := 24) ?hr ?_; (case hd => rfl); (case hg => rfl); (case hr => first | (go_simp; done) | (go_simp; rfl)); intro gb30037 hg w53 hbox hb; have n0_ := Aside0.mk (Kd.R_below (by (with_reducible repeat (first | apply Kd.R_alloc | apply Kd.R_drewN | apply Kd.R_drew)); exact HO_4.out) hb); have n1_ := Aside0.mk (Kd.R_below (by (with_reducible repeat (first | apply Kd.R_alloc | apply Kd.R_drewN | apply Kd.R_drew)); exact HO_11.out) hb); have n2_ := Aside0.mk (Kd.R_below (by (with_reducible repeat (first | apply Kd.R_alloc | apply Kd.R_drewN | apply Kd.R_drew)); exact HO30033.out) hb); have n3_ := Aside0.mk (blk_below (g := gb30007) (o := .cells #[.string t30001, .string t30002, .int .i64 t30003] 24 (0, 0)) (by (with_reducible repeat (first | refine blk_drewN ?_ _ | refine blk_drew ?_ | refine blk_alloc ?_ _)); exact BK30007.out) hb); have n4_ := Aside0.mk (blk_below (g := gb30014) (o := .cells #[.string t30008, .string t30009, .int .i64 t30010] 24 (0, 0)) (by (with_reducible repeat (first | refine blk_drewN ?_ _ | refine blk_drew ?_ | refine blk_alloc ?_ _)); exact BK30014.out) hb); have n5_ := Aside0.mk (blk_below (g := gb30019) (o := .cells #[.string t30015, .string t30016, .int .i64 t30017] 24 (0, 0)) (by (with_reducible repeat (first | refine blk_drewN ?_ _ | refine blk_drew ?_ | refine blk_alloc ?_ _)); exact BK30019.out) hb); have n6_ := Aside0.mk (blk_below (g := gb30024) (o := .cells #[.string t30020, .string t30021, .int .i64 t30022] 24 (0, 0)) (by (with_reducible repeat (first | refine blk_drewN ?_ _ | refine blk_drew ?_ | refine blk_alloc ?_ _)); exact BK30024.out) hb); have n7_ := Aside0.mk (below_step (by repeat (first | (with_reducible first | exact HB.out | apply below_alloc | apply pw_below_drewN | apply below_drew1 | refine below_set ?_ GE30007.out | refine below_set ?_ GE30014.out | refine below_set ?_ GE30019.out | refine below_set ?_ GE30024.out) | exact HB.out)) hb); have n8_ := Aside0.mk (hbox); have n9_ := Aside0.mk ((by rw [hg]; exact (below_size (by repeat (first | (with_reducible first | exact HB.out | apply below_alloc | apply pw_below_drewN | apply below_drew1 | refine below_set ?_ GE30007.out | refine below_set ?_ GE30014.out | refine below_set ?_ GE30019.out | refine below_set ?_ GE30024.out) | exact HB.out))) : w.heap.size ≤ gb30037)); have n10_ := Aside0.mk ((by rw [hg]; exact (below_size (by repeat (first | (with_reducible first | exact HB.out | apply below_alloc | apply pw_below_drewN | apply below_drew1 | refine below_set ?_ GE30007.out | refine below_set ?_ GE30014.out | refine below_set ?_ GE30019.out | refine below_set ?_ GE30024.out) | exact HB.out))) : w.heap.size ≤ gb30037)); have n11_ := Aside0.mk ((by rw [hg]; exact Nat.ne_of_lt (blk_lt (g := gb30007) (o := .cells #[.string t30001, .string t30002, .int .i64 t30003] 24 (0, 0)) (by (with_reducible repeat (first | refine blk_drewN ?_ _ | refine blk_drew ?_ | refine blk_alloc ?_ _)); exact BK30007.out)) : gb30007 ≠ gb30037)); have n12_ := Aside0.mk ((by rw [hg]; exact Nat.ne_of_gt (blk_lt (g := gb30007) (o := .cells #[.string t30001, .string t30002, .int .i64 t30003] 24 (0, 0)) (by (with_reducible repeat (first | refine blk_drewN ?_ _ | refine blk_drew ?_ | refine blk_alloc ?_ _)); exact BK30007.out)) : gb30037 ≠ gb30007)); have n13_ := Aside0.mk ((by rw [hg]; exact Nat.ne_of_lt (blk_lt (g := gb30014) (o := .cells #[.string t30008, .string t30009, .int .i64 t30010] 24 (0, 0)) (by (with_reducible repeat (first | refine blk_drewN ?_ _ | refine blk_drew ?_ | refine blk_alloc ?_ _)); exact BK30014.out)) : gb30014 ≠ gb30037)); have n14_ := Aside0.mk ((by rw [hg]; exact Nat.ne_of_gt (blk_lt (g := gb30014) (o := .cells #[.string t30008, .string t30009, .int .i64 t30010] 24 (0, 0)) (by (with_reducible repeat (first | refine blk_drewN ?_ _ | refine blk_drew ?_ | refine blk_alloc ?_ _)); exact BK30014.out)) : gb30037 ≠ gb30014)); have n15_ := Aside0.mk ((by rw [hg]; exact Nat.ne_of_lt (blk_lt (g := gb30019) (o := .cells #[.string t30015, .string t30016, .int .i64 t30017] 24 (0, 0)) (by (with_reducible repeat (first | refine blk_drewN ?_ _ | refine blk_drew ?_ | refine blk_alloc ?_ _)); exact BK30019.out)) : gb30019 ≠ gb30037)); have n16_ := Aside0.mk ((by rw [hg]; exact Nat.ne_of_gt (blk_lt (g := gb30019) (o := .cells #[.string t30015, .string t30016, .int .i64 t30017] 24 (0, 0)) (by (with_reducible repeat (first | refine blk_drewN ?_ _ | refine blk_drew ?_ | refine blk_alloc ?_ _)); exact BK30019.out)) : gb30037 ≠ gb30019)); have n17_ := Aside0.mk ((by rw [hg]; exact Nat.ne_of_lt (blk_lt (g := gb30024) (o := .cells #[.string t30020, .string t30021, .int .i64 t30022] 24 (0, 0)) (by (with_reducible repeat (first | refine blk_drewN ?_ _ | refine blk_drew ?_ | refine blk_alloc ?_ _)); exact BK30024.out)) : gb30024 ≠ gb30037)); have n18_ := Aside0.mk ((by rw [hg]; exact Nat.ne_of_gt (blk_lt (g := gb30024) (o := .cells #[.string t30020, .string t30021, .int .i64 t30022] 24 (0, 0)) (by (with_reducible repeat (first | refine blk_drewN ?_ _ | refine blk_drew ?_ | refine blk_alloc ?_ _)); exact BK30024.out)) : gb30037 ≠ gb30024)); clear HO_4; clear HO_11; clear HO30033; clear BK30007; clear BK30014; clear BK30019; clear BK30024; clear HB; have HO_4 := n0_; have HO_11 := n1_; have HO30033 := n2_; have BK30007 := n3_; have BK30014 := n4_; have BK30019 := n5_; have BK30024 := n6_; have HB := n7_; have BK30037 := n8_; have GW30037 := n9_; have GE30037 := n10_; have NB30007_30037 := n11_; have NB30037_30007 := n12_; have NB30014_30037 := n13_; have NB30037_30014 := n14_; have NB30019_30037 := n15_; have NB30037_30019 := n16_; have NB30024_30037 := n17_; have NB30037_30024 := n18_; clear n0_ n1_ n2_ n3_ n4_ n5_ n6_ n7_ n8_ n9_ n10_ n11_ n12_ n13_ n14_ n15_ n16_ n17_ n18_; clear hb hbox hg; have hnb54 := NB30037_30007.out; have hnc54 := NB30007_30037.out; have hnb55 := NB30037_30014.out; have hnc55 := NB30014_30037.out; have hnb56 := NB30037_30019.out; have hnc56 := NB30019_30037.out; have hnb57 := NB30037_30024.out; have hnc57 := NB30024_30037.out; have hcz58_0 : w53.cell? ⟨gb30037, 0, none⟩ = some (.string (⟨#[]⟩ : ByteArray)) := (blk_cell BK30037.out 0).trans rfl; have hcz58_1 : w53.cell? ⟨gb30037, 1, none⟩ = some (.string (⟨#[]⟩ : ByteArray)) := (blk_cell BK30037.out 1).trans rfl; have hcz58_2 : w53.cell? ⟨gb30037, 2, none⟩ = some (.int .i64 0) := (blk_cell BK30037.out 2).trans rfl; have hfz58_0 := blk_frozen BK30037.out 0; have hfz58_1 := blk_frozen BK30037.out 1; have hfz58_2 := blk_frozen BK30037.out 2; have hcz59_0 : w53.cell? ⟨gb30007, 0, none⟩ = some (.string t30001) := (blk_cell BK30007.out 0).trans rfl; have hcz59_1 : w53.cell? ⟨gb30007, 1, none⟩ = some (.string t30002) := (blk_cell BK30007.out 1).trans rfl; have hcz59_2 : w53.cell? ⟨gb30007, 2, none⟩ = some (.int .i64 t30003) := (blk_cell BK30007.out 2).trans rfl; have hfz59_0 := blk_frozen BK30007.out 0; have hfz59_1 := blk_frozen BK30007.out 1; have hfz59_2 := blk_frozen BK30007.out 2; obtain ⟨Ao60, co60, eo60⟩ := Kd.R_slice HO_11.out; subst eo60) | (go_at_call 7; (with_reducible refine (impl_DiskCrash.calls t30001 t30002 t30003 _ _ x11_1 t30038 t30039 t30040 _ ?side1 ?side2 A38.out).mono ?_); (case side1 => refine (Kd.R_reads' (e := 3) (base := w.heap.size) (ok := fun k_ => (some k_ ≠ (v30005 : Value).ownBlock ∧ some k_ ≠ (.slice Ao51 y30031.length co51 : Value).ownBlock)) (n := x11_1.length) (c := co60) ?_).2.2; exact (by (with_reducible repeat (first | apply Kd.R_alloc | apply Kd.R_drewN | apply Kd.R_drew)); exact (Kd.R_mono (Kd.R_far (p := ⟨gb30037, 2, none⟩) (Kd.R_far (p := ⟨gb30037, 1, none⟩) (Kd.R_far (p := ⟨gb30037, 0, none⟩) (Kd.R_types HO_11.out BK30037.out (by decide)) (fun _ hk => hk.2) (.string t30034)) (fun _ hk => hk.2) (.string t30035)) (fun _ hk => hk.2) (.int .i64 t30036)) (fun _ h_ => h_.1)))); (case side2 => exact (Kd.R_reads' HO_11.out).2.1); rintro e w61 ⟨rfl, hb⟩; have n0_ := Aside0.mk (Kd.R_below (by (with_reducible repeat (first | apply Kd.R_alloc | apply Kd.R_drewN | apply Kd.R_drew)); exact (Kd.R_mono (Kd.R_far (p := ⟨gb30037, 2, none⟩) (Kd.R_far (p := ⟨gb30037, 1, none⟩) (Kd.R_far (p := ⟨gb30037, 0, none⟩) (Kd.R_types HO_4.out BK30037.out (by decide)) (fun _ hk => hk.2) (.string t30034)) (fun _ hk => hk.2) (.string t30035)) (fun _ hk => hk.2) (.int .i64 t30036)) (fun _ h_ => h_.1))) hb); have n1_ := Aside0.mk (Kd.R_below (by (with_reducible repeat (first | apply Kd.R_alloc | apply Kd.R_drewN | apply Kd.R_drew)); exact (Kd.R_mono (Kd.R_far (p := ⟨gb30037, 2, none⟩) (Kd.R_far (p := ⟨gb30037, 1, none⟩) (Kd.R_far (p := ⟨gb30037, 0, none⟩) (Kd.R_types HO_11.out BK30037.out (by decide)) (fun _ hk => hk.2) (.string t30034)) (fun _ hk => hk.2) (.string t30035)) (fun _ hk => hk.2) (.int .i64 t30036)) (fun _ h_ => h_.1))) hb); have n2_ := Aside0.mk (Kd.R_below (by (with_reducible repeat (first | apply Kd.R_alloc | apply Kd.R_drewN | apply Kd.R_drew)); exact (Kd.R_mono (Kd.R_far (p := ⟨gb30037, 2, none⟩) (Kd.R_far (p := ⟨gb30037, 1, none⟩) (Kd.R_far (p := ⟨gb30037, 0, none⟩) (Kd.R_types HO30033.out BK30037.out (by decide)) (fun _ hk => hk.2) (.string t30034)) (fun _ hk => hk.2) (.string t30035)) (fun _ hk => hk.2) (.int .i64 t30036)) (fun _ h_ => h_.1))) hb); have n3_ := Aside0.mk (blk_below (g := gb30007) (o := .cells #[.string t30001, .string t30002, .int .i64 t30003] 24 (0, 0)) (by (with_reducible repeat (first | refine blk_drewN ?_ _ | refine blk_drew ?_ | refine blk_alloc ?_ _)); refine blk_far ?_ NB30007_30037.out _; (with_reducible repeat (first | refine blk_drewN ?_ _ | refine blk_drew ?_ | refine blk_alloc ?_ _)); refine blk_far ?_ NB30007_30037.out _; (with_reducible repeat (first | refine blk_drewN ?_ _ | refine blk_drew ?_ | refine blk_alloc ?_ _)); refine blk_far ?_ NB30007_30037.out _; (with_reducible repeat (first | refine blk_drewN ?_ _ | refine blk_drew ?_ | refine blk_alloc ?_ _)); exact BK30007.out) hb); have n4_ := Aside0.mk (blk_below (g := gb30014) (o := .cells #[.string t30008, .string t30009, .int .i64 t30010] 24 (0, 0)) (by (with_reducible repeat (first | refine blk_drewN ?_ _ | refine blk_drew ?_ | refine blk_alloc ?_ _)); refine blk_far ?_ NB30014_30037.out _; (with_reducible repeat (first | refine blk_drewN ?_ _ | refine blk_drew ?_ | refine blk_alloc ?_ _)); refine blk_far ?_ NB30014_30037.out _; (with_reducible repeat (first | refine blk_drewN ?_ _ | refine blk_drew ?_ | refine blk_alloc ?_ _)); refine blk_far ?_ NB30014_30037.out _; (with_reducible repeat (first | refine blk_drewN ?_ _ | refine blk_drew ?_ | refine blk_alloc ?_ _)); exact BK30014.out) hb); have n5_ := Aside0.mk (blk_below (g := gb30019) (o := .cells #[.string t30015, .string t30016, .int .i64 t30017] 24 (0, 0)) (by (with_reducible repeat (first | refine blk_drewN ?_ _ | refine blk_drew ?_ | refine blk_alloc ?_ _)); refine blk_far ?_ NB30019_30037.out _; (with_reducible repeat (first | refine blk_drewN ?_ _ | refine blk_drew ?_ | refine blk_alloc ?_ _)); refine blk_far ?_ NB30019_30037.out _; (with_reducible repeat (first | refine blk_drewN ?_ _ | refine blk_drew ?_ | refine blk_alloc ?_ _)); refine blk_far ?_ NB30019_30037.out _; (with_reducible repeat (first | refine blk_drewN ?_ _ | refine blk_drew ?_ | refine blk_alloc ?_ _)); exact BK30019.out) hb); have n6_ := Aside0.mk (blk_below (g := gb30024) (o := .cells #[.string t30020, .string t30021, .int .i64 t30022] 24 (0, 0)) (by (with_reducible repeat (first | refine blk_drewN ?_ _ | refine blk_drew ?_ | refine blk_alloc ?_ _)); refine blk_far ?_ NB30024_30037.out _; (with_reducible repeat (first | refine blk_drewN ?_ _ | refine blk_drew ?_ | refine blk_alloc ?_ _)); refine blk_far ?_ NB30024_30037.out _; (with_reducible repeat (first | refine blk_drewN ?_ _ | refine blk_drew ?_ | refine blk_alloc ?_ _)); refine blk_far ?_ NB30024_30037.out _; (with_reducible repeat (first | refine blk_drewN ?_ _ | refine blk_drew ?_ | refine blk_alloc ?_ _)); exact BK30024.out) hb); have n7_ := Aside0.mk (blk_below (g := gb30037) (o := .cells #[.string t30034, .string t30035, .int .i64 t30036] 24 (0, 0)) (by (with_reducible repeat (first | refine blk_drewN ?_ _ | refine blk_drew ?_ | refine blk_alloc ?_ _)); refine blk_put (cs := #[.string t30034, .string t30035, .int .i64 0]) ?_ 2 _ rfl; (with_reducible repeat (first | refine blk_drewN ?_ _ | refine blk_drew ?_ | refine blk_alloc ?_ _)); refine blk_put (cs := #[.string t30034, .string (⟨#[]⟩ : ByteArray), .int .i64 0]) ?_ 1 _ rfl; (with_reducible repeat (first | refine blk_drewN ?_ _ | refine blk_drew ?_ | refine blk_alloc ?_ _)); refine blk_put (cs := #[.string (⟨#[]⟩ : ByteArray), .string (⟨#[]⟩ : ByteArray), .int .i64 0]) ?_ 0 _ rfl; (with_reducible repeat (first | refine blk_drewN ?_ _ | refine blk_drew ?_ | refine blk_alloc ?_ _)); exact BK30037.out) hb); have n8_ := Aside0.mk (below_step (by repeat (first | (with_reducible first | exact HB.out | apply below_alloc | apply pw_below_drewN | apply below_drew1 | refine below_set ?_ GE30007.out | refine below_set ?_ GE30014.out | refine below_set ?_ GE30019.out | refine below_set ?_ GE30024.out | refine below_set ?_ GE30037.out) | exact HB.out)) hb); clear HO_4; clear HO_11; clear HO30033; clear BK30007; clear BK30014; clear BK30019; clear BK30024; clear BK30037; clear HB; have HO_4 := n0_; have HO_11 := n1_; have HO30033 := n2_; have BK30007 := n3_; have BK30014 := n4_; have BK30019 := n5_; have BK30024 := n6_; have BK30037 := n7_; have HB := n8_; clear n0_ n1_ n2_ n3_ n4_ n5_ n6_ n7_ n8_; (try clear hb); (try clear hb2); (try clear hk); (try clear hi)) | ((with_reducible refine gate_dst (N := 14) rfl ?_); (try (refine gate_guard (by rfl) ?_; dsimp only)); refine box_event ?hg (N := 14) ?hd (cs := #[.string (⟨#[]⟩ : ByteArray), .string (⟨#[]⟩ : ByteArray), .int .i64 0]) (t := 24) ?hr ?_; (case hd => rfl); (case hg => rfl); (case hr => first | (go_simp; done) | (go_simp; rfl)); intro gb30041 hg w62 hbox hb; have n0_ := Aside0.mk (Kd.R_below (by (with_reducible repeat (first | apply Kd.R_alloc | apply Kd.R_drewN | apply Kd.R_drew)); exact HO_4.out) hb); have n1_ := Aside0.mk (Kd.R_below (by (with_reducible repeat (first | apply Kd.R_alloc | apply Kd.R_drewN | apply Kd.R_drew)); exact HO_11.out) hb); have n2_ := Aside0.mk (Kd.R_below (by (with_reducible repeat (first | apply Kd.R_alloc | apply Kd.R_drewN | apply Kd.R_drew)); exact HO30033.out) hb); have n3_ := Aside0.mk (blk_below (g := gb30007) (o := .cells #[.string t30001, .string t30002, .int .i64 t30003] 24 (0, 0)) (by (with_reducible repeat (first | refine blk_drewN ?_ _ | refine blk_drew ?_ | refine blk_alloc ?_ _)); exact BK30007.out) hb); have n4_ := Aside0.mk (blk_below (g := gb30014) (o := .cells #[.string t30008, .string t30009, .int .i64 t30010] 24 (0, 0)) (by (with_reducible repeat (first | refine blk_drewN ?_ _ | refine blk_drew ?_ | refine blk_alloc ?_ _)); exact BK30014.out) hb); have n5_ := Aside0.mk (blk_below (g := gb30019) (o := .cells #[.string t30015, .string t30016, .int .i64 t30017] 24 (0, 0)) (by (with_reducible repeat (first | refine blk_drewN ?_ _ | refine blk_drew ?_ | refine blk_alloc ?_ _)); exact BK30019.out) hb); have n6_ := Aside0.mk (blk_below (g := gb30024) (o := .cells #[.string t30020, .string t30021, .int .i64 t30022] 24 (0, 0)) (by (with_reducible repeat (first | refine blk_drewN ?_ _ | refine blk_drew ?_ | refine blk_alloc ?_ _)); exact BK30024.out) hb); have n7_ := Aside0.mk (blk_below (g := gb30037) (o := .cells #[.string t30034, .string t30035, .int .i64 t30036] 24 (0, 0)) (by (with_reducible repeat (first | refine blk_drewN ?_ _ | refine blk_drew ?_ | refine blk_alloc ?_ _)); exact BK30037.out) hb); have n8_ := Aside0.mk (below_step (by repeat (first | (with_reducible first | exact HB.out | apply below_alloc | apply pw_below_drewN | apply below_drew1 | refine below_set ?_ GE30007.out | refine below_set ?_ GE30014.out | refine below_set ?_ GE30019.out | refine below_set ?_ GE30024.out | refine below_set ?_ GE30037.out) | exact HB.out)) hb); have n9_ := Aside0.mk (hbox); have n10_ := Aside0.mk ((by rw [hg]; exact (below_size (by repeat (first | (with_reducible first | exact HB.out | apply below_alloc | apply pw_below_drewN | apply below_drew1 | refine below_set ?_ GE30007.out | refine below_set ?_ GE30014.out | refine below_set ?_ GE30019.out | refine below_set ?_ GE30024.out | refine below_set ?_ GE30037.out) | exact HB.out))) : w.heap.size ≤ gb30041)); have n11_ := Aside0.mk ((by rw [hg]; exact (below_size (by repeat (first | (with_reducible first | exact HB.out | apply below_alloc | apply pw_below_drewN | apply below_drew1 | refine below_set ?_ GE30007.out | refine below_set ?_ GE30014.out | refine below_set ?_ GE30019.out | refine below_set ?_ GE30024.out | refine below_set ?_ GE30037.out) | exact HB.out))) : w.heap.size ≤ gb30041)); have n12_ := Aside0.mk ((by rw [hg]; exact Nat.ne_of_lt (blk_lt (g := gb30007) (o := .cells #[.string t30001, .string t30002, .int .i64 t30003] 24 (0, 0)) (by (with_reducible repeat (first | refine blk_drewN ?_ _ | refine blk_drew ?_ | refine blk_alloc ?_ _)); exact BK30007.out)) : gb30007 ≠ gb30041)); have n13_ := Aside0.mk ((by rw [hg]; exact Nat.ne_of_gt (blk_lt (g := gb30007) (o := .cells #[.string t30001, .string t30002, .int .i64 t30003] 24 (0, 0)) (by (with_reducible repeat (first | refine blk_drewN ?_ _ | refine blk_drew ?_ | refine blk_alloc ?_ _)); exact BK30007.out)) : gb30041 ≠ gb30007)); have n14_ := Aside0.mk ((by rw [hg]; exact Nat.ne_of_lt (blk_lt (g := gb30014) (o := .cells #[.string t30008, .string t30009, .int .i64 t30010] 24 (0, 0)) (by (with_reducible repeat (first | refine blk_drewN ?_ _ | refine blk_drew ?_ | refine blk_alloc ?_ _)); exact BK30014.out)) : gb30014 ≠ gb30041)); have n15_ := Aside0.mk ((by rw [hg]; exact Nat.ne_of_gt (blk_lt (g := gb30014) (o := .cells #[.string t30008, .string t30009, .int .i64 t30010] 24 (0, 0)) (by (with_reducible repeat (first | refine blk_drewN ?_ _ | refine blk_drew ?_ | refine blk_alloc ?_ _)); exact BK30014.out)) : gb30041 ≠ gb30014)); have n16_ := Aside0.mk ((by rw [hg]; exact Nat.ne_of_lt (blk_lt (g := gb30019) (o := .cells #[.string t30015, .string t30016, .int .i64 t30017] 24 (0, 0)) (by (with_reducible repeat (first | refine blk_drewN ?_ _ | refine blk_drew ?_ | refine blk_alloc ?_ _)); exact BK30019.out)) : gb30019 ≠ gb30041)); have n17_ := Aside0.mk ((by rw [hg]; exact Nat.ne_of_gt (blk_lt (g := gb30019) (o := .cells #[.string t30015, .string t30016, .int .i64 t30017] 24 (0, 0)) (by (with_reducible repeat (first | refine blk_drewN ?_ _ | refine blk_drew ?_ | refine blk_alloc ?_ _)); exact BK30019.out)) : gb30041 ≠ gb30019)); have n18_ := Aside0.mk ((by rw [hg]; exact Nat.ne_of_lt (blk_lt (g := gb30024) (o := .cells #[.string t30020, .string t30021, .int .i64 t30022] 24 (0, 0)) (by (with_reducible repeat (first | refine blk_drewN ?_ _ | refine blk_drew ?_ | refine blk_alloc ?_ _)); exact BK30024.out)) : gb30024 ≠ gb30041)); have n19_ := Aside0.mk ((by rw [hg]; exact Nat.ne_of_gt (blk_lt (g := gb30024) (o := .cells #[.string t30020, .string t30021, .int .i64 t30022] 24 (0, 0)) (by (with_reducible repeat (first | refine blk_drewN ?_ _ | refine blk_drew ?_ | refine blk_alloc ?_ _)); exact BK30024.out)) : gb30041 ≠ gb30024)); have n20_ := Aside0.mk ((by rw [hg]; exact Nat.ne_of_lt (blk_lt (g := gb30037) (o := .cells #[.string t30034, .string t30035, .int .i64 t30036] 24 (0, 0)) (by (with_reducible repeat (first | refine blk_drewN ?_ _ | refine blk_drew ?_ | refine blk_alloc ?_ _)); exact BK30037.out)) : gb30037 ≠ gb30041)); have n21_ := Aside0.mk ((by rw [hg]; exact Nat.ne_of_gt (blk_lt (g := gb30037) (o := .cells #[.string t30034, .string t30035, .int .i64 t30036] 24 (0, 0)) (by (with_reducible repeat (first | refine blk_drewN ?_ _ | refine blk_drew ?_ | refine blk_alloc ?_ _)); exact BK30037.out)) : gb30041 ≠ gb30037)); clear HO_4; clear HO_11; clear HO30033; clear BK30007; clear BK30014; clear BK30019; clear BK30024; clear BK30037; clear HB; have HO_4 := n0_; have HO_11 := n1_; have HO30033 := n2_; have BK30007 := n3_; have BK30014 := n4_; have BK30019 := n5_; have BK30024 := n6_; have BK30037 := n7_; have HB := n8_; have BK30041 := n9_; have GW30041 := n10_; have GE30041 := n11_; have NB30007_30041 := n12_; have NB30041_30007 := n13_; have NB30014_30041 := n14_; have NB30041_30014 := n15_; have NB30019_30041 := n16_; have NB30041_30019 := n17_; have NB30024_30041 := n18_; have NB30041_30024 := n19_; have NB30037_30041 := n20_; have NB30041_30037 := n21_; clear n0_ n1_ n2_ n3_ n4_ n5_ n6_ n7_ n8_ n9_ n10_ n11_ n12_ n13_ n14_ n15_ n16_ n17_ n18_ n19_ n20_ n21_; clear hb hbox hg; have hnb63 := NB30041_30007.out; have hnc63 := NB30007_30041.out; have hnb64 := NB30041_30014.out; have hnc64 := NB30014_30041.out; have hnb65 := NB30041_30019.out; have hnc65 := NB30019_30041.out; have hnb66 := NB30041_30024.out; have hnc66 := NB30024_30041.out; have hnb67 := NB30041_30037.out; have hnc67 := NB30037_30041.out; have hcz68_0 : w62.cell? ⟨gb30041, 0, none⟩ = some (.string (⟨#[]⟩ : ByteArray)) := (blk_cell BK30041.out 0).trans rfl; have hcz68_1 : w62.cell? ⟨gb30041, 1, none⟩ = some (.string (⟨#[]⟩ : ByteArray)) := (blk_cell BK30041.out 1).trans rfl; have hcz68_2 : w62.cell? ⟨gb30041, 2, none⟩ = some (.int .i64 0) := (blk_cell BK30041.out 2).trans rfl; have hfz68_0 := blk_frozen BK30041.out 0; have hfz68_1 := blk_frozen BK30041.out 1; have hfz68_2 := blk_frozen BK30041.out 2; have hcz69_0 : w62.cell? ⟨gb30007, 0, none⟩ = some (.string t30001) := (blk_cell BK30007.out 0).trans rfl; have hcz69_1 : w62.cell? ⟨gb30007, 1, none⟩ = some (.string t30002) := (blk_cell BK30007.out 1).trans rfl; have hcz69_2 : w62.cell? ⟨gb30007, 2, none⟩ = some (.int .i64 t30003) := (blk_cell BK30007.out 2).trans rfl; have hfz69_0 := blk_frozen BK30007.out 0; have hfz69_1 := blk_frozen BK30007.out 1; have hfz69_2 := blk_frozen BK30007.out 2; obtain ⟨Ao70, co70, eo70⟩ := Kd.R_slice HO_4.out; subst eo70) | (go_at_call 7; (with_reducible refine (impl_DiskCrash.calls t30001 t30002 t30003 _ _ t30004 t30042 t30043 t30044 _ ?side1 ?side2 A39.out).mono ?_); (case side1 => refine (Kd.R_reads' (e := 3) (base := w.heap.size) (ok := fun k_ => (some k_ ≠ (.slice Ao60 x11_1.length co60 : Value).ownBlock ∧ some k_ ≠ (.slice Ao51 y30031.length co51 : Value).ownBlock)) (n := t30004.length) (c := co70) ?_).2.2; exact (by (with_reducible repeat (first | apply Kd.R_alloc | apply Kd.R_drewN | apply Kd.R_drew)); exact (Kd.R_mono (Kd.R_far (p := ⟨gb30041, 2, none⟩) (Kd.R_far (p := ⟨gb30041, 1, none⟩) (Kd.R_far (p := ⟨gb30041, 0, none⟩) (Kd.R_types HO_4.out BK30041.out (by decide)) (fun _ hk => hk.2) (.string t30038)) (fun _ hk => hk.2) (.string t30039)) (fun _ hk => hk.2) (.int .i64 t30040)) (fun _ h_ => h_.1)))); (case side2 => exact (Kd.R_reads' HO_4.out).2.1); rintro e w71 ⟨rfl, hb⟩; have n0_ := Aside0.mk (Kd.R_below (by (with_reducible repeat (first | apply Kd.R_alloc | apply Kd.R_drewN | apply Kd.R_drew)); exact (Kd.R_mono (Kd.R_far (p := ⟨gb30041, 2, none⟩) (Kd.R_far (p := ⟨gb30041, 1, none⟩) (Kd.R_far (p := ⟨gb30041, 0, none⟩) (Kd.R_types HO_4.out BK30041.out (by decide)) (fun _ hk => hk.2) (.string t30038)) (fun _ hk => hk.2) (.string t30039)) (fun _ hk => hk.2) (.int .i64 t30040)) (fun _ h_ => h_.1))) hb); have n1_ := Aside0.mk (Kd.R_below (by (with_reducible repeat (first | apply Kd.R_alloc | apply Kd.R_drewN | apply Kd.R_drew)); exact (Kd.R_mono (Kd.R_far (p := ⟨gb30041, 2, none⟩) (Kd.R_far (p := ⟨gb30041, 1, none⟩) (Kd.R_far (p := ⟨gb30041, 0, none⟩) (Kd.R_types HO_11.out BK30041.out (by decide)) (fun _ hk => hk.2) (.string t30038)) (fun _ hk => hk.2) (.string t30039)) (fun _ hk => hk.2) (.int .i64 t30040)) (fun _ h_ => h_.1))) hb); have n2_ := Aside0.mk (Kd.R_below (by (with_reducible repeat (first | apply Kd.R_alloc | apply Kd.R_drewN | apply Kd.R_drew)); exact (Kd.R_mono (Kd.R_far (p := ⟨gb30041, 2, none⟩) (Kd.R_far (p := ⟨gb30041, 1, none⟩) (Kd.R_far (p := ⟨gb30041, 0, none⟩) (Kd.R_types HO30033.out BK30041.out (by decide)) (fun _ hk => hk.2) (.string t30038)) (fun _ hk => hk.2) (.string t30039)) (fun _ hk => hk.2) (.int .i64 t30040)) (fun _ h_ => h_.1))) hb); have n3_ := Aside0.mk (blk_below (g := gb30007) (o := .cells #[.string t30001, .string t30002, .int .i64 t30003] 24 (0, 0)) (by (with_reducible repeat (first | refine blk_drewN ?_ _ | refine blk_drew ?_ | refine blk_alloc ?_ _)); refine blk_far ?_ NB30007_30041.out _; (with_reducible repeat (first | refine blk_drewN ?_ _ | refine blk_drew ?_ | refine blk_alloc ?_ _)); refine blk_far ?_ NB30007_30041.out _; (with_reducible repeat (first | refine blk_drewN ?_ _ | refine blk_drew ?_ | refine blk_alloc ?_ _)); refine blk_far ?_ NB30007_30041.out _; (with_reducible repeat (first | refine blk_drewN ?_ _ | refine blk_drew ?_ | refine blk_alloc ?_ _)); exact BK30007.out) hb); have n4_ := Aside0.mk (blk_below (g := gb30014) (o := .cells #[.string t30008, .string t30009, .int .i64 t30010] 24 (0, 0)) (by (with_reducible repeat (first | refine blk_drewN ?_ _ | refine blk_drew ?_ | refine blk_alloc ?_ _)); refine blk_far ?_ NB30014_30041.out _; (with_reducible repeat (first | refine blk_drewN ?_ _ | refine blk_drew ?_ | refine blk_alloc ?_ _)); refine blk_far ?_ NB30014_30041.out _; (with_reducible repeat (first | refine blk_drewN ?_ _ | refine blk_drew ?_ | refine blk_alloc ?_ _)); refine blk_far ?_ NB30014_30041.out _; (with_reducible repeat (first | refine blk_drewN ?_ _ | refine blk_drew ?_ | refine blk_alloc ?_ _)); exact BK30014.out) hb); have n5_ := Aside0.mk (blk_below (g := gb30019) (o := .cells #[.string t30015, .string t30016, .int .i64 t30017] 24 (0, 0)) (by (with_reducible repeat (first | refine blk_drewN ?_ _ | refine blk_drew ?_ | refine blk_alloc ?_ _)); refine blk_far ?_ NB30019_30041.out _; (with_reducible repeat (first | refine blk_drewN ?_ _ | refine blk_drew ?_ | refine blk_alloc ?_ _)); refine blk_far ?_ NB30019_30041.out _; (with_reducible repeat (first | refine blk_drewN ?_ _ | refine blk_drew ?_ | refine blk_alloc ?_ _)); refine blk_far ?_ NB30019_30041.out _; (with_reducible repeat (first | refine blk_drewN ?_ _ | refine blk_drew ?_ | refine blk_alloc ?_ _)); exact BK30019.out) hb); have n6_ := Aside0.mk (blk_below (g := gb30024) (o := .cells #[.string t30020, .string t30021, .int .i64 t30022] 24 (0, 0)) (by (with_reducible repeat (first | refine blk_drewN ?_ _ | refine blk_drew ?_ | refine blk_alloc ?_ _)); refine blk_far ?_ NB30024_30041.out _; (with_reducible repeat (first | refine blk_drewN ?_ _ | refine blk_drew ?_ | refine blk_alloc ?_ _)); refine blk_far ?_ NB30024_30041.out _; (with_reducible repeat (first | refine blk_drewN ?_ _ | refine blk_drew ?_ | refine blk_alloc ?_ _)); refine blk_far ?_ NB30024_30041.out _; (with_reducible repeat (first | refine blk_drewN ?_ _ | refine blk_drew ?_ | refine blk_alloc ?_ _)); exact BK30024.out) hb); have n7_ := Aside0.mk (blk_below (g := gb30037) (o := .cells #[.string t30034, .string t30035, .int .i64 t30036] 24 (0, 0)) (by (with_reducible repeat (first | refine blk_drewN ?_ _ | refine blk_drew ?_ | refine blk_alloc ?_ _)); refine blk_far ?_ NB30037_30041.out _; (with_reducible repeat (first | refine blk_drewN ?_ _ | refine blk_drew ?_ | refine blk_alloc ?_ _)); refine blk_far ?_ NB30037_30041.out _; (with_reducible repeat (first | refine blk_drewN ?_ _ | refine blk_drew ?_ | refine blk_alloc ?_ _)); refine blk_far ?_ NB30037_30041.out _; (with_reducible repeat (first | refine blk_drewN ?_ _ | refine blk_drew ?_ | refine blk_alloc ?_ _)); exact BK30037.out) hb); have n8_ := Aside0.mk (blk_below (g := gb30041) (o := .cells #[.string t30038, .string t30039, .int .i64 t30040] 24 (0, 0)) (by (with_reducible repeat (first | refine blk_drewN ?_ _ | refine blk_drew ?_ | refine blk_alloc ?_ _)); refine blk_put (cs := #[.string t30038, .string t30039, .int .i64 0]) ?_ 2 _ rfl; (with_reducible repeat (first | refine blk_drewN ?_ _ | refine blk_drew ?_ | refine blk_alloc ?_ _)); refine blk_put (cs := #[.string t30038, .string (⟨#[]⟩ : ByteArray), .int .i64 0]) ?_ 1 _ rfl; (with_reducible repeat (first | refine blk_drewN ?_ _ | refine blk_drew ?_ | refine blk_alloc ?_ _)); refine blk_put (cs := #[.string (⟨#[]⟩ : ByteArray), .string (⟨#[]⟩ : ByteArray), .int .i64 0]) ?_ 0 _ rfl; (with_reducible repeat (first | refine blk_drewN ?_ _ | refine blk_drew ?_ | refine blk_alloc ?_ _)); exact BK30041.out) hb); have n9_ := Aside0.mk (below_step (by repeat (first | (with_reducible first | exact HB.out | apply below_alloc | apply pw_below_drewN | apply below_drew1 | refine below_set ?_ GE30007.out | refine below_set ?_ GE30014.out | refine below_set ?_ GE30019.out | refine below_set ?_ GE30024.out | refine below_set ?_ GE30037.out | refine below_set ?_ GE30041.out) | exact HB.out)) hb); clear HO_4; clear HO_11; clear HO30033; clear BK30007; clear BK30014; clear BK30019; clear BK30024; clear BK30037; clear BK30041; clear HB; have HO_4 := n0_; have HO_11 := n1_; have HO30033 := n2_; have BK30007 := n3_; have BK30014 := n4_; have BK30019 := n5_; have BK30024 := n6_; have BK30037 := n7_; have BK30041 := n8_; have HB := n9_; clear n0_ n1_ n2_ n3_ n4_ n5_ n6_ n7_ n8_ n9_; (try clear hb); (try clear hb2); (try clear hk); (try clear hi)) | ((with_reducible refine gate_dst (N := 15) rfl ?_); (try (refine gate_guard (by rfl) ?_; dsimp only)); refine box_event ?hg (N := 15) ?hd (cs := #[.string (⟨#[]⟩ : ByteArray), .string (⟨#[]⟩ : ByteArray), .int .i64 0]) (t := 24) ?hr ?_; (case hd => rfl); (case hg => rfl); (case hr => first | (go_simp; done) | (go_simp; rfl)); intro gb30045 hg w72 hbox hb; have n0_ := Aside0.mk (Kd.R_below (by (with_reducible repeat (first | apply Kd.R_alloc | apply Kd.R_drewN | apply Kd.R_drew)); exact HO_4.out) hb); have n1_ := Aside0.mk (Kd.R_below (by (with_reducible repeat (first | apply Kd.R_alloc | apply Kd.R_drewN | apply Kd.R_drew)); exact HO_11.out) hb); have n2_ := Aside0.mk (Kd.R_below (by (with_reducible repeat (first | apply Kd.R_alloc | apply Kd.R_drewN | apply Kd.R_drew)); exact HO30033.out) hb); have n3_ := Aside0.mk (blk_below (g := gb30007) (o := .cells #[.string t30001, .string t30002, .int .i64 t30003] 24 (0, 0)) (by (with_reducible repeat (first | refine blk_drewN ?_ _ | refine blk_drew ?_ | refine blk_alloc ?_ _)); exact BK30007.out) hb); have n4_ := Aside0.mk (blk_below (g := gb30014) (o := .cells #[.string t30008, .string t30009, .int .i64 t30010] 24 (0, 0)) (by (with_reducible repeat (first | refine blk_drewN ?_ _ | refine blk_drew ?_ | refine blk_alloc ?_ _)); exact BK30014.out) hb); have n5_ := Aside0.mk (blk_below (g := gb30019) (o := .cells #[.string t30015, .string t30016, .int .i64 t30017] 24 (0, 0)) (by (with_reducible repeat (first | refine blk_drewN ?_ _ | refine blk_drew ?_ | refine blk_alloc ?_ _)); exact BK30019.out) hb); have n6_ := Aside0.mk (blk_below (g := gb30024) (o := .cells #[.string t30020, .string t30021, .int .i64 t30022] 24 (0, 0)) (by (with_reducible repeat (first | refine blk_drewN ?_ _ | refine blk_drew ?_ | refine blk_alloc ?_ _)); exact BK30024.out) hb); have n7_ := Aside0.mk (blk_below (g := gb30037) (o := .cells #[.string t30034, .string t30035, .int .i64 t30036] 24 (0, 0)) (by (with_reducible repeat (first | refine blk_drewN ?_ _ | refine blk_drew ?_ | refine blk_alloc ?_ _)); exact BK30037.out) hb); have n8_ := Aside0.mk (blk_below (g := gb30041) (o := .cells #[.string t30038, .string t30039, .int .i64 t30040] 24 (0, 0)) (by (with_reducible repeat (first | refine blk_drewN ?_ _ | refine blk_drew ?_ | refine blk_alloc ?_ _)); exact BK30041.out) hb); have n9_ := Aside0.mk (below_step (by repeat (first | (with_reducible first | exact HB.out | apply below_alloc | apply pw_below_drewN | apply below_drew1 | refine below_set ?_ GE30007.out | refine below_set ?_ GE30014.out | refine below_set ?_ GE30019.out | refine below_set ?_ GE30024.out | refine below_set ?_ GE30037.out | refine below_set ?_ GE30041.out) | exact HB.out)) hb); have n10_ := Aside0.mk (hbox); have n11_ := Aside0.mk ((by rw [hg]; exact (below_size (by repeat (first | (with_reducible first | exact HB.out | apply below_alloc | apply pw_below_drewN | apply below_drew1 | refine below_set ?_ GE30007.out | refine below_set ?_ GE30014.out | refine below_set ?_ GE30019.out | refine below_set ?_ GE30024.out | refine below_set ?_ GE30037.out | refine below_set ?_ GE30041.out) | exact HB.out))) : w.heap.size ≤ gb30045)); have n12_ := Aside0.mk ((by rw [hg]; exact (below_size (by repeat (first | (with_reducible first | exact HB.out | apply below_alloc | apply pw_below_drewN | apply below_drew1 | refine below_set ?_ GE30007.out | refine below_set ?_ GE30014.out | refine below_set ?_ GE30019.out | refine below_set ?_ GE30024.out | refine below_set ?_ GE30037.out | refine below_set ?_ GE30041.out) | exact HB.out))) : w.heap.size ≤ gb30045)); have n13_ := Aside0.mk ((by rw [hg]; exact Nat.ne_of_lt (blk_lt (g := gb30007) (o := .cells #[.string t30001, .string t30002, .int .i64 t30003] 24 (0, 0)) (by (with_reducible repeat (first | refine blk_drewN ?_ _ | refine blk_drew ?_ | refine blk_alloc ?_ _)); exact BK30007.out)) : gb30007 ≠ gb30045)); have n14_ := Aside0.mk ((by rw [hg]; exact Nat.ne_of_gt (blk_lt (g := gb30007) (o := .cells #[.string t30001, .string t30002, .int .i64 t30003] 24 (0, 0)) (by (with_reducible repeat (first | refine blk_drewN ?_ _ | refine blk_drew ?_ | refine blk_alloc ?_ _)); exact BK30007.out)) : gb30045 ≠ gb30007)); have n15_ := Aside0.mk ((by rw [hg]; exact Nat.ne_of_lt (blk_lt (g := gb30014) (o := .cells #[.string t30008, .string t30009, .int .i64 t30010] 24 (0, 0)) (by (with_reducible repeat (first | refine blk_drewN ?_ _ | refine blk_drew ?_ | refine blk_alloc ?_ _)); exact BK30014.out)) : gb30014 ≠ gb30045)); have n16_ := Aside0.mk ((by rw [hg]; exact Nat.ne_of_gt (blk_lt (g := gb30014) (o := .cells #[.string t30008, .string t30009, .int .i64 t30010] 24 (0, 0)) (by (with_reducible repeat (first | refine blk_drewN ?_ _ | refine blk_drew ?_ | refine blk_alloc ?_ _)); exact BK30014.out)) : gb30045 ≠ gb30014)); have n17_ := Aside0.mk ((by rw [hg]; exact Nat.ne_of_lt (blk_lt (g := gb30019) (o := .cells #[.string t30015, .string t30016, .int .i64 t30017] 24 (0, 0)) (by (with_reducible repeat (first | refine blk_drewN ?_ _ | refine blk_drew ?_ | refine blk_alloc ?_ _)); exact BK30019.out)) : gb30019 ≠ gb30045)); have n18_ := Aside0.mk ((by rw [hg]; exact Nat.ne_of_gt (blk_lt (g := gb30019) (o := .cells #[.string t30015, .string t30016, .int .i64 t30017] 24 (0, 0)) (by (with_reducible repeat (first | refine blk_drewN ?_ _ | refine blk_drew ?_ | refine blk_alloc ?_ _)); exact BK30019.out)) : gb30045 ≠ gb30019)); have n19_ := Aside0.mk ((by rw [hg]; exact Nat.ne_of_lt (blk_lt (g := gb30024) (o := .cells #[.string t30020, .string t30021, .int .i64 t30022] 24 (0, 0)) (by (with_reducible repeat (first | refine blk_drewN ?_ _ | refine blk_drew ?_ | refine blk_alloc ?_ _)); exact BK30024.out)) : gb30024 ≠ gb30045)); have n20_ := Aside0.mk ((by rw [hg]; exact Nat.ne_of_gt (blk_lt (g := gb30024) (o := .cells #[.string t30020, .string t30021, .int .i64 t30022] 24 (0, 0)) (by (with_reducible repeat (first | refine blk_drewN ?_ _ | refine blk_drew ?_ | refine blk_alloc ?_ _)); exact BK30024.out)) : gb30045 ≠ gb30024)); have n21_ := Aside0.mk ((by rw [hg]; exact Nat.ne_of_lt (blk_lt (g := gb30037) (o := .cells #[.string t30034, .string t30035, .int .i64 t30036] 24 (0, 0)) (by (with_reducible repeat (first | refine blk_drewN ?_ _ | refine blk_drew ?_ | refine blk_alloc ?_ _)); exact BK30037.out)) : gb30037 ≠ gb30045)); have n22_ := Aside0.mk ((by rw [hg]; exact Nat.ne_of_gt (blk_lt (g := gb30037) (o := .cells #[.string t30034, .string t30035, .int .i64 t30036] 24 (0, 0)) (by (with_reducible repeat (first | refine blk_drewN ?_ _ | refine blk_drew ?_ | refine blk_alloc ?_ _)); exact BK30037.out)) : gb30045 ≠ gb30037)); have n23_ := Aside0.mk ((by rw [hg]; exact Nat.ne_of_lt (blk_lt (g := gb30041) (o := .cells #[.string t30038, .string t30039, .int .i64 t30040] 24 (0, 0)) (by (with_reducible repeat (first | refine blk_drewN ?_ _ | refine blk_drew ?_ | refine blk_alloc ?_ _)); exact BK30041.out)) : gb30041 ≠ gb30045)); have n24_ := Aside0.mk ((by rw [hg]; exact Nat.ne_of_gt (blk_lt (g := gb30041) (o := .cells #[.string t30038, .string t30039, .int .i64 t30040] 24 (0, 0)) (by (with_reducible repeat (first | refine blk_drewN ?_ _ | refine blk_drew ?_ | refine blk_alloc ?_ _)); exact BK30041.out)) : gb30045 ≠ gb30041)); clear HO_4; clear HO_11; clear HO30033; clear BK30007; clear BK30014; clear BK30019; clear BK30024; clear BK30037; clear BK30041; clear HB; have HO_4 := n0_; have HO_11 := n1_; have HO30033 := n2_; have BK30007 := n3_; have BK30014 := n4_; have BK30019 := n5_; have BK30024 := n6_; have BK30037 := n7_; have BK30041 := n8_; have HB := n9_; have BK30045 := n10_; have GW30045 := n11_; have GE30045 := n12_; have NB30007_30045 := n13_; have NB30045_30007 := n14_; have NB30014_30045 := n15_; have NB30045_30014 := n16_; have NB30019_30045 := n17_; have NB30045_30019 := n18_; have NB30024_30045 := n19_; have NB30045_30024 := n20_; have NB30037_30045 := n21_; have NB30045_30037 := n22_; have NB30041_30045 := n23_; have NB30045_30041 := n24_; clear n0_ n1_ n2_ n3_ n4_ n5_ n6_ n7_ n8_ n9_ n10_ n11_ n12_ n13_ n14_ n15_ n16_ n17_ n18_ n19_ n20_ n21_ n22_ n23_ n24_; clear hb hbox hg; have hnb73 := NB30045_30007.out; have hnc73 := NB30007_30045.out; have hnb74 := NB30045_30014.out; have hnc74 := NB30014_30045.out; have hnb75 := NB30045_30019.out; have hnc75 := NB30019_30045.out; have hnb76 := NB30045_30024.out; have hnc76 := NB30024_30045.out; have hnb77 := NB30045_30037.out; have hnc77 := NB30037_30045.out; have hnb78 := NB30045_30041.out; have hnc78 := NB30041_30045.out; have hcz79_0 : w72.cell? ⟨gb30045, 0, none⟩ = some (.string (⟨#[]⟩ : ByteArray)) := (blk_cell BK30045.out 0).trans rfl; have hcz79_1 : w72.cell? ⟨gb30045, 1, none⟩ = some (.string (⟨#[]⟩ : ByteArray)) := (blk_cell BK30045.out 1).trans rfl; have hcz79_2 : w72.cell? ⟨gb30045, 2, none⟩ = some (.int .i64 0) := (blk_cell BK30045.out 2).trans rfl; have hfz79_0 := blk_frozen BK30045.out 0; have hfz79_1 := blk_frozen BK30045.out 1; have hfz79_2 := blk_frozen BK30045.out 2) | (go_at_call 7; (with_reducible refine (impl_DiskCrash.calls t30042 t30043 t30044 _ _ t30004 t30046 t30047 t30048 _ ?side1 ?side2 A40.out).mono ?_); (case side1 => refine (Kd.R_reads' (e := 3) (base := w.heap.size) (ok := fun k_ => (some k_ ≠ (.slice Ao60 x11_1.length co60 : Value).ownBlock ∧ some k_ ≠ (.slice Ao51 y30031.length co51 : Value).ownBlock)) (n := t30004.length) (c := co70) ?_).2.2; exact (by (with_reducible repeat (first | apply Kd.R_alloc | apply Kd.R_drewN | apply Kd.R_drew)); exact (Kd.R_mono (Kd.R_far (p := ⟨gb30045, 2, none⟩) (Kd.R_far (p := ⟨gb30045, 1, none⟩) (Kd.R_far (p := ⟨gb30045, 0, none⟩) (Kd.R_types HO_4.out BK30045.out (by decide)) (fun _ hk => hk.2) (.string t30042)) (fun _ hk => hk.2) (.string t30043)) (fun _ hk => hk.2) (.int .i64 t30044)) (fun _ h_ => h_.1)))); (case side2 => exact (Kd.R_reads' HO_4.out).2.1); rintro e w80 ⟨rfl, hb⟩; have n0_ := Aside0.mk (Kd.R_below (by (with_reducible repeat (first | apply Kd.R_alloc | apply Kd.R_drewN | apply Kd.R_drew)); exact (Kd.R_mono (Kd.R_far (p := ⟨gb30045, 2, none⟩) (Kd.R_far (p := ⟨gb30045, 1, none⟩) (Kd.R_far (p := ⟨gb30045, 0, none⟩) (Kd.R_types HO_4.out BK30045.out (by decide)) (fun _ hk => hk.2) (.string t30042)) (fun _ hk => hk.2) (.string t30043)) (fun _ hk => hk.2) (.int .i64 t30044)) (fun _ h_ => h_.1))) hb); have n1_ := Aside0.mk (Kd.R_below (by (with_reducible repeat (first | apply Kd.R_alloc | apply Kd.R_drewN | apply Kd.R_drew)); exact (Kd.R_mono (Kd.R_far (p := ⟨gb30045, 2, none⟩) (Kd.R_far (p := ⟨gb30045, 1, none⟩) (Kd.R_far (p := ⟨gb30045, 0, none⟩) (Kd.R_types HO_11.out BK30045.out (by decide)) (fun _ hk => hk.2) (.string t30042)) (fun _ hk => hk.2) (.string t30043)) (fun _ hk => hk.2) (.int .i64 t30044)) (fun _ h_ => h_.1))) hb); have n2_ := Aside0.mk (Kd.R_below (by (with_reducible repeat (first | apply Kd.R_alloc | apply Kd.R_drewN | apply Kd.R_drew)); exact (Kd.R_mono (Kd.R_far (p := ⟨gb30045, 2, none⟩) (Kd.R_far (p := ⟨gb30045, 1, none⟩) (Kd.R_far (p := ⟨gb30045, 0, none⟩) (Kd.R_types HO30033.out BK30045.out (by decide)) (fun _ hk => hk.2) (.string t30042)) (fun _ hk => hk.2) (.string t30043)) (fun _ hk => hk.2) (.int .i64 t30044)) (fun _ h_ => h_.1))) hb); have n3_ := Aside0.mk (blk_below (g := gb30007) (o := .cells #[.string t30001, .string t30002, .int .i64 t30003] 24 (0, 0)) (by (with_reducible repeat (first | refine blk_drewN ?_ _ | refine blk_drew ?_ | refine blk_alloc ?_ _)); refine blk_far ?_ NB30007_30045.out _; (with_reducible repeat (first | refine blk_drewN ?_ _ | refine blk_drew ?_ | refine blk_alloc ?_ _)); refine blk_far ?_ NB30007_30045.out _; (with_reducible repeat (first | refine blk_drewN ?_ _ | refine blk_drew ?_ | refine blk_alloc ?_ _)); refine blk_far ?_ NB30007_30045.out _; (with_reducible repeat (first | refine blk_drewN ?_ _ | refine blk_drew ?_ | refine blk_alloc ?_ _)); exact BK30007.out) hb); have n4_ := Aside0.mk (blk_below (g := gb30014) (o := .cells #[.string t30008, .string t30009, .int .i64 t30010] 24 (0, 0)) (by (with_reducible repeat (first | refine blk_drewN ?_ _ | refine blk_drew ?_ | refine blk_alloc ?_ _)); refine blk_far ?_ NB30014_30045.out _; (with_reducible repeat (first | refine blk_drewN ?_ _ | refine blk_drew ?_ | refine blk_alloc ?_ _)); refine blk_far ?_ NB30014_30045.out _; (with_reducible repeat (first | refine blk_drewN ?_ _ | refine blk_drew ?_ | refine blk_alloc ?_ _)); refine blk_far ?_ NB30014_30045.out _; (with_reducible repeat (first | refine blk_drewN ?_ _ | refine blk_drew ?_ | refine blk_alloc ?_ _)); exact BK30014.out) hb); have n5_ := Aside0.mk (blk_below (g := gb30019) (o := .cells #[.string t30015, .string t30016, .int .i64 t30017] 24 (0, 0)) (by (with_reducible repeat (first | refine blk_drewN ?_ _ | refine blk_drew ?_ | refine blk_alloc ?_ _)); refine blk_far ?_ NB30019_30045.out _; (with_reducible repeat (first | refine blk_drewN ?_ _ | refine blk_drew ?_ | refine blk_alloc ?_ _)); refine blk_far ?_ NB30019_30045.out _; (with_reducible repeat (first | refine blk_drewN ?_ _ | refine blk_drew ?_ | refine blk_alloc ?_ _)); refine blk_far ?_ NB30019_30045.out _; (with_reducible repeat (first | refine blk_drewN ?_ _ | refine blk_drew ?_ | refine blk_alloc ?_ _)); exact BK30019.out) hb); have n6_ := Aside0.mk (blk_below (g := gb30024) (o := .cells #[.string t30020, .string t30021, .int .i64 t30022] 24 (0, 0)) (by (with_reducible repeat (first | refine blk_drewN ?_ _ | refine blk_drew ?_ | refine blk_alloc ?_ _)); refine blk_far ?_ NB30024_30045.out _; (with_reducible repeat (first | refine blk_drewN ?_ _ | refine blk_drew ?_ | refine blk_alloc ?_ _)); refine blk_far ?_ NB30024_30045.out _; (with_reducible repeat (first | refine blk_drewN ?_ _ | refine blk_drew ?_ | refine blk_alloc ?_ _)); refine blk_far ?_ NB30024_30045.out _; (with_reducible repeat (first | refine blk_drewN ?_ _ | refine blk_drew ?_ | refine blk_alloc ?_ _)); exact BK30024.out) hb); have n7_ := Aside0.mk (blk_below (g := gb30037) (o := .cells #[.string t30034, .string t30035, .int .i64 t30036] 24 (0, 0)) (by (with_reducible repeat (first | refine blk_drewN ?_ _ | refine blk_drew ?_ | refine blk_alloc ?_ _)); refine blk_far ?_ NB30037_30045.out _; (with_reducible repeat (first | refine blk_drewN ?_ _ | refine blk_drew ?_ | refine blk_alloc ?_ _)); refine blk_far ?_ NB30037_30045.out _; (with_reducible repeat (first | refine blk_drewN ?_ _ | refine blk_drew ?_ | refine blk_alloc ?_ _)); refine blk_far ?_ NB30037_30045.out _; (with_reducible repeat (first | refine blk_drewN ?_ _ | refine blk_drew ?_ | refine blk_alloc ?_ _)); exact BK30037.out) hb); have n8_ := Aside0.mk (blk_below (g := gb30041) (o := .cells #[.string t30038, .string t30039, .int .i64 t30040] 24 (0, 0)) (by (with_reducible repeat (first | refine blk_drewN ?_ _ | refine blk_drew ?_ | refine blk_alloc ?_ _)); refine blk_far ?_ NB30041_30045.out _; (with_reducible repeat (first | refine blk_drewN ?_ _ | refine blk_drew ?_ | refine blk_alloc ?_ _)); refine blk_far ?_ NB30041_30045.out _; (with_reducible repeat (first | refine blk_drewN ?_ _ | refine blk_drew ?_ | refine blk_alloc ?_ _)); refine blk_far ?_ NB30041_30045.out _; (with_reducible repeat (first | refine blk_drewN ?_ _ | refine blk_drew ?_ | refine blk_alloc ?_ _)); exact BK30041.out) hb); have n9_ := Aside0.mk (blk_below (g := gb30045) (o := .cells #[.string t30042, .string t30043, .int .i64 t30044] 24 (0, 0)) (by (with_reducible repeat (first | refine blk_drewN ?_ _ | refine blk_drew ?_ | refine blk_alloc ?_ _)); refine blk_put (cs := #[.string t30042, .string t30043, .int .i64 0]) ?_ 2 _ rfl; (with_reducible repeat (first | refine blk_drewN ?_ _ | refine blk_drew ?_ | refine blk_alloc ?_ _)); refine blk_put (cs := #[.string t30042, .string (⟨#[]⟩ : ByteArray), .int .i64 0]) ?_ 1 _ rfl; (with_reducible repeat (first | refine blk_drewN ?_ _ | refine blk_drew ?_ | refine blk_alloc ?_ _)); refine blk_put (cs := #[.string (⟨#[]⟩ : ByteArray), .string (⟨#[]⟩ : ByteArray), .int .i64 0]) ?_ 0 _ rfl; (with_reducible repeat (first | refine blk_drewN ?_ _ | refine blk_drew ?_ | refine blk_alloc ?_ _)); exact BK30045.out) hb); have n10_ := Aside0.mk (below_step (by repeat (first | (with_reducible first | exact HB.out | apply below_alloc | apply pw_below_drewN | apply below_drew1 | refine below_set ?_ GE30007.out | refine below_set ?_ GE30014.out | refine below_set ?_ GE30019.out | refine below_set ?_ GE30024.out | refine below_set ?_ GE30037.out | refine below_set ?_ GE30041.out | refine below_set ?_ GE30045.out) | exact HB.out)) hb); clear HO_4; clear HO_11; clear HO30033; clear BK30007; clear BK30014; clear BK30019; clear BK30024; clear BK30037; clear BK30041; clear BK30045; clear HB; have HO_4 := n0_; have HO_11 := n1_; have HO30033 := n2_; have BK30007 := n3_; have BK30014 := n4_; have BK30019 := n5_; have BK30024 := n6_; have BK30037 := n7_; have BK30041 := n8_; have BK30045 := n9_; have HB := n10_; clear n0_ n1_ n2_ n3_ n4_ n5_ n6_ n7_ n8_ n9_ n10_; (try clear hb); (try clear hb2); (try clear hk); (try clear hi)) | ((with_reducible refine gate_dst (N := 16) rfl ?_); (try (refine gate_guard (by rfl) ?_; dsimp only)); refine box_event ?hg (N := 16) ?hd (cs := #[.string (⟨#[]⟩ : ByteArray), .string (⟨#[]⟩ : ByteArray), .int .i64 0]) (t := 24) ?hr ?_; (case hd => rfl); (case hg => rfl); (case hr => first | (go_simp; done) | (go_simp; rfl)); intro gb30049 hg w81 hbox hb; have n0_ := Aside0.mk (Kd.R_below (by (with_reducible repeat (first | apply Kd.R_alloc | apply Kd.R_drewN | apply Kd.R_drew)); exact HO_4.out) hb); have n1_ := Aside0.mk (Kd.R_below (by (with_reducible repeat (first | apply Kd.R_alloc | apply Kd.R_drewN | apply Kd.R_drew)); exact HO_11.out) hb); have n2_ := Aside0.mk (Kd.R_below (by (with_reducible repeat (first | apply Kd.R_alloc | apply Kd.R_drewN | apply Kd.R_drew)); exact HO30033.out) hb); have n3_ := Aside0.mk (blk_below (g := gb30007) (o := .cells #[.string t30001, .string t30002, .int .i64 t30003] 24 (0, 0)) (by (with_reducible repeat (first | refine blk_drewN ?_ _ | refine blk_drew ?_ | refine blk_alloc ?_ _)); exact BK30007.out) hb); have n4_ := Aside0.mk (blk_below (g := gb30014) (o := .cells #[.string t30008, .string t30009, .int .i64 t30010] 24 (0, 0)) (by (with_reducible repeat (first | refine blk_drewN ?_ _ | refine blk_drew ?_ | refine blk_alloc ?_ _)); exact BK30014.out) hb); have n5_ := Aside0.mk (blk_below (g := gb30019) (o := .cells #[.string t30015, .string t30016, .int .i64 t30017] 24 (0, 0)) (by (with_reducible repeat (first | refine blk_drewN ?_ _ | refine blk_drew ?_ | refine blk_alloc ?_ _)); exact BK30019.out) hb); have n6_ := Aside0.mk (blk_below (g := gb30024) (o := .cells #[.string t30020, .string t30021, .int .i64 t30022] 24 (0, 0)) (by (with_reducible repeat (first | refine blk_drewN ?_ _ | refine blk_drew ?_ | refine blk_alloc ?_ _)); exact BK30024.out) hb); have n7_ := Aside0.mk (blk_below (g := gb30037) (o := .cells #[.string t30034, .string t30035, .int .i64 t30036] 24 (0, 0)) (by (with_reducible repeat (first | refine blk_drewN ?_ _ | refine blk_drew ?_ | refine blk_alloc ?_ _)); exact BK30037.out) hb); have n8_ := Aside0.mk (blk_below (g := gb30041) (o := .cells #[.string t30038, .string t30039, .int .i64 t30040] 24 (0, 0)) (by (with_reducible repeat (first | refine blk_drewN ?_ _ | refine blk_drew ?_ | refine blk_alloc ?_ _)); exact BK30041.out) hb); have n9_ := Aside0.mk (blk_below (g := gb30045) (o := .cells #[.string t30042, .string t30043, .int .i64 t30044] 24 (0, 0)) (by (with_reducible repeat (first | refine blk_drewN ?_ _ | refine blk_drew ?_ | refine blk_alloc ?_ _)); exact BK30045.out) hb); have n10_ := Aside0.mk (below_step (by repeat (first | (with_reducible first | exact HB.out | apply below_alloc | apply pw_below_drewN | apply below_drew1 | refine below_set ?_ GE30007.out | refine below_set ?_ GE30014.out | refine below_set ?_ GE30019.out | refine below_set ?_ GE30024.out | refine below_set ?_ GE30037.out | refine below_set ?_ GE30041.out | refine below_set ?_ GE30045.out) | exact HB.out)) hb); have n11_ := Aside0.mk (hbox); have n12_ := Aside0.mk ((by rw [hg]; exact (below_size (by repeat (first | (with_reducible first | exact HB.out | apply below_alloc | apply pw_below_drewN | apply below_drew1 | refine below_set ?_ GE30007.out | refine below_set ?_ GE30014.out | refine below_set ?_ GE30019.out | refine below_set ?_ GE30024.out | refine below_set ?_ GE30037.out | refine below_set ?_ GE30041.out | refine below_set ?_ GE30045.out) | exact HB.out))) : w.heap.size ≤ gb30049)); have n13_ := Aside0.mk ((by rw [hg]; exact (below_size (by repeat (first | (with_reducible first | exact HB.out | apply below_alloc | apply pw_below_drewN | apply below_drew1 | refine below_set ?_ GE30007.out | refine below_set ?_ GE30014.out | refine below_set ?_ GE30019.out | refine below_set ?_ GE30024.out | refine below_set ?_ GE30037.out | refine below_set ?_ GE30041.out | refine below_set ?_ GE30045.out) | exact HB.out))) : w.heap.size ≤ gb30049)); have n14_ := Aside0.mk ((by rw [hg]; exact Nat.ne_of_lt (blk_lt (g := gb30007) (o := .cells #[.string t30001, .string t30002, .int .i64 t30003] 24 (0, 0)) (by (with_reducible repeat (first | refine blk_drewN ?_ _ | refine blk_drew ?_ | refine blk_alloc ?_ _)); exact BK30007.out)) : gb30007 ≠ gb30049)); have n15_ := Aside0.mk ((by rw [hg]; exact Nat.ne_of_gt (blk_lt (g := gb30007) (o := .cells #[.string t30001, .string t30002, .int .i64 t30003] 24 (0, 0)) (by (with_reducible repeat (first | refine blk_drewN ?_ _ | refine blk_drew ?_ | refine blk_alloc ?_ _)); exact BK30007.out)) : gb30049 ≠ gb30007)); have n16_ := Aside0.mk ((by rw [hg]; exact Nat.ne_of_lt (blk_lt (g := gb30014) (o := .cells #[.string t30008, .string t30009, .int .i64 t30010] 24 (0, 0)) (by (with_reducible repeat (first | refine blk_drewN ?_ _ | refine blk_drew ?_ | refine blk_alloc ?_ _)); exact BK30014.out)) : gb30014 ≠ gb30049)); have n17_ := Aside0.mk ((by rw [hg]; exact Nat.ne_of_gt (blk_lt (g := gb30014) (o := .cells #[.string t30008, .string t30009, .int .i64 t30010] 24 (0, 0)) (by (with_reducible repeat (first | refine blk_drewN ?_ _ | refine blk_drew ?_ | refine blk_alloc ?_ _)); exact BK30014.out)) : gb30049 ≠ gb30014)); have n18_ := Aside0.mk ((by rw [hg]; exact Nat.ne_of_lt (blk_lt (g := gb30019) (o := .cells #[.string t30015, .string t30016, .int .i64 t30017] 24 (0, 0)) (by (with_reducible repeat (first | refine blk_drewN ?_ _ | refine blk_drew ?_ | refine blk_alloc ?_ _)); exact BK30019.out)) : gb30019 ≠ gb30049)); have n19_ := Aside0.mk ((by rw [hg]; exact Nat.ne_of_gt (blk_lt (g := gb30019) (o := .cells #[.string t30015, .string t30016, .int .i64 t30017] 24 (0, 0)) (by (with_reducible repeat (first | refine blk_drewN ?_ _ | refine blk_drew ?_ | refine blk_alloc ?_ _)); exact BK30019.out)) : gb30049 ≠ gb30019)); have n20_ := Aside0.mk ((by rw [hg]; exact Nat.ne_of_lt (blk_lt (g := gb30024) (o := .cells #[.string t30020, .string t30021, .int .i64 t30022] 24 (0, 0)) (by (with_reducible repeat (first | refine blk_drewN ?_ _ | refine blk_drew ?_ | refine blk_alloc ?_ _)); exact BK30024.out)) : gb30024 ≠ gb30049)); have n21_ := Aside0.mk ((by rw [hg]; exact Nat.ne_of_gt (blk_lt (g := gb30024) (o := .cells #[.string t30020, .string t30021, .int .i64 t30022] 24 (0, 0)) (by (with_reducible repeat (first | refine blk_drewN ?_ _ | refine blk_drew ?_ | refine blk_alloc ?_ _)); exact BK30024.out)) : gb30049 ≠ gb30024)); have n22_ := Aside0.mk ((by rw [hg]; exact Nat.ne_of_lt (blk_lt (g := gb30037) (o := .cells #[.string t30034, .string t30035, .int .i64 t30036] 24 (0, 0)) (by (with_reducible repeat (first | refine blk_drewN ?_ _ | refine blk_drew ?_ | refine blk_alloc ?_ _)); exact BK30037.out)) : gb30037 ≠ gb30049)); have n23_ := Aside0.mk ((by rw [hg]; exact Nat.ne_of_gt (blk_lt (g := gb30037) (o := .cells #[.string t30034, .string t30035, .int .i64 t30036] 24 (0, 0)) (by (with_reducible repeat (first | refine blk_drewN ?_ _ | refine blk_drew ?_ | refine blk_alloc ?_ _)); exact BK30037.out)) : gb30049 ≠ gb30037)); have n24_ := Aside0.mk ((by rw [hg]; exact Nat.ne_of_lt (blk_lt (g := gb30041) (o := .cells #[.string t30038, .string t30039, .int .i64 t30040] 24 (0, 0)) (by (with_reducible repeat (first | refine blk_drewN ?_ _ | refine blk_drew ?_ | refine blk_alloc ?_ _)); exact BK30041.out)) : gb30041 ≠ gb30049)); have n25_ := Aside0.mk ((by rw [hg]; exact Nat.ne_of_gt (blk_lt (g := gb30041) (o := .cells #[.string t30038, .string t30039, .int .i64 t30040] 24 (0, 0)) (by (with_reducible repeat (first | refine blk_drewN ?_ _ | refine blk_drew ?_ | refine blk_alloc ?_ _)); exact BK30041.out)) : gb30049 ≠ gb30041)); have n26_ := Aside0.mk ((by rw [hg]; exact Nat.ne_of_lt (blk_lt (g := gb30045) (o := .cells #[.string t30042, .string t30043, .int .i64 t30044] 24 (0, 0)) (by (with_reducible repeat (first | refine blk_drewN ?_ _ | refine blk_drew ?_ | refine blk_alloc ?_ _)); exact BK30045.out)) : gb30045 ≠ gb30049)); have n27_ := Aside0.mk ((by rw [hg]; exact Nat.ne_of_gt (blk_lt (g := gb30045) (o := .cells #[.string t30042, .string t30043, .int .i64 t30044] 24 (0, 0)) (by (with_reducible repeat (first | refine blk_drewN ?_ _ | refine blk_drew ?_ | refine blk_alloc ?_ _)); exact BK30045.out)) : gb30049 ≠ gb30045)); clear HO_4; clear HO_11; clear HO30033; clear BK30007; clear BK30014; clear BK30019; clear BK30024; clear BK30037; clear BK30041; clear BK30045; clear HB; have HO_4 := n0_; have HO_11 := n1_; have HO30033 := n2_; have BK30007 := n3_; have BK30014 := n4_; have BK30019 := n5_; have BK30024 := n6_; have BK30037 := n7_; have BK30041 := n8_; have BK30045 := n9_; have HB := n10_; have BK30049 := n11_; have GW30049 := n12_; have GE30049 := n13_; have NB30007_30049 := n14_; have NB30049_30007 := n15_; have NB30014_30049 := n16_; have NB30049_30014 := n17_; have NB30019_30049 := n18_; have NB30049_30019 := n19_; have NB30024_30049 := n20_; have NB30049_30024 := n21_; have NB30037_30049 := n22_; have NB30049_30037 := n23_; have NB30041_30049 := n24_; have NB30049_30041 := n25_; have NB30045_30049 := n26_; have NB30049_30045 := n27_; clear n0_ n1_ n2_ n3_ n4_ n5_ n6_ n7_ n8_ n9_ n10_ n11_ n12_ n13_ n14_ n15_ n16_ n17_ n18_ n19_ n20_ n21_ n22_ n23_ n24_ n25_ n26_ n27_; clear hb hbox hg; have hnb82 := NB30049_30007.out; have hnc82 := NB30007_30049.out; have hnb83 := NB30049_30014.out; have hnc83 := NB30014_30049.out; have hnb84 := NB30049_30019.out; have hnc84 := NB30019_30049.out; have hnb85 := NB30049_30024.out; have hnc85 := NB30024_30049.out; have hnb86 := NB30049_30037.out; have hnc86 := NB30037_30049.out; have hnb87 := NB30049_30041.out; have hnc87 := NB30041_30049.out; have hnb88 := NB30049_30045.out; have hnc88 := NB30045_30049.out; have hcz89_0 : w81.cell? ⟨gb30049, 0, none⟩ = some (.string (⟨#[]⟩ : ByteArray)) := (blk_cell BK30049.out 0).trans rfl; have hcz89_1 : w81.cell? ⟨gb30049, 1, none⟩ = some (.string (⟨#[]⟩ : ByteArray)) := (blk_cell BK30049.out 1).trans rfl; have hcz89_2 : w81.cell? ⟨gb30049, 2, none⟩ = some (.int .i64 0) := (blk_cell BK30049.out 2).trans rfl; have hfz89_0 := blk_frozen BK30049.out 0; have hfz89_1 := blk_frozen BK30049.out 1; have hfz89_2 := blk_frozen BK30049.out 2))
       (try simp only [Act.put, List.setIfInBounds_toArray, List.set_cons_zero, List.set_cons_succ])
       go_cut [105] (fun v105 wc => ∃ (kq : Nat) (x105_40 : Bool), v105 = .bool x105_40 ∧ Aside0 (laws_FnCrash.j1 kq x105_40 t30001 t30002 t30003 t30008 t30009 t30010 t30020 t30021 t30022 t30042 t30043 t30044 = some r) ∧ Aside0 (kq ≤ k1) ∧ Aside0 (wc.heap[gb30007]? = some (.cells #[.string t30001, .string t30002, .int .i64 t30003] 24 (0, 0))) ∧ Aside0 (wc.heap[gb30014]? = some (.cells #[.string t30008, .string t30009, .int .i64 t30010] 24 (0, 0))) ∧ Aside0 (wc.heap[gb30019]? = some (.cells #[.string t30015, .string t30016, .int .i64 t30017] 24 (0, 0))) ∧ Aside0 (wc.heap[gb30024]? = some (.cells #[.string t30020, .string t30021, .int .i64 t30022] 24 (0, 0))) ∧ Aside0 (wc.heap[gb30037]? = some (.cells #[.string t30034, .string t30035, .int .i64 t30036] 24 (0, 0))) ∧ Aside0 (wc.heap[gb30041]? = some (.cells #[.string t30038, .string t30039, .int .i64 t30040] 24 (0, 0))) ∧ Aside0 (wc.heap[gb30045]? = some (.cells #[.string t30042, .string t30043, .int .i64 t30044] 24 (0, 0))) ∧ Aside0 (wc.heap[gb30049]? = some (.cells #[.string t30046, .string t30047, .int .i64 t30048] 24 (0, 0))) ∧ Aside0 (Below w.heap.size w wc))
       case first =>
        have H := HC41.out; clear HC41
        by_cases c90 : t30035.toList = t30008.toList
        ·rw [if_pos c90] at H; have c90b0 : (t30035.toList == t30008.toList) = true := beq_iff_eq.mpr c90; have c90b1 : (t30035.toList != t30008.toList) = false := bne_eq_false_iff_eq.mpr c90; clear c90; (first | rw [c90b0] | (simp only [i64_w, i32_w]; rw [c90b0]) | skip)
         by_cases c91 : t30039.toList = t30009.toList
         ·rw [if_pos c91] at H; have c91b0 : (t30039.toList == t30009.toList) = true := beq_iff_eq.mpr c91; have c91b1 : (t30039.toList != t30009.toList) = false := bne_eq_false_iff_eq.mpr c91; clear c91
          by_cases c92 : t30036 = t30010
          ·rw [if_pos c92] at H; have c92b0 : (t30036 == t30010) = true := beq_iff_eq.mpr c92; have c92b1 : (t30036 != t30010) = false := bne_eq_false_iff_eq.mpr c92; clear c92
           by_cases c93 : t30047.toList = t30043.toList
           ·rw [if_pos c93] at H; have c93b0 : (t30047.toList == t30043.toList) = true := beq_iff_eq.mpr c93; have c93b1 : (t30047.toList != t30043.toList) = false := bne_eq_false_iff_eq.mpr c93; clear c93; have H' := Aside0.mk H; clear H; have hnb94 := NB30037_30007.out; have hnc94 := NB30007_30037.out; have hnb95 := NB30037_30014.out; have hnc95 := NB30014_30037.out; have hnb96 := NB30037_30019.out; have hnc96 := NB30019_30037.out; have hnb97 := NB30037_30024.out; have hnc97 := NB30024_30037.out; have hnb98 := NB30037_30041.out; have hnc98 := NB30041_30037.out; have hnb99 := NB30037_30045.out; have hnc99 := NB30045_30037.out; have hnb100 := NB30037_30049.out; have hnc100 := NB30049_30037.out; have hcz101_0 : w81.cell? ⟨gb30037, 0, none⟩ = some (.string t30034) := (blk_cell BK30037.out 0).trans rfl; have hcz101_1 : w81.cell? ⟨gb30037, 1, none⟩ = some (.string t30035) := (blk_cell BK30037.out 1).trans rfl; have hcz101_2 : w81.cell? ⟨gb30037, 2, none⟩ = some (.int .i64 t30036) := (blk_cell BK30037.out 2).trans rfl; have hfz101_0 := blk_frozen BK30037.out 0; have hfz101_1 := blk_frozen BK30037.out 1; have hfz101_2 := blk_frozen BK30037.out 2; have hnb102 := NB30014_30007.out; have hnc102 := NB30007_30014.out; have hnb103 := NB30014_30019.out; have hnc103 := NB30019_30014.out; have hnb104 := NB30014_30024.out; have hnc104 := NB30024_30014.out; have hnb105 := NB30014_30041.out; have hnc105 := NB30041_30014.out; have hnb106 := NB30014_30045.out; have hnc106 := NB30045_30014.out; have hnb107 := NB30014_30049.out; have hnc107 := NB30049_30014.out; have hcz108_0 : w81.cell? ⟨gb30014, 0, none⟩ = some (.string t30008) := (blk_cell BK30014.out 0).trans rfl; have hcz108_1 : w81.cell? ⟨gb30014, 1, none⟩ = some (.string t30009) := (blk_cell BK30014.out 1).trans rfl; have hcz108_2 : w81.cell? ⟨gb30014, 2, none⟩ = some (.int .i64 t30010) := (blk_cell BK30014.out 2).trans rfl; have hfz108_0 := blk_frozen BK30014.out 0; have hfz108_1 := blk_frozen BK30014.out 1; have hfz108_2 := blk_frozen BK30014.out 2; have hnb109 := NB30041_30007.out; have hnc109 := NB30007_30041.out; have hnb110 := NB30041_30019.out; have hnc110 := NB30019_30041.out; have hnb111 := NB30041_30024.out; have hnc111 := NB30024_30041.out; have hnb112 := NB30041_30045.out; have hnc112 := NB30045_30041.out; have hnb113 := NB30041_30049.out; have hnc113 := NB30049_30041.out; have hcz114_0 : w81.cell? ⟨gb30041, 0, none⟩ = some (.string t30038) := (blk_cell BK30041.out 0).trans rfl
            have hcz114_1 : w81.cell? ⟨gb30041, 1, none⟩ = some (.string t30039) := (blk_cell BK30041.out 1).trans rfl; have hcz114_2 : w81.cell? ⟨gb30041, 2, none⟩ = some (.int .i64 t30040) := (blk_cell BK30041.out 2).trans rfl; have hfz114_0 := blk_frozen BK30041.out 0; have hfz114_1 := blk_frozen BK30041.out 1; have hfz114_2 := blk_frozen BK30041.out 2; have hnb115 := NB30049_30007.out; have hnc115 := NB30007_30049.out; have hnb116 := NB30049_30019.out; have hnc116 := NB30019_30049.out; have hnb117 := NB30049_30024.out; have hnc117 := NB30024_30049.out; have hnb118 := NB30049_30045.out; have hnc118 := NB30045_30049.out; have hcz119_0 : w81.cell? ⟨gb30049, 0, none⟩ = some (.string (⟨#[]⟩ : ByteArray)) := (blk_cell BK30049.out 0).trans rfl; have hcz119_1 : w81.cell? ⟨gb30049, 1, none⟩ = some (.string (⟨#[]⟩ : ByteArray)) := (blk_cell BK30049.out 1).trans rfl; have hcz119_2 : w81.cell? ⟨gb30049, 2, none⟩ = some (.int .i64 0) := (blk_cell BK30049.out 2).trans rfl; have hfz119_0 := blk_frozen BK30049.out 0; have hfz119_1 := blk_frozen BK30049.out 1; have hfz119_2 := blk_frozen BK30049.out 2; have hnb120 := NB30045_30007.out; have hnc120 := NB30007_30045.out; have hnb121 := NB30045_30019.out; have hnc121 := NB30019_30045.out; have hnb122 := NB30045_30024.out; have hnc122 := NB30024_30045.out; have hcz123_0 : w81.cell? ⟨gb30045, 0, none⟩ = some (.string t30042) := (blk_cell BK30045.out 0).trans rfl; have hcz123_1 : w81.cell? ⟨gb30045, 1, none⟩ = some (.string t30043) := (blk_cell BK30045.out 1).trans rfl; have hcz123_2 : w81.cell? ⟨gb30045, 2, none⟩ = some (.int .i64 t30044) := (blk_cell BK30045.out 2).trans rfl; have hfz123_0 := blk_frozen BK30045.out 0; have hfz123_1 := blk_frozen BK30045.out 1; have hfz123_2 := blk_frozen BK30045.out 2
            go_wp2
            repeat (go_quiet (fail); try go_wp2)
            go_meet
            case rel => exact ⟨_, ((t30042.toList != t30043.toList)), (by first | rfl | (simp; done) | (simp [*]; done)), H', ⟨by have := HK1.out; first | omega | exact Nat.le_refl _⟩, ⟨by (with_reducible repeat (first | refine blk_drewN ?_ _ | refine blk_drew ?_ | refine blk_alloc ?_ _)); refine blk_far ?_ NB30007_30049.out _; (with_reducible repeat (first | refine blk_drewN ?_ _ | refine blk_drew ?_ | refine blk_alloc ?_ _)); refine blk_far ?_ NB30007_30049.out _; (with_reducible repeat (first | refine blk_drewN ?_ _ | refine blk_drew ?_ | refine blk_alloc ?_ _)); refine blk_far ?_ NB30007_30049.out _; (with_reducible repeat (first | refine blk_drewN ?_ _ | refine blk_drew ?_ | refine blk_alloc ?_ _)); exact BK30007.out⟩, ⟨by (with_reducible repeat (first | refine blk_drewN ?_ _ | refine blk_drew ?_ | refine blk_alloc ?_ _)); refine blk_far ?_ NB30014_30049.out _; (with_reducible repeat (first | refine blk_drewN ?_ _ | refine blk_drew ?_ | refine blk_alloc ?_ _)); refine blk_far ?_ NB30014_30049.out _; (with_reducible repeat (first | refine blk_drewN ?_ _ | refine blk_drew ?_ | refine blk_alloc ?_ _)); refine blk_far ?_ NB30014_30049.out _; (with_reducible repeat (first | refine blk_drewN ?_ _ | refine blk_drew ?_ | refine blk_alloc ?_ _)); exact BK30014.out⟩, ⟨by (with_reducible repeat (first | refine blk_drewN ?_ _ | refine blk_drew ?_ | refine blk_alloc ?_ _)); refine blk_far ?_ NB30019_30049.out _; (with_reducible repeat (first | refine blk_drewN ?_ _ | refine blk_drew ?_ | refine blk_alloc ?_ _)); refine blk_far ?_ NB30019_30049.out _; (with_reducible repeat (first | refine blk_drewN ?_ _ | refine blk_drew ?_ | refine blk_alloc ?_ _)); refine blk_far ?_ NB30019_30049.out _; (with_reducible repeat (first | refine blk_drewN ?_ _ | refine blk_drew ?_ | refine blk_alloc ?_ _)); exact BK30019.out⟩, ⟨by (with_reducible repeat (first | refine blk_drewN ?_ _ | refine blk_drew ?_ | refine blk_alloc ?_ _)); refine blk_far ?_ NB30024_30049.out _; (with_reducible repeat (first | refine blk_drewN ?_ _ | refine blk_drew ?_ | refine blk_alloc ?_ _)); refine blk_far ?_ NB30024_30049.out _; (with_reducible repeat (first | refine blk_drewN ?_ _ | refine blk_drew ?_ | refine blk_alloc ?_ _)); refine blk_far ?_ NB30024_30049.out _; (with_reducible repeat (first | refine blk_drewN ?_ _ | refine blk_drew ?_ | refine blk_alloc ?_ _)); exact BK30024.out⟩, ⟨by (with_reducible repeat (first | refine blk_drewN ?_ _ | refine blk_drew ?_ | refine blk_alloc ?_ _)); refine blk_far ?_ NB30037_30049.out _; (with_reducible repeat (first | refine blk_drewN ?_ _ | refine blk_drew ?_ | refine blk_alloc ?_ _)); refine blk_far ?_ NB30037_30049.out _; (with_reducible repeat (first | refine blk_drewN ?_ _ | refine blk_drew ?_ | refine blk_alloc ?_ _)); refine blk_far ?_ NB30037_30049.out _; (with_reducible repeat (first | refine blk_drewN ?_ _ | refine blk_drew ?_ | refine blk_alloc ?_ _)); exact BK30037.out⟩, ⟨by (with_reducible repeat (first | refine blk_drewN ?_ _ | refine blk_drew ?_ | refine blk_alloc ?_ _)); refine blk_far ?_ NB30041_30049.out _; (with_reducible repeat (first | refine blk_drewN ?_ _ | refine blk_drew ?_ | refine blk_alloc ?_ _)); refine blk_far ?_ NB30041_30049.out _; (with_reducible repeat (first | refine blk_drewN ?_ _ | refine blk_drew ?_ | refine blk_alloc ?_ _)); refine blk_far ?_ NB30041_30049.out _; (with_reducible repeat (first | refine blk_drewN ?_ _ | refine blk_drew ?_ | refine blk_alloc ?_ _)); exact BK30041.out⟩, ⟨by (with_reducible repeat (first | refine blk_drewN ?_ _ | refine blk_drew ?_ | refine blk_alloc ?_ _)); refine blk_far ?_ NB30045_30049.out _; (with_reducible repeat (first | refine blk_drewN ?_ _ | refine blk_drew ?_ | refine blk_alloc ?_ _)); refine blk_far ?_ NB30045_30049.out _; (with_reducible repeat (first | refine blk_drewN ?_ _ | refine blk_drew ?_ | refine blk_alloc ?_ _)); refine blk_far ?_ NB30045_30049.out _; (with_reducible repeat (first | refine blk_drewN ?_ _ | refine blk_drew ?_ | refine blk_alloc ?_ _)); exact BK30045.out⟩, ⟨by (with_reducible repeat (first | refine blk_drewN ?_ _ | refine blk_drew ?_ | refine blk_alloc ?_ _)); refine blk_put (cs := #[.string t30046, .string t30047, .int .i64 0]) ?_ 2 _ rfl; (with_reducible repeat (first | refine blk_drewN ?_ _ | refine blk_drew ?_ | refine blk_alloc ?_ _)); refine blk_put (cs := #[.string t30046, .string (⟨#[]⟩ : ByteArray), .int .i64 0]) ?_ 1 _ rfl; (with_reducible repeat (first | refine blk_drewN ?_ _ | refine blk_drew ?_ | refine blk_alloc ?_ _)); refine blk_put (cs := #[.string (⟨#[]⟩ : ByteArray), .string (⟨#[]⟩ : ByteArray), .int .i64 0]) ?_ 0 _ rfl; (with_reducible repeat (first | refine blk_drewN ?_ _ | refine blk_drew ?_ | refine blk_alloc ?_ _)); exact BK30049.out⟩, ⟨by repeat (first | (with_reducible first | exact HB.out | apply below_alloc | apply pw_below_drewN | apply below_drew1 | refine below_set ?_ GE30007.out | refine below_set ?_ GE30014.out | refine below_set ?_ GE30019.out | refine below_set ?_ GE30024.out | refine below_set ?_ GE30037.out | refine below_set ?_ GE30041.out | refine below_set ?_ GE30045.out | refine below_set ?_ GE30049.out) | exact HB.out)⟩⟩
           ·rw [if_neg c93] at H; exact absurd H (by simp)
          ·rw [if_neg c92] at H; exact absurd H (by simp)
         ·rw [if_neg c91] at H; exact absurd H (by simp)
        ·rw [if_neg c90] at H; exact absurd H (by simp)
       case rest =>
        clear HC41
        try clear c1
        try clear c2
        try clear c2b0
        try clear c2b1
        try clear p2
        try clear c3
        try clear c4
        try clear c5
        try clear c6
        try clear p6
        try clear c7
        try clear c7b0
        try clear c7b1
        try clear c8
        try clear c8b0
        try clear c8b1
        try clear c9
        try clear c10
        try clear c11
        try clear c12
        try clear c13
        try clear c14
        try clear c15
        try clear c16
        try clear c17
        try clear c18
        try clear c19
        try clear c20
        try clear c24
        try clear c25
        try clear c26
        try clear c30
        try clear c30b0
        try clear c31
        try clear c32
        try clear c33
        try clear c34
        try clear c42
        try clear c43
        try clear c44
        try clear c46
        try clear c47
        try clear c54
        try clear c55
        try clear c56
        try clear c57
        try clear c63
        try clear c64
        try clear p64
        try clear c65
        try clear c66
        try clear c67
        try clear c73
        try clear c74
        try clear c75
        try clear c76
        try clear c77
        try clear c78
        try clear c82
        try clear c83
        try clear c84
        try clear c85
        try clear c86
        try clear c87
        try clear c88
        try clear c90
        try clear c90b0
        try clear c90b1
        try clear c91
        try clear c91b0
        try clear c91b1
        try clear c92
        try clear c92b0
        try clear c92b1
        try clear c93
        try clear c93b0
        try clear c93b1
        try clear c94
        try clear c95
        try clear c96
        try clear c97
        try clear c98
        try clear c99
        try clear c100
        try clear c102
        try clear c103
        try clear c104
        try clear c105
        try clear c106
        try clear c107
        try clear c109
        try clear c110
        try clear c111
        try clear c112
        try clear c113
        try clear c115
        try clear c116
        try clear c117
        try clear c118
        try clear c120
        try clear c121
        try clear c122
        try clear c124
        try clear c125
        try clear c126
        try clear c127
        try clear c128
        try clear c129
        try clear c130
        try clear c132
        try clear c133
        try clear c134
        try clear c135
        try clear c136
        try clear c137
        try clear c139
        try clear c140
        try clear c141
        try clear c142
        try clear c143
        try clear c145
        try clear c146
        try clear c147
        try clear c148
        try clear c150
        try clear c151
        try clear c152
        try clear c154
        try clear c155
        try clear c156
        try clear c157
        try clear c158
        try clear c159
        try clear c160
        try clear c162
        try clear c163
        try clear c164
        try clear c165
        try clear c166
        try clear c167
        try clear c169
        try clear c170
        try clear c171
        try clear c172
        try clear c173
        try clear c175
        try clear c176
        try clear c177
        try clear c178
        try clear c179
        try clear c180
        try clear c181
        try clear c183
        try clear c184
        try clear c185
        try clear c186
        try clear c187
        try clear c188
        try clear c190
        try clear c191
        try clear c192
        try clear c193
        try clear c194
        try clear c196
        try clear c197
        try clear c198
        try clear c199
        try clear c200
        try clear c201
        try clear c202
        try clear c204
        try clear c205
        try clear c206
        try clear c207
        try clear c208
        try clear c209
        try clear hcz101_0
        try clear hcz101_1
        try clear hcz101_2
        try clear hcz108_0
        try clear hcz108_1
        try clear hcz108_2
        try clear hcz114_0
        try clear hcz114_1
        try clear hcz114_2
        try clear hcz119_0
        try clear hcz119_1
        try clear hcz119_2
        try clear hcz11_0
        try clear hcz11_1
        try clear hcz11_2
        try clear hcz123_0
        try clear hcz123_1
        try clear hcz123_2
        try clear hcz131_0
        try clear hcz131_1
        try clear hcz131_2
        try clear hcz138_0
        try clear hcz138_1
        try clear hcz138_2
        try clear hcz144_0
        try clear hcz144_1
        try clear hcz144_2
        try clear hcz149_0
        try clear hcz149_1
        try clear hcz149_2
        try clear hcz153_0
        try clear hcz153_1
        try clear hcz153_2
        try clear hcz15_0
        try clear hcz15_1
        try clear hcz15_2
        try clear hcz161_0
        try clear hcz161_1
        try clear hcz161_2
        try clear hcz168_0
        try clear hcz168_1
        try clear hcz168_2
        try clear hcz174_0
        try clear hcz174_1
        try clear hcz174_2
        try clear hcz182_0
        try clear hcz182_1
        try clear hcz182_2
        try clear hcz189_0
        try clear hcz189_1
        try clear hcz189_2
        try clear hcz195_0
        try clear hcz195_1
        try clear hcz195_2
        try clear hcz203_0
        try clear hcz203_1
        try clear hcz203_2
        try clear hcz20_0
        try clear hcz20_1
        try clear hcz20_2
        try clear hcz210_0
        try clear hcz210_1
        try clear hcz210_2
        try clear hcz21_0
        try clear hcz21_1
        try clear hcz21_2
        try clear hcz27_0
        try clear hcz27_1
        try clear hcz27_2
        try clear hcz35_0
        try clear hcz35_1
        try clear hcz35_2
        try clear hcz45_0
        try clear hcz45_1
        try clear hcz45_2
        try clear hcz48_0
        try clear hcz48_1
        try clear hcz48_2
        try clear hcz58_0
        try clear hcz58_1
        try clear hcz58_2
        try clear hcz59_0
        try clear hcz59_1
        try clear hcz59_2
        try clear hcz68_0
        try clear hcz68_1
        try clear hcz68_2
        try clear hcz69_0
        try clear hcz69_1
        try clear hcz69_2
        try clear hcz79_0
        try clear hcz79_1
        try clear hcz79_2
        try clear hcz89_0
        try clear hcz89_1
        try clear hcz89_2
        try clear hfz101_0
        try clear hfz101_1
        try clear hfz101_2
        try clear hfz108_0
        try clear hfz108_1
        try clear hfz108_2
        try clear hfz114_0
        try clear hfz114_1
        try clear hfz114_2
        try clear hfz119_0
        try clear hfz119_1
        try clear hfz119_2
        try clear hfz11_0
        try clear hfz11_1
        try clear hfz11_2
        try clear hfz123_0
        try clear hfz123_1
        try clear hfz123_2
        try clear hfz131_0
        try clear hfz131_1
        try clear hfz131_2
        try clear hfz138_0
        try clear hfz138_1
        try clear hfz138_2
        try clear hfz144_0
        try clear hfz144_1
        try clear hfz144_2
        try clear hfz149_0
        try clear hfz149_1
        try clear hfz149_2
        try clear hfz153_0
        try clear hfz153_1
        try clear hfz153_2
        try clear hfz15_0
        try clear hfz15_1
        try clear hfz15_2
        try clear hfz161_0
        try clear hfz161_1
        try clear hfz161_2
        try clear hfz168_0
        try clear hfz168_1
        try clear hfz168_2
        try clear hfz174_0
        try clear hfz174_1
        try clear hfz174_2
        try clear hfz182_0
        try clear hfz182_1
        try clear hfz182_2
        try clear hfz189_0
        try clear hfz189_1
        try clear hfz189_2
        try clear hfz195_0
        try clear hfz195_1
        try clear hfz195_2
        try clear hfz203_0
        try clear hfz203_1
        try clear hfz203_2
        try clear hfz20_0
        try clear hfz20_1
        try clear hfz20_2
        try clear hfz210_0
        try clear hfz210_1
        try clear hfz210_2
        try clear hfz21_0
        try clear hfz21_1
        try clear hfz21_2
        try clear hfz27_0
        try clear hfz27_1
        try clear hfz27_2
        try clear hfz35_0
        try clear hfz35_1
        try clear hfz35_2
        try clear hfz45_0
        try clear hfz45_1
        try clear hfz45_2
        try clear hfz48_0
        try clear hfz48_1
        try clear hfz48_2
        try clear hfz58_0
        try clear hfz58_1
        try clear hfz58_2
        try clear hfz59_0
        try clear hfz59_1
        try clear hfz59_2
        try clear hfz68_0
        try clear hfz68_1
        try clear hfz68_2
        try clear hfz69_0
        try clear hfz69_1
        try clear hfz69_2
        try clear hfz79_0
        try clear hfz79_1
        try clear hfz79_2
        try clear hfz89_0
        try clear hfz89_1
        try clear hfz89_2
        try clear p2
        obtain ⟨kq, x105_40, rfl, HA, HJ40, BK30007, BK30014, BK30019, BK30024, BK30037, BK30041, BK30045, BK30049, HB⟩ := hcut
        cases kq with
        | zero => exact absurd HA.out (by simp [laws_FnCrash.j1])
        | succ kj40 =>
         have H := HA.out; clear HA; simp only [laws_FnCrash.j1] at H
         by_cases c211 : x105_40 = true
         ·subst c211; have H1 : (none) = some r := by rw [if_pos rfl] at H; exact H
          exact absurd H1 (by simp)
         ·replace c211 := Bool.eq_false_iff.mpr c211; subst c211; have H1 : (if (t30043.size : Int) < (t30008.size : Int) then (laws_FnCrash.j2 kj40 true t30001 t30002 t30003 t30008 t30009 t30010 t30020 t30021 t30022 t30042 t30043 t30044) else (if (t30043.size : Int) > (t30009.size : Int) then (laws_FnCrash.j2 kj40 true t30001 t30002 t30003 t30008 t30009 t30010 t30020 t30021 t30022 t30042 t30043 t30044) else (if 0 ≤ (t30008.size : Int) then (if (t30008.size : Int) ≤ (t30043.size : Int) then (laws_FnCrash.j2 kj40 ((t30043.extract 0 ((t30008.size : Int) : Int).toNat).toList != t30008.toList) t30001 t30002 t30003 t30008 t30009 t30010 t30020 t30021 t30022 t30042 t30043 t30044) else (none)) else (none)))) = some r := by rw [if_neg (show ¬ (false = true) by decide)] at H; exact H
          clear H; have H := H1; clear H1; have HC212 := Aside0.mk H; clear H
          go_upto_region 22 with (fail)
          repeat (go_quiet (fail); go_upto_region 22 with (fail))
          go_cut [132] (fun v132 wc => ∃ (kq : Nat) (x132_211 : Bool), v132 = .bool x132_211 ∧ Aside0 (laws_FnCrash.j2 kq x132_211 t30001 t30002 t30003 t30008 t30009 t30010 t30020 t30021 t30022 t30042 t30043 t30044 = some r) ∧ Aside0 (kq ≤ kj40) ∧ Aside0 (wc.heap[gb30007]? = some (.cells #[.string t30001, .string t30002, .int .i64 t30003] 24 (0, 0))) ∧ Aside0 (wc.heap[gb30014]? = some (.cells #[.string t30008, .string t30009, .int .i64 t30010] 24 (0, 0))) ∧ Aside0 (wc.heap[gb30019]? = some (.cells #[.string t30015, .string t30016, .int .i64 t30017] 24 (0, 0))) ∧ Aside0 (wc.heap[gb30024]? = some (.cells #[.string t30020, .string t30021, .int .i64 t30022] 24 (0, 0))) ∧ Aside0 (wc.heap[gb30037]? = some (.cells #[.string t30034, .string t30035, .int .i64 t30036] 24 (0, 0))) ∧ Aside0 (wc.heap[gb30041]? = some (.cells #[.string t30038, .string t30039, .int .i64 t30040] 24 (0, 0))) ∧ Aside0 (wc.heap[gb30045]? = some (.cells #[.string t30042, .string t30043, .int .i64 t30044] 24 (0, 0))) ∧ Aside0 (wc.heap[gb30049]? = some (.cells #[.string t30046, .string t30047, .int .i64 t30048] 24 (0, 0))) ∧ Aside0 (Below w.heap.size w wc))
          case first =>
           have H := HC212.out; clear HC212
           by_cases c213 : (t30043.size : Int) < (t30008.size : Int)
           ·rw [if_pos c213] at H; have c213b0 : decide ((t30043.size : Int) < (t30008.size : Int)) = true := decide_eq_true c213; have c213b1 : decide (t30043.size < t30008.size) = true := decide_eq_true (Int.ofNat_lt.mp c213); clear c213; (first | rw [c213b0] | (simp only [i64_w, i32_w]; rw [c213b0]) | skip); have H' := Aside0.mk H; clear H; have hnb214 := NB30045_30007.out; have hnc214 := NB30007_30045.out; have hnb215 := NB30045_30014.out; have hnc215 := NB30014_30045.out; have hnb216 := NB30045_30019.out; have hnc216 := NB30019_30045.out; have hnb217 := NB30045_30024.out; have hnc217 := NB30024_30045.out; have hnb218 := NB30045_30037.out; have hnc218 := NB30037_30045.out; have hnb219 := NB30045_30041.out; have hnc219 := NB30041_30045.out; have hnb220 := NB30045_30049.out; have hnc220 := NB30049_30045.out; have hcz221_0 : wc.cell? ⟨gb30045, 0, none⟩ = some (.string t30042) := (blk_cell BK30045.out 0).trans rfl; have hcz221_1 : wc.cell? ⟨gb30045, 1, none⟩ = some (.string t30043) := (blk_cell BK30045.out 1).trans rfl; have hcz221_2 : wc.cell? ⟨gb30045, 2, none⟩ = some (.int .i64 t30044) := (blk_cell BK30045.out 2).trans rfl; have hfz221_0 := blk_frozen BK30045.out 0; have hfz221_1 := blk_frozen BK30045.out 1; have hfz221_2 := blk_frozen BK30045.out 2; have hnb222 := NB30014_30007.out; have hnc222 := NB30007_30014.out; have hnb223 := NB30014_30019.out; have hnc223 := NB30019_30014.out; have hnb224 := NB30014_30024.out; have hnc224 := NB30024_30014.out; have hnb225 := NB30014_30037.out; have hnc225 := NB30037_30014.out; have hnb226 := NB30014_30041.out; have hnc226 := NB30041_30014.out; have hnb227 := NB30014_30049.out; have hnc227 := NB30049_30014.out; have hcz228_0 : wc.cell? ⟨gb30014, 0, none⟩ = some (.string t30008) := (blk_cell BK30014.out 0).trans rfl; have hcz228_1 : wc.cell? ⟨gb30014, 1, none⟩ = some (.string t30009) := (blk_cell BK30014.out 1).trans rfl; have hcz228_2 : wc.cell? ⟨gb30014, 2, none⟩ = some (.int .i64 t30010) := (blk_cell BK30014.out 2).trans rfl; have hfz228_0 := blk_frozen BK30014.out 0; have hfz228_1 := blk_frozen BK30014.out 1; have hfz228_2 := blk_frozen BK30014.out 2
            go_wp2
            repeat (go_quiet (fail); try go_wp2)
            go_meet
            case rel => exact ⟨_, (true), (by first | rfl | (simp; done) | (simp [*]; done)), H', ⟨by have := HK1.out; have := HJ40.out; first | omega | exact Nat.le_refl _⟩, ⟨by (with_reducible repeat (first | refine blk_drewN ?_ _ | refine blk_drew ?_ | refine blk_alloc ?_ _)); exact BK30007.out⟩, ⟨by (with_reducible repeat (first | refine blk_drewN ?_ _ | refine blk_drew ?_ | refine blk_alloc ?_ _)); exact BK30014.out⟩, ⟨by (with_reducible repeat (first | refine blk_drewN ?_ _ | refine blk_drew ?_ | refine blk_alloc ?_ _)); exact BK30019.out⟩, ⟨by (with_reducible repeat (first | refine blk_drewN ?_ _ | refine blk_drew ?_ | refine blk_alloc ?_ _)); exact BK30024.out⟩, ⟨by (with_reducible repeat (first | refine blk_drewN ?_ _ | refine blk_drew ?_ | refine blk_alloc ?_ _)); exact BK30037.out⟩, ⟨by (with_reducible repeat (first | refine blk_drewN ?_ _ | refine blk_drew ?_ | refine blk_alloc ?_ _)); exact BK30041.out⟩, ⟨by (with_reducible repeat (first | refine blk_drewN ?_ _ | refine blk_drew ?_ | refine blk_alloc ?_ _)); exact BK30045.out⟩, ⟨by (with_reducible repeat (first | refine blk_drewN ?_ _ | refine blk_drew ?_ | refine blk_alloc ?_ _)); exact BK30049.out⟩, ⟨by repeat (first | (with_reducible first | exact HB.out | apply below_alloc | apply pw_below_drewN | apply below_drew1 | refine below_set ?_ GE30007.out | refine below_set ?_ GE30014.out | refine below_set ?_ GE30019.out | refine below_set ?_ GE30024.out | refine below_set ?_ GE30037.out | refine below_set ?_ GE30041.out | refine below_set ?_ GE30045.out | refine below_set ?_ GE30049.out) | exact HB.out)⟩⟩
           ·rw [if_neg c213] at H; have c213b0 : decide ((t30043.size : Int) < (t30008.size : Int)) = false := decide_eq_false c213; have c213b1 : decide (t30043.size < t30008.size) = false := decide_eq_false (fun h => c213 (Int.ofNat_lt.mpr h)); clear c213; (first | rw [c213b0] | (simp only [i64_w, i32_w]; rw [c213b0]) | skip)
            by_cases c229 : (t30043.size : Int) > (t30009.size : Int)
            ·rw [if_pos c229] at H; have c229b0 : decide ((t30009.size : Int) < (t30043.size : Int)) = true := decide_eq_true c229; have c229b1 : decide (t30009.size < t30043.size) = true := decide_eq_true (Int.ofNat_lt.mp c229); clear c229; have H' := Aside0.mk H; clear H; have hnb230 := NB30045_30007.out; have hnc230 := NB30007_30045.out; have hnb231 := NB30045_30014.out; have hnc231 := NB30014_30045.out; have hnb232 := NB30045_30019.out; have hnc232 := NB30019_30045.out; have hnb233 := NB30045_30024.out; have hnc233 := NB30024_30045.out; have hnb234 := NB30045_30037.out; have hnc234 := NB30037_30045.out; have hnb235 := NB30045_30041.out; have hnc235 := NB30041_30045.out; have hnb236 := NB30045_30049.out; have hnc236 := NB30049_30045.out; have hcz237_0 : wc.cell? ⟨gb30045, 0, none⟩ = some (.string t30042) := (blk_cell BK30045.out 0).trans rfl; have hcz237_1 : wc.cell? ⟨gb30045, 1, none⟩ = some (.string t30043) := (blk_cell BK30045.out 1).trans rfl; have hcz237_2 : wc.cell? ⟨gb30045, 2, none⟩ = some (.int .i64 t30044) := (blk_cell BK30045.out 2).trans rfl; have hfz237_0 := blk_frozen BK30045.out 0; have hfz237_1 := blk_frozen BK30045.out 1; have hfz237_2 := blk_frozen BK30045.out 2; have hnb238 := NB30014_30007.out; have hnc238 := NB30007_30014.out; have hnb239 := NB30014_30019.out; have hnc239 := NB30019_30014.out; have hnb240 := NB30014_30024.out; have hnc240 := NB30024_30014.out; have hnb241 := NB30014_30037.out; have hnc241 := NB30037_30014.out; have hnb242 := NB30014_30041.out; have hnc242 := NB30041_30014.out; have hnb243 := NB30014_30049.out; have hnc243 := NB30049_30014.out; have hcz244_0 : wc.cell? ⟨gb30014, 0, none⟩ = some (.string t30008) := (blk_cell BK30014.out 0).trans rfl; have hcz244_1 : wc.cell? ⟨gb30014, 1, none⟩ = some (.string t30009) := (blk_cell BK30014.out 1).trans rfl; have hcz244_2 : wc.cell? ⟨gb30014, 2, none⟩ = some (.int .i64 t30010) := (blk_cell BK30014.out 2).trans rfl; have hfz244_0 := blk_frozen BK30014.out 0; have hfz244_1 := blk_frozen BK30014.out 1; have hfz244_2 := blk_frozen BK30014.out 2
             go_wp2
             repeat (go_quiet (fail); try go_wp2)
             go_meet
             case rel => exact ⟨_, (true), (by first | rfl | (simp; done) | (simp [*]; done)), H', ⟨by have := HK1.out; have := HJ40.out; first | omega | exact Nat.le_refl _⟩, ⟨by (with_reducible repeat (first | refine blk_drewN ?_ _ | refine blk_drew ?_ | refine blk_alloc ?_ _)); exact BK30007.out⟩, ⟨by (with_reducible repeat (first | refine blk_drewN ?_ _ | refine blk_drew ?_ | refine blk_alloc ?_ _)); exact BK30014.out⟩, ⟨by (with_reducible repeat (first | refine blk_drewN ?_ _ | refine blk_drew ?_ | refine blk_alloc ?_ _)); exact BK30019.out⟩, ⟨by (with_reducible repeat (first | refine blk_drewN ?_ _ | refine blk_drew ?_ | refine blk_alloc ?_ _)); exact BK30024.out⟩, ⟨by (with_reducible repeat (first | refine blk_drewN ?_ _ | refine blk_drew ?_ | refine blk_alloc ?_ _)); exact BK30037.out⟩, ⟨by (with_reducible repeat (first | refine blk_drewN ?_ _ | refine blk_drew ?_ | refine blk_alloc ?_ _)); exact BK30041.out⟩, ⟨by (with_reducible repeat (first | refine blk_drewN ?_ _ | refine blk_drew ?_ | refine blk_alloc ?_ _)); exact BK30045.out⟩, ⟨by (with_reducible repeat (first | refine blk_drewN ?_ _ | refine blk_drew ?_ | refine blk_alloc ?_ _)); exact BK30049.out⟩, ⟨by repeat (first | (with_reducible first | exact HB.out | apply below_alloc | apply pw_below_drewN | apply below_drew1 | refine below_set ?_ GE30007.out | refine below_set ?_ GE30014.out | refine below_set ?_ GE30019.out | refine below_set ?_ GE30024.out | refine below_set ?_ GE30037.out | refine below_set ?_ GE30041.out | refine below_set ?_ GE30045.out | refine below_set ?_ GE30049.out) | exact HB.out)⟩⟩
            ·rw [if_neg c229] at H; have c229b0 : decide ((t30009.size : Int) < (t30043.size : Int)) = false := decide_eq_false c229; have c229b1 : decide (t30009.size < t30043.size) = false := decide_eq_false (fun h => c229 (Int.ofNat_lt.mpr h)); clear c229
             by_cases c245 : 0 ≤ (t30008.size : Int)
             ·rw [if_pos c245] at H; have c245b0 := eq_true c245; have c245b1 : decide (0 ≤ (t30008.size : Int)) = true := decide_eq_true c245; clear c245
              by_cases c246 : (t30008.size : Int) ≤ (t30043.size : Int)
              ·rw [if_pos c246] at H; have c246b0 := eq_true c246; have c246b1 : decide ((t30008.size : Int) ≤ (t30043.size : Int)) = true := decide_eq_true c246; clear c246; have H' := Aside0.mk H; clear H; have hnb247 := NB30045_30007.out; have hnc247 := NB30007_30045.out; have hnb248 := NB30045_30014.out; have hnc248 := NB30014_30045.out; have hnb249 := NB30045_30019.out; have hnc249 := NB30019_30045.out; have hnb250 := NB30045_30024.out; have hnc250 := NB30024_30045.out; have hnb251 := NB30045_30037.out; have hnc251 := NB30037_30045.out; have hnb252 := NB30045_30041.out; have hnc252 := NB30041_30045.out; have hnb253 := NB30045_30049.out; have hnc253 := NB30049_30045.out; have hcz254_0 : wc.cell? ⟨gb30045, 0, none⟩ = some (.string t30042) := (blk_cell BK30045.out 0).trans rfl; have hcz254_1 : wc.cell? ⟨gb30045, 1, none⟩ = some (.string t30043) := (blk_cell BK30045.out 1).trans rfl; have hcz254_2 : wc.cell? ⟨gb30045, 2, none⟩ = some (.int .i64 t30044) := (blk_cell BK30045.out 2).trans rfl; have hfz254_0 := blk_frozen BK30045.out 0; have hfz254_1 := blk_frozen BK30045.out 1; have hfz254_2 := blk_frozen BK30045.out 2; have hnb255 := NB30014_30007.out; have hnc255 := NB30007_30014.out; have hnb256 := NB30014_30019.out; have hnc256 := NB30019_30014.out; have hnb257 := NB30014_30024.out; have hnc257 := NB30024_30014.out; have hnb258 := NB30014_30037.out; have hnc258 := NB30037_30014.out; have hnb259 := NB30014_30041.out; have hnc259 := NB30041_30014.out; have hnb260 := NB30014_30049.out; have hnc260 := NB30049_30014.out; have hcz261_0 : wc.cell? ⟨gb30014, 0, none⟩ = some (.string t30008) := (blk_cell BK30014.out 0).trans rfl; have hcz261_1 : wc.cell? ⟨gb30014, 1, none⟩ = some (.string t30009) := (blk_cell BK30014.out 1).trans rfl; have hcz261_2 : wc.cell? ⟨gb30014, 2, none⟩ = some (.int .i64 t30010) := (blk_cell BK30014.out 2).trans rfl; have hfz261_0 := blk_frozen BK30014.out 0; have hfz261_1 := blk_frozen BK30014.out 1; have hfz261_2 := blk_frozen BK30014.out 2
               go_wp2
               repeat (go_quiet (fail); try go_wp2)
               go_meet
               case rel => exact ⟨_, (((t30043.extract 0 ((t30008.size : Int) : Int).toNat).toList != t30008.toList)), (by first | rfl | (simp; done) | (simp [*]; done)), H', ⟨by have := HK1.out; have := HJ40.out; first | omega | exact Nat.le_refl _⟩, ⟨by (with_reducible repeat (first | refine blk_drewN ?_ _ | refine blk_drew ?_ | refine blk_alloc ?_ _)); exact BK30007.out⟩, ⟨by (with_reducible repeat (first | refine blk_drewN ?_ _ | refine blk_drew ?_ | refine blk_alloc ?_ _)); exact BK30014.out⟩, ⟨by (with_reducible repeat (first | refine blk_drewN ?_ _ | refine blk_drew ?_ | refine blk_alloc ?_ _)); exact BK30019.out⟩, ⟨by (with_reducible repeat (first | refine blk_drewN ?_ _ | refine blk_drew ?_ | refine blk_alloc ?_ _)); exact BK30024.out⟩, ⟨by (with_reducible repeat (first | refine blk_drewN ?_ _ | refine blk_drew ?_ | refine blk_alloc ?_ _)); exact BK30037.out⟩, ⟨by (with_reducible repeat (first | refine blk_drewN ?_ _ | refine blk_drew ?_ | refine blk_alloc ?_ _)); exact BK30041.out⟩, ⟨by (with_reducible repeat (first | refine blk_drewN ?_ _ | refine blk_drew ?_ | refine blk_alloc ?_ _)); exact BK30045.out⟩, ⟨by (with_reducible repeat (first | refine blk_drewN ?_ _ | refine blk_drew ?_ | refine blk_alloc ?_ _)); exact BK30049.out⟩, ⟨by repeat (first | (with_reducible first | exact HB.out | apply below_alloc | apply pw_below_drewN | apply below_drew1 | refine below_set ?_ GE30007.out | refine below_set ?_ GE30014.out | refine below_set ?_ GE30019.out | refine below_set ?_ GE30024.out | refine below_set ?_ GE30037.out | refine below_set ?_ GE30041.out | refine below_set ?_ GE30045.out | refine below_set ?_ GE30049.out) | exact HB.out)⟩⟩
              ·rw [if_neg c246] at H; exact absurd H (by simp)
             ·rw [if_neg c245] at H; exact absurd H (by simp)
          case rest =>
           clear HC212
           try clear c1
           try clear c2
           try clear c2b0
           try clear c2b1
           try clear p2
           try clear c3
           try clear c4
           try clear c5
           try clear c6
           try clear p6
           try clear c7
           try clear c7b0
           try clear c7b1
           try clear c8
           try clear c8b0
           try clear c8b1
           try clear c9
           try clear c10
           try clear c11
           try clear c12
           try clear c13
           try clear c14
           try clear c15
           try clear c16
           try clear c17
           try clear c18
           try clear c19
           try clear c20
           try clear c21
           try clear c22
           try clear c23
           try clear c24
           try clear c25
           try clear c26
           try clear c30
           try clear c30b0
           try clear c31
           try clear c32
           try clear c33
           try clear c34
           try clear c42
           try clear c43
           try clear c44
           try clear c46
           try clear c47
           try clear c54
           try clear c55
           try clear c56
           try clear c57
           try clear c63
           try clear c64
           try clear p64
           try clear c65
           try clear c66
           try clear c67
           try clear c73
           try clear c74
           try clear c75
           try clear c76
           try clear c77
           try clear c78
           try clear c82
           try clear c83
           try clear c84
           try clear c85
           try clear c86
           try clear c87
           try clear c88
           try clear c90
           try clear c90b0
           try clear c90b1
           try clear c91
           try clear c91b0
           try clear c91b1
           try clear c92
           try clear c92b0
           try clear c92b1
           try clear c93
           try clear c93b0
           try clear c93b1
           try clear c94
           try clear c95
           try clear c96
           try clear c97
           try clear c98
           try clear c99
           try clear c100
           try clear c102
           try clear c103
           try clear c104
           try clear c105
           try clear c106
           try clear c107
           try clear c109
           try clear c110
           try clear c111
           try clear c112
           try clear c113
           try clear c115
           try clear c116
           try clear c117
           try clear c118
           try clear c120
           try clear c121
           try clear c122
           try clear c124
           try clear c125
           try clear c126
           try clear c127
           try clear c128
           try clear c129
           try clear c130
           try clear c132
           try clear c133
           try clear c134
           try clear c135
           try clear c136
           try clear c137
           try clear c139
           try clear c140
           try clear c141
           try clear c142
           try clear c143
           try clear c145
           try clear c146
           try clear c147
           try clear c148
           try clear c150
           try clear c151
           try clear c152
           try clear c154
           try clear c155
           try clear c156
           try clear c157
           try clear c158
           try clear c159
           try clear c160
           try clear c162
           try clear c163
           try clear c164
           try clear c165
           try clear c166
           try clear c167
           try clear c169
           try clear c170
           try clear c171
           try clear c172
           try clear c173
           try clear c175
           try clear c176
           try clear c177
           try clear c178
           try clear c179
           try clear c180
           try clear c181
           try clear c183
           try clear c184
           try clear c185
           try clear c186
           try clear c187
           try clear c188
           try clear c190
           try clear c191
           try clear c192
           try clear c193
           try clear c194
           try clear c196
           try clear c197
           try clear c198
           try clear c199
           try clear c200
           try clear c201
           try clear c202
           try clear c204
           try clear c205
           try clear c206
           try clear c207
           try clear c208
           try clear c209
           try clear c211
           try clear c213
           try clear c213b0
           try clear c213b1
           try clear c214
           try clear c215
           try clear c216
           try clear c217
           try clear c218
           try clear c219
           try clear c220
           try clear c222
           try clear c223
           try clear c224
           try clear c225
           try clear c226
           try clear c227
           try clear c229
           try clear c229b0
           try clear c229b1
           try clear c230
           try clear c231
           try clear c232
           try clear c233
           try clear c234
           try clear c235
           try clear c236
           try clear c238
           try clear c239
           try clear c240
           try clear c241
           try clear c242
           try clear c243
           try clear c245
           try clear c245b0
           try clear c245b1
           try clear c246
           try clear c246b0
           try clear c246b1
           try clear c247
           try clear c248
           try clear c249
           try clear c250
           try clear c251
           try clear c252
           try clear c253
           try clear c255
           try clear c256
           try clear c257
           try clear c258
           try clear c259
           try clear c260
           try clear hcz101_0
           try clear hcz101_1
           try clear hcz101_2
           try clear hcz108_0
           try clear hcz108_1
           try clear hcz108_2
           try clear hcz114_0
           try clear hcz114_1
           try clear hcz114_2
           try clear hcz119_0
           try clear hcz119_1
           try clear hcz119_2
           try clear hcz11_0
           try clear hcz11_1
           try clear hcz11_2
           try clear hcz123_0
           try clear hcz123_1
           try clear hcz123_2
           try clear hcz131_0
           try clear hcz131_1
           try clear hcz131_2
           try clear hcz138_0
           try clear hcz138_1
           try clear hcz138_2
           try clear hcz144_0
           try clear hcz144_1
           try clear hcz144_2
           try clear hcz149_0
           try clear hcz149_1
           try clear hcz149_2
           try clear hcz153_0
           try clear hcz153_1
           try clear hcz153_2
           try clear hcz15_0
           try clear hcz15_1
           try clear hcz15_2
           try clear hcz161_0
           try clear hcz161_1
           try clear hcz161_2
           try clear hcz168_0
           try clear hcz168_1
           try clear hcz168_2
           try clear hcz174_0
           try clear hcz174_1
           try clear hcz174_2
           try clear hcz182_0
           try clear hcz182_1
           try clear hcz182_2
           try clear hcz189_0
           try clear hcz189_1
           try clear hcz189_2
           try clear hcz195_0
           try clear hcz195_1
           try clear hcz195_2
           try clear hcz203_0
           try clear hcz203_1
           try clear hcz203_2
           try clear hcz20_0
           try clear hcz20_1
           try clear hcz20_2
           try clear hcz210_0
           try clear hcz210_1
           try clear hcz210_2
           try clear hcz21_0
           try clear hcz21_1
           try clear hcz21_2
           try clear hcz221_0
           try clear hcz221_1
           try clear hcz221_2
           try clear hcz228_0
           try clear hcz228_1
           try clear hcz228_2
           try clear hcz237_0
           try clear hcz237_1
           try clear hcz237_2
           try clear hcz244_0
           try clear hcz244_1
           try clear hcz244_2
           try clear hcz254_0
           try clear hcz254_1
           try clear hcz254_2
           try clear hcz261_0
           try clear hcz261_1
           try clear hcz261_2
           try clear hcz27_0
           try clear hcz27_1
           try clear hcz27_2
           try clear hcz35_0
           try clear hcz35_1
           try clear hcz35_2
           try clear hcz45_0
           try clear hcz45_1
           try clear hcz45_2
           try clear hcz48_0
           try clear hcz48_1
           try clear hcz48_2
           try clear hcz58_0
           try clear hcz58_1
           try clear hcz58_2
           try clear hcz59_0
           try clear hcz59_1
           try clear hcz59_2
           try clear hcz68_0
           try clear hcz68_1
           try clear hcz68_2
           try clear hcz69_0
           try clear hcz69_1
           try clear hcz69_2
           try clear hcz79_0
           try clear hcz79_1
           try clear hcz79_2
           try clear hcz89_0
           try clear hcz89_1
           try clear hcz89_2
           try clear hfz101_0
           try clear hfz101_1
           try clear hfz101_2
           try clear hfz108_0
           try clear hfz108_1
           try clear hfz108_2
           try clear hfz114_0
           try clear hfz114_1
           try clear hfz114_2
           try clear hfz119_0
           try clear hfz119_1
           try clear hfz119_2
           try clear hfz11_0
           try clear hfz11_1
           try clear hfz11_2
           try clear hfz123_0
           try clear hfz123_1
           try clear hfz123_2
           try clear hfz131_0
           try clear hfz131_1
           try clear hfz131_2
           try clear hfz138_0
           try clear hfz138_1
           try clear hfz138_2
           try clear hfz144_0
           try clear hfz144_1
           try clear hfz144_2
           try clear hfz149_0
           try clear hfz149_1
           try clear hfz149_2
           try clear hfz153_0
           try clear hfz153_1
           try clear hfz153_2
           try clear hfz15_0
           try clear hfz15_1
           try clear hfz15_2
           try clear hfz161_0
           try clear hfz161_1
           try clear hfz161_2
           try clear hfz168_0
           try clear hfz168_1
           try clear hfz168_2
           try clear hfz174_0
           try clear hfz174_1
           try clear hfz174_2
           try clear hfz182_0
           try clear hfz182_1
           try clear hfz182_2
           try clear hfz189_0
           try clear hfz189_1
           try clear hfz189_2
           try clear hfz195_0
           try clear hfz195_1
           try clear hfz195_2
           try clear hfz203_0
           try clear hfz203_1
           try clear hfz203_2
           try clear hfz20_0
           try clear hfz20_1
           try clear hfz20_2
           try clear hfz210_0
           try clear hfz210_1
           try clear hfz210_2
           try clear hfz21_0
           try clear hfz21_1
           try clear hfz21_2
           try clear hfz221_0
           try clear hfz221_1
           try clear hfz221_2
           try clear hfz228_0
           try clear hfz228_1
           try clear hfz228_2
           try clear hfz237_0
           try clear hfz237_1
           try clear hfz237_2
           try clear hfz244_0
           try clear hfz244_1
           try clear hfz244_2
           try clear hfz254_0
           try clear hfz254_1
           try clear hfz254_2
           try clear hfz261_0
           try clear hfz261_1
           try clear hfz261_2
           try clear hfz27_0
           try clear hfz27_1
           try clear hfz27_2
           try clear hfz35_0
           try clear hfz35_1
           try clear hfz35_2
           try clear hfz45_0
           try clear hfz45_1
           try clear hfz45_2
           try clear hfz48_0
           try clear hfz48_1
           try clear hfz48_2
           try clear hfz58_0
           try clear hfz58_1
           try clear hfz58_2
           try clear hfz59_0
           try clear hfz59_1
           try clear hfz59_2
           try clear hfz68_0
           try clear hfz68_1
           try clear hfz68_2
           try clear hfz69_0
           try clear hfz69_1
           try clear hfz69_2
           try clear hfz79_0
           try clear hfz79_1
           try clear hfz79_2
           try clear hfz89_0
           try clear hfz89_1
           try clear hfz89_2
           try clear p2
           try clear p6
           try clear p64
           obtain ⟨kq, x132_211, rfl, HA, HJ211, BK30007, BK30014, BK30019, BK30024, BK30037, BK30041, BK30045, BK30049, HB⟩ := hcut
           cases kq with
           | zero => exact absurd HA.out (by simp [laws_FnCrash.j2])
           | succ kj211 =>
            have H := HA.out; clear HA; simp only [laws_FnCrash.j2] at H
            by_cases c262 : x132_211 = true
            ·subst c262; have H1 : (none) = some r := by rw [if_pos rfl] at H; exact H
             exact absurd H1 (by simp)
            ·replace c262 := Bool.eq_false_iff.mpr c262; subst c262; have H1 : (laws_FnCrash.l1 kj211 0 t30001 t30002 t30003 t30008 t30009 t30010 t30020 t30021 t30022 t30042 t30043 t30044) = some r := by rw [if_neg (show ¬ (false = true) by decide)] at H; exact H
             clear H; have H := H1; clear H1; have H' := Aside0.mk H; clear H
             go_wp2
             repeat (go_quiet (fail); try go_wp2)
             go_loopg [17] kj211 (fun kq v17 w' => ∃ (x17_4 : Int), v17 = .int .i64 x17_4 ∧ Aside0 (laws_FnCrash.l1 kq x17_4 t30001 t30002 t30003 t30008 t30009 t30010 t30020 t30021 t30022 t30042 t30043 t30044 = some r) ∧ Aside0 (kq ≤ kj211) ∧ Aside0 (w'.heap[gb30007]? = some (.cells #[.string t30001, .string t30002, .int .i64 t30003] 24 (0, 0))) ∧ Aside0 (w'.heap[gb30014]? = some (.cells #[.string t30008, .string t30009, .int .i64 t30010] 24 (0, 0))) ∧ Aside0 (w'.heap[gb30019]? = some (.cells #[.string t30015, .string t30016, .int .i64 t30017] 24 (0, 0))) ∧ Aside0 (w'.heap[gb30024]? = some (.cells #[.string t30020, .string t30021, .int .i64 t30022] 24 (0, 0))) ∧ Aside0 (w'.heap[gb30037]? = some (.cells #[.string t30034, .string t30035, .int .i64 t30036] 24 (0, 0))) ∧ Aside0 (w'.heap[gb30041]? = some (.cells #[.string t30038, .string t30039, .int .i64 t30040] 24 (0, 0))) ∧ Aside0 (w'.heap[gb30045]? = some (.cells #[.string t30042, .string t30043, .int .i64 t30044] 24 (0, 0))) ∧ Aside0 (w'.heap[gb30049]? = some (.cells #[.string t30046, .string t30047, .int .i64 t30048] 24 (0, 0))) ∧ Aside0 (Below w.heap.size w w'))
             case atStart => exact ⟨(0), (by first | rfl | (simp; done) | (simp [*]; done)), H', ⟨Nat.le_refl _⟩, ⟨by (with_reducible repeat (first | refine blk_drewN ?_ _ | refine blk_drew ?_ | refine blk_alloc ?_ _)); exact BK30007.out⟩, ⟨by (with_reducible repeat (first | refine blk_drewN ?_ _ | refine blk_drew ?_ | refine blk_alloc ?_ _)); exact BK30014.out⟩, ⟨by (with_reducible repeat (first | refine blk_drewN ?_ _ | refine blk_drew ?_ | refine blk_alloc ?_ _)); exact BK30019.out⟩, ⟨by (with_reducible repeat (first | refine blk_drewN ?_ _ | refine blk_drew ?_ | refine blk_alloc ?_ _)); exact BK30024.out⟩, ⟨by (with_reducible repeat (first | refine blk_drewN ?_ _ | refine blk_drew ?_ | refine blk_alloc ?_ _)); exact BK30037.out⟩, ⟨by (with_reducible repeat (first | refine blk_drewN ?_ _ | refine blk_drew ?_ | refine blk_alloc ?_ _)); exact BK30041.out⟩, ⟨by (with_reducible repeat (first | refine blk_drewN ?_ _ | refine blk_drew ?_ | refine blk_alloc ?_ _)); exact BK30045.out⟩, ⟨by (with_reducible repeat (first | refine blk_drewN ?_ _ | refine blk_drew ?_ | refine blk_alloc ?_ _)); exact BK30049.out⟩, ⟨by repeat (first | (with_reducible first | exact HB.out | apply below_alloc | apply pw_below_drewN | apply below_drew1 | refine below_set ?_ GE30007.out | refine below_set ?_ GE30014.out | refine below_set ?_ GE30019.out | refine below_set ?_ GE30024.out | refine below_set ?_ GE30037.out | refine below_set ?_ GE30041.out | refine below_set ?_ GE30045.out | refine below_set ?_ GE30049.out) | exact HB.out)⟩⟩
             case round =>
              clear H'
              try clear c1
              try clear c2
              try clear c2b0
              try clear c2b1
              try clear p2
              try clear c3
              try clear c4
              try clear c5
              try clear c6
              try clear p6
              try clear c7
              try clear c7b0
              try clear c7b1
              try clear c8
              try clear c8b0
              try clear c8b1
              try clear c9
              try clear c10
              try clear c11
              try clear c12
              try clear c13
              try clear c14
              try clear c15
              try clear c16
              try clear c17
              try clear c18
              try clear c19
              try clear c20
              try clear c21
              try clear c22
              try clear c23
              try clear c24
              try clear c25
              try clear c26
              try clear c30
              try clear c30b0
              try clear c31
              try clear c32
              try clear c33
              try clear c34
              try clear c42
              try clear c43
              try clear c44
              try clear c46
              try clear c47
              try clear c54
              try clear c55
              try clear c56
              try clear c57
              try clear c63
              try clear c64
              try clear p64
              try clear c65
              try clear c66
              try clear c67
              try clear c73
              try clear c74
              try clear c75
              try clear c76
              try clear c77
              try clear c78
              try clear c82
              try clear c83
              try clear c84
              try clear c85
              try clear c86
              try clear c87
              try clear c88
              try clear c90
              try clear c90b0
              try clear c90b1
              try clear c91
              try clear c91b0
              try clear c91b1
              try clear c92
              try clear c92b0
              try clear c92b1
              try clear c93
              try clear c93b0
              try clear c93b1
              try clear c94
              try clear c95
              try clear c96
              try clear c97
              try clear c98
              try clear c99
              try clear c100
              try clear c102
              try clear c103
              try clear c104
              try clear c105
              try clear c106
              try clear c107
              try clear c109
              try clear c110
              try clear c111
              try clear c112
              try clear c113
              try clear c115
              try clear c116
              try clear c117
              try clear c118
              try clear c120
              try clear c121
              try clear c122
              try clear c124
              try clear c125
              try clear c126
              try clear c127
              try clear c128
              try clear c129
              try clear c130
              try clear c132
              try clear c133
              try clear c134
              try clear c135
              try clear c136
              try clear c137
              try clear c139
              try clear c140
              try clear c141
              try clear c142
              try clear c143
              try clear c145
              try clear c146
              try clear c147
              try clear c148
              try clear c150
              try clear c151
              try clear c152
              try clear c154
              try clear c155
              try clear c156
              try clear c157
              try clear c158
              try clear c159
              try clear c160
              try clear c162
              try clear c163
              try clear c164
              try clear c165
              try clear c166
              try clear c167
              try clear c169
              try clear c170
              try clear c171
              try clear c172
              try clear c173
              try clear c175
              try clear c176
              try clear c177
              try clear c178
              try clear c179
              try clear c180
              try clear c181
              try clear c183
              try clear c184
              try clear c185
              try clear c186
              try clear c187
              try clear c188
              try clear c190
              try clear c191
              try clear c192
              try clear c193
              try clear c194
              try clear c196
              try clear c197
              try clear c198
              try clear c199
              try clear c200
              try clear c201
              try clear c202
              try clear c204
              try clear c205
              try clear c206
              try clear c207
              try clear c208
              try clear c209
              try clear c211
              try clear c213
              try clear c213b0
              try clear c213b1
              try clear c214
              try clear c215
              try clear c216
              try clear c217
              try clear c218
              try clear c219
              try clear c220
              try clear c222
              try clear c223
              try clear c224
              try clear c225
              try clear c226
              try clear c227
              try clear c229
              try clear c229b0
              try clear c229b1
              try clear c230
              try clear c231
              try clear c232
              try clear c233
              try clear c234
              try clear c235
              try clear c236
              try clear c238
              try clear c239
              try clear c240
              try clear c241
              try clear c242
              try clear c243
              try clear c245
              try clear c245b0
              try clear c245b1
              try clear c246
              try clear c246b0
              try clear c246b1
              try clear c247
              try clear c248
              try clear c249
              try clear c250
              try clear c251
              try clear c252
              try clear c253
              try clear c255
              try clear c256
              try clear c257
              try clear c258
              try clear c259
              try clear c260
              try clear c262
              try clear hcz101_0
              try clear hcz101_1
              try clear hcz101_2
              try clear hcz108_0
              try clear hcz108_1
              try clear hcz108_2
              try clear hcz114_0
              try clear hcz114_1
              try clear hcz114_2
              try clear hcz119_0
              try clear hcz119_1
              try clear hcz119_2
              try clear hcz11_0
              try clear hcz11_1
              try clear hcz11_2
              try clear hcz123_0
              try clear hcz123_1
              try clear hcz123_2
              try clear hcz131_0
              try clear hcz131_1
              try clear hcz131_2
              try clear hcz138_0
              try clear hcz138_1
              try clear hcz138_2
              try clear hcz144_0
              try clear hcz144_1
              try clear hcz144_2
              try clear hcz149_0
              try clear hcz149_1
              try clear hcz149_2
              try clear hcz153_0
              try clear hcz153_1
              try clear hcz153_2
              try clear hcz15_0
              try clear hcz15_1
              try clear hcz15_2
              try clear hcz161_0
              try clear hcz161_1
              try clear hcz161_2
              try clear hcz168_0
              try clear hcz168_1
              try clear hcz168_2
              try clear hcz174_0
              try clear hcz174_1
              try clear hcz174_2
              try clear hcz182_0
              try clear hcz182_1
              try clear hcz182_2
              try clear hcz189_0
              try clear hcz189_1
              try clear hcz189_2
              try clear hcz195_0
              try clear hcz195_1
              try clear hcz195_2
              try clear hcz203_0
              try clear hcz203_1
              try clear hcz203_2
              try clear hcz20_0
              try clear hcz20_1
              try clear hcz20_2
              try clear hcz210_0
              try clear hcz210_1
              try clear hcz210_2
              try clear hcz21_0
              try clear hcz21_1
              try clear hcz21_2
              try clear hcz221_0
              try clear hcz221_1
              try clear hcz221_2
              try clear hcz228_0
              try clear hcz228_1
              try clear hcz228_2
              try clear hcz237_0
              try clear hcz237_1
              try clear hcz237_2
              try clear hcz244_0
              try clear hcz244_1
              try clear hcz244_2
              try clear hcz254_0
              try clear hcz254_1
              try clear hcz254_2
              try clear hcz261_0
              try clear hcz261_1
              try clear hcz261_2
              try clear hcz27_0
              try clear hcz27_1
              try clear hcz27_2
              try clear hcz35_0
              try clear hcz35_1
              try clear hcz35_2
              try clear hcz45_0
              try clear hcz45_1
              try clear hcz45_2
              try clear hcz48_0
              try clear hcz48_1
              try clear hcz48_2
              try clear hcz58_0
              try clear hcz58_1
              try clear hcz58_2
              try clear hcz59_0
              try clear hcz59_1
              try clear hcz59_2
              try clear hcz68_0
              try clear hcz68_1
              try clear hcz68_2
              try clear hcz69_0
              try clear hcz69_1
              try clear hcz69_2
              try clear hcz79_0
              try clear hcz79_1
              try clear hcz79_2
              try clear hcz89_0
              try clear hcz89_1
              try clear hcz89_2
              try clear hfz101_0
              try clear hfz101_1
              try clear hfz101_2
              try clear hfz108_0
              try clear hfz108_1
              try clear hfz108_2
              try clear hfz114_0
              try clear hfz114_1
              try clear hfz114_2
              try clear hfz119_0
              try clear hfz119_1
              try clear hfz119_2
              try clear hfz11_0
              try clear hfz11_1
              try clear hfz11_2
              try clear hfz123_0
              try clear hfz123_1
              try clear hfz123_2
              try clear hfz131_0
              try clear hfz131_1
              try clear hfz131_2
              try clear hfz138_0
              try clear hfz138_1
              try clear hfz138_2
              try clear hfz144_0
              try clear hfz144_1
              try clear hfz144_2
              try clear hfz149_0
              try clear hfz149_1
              try clear hfz149_2
              try clear hfz153_0
              try clear hfz153_1
              try clear hfz153_2
              try clear hfz15_0
              try clear hfz15_1
              try clear hfz15_2
              try clear hfz161_0
              try clear hfz161_1
              try clear hfz161_2
              try clear hfz168_0
              try clear hfz168_1
              try clear hfz168_2
              try clear hfz174_0
              try clear hfz174_1
              try clear hfz174_2
              try clear hfz182_0
              try clear hfz182_1
              try clear hfz182_2
              try clear hfz189_0
              try clear hfz189_1
              try clear hfz189_2
              try clear hfz195_0
              try clear hfz195_1
              try clear hfz195_2
              try clear hfz203_0
              try clear hfz203_1
              try clear hfz203_2
              try clear hfz20_0
              try clear hfz20_1
              try clear hfz20_2
              try clear hfz210_0
              try clear hfz210_1
              try clear hfz210_2
              try clear hfz21_0
              try clear hfz21_1
              try clear hfz21_2
              try clear hfz221_0
              try clear hfz221_1
              try clear hfz221_2
              try clear hfz228_0
              try clear hfz228_1
              try clear hfz228_2
              try clear hfz237_0
              try clear hfz237_1
              try clear hfz237_2
              try clear hfz244_0
              try clear hfz244_1
              try clear hfz244_2
              try clear hfz254_0
              try clear hfz254_1
              try clear hfz254_2
              try clear hfz261_0
              try clear hfz261_1
              try clear hfz261_2
              try clear hfz27_0
              try clear hfz27_1
              try clear hfz27_2
              try clear hfz35_0
              try clear hfz35_1
              try clear hfz35_2
              try clear hfz45_0
              try clear hfz45_1
              try clear hfz45_2
              try clear hfz48_0
              try clear hfz48_1
              try clear hfz48_2
              try clear hfz58_0
              try clear hfz58_1
              try clear hfz58_2
              try clear hfz59_0
              try clear hfz59_1
              try clear hfz59_2
              try clear hfz68_0
              try clear hfz68_1
              try clear hfz68_2
              try clear hfz69_0
              try clear hfz69_1
              try clear hfz69_2
              try clear hfz79_0
              try clear hfz79_1
              try clear hfz79_2
              try clear hfz89_0
              try clear hfz89_1
              try clear hfz89_2
              try clear p2
              try clear p6
              try clear p64
              obtain ⟨x17_4, rfl, HA, HK4, BK30007, BK30014, BK30019, BK30024, BK30037, BK30041, BK30045, BK30049, HB⟩ := hrel
              cases gk with
              | zero => exact absurd HA.out (by simp [laws_FnCrash.l1])
              | succ k4 =>
               have H := HA.out; clear HA; simp only [laws_FnCrash.l1] at H
               by_cases c263 : x17_4 < (t30043.size : Int)
               ·rw [if_pos c263] at H; have c263b0 : decide (x17_4 < (t30043.size : Int)) = true := decide_eq_true c263; clear c263
                by_cases c264 : 0 ≤ x17_4
                ·rw [if_pos c264] at H; have c264b0 : decide (0 ≤ x17_4) = true := decide_eq_true c264; clear c264
                 by_cases c266 : x17_4 < (t30009.size : Int)
                 ·rw [if_pos c266] at H; have c266b0 : decide (x17_4 < (t30009.size : Int)) = true := decide_eq_true c266; clear c266
                  by_cases c268 : (bt t30043 x17_4) = (bt t30009 x17_4)
                  ·rw [if_pos c268] at H; have c268b0 : ((bt t30043 x17_4) == (bt t30009 x17_4)) = true := beq_iff_eq.mpr c268; have c268b1 : ((bt t30043 x17_4) != (bt t30009 x17_4)) = false := bne_eq_false_iff_eq.mpr c268; clear c268; have H' := Aside0.mk H; clear H; have hnb269 := NB30045_30007.out; have hnc269 := NB30007_30045.out; have hnb270 := NB30045_30014.out; have hnc270 := NB30014_30045.out; have hnb271 := NB30045_30019.out; have hnc271 := NB30019_30045.out; have hnb272 := NB30045_30024.out; have hnc272 := NB30024_30045.out; have hnb273 := NB30045_30037.out; have hnc273 := NB30037_30045.out; have hnb274 := NB30045_30041.out; have hnc274 := NB30041_30045.out; have hnb275 := NB30045_30049.out; have hnc275 := NB30049_30045.out; have hcz276_0 : wr.cell? ⟨gb30045, 0, none⟩ = some (.string t30042) := (blk_cell BK30045.out 0).trans rfl; have hcz276_1 : wr.cell? ⟨gb30045, 1, none⟩ = some (.string t30043) := (blk_cell BK30045.out 1).trans rfl; have hcz276_2 : wr.cell? ⟨gb30045, 2, none⟩ = some (.int .i64 t30044) := (blk_cell BK30045.out 2).trans rfl; have hfz276_0 := blk_frozen BK30045.out 0; have hfz276_1 := blk_frozen BK30045.out 1; have hfz276_2 := blk_frozen BK30045.out 2; have p265 : 0 ≤ (x17_4 : Int) := of_decide_eq_true (by first | (with_reducible assumption) | assumption); have q265 : x17_4 < (t30043.size : Int) := of_decide_eq_true (by first | (with_reducible assumption) | assumption); have hx265 := bt_at t30043 x17_4; replace p265 := eq_true p265; replace q265 := eq_true q265; have hnb277 := NB30014_30007.out; have hnc277 := NB30007_30014.out; have hnb278 := NB30014_30019.out; have hnc278 := NB30019_30014.out; have hnb279 := NB30014_30024.out; have hnc279 := NB30024_30014.out; have hnb280 := NB30014_30037.out; have hnc280 := NB30037_30014.out; have hnb281 := NB30014_30041.out; have hnc281 := NB30041_30014.out; have hnb282 := NB30014_30049.out; have hnc282 := NB30049_30014.out; have hcz283_0 : wr.cell? ⟨gb30014, 0, none⟩ = some (.string t30008) := (blk_cell BK30014.out 0).trans rfl; have hcz283_1 : wr.cell? ⟨gb30014, 1, none⟩ = some (.string t30009) := (blk_cell BK30014.out 1).trans rfl; have hcz283_2 : wr.cell? ⟨gb30014, 2, none⟩ = some (.int .i64 t30010) := (blk_cell BK30014.out 2).trans rfl; have hfz283_0 := blk_frozen BK30014.out 0; have hfz283_1 := blk_frozen BK30014.out 1; have hfz283_2 := blk_frozen BK30014.out 2; have p267 : 0 ≤ (x17_4 : Int) := of_decide_eq_true (by first | (with_reducible assumption) | assumption)
                   have q267 : x17_4 < (t30009.size : Int) := of_decide_eq_true (by first | (with_reducible assumption) | assumption); have hx267 := bt_at t30009 x17_4; replace p267 := eq_true p267; replace q267 := eq_true q267
                   go_wp2
                   repeat (go_quiet (fail); try go_wp2)
                   go_roundg k4
                   case measure => have := HK1.out; have := HJ40.out; have := HJ211.out; have := HK4.out; omega
                   case rel => exact ⟨(wrap64 (x17_4 + 1)), (by first | rfl | (simp; done) | (simp [*]; done)), H', ⟨by have := HK1.out; have := HJ40.out; have := HJ211.out; have := HK4.out; omega⟩, ⟨by (with_reducible repeat (first | refine blk_drewN ?_ _ | refine blk_drew ?_ | refine blk_alloc ?_ _)); exact BK30007.out⟩, ⟨by (with_reducible repeat (first | refine blk_drewN ?_ _ | refine blk_drew ?_ | refine blk_alloc ?_ _)); exact BK30014.out⟩, ⟨by (with_reducible repeat (first | refine blk_drewN ?_ _ | refine blk_drew ?_ | refine blk_alloc ?_ _)); exact BK30019.out⟩, ⟨by (with_reducible repeat (first | refine blk_drewN ?_ _ | refine blk_drew ?_ | refine blk_alloc ?_ _)); exact BK30024.out⟩, ⟨by (with_reducible repeat (first | refine blk_drewN ?_ _ | refine blk_drew ?_ | refine blk_alloc ?_ _)); exact BK30037.out⟩, ⟨by (with_reducible repeat (first | refine blk_drewN ?_ _ | refine blk_drew ?_ | refine blk_alloc ?_ _)); exact BK30041.out⟩, ⟨by (with_reducible repeat (first | refine blk_drewN ?_ _ | refine blk_drew ?_ | refine blk_alloc ?_ _)); exact BK30045.out⟩, ⟨by (with_reducible repeat (first | refine blk_drewN ?_ _ | refine blk_drew ?_ | refine blk_alloc ?_ _)); exact BK30049.out⟩, ⟨by repeat (first | (with_reducible first | exact HB.out | apply below_alloc | apply pw_below_drewN | apply below_drew1 | refine below_set ?_ GE30007.out | refine below_set ?_ GE30014.out | refine below_set ?_ GE30019.out | refine below_set ?_ GE30024.out | refine below_set ?_ GE30037.out | refine below_set ?_ GE30041.out | refine below_set ?_ GE30045.out | refine below_set ?_ GE30049.out) | exact HB.out)⟩⟩
                  ·rw [if_neg c268] at H; have c268b0 : ((bt t30043 x17_4) == (bt t30009 x17_4)) = false := beq_eq_false_iff_ne.mpr c268; have c268b1 : ((bt t30043 x17_4) != (bt t30009 x17_4)) = true := bne_iff_ne.mpr c268
                   by_cases c285 : (bt t30043 x17_4) = 0
                   ·rw [if_pos c285] at H; have c285b0 : ((bt t30043 x17_4) == 0) = true := beq_iff_eq.mpr c285; have c285b1 : ((bt t30043 x17_4) != 0) = false := bne_eq_false_iff_eq.mpr c285; clear c285; have H' := Aside0.mk H; clear H; have hnb286 := NB30045_30007.out; have hnc286 := NB30007_30045.out; have hnb287 := NB30045_30014.out; have hnc287 := NB30014_30045.out; have hnb288 := NB30045_30019.out; have hnc288 := NB30019_30045.out; have hnb289 := NB30045_30024.out; have hnc289 := NB30024_30045.out; have hnb290 := NB30045_30037.out; have hnc290 := NB30037_30045.out; have hnb291 := NB30045_30041.out; have hnc291 := NB30041_30045.out; have hnb292 := NB30045_30049.out; have hnc292 := NB30049_30045.out; have hcz293_0 : wr.cell? ⟨gb30045, 0, none⟩ = some (.string t30042) := (blk_cell BK30045.out 0).trans rfl; have hcz293_1 : wr.cell? ⟨gb30045, 1, none⟩ = some (.string t30043) := (blk_cell BK30045.out 1).trans rfl; have hcz293_2 : wr.cell? ⟨gb30045, 2, none⟩ = some (.int .i64 t30044) := (blk_cell BK30045.out 2).trans rfl; have hfz293_0 := blk_frozen BK30045.out 0; have hfz293_1 := blk_frozen BK30045.out 1; have hfz293_2 := blk_frozen BK30045.out 2; have p265 : 0 ≤ (x17_4 : Int) := of_decide_eq_true (by first | (with_reducible assumption) | assumption); have q265 : x17_4 < (t30043.size : Int) := of_decide_eq_true (by first | (with_reducible assumption) | assumption); have hx265 := bt_at t30043 x17_4; replace p265 := eq_true p265; replace q265 := eq_true q265; have hnb294 := NB30014_30007.out; have hnc294 := NB30007_30014.out; have hnb295 := NB30014_30019.out; have hnc295 := NB30019_30014.out; have hnb296 := NB30014_30024.out; have hnc296 := NB30024_30014.out; have hnb297 := NB30014_30037.out; have hnc297 := NB30037_30014.out; have hnb298 := NB30014_30041.out; have hnc298 := NB30041_30014.out; have hnb299 := NB30014_30049.out; have hnc299 := NB30049_30014.out; have hcz300_0 : wr.cell? ⟨gb30014, 0, none⟩ = some (.string t30008) := (blk_cell BK30014.out 0).trans rfl; have hcz300_1 : wr.cell? ⟨gb30014, 1, none⟩ = some (.string t30009) := (blk_cell BK30014.out 1).trans rfl; have hcz300_2 : wr.cell? ⟨gb30014, 2, none⟩ = some (.int .i64 t30010) := (blk_cell BK30014.out 2).trans rfl; have hfz300_0 := blk_frozen BK30014.out 0; have hfz300_1 := blk_frozen BK30014.out 1; have hfz300_2 := blk_frozen BK30014.out 2; have p267 : 0 ≤ (x17_4 : Int) := of_decide_eq_true (by first | (with_reducible assumption) | assumption)
                    have q267 : x17_4 < (t30009.size : Int) := of_decide_eq_true (by first | (with_reducible assumption) | assumption); have hx267 := bt_at t30009 x17_4; replace p267 := eq_true p267; replace q267 := eq_true q267; have p284 : 0 ≤ (x17_4 : Int) := of_decide_eq_true (by first | (with_reducible assumption) | assumption); have q284 : x17_4 < (t30043.size : Int) := of_decide_eq_true (by first | (with_reducible assumption) | assumption); have hx284 := bt_at t30043 x17_4; replace p284 := eq_true p284; replace q284 := eq_true q284
                    go_wp2
                    repeat (go_quiet (fail); try go_wp2)
                    go_roundg k4
                    case measure => have := HK1.out; have := HJ40.out; have := HJ211.out; have := HK4.out; omega
                    case rel => exact ⟨(wrap64 (x17_4 + 1)), (by first | rfl | (simp; done) | (simp [*]; done)), H', ⟨by have := HK1.out; have := HJ40.out; have := HJ211.out; have := HK4.out; omega⟩, ⟨by (with_reducible repeat (first | refine blk_drewN ?_ _ | refine blk_drew ?_ | refine blk_alloc ?_ _)); exact BK30007.out⟩, ⟨by (with_reducible repeat (first | refine blk_drewN ?_ _ | refine blk_drew ?_ | refine blk_alloc ?_ _)); exact BK30014.out⟩, ⟨by (with_reducible repeat (first | refine blk_drewN ?_ _ | refine blk_drew ?_ | refine blk_alloc ?_ _)); exact BK30019.out⟩, ⟨by (with_reducible repeat (first | refine blk_drewN ?_ _ | refine blk_drew ?_ | refine blk_alloc ?_ _)); exact BK30024.out⟩, ⟨by (with_reducible repeat (first | refine blk_drewN ?_ _ | refine blk_drew ?_ | refine blk_alloc ?_ _)); exact BK30037.out⟩, ⟨by (with_reducible repeat (first | refine blk_drewN ?_ _ | refine blk_drew ?_ | refine blk_alloc ?_ _)); exact BK30041.out⟩, ⟨by (with_reducible repeat (first | refine blk_drewN ?_ _ | refine blk_drew ?_ | refine blk_alloc ?_ _)); exact BK30045.out⟩, ⟨by (with_reducible repeat (first | refine blk_drewN ?_ _ | refine blk_drew ?_ | refine blk_alloc ?_ _)); exact BK30049.out⟩, ⟨by repeat (first | (with_reducible first | exact HB.out | apply below_alloc | apply pw_below_drewN | apply below_drew1 | refine below_set ?_ GE30007.out | refine below_set ?_ GE30014.out | refine below_set ?_ GE30019.out | refine below_set ?_ GE30024.out | refine below_set ?_ GE30037.out | refine below_set ?_ GE30041.out | refine below_set ?_ GE30045.out | refine below_set ?_ GE30049.out) | exact HB.out)⟩⟩
                   ·rw [if_neg c285] at H; exact absurd H (by simp)
                 ·rw [if_neg c266] at H; exact absurd H (by simp)
                ·rw [if_neg c264] at H; exact absurd H (by simp)
               ·rw [if_neg c263] at H; have c263b0 : decide (x17_4 < (t30043.size : Int)) = false := decide_eq_false c263; clear c263; replace H := Option.bind_eq_some_iff.mp H; obtain ⟨⟨t30050, t30051, t30052, t30053⟩, A3160, H⟩ := H; replace H : ((impl_DiskCrash.f t30020 t30021 t30022 (([] : List Int))).bind fun bt30058 => (if bt30058.2.1.toList = t30009.toList then (if t30053 = 0 then (if t30051.toList = t30008.toList then (some (t30050.toList == t30008.toList)) else (none)) else (none)) else (none))) = some r := H; have A316 := Aside0.mk A3160; clear A3160; obtain ⟨y30055, hy30055⟩ : ∃ y_ : List Int, y_ = (([] : List Int)) := ⟨_, rfl⟩
                replace H : ((impl_DiskCrash.f t30020 t30021 t30022 y30055).bind fun bt30058 => (if bt30058.2.1.toList = t30009.toList then (if t30053 = 0 then (if t30051.toList = t30008.toList then (some (t30050.toList == t30008.toList)) else (none)) else (none)) else (none))) = some r := by first | (rw [hy30055]; with_reducible exact H) | (have H2_ := (Option.bind_some _ _).symm.trans H; rw [hy30055]; with_reducible exact H2_) | (have H2_ := (Option.bind_some _ _).symm.trans H; with_reducible exact H2_) | with_reducible exact H | (rw [hy30055]; exact H) | exact H
                have Ny30055 := Aside0.mk hy30055; clear hy30055; replace H := Option.bind_eq_some_iff.mp H; obtain ⟨⟨t30058, t30059, t30060⟩, A3170, H⟩ := H; replace H : (if t30059.toList = t30009.toList then (if t30053 = 0 then (if t30051.toList = t30008.toList then (some (t30050.toList == t30008.toList)) else (none)) else (none)) else (none)) = some r := H; have A317 := Aside0.mk A3170; clear A3170
                by_cases c318 : t30059.toList = t30009.toList
                ·rw [if_pos c318] at H; have c318b0 : (t30059.toList == t30009.toList) = true := beq_iff_eq.mpr c318; have c318b1 : (t30059.toList != t30009.toList) = false := bne_eq_false_iff_eq.mpr c318; clear c318
                 by_cases c319 : t30053 = 0
                 ·rw [if_pos c319] at H; have c319b0 : (t30053 == 0) = true := beq_iff_eq.mpr c319; have c319b1 : (t30053 != 0) = false := bne_eq_false_iff_eq.mpr c319; clear c319
                  by_cases c320 : t30051.toList = t30008.toList
                  ·rw [if_pos c320] at H; have c320b0 : (t30051.toList == t30008.toList) = true := beq_iff_eq.mpr c320; have c320b1 : (t30051.toList != t30008.toList) = false := bne_eq_false_iff_eq.mpr c320; clear c320; obtain rfl := Option.some.inj H; have hnb321 := NB30045_30007.out; have hnc321 := NB30007_30045.out; have hnb322 := NB30045_30014.out; have hnc322 := NB30014_30045.out; have hnb323 := NB30045_30019.out; have hnc323 := NB30019_30045.out; have hnb324 := NB30045_30024.out; have hnc324 := NB30024_30045.out; have hnb325 := NB30045_30037.out; have hnc325 := NB30037_30045.out; have hnb326 := NB30045_30041.out; have hnc326 := NB30041_30045.out; have hnb327 := NB30045_30049.out; have hnc327 := NB30049_30045.out; have hcz328_0 : wr.cell? ⟨gb30045, 0, none⟩ = some (.string t30042) := (blk_cell BK30045.out 0).trans rfl; have hcz328_1 : wr.cell? ⟨gb30045, 1, none⟩ = some (.string t30043) := (blk_cell BK30045.out 1).trans rfl; have hcz328_2 : wr.cell? ⟨gb30045, 2, none⟩ = some (.int .i64 t30044) := (blk_cell BK30045.out 2).trans rfl; have hfz328_0 := blk_frozen BK30045.out 0; have hfz328_1 := blk_frozen BK30045.out 1; have hfz328_2 := blk_frozen BK30045.out 2; have hnb329 := NB30007_30014.out; have hnc329 := NB30014_30007.out; have hnb330 := NB30007_30019.out; have hnc330 := NB30019_30007.out; have hnb331 := NB30007_30024.out; have hnc331 := NB30024_30007.out; have hnb332 := NB30007_30037.out; have hnc332 := NB30037_30007.out; have hnb333 := NB30007_30041.out; have hnc333 := NB30041_30007.out; have hnb334 := NB30007_30049.out; have hnc334 := NB30049_30007.out; have hcz335_0 : wr.cell? ⟨gb30007, 0, none⟩ = some (.string t30001) := (blk_cell BK30007.out 0).trans rfl; have hcz335_1 : wr.cell? ⟨gb30007, 1, none⟩ = some (.string t30002) := (blk_cell BK30007.out 1).trans rfl; have hcz335_2 : wr.cell? ⟨gb30007, 2, none⟩ = some (.int .i64 t30003) := (blk_cell BK30007.out 2).trans rfl; have hfz335_0 := blk_frozen BK30007.out 0; have hfz335_1 := blk_frozen BK30007.out 1; have hfz335_2 := blk_frozen BK30007.out 2; have hnb336 := NB30014_30019.out; have hnc336 := NB30019_30014.out; have hnb337 := NB30014_30024.out; have hnc337 := NB30024_30014.out; have hnb338 := NB30014_30037.out; have hnc338 := NB30037_30014.out; have hnb339 := NB30014_30041.out; have hnc339 := NB30041_30014.out; have hnb340 := NB30014_30049.out; have hnc340 := NB30049_30014.out; have hcz341_0 : wr.cell? ⟨gb30014, 0, none⟩ = some (.string t30008) := (blk_cell BK30014.out 0).trans rfl
                   have hcz341_1 : wr.cell? ⟨gb30014, 1, none⟩ = some (.string t30009) := (blk_cell BK30014.out 1).trans rfl; have hcz341_2 : wr.cell? ⟨gb30014, 2, none⟩ = some (.int .i64 t30010) := (blk_cell BK30014.out 2).trans rfl; have hfz341_0 := blk_frozen BK30014.out 0; have hfz341_1 := blk_frozen BK30014.out 1; have hfz341_2 := blk_frozen BK30014.out 2
                   go_wp2_with (first | (go_at_call 8; (with_reducible refine (impl_DiskCut.calls t30001 t30002 t30003 (t30008.size : Int) t30050 t30051 t30052 t30053 _ A316.out).mono ?_); rintro e w342 ⟨rfl, hb⟩; have n0_ := Aside0.mk (blk_below (g := gb30007) (o := .cells #[.string t30001, .string t30002, .int .i64 t30003] 24 (0, 0)) (by (with_reducible repeat (first | refine blk_drewN ?_ _ | refine blk_drew ?_ | refine blk_alloc ?_ _)); exact BK30007.out) hb); have n1_ := Aside0.mk (blk_below (g := gb30014) (o := .cells #[.string t30008, .string t30009, .int .i64 t30010] 24 (0, 0)) (by (with_reducible repeat (first | refine blk_drewN ?_ _ | refine blk_drew ?_ | refine blk_alloc ?_ _)); exact BK30014.out) hb); have n2_ := Aside0.mk (blk_below (g := gb30019) (o := .cells #[.string t30015, .string t30016, .int .i64 t30017] 24 (0, 0)) (by (with_reducible repeat (first | refine blk_drewN ?_ _ | refine blk_drew ?_ | refine blk_alloc ?_ _)); exact BK30019.out) hb); have n3_ := Aside0.mk (blk_below (g := gb30024) (o := .cells #[.string t30020, .string t30021, .int .i64 t30022] 24 (0, 0)) (by (with_reducible repeat (first | refine blk_drewN ?_ _ | refine blk_drew ?_ | refine blk_alloc ?_ _)); exact BK30024.out) hb); have n4_ := Aside0.mk (blk_below (g := gb30037) (o := .cells #[.string t30034, .string t30035, .int .i64 t30036] 24 (0, 0)) (by (with_reducible repeat (first | refine blk_drewN ?_ _ | refine blk_drew ?_ | refine blk_alloc ?_ _)); exact BK30037.out) hb); have n5_ := Aside0.mk (blk_below (g := gb30041) (o := .cells #[.string t30038, .string t30039, .int .i64 t30040] 24 (0, 0)) (by (with_reducible repeat (first | refine blk_drewN ?_ _ | refine blk_drew ?_ | refine blk_alloc ?_ _)); exact BK30041.out) hb); have n6_ := Aside0.mk (blk_below (g := gb30045) (o := .cells #[.string t30042, .string t30043, .int .i64 t30044] 24 (0, 0)) (by (with_reducible repeat (first | refine blk_drewN ?_ _ | refine blk_drew ?_ | refine blk_alloc ?_ _)); exact BK30045.out) hb); have n7_ := Aside0.mk (blk_below (g := gb30049) (o := .cells #[.string t30046, .string t30047, .int .i64 t30048] 24 (0, 0)) (by (with_reducible repeat (first | refine blk_drewN ?_ _ | refine blk_drew ?_ | refine blk_alloc ?_ _)); exact BK30049.out) hb); have n8_ := Aside0.mk (below_step (by repeat (first | (with_reducible first | exact HB.out | apply below_alloc | apply pw_below_drewN | apply below_drew1 | refine below_set ?_ GE30007.out | refine below_set ?_ GE30014.out | refine below_set ?_ GE30019.out | refine below_set ?_ GE30024.out | refine below_set ?_ GE30037.out | refine below_set ?_ GE30041.out | refine below_set ?_ GE30045.out | refine below_set ?_ GE30049.out) | exact HB.out)) hb); clear BK30007; clear BK30014; clear BK30019; clear BK30024; clear BK30037; clear BK30041; clear BK30045; clear BK30049; clear HB; have BK30007 := n0_; have BK30014 := n1_; have BK30019 := n2_; have BK30024 := n3_; have BK30037 := n4_; have BK30041 := n5_; have BK30045 := n6_; have BK30049 := n7_; have HB := n8_; clear n0_ n1_ n2_ n3_ n4_ n5_ n6_ n7_ n8_; (try clear hb); (try clear hb2); (try clear hk); (try clear hi)) | ((with_reducible refine gate_dst (N := 18) rfl ?_); (try (refine gate_guard (by rfl) ?_; dsimp only)); refine box_event ?hg (N := 18) ?hd (cs := #[.string (⟨#[]⟩ : ByteArray), .string (⟨#[]⟩ : ByteArray), .int .i64 0]) (t := 24) ?hr ?_; (case hd => rfl); (case hg => rfl); (case hr => first | (go_simp; done) | (go_simp; rfl)); intro gb30054 hg w343 hbox hb; have n0_ := Aside0.mk (blk_below (g := gb30007) (o := .cells #[.string t30001, .string t30002, .int .i64 t30003] 24 (0, 0)) (by (with_reducible repeat (first | refine blk_drewN ?_ _ | refine blk_drew ?_ | refine blk_alloc ?_ _)); exact BK30007.out) hb); have n1_ := Aside0.mk (blk_below (g := gb30014) (o := .cells #[.string t30008, .string t30009, .int .i64 t30010] 24 (0, 0)) (by (with_reducible repeat (first | refine blk_drewN ?_ _ | refine blk_drew ?_ | refine blk_alloc ?_ _)); exact BK30014.out) hb); have n2_ := Aside0.mk (blk_below (g := gb30019) (o := .cells #[.string t30015, .string t30016, .int .i64 t30017] 24 (0, 0)) (by (with_reducible repeat (first | refine blk_drewN ?_ _ | refine blk_drew ?_ | refine blk_alloc ?_ _)); exact BK30019.out) hb); have n3_ := Aside0.mk (blk_below (g := gb30024) (o := .cells #[.string t30020, .string t30021, .int .i64 t30022] 24 (0, 0)) (by (with_reducible repeat (first | refine blk_drewN ?_ _ | refine blk_drew ?_ | refine blk_alloc ?_ _)); exact BK30024.out) hb); have n4_ := Aside0.mk (blk_below (g := gb30037) (o := .cells #[.string t30034, .string t30035, .int .i64 t30036] 24 (0, 0)) (by (with_reducible repeat (first | refine blk_drewN ?_ _ | refine blk_drew ?_ | refine blk_alloc ?_ _)); exact BK30037.out) hb); have n5_ := Aside0.mk (blk_below (g := gb30041) (o := .cells #[.string t30038, .string t30039, .int .i64 t30040] 24 (0, 0)) (by (with_reducible repeat (first | refine blk_drewN ?_ _ | refine blk_drew ?_ | refine blk_alloc ?_ _)); exact BK30041.out) hb); have n6_ := Aside0.mk (blk_below (g := gb30045) (o := .cells #[.string t30042, .string t30043, .int .i64 t30044] 24 (0, 0)) (by (with_reducible repeat (first | refine blk_drewN ?_ _ | refine blk_drew ?_ | refine blk_alloc ?_ _)); exact BK30045.out) hb); have n7_ := Aside0.mk (blk_below (g := gb30049) (o := .cells #[.string t30046, .string t30047, .int .i64 t30048] 24 (0, 0)) (by (with_reducible repeat (first | refine blk_drewN ?_ _ | refine blk_drew ?_ | refine blk_alloc ?_ _)); exact BK30049.out) hb); have n8_ := Aside0.mk (below_step (by repeat (first | (with_reducible first | exact HB.out | apply below_alloc | apply pw_below_drewN | apply below_drew1 | refine below_set ?_ GE30007.out | refine below_set ?_ GE30014.out | refine below_set ?_ GE30019.out | refine below_set ?_ GE30024.out | refine below_set ?_ GE30037.out | refine below_set ?_ GE30041.out | refine below_set ?_ GE30045.out | refine below_set ?_ GE30049.out) | exact HB.out)) hb); have n9_ := Aside0.mk (hbox); have n10_ := Aside0.mk ((by rw [hg]; exact (below_size (by repeat (first | (with_reducible first | exact HB.out | apply below_alloc | apply pw_below_drewN | apply below_drew1 | refine below_set ?_ GE30007.out | refine below_set ?_ GE30014.out | refine below_set ?_ GE30019.out | refine below_set ?_ GE30024.out | refine below_set ?_ GE30037.out | refine below_set ?_ GE30041.out | refine below_set ?_ GE30045.out | refine below_set ?_ GE30049.out) | exact HB.out))) : w.heap.size ≤ gb30054)); have n11_ := Aside0.mk ((by rw [hg]; exact (below_size (by repeat (first | (with_reducible first | exact HB.out | apply below_alloc | apply pw_below_drewN | apply below_drew1 | refine below_set ?_ GE30007.out | refine below_set ?_ GE30014.out | refine below_set ?_ GE30019.out | refine below_set ?_ GE30024.out | refine below_set ?_ GE30037.out | refine below_set ?_ GE30041.out | refine below_set ?_ GE30045.out | refine below_set ?_ GE30049.out) | exact HB.out))) : w.heap.size ≤ gb30054)); have n12_ := Aside0.mk ((by rw [hg]; exact Nat.ne_of_lt (blk_lt (g := gb30007) (o := .cells #[.string t30001, .string t30002, .int .i64 t30003] 24 (0, 0)) (by (with_reducible repeat (first | refine blk_drewN ?_ _ | refine blk_drew ?_ | refine blk_alloc ?_ _)); exact BK30007.out)) : gb30007 ≠ gb30054)); have n13_ := Aside0.mk ((by rw [hg]; exact Nat.ne_of_gt (blk_lt (g := gb30007) (o := .cells #[.string t30001, .string t30002, .int .i64 t30003] 24 (0, 0)) (by (with_reducible repeat (first | refine blk_drewN ?_ _ | refine blk_drew ?_ | refine blk_alloc ?_ _)); exact BK30007.out)) : gb30054 ≠ gb30007)); have n14_ := Aside0.mk ((by rw [hg]; exact Nat.ne_of_lt (blk_lt (g := gb30014) (o := .cells #[.string t30008, .string t30009, .int .i64 t30010] 24 (0, 0)) (by (with_reducible repeat (first | refine blk_drewN ?_ _ | refine blk_drew ?_ | refine blk_alloc ?_ _)); exact BK30014.out)) : gb30014 ≠ gb30054)); have n15_ := Aside0.mk ((by rw [hg]; exact Nat.ne_of_gt (blk_lt (g := gb30014) (o := .cells #[.string t30008, .string t30009, .int .i64 t30010] 24 (0, 0)) (by (with_reducible repeat (first | refine blk_drewN ?_ _ | refine blk_drew ?_ | refine blk_alloc ?_ _)); exact BK30014.out)) : gb30054 ≠ gb30014)); have n16_ := Aside0.mk ((by rw [hg]; exact Nat.ne_of_lt (blk_lt (g := gb30019) (o := .cells #[.string t30015, .string t30016, .int .i64 t30017] 24 (0, 0)) (by (with_reducible repeat (first | refine blk_drewN ?_ _ | refine blk_drew ?_ | refine blk_alloc ?_ _)); exact BK30019.out)) : gb30019 ≠ gb30054)); have n17_ := Aside0.mk ((by rw [hg]; exact Nat.ne_of_gt (blk_lt (g := gb30019) (o := .cells #[.string t30015, .string t30016, .int .i64 t30017] 24 (0, 0)) (by (with_reducible repeat (first | refine blk_drewN ?_ _ | refine blk_drew ?_ | refine blk_alloc ?_ _)); exact BK30019.out)) : gb30054 ≠ gb30019)); have n18_ := Aside0.mk ((by rw [hg]; exact Nat.ne_of_lt (blk_lt (g := gb30024) (o := .cells #[.string t30020, .string t30021, .int .i64 t30022] 24 (0, 0)) (by (with_reducible repeat (first | refine blk_drewN ?_ _ | refine blk_drew ?_ | refine blk_alloc ?_ _)); exact BK30024.out)) : gb30024 ≠ gb30054)); have n19_ := Aside0.mk ((by rw [hg]; exact Nat.ne_of_gt (blk_lt (g := gb30024) (o := .cells #[.string t30020, .string t30021, .int .i64 t30022] 24 (0, 0)) (by (with_reducible repeat (first | refine blk_drewN ?_ _ | refine blk_drew ?_ | refine blk_alloc ?_ _)); exact BK30024.out)) : gb30054 ≠ gb30024)); have n20_ := Aside0.mk ((by rw [hg]; exact Nat.ne_of_lt (blk_lt (g := gb30037) (o := .cells #[.string t30034, .string t30035, .int .i64 t30036] 24 (0, 0)) (by (with_reducible repeat (first | refine blk_drewN ?_ _ | refine blk_drew ?_ | refine blk_alloc ?_ _)); exact BK30037.out)) : gb30037 ≠ gb30054)); have n21_ := Aside0.mk ((by rw [hg]; exact Nat.ne_of_gt (blk_lt (g := gb30037) (o := .cells #[.string t30034, .string t30035, .int .i64 t30036] 24 (0, 0)) (by (with_reducible repeat (first | refine blk_drewN ?_ _ | refine blk_drew ?_ | refine blk_alloc ?_ _)); exact BK30037.out)) : gb30054 ≠ gb30037)); have n22_ := Aside0.mk ((by rw [hg]; exact Nat.ne_of_lt (blk_lt (g := gb30041) (o := .cells #[.string t30038, .string t30039, .int .i64 t30040] 24 (0, 0)) (by (with_reducible repeat (first | refine blk_drewN ?_ _ | refine blk_drew ?_ | refine blk_alloc ?_ _)); exact BK30041.out)) : gb30041 ≠ gb30054)); have n23_ := Aside0.mk ((by rw [hg]; exact Nat.ne_of_gt (blk_lt (g := gb30041) (o := .cells #[.string t30038, .string t30039, .int .i64 t30040] 24 (0, 0)) (by (with_reducible repeat (first | refine blk_drewN ?_ _ | refine blk_drew ?_ | refine blk_alloc ?_ _)); exact BK30041.out)) : gb30054 ≠ gb30041)); have n24_ := Aside0.mk ((by rw [hg]; exact Nat.ne_of_lt (blk_lt (g := gb30045) (o := .cells #[.string t30042, .string t30043, .int .i64 t30044] 24 (0, 0)) (by (with_reducible repeat (first | refine blk_drewN ?_ _ | refine blk_drew ?_ | refine blk_alloc ?_ _)); exact BK30045.out)) : gb30045 ≠ gb30054)); have n25_ := Aside0.mk ((by rw [hg]; exact Nat.ne_of_gt (blk_lt (g := gb30045) (o := .cells #[.string t30042, .string t30043, .int .i64 t30044] 24 (0, 0)) (by (with_reducible repeat (first | refine blk_drewN ?_ _ | refine blk_drew ?_ | refine blk_alloc ?_ _)); exact BK30045.out)) : gb30054 ≠ gb30045)); have n26_ := Aside0.mk ((by rw [hg]; exact Nat.ne_of_lt (blk_lt (g := gb30049) (o := .cells #[.string t30046, .string t30047, .int .i64 t30048] 24 (0, 0)) (by (with_reducible repeat (first | refine blk_drewN ?_ _ | refine blk_drew ?_ | refine blk_alloc ?_ _)); exact BK30049.out)) : gb30049 ≠ gb30054)); have n27_ := Aside0.mk ((by rw [hg]; exact Nat.ne_of_gt (blk_lt (g := gb30049) (o := .cells #[.string t30046, .string t30047, .int .i64 t30048] 24 (0, 0)) (by (with_reducible repeat (first | refine blk_drewN ?_ _ | refine blk_drew ?_ | refine blk_alloc ?_ _)); exact BK30049.out)) : gb30054 ≠ gb30049)); clear BK30007; clear BK30014; clear BK30019; clear BK30024; clear BK30037; clear BK30041; clear BK30045; clear BK30049; clear HB; have BK30007 := n0_; have BK30014 := n1_; have BK30019 := n2_; have BK30024 := n3_; have BK30037 := n4_; have BK30041 := n5_; have BK30045 := n6_; have BK30049 := n7_; have HB := n8_; have BK30054 := n9_; have GW30054 := n10_; have GE30054 := n11_; have NB30007_30054 := n12_; have NB30054_30007 := n13_; have NB30014_30054 := n14_; have NB30054_30014 := n15_; have NB30019_30054 := n16_; have NB30054_30019 := n17_; have NB30024_30054 := n18_; have NB30054_30024 := n19_; have NB30037_30054 := n20_; have NB30054_30037 := n21_; have NB30041_30054 := n22_; have NB30054_30041 := n23_; have NB30045_30054 := n24_; have NB30054_30045 := n25_; have NB30049_30054 := n26_; have NB30054_30049 := n27_; clear n0_ n1_ n2_ n3_ n4_ n5_ n6_ n7_ n8_ n9_ n10_ n11_ n12_ n13_ n14_ n15_ n16_ n17_ n18_ n19_ n20_ n21_ n22_ n23_ n24_ n25_ n26_ n27_; clear hb hbox hg; have hnb344 := NB30054_30007.out; have hnc344 := NB30007_30054.out; have hnb345 := NB30054_30014.out; have hnc345 := NB30014_30054.out; have hnb346 := NB30054_30019.out; have hnc346 := NB30019_30054.out; have hnb347 := NB30054_30024.out; have hnc347 := NB30024_30054.out; have hnb348 := NB30054_30037.out; have hnc348 := NB30037_30054.out; have hnb349 := NB30054_30041.out; have hnc349 := NB30041_30054.out; have hnb350 := NB30054_30045.out; have hnc350 := NB30045_30054.out; have hnb351 := NB30054_30049.out; have hnc351 := NB30049_30054.out; have hcz352_0 : w343.cell? ⟨gb30054, 0, none⟩ = some (.string (⟨#[]⟩ : ByteArray)) := (blk_cell BK30054.out 0).trans rfl; have hcz352_1 : w343.cell? ⟨gb30054, 1, none⟩ = some (.string (⟨#[]⟩ : ByteArray)) := (blk_cell BK30054.out 1).trans rfl; have hcz352_2 : w343.cell? ⟨gb30054, 2, none⟩ = some (.int .i64 0) := (blk_cell BK30054.out 2).trans rfl; have hfz352_0 := blk_frozen BK30054.out 0; have hfz352_1 := blk_frozen BK30054.out 1; have hfz352_2 := blk_frozen BK30054.out 2; have hnb353 := NB30024_30019.out; have hnc353 := NB30019_30024.out; have hnb354 := NB30024_30037.out; have hnc354 := NB30037_30024.out; have hnb355 := NB30024_30041.out; have hnc355 := NB30041_30024.out; have hnb356 := NB30024_30049.out; have hnc356 := NB30049_30024.out; have hcz357_0 : w343.cell? ⟨gb30024, 0, none⟩ = some (.string t30020) := (blk_cell BK30024.out 0).trans rfl; have hcz357_1 : w343.cell? ⟨gb30024, 1, none⟩ = some (.string t30021) := (blk_cell BK30024.out 1).trans rfl; have hcz357_2 : w343.cell? ⟨gb30024, 2, none⟩ = some (.int .i64 t30022) := (blk_cell BK30024.out 2).trans rfl; have hfz357_0 := blk_frozen BK30024.out 0; have hfz357_1 := blk_frozen BK30024.out 1; have hfz357_2 := blk_frozen BK30024.out 2) | ((with_reducible refine gate_dst (N := 165) rfl ?_); (try (refine gate_guard (by rfl) ?_; dsimp only)); refine Kd.R_lit (Kd.int .i64) _ 3 ?hg (N := 165) ?hd (xs := ([] : List Int)) (inner := []) (ok := fun _ => True) (okp := fun _ => True) ?hr ?hp (fun _ hk => hk) trivial (Below.refl _ _) (Nat.le_refl _) (by simp) ?_; (case hd => rfl); (case hg => rfl); (case hr => first | (go_simp; done) | (go_simp; rfl)); (case hp => exact (Reps.none _ _)); intro v30056 w358 ho359 hb hg_ hnew_; clear hg_ hnew_; (first | rw [← Ny30055.out] at ho359 | (simp only [Int.reduceToNat] at ho359; rw [← Ny30055.out] at ho359)); have n0_ := Aside0.mk (Kd.R_lower ho359 (below_size (by repeat (first | (with_reducible first | exact HB.out | apply below_alloc | apply pw_below_drewN | apply below_drew1 | refine below_set ?_ GE30007.out | refine below_set ?_ GE30014.out | refine below_set ?_ GE30019.out | refine below_set ?_ GE30024.out | refine below_set ?_ GE30037.out | refine below_set ?_ GE30041.out | refine below_set ?_ GE30045.out | refine below_set ?_ GE30049.out | refine below_set ?_ GE30054.out) | exact HB.out)))); have n1_ := Aside0.mk (blk_below (g := gb30007) (o := .cells #[.string t30001, .string t30002, .int .i64 t30003] 24 (0, 0)) (by (with_reducible repeat (first | refine blk_drewN ?_ _ | refine blk_drew ?_ | refine blk_alloc ?_ _)); refine blk_far ?_ NB30007_30054.out _; (with_reducible repeat (first | refine blk_drewN ?_ _ | refine blk_drew ?_ | refine blk_alloc ?_ _)); refine blk_far ?_ NB30007_30054.out _; (with_reducible repeat (first | refine blk_drewN ?_ _ | refine blk_drew ?_ | refine blk_alloc ?_ _)); refine blk_far ?_ NB30007_30054.out _; (with_reducible repeat (first | refine blk_drewN ?_ _ | refine blk_drew ?_ | refine blk_alloc ?_ _)); exact BK30007.out) hb); have n2_ := Aside0.mk (blk_below (g := gb30014) (o := .cells #[.string t30008, .string t30009, .int .i64 t30010] 24 (0, 0)) (by (with_reducible repeat (first | refine blk_drewN ?_ _ | refine blk_drew ?_ | refine blk_alloc ?_ _)); refine blk_far ?_ NB30014_30054.out _; (with_reducible repeat (first | refine blk_drewN ?_ _ | refine blk_drew ?_ | refine blk_alloc ?_ _)); refine blk_far ?_ NB30014_30054.out _; (with_reducible repeat (first | refine blk_drewN ?_ _ | refine blk_drew ?_ | refine blk_alloc ?_ _)); refine blk_far ?_ NB30014_30054.out _; (with_reducible repeat (first | refine blk_drewN ?_ _ | refine blk_drew ?_ | refine blk_alloc ?_ _)); exact BK30014.out) hb); have n3_ := Aside0.mk (blk_below (g := gb30019) (o := .cells #[.string t30015, .string t30016, .int .i64 t30017] 24 (0, 0)) (by (with_reducible repeat (first | refine blk_drewN ?_ _ | refine blk_drew ?_ | refine blk_alloc ?_ _)); refine blk_far ?_ NB30019_30054.out _; (with_reducible repeat (first | refine blk_drewN ?_ _ | refine blk_drew ?_ | refine blk_alloc ?_ _)); refine blk_far ?_ NB30019_30054.out _; (with_reducible repeat (first | refine blk_drewN ?_ _ | refine blk_drew ?_ | refine blk_alloc ?_ _)); refine blk_far ?_ NB30019_30054.out _; (with_reducible repeat (first | refine blk_drewN ?_ _ | refine blk_drew ?_ | refine blk_alloc ?_ _)); exact BK30019.out) hb); have n4_ := Aside0.mk (blk_below (g := gb30024) (o := .cells #[.string t30020, .string t30021, .int .i64 t30022] 24 (0, 0)) (by (with_reducible repeat (first | refine blk_drewN ?_ _ | refine blk_drew ?_ | refine blk_alloc ?_ _)); refine blk_far ?_ NB30024_30054.out _; (with_reducible repeat (first | refine blk_drewN ?_ _ | refine blk_drew ?_ | refine blk_alloc ?_ _)); refine blk_far ?_ NB30024_30054.out _; (with_reducible repeat (first | refine blk_drewN ?_ _ | refine blk_drew ?_ | refine blk_alloc ?_ _)); refine blk_far ?_ NB30024_30054.out _; (with_reducible repeat (first | refine blk_drewN ?_ _ | refine blk_drew ?_ | refine blk_alloc ?_ _)); exact BK30024.out) hb); have n5_ := Aside0.mk (blk_below (g := gb30037) (o := .cells #[.string t30034, .string t30035, .int .i64 t30036] 24 (0, 0)) (by (with_reducible repeat (first | refine blk_drewN ?_ _ | refine blk_drew ?_ | refine blk_alloc ?_ _)); refine blk_far ?_ NB30037_30054.out _; (with_reducible repeat (first | refine blk_drewN ?_ _ | refine blk_drew ?_ | refine blk_alloc ?_ _)); refine blk_far ?_ NB30037_30054.out _; (with_reducible repeat (first | refine blk_drewN ?_ _ | refine blk_drew ?_ | refine blk_alloc ?_ _)); refine blk_far ?_ NB30037_30054.out _; (with_reducible repeat (first | refine blk_drewN ?_ _ | refine blk_drew ?_ | refine blk_alloc ?_ _)); exact BK30037.out) hb); have n6_ := Aside0.mk (blk_below (g := gb30041) (o := .cells #[.string t30038, .string t30039, .int .i64 t30040] 24 (0, 0)) (by (with_reducible repeat (first | refine blk_drewN ?_ _ | refine blk_drew ?_ | refine blk_alloc ?_ _)); refine blk_far ?_ NB30041_30054.out _; (with_reducible repeat (first | refine blk_drewN ?_ _ | refine blk_drew ?_ | refine blk_alloc ?_ _)); refine blk_far ?_ NB30041_30054.out _; (with_reducible repeat (first | refine blk_drewN ?_ _ | refine blk_drew ?_ | refine blk_alloc ?_ _)); refine blk_far ?_ NB30041_30054.out _; (with_reducible repeat (first | refine blk_drewN ?_ _ | refine blk_drew ?_ | refine blk_alloc ?_ _)); exact BK30041.out) hb); have n7_ := Aside0.mk (blk_below (g := gb30045) (o := .cells #[.string t30042, .string t30043, .int .i64 t30044] 24 (0, 0)) (by (with_reducible repeat (first | refine blk_drewN ?_ _ | refine blk_drew ?_ | refine blk_alloc ?_ _)); refine blk_far ?_ NB30045_30054.out _; (with_reducible repeat (first | refine blk_drewN ?_ _ | refine blk_drew ?_ | refine blk_alloc ?_ _)); refine blk_far ?_ NB30045_30054.out _; (with_reducible repeat (first | refine blk_drewN ?_ _ | refine blk_drew ?_ | refine blk_alloc ?_ _)); refine blk_far ?_ NB30045_30054.out _; (with_reducible repeat (first | refine blk_drewN ?_ _ | refine blk_drew ?_ | refine blk_alloc ?_ _)); exact BK30045.out) hb); have n8_ := Aside0.mk (blk_below (g := gb30049) (o := .cells #[.string t30046, .string t30047, .int .i64 t30048] 24 (0, 0)) (by (with_reducible repeat (first | refine blk_drewN ?_ _ | refine blk_drew ?_ | refine blk_alloc ?_ _)); refine blk_far ?_ NB30049_30054.out _; (with_reducible repeat (first | refine blk_drewN ?_ _ | refine blk_drew ?_ | refine blk_alloc ?_ _)); refine blk_far ?_ NB30049_30054.out _; (with_reducible repeat (first | refine blk_drewN ?_ _ | refine blk_drew ?_ | refine blk_alloc ?_ _)); refine blk_far ?_ NB30049_30054.out _; (with_reducible repeat (first | refine blk_drewN ?_ _ | refine blk_drew ?_ | refine blk_alloc ?_ _)); exact BK30049.out) hb); have n9_ := Aside0.mk (blk_below (g := gb30054) (o := .cells #[.string t30050, .string t30051, .int .i64 t30052] 24 (0, 0)) (by (with_reducible repeat (first | refine blk_drewN ?_ _ | refine blk_drew ?_ | refine blk_alloc ?_ _)); refine blk_put (cs := #[.string t30050, .string t30051, .int .i64 0]) ?_ 2 _ rfl; (with_reducible repeat (first | refine blk_drewN ?_ _ | refine blk_drew ?_ | refine blk_alloc ?_ _)); refine blk_put (cs := #[.string t30050, .string (⟨#[]⟩ : ByteArray), .int .i64 0]) ?_ 1 _ rfl; (with_reducible repeat (first | refine blk_drewN ?_ _ | refine blk_drew ?_ | refine blk_alloc ?_ _)); refine blk_put (cs := #[.string (⟨#[]⟩ : ByteArray), .string (⟨#[]⟩ : ByteArray), .int .i64 0]) ?_ 0 _ rfl; (with_reducible repeat (first | refine blk_drewN ?_ _ | refine blk_drew ?_ | refine blk_alloc ?_ _)); exact BK30054.out) hb); have n10_ := Aside0.mk (below_step (by repeat (first | (with_reducible first | exact HB.out | apply below_alloc | apply pw_below_drewN | apply below_drew1 | refine below_set ?_ GE30007.out | refine below_set ?_ GE30014.out | refine below_set ?_ GE30019.out | refine below_set ?_ GE30024.out | refine below_set ?_ GE30037.out | refine below_set ?_ GE30041.out | refine below_set ?_ GE30045.out | refine below_set ?_ GE30049.out | refine below_set ?_ GE30054.out) | exact HB.out)) hb); clear BK30007; clear BK30014; clear BK30019; clear BK30024; clear BK30037; clear BK30041; clear BK30045; clear BK30049; clear BK30054; clear HB; have HO30057 := n0_; have BK30007 := n1_; have BK30014 := n2_; have BK30019 := n3_; have BK30024 := n4_; have BK30037 := n5_; have BK30041 := n6_; have BK30045 := n7_; have BK30049 := n8_; have BK30054 := n9_; have HB := n10_; clear n0_ n1_ n2_ n3_ n4_ n5_ n6_ n7_ n8_ n9_ n10_; clear hb ho359; obtain ⟨Ao360, co360, eo360⟩ := Kd.R_slice HO30057.out; subst eo360) | (go_at_call 7; (with_reducible refine (impl_DiskCrash.calls t30020 t30021 t30022 _ _ y30055 t30058 t30059 t30060 _ ?side1 ?side2 A317.out).mono ?_); (case side1 => repeat (first | exact (Kd.R_reads' HO30057.out).2.2 | (with_reducible refine Kd.C_alloc ?_ _) | (with_reducible refine Kd.C_drewN ?_ _) | (with_reducible refine Kd.C_drew ?_))); (case side2 => exact (Kd.R_reads' HO30057.out).2.1); rintro e w361 ⟨rfl, hb⟩; have n0_ := Aside0.mk (Kd.R_below (by (with_reducible repeat (first | apply Kd.R_alloc | apply Kd.R_drewN | apply Kd.R_drew)); exact HO30057.out) hb); have n1_ := Aside0.mk (blk_below (g := gb30007) (o := .cells #[.string t30001, .string t30002, .int .i64 t30003] 24 (0, 0)) (by (with_reducible repeat (first | refine blk_drewN ?_ _ | refine blk_drew ?_ | refine blk_alloc ?_ _)); exact BK30007.out) hb); have n2_ := Aside0.mk (blk_below (g := gb30014) (o := .cells #[.string t30008, .string t30009, .int .i64 t30010] 24 (0, 0)) (by (with_reducible repeat (first | refine blk_drewN ?_ _ | refine blk_drew ?_ | refine blk_alloc ?_ _)); exact BK30014.out) hb); have n3_ := Aside0.mk (blk_below (g := gb30019) (o := .cells #[.string t30015, .string t30016, .int .i64 t30017] 24 (0, 0)) (by (with_reducible repeat (first | refine blk_drewN ?_ _ | refine blk_drew ?_ | refine blk_alloc ?_ _)); exact BK30019.out) hb); have n4_ := Aside0.mk (blk_below (g := gb30024) (o := .cells #[.string t30020, .string t30021, .int .i64 t30022] 24 (0, 0)) (by (with_reducible repeat (first | refine blk_drewN ?_ _ | refine blk_drew ?_ | refine blk_alloc ?_ _)); exact BK30024.out) hb); have n5_ := Aside0.mk (blk_below (g := gb30037) (o := .cells #[.string t30034, .string t30035, .int .i64 t30036] 24 (0, 0)) (by (with_reducible repeat (first | refine blk_drewN ?_ _ | refine blk_drew ?_ | refine blk_alloc ?_ _)); exact BK30037.out) hb); have n6_ := Aside0.mk (blk_below (g := gb30041) (o := .cells #[.string t30038, .string t30039, .int .i64 t30040] 24 (0, 0)) (by (with_reducible repeat (first | refine blk_drewN ?_ _ | refine blk_drew ?_ | refine blk_alloc ?_ _)); exact BK30041.out) hb); have n7_ := Aside0.mk (blk_below (g := gb30045) (o := .cells #[.string t30042, .string t30043, .int .i64 t30044] 24 (0, 0)) (by (with_reducible repeat (first | refine blk_drewN ?_ _ | refine blk_drew ?_ | refine blk_alloc ?_ _)); exact BK30045.out) hb); have n8_ := Aside0.mk (blk_below (g := gb30049) (o := .cells #[.string t30046, .string t30047, .int .i64 t30048] 24 (0, 0)) (by (with_reducible repeat (first | refine blk_drewN ?_ _ | refine blk_drew ?_ | refine blk_alloc ?_ _)); exact BK30049.out) hb); have n9_ := Aside0.mk (blk_below (g := gb30054) (o := .cells #[.string t30050, .string t30051, .int .i64 t30052] 24 (0, 0)) (by (with_reducible repeat (first | refine blk_drewN ?_ _ | refine blk_drew ?_ | refine blk_alloc ?_ _)); exact BK30054.out) hb); have n10_ := Aside0.mk (below_step (by repeat (first | (with_reducible first | exact HB.out | apply below_alloc | apply pw_below_drewN | apply below_drew1 | refine below_set ?_ GE30007.out | refine below_set ?_ GE30014.out | refine below_set ?_ GE30019.out | refine below_set ?_ GE30024.out | refine below_set ?_ GE30037.out | refine below_set ?_ GE30041.out | refine below_set ?_ GE30045.out | refine below_set ?_ GE30049.out | refine below_set ?_ GE30054.out) | exact HB.out)) hb); clear HO30057; clear BK30007; clear BK30014; clear BK30019; clear BK30024; clear BK30037; clear BK30041; clear BK30045; clear BK30049; clear BK30054; clear HB; have HO30057 := n0_; have BK30007 := n1_; have BK30014 := n2_; have BK30019 := n3_; have BK30024 := n4_; have BK30037 := n5_; have BK30041 := n6_; have BK30045 := n7_; have BK30049 := n8_; have BK30054 := n9_; have HB := n10_; clear n0_ n1_ n2_ n3_ n4_ n5_ n6_ n7_ n8_ n9_ n10_; (try clear hb); (try clear hb2); (try clear hk); (try clear hi)) | ((with_reducible refine gate_dst (N := 20) rfl ?_); (try (refine gate_guard (by rfl) ?_; dsimp only)); refine box_event ?hg (N := 20) ?hd (cs := #[.string (⟨#[]⟩ : ByteArray), .string (⟨#[]⟩ : ByteArray), .int .i64 0]) (t := 24) ?hr ?_; (case hd => rfl); (case hg => rfl); (case hr => first | (go_simp; done) | (go_simp; rfl)); intro gb30061 hg w362 hbox hb; have n0_ := Aside0.mk (Kd.R_below (by (with_reducible repeat (first | apply Kd.R_alloc | apply Kd.R_drewN | apply Kd.R_drew)); exact HO30057.out) hb); have n1_ := Aside0.mk (blk_below (g := gb30007) (o := .cells #[.string t30001, .string t30002, .int .i64 t30003] 24 (0, 0)) (by (with_reducible repeat (first | refine blk_drewN ?_ _ | refine blk_drew ?_ | refine blk_alloc ?_ _)); exact BK30007.out) hb); have n2_ := Aside0.mk (blk_below (g := gb30014) (o := .cells #[.string t30008, .string t30009, .int .i64 t30010] 24 (0, 0)) (by (with_reducible repeat (first | refine blk_drewN ?_ _ | refine blk_drew ?_ | refine blk_alloc ?_ _)); exact BK30014.out) hb); have n3_ := Aside0.mk (blk_below (g := gb30019) (o := .cells #[.string t30015, .string t30016, .int .i64 t30017] 24 (0, 0)) (by (with_reducible repeat (first | refine blk_drewN ?_ _ | refine blk_drew ?_ | refine blk_alloc ?_ _)); exact BK30019.out) hb); have n4_ := Aside0.mk (blk_below (g := gb30024) (o := .cells #[.string t30020, .string t30021, .int .i64 t30022] 24 (0, 0)) (by (with_reducible repeat (first | refine blk_drewN ?_ _ | refine blk_drew ?_ | refine blk_alloc ?_ _)); exact BK30024.out) hb); have n5_ := Aside0.mk (blk_below (g := gb30037) (o := .cells #[.string t30034, .string t30035, .int .i64 t30036] 24 (0, 0)) (by (with_reducible repeat (first | refine blk_drewN ?_ _ | refine blk_drew ?_ | refine blk_alloc ?_ _)); exact BK30037.out) hb); have n6_ := Aside0.mk (blk_below (g := gb30041) (o := .cells #[.string t30038, .string t30039, .int .i64 t30040] 24 (0, 0)) (by (with_reducible repeat (first | refine blk_drewN ?_ _ | refine blk_drew ?_ | refine blk_alloc ?_ _)); exact BK30041.out) hb); have n7_ := Aside0.mk (blk_below (g := gb30045) (o := .cells #[.string t30042, .string t30043, .int .i64 t30044] 24 (0, 0)) (by (with_reducible repeat (first | refine blk_drewN ?_ _ | refine blk_drew ?_ | refine blk_alloc ?_ _)); exact BK30045.out) hb); have n8_ := Aside0.mk (blk_below (g := gb30049) (o := .cells #[.string t30046, .string t30047, .int .i64 t30048] 24 (0, 0)) (by (with_reducible repeat (first | refine blk_drewN ?_ _ | refine blk_drew ?_ | refine blk_alloc ?_ _)); exact BK30049.out) hb); have n9_ := Aside0.mk (blk_below (g := gb30054) (o := .cells #[.string t30050, .string t30051, .int .i64 t30052] 24 (0, 0)) (by (with_reducible repeat (first | refine blk_drewN ?_ _ | refine blk_drew ?_ | refine blk_alloc ?_ _)); exact BK30054.out) hb); have n10_ := Aside0.mk (below_step (by repeat (first | (with_reducible first | exact HB.out | apply below_alloc | apply pw_below_drewN | apply below_drew1 | refine below_set ?_ GE30007.out | refine below_set ?_ GE30014.out | refine below_set ?_ GE30019.out | refine below_set ?_ GE30024.out | refine below_set ?_ GE30037.out | refine below_set ?_ GE30041.out | refine below_set ?_ GE30045.out | refine below_set ?_ GE30049.out | refine below_set ?_ GE30054.out) | exact HB.out)) hb); have n11_ := Aside0.mk (hbox); have n12_ := Aside0.mk ((by rw [hg]; exact (below_size (by repeat (first | (with_reducible first | exact HB.out | apply below_alloc | apply pw_below_drewN | apply below_drew1 | refine below_set ?_ GE30007.out | refine below_set ?_ GE30014.out | refine below_set ?_ GE30019.out | refine below_set ?_ GE30024.out | refine below_set ?_ GE30037.out | refine below_set ?_ GE30041.out | refine below_set ?_ GE30045.out | refine below_set ?_ GE30049.out | refine below_set ?_ GE30054.out) | exact HB.out))) : w.heap.size ≤ gb30061)); have n13_ := Aside0.mk ((by rw [hg]; exact (below_size (by repeat (first | (with_reducible first | exact HB.out | apply below_alloc | apply pw_below_drewN | apply below_drew1 | refine below_set ?_ GE30007.out | refine below_set ?_ GE30014.out | refine below_set ?_ GE30019.out | refine below_set ?_ GE30024.out | refine below_set ?_ GE30037.out | refine below_set ?_ GE30041.out | refine below_set ?_ GE30045.out | refine below_set ?_ GE30049.out | refine below_set ?_ GE30054.out) | exact HB.out))) : w.heap.size ≤ gb30061)); have n14_ := Aside0.mk ((by rw [hg]; exact Nat.ne_of_lt (blk_lt (g := gb30007) (o := .cells #[.string t30001, .string t30002, .int .i64 t30003] 24 (0, 0)) (by (with_reducible repeat (first | refine blk_drewN ?_ _ | refine blk_drew ?_ | refine blk_alloc ?_ _)); exact BK30007.out)) : gb30007 ≠ gb30061)); have n15_ := Aside0.mk ((by rw [hg]; exact Nat.ne_of_gt (blk_lt (g := gb30007) (o := .cells #[.string t30001, .string t30002, .int .i64 t30003] 24 (0, 0)) (by (with_reducible repeat (first | refine blk_drewN ?_ _ | refine blk_drew ?_ | refine blk_alloc ?_ _)); exact BK30007.out)) : gb30061 ≠ gb30007)); have n16_ := Aside0.mk ((by rw [hg]; exact Nat.ne_of_lt (blk_lt (g := gb30014) (o := .cells #[.string t30008, .string t30009, .int .i64 t30010] 24 (0, 0)) (by (with_reducible repeat (first | refine blk_drewN ?_ _ | refine blk_drew ?_ | refine blk_alloc ?_ _)); exact BK30014.out)) : gb30014 ≠ gb30061)); have n17_ := Aside0.mk ((by rw [hg]; exact Nat.ne_of_gt (blk_lt (g := gb30014) (o := .cells #[.string t30008, .string t30009, .int .i64 t30010] 24 (0, 0)) (by (with_reducible repeat (first | refine blk_drewN ?_ _ | refine blk_drew ?_ | refine blk_alloc ?_ _)); exact BK30014.out)) : gb30061 ≠ gb30014)); have n18_ := Aside0.mk ((by rw [hg]; exact Nat.ne_of_lt (blk_lt (g := gb30019) (o := .cells #[.string t30015, .string t30016, .int .i64 t30017] 24 (0, 0)) (by (with_reducible repeat (first | refine blk_drewN ?_ _ | refine blk_drew ?_ | refine blk_alloc ?_ _)); exact BK30019.out)) : gb30019 ≠ gb30061)); have n19_ := Aside0.mk ((by rw [hg]; exact Nat.ne_of_gt (blk_lt (g := gb30019) (o := .cells #[.string t30015, .string t30016, .int .i64 t30017] 24 (0, 0)) (by (with_reducible repeat (first | refine blk_drewN ?_ _ | refine blk_drew ?_ | refine blk_alloc ?_ _)); exact BK30019.out)) : gb30061 ≠ gb30019)); have n20_ := Aside0.mk ((by rw [hg]; exact Nat.ne_of_lt (blk_lt (g := gb30024) (o := .cells #[.string t30020, .string t30021, .int .i64 t30022] 24 (0, 0)) (by (with_reducible repeat (first | refine blk_drewN ?_ _ | refine blk_drew ?_ | refine blk_alloc ?_ _)); exact BK30024.out)) : gb30024 ≠ gb30061)); have n21_ := Aside0.mk ((by rw [hg]; exact Nat.ne_of_gt (blk_lt (g := gb30024) (o := .cells #[.string t30020, .string t30021, .int .i64 t30022] 24 (0, 0)) (by (with_reducible repeat (first | refine blk_drewN ?_ _ | refine blk_drew ?_ | refine blk_alloc ?_ _)); exact BK30024.out)) : gb30061 ≠ gb30024)); have n22_ := Aside0.mk ((by rw [hg]; exact Nat.ne_of_lt (blk_lt (g := gb30037) (o := .cells #[.string t30034, .string t30035, .int .i64 t30036] 24 (0, 0)) (by (with_reducible repeat (first | refine blk_drewN ?_ _ | refine blk_drew ?_ | refine blk_alloc ?_ _)); exact BK30037.out)) : gb30037 ≠ gb30061)); have n23_ := Aside0.mk ((by rw [hg]; exact Nat.ne_of_gt (blk_lt (g := gb30037) (o := .cells #[.string t30034, .string t30035, .int .i64 t30036] 24 (0, 0)) (by (with_reducible repeat (first | refine blk_drewN ?_ _ | refine blk_drew ?_ | refine blk_alloc ?_ _)); exact BK30037.out)) : gb30061 ≠ gb30037)); have n24_ := Aside0.mk ((by rw [hg]; exact Nat.ne_of_lt (blk_lt (g := gb30041) (o := .cells #[.string t30038, .string t30039, .int .i64 t30040] 24 (0, 0)) (by (with_reducible repeat (first | refine blk_drewN ?_ _ | refine blk_drew ?_ | refine blk_alloc ?_ _)); exact BK30041.out)) : gb30041 ≠ gb30061)); have n25_ := Aside0.mk ((by rw [hg]; exact Nat.ne_of_gt (blk_lt (g := gb30041) (o := .cells #[.string t30038, .string t30039, .int .i64 t30040] 24 (0, 0)) (by (with_reducible repeat (first | refine blk_drewN ?_ _ | refine blk_drew ?_ | refine blk_alloc ?_ _)); exact BK30041.out)) : gb30061 ≠ gb30041)); have n26_ := Aside0.mk ((by rw [hg]; exact Nat.ne_of_lt (blk_lt (g := gb30045) (o := .cells #[.string t30042, .string t30043, .int .i64 t30044] 24 (0, 0)) (by (with_reducible repeat (first | refine blk_drewN ?_ _ | refine blk_drew ?_ | refine blk_alloc ?_ _)); exact BK30045.out)) : gb30045 ≠ gb30061)); have n27_ := Aside0.mk ((by rw [hg]; exact Nat.ne_of_gt (blk_lt (g := gb30045) (o := .cells #[.string t30042, .string t30043, .int .i64 t30044] 24 (0, 0)) (by (with_reducible repeat (first | refine blk_drewN ?_ _ | refine blk_drew ?_ | refine blk_alloc ?_ _)); exact BK30045.out)) : gb30061 ≠ gb30045)); have n28_ := Aside0.mk ((by rw [hg]; exact Nat.ne_of_lt (blk_lt (g := gb30049) (o := .cells #[.string t30046, .string t30047, .int .i64 t30048] 24 (0, 0)) (by (with_reducible repeat (first | refine blk_drewN ?_ _ | refine blk_drew ?_ | refine blk_alloc ?_ _)); exact BK30049.out)) : gb30049 ≠ gb30061)); have n29_ := Aside0.mk ((by rw [hg]; exact Nat.ne_of_gt (blk_lt (g := gb30049) (o := .cells #[.string t30046, .string t30047, .int .i64 t30048] 24 (0, 0)) (by (with_reducible repeat (first | refine blk_drewN ?_ _ | refine blk_drew ?_ | refine blk_alloc ?_ _)); exact BK30049.out)) : gb30061 ≠ gb30049)); have n30_ := Aside0.mk ((by rw [hg]; exact Nat.ne_of_lt (blk_lt (g := gb30054) (o := .cells #[.string t30050, .string t30051, .int .i64 t30052] 24 (0, 0)) (by (with_reducible repeat (first | refine blk_drewN ?_ _ | refine blk_drew ?_ | refine blk_alloc ?_ _)); exact BK30054.out)) : gb30054 ≠ gb30061)); have n31_ := Aside0.mk ((by rw [hg]; exact Nat.ne_of_gt (blk_lt (g := gb30054) (o := .cells #[.string t30050, .string t30051, .int .i64 t30052] 24 (0, 0)) (by (with_reducible repeat (first | refine blk_drewN ?_ _ | refine blk_drew ?_ | refine blk_alloc ?_ _)); exact BK30054.out)) : gb30061 ≠ gb30054)); clear HO30057; clear BK30007; clear BK30014; clear BK30019; clear BK30024; clear BK30037; clear BK30041; clear BK30045; clear BK30049; clear BK30054; clear HB; have HO30057 := n0_; have BK30007 := n1_; have BK30014 := n2_; have BK30019 := n3_; have BK30024 := n4_; have BK30037 := n5_; have BK30041 := n6_; have BK30045 := n7_; have BK30049 := n8_; have BK30054 := n9_; have HB := n10_; have BK30061 := n11_; have GW30061 := n12_; have GE30061 := n13_; have NB30007_30061 := n14_; have NB30061_30007 := n15_; have NB30014_30061 := n16_; have NB30061_30014 := n17_; have NB30019_30061 := n18_; have NB30061_30019 := n19_; have NB30024_30061 := n20_; have NB30061_30024 := n21_; have NB30037_30061 := n22_; have NB30061_30037 := n23_; have NB30041_30061 := n24_; have NB30061_30041 := n25_; have NB30045_30061 := n26_; have NB30061_30045 := n27_; have NB30049_30061 := n28_; have NB30061_30049 := n29_; have NB30054_30061 := n30_; have NB30061_30054 := n31_; clear n0_ n1_ n2_ n3_ n4_ n5_ n6_ n7_ n8_ n9_ n10_ n11_ n12_ n13_ n14_ n15_ n16_ n17_ n18_ n19_ n20_ n21_ n22_ n23_ n24_ n25_ n26_ n27_ n28_ n29_ n30_ n31_; clear hb hbox hg; have hnb363 := NB30061_30007.out; have hnc363 := NB30007_30061.out; have hnb364 := NB30061_30014.out; have hnc364 := NB30014_30061.out; have hnb365 := NB30061_30019.out; have hnc365 := NB30019_30061.out; have hnb366 := NB30061_30024.out; have hnc366 := NB30024_30061.out; have hnb367 := NB30061_30037.out; have hnc367 := NB30037_30061.out; have hnb368 := NB30061_30041.out; have hnc368 := NB30041_30061.out; have hnb369 := NB30061_30045.out; have hnc369 := NB30045_30061.out; have hnb370 := NB30061_30049.out; have hnc370 := NB30049_30061.out; have hnb371 := NB30061_30054.out; have hnc371 := NB30054_30061.out; have hcz372_0 : w362.cell? ⟨gb30061, 0, none⟩ = some (.string (⟨#[]⟩ : ByteArray)) := (blk_cell BK30061.out 0).trans rfl; have hcz372_1 : w362.cell? ⟨gb30061, 1, none⟩ = some (.string (⟨#[]⟩ : ByteArray)) := (blk_cell BK30061.out 1).trans rfl; have hcz372_2 : w362.cell? ⟨gb30061, 2, none⟩ = some (.int .i64 0) := (blk_cell BK30061.out 2).trans rfl; have hfz372_0 := blk_frozen BK30061.out 0; have hfz372_1 := blk_frozen BK30061.out 1; have hfz372_2 := blk_frozen BK30061.out 2; have hcz373_0 : w362.cell? ⟨gb30014, 0, none⟩ = some (.string t30008) := (blk_cell BK30014.out 0).trans rfl; have hcz373_1 : w362.cell? ⟨gb30014, 1, none⟩ = some (.string t30009) := (blk_cell BK30014.out 1).trans rfl; have hcz373_2 : w362.cell? ⟨gb30014, 2, none⟩ = some (.int .i64 t30010) := (blk_cell BK30014.out 2).trans rfl; have hfz373_0 := blk_frozen BK30014.out 0; have hfz373_1 := blk_frozen BK30014.out 1; have hfz373_2 := blk_frozen BK30014.out 2; have hcz374_0 : w362.cell? ⟨gb30054, 0, none⟩ = some (.string t30050) := (blk_cell BK30054.out 0).trans rfl; have hcz374_1 : w362.cell? ⟨gb30054, 1, none⟩ = some (.string t30051) := (blk_cell BK30054.out 1).trans rfl; have hcz374_2 : w362.cell? ⟨gb30054, 2, none⟩ = some (.int .i64 t30052) := (blk_cell BK30054.out 2).trans rfl; have hfz374_0 := blk_frozen BK30054.out 0; have hfz374_1 := blk_frozen BK30054.out 1; have hfz374_2 := blk_frozen BK30054.out 2))
                   go_ret
                   exact ⟨by first | rfl | (simp [errW_none, errW_some] <;> rfl) | (simp [*, errW_none, errW_some] <;> rfl), by repeat (first | (with_reducible first | exact HB.out | apply below_alloc | apply pw_below_drewN | apply below_drew1 | refine below_set ?_ GE30007.out | refine below_set ?_ GE30014.out | refine below_set ?_ GE30019.out | refine below_set ?_ GE30024.out | refine below_set ?_ GE30037.out | refine below_set ?_ GE30041.out | refine below_set ?_ GE30045.out | refine below_set ?_ GE30049.out | refine below_set ?_ GE30054.out | refine below_set ?_ GE30061.out) | exact HB.out)⟩
                  ·rw [if_neg c320] at H; exact absurd H (by simp)
                 ·rw [if_neg c319] at H; exact absurd H (by simp)
                ·rw [if_neg c318] at H; exact absurd H (by simp)
   ·rw [if_neg c8] at H; have c8b0 : (t30018 == 0) = false := beq_eq_false_iff_ne.mpr c8; have c8b1 : (t30018 != 0) = true := bne_iff_ne.mpr c8; obtain rfl := Option.some.inj H
    go_enter Try.func3, Try.ntmps3
    go_wp2_with (first | (go_at_call 4; (with_reducible refine (spec_DrawDiskCrash.calls k _ _ l0 t30001 t30002 t30003 t30004 _ ?side1 ?side2 A3.out).mono ?_); (case side1 => repeat (first | exact HR0.out | (with_reducible refine Kd.C_alloc ?_ _) | (with_reducible refine Kd.C_drewN ?_ _) | (with_reducible refine Kd.C_drew ?_))); (case side2 => exact HC0.out); rintro e w535 ⟨v30005, rfl, ho0, hb⟩; have n0_ := Aside0.mk (Kd.R_lower ho0 (below_size (by repeat (first | (with_reducible first | exact HB.out | apply below_alloc | apply pw_below_drewN | apply below_drew1) | exact HB.out)))); have n1_ := Aside0.mk (below_step (by repeat (first | (with_reducible first | exact HB.out | apply below_alloc | apply pw_below_drewN | apply below_drew1) | exact HB.out)) hb); clear HB; have HO30006 := n0_; have HB := n1_; clear n0_ n1_; (try clear hb); (try clear hb2); (try clear hk); (try clear hi); (try clear ho0)) | ((with_reducible refine gate_dst (N := 3) rfl ?_); (try (refine gate_guard (by rfl) ?_; dsimp only)); refine box_event ?hg (N := 3) ?hd (cs := #[.string (⟨#[]⟩ : ByteArray), .string (⟨#[]⟩ : ByteArray), .int .i64 0]) (t := 24) ?hr ?_; (case hd => rfl); (case hg => rfl); (case hr => first | (go_simp; done) | (go_simp; rfl)); intro gb30007 hg w536 hbox hb; have n0_ := Aside0.mk (Kd.R_below (by (with_reducible repeat (first | apply Kd.R_alloc | apply Kd.R_drewN | apply Kd.R_drew)); exact HO30006.out) hb); have n1_ := Aside0.mk (below_step (by repeat (first | (with_reducible first | exact HB.out | apply below_alloc | apply pw_below_drewN | apply below_drew1) | exact HB.out)) hb); have n2_ := Aside0.mk (hbox); have n3_ := Aside0.mk ((by rw [hg]; exact (below_size (by repeat (first | (with_reducible first | exact HB.out | apply below_alloc | apply pw_below_drewN | apply below_drew1) | exact HB.out))) : w.heap.size ≤ gb30007)); have n4_ := Aside0.mk ((by rw [hg]; exact (below_size (by repeat (first | (with_reducible first | exact HB.out | apply below_alloc | apply pw_below_drewN | apply below_drew1) | exact HB.out))) : w.heap.size ≤ gb30007)); clear HO30006; clear HB; have HO30006 := n0_; have HB := n1_; have BK30007 := n2_; have GW30007 := n3_; have GE30007 := n4_; clear n0_ n1_ n2_ n3_ n4_; clear hb hbox hg; have hcz537_0 : w536.cell? ⟨gb30007, 0, none⟩ = some (.string (⟨#[]⟩ : ByteArray)) := (blk_cell BK30007.out 0).trans rfl; have hcz537_1 : w536.cell? ⟨gb30007, 1, none⟩ = some (.string (⟨#[]⟩ : ByteArray)) := (blk_cell BK30007.out 1).trans rfl; have hcz537_2 : w536.cell? ⟨gb30007, 2, none⟩ = some (.int .i64 0) := (blk_cell BK30007.out 2).trans rfl; have hfz537_0 := blk_frozen BK30007.out 0; have hfz537_1 := blk_frozen BK30007.out 1; have hfz537_2 := blk_frozen BK30007.out 2) | (go_at_call 4; (with_reducible refine (spec_DrawDiskCrash.calls k _ _ l0 t30008 t30009 t30010 t30011 _ ?side1 ?side2 A4.out).mono ?_); (case side1 => exact Kd.C_below HR0.out (by repeat (first | (with_reducible first | exact HB.out | apply below_alloc | apply pw_below_drewN | apply below_drew1 | refine below_set ?_ GE30007.out) | exact HB.out))); (case side2 => exact HC0.out); rintro e w538 ⟨v30012, rfl, ho0, hb⟩; have n0_ := Aside0.mk (Kd.R_elder' (by (with_reducible repeat (first | apply Kd.R_alloc | apply Kd.R_drewN | apply Kd.R_drew)); exact (Kd.R_mono (Kd.R_far (p := ⟨gb30007, 2, none⟩) (Kd.R_far (p := ⟨gb30007, 1, none⟩) (Kd.R_far (p := ⟨gb30007, 0, none⟩) (Kd.R_types HO30006.out BK30007.out (by decide)) (fun _ hk => hk.2) (.string t30001)) (fun _ hk => hk.2) (.string t30002)) (fun _ hk => hk.2) (.int .i64 t30003)) (fun _ h_ => h_.1))) (Kd.R_base ho0) hb); have n1_ := Aside0.mk (Kd.R_lower (Kd.R_new' ho0 (Kd.R_lt (by (with_reducible repeat (first | apply Kd.R_alloc | apply Kd.R_drewN | apply Kd.R_drew)); exact (Kd.R_mono (Kd.R_far (p := ⟨gb30007, 2, none⟩) (Kd.R_far (p := ⟨gb30007, 1, none⟩) (Kd.R_far (p := ⟨gb30007, 0, none⟩) (Kd.R_types HO30006.out BK30007.out (by decide)) (fun _ hk => hk.2) (.string t30001)) (fun _ hk => hk.2) (.string t30002)) (fun _ hk => hk.2) (.int .i64 t30003)) (fun _ h_ => h_.1))))) (below_size (by repeat (first | (with_reducible first | exact HB.out | apply below_alloc | apply pw_below_drewN | apply below_drew1 | refine below_set ?_ GE30007.out) | exact HB.out)))); have n2_ := Aside0.mk (blk_below (g := gb30007) (o := .cells #[.string t30001, .string t30002, .int .i64 t30003] 24 (0, 0)) (by (with_reducible repeat (first | refine blk_drewN ?_ _ | refine blk_drew ?_ | refine blk_alloc ?_ _)); refine blk_put (cs := #[.string t30001, .string t30002, .int .i64 0]) ?_ 2 _ rfl; (with_reducible repeat (first | refine blk_drewN ?_ _ | refine blk_drew ?_ | refine blk_alloc ?_ _)); refine blk_put (cs := #[.string t30001, .string (⟨#[]⟩ : ByteArray), .int .i64 0]) ?_ 1 _ rfl; (with_reducible repeat (first | refine blk_drewN ?_ _ | refine blk_drew ?_ | refine blk_alloc ?_ _)); refine blk_put (cs := #[.string (⟨#[]⟩ : ByteArray), .string (⟨#[]⟩ : ByteArray), .int .i64 0]) ?_ 0 _ rfl; (with_reducible repeat (first | refine blk_drewN ?_ _ | refine blk_drew ?_ | refine blk_alloc ?_ _)); exact BK30007.out) hb); have n3_ := Aside0.mk (below_step (by repeat (first | (with_reducible first | exact HB.out | apply below_alloc | apply pw_below_drewN | apply below_drew1 | refine below_set ?_ GE30007.out) | exact HB.out)) hb); clear HO30006; clear BK30007; clear HB; have HO30006 := n0_; have HO30013 := n1_; have BK30007 := n2_; have HB := n3_; clear n0_ n1_ n2_ n3_; (try clear hb); (try clear hb2); (try clear hk); (try clear hi); (try clear ho0)) | ((with_reducible refine gate_dst (N := 5) rfl ?_); (try (refine gate_guard (by rfl) ?_; dsimp only)); refine box_event ?hg (N := 5) ?hd (cs := #[.string (⟨#[]⟩ : ByteArray), .string (⟨#[]⟩ : ByteArray), .int .i64 0]) (t := 24) ?hr ?_; (case hd => rfl); (case hg => rfl); (case hr => first | (go_simp; done) | (go_simp; rfl)); intro gb30014 hg w539 hbox hb; have n0_ := Aside0.mk (Kd.R_below (by (with_reducible repeat (first | apply Kd.R_alloc | apply Kd.R_drewN | apply Kd.R_drew)); exact HO30006.out) hb); have n1_ := Aside0.mk (Kd.R_below (by (with_reducible repeat (first | apply Kd.R_alloc | apply Kd.R_drewN | apply Kd.R_drew)); exact HO30013.out) hb); have n2_ := Aside0.mk (blk_below (g := gb30007) (o := .cells #[.string t30001, .string t30002, .int .i64 t30003] 24 (0, 0)) (by (with_reducible repeat (first | refine blk_drewN ?_ _ | refine blk_drew ?_ | refine blk_alloc ?_ _)); exact BK30007.out) hb); have n3_ := Aside0.mk (below_step (by repeat (first | (with_reducible first | exact HB.out | apply below_alloc | apply pw_below_drewN | apply below_drew1 | refine below_set ?_ GE30007.out) | exact HB.out)) hb); have n4_ := Aside0.mk (hbox); have n5_ := Aside0.mk ((by rw [hg]; exact (below_size (by repeat (first | (with_reducible first | exact HB.out | apply below_alloc | apply pw_below_drewN | apply below_drew1 | refine below_set ?_ GE30007.out) | exact HB.out))) : w.heap.size ≤ gb30014)); have n6_ := Aside0.mk ((by rw [hg]; exact (below_size (by repeat (first | (with_reducible first | exact HB.out | apply below_alloc | apply pw_below_drewN | apply below_drew1 | refine below_set ?_ GE30007.out) | exact HB.out))) : w.heap.size ≤ gb30014)); have n7_ := Aside0.mk ((by rw [hg]; exact Nat.ne_of_lt (blk_lt (g := gb30007) (o := .cells #[.string t30001, .string t30002, .int .i64 t30003] 24 (0, 0)) (by (with_reducible repeat (first | refine blk_drewN ?_ _ | refine blk_drew ?_ | refine blk_alloc ?_ _)); exact BK30007.out)) : gb30007 ≠ gb30014)); have n8_ := Aside0.mk ((by rw [hg]; exact Nat.ne_of_gt (blk_lt (g := gb30007) (o := .cells #[.string t30001, .string t30002, .int .i64 t30003] 24 (0, 0)) (by (with_reducible repeat (first | refine blk_drewN ?_ _ | refine blk_drew ?_ | refine blk_alloc ?_ _)); exact BK30007.out)) : gb30014 ≠ gb30007)); clear HO30006; clear HO30013; clear BK30007; clear HB; have HO30006 := n0_; have HO30013 := n1_; have BK30007 := n2_; have HB := n3_; have BK30014 := n4_; have GW30014 := n5_; have GE30014 := n6_; have NB30007_30014 := n7_; have NB30014_30007 := n8_; clear n0_ n1_ n2_ n3_ n4_ n5_ n6_ n7_ n8_; clear hb hbox hg; have hnb540 := NB30014_30007.out; have hnc540 := NB30007_30014.out; have hcz541_0 : w539.cell? ⟨gb30014, 0, none⟩ = some (.string (⟨#[]⟩ : ByteArray)) := (blk_cell BK30014.out 0).trans rfl; have hcz541_1 : w539.cell? ⟨gb30014, 1, none⟩ = some (.string (⟨#[]⟩ : ByteArray)) := (blk_cell BK30014.out 1).trans rfl; have hcz541_2 : w539.cell? ⟨gb30014, 2, none⟩ = some (.int .i64 0) := (blk_cell BK30014.out 2).trans rfl; have hfz541_0 := blk_frozen BK30014.out 0; have hfz541_1 := blk_frozen BK30014.out 1; have hfz541_2 := blk_frozen BK30014.out 2) | (go_at_call 5; (with_reducible refine (spec_DiskSync.calls t30008 t30009 t30010 t30015 t30016 t30017 t30018 _ A5.out).mono ?_); rintro e w542 ⟨rfl, hb⟩; have n0_ := Aside0.mk (Kd.R_below (by (with_reducible repeat (first | apply Kd.R_alloc | apply Kd.R_drewN | apply Kd.R_drew)); exact (Kd.R_mono (Kd.R_far (p := ⟨gb30014, 2, none⟩) (Kd.R_far (p := ⟨gb30014, 1, none⟩) (Kd.R_far (p := ⟨gb30014, 0, none⟩) (Kd.R_types HO30006.out BK30014.out (by decide)) (fun _ hk => hk.2) (.string t30008)) (fun _ hk => hk.2) (.string t30009)) (fun _ hk => hk.2) (.int .i64 t30010)) (fun _ h_ => h_.1))) hb); have n1_ := Aside0.mk (Kd.R_below (by (with_reducible repeat (first | apply Kd.R_alloc | apply Kd.R_drewN | apply Kd.R_drew)); exact (Kd.R_mono (Kd.R_far (p := ⟨gb30014, 2, none⟩) (Kd.R_far (p := ⟨gb30014, 1, none⟩) (Kd.R_far (p := ⟨gb30014, 0, none⟩) (Kd.R_types HO30013.out BK30014.out (by decide)) (fun _ hk => hk.2) (.string t30008)) (fun _ hk => hk.2) (.string t30009)) (fun _ hk => hk.2) (.int .i64 t30010)) (fun _ h_ => h_.1))) hb); have n2_ := Aside0.mk (blk_below (g := gb30007) (o := .cells #[.string t30001, .string t30002, .int .i64 t30003] 24 (0, 0)) (by (with_reducible repeat (first | refine blk_drewN ?_ _ | refine blk_drew ?_ | refine blk_alloc ?_ _)); refine blk_far ?_ NB30007_30014.out _; (with_reducible repeat (first | refine blk_drewN ?_ _ | refine blk_drew ?_ | refine blk_alloc ?_ _)); refine blk_far ?_ NB30007_30014.out _; (with_reducible repeat (first | refine blk_drewN ?_ _ | refine blk_drew ?_ | refine blk_alloc ?_ _)); refine blk_far ?_ NB30007_30014.out _; (with_reducible repeat (first | refine blk_drewN ?_ _ | refine blk_drew ?_ | refine blk_alloc ?_ _)); exact BK30007.out) hb); have n3_ := Aside0.mk (blk_below (g := gb30014) (o := .cells #[.string t30008, .string t30009, .int .i64 t30010] 24 (0, 0)) (by (with_reducible repeat (first | refine blk_drewN ?_ _ | refine blk_drew ?_ | refine blk_alloc ?_ _)); refine blk_put (cs := #[.string t30008, .string t30009, .int .i64 0]) ?_ 2 _ rfl; (with_reducible repeat (first | refine blk_drewN ?_ _ | refine blk_drew ?_ | refine blk_alloc ?_ _)); refine blk_put (cs := #[.string t30008, .string (⟨#[]⟩ : ByteArray), .int .i64 0]) ?_ 1 _ rfl; (with_reducible repeat (first | refine blk_drewN ?_ _ | refine blk_drew ?_ | refine blk_alloc ?_ _)); refine blk_put (cs := #[.string (⟨#[]⟩ : ByteArray), .string (⟨#[]⟩ : ByteArray), .int .i64 0]) ?_ 0 _ rfl; (with_reducible repeat (first | refine blk_drewN ?_ _ | refine blk_drew ?_ | refine blk_alloc ?_ _)); exact BK30014.out) hb); have n4_ := Aside0.mk (below_step (by repeat (first | (with_reducible first | exact HB.out | apply below_alloc | apply pw_below_drewN | apply below_drew1 | refine below_set ?_ GE30007.out | refine below_set ?_ GE30014.out) | exact HB.out)) hb); clear HO30006; clear HO30013; clear BK30007; clear BK30014; clear HB; have HO30006 := n0_; have HO30013 := n1_; have BK30007 := n2_; have BK30014 := n3_; have HB := n4_; clear n0_ n1_ n2_ n3_ n4_; (try clear hb); (try clear hb2); (try clear hk); (try clear hi)) | ((with_reducible refine gate_dst (N := 7) rfl ?_); (try (refine gate_guard (by rfl) ?_; dsimp only)); refine box_event ?hg (N := 7) ?hd (cs := #[.string (⟨#[]⟩ : ByteArray), .string (⟨#[]⟩ : ByteArray), .int .i64 0]) (t := 24) ?hr ?_; (case hd => rfl); (case hg => rfl); (case hr => first | (go_simp; done) | (go_simp; rfl)); intro gb30019 hg w543 hbox hb; have n0_ := Aside0.mk (Kd.R_below (by (with_reducible repeat (first | apply Kd.R_alloc | apply Kd.R_drewN | apply Kd.R_drew)); exact HO30006.out) hb); have n1_ := Aside0.mk (Kd.R_below (by (with_reducible repeat (first | apply Kd.R_alloc | apply Kd.R_drewN | apply Kd.R_drew)); exact HO30013.out) hb); have n2_ := Aside0.mk (blk_below (g := gb30007) (o := .cells #[.string t30001, .string t30002, .int .i64 t30003] 24 (0, 0)) (by (with_reducible repeat (first | refine blk_drewN ?_ _ | refine blk_drew ?_ | refine blk_alloc ?_ _)); exact BK30007.out) hb); have n3_ := Aside0.mk (blk_below (g := gb30014) (o := .cells #[.string t30008, .string t30009, .int .i64 t30010] 24 (0, 0)) (by (with_reducible repeat (first | refine blk_drewN ?_ _ | refine blk_drew ?_ | refine blk_alloc ?_ _)); exact BK30014.out) hb); have n4_ := Aside0.mk (below_step (by repeat (first | (with_reducible first | exact HB.out | apply below_alloc | apply pw_below_drewN | apply below_drew1 | refine below_set ?_ GE30007.out | refine below_set ?_ GE30014.out) | exact HB.out)) hb); have n5_ := Aside0.mk (hbox); have n6_ := Aside0.mk ((by rw [hg]; exact (below_size (by repeat (first | (with_reducible first | exact HB.out | apply below_alloc | apply pw_below_drewN | apply below_drew1 | refine below_set ?_ GE30007.out | refine below_set ?_ GE30014.out) | exact HB.out))) : w.heap.size ≤ gb30019)); have n7_ := Aside0.mk ((by rw [hg]; exact (below_size (by repeat (first | (with_reducible first | exact HB.out | apply below_alloc | apply pw_below_drewN | apply below_drew1 | refine below_set ?_ GE30007.out | refine below_set ?_ GE30014.out) | exact HB.out))) : w.heap.size ≤ gb30019)); have n8_ := Aside0.mk ((by rw [hg]; exact Nat.ne_of_lt (blk_lt (g := gb30007) (o := .cells #[.string t30001, .string t30002, .int .i64 t30003] 24 (0, 0)) (by (with_reducible repeat (first | refine blk_drewN ?_ _ | refine blk_drew ?_ | refine blk_alloc ?_ _)); exact BK30007.out)) : gb30007 ≠ gb30019)); have n9_ := Aside0.mk ((by rw [hg]; exact Nat.ne_of_gt (blk_lt (g := gb30007) (o := .cells #[.string t30001, .string t30002, .int .i64 t30003] 24 (0, 0)) (by (with_reducible repeat (first | refine blk_drewN ?_ _ | refine blk_drew ?_ | refine blk_alloc ?_ _)); exact BK30007.out)) : gb30019 ≠ gb30007)); have n10_ := Aside0.mk ((by rw [hg]; exact Nat.ne_of_lt (blk_lt (g := gb30014) (o := .cells #[.string t30008, .string t30009, .int .i64 t30010] 24 (0, 0)) (by (with_reducible repeat (first | refine blk_drewN ?_ _ | refine blk_drew ?_ | refine blk_alloc ?_ _)); exact BK30014.out)) : gb30014 ≠ gb30019)); have n11_ := Aside0.mk ((by rw [hg]; exact Nat.ne_of_gt (blk_lt (g := gb30014) (o := .cells #[.string t30008, .string t30009, .int .i64 t30010] 24 (0, 0)) (by (with_reducible repeat (first | refine blk_drewN ?_ _ | refine blk_drew ?_ | refine blk_alloc ?_ _)); exact BK30014.out)) : gb30019 ≠ gb30014)); clear HO30006; clear HO30013; clear BK30007; clear BK30014; clear HB; have HO30006 := n0_; have HO30013 := n1_; have BK30007 := n2_; have BK30014 := n3_; have HB := n4_; have BK30019 := n5_; have GW30019 := n6_; have GE30019 := n7_; have NB30007_30019 := n8_; have NB30019_30007 := n9_; have NB30014_30019 := n10_; have NB30019_30014 := n11_; clear n0_ n1_ n2_ n3_ n4_ n5_ n6_ n7_ n8_ n9_ n10_ n11_; clear hb hbox hg; have hnb544 := NB30019_30007.out; have hnc544 := NB30007_30019.out; have hnb545 := NB30019_30014.out; have hnc545 := NB30014_30019.out; have hcz546_0 : w543.cell? ⟨gb30019, 0, none⟩ = some (.string (⟨#[]⟩ : ByteArray)) := (blk_cell BK30019.out 0).trans rfl; have hcz546_1 : w543.cell? ⟨gb30019, 1, none⟩ = some (.string (⟨#[]⟩ : ByteArray)) := (blk_cell BK30019.out 1).trans rfl; have hcz546_2 : w543.cell? ⟨gb30019, 2, none⟩ = some (.int .i64 0) := (blk_cell BK30019.out 2).trans rfl; have hfz546_0 := blk_frozen BK30019.out 0; have hfz546_1 := blk_frozen BK30019.out 1; have hfz546_2 := blk_frozen BK30019.out 2; have hcz547_0 : w543.cell? ⟨gb30007, 0, none⟩ = some (.string t30001) := (blk_cell BK30007.out 0).trans rfl; have hcz547_1 : w543.cell? ⟨gb30007, 1, none⟩ = some (.string t30002) := (blk_cell BK30007.out 1).trans rfl; have hcz547_2 : w543.cell? ⟨gb30007, 2, none⟩ = some (.int .i64 t30003) := (blk_cell BK30007.out 2).trans rfl; have hfz547_0 := blk_frozen BK30007.out 0; have hfz547_1 := blk_frozen BK30007.out 1; have hfz547_2 := blk_frozen BK30007.out 2) | (go_at_call 6; (with_reducible refine (impl_DiskSync.calls t30001 t30002 t30003 t30020 t30021 t30022 t30023 _ A6.out).mono ?_); rintro e w548 ⟨rfl, hb⟩; have n0_ := Aside0.mk (Kd.R_below (by (with_reducible repeat (first | apply Kd.R_alloc | apply Kd.R_drewN | apply Kd.R_drew)); exact (Kd.R_mono (Kd.R_far (p := ⟨gb30019, 2, none⟩) (Kd.R_far (p := ⟨gb30019, 1, none⟩) (Kd.R_far (p := ⟨gb30019, 0, none⟩) (Kd.R_types HO30006.out BK30019.out (by decide)) (fun _ hk => hk.2) (.string t30015)) (fun _ hk => hk.2) (.string t30016)) (fun _ hk => hk.2) (.int .i64 t30017)) (fun _ h_ => h_.1))) hb); have n1_ := Aside0.mk (Kd.R_below (by (with_reducible repeat (first | apply Kd.R_alloc | apply Kd.R_drewN | apply Kd.R_drew)); exact (Kd.R_mono (Kd.R_far (p := ⟨gb30019, 2, none⟩) (Kd.R_far (p := ⟨gb30019, 1, none⟩) (Kd.R_far (p := ⟨gb30019, 0, none⟩) (Kd.R_types HO30013.out BK30019.out (by decide)) (fun _ hk => hk.2) (.string t30015)) (fun _ hk => hk.2) (.string t30016)) (fun _ hk => hk.2) (.int .i64 t30017)) (fun _ h_ => h_.1))) hb); have n2_ := Aside0.mk (blk_below (g := gb30007) (o := .cells #[.string t30001, .string t30002, .int .i64 t30003] 24 (0, 0)) (by (with_reducible repeat (first | refine blk_drewN ?_ _ | refine blk_drew ?_ | refine blk_alloc ?_ _)); refine blk_far ?_ NB30007_30019.out _; (with_reducible repeat (first | refine blk_drewN ?_ _ | refine blk_drew ?_ | refine blk_alloc ?_ _)); refine blk_far ?_ NB30007_30019.out _; (with_reducible repeat (first | refine blk_drewN ?_ _ | refine blk_drew ?_ | refine blk_alloc ?_ _)); refine blk_far ?_ NB30007_30019.out _; (with_reducible repeat (first | refine blk_drewN ?_ _ | refine blk_drew ?_ | refine blk_alloc ?_ _)); exact BK30007.out) hb); have n3_ := Aside0.mk (blk_below (g := gb30014) (o := .cells #[.string t30008, .string t30009, .int .i64 t30010] 24 (0, 0)) (by (with_reducible repeat (first | refine blk_drewN ?_ _ | refine blk_drew ?_ | refine blk_alloc ?_ _)); refine blk_far ?_ NB30014_30019.out _; (with_reducible repeat (first | refine blk_drewN ?_ _ | refine blk_drew ?_ | refine blk_alloc ?_ _)); refine blk_far ?_ NB30014_30019.out _; (with_reducible repeat (first | refine blk_drewN ?_ _ | refine blk_drew ?_ | refine blk_alloc ?_ _)); refine blk_far ?_ NB30014_30019.out _; (with_reducible repeat (first | refine blk_drewN ?_ _ | refine blk_drew ?_ | refine blk_alloc ?_ _)); exact BK30014.out) hb); have n4_ := Aside0.mk (blk_below (g := gb30019) (o := .cells #[.string t30015, .string t30016, .int .i64 t30017] 24 (0, 0)) (by (with_reducible repeat (first | refine blk_drewN ?_ _ | refine blk_drew ?_ | refine blk_alloc ?_ _)); refine blk_put (cs := #[.string t30015, .string t30016, .int .i64 0]) ?_ 2 _ rfl; (with_reducible repeat (first | refine blk_drewN ?_ _ | refine blk_drew ?_ | refine blk_alloc ?_ _)); refine blk_put (cs := #[.string t30015, .string (⟨#[]⟩ : ByteArray), .int .i64 0]) ?_ 1 _ rfl; (with_reducible repeat (first | refine blk_drewN ?_ _ | refine blk_drew ?_ | refine blk_alloc ?_ _)); refine blk_put (cs := #[.string (⟨#[]⟩ : ByteArray), .string (⟨#[]⟩ : ByteArray), .int .i64 0]) ?_ 0 _ rfl; (with_reducible repeat (first | refine blk_drewN ?_ _ | refine blk_drew ?_ | refine blk_alloc ?_ _)); exact BK30019.out) hb); have n5_ := Aside0.mk (below_step (by repeat (first | (with_reducible first | exact HB.out | apply below_alloc | apply pw_below_drewN | apply below_drew1 | refine below_set ?_ GE30007.out | refine below_set ?_ GE30014.out | refine below_set ?_ GE30019.out) | exact HB.out)) hb); clear HO30006; clear HO30013; clear BK30007; clear BK30014; clear BK30019; clear HB; have HO30006 := n0_; have HO30013 := n1_; have BK30007 := n2_; have BK30014 := n3_; have BK30019 := n4_; have HB := n5_; clear n0_ n1_ n2_ n3_ n4_ n5_; (try clear hb); (try clear hb2); (try clear hk); (try clear hi)) | ((with_reducible refine gate_dst (N := 9) rfl ?_); (try (refine gate_guard (by rfl) ?_; dsimp only)); refine box_event ?hg (N := 9) ?hd (cs := #[.string (⟨#[]⟩ : ByteArray), .string (⟨#[]⟩ : ByteArray), .int .i64 0]) (t := 24) ?hr ?_; (case hd => rfl); (case hg => rfl); (case hr => first | (go_simp; done) | (go_simp; rfl)); intro gb30024 hg w549 hbox hb; have n0_ := Aside0.mk (Kd.R_below (by (with_reducible repeat (first | apply Kd.R_alloc | apply Kd.R_drewN | apply Kd.R_drew)); exact HO30006.out) hb); have n1_ := Aside0.mk (Kd.R_below (by (with_reducible repeat (first | apply Kd.R_alloc | apply Kd.R_drewN | apply Kd.R_drew)); exact HO30013.out) hb); have n2_ := Aside0.mk (blk_below (g := gb30007) (o := .cells #[.string t30001, .string t30002, .int .i64 t30003] 24 (0, 0)) (by (with_reducible repeat (first | refine blk_drewN ?_ _ | refine blk_drew ?_ | refine blk_alloc ?_ _)); exact BK30007.out) hb); have n3_ := Aside0.mk (blk_below (g := gb30014) (o := .cells #[.string t30008, .string t30009, .int .i64 t30010] 24 (0, 0)) (by (with_reducible repeat (first | refine blk_drewN ?_ _ | refine blk_drew ?_ | refine blk_alloc ?_ _)); exact BK30014.out) hb); have n4_ := Aside0.mk (blk_below (g := gb30019) (o := .cells #[.string t30015, .string t30016, .int .i64 t30017] 24 (0, 0)) (by (with_reducible repeat (first | refine blk_drewN ?_ _ | refine blk_drew ?_ | refine blk_alloc ?_ _)); exact BK30019.out) hb); have n5_ := Aside0.mk (below_step (by repeat (first | (with_reducible first | exact HB.out | apply below_alloc | apply pw_below_drewN | apply below_drew1 | refine below_set ?_ GE30007.out | refine below_set ?_ GE30014.out | refine below_set ?_ GE30019.out) | exact HB.out)) hb); have n6_ := Aside0.mk (hbox); have n7_ := Aside0.mk ((by rw [hg]; exact (below_size (by repeat (first | (with_reducible first | exact HB.out | apply below_alloc | apply pw_below_drewN | apply below_drew1 | refine below_set ?_ GE30007.out | refine below_set ?_ GE30014.out | refine below_set ?_ GE30019.out) | exact HB.out))) : w.heap.size ≤ gb30024)); have n8_ := Aside0.mk ((by rw [hg]; exact (below_size (by repeat (first | (with_reducible first | exact HB.out | apply below_alloc | apply pw_below_drewN | apply below_drew1 | refine below_set ?_ GE30007.out | refine below_set ?_ GE30014.out | refine below_set ?_ GE30019.out) | exact HB.out))) : w.heap.size ≤ gb30024)); have n9_ := Aside0.mk ((by rw [hg]; exact Nat.ne_of_lt (blk_lt (g := gb30007) (o := .cells #[.string t30001, .string t30002, .int .i64 t30003] 24 (0, 0)) (by (with_reducible repeat (first | refine blk_drewN ?_ _ | refine blk_drew ?_ | refine blk_alloc ?_ _)); exact BK30007.out)) : gb30007 ≠ gb30024)); have n10_ := Aside0.mk ((by rw [hg]; exact Nat.ne_of_gt (blk_lt (g := gb30007) (o := .cells #[.string t30001, .string t30002, .int .i64 t30003] 24 (0, 0)) (by (with_reducible repeat (first | refine blk_drewN ?_ _ | refine blk_drew ?_ | refine blk_alloc ?_ _)); exact BK30007.out)) : gb30024 ≠ gb30007)); have n11_ := Aside0.mk ((by rw [hg]; exact Nat.ne_of_lt (blk_lt (g := gb30014) (o := .cells #[.string t30008, .string t30009, .int .i64 t30010] 24 (0, 0)) (by (with_reducible repeat (first | refine blk_drewN ?_ _ | refine blk_drew ?_ | refine blk_alloc ?_ _)); exact BK30014.out)) : gb30014 ≠ gb30024)); have n12_ := Aside0.mk ((by rw [hg]; exact Nat.ne_of_gt (blk_lt (g := gb30014) (o := .cells #[.string t30008, .string t30009, .int .i64 t30010] 24 (0, 0)) (by (with_reducible repeat (first | refine blk_drewN ?_ _ | refine blk_drew ?_ | refine blk_alloc ?_ _)); exact BK30014.out)) : gb30024 ≠ gb30014)); have n13_ := Aside0.mk ((by rw [hg]; exact Nat.ne_of_lt (blk_lt (g := gb30019) (o := .cells #[.string t30015, .string t30016, .int .i64 t30017] 24 (0, 0)) (by (with_reducible repeat (first | refine blk_drewN ?_ _ | refine blk_drew ?_ | refine blk_alloc ?_ _)); exact BK30019.out)) : gb30019 ≠ gb30024)); have n14_ := Aside0.mk ((by rw [hg]; exact Nat.ne_of_gt (blk_lt (g := gb30019) (o := .cells #[.string t30015, .string t30016, .int .i64 t30017] 24 (0, 0)) (by (with_reducible repeat (first | refine blk_drewN ?_ _ | refine blk_drew ?_ | refine blk_alloc ?_ _)); exact BK30019.out)) : gb30024 ≠ gb30019)); clear HO30006; clear HO30013; clear BK30007; clear BK30014; clear BK30019; clear HB; have HO30006 := n0_; have HO30013 := n1_; have BK30007 := n2_; have BK30014 := n3_; have BK30019 := n4_; have HB := n5_; have BK30024 := n6_; have GW30024 := n7_; have GE30024 := n8_; have NB30007_30024 := n9_; have NB30024_30007 := n10_; have NB30014_30024 := n11_; have NB30024_30014 := n12_; have NB30019_30024 := n13_; have NB30024_30019 := n14_; clear n0_ n1_ n2_ n3_ n4_ n5_ n6_ n7_ n8_ n9_ n10_ n11_ n12_ n13_ n14_; clear hb hbox hg; have hnb550 := NB30024_30007.out; have hnc550 := NB30007_30024.out; have hnb551 := NB30024_30014.out; have hnc551 := NB30014_30024.out; have hnb552 := NB30024_30019.out; have hnc552 := NB30019_30024.out; have hcz553_0 : w549.cell? ⟨gb30024, 0, none⟩ = some (.string (⟨#[]⟩ : ByteArray)) := (blk_cell BK30024.out 0).trans rfl; have hcz553_1 : w549.cell? ⟨gb30024, 1, none⟩ = some (.string (⟨#[]⟩ : ByteArray)) := (blk_cell BK30024.out 1).trans rfl; have hcz553_2 : w549.cell? ⟨gb30024, 2, none⟩ = some (.int .i64 0) := (blk_cell BK30024.out 2).trans rfl; have hfz553_0 := blk_frozen BK30024.out 0; have hfz553_1 := blk_frozen BK30024.out 1; have hfz553_2 := blk_frozen BK30024.out 2))
    go_ret
    exact ⟨by first | rfl | (simp [errW_none, errW_some] <;> rfl) | (simp [*, errW_none, errW_some] <;> rfl), by repeat (first | (with_reducible first | exact HB.out | apply below_alloc | apply pw_below_drewN | apply below_drew1 | refine below_set ?_ GE30007.out | refine below_set ?_ GE30014.out | refine below_set ?_ GE30019.out | refine below_set ?_ GE30024.out) | exact HB.out)⟩
  ·rw [if_neg c7] at H; exact absurd H (by simp)
end Go.Proofs.Ytaepebkeijmjgaa.Z
