/- Proofs that stand often: an automatic argument each. -/
import Derived.ArgAppend
import Derived.Below
import Derived.BigQuiet
import Derived.ChangeSame
import Derived.Deep.AppendLies
import Derived.Deep.AppendSrc
import Derived.Deep.CutBlock
import Derived.Deep.DeepCutAuto
import Derived.Deep.Draws
import Derived.Deep.Light
import Derived.Deep.LoopGhost
import Derived.Deep.MidRow
import Derived.Deep.OwnRows
import Derived.Deep.QuietTactic
import Derived.Deep.RegionHeld3
import Derived.Deep.Upon
import Derived.Handy
import Derived.IntWalk
import Derived.KernelRfl
import Derived.Laws.BitsLemmas
import Derived.Laws.BytesArg
import Derived.Laws.EntriesVeiled
import Derived.Laws.Externs
import Derived.Laws.IdiomCopy
import Derived.Laws.MakeOwn
import Derived.Laws.NewBlocks
import Derived.Laws.OwnMore
import Derived.Laws.Rows
import Derived.Laws.Slices
import Derived.Laws.StructEq
import Derived.Lib.AppendStr
import Derived.Lib.BufferOwn
import Derived.Lib.BufferWrite
import Derived.Lib.Builder
import Derived.Lib.ConvBytes
import Derived.Lib.Hide
import Derived.Lib.UnsafeStr
import Derived.Lib.Walk
import Derived.Maps.AppendAt
import Derived.OpenShut
import Derived.OrdersHeld
import Derived.OwnWalk
import Derived.ProofKit
import Derived.RowKit
import Derived.RowKit3
import Derived.StillTailTactics
import Derived.Tactics
import Derived.WalkKit
import Derived.WalkLawsBesides
import Derived.WalkSpells
import Derived.WideLaws
namespace Go.Proofs
theorem zq_0 {P : Prop} (h : P := by repeat (first | (with_reducible first | exact HB.out | apply below_alloc | apply pw_below_drewN | apply below_drew1) | exact HB.out)) : P := h
theorem zq_1 {P : Prop} (h : P := by (try simp only [List.map_toArray, List.map_cons, List.map_nil]); first | done | rfl | (simp only [List.length_drop, List.length_take]; rfl)) : P := h
theorem zq_2 {P : Prop} (h : P := by first | (with_reducible assumption) | assumption) : P := h
theorem zq_3 {P : Prop} (h : P := by first | exact (Kd.F_in (Kd.V_F HO_0.out) rfl (by have u1_ := of_decide_eq_true c30b0; have u2_ := of_decide_eq_true c31b0; omega) (by decide)).2 | (rw [add_block]; exact (Kd.F_in (Kd.V_F HO_0.out) rfl (by have u1_ := of_decide_eq_true c30b0; have u2_ := of_decide_eq_true c31b0; omega) (by decide)).2) | (show (Addr.add _ _).block ≠ _; rw [add_block]; exact (Kd.F_in (Kd.V_F HO_0.out) rfl (by have u1_ := of_decide_eq_true c30b0; have u2_ := of_decide_eq_true c31b0; omega) (by decide)).2) | (dsimp only; exact (Kd.F_in (Kd.V_F HO_0.out) rfl (by have u1_ := of_decide_eq_true c30b0; have u2_ := of_decide_eq_true c31b0; omega) (by decide)).2)) : P := h
theorem zq_4 {P : Prop} (h : P := by first | rfl | (simp; done) | (simp [*]; done)) : P := h
theorem zq_5 {P : Prop} (h : P := by repeat (first | exact HR0.out | (with_reducible refine Kd.C_alloc ?_ _) | (with_reducible refine Kd.C_drewN ?_ _) | (with_reducible refine Kd.C_drew ?_))) : P := h
theorem zq_6 {P : Prop} (h : P := by (with_reducible repeat (first | apply Kd.R_alloc | apply Kd.R_drewN | apply Kd.R_drew)); exact HO_7.out) : P := h
theorem zq_7 {P : Prop} (h : P := by repeat (first | (with_reducible first | exact HB.out | apply below_alloc | apply pw_below_drewN | apply below_drew1 | refine below_set ?_ GE890021.out) | exact HB.out)) : P := h
theorem zq_8 {P : Prop} (h : P := by repeat (first | exact (Kd.C_below HR0.out HB.out) | (with_reducible refine Kd.C_alloc ?_ _) | (with_reducible refine Kd.C_drewN ?_ _) | (with_reducible refine Kd.C_drew ?_))) : P := h
theorem zq_9 {P : Prop} (h : P := by (with_reducible repeat (first | apply Kd.V_alloc | apply Kd.V_drewN | apply Kd.V_drew)); exact HO_0.out) : P := h
theorem zq_10 {P : Prop} (h : P := by (with_reducible repeat (first | refine blk_drewN ?_ _ | refine blk_drew ?_ | refine blk_alloc ?_ _)); exact BK890021.out) : P := h
theorem zq_11 {P : Prop} (h : P := by repeat (first | exact (Kd.C_below HR1.out HB.out) | (with_reducible refine Kd.C_alloc ?_ _) | (with_reducible refine Kd.C_drewN ?_ _) | (with_reducible refine Kd.C_drew ?_))) : P := h
theorem zq_12 {P : Prop} (h : P := by first | (rw [add_block]; exact hn750004_0) | (show (Addr.add _ _).block ≠ _; rw [add_block]; exact hn750004_0) | exact hn750004_0) : P := h
theorem zq_13 {P : Prop} (h : P := by first | (rw [add_block]; exact hn750004_1) | (show (Addr.add _ _).block ≠ _; rw [add_block]; exact hn750004_1) | exact hn750004_1) : P := h
theorem zq_14 {P : Prop} (h : P := by first | (go_simp; done) | (go_simp; rfl)) : P := h
theorem zq_15 {P : Prop} (h : P := by (with_reducible repeat (first | apply Kd.V_alloc | apply Kd.V_drewN | apply Kd.V_drew)); exact HO890013.out) : P := h
theorem zq_16 {P : Prop} (h : P := by (with_reducible repeat (first | apply Kd.V_alloc | apply Kd.V_drewN | apply Kd.V_drew)); exact HO890019.out) : P := h
theorem zq_17 {P : Prop} (h : P := by repeat (first | (with_reducible first | exact HB.out | apply below_alloc | apply pw_below_drewN | apply below_drew1 | refine below_set ?_ GE720023.out) | exact HB.out)) : P := h
theorem zq_18 {P : Prop} (h : P := by repeat (first | exact (Kd.C_below HR0.out zq_0) | (with_reducible refine Kd.C_alloc ?_ _) | (with_reducible refine Kd.C_drewN ?_ _) | (with_reducible refine Kd.C_drew ?_))) : P := h
theorem zq_19 {P : Prop} (h : P := by first | (simp; done) | (simp; omega)) : P := h
theorem zq_20 {P : Prop} (h : P := by (with_reducible repeat (first | apply Kd.R_alloc | apply Kd.R_drewN | apply Kd.R_drew)); exact HO_8.out) : P := h
theorem zq_21 {P : Prop} (h : P := by repeat (first | exact (Kd.V_reads' HO_3.out).2.2 | (with_reducible refine Kd.C_alloc ?_ _) | (with_reducible refine Kd.C_drewN ?_ _) | (with_reducible refine Kd.C_drew ?_))) : P := h
theorem zq_22 {P : Prop} (h : P := by repeat (first | exact (Kd.V_reads' HO_4.out).2.2 | (with_reducible refine Kd.C_alloc ?_ _) | (with_reducible refine Kd.C_drewN ?_ _) | (with_reducible refine Kd.C_drew ?_))) : P := h
theorem zq_23 {P : Prop} (h : P := by (with_reducible repeat (first | apply RB.alloc | apply RB.drewN | apply RB.drew | apply Kd.R_alloc | apply Kd.R_drewN | apply Kd.R_drew)); exact HO_3.out) : P := h
theorem zq_24 {P : Prop} (h : P := by (with_reducible repeat (first | apply Kd.R_alloc | apply Kd.R_drewN | apply Kd.R_drew)); exact HO_5.out) : P := h
theorem zq_25 {P : Prop} (h : P := by (with_reducible repeat (first | apply Kd.R_alloc | apply Kd.R_drewN | apply Kd.R_drew)); exact HO_9.out) : P := h
theorem zq_26 {P : Prop} (h : P := by (with_reducible repeat (first | apply Kd.V_alloc | apply Kd.V_drewN | apply Kd.V_drew)); exact HO_3.out) : P := h
theorem zq_27 {P : Prop} (h : P := by (with_reducible repeat (first | apply Kd.V_alloc | apply Kd.V_drewN | apply Kd.V_drew)); exact HO_4.out) : P := h
theorem zq_28 {P : Prop} (h : P := by (repeat' (first | exact Below.refl _ _ | (with_reducible assumption) | (with_reducible refine Below.setCell ?_ zq_19 _) | refine below_then ?_ (by assumption) | (with_reducible refine below_new2 ?_ _) | (with_reducible refine Below.drew ?_) | (with_reducible refine bdrewN ?_ _)))) : P := h
theorem zq_29 {P : Prop} (h : P := by (with_reducible repeat (first | apply Kd.V_alloc | apply Kd.V_drewN | apply Kd.V_drew)); exact HO70003.out) : P := h
theorem zq_30 {P : Prop} (h : P := by (with_reducible repeat (first | apply Kd.V_alloc | apply Kd.V_drewN | apply Kd.V_drew)); exact HO70006.out) : P := h
theorem zq_31 {P : Prop} (h : P := by (with_reducible repeat (first | apply Kd.V_alloc | apply Kd.V_drewN | apply Kd.V_drew)); exact HO_2.out) : P := h
theorem zq_32 {P : Prop} (h : P := by (try simp only [List.map_toArray, List.map_cons, List.map_nil]); first | done | (simp only [hji8]; rfl) | rfl | (simp only [List.length_drop, List.length_take]; rfl)) : P := h
theorem zq_33 {P : Prop} (h : P := by rw [List.length_append, List.length_singleton]; omega) : P := h
theorem zq_34 {P : Prop} (h : P := by (with_reducible repeat (first | apply Kd.R_alloc | apply Kd.R_drewN | apply Kd.R_drew)); exact Kd.R_mono HO_7.out (fun _ hk => ⟨trivial, hk⟩)) : P := h
theorem zq_35 {P : Prop} (h : P := by (with_reducible repeat (first | apply Kd.V_alloc | apply Kd.V_drewN | apply Kd.V_drew)); exact HO70010.out) : P := h
theorem zq_36 {P : Prop} (h : P := by (with_reducible repeat (first | apply Kd.V_alloc | apply Kd.V_drewN | apply Kd.V_drew)); exact HO70013.out) : P := h
theorem zq_37 {P : Prop} (h : P := by (with_reducible repeat (first | refine blk_drewN ?_ _ | refine blk_drew ?_ | refine blk_alloc ?_ _)); exact BK720023.out) : P := h
theorem zq_38 {P : Prop} (h : P := by repeat (first | exact (Kd.V_reads' HO890019.out).2.2 | (with_reducible refine Kd.C_alloc ?_ _) | (with_reducible refine Kd.C_drewN ?_ _) | (with_reducible refine Kd.C_drew ?_))) : P := h
theorem zq_39 {P : Prop} (h : P := by repeat (first | exact (Kd.V_reads' HO70010.out).2.2 | (with_reducible refine Kd.C_alloc ?_ _) | (with_reducible refine Kd.C_drewN ?_ _) | (with_reducible refine Kd.C_drew ?_))) : P := h
theorem zq_40 {P : Prop} (h : P := by repeat (first | (with_reducible first | exact HB.out | apply below_alloc | apply pw_below_drewN | apply below_drew1 | refine below_set ?_ GE1260001.out) | exact HB.out)) : P := h
theorem zq_41 {P : Prop} (h : P := by (with_reducible repeat (first | apply RB.alloc | apply RB.drewN | apply RB.drew | apply Kd.R_alloc | apply Kd.R_drewN | apply Kd.R_drew)); exact HO950003.out) : P := h
theorem zq_42 {P : Prop} (h : P := by (with_reducible repeat (first | apply RB.alloc | apply RB.drewN | apply RB.drew | apply Kd.R_alloc | apply Kd.R_drewN | apply Kd.R_drew)); exact HO_4.out) : P := h
theorem zq_43 {P : Prop} (h : P := by (with_reducible repeat (first | apply RB.alloc | apply RB.drewN | apply RB.drew | apply Kd.R_alloc | apply Kd.R_drewN | apply Kd.R_drew)); exact HO_7.out) : P := h
theorem zq_44 {P : Prop} (h : P := by simp only [results, Tryd.results33]; go_simp; try rfl) : P := h
theorem zq_45 {P : Prop} (h : P := by (with_reducible repeat (first | refine blk_drewN ?_ _ | refine blk_drew ?_ | refine blk_alloc ?_ _)); exact BK1260001.out) : P := h
end Go.Proofs
