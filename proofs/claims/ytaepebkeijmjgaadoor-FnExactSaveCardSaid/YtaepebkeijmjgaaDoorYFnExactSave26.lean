/- Proofs that stand often: an automatic argument each. -/
import Derived.ArgAppend
import Derived.Below
import Derived.BigQuiet
import Derived.ChangeSame
import Derived.Deep.AppendLies
import Derived.Deep.AppendSrc
import Derived.Deep.CutBlock
import Derived.Deep.DeepCutAuto
import Derived.Deep.Draws
import Derived.Deep.Light
import Derived.Deep.LoopGhost
import Derived.Deep.MidRow
import Derived.Deep.OwnRows
import Derived.Deep.QuietTactic
import Derived.Deep.RegionHeld3
import Derived.Deep.RegionLaw
import Derived.Deep.Upon
import Derived.DeepKeys4
import Derived.Handy
import Derived.IntWalk
import Derived.KernelRfl
import Derived.Laws.BitsLemmas
import Derived.Laws.BytesArg
import Derived.Laws.EntriesVeiled
import Derived.Laws.Externs
import Derived.Laws.IdiomCopy
import Derived.Laws.MakeOwn
import Derived.Laws.NewBlocks
import Derived.Laws.OwnMore
import Derived.Laws.Rows
import Derived.Laws.Slices
import Derived.Laws.StructEq
import Derived.Lib.AppendStr
import Derived.Lib.BufferOwn
import Derived.Lib.BufferWrite
import Derived.Lib.Builder
import Derived.Lib.ConvBytes
import Derived.Lib.Hide
import Derived.Lib.SliceRun
import Derived.Lib.UnsafeStr
import Derived.Lib.Walk
import Derived.Maps.AppendAt
import Derived.Maps.OwnSet
import Derived.OpenShut
import Derived.OrdersHeld
import Derived.OwnWalk
import Derived.ProofKit
import Derived.RowKit
import Derived.RowKit3
import Derived.StillTailTactics
import Derived.Tactics
import Derived.WalkKit
import Derived.WalkLawsBesides
import Derived.WalkSpells
import Derived.WideLaws
namespace Go.Proofs
theorem zq_0 {P : Prop} (h : P := by repeat (first | (with_reducible first | exact HB.out | apply below_alloc | apply pw_below_drewN | apply below_drew1) | exact HB.out)) : P := h
theorem zq_1 {P : Prop} (h : P := by (try simp only [List.map_toArray, List.map_cons, List.map_nil]); first | done | rfl | (simp only [List.length_drop, List.length_take]; rfl)) : P := h
theorem zq_2 {P : Prop} (h : P := by first | (with_reducible assumption) | assumption) : P := h
theorem zq_3 {P : Prop} (h : P := by repeat (first | (with_reducible first | exact HB.out | apply below_alloc | apply pw_below_drewN | apply below_drew1 | refine below_set ?_ GE60001.out | refine below_set ?_ GE60019.out | refine below_set ?_ GE60024.out | refine below_set ?_ GE60036.out) | exact HB.out)) : P := h
theorem zq_4 {P : Prop} (h : P := by (with_reducible repeat (first | refine blk_drewN ?_ _ | refine blk_drew ?_ | refine blk_alloc ?_ _)); exact BK60001.out) : P := h
theorem zq_5 {P : Prop} (h : P := by first | rfl | (simp; done) | (simp [*]; done)) : P := h
theorem zq_6 {P : Prop} (h : P := by (with_reducible repeat (first | refine blk_drewN ?_ _ | refine blk_drew ?_ | refine blk_alloc ?_ _)); exact BK60019.out) : P := h
theorem zq_7 {P : Prop} (h : P := by (with_reducible repeat (first | refine blk_drewN ?_ _ | refine blk_drew ?_ | refine blk_alloc ?_ _)); exact BK60024.out) : P := h
theorem zq_8 {P : Prop} (h : P := by repeat (first | (with_reducible first | exact HB.out | apply below_alloc | apply pw_below_drewN | apply below_drew1 | refine below_set ?_ GE60001.out) | exact HB.out)) : P := h
theorem zq_9 {P : Prop} (h : P := by first | (go_simp; done) | (go_simp; rfl)) : P := h
theorem zq_10 {P : Prop} (h : P := by (with_reducible repeat (first | refine blk_drewN ?_ _ | refine blk_drew ?_ | refine blk_alloc ?_ _)); exact BK60036.out) : P := h
theorem zq_11 {P : Prop} (h : P := by repeat (first | exact (Kd.C_below HR0_1.out HB.out) | (with_reducible refine Kd.C_alloc ?_ _) | (with_reducible refine Kd.C_drewN ?_ _) | (with_reducible refine Kd.C_drew ?_))) : P := h
theorem zq_12 {P : Prop} (h : P := by repeat (first | (with_reducible first | exact HB.out | apply below_alloc | apply pw_below_drewN | apply below_drew1 | refine below_set ?_ GE60001.out | refine below_set ?_ GE60019.out | refine below_set ?_ GE60024.out) | exact HB.out)) : P := h
theorem zq_13 {P : Prop} (h : P := by first | (rw [add_block]; exact hn750004_0) | (show (Addr.add _ _).block ≠ _; rw [add_block]; exact hn750004_0) | exact hn750004_0) : P := h
theorem zq_14 {P : Prop} (h : P := by first | (rw [add_block]; exact hn750004_1) | (show (Addr.add _ _).block ≠ _; rw [add_block]; exact hn750004_1) | exact hn750004_1) : P := h
theorem zq_15 {P : Prop} (h : P := by (with_reducible repeat (first | apply Kd.R_alloc | apply Kd.R_drewN | apply Kd.R_drew)); exact HO60007.out) : P := h
theorem zq_16 {P : Prop} (h : P := by repeat (first | (with_reducible first | exact HB.out | apply below_alloc | apply pw_below_drewN | apply below_drew1 | refine below_set ?_ GE440001.out) | exact HB.out)) : P := h
theorem zq_17 {P : Prop} (h : P := by (with_reducible repeat (first | apply Kd.R_alloc | apply Kd.R_drewN | apply Kd.R_drew)); exact HO60010.out) : P := h
theorem zq_18 {P : Prop} (h : P := by (with_reducible repeat (first | apply Kd.R_alloc | apply Kd.R_drewN | apply Kd.R_drew)); exact HO60015.out) : P := h
theorem zq_19 {P : Prop} (h : P := by repeat (first | (with_reducible first | exact HB.out | apply below_alloc | apply pw_below_drewN | apply below_drew1 | refine below_set ?_ GE60001.out | refine below_set ?_ GE60019.out) | exact HB.out)) : P := h
theorem zq_20 {P : Prop} (h : P := by (repeat' (first | exact Below.refl _ _ | (with_reducible assumption) | (with_reducible refine Below.setCell ?_ (by first | (simp; done) | (simp; omega)) _) | refine below_then ?_ (by assumption) | (with_reducible refine below_new2 ?_ _) | (with_reducible refine Below.drew ?_) | (with_reducible refine bdrewN ?_ _)))) : P := h
theorem zq_21 {P : Prop} (h : P := by (with_reducible repeat (first | refine blk_drewN ?_ _ | refine blk_drew ?_ | refine blk_alloc ?_ _)); exact BK440001.out) : P := h
theorem zq_22 {P : Prop} (h : P := by (with_reducible repeat (first | apply Kd.R_alloc | apply Kd.R_drewN | apply Kd.R_drew)); exact HO60023.out) : P := h
theorem zq_23 {P : Prop} (h : P := by repeat (first | (with_reducible first | exact HK.out | apply Kept.alloc | apply Kept.drewN | apply Kept.drew) | exact HK.out)) : P := h
theorem zq_24 {P : Prop} (h : P := by repeat (first | (with_reducible first | exact HB.out | apply below_alloc | apply pw_below_drewN | apply below_drew1 | refine below_set ?_ GE720023.out) | exact HB.out)) : P := h
theorem zq_25 {P : Prop} (h : P := by (with_reducible repeat (first | apply Kd.R_alloc | apply Kd.R_drewN | apply Kd.R_drew)); exact HO_60020002.out) : P := h
theorem zq_26 {P : Prop} (h : P := by (with_reducible repeat (first | apply Kd.R_alloc | apply Kd.R_drewN | apply Kd.R_drew)); exact HO_60025001.out) : P := h
theorem zq_27 {P : Prop} (h : P := by (with_reducible repeat (first | apply Kd.R_alloc | apply Kd.R_drewN | apply Kd.R_drew)); exact HO_60037002.out) : P := h
theorem zq_28 {P : Prop} (h : P := by (with_reducible repeat (first | apply Kd.R_alloc | apply Kd.R_drewN | apply Kd.R_drew)); exact HO60027.out) : P := h
theorem zq_29 {P : Prop} (h : P := by (with_reducible repeat (first | apply Kd.R_alloc | apply Kd.R_drewN | apply Kd.R_drew)); exact (Kd.R_mono (Kd.R_far (p := ⟨gb60070, 5, none⟩) (Kd.R_far (p := ⟨gb60070, 4, none⟩) (Kd.R_far (p := ⟨gb60070, 3, none⟩) (Kd.R_far (p := ⟨gb60070, 2, none⟩) (Kd.R_far (p := ⟨gb60070, 1, none⟩) (Kd.R_far (p := ⟨gb60070, 0, none⟩) (Kd.R_types HO_60020002.out BK60070.out (by decide)) (fun _ hk => hk.2) (.int .i64 t60062)) (fun _ hk => hk.2) (.int .i64 t60063)) (fun _ hk => hk.2) (.slice Ao152 t60064.length co152)) (fun _ hk => hk.2) (.string t60067)) (fun _ hk => hk.2) (.string t60068)) (fun _ hk => hk.2) (.string t60069)) (fun _ h_ => h_.1))) : P := h
theorem zq_30 {P : Prop} (h : P := by (with_reducible repeat (first | apply Kd.R_alloc | apply Kd.R_drewN | apply Kd.R_drew)); exact (Kd.R_mono (Kd.R_far (p := ⟨gb60070, 5, none⟩) (Kd.R_far (p := ⟨gb60070, 4, none⟩) (Kd.R_far (p := ⟨gb60070, 3, none⟩) (Kd.R_far (p := ⟨gb60070, 2, none⟩) (Kd.R_far (p := ⟨gb60070, 1, none⟩) (Kd.R_far (p := ⟨gb60070, 0, none⟩) (Kd.R_types HO60066.out BK60070.out (by decide)) (fun _ hk => hk.2) (.int .i64 t60062)) (fun _ hk => hk.2) (.int .i64 t60063)) (fun _ hk => hk.2) (.slice Ao152 t60064.length co152)) (fun _ hk => hk.2) (.string t60067)) (fun _ hk => hk.2) (.string t60068)) (fun _ hk => hk.2) (.string t60069)) (fun _ h_ => h_.1))) : P := h
theorem zq_31 {P : Prop} (h : P := by (with_reducible repeat (first | apply Kd.R_alloc | apply Kd.R_drewN | apply Kd.R_drew)); exact (Kd.R_mono (Kd.R_far (p := ⟨gb60019, 5, none⟩) (Kd.R_far (p := ⟨gb60019, 4, none⟩) (Kd.R_far (p := ⟨gb60019, 3, none⟩) (Kd.R_far (p := ⟨gb60019, 2, none⟩) (Kd.R_far (p := ⟨gb60019, 1, none⟩) (Kd.R_far (p := ⟨gb60019, 0, none⟩) (Kd.R_types HO60007.out BK60019.out (by decide)) (fun _ hk => hk.2) (.int .i64 t60011)) (fun _ hk => hk.2) (.int .i64 t60012)) (fun _ hk => hk.2) (.slice Ao44 t60013.length co44)) (fun _ hk => hk.2) (.string t60016)) (fun _ hk => hk.2) (.string t60017)) (fun _ hk => hk.2) (.string t60018)) (fun _ h_ => h_.1))) : P := h
theorem zq_32 {P : Prop} (h : P := by (with_reducible repeat (first | apply Kd.R_alloc | apply Kd.R_drewN | apply Kd.R_drew)); exact (Kd.R_mono (Kd.R_far (p := ⟨gb60019, 5, none⟩) (Kd.R_far (p := ⟨gb60019, 4, none⟩) (Kd.R_far (p := ⟨gb60019, 3, none⟩) (Kd.R_far (p := ⟨gb60019, 2, none⟩) (Kd.R_far (p := ⟨gb60019, 1, none⟩) (Kd.R_far (p := ⟨gb60019, 0, none⟩) (Kd.R_types HO60015.out BK60019.out (by decide)) (fun _ hk => hk.2) (.int .i64 t60011)) (fun _ hk => hk.2) (.int .i64 t60012)) (fun _ hk => hk.2) (.slice Ao44 t60013.length co44)) (fun _ hk => hk.2) (.string t60016)) (fun _ hk => hk.2) (.string t60017)) (fun _ hk => hk.2) (.string t60018)) (fun _ h_ => h_.1))) : P := h
theorem zq_33 {P : Prop} (h : P := by (with_reducible repeat (first | apply Kd.R_alloc | apply Kd.R_drewN | apply Kd.R_drew)); exact (Kd.R_mono (Kd.R_far (p := ⟨gb60036, 5, none⟩) (Kd.R_far (p := ⟨gb60036, 4, none⟩) (Kd.R_far (p := ⟨gb60036, 3, none⟩) (Kd.R_far (p := ⟨gb60036, 2, none⟩) (Kd.R_far (p := ⟨gb60036, 1, none⟩) (Kd.R_far (p := ⟨gb60036, 0, none⟩) (Kd.R_types HO60032.out BK60036.out (by decide)) (fun _ hk => hk.2) (.int .i64 t60028)) (fun _ hk => hk.2) (.int .i64 t60029)) (fun _ hk => hk.2) (.slice Ao61 t60030.length co61)) (fun _ hk => hk.2) (.string t60033)) (fun _ hk => hk.2) (.string t60034)) (fun _ hk => hk.2) (.string t60035)) (fun _ h_ => h_.1))) : P := h
theorem zq_34 {P : Prop} (h : P := by (with_reducible repeat (first | apply Kd.R_alloc | apply Kd.R_drewN | apply Kd.R_drew)); exact (Kd.R_mono (Kd.R_far (p := ⟨gb60036, 5, none⟩) (Kd.R_far (p := ⟨gb60036, 4, none⟩) (Kd.R_far (p := ⟨gb60036, 3, none⟩) (Kd.R_far (p := ⟨gb60036, 2, none⟩) (Kd.R_far (p := ⟨gb60036, 1, none⟩) (Kd.R_far (p := ⟨gb60036, 0, none⟩) (Kd.R_types HO60015.out BK60036.out (by decide)) (fun _ hk => hk.2) (.int .i64 t60028)) (fun _ hk => hk.2) (.int .i64 t60029)) (fun _ hk => hk.2) (.slice Ao61 t60030.length co61)) (fun _ hk => hk.2) (.string t60033)) (fun _ hk => hk.2) (.string t60034)) (fun _ hk => hk.2) (.string t60035)) (fun _ h_ => h_.1))) : P := h
theorem zq_35 {P : Prop} (h : P := by repeat (first | exact (Kd.C_below HR1.out HB.out) | (with_reducible refine Kd.C_alloc ?_ _) | (with_reducible refine Kd.C_drewN ?_ _) | (with_reducible refine Kd.C_drew ?_))) : P := h
theorem zq_36 {P : Prop} (h : P := by repeat (first | (with_reducible first | exact HB.out | apply below_alloc | apply pw_below_drewN | apply below_drew1 | refine below_set ?_ GE490001.out) | exact HB.out)) : P := h
theorem zq_37 {P : Prop} (h : P := by first | (simp; done) | (simp; omega)) : P := h
theorem zq_38 {P : Prop} (h : P := by (with_reducible repeat (first | apply Kd.R_alloc | apply Kd.R_drewN | apply Kd.R_drew)); exact HO60032.out) : P := h
theorem zq_39 {P : Prop} (h : P := by repeat (first | (with_reducible first | exact HB.out | apply below_alloc | apply pw_below_drewN | apply below_drew1 | refine below_set ?_ GE710001.out | refine below_set ?_ GE710002.out) | exact HB.out)) : P := h
theorem zq_40 {P : Prop} (h : P := by (with_reducible repeat (first | apply RB.alloc | apply RB.drewN | apply RB.drew | apply Kd.R_alloc | apply Kd.R_drewN | apply Kd.R_drew)); exact HO_3.out) : P := h
theorem zq_41 {P : Prop} (h : P := by (with_reducible repeat (first | apply Kd.R_alloc | apply Kd.R_drewN | apply Kd.R_drew)); exact HO_9.out) : P := h
theorem zq_42 {P : Prop} (h : P := by (with_reducible repeat (first | refine blk_drewN ?_ _ | refine blk_drew ?_ | refine blk_alloc ?_ _)); exact BK160001.out) : P := h
theorem zq_43 {P : Prop} (h : P := by (with_reducible repeat (first | refine blk_drewN ?_ _ | refine blk_drew ?_ | refine blk_alloc ?_ _)); exact BK740001.out) : P := h
theorem zq_44 {P : Prop} (h : P := by repeat (first | (with_reducible first | exact HB.out | apply below_alloc | apply pw_below_drewN | apply below_drew1 | refine below_set ?_ GE60001.out | refine below_set ?_ GE60019.out | refine below_set ?_ GE60024.out | refine below_set ?_ GE60036.out) | exact HB.out)) : P := h
theorem zq_45 {P : Prop} (h : P := by repeat (first | (with_reducible first | exact HB.out | apply below_alloc | apply pw_below_drewN | apply below_drew1 | refine below_set ?_ GE160001.out | refine below_set ?_ GE160002.out | refine below_set ?_ GE160003.out) | exact HB.out)) : P := h
theorem zq_46 {P : Prop} (h : P := by (with_reducible repeat (first | refine blk_drewN ?_ _ | refine blk_drew ?_ | refine blk_alloc ?_ _)); exact BK710001.out) : P := h
theorem zq_47 {P : Prop} (h : P := by (with_reducible repeat (first | apply Kd.R_alloc | apply Kd.R_drewN | apply Kd.R_drew)); exact HO60058.out) : P := h
theorem zq_48 {P : Prop} (h : P := by repeat (first | (with_reducible first | exact HB.out | apply below_alloc | apply pw_below_drewN | apply below_drew1 | refine below_set ?_ GE160001.out | refine below_set ?_ GE160002.out) | exact HB.out)) : P := h
theorem zq_49 {P : Prop} (h : P := by repeat (first | (with_reducible first | exact HB.out | apply below_alloc | apply pw_below_drewN | apply below_drew1 | refine below_set ?_ GE740001.out | refine below_set ?_ GE740002.out) | exact HB.out)) : P := h
theorem zq_50 {P : Prop} (h : P := by (with_reducible repeat (first | apply Kd.R_alloc | apply Kd.R_drewN | apply Kd.R_drew)); exact HO_3.out) : P := h
theorem zq_51 {P : Prop} (h : P := by (with_reducible repeat (first | apply Kd.R_alloc | apply Kd.R_drewN | apply Kd.R_drew)); exact HO_0.out) : P := h
theorem zq_52 {P : Prop} (h : P := by (with_reducible repeat (first | refine blk_drewN ?_ _ | refine blk_drew ?_ | refine blk_alloc ?_ _)); exact BK720023.out) : P := h
theorem zq_53 {P : Prop} (h : P := by (with_reducible repeat (first | refine blk_drewN ?_ _ | refine blk_drew ?_ | refine blk_alloc ?_ _)); exact BK250001.out) : P := h
theorem zq_54 {P : Prop} (h : P := by (with_reducible repeat (first | apply Kd.R_alloc | apply Kd.R_drewN | apply Kd.R_drew)); exact (Kd.R_mono (Kd.R_far (p := ⟨gb60024, 1, none⟩) (Kd.R_far (p := ⟨gb60024, 0, none⟩) (Kd.R_types HO60010.out BK60024.out (by decide)) (fun _ hk => hk.2) (.int .i64 t60020)) (fun _ hk => hk.2) (.slice Ao51 t60021.length co51)) (fun _ h_ => h_.1))) : P := h
theorem zq_55 {P : Prop} (h : P := by repeat (first | (with_reducible first | exact HB.out | apply below_alloc | apply pw_below_drewN | apply below_drew1 | refine below_set ?_ GE1260001.out) | exact HB.out)) : P := h
theorem zq_56 {P : Prop} (h : P := by repeat (first | (with_reducible first | exact HB.out | apply below_alloc | apply pw_below_drewN | apply below_drew1 | refine below_set ?_ GE160001.out) | exact HB.out)) : P := h
theorem zq_57 {P : Prop} (h : P := by repeat (first | (with_reducible first | exact HB.out | apply below_alloc | apply pw_below_drewN | apply below_drew1 | refine below_set ?_ GE180001.out) | exact HB.out)) : P := h
theorem zq_58 {P : Prop} (h : P := by repeat (first | (with_reducible first | exact HB.out | apply below_alloc | apply pw_below_drewN | apply below_drew1 | refine below_set ?_ GE710001.out) | exact HB.out)) : P := h
theorem zq_59 {P : Prop} (h : P := by repeat (first | (with_reducible first | exact HB.out | apply below_alloc | apply pw_below_drewN | apply below_drew1 | refine below_set ?_ GE250001.out) | exact HB.out)) : P := h
theorem zq_60 {P : Prop} (h : P := by repeat (first | (with_reducible first | exact HB.out | apply below_alloc | apply pw_below_drewN | apply below_drew1 | refine below_set ?_ GE740001.out) | exact HB.out)) : P := h
theorem zq_61 {P : Prop} (h : P := by (with_reducible repeat (first | apply RB.alloc | apply RB.drewN | apply RB.drew | apply Kd.R_alloc | apply Kd.R_drewN | apply Kd.R_drew)); exact HO950003.out) : P := h
theorem zq_62 {P : Prop} (h : P := by (with_reducible repeat (first | apply Kd.R_alloc | apply Kd.R_drewN | apply Kd.R_drew)); exact HO60041.out) : P := h
theorem zq_63 {P : Prop} (h : P := by repeat (first | (with_reducible first | exact HB.out | apply below_alloc | apply pw_below_drewN | apply below_drew1 | refine below_set ?_ GE60001.out | refine below_set ?_ GE60019.out | refine below_set ?_ GE60024.out | refine below_set ?_ GE60036.out | refine below_set ?_ GE60070.out) | exact HB.out)) : P := h
theorem zq_64 {P : Prop} (h : P := by (with_reducible repeat (first | apply RB.alloc | apply RB.drewN | apply RB.drew | apply Kd.R_alloc | apply Kd.R_drewN | apply Kd.R_drew)); exact HO_4.out) : P := h
theorem zq_65 {P : Prop} (h : P := by (with_reducible repeat (first | apply RB.alloc | apply RB.drewN | apply RB.drew | apply Kd.R_alloc | apply Kd.R_drewN | apply Kd.R_drew)); exact HO_7.out) : P := h
theorem zq_66 {P : Prop} (h : P := by (with_reducible repeat (first | refine blk_drewN ?_ _ | refine blk_drew ?_ | refine blk_alloc ?_ _)); exact BK1260001.out) : P := h
theorem zq_67 {P : Prop} (h : P := by (with_reducible repeat (first | refine blk_drewN ?_ _ | refine blk_drew ?_ | refine blk_alloc ?_ _)); exact BK490001.out) : P := h
theorem zq_68 {P : Prop} (h : P := by (with_reducible repeat (first | refine blk_drewN ?_ _ | refine blk_drew ?_ | refine blk_alloc ?_ _)); exact BK160002.out) : P := h
theorem zq_69 {P : Prop} (h : P := by (with_reducible repeat (first | refine blk_drewN ?_ _ | refine blk_drew ?_ | refine blk_alloc ?_ _)); exact BK180001.out) : P := h
theorem zq_70 {P : Prop} (h : P := by (with_reducible repeat (first | refine blk_drewN ?_ _ | refine blk_drew ?_ | refine blk_alloc ?_ _)); exact BK740002.out) : P := h
theorem zq_71 {P : Prop} (h : P := by (try simp only [List.map_toArray, List.map_cons, List.map_nil]); first | done | (rw [show t60053.length = t60030.length from (Kd.R_reads' HO_60037002.out).1.symm] <;> rfl) | rfl | (simp only [List.length_drop, List.length_take]; rfl)) : P := h
end Go.Proofs
