/- Own texts, joined. -/
import Derived.Test.YtaepebkeijmjgaaDoorYFnExactSave26
import Derived.Test.YtaepebkeijmjgaaDoorYFnExactSave21
import Derived.Lib.Builder
import Derived.Lib.AppendStr
import Derived.Lib.UnsafeStr
import Derived.Lib.Walk
import Derived.Laws.Externs
import Derived.StillTailTactics
import Derived.Deep.RegionHeld3
import Derived.Lib.SliceRun
import Derived.Maps.OwnSet
import Derived.DeepKeys4
import Derived.Lib.BufferOwn
import Derived.Lib.BufferWrite
import Derived.Test.YtaepebkeijmjgaaDoorRows
import Derived.Deep.MidRow
import Derived.Laws.EntriesVeiled
section
namespace Go.Proofs.YtaepebkeijmjgaaDoor.Z
open RowKit YtaepebkeijmjgaaDoor YtaepebkeijmjgaaDoorW.PrintWords YtaepebkeijmjgaaDoorW.PrintLast
set_option linter.all false
set_option maxRecDepth 100000
theorem part_u8 (l : List Int) (i : Nat) (hi : i < l.length) (w : World) : (Go.part 5 (l.map (Value.int .u8)).toArray (i * 1)).run Tryd.prog w = .ok (.int .u8 (rdN l i)) w := by
 have hA : ∀ w : World, (Go.isAgg 5).run Tryd.prog w = .ok false w := fun _ => by kernel_rfl
 unfold Go.part; simp only [Sem.run_bind, hA, Result.andThen_ok, Bool.false_eq_true, if_false, Nat.mul_one]; have : ((l.map (Value.int .u8)).toArray)[i]? = some (.int .u8 (rdN l i)) := by simp [rdN, List.getD_eq_getElem?_getD, hi]
 rw [this]; rfl
theorem eq_loop (l m : List Int) (hl : l.length = 32) (hm : m.length = 32) (w : World) : ∀ (k j : Nat), j + k = 32 →
  (forIn (List.range' j k) ((none, ()) : Option Bool × Unit) (fun i _ => (do
   let a ← Go.part 5 (l.map (Value.int .u8)).toArray (i * 1)
   let b ← Go.part 5 (m.map (Value.int .u8)).toArray (i * 1)
   let c ← Op.equalIn 9999 5 a b
   if (!c) = true then pure (ForInStep.done (some false, ())) else pure (ForInStep.yield (none, ())) : Sem (ForInStep (Option Bool × Unit))))).run Tryd.prog w = .ok (if l.drop j = m.drop j then (none, ()) else (some false, ())) w := by
 intro k
 induction k with
 | zero =>
  intro j hj; rw [List.drop_eq_nil_of_le (by omega), List.drop_eq_nil_of_le (by omega)]; simp
 | succ k ih =>
  intro j hj; have e1 : l.drop j = rdN l j :: l.drop (j + 1) := by
   rw [List.drop_eq_getElem_cons (by omega)]; simp [rdN, List.getD_eq_getElem?_getD, show j < l.length by omega]
  have e2 : m.drop j = rdN m j :: m.drop (j + 1) := by
   rw [List.drop_eq_getElem_cons (by omega)]; simp [rdN, List.getD_eq_getElem?_getD, show j < m.length by omega]
  have h := ih (j + 1) (by omega); rw [List.range'_succ, List.forIn_cons]; simp only [Sem.run_bind]; rw [part_u8 l j (by omega), e1, e2]; simp only [Result.andThen_ok]; rw [part_u8 m j (by omega)]; simp only [Result.andThen_ok]; rw [show (9999 : Nat) = 9998 + 1 from rfl, run_equalIn_int w 9998 5 .u8 .u8 _ _ Tryd.underlying5]; simp only [Result.andThen_ok]
  by_cases hc : rdN l j = rdN m j
  ·rw [hc, beq_self_eq_true]; simp only [Bool.not_true, Bool.false_eq_true, if_false, Sem.run_pure, Result.andThen_ok, List.cons.injEq, true_and]; exact h
  ·rw [beq_eq_false_iff_ne.2 hc]; simp [hc]
theorem eq_arr (l m : List Int) (hl : l.length = 32) (hm : m.length = 32) (w : World) :
  (Op.equalIn 10000 133 (hashV l) (hashV m)).run Tryd.prog w = .ok (decide (l = m)) w := by
 have hT : Tryd.prog.underlying 133 = some (.array 32 5) := by kernel_rfl
 have hs : ∀ w : World, (sizeOf 5).run Tryd.prog w = .ok 1 w := fun _ => by kernel_rfl
 unfold hashV; show (Op.equalIn (9999 + 1) 133 _ _).run Tryd.prog w = _; unfold Op.equalIn; simp only [Sem.run_bind, run_underlying hT, Result.andThen_ok, hs]; rw [Std.Legacy.Range.forIn_eq_forIn_range']; have h := eq_loop l m hl hm w 32 0 rfl; refine (congrArg (fun r => Result.andThen r _) h).trans ?_; simp only [Result.andThen_ok, List.drop_zero]
 by_cases hc : l = m
 ·simp [hc]
 ·simp [hc]
theorem run_neq_hash (l m : List Int) (hl : l.length = 32) (hm : m.length = 32) (w : World) :
  (binOp .neq 133 (hashV l) (hashV m)).run Tryd.prog w = .ok (.bool (!decide (l = m))) w := by
 unfold hashV; rw [run_neq_struct]; have h := eq_arr l m hl hm w; unfold hashV at h; rw [h]; rfl
theorem strOfNums_take (l : List Int) (n : Nat) : strOfNums (l.take n) = (strOfNums l).extract 0 n := by
 apply ByteArray.ext
 unfold strOfNums; simp [ByteArray.data_extract]
set_option maxHeartbeats 1000000 in
set_option maxRecDepth 10000 in
theorem text_h (l : List Int) (hl : l.length = 32) (n : Int) (w : World) (h0 : 1 ≤ n) (h1 : n ≤ 32) :
  Calls Tryd.prog 161 #[hashV l, .int .i64 n] w fun e w' => e = .returned (.string ((strOfNums l).extract 0 n.toNat)) ∧ Below w.heap.size w w' := by
 obtain ⟨n, rfl⟩ := Int.eq_ofNat_of_zero_le (show 0 ≤ n by omega); rw [Int.toNat_natCast]; have h1' : 1 ≤ n := by omega
 have h2' : n ≤ 32 := by omega
 have hcv : (convert 51 9 (.slice (some ⟨w.heap.size, 0, none⟩) n 32)).run Tryd.prog (w.alloc (.cells (l.map (Value.int .u8)).toArray 133)) = .ok (.string ((strOfNums l).extract 0 n)) (w.alloc (.cells (l.map (Value.int .u8)).toArray 133)) := by
  rw [← strOfNums_take]; refine run_convert_bytes_arg (P := Tryd.prog) _ 51 5 Tryd.underlying51 Tryd.underlying5 w.heap.size 0 n 32 (l.take n) (by simp; omega) (fun i hi => ?_) 9 Tryd.underlying9; rw [Nat.zero_add, cell_of_row _ _ _ _ _ _ (heap_alloc_new _ _)]; simp [List.getD_eq_getElem?_getD, List.getElem?_take, hl, hi, show i < 32 by omega]
 have HCV := Lib.hid hcv; clear hcv; have HL := Lib.hid hl; clear hl; unfold hashV
 go_enter Tryd.func161, Tryd.ntmps161
 go_wp2_with ((with_reducible refine gate_dst (N := 7) rfl ?_); refine wpList_convert rfl 51 9 _ rfl rfl HCV.out ?_)
 go_ret
 exact ⟨rfl, by (repeat' (first | exact Below.refl _ _ | (with_reducible assumption) | (with_reducible refine Below.setCell ?_ zq_37 _) | refine below_then ?_ (by assumption) | (with_reducible refine below_new2 ?_ _) | (with_reducible refine Below.drew ?_) | (with_reducible refine bdrewN ?_ _)))⟩
def widB (x : Int) : Bool := decide (1 ≤ x ∧ x ≤ 32)
theorem isWidth_any (x : Int) (w : World) : Calls Tryd.prog 93 #[.int .i64 x] w fun e w' => e = .returned (.bool (widB x)) ∧ w = w' := by
 go_enter Tryd.func93, Tryd.ntmps93
 go_wp2
 all_goals
  go_ret
  refine ⟨ret_bool ?_, rfl⟩; unfold widB
  grind
theorem hash_str (l : List Int) (hl : l.length = 32) (g : Nat) (W : World) (hg : W.heap[g]? = some (.cells (l.map (Value.int .u8)).toArray 133 (0, 0))) :
  (convert 51 9 (.slice (some ⟨g, 0, none⟩) 32 32)).run Tryd.prog W = .ok (.string (strOfNums l)) W := by
 refine run_convert_bytes_arg (P := Tryd.prog) _ 51 5 Tryd.underlying51 Tryd.underlying5 g 0 32 32 l (by omega) (fun i hi => ?_) 9 Tryd.underlying9; rw [Nat.zero_add, cell_of_row _ _ _ _ _ _ hg]; simp [List.getD_eq_getElem?_getD, hl, show i < 32 by omega]
def aboveB (x y : List Int) (a b : ByteArray) : Bool := if x = y then Op.bytesLess a.toList b.toList else (!Op.bytesLess (strOfNums x).toList (strOfNums y).toList && !((strOfNums x).toList == (strOfNums y).toList))
set_option maxHeartbeats 1000000 in
set_option maxRecDepth 10000 in
theorem above_any (x y : List Int) (hx : x.length = 32) (hy : y.length = 32) (a b : ByteArray) (w : World) :
  Calls Tryd.prog 129 #[hashV x, .string a, hashV y, .string b] w fun e w' => e = .returned (.bool (aboveB x y a b)) ∧ Below w.heap.size w w' := by
 have hne := fun w => run_neq_hash x y hx hy w
 have hA : ((w.alloc (.cells (x.map (Value.int .u8)).toArray 133)).alloc (.cells (y.map (Value.int .u8)).toArray 133)).heap[w.heap.size]? = some (.cells (x.map (Value.int .u8)).toArray 133 (0, 0)) := heap_alloc2_old _ _ _; have hB : ((w.alloc (.cells (x.map (Value.int .u8)).toArray 133)).alloc (.cells (y.map (Value.int .u8)).toArray 133)).heap[w.heap.size + 1]? = some (.cells (y.map (Value.int .u8)).toArray 133 (0, 0)) := heap_alloc2_new _ _ _; have hi : (Tryd.prog.info? 133).map (·.size) = some ((x.map (Value.int .u8)).toArray.size) := by
  rw [show ((x.map (Value.int .u8)).toArray.size) = 32 by simp [hx]]; kernel_rfl
 have hj : (Tryd.prog.info? 133).map (·.size) = some ((y.map (Value.int .u8)).toArray.size) := by
  rw [show ((y.map (Value.int .u8)).toArray.size) = 32 by simp [hy]]; kernel_rfl
 have HA := Lib.hid hA; have HB := Lib.hid hB; have HI := Lib.hid hi; have HJ := Lib.hid hj; have HX := Lib.hid hx; have HY := Lib.hid hy; clear hA hB hi hj hx hy; unfold hashV at *
 by_cases hxy : x = y
 ·have hd : decide (x = y) = true := decide_eq_true hxy; have HD : Hid (aboveB x y a b = Op.bytesLess a.toList b.toList) := Lib.hid (by unfold aboveB; rw [if_pos hxy]); clear hxy
  go_enter Tryd.func129, Tryd.ntmps129
  go_wp2_with (first | ((with_reducible refine gate_dst (N := 9) rfl ?_); refine wpList_load_row rfl 133 _ rfl w.heap.size rfl _ _ _ _ HA.out Tryd.underlying133 rfl HI.out ?_) | ((with_reducible refine gate_dst (N := 10) rfl ?_); refine wpList_load_row rfl 133 _ rfl (w.heap.size + 1) rfl _ _ _ _ HB.out Tryd.underlying133 rfl HJ.out ?_))
  go_ret
  exact ⟨by rw [HD.out]; rfl, by (repeat' (first | exact Below.refl _ _ | (with_reducible assumption) | (with_reducible refine Below.setCell ?_ zq_37 _) | refine below_then ?_ (by assumption) | (with_reducible refine below_new2 ?_ _) | (with_reducible refine Below.drew ?_) | (with_reducible refine bdrewN ?_ _)))⟩
 ·have hd : decide (x = y) = false := decide_eq_false hxy; have HD : Hid (aboveB x y a b = (!Op.bytesLess (strOfNums x).toList (strOfNums y).toList && !((strOfNums x).toList == (strOfNums y).toList))) := Lib.hid (by unfold aboveB; rw [if_neg hxy]); clear hxy
  go_enter Tryd.func129, Tryd.ntmps129
  go_wp2_with (first | ((with_reducible refine gate_dst (N := 9) rfl ?_); refine wpList_load_row rfl 133 _ rfl w.heap.size rfl _ _ _ _ HA.out Tryd.underlying133 rfl HI.out ?_) | ((with_reducible refine gate_dst (N := 10) rfl ?_); refine wpList_load_row rfl 133 _ rfl (w.heap.size + 1) rfl _ _ _ _ HB.out Tryd.underlying133 rfl HJ.out ?_))
  have hBel : Below w.heap.size w ((w.alloc (.cells (x.map (Value.int .u8)).toArray 133)).alloc (.cells (y.map (Value.int .u8)).toArray 133)) := by (repeat' (first | exact Below.refl _ _ | (with_reducible assumption) | (with_reducible refine Below.setCell ?_ zq_37 _) | refine below_then ?_ (by assumption) | (with_reducible refine below_new2 ?_ _) | (with_reducible refine Below.drew ?_) | (with_reducible refine bdrewN ?_ _)))
  generalize (w.alloc (.cells (x.map (Value.int .u8)).toArray 133)).alloc (.cells (y.map (Value.int .u8)).toArray 133) = W at HA HB hBel ⊢; have kx := fun n => hash_str x HX.out w.heap.size (W.drewN n) HA.out
  have ky := fun n => hash_str y HY.out (w.heap.size + 1) (W.drewN n) HB.out
  have kx0 := hash_str x HX.out w.heap.size W HA.out; have ky0 := hash_str y HY.out (w.heap.size + 1) W HB.out; clear hne
  go_quiet (fail)
  go_wp2
  go_ret
  exact ⟨by rw [HD.out]; rfl, bdrewN hBel nq⟩
theorem catL_one (s : ByteArray) : catL [s] = s.data.toList := by simp [catL]
def digV (s : ByteArray) (n : Int) : ByteArray := if widB n then (shaV s).extract 0 n.toNat else ⟨#[]⟩
theorem digV_yes {s : ByteArray} {n : Int} (h : widB n = true) : digV s n = (shaV s).extract 0 n.toNat := by unfold digV; rw [h]; rfl
theorem digV_no {s : ByteArray} {n : Int} (h : widB n = false) : digV s n = ⟨#[]⟩ := by unfold digV; rw [h]; rfl
def highB (a b : ByteArray) : Bool := aboveB (shaL a.data.toList) (shaL b.data.toList) a b
end Go.Proofs.YtaepebkeijmjgaaDoor.Z
end
section
namespace Go.Proofs.YtaepebkeijmjgaaDoor
open RowKit
set_option linter.all false
set_option maxRecDepth 100000
structure LiesB (T : TypeId) : Prop where
 lies : liesAt Tryd.prog Tryd.prog.depth T (2 / Tryd.prog.cellsOf T) 0 108 1 = true
 ne : T ≠ 5
theorem liesOwn : LiesB 110 := ⟨by kernel_rfl, by decide⟩
theorem sizeBuilder : (Tryd.prog.info? 108).map (·.size) = some 2 := by kernel_rfl
theorem infoU8' : (Tryd.prog.info? 5).map (fun i => (i.zero, i.size, i.bytes)) = some (some (.int .u8 0), 1, 1) := by kernel_rfl
def Bld (T : TypeId) (B b : Nat) (l : List UInt8) (w : World) : Prop := Lib.IsBuilder T 5 B b (bcs l) w
theorem Bld.fresh (T : TypeId) (w : World) : Bld T w.heap.size w.heap.size [] (w.alloc (.cells #[.pointer none, .slice none 0 0] T)) := Lib.fresh_isBuilder T 5 w
theorem Bld.keep {T : TypeId} {B b : Nat} {l : List UInt8} {w w1 : World} (h : Bld T B b l w) (hs : w.heap.size ≤ w1.heap.size) (hb : ∀ k, k < w.heap.size → w1.heap[k]? = w.heap[k]?) : Bld T B b l w1 := by
 have one : ∀ p, Lib.BuilderAt T 5 B b p (bcs l) w → Lib.BuilderAt T 5 B b p (bcs l) w1 := by
  rintro p ⟨hB, v, hbk, hown, hne⟩; have hlt : b < w.heap.size := by
   rcases Nat.lt_or_ge b w.heap.size with h' | h'
   ·exact h'
   ·simp [Array.getElem?_eq_none h'] at hbk
  refine ⟨hB, v, (hb b hlt).trans hbk, ⟨hown.1, ?_⟩, hne⟩
  rcases hown.2 with h2 | ⟨g, cap, cur, hv, h1, h2, h3⟩
  ·exact .inl h2
  ·refine .inr ⟨g, cap, cur, hv, h1, (hb g ?_).trans h2, h3⟩
   rcases Nat.lt_or_ge g w.heap.size with h' | h'
   ·exact h'
   ·simp [Array.getElem?_eq_none h'] at h2
 rcases h with h | h
 ·exact .inl (one _ h)
 ·exact .inr (one _ h)
theorem Bld.below {T : TypeId} {B b : Nat} {l : List UInt8} {w w1 : World} (h : Bld T B b l w) (hb : Below w.heap.size w w1) : Bld T B b l w1 := h.keep hb.size fun k hk => hb.block k hk
theorem Bld.base {T : TypeId} {B b : Nat} {l : List UInt8} {w : World} (h : Bld T B b l w) : B ≤ b ∧ b < w.heap.size := by
 rcases h with h | h
 ·exact ⟨h.1, h.lt⟩
 ·exact ⟨h.1, h.lt⟩
set_option maxHeartbeats 1000000 in
theorem copyCheck_used (b : Nat) (w : World) (h0 : w.cell? ⟨b, 0, none⟩ = some (.pointer (some ⟨b, 0, none⟩))) :
  Calls Tryd.prog 171 #[.pointer (some ⟨b, 0, none⟩)] w fun e w' => e = .returned (.tuple #[]) ∧ w' = w := by
 obtain ⟨j, hj, _⟩ := Option.map_eq_some_iff.1 sizeBuilder
 go_enter Tryd.func171, Tryd.ntmps171
 go_wp2
 rw [Lib.run_neq_ptr_same w _ Tryd.underlying106 hj]
 go_wp2
 go_end0
 exact ⟨rfl, rfl⟩
set_option maxHeartbeats 1000000 in
theorem copyCheck_fresh (T : TypeId) (hT : LiesB T) (b : Nat) (w : World) (h0 : w.cell? ⟨b, 0, none⟩ = some (.pointer none)) (hsh : w.shape? b = some (T, 2)) (hfz : w.frozen? ⟨b, 0, none⟩ = false) :
  Calls Tryd.prog 171 #[.pointer (some ⟨b, 0, none⟩)] w fun e w' => e = .returned (.tuple #[]) ∧ w' = w.setCell ⟨b, 0, none⟩ (.pointer (some ⟨b, 0, none⟩)) := by
 obtain ⟨j, hj, hjs⟩ := Option.map_eq_some_iff.1 sizeBuilder
 go_enter Tryd.func171, Tryd.ntmps171
 go_wp2
 rw [Lib.run_to_unsafe w ⟨b, 0, none⟩ Tryd.underlying106 Tryd.underlying237 hj (by rw [hjs]; decide) hsh (Nat.zero_lt_succ 1)]; simp only [Result.andThen]; rw [Oper.upon_value]
 go_wp2
 rw [run_callFunc_extern Tryd.func175 (by kernel_rfl) (by kernel_rfl) (by kernel_rfl) (e := Extern.AbiNoEscape.same) (by kernel_rfl)]; rw [Lib.run_noEscape]; simp only [Result.andThen]; rw [Oper.upon_value]
 go_wp2
 rw [Lib.run_from_unsafe w ⟨b, 0, none⟩ Tryd.underlying237 Tryd.underlying106 hj hsh hT.lies]; simp only [Result.andThen]; rw [Oper.upon_value]
 go_wp2
 go_end0
 exact ⟨rfl, rfl⟩
theorem copyCheck_any (T : TypeId) (hT : LiesB T) (B b : Nat) (bs : List Value) (w : World) (h : Lib.IsBuilder T 5 B b bs w) :
  Calls Tryd.prog 171 #[.pointer (some ⟨b, 0, none⟩)] w fun e w' => e = .returned (.tuple #[]) ∧ (Lib.BuilderAt T 5 B b (.pointer (some ⟨b, 0, none⟩)) bs w' ∧ Below B w w') := by
 rcases h with h | h
 ·refine (copyCheck_fresh T hT b w h.cell0 h.shape h.frozen0).mono ?_; rintro e w' ⟨rfl, rfl⟩; exact ⟨rfl, h.used _, (Below.refl B w).setCell (p := ⟨b, 0, none⟩) h.1 _⟩
 ·refine (copyCheck_used b w h.cell0).mono ?_; rintro e w' ⟨rfl, rfl⟩; exact ⟨rfl, h, Below.refl B _⟩
theorem bcs_snoc (l : List UInt8) (c : UInt8) : bcs (l ++ [c]) = bcs l ++ [.int .u8 c.toNat] := by simp [bcs]
set_option maxHeartbeats 2000000 in
theorem writeByte_any (T : TypeId) (hT : LiesB T) (B b : Nat) (l : List UInt8) (c : UInt8) (x : Int) (hx : x = c.toNat) (w : World) (h : Bld T B b l w) (hlen : l.length + 1 ≤ 140737488355328) (hBw : B ≤ w.heap.size) :
  Calls Tryd.prog 157 #[.pointer (some ⟨b, 0, none⟩), .int .u8 x] w fun e w' => e = .returned .nilIface ∧ Bld T B b (l ++ [c]) w' ∧ Below B w w' := by
 subst hx; obtain ⟨i0, hi, hz0, hz1, hz2⟩ := info_parts infoU8'
 go_enter Tryd.func157, Tryd.ntmps157
 go_wp2_with (go_at_call 171; refine (copyCheck_any T hT B b _ _ h).mono ?_)
 rintro e w1 ⟨rfl, h1, hb1⟩; obtain ⟨hB, v, hbk, hown, hne⟩ := h1; have c0 : w1.cell? ⟨b, 0, none⟩ = some (.pointer (some ⟨b, 0, none⟩)) := by rw [Lib.cell_of_heap hbk]; rfl
 have c1 : w1.cell? ⟨b, 1, none⟩ = some v := by rw [Lib.cell_of_heap hbk]; rfl
 go_wp2_with (at_builtin; refine wpList_append_own _ rfl _ _ 51 rfl B 5 i0 (.int .u8 0) 1 1 Tryd.underlying51 hi hz0 hz1 hz2 rfl (by decide) _ _ _ rfl (hown.alloc _) ⟨w1.heap.size, 0, none⟩ 1 1 [.int .u8 c.toNat] rfl rfl ?c1 ?c2 ?c3 ?c4 ?c5 ?_)
 case c1 =>
  intro j u hj
  match j, hj with
  | 0, hj => simp at hj; subst hj; simp [Addr.add]
 case c2 => intro u hu; simp at hu; subst hu; rfl
 case c3 => rw [bcs_length]; unfold maxLen; omega
 case c4 => rw [bcs_length]; omega
 case c5 => have := hb1.size; simp; omega
 intro v' w2 hown' hgrow _; have hlt : b < w1.heap.size := by
  rcases Nat.lt_or_ge b w1.heap.size with h' | h'
  ·exact h'
  ·simp [Array.getElem?_eq_none h'] at hbk
 have hb2 : w2.heap[b]? = some (.cells #[.pointer (some ⟨b, 0, none⟩), v] T (0, 0)) := by
  rw [hgrow.block b (by simp; omega) (fun e => hne e.symm), Lib.alloc_old w1 _ b hlt]; exact hbk
 have d0 : w2.cell? ⟨b, 0, none⟩ = some (.pointer (some ⟨b, 0, none⟩)) := by rw [Lib.cell_of_heap hb2]; rfl
 have d1 : w2.cell? ⟨b, 1, none⟩ = some v := by rw [Lib.cell_of_heap hb2]; rfl
 have f1 : w2.frozen? ⟨b, 1, none⟩ = false := Lib.frozen_of_heap hb2 1; obtain ⟨g, cap, rfl⟩ : ∃ g cap, v' = .slice (some ⟨g, 0, none⟩) ((bcs l).length + 1) cap := by
  rcases hown'.2 with ⟨_, h0⟩ | ⟨g, cap, cur, hv, _⟩
  ·omega
  ·exact ⟨g, cap, hv⟩
 go_wp2
 go_ret
 refine ⟨rfl, ?_, ?_⟩
 ·rw [Bld, bcs_snoc]; exact .inr (Lib.BuilderAt.put (T := T) (e := 5) hB hb2 (bs' := bcs l ++ [.int .u8 c.toNat]) (by simpa using hown') hT.ne)
 ·exact ((hb1.alloc (by have := hb1.size; omega) _).grown hgrow (by have := hb1.size; simp; omega) (fun k hk => (hown.lt k hk).1)).setCell (p := ⟨b, 1, none⟩) hB _
set_option maxHeartbeats 2000000 in
theorem writeString_any (T : TypeId) (hT : LiesB T) (B b : Nat) (l : List UInt8) (s : ByteArray) (w : World) (h : Bld T B b l w) (hlen : l.length + s.size ≤ 140737488355328) (hBw : B ≤ w.heap.size) :
  Calls Tryd.prog 155 #[.pointer (some ⟨b, 0, none⟩), .string s] w fun e w' => e = .returned (.tuple #[.int .i64 s.size, .nilIface]) ∧ Bld T B b (l ++ s.data.toList) w' ∧ Below B w w' := by
 obtain ⟨i0, hi, hz0, hz1, hz2⟩ := info_parts infoU8'
 go_enter Tryd.func155, Tryd.ntmps155
 go_wp2_with (go_at_call 171; refine (copyCheck_any T hT B b _ _ h).mono ?_)
 rintro e w1 ⟨rfl, h1, hb1⟩; obtain ⟨hB, v, hbk, hown, hne⟩ := h1; have c0 : w1.cell? ⟨b, 0, none⟩ = some (.pointer (some ⟨b, 0, none⟩)) := by rw [Lib.cell_of_heap hbk]; rfl
 have c1 : w1.cell? ⟨b, 1, none⟩ = some v := by rw [Lib.cell_of_heap hbk]; rfl
 go_wp2_with (at_builtin; refine Lib.wpList_append_own_string _ rfl _ _ 51 9 rfl B 5 i0 Tryd.underlying51 Tryd.underlying9 hi hz0 hz1 hz2 _ _ _ rfl hown s rfl ?c3 ?c4 ?c5 ?_)
 case c3 => rw [bcs_length]; unfold maxLen; omega
 case c4 => rw [bcs_length]; omega
 case c5 => have := hb1.size; omega
 intro v' w2 hown' hgrow _; have hlt : b < w1.heap.size := by
  rcases Nat.lt_or_ge b w1.heap.size with h' | h'
  ·exact h'
  ·simp [Array.getElem?_eq_none h'] at hbk
 have hb2 : w2.heap[b]? = some (.cells #[.pointer (some ⟨b, 0, none⟩), v] T (0, 0)) := by
  rw [hgrow.block b hlt (fun e => hne e.symm)]; exact hbk
 have d0 : w2.cell? ⟨b, 0, none⟩ = some (.pointer (some ⟨b, 0, none⟩)) := by rw [Lib.cell_of_heap hb2]; rfl
 have d1 : w2.cell? ⟨b, 1, none⟩ = some v := by rw [Lib.cell_of_heap hb2]; rfl
 have f1 : w2.frozen? ⟨b, 1, none⟩ = false := Lib.frozen_of_heap hb2 1; obtain ⟨ao, n', cap, rfl⟩ : ∃ ao n' cap, v' = .slice ao n' cap := by
  rcases hown'.2 with ⟨hv, _⟩ | ⟨g, cap, cur, hv, _⟩
  ·exact ⟨_, _, _, hv⟩
  ·exact ⟨_, _, _, hv⟩
 go_wp2
 go_ret2
 have hcs : Lib.strCells s = bcs s.data.toList := rfl; refine ⟨rfl, ?_, ?_⟩
 ·rw [Bld, bcs_append, ← hcs]; exact .inr (Lib.BuilderAt.put (T := T) (e := 5) hB hb2 (bs' := bcs l ++ Lib.strCells s) (by simpa [Lib.strCells_length] using hown') hT.ne)
 ·exact (hb1.grown hgrow (by have := hb1.size; omega) (fun k hk => (hown.lt k hk).1)).setCell (p := ⟨b, 1, none⟩) hB _
set_option maxHeartbeats 1000000 in
/-- 'b.String()', of a builder that holds a byte. -/
theorem string_any (T : TypeId) (B b : Nat) (l : List UInt8) (w : World) (h : Bld T B b l w) (h0 : l ≠ []) :
  Calls Tryd.prog 58 #[.pointer (some ⟨b, 0, none⟩)] w fun e w' => e = .returned (.string ⟨l.toArray⟩) ∧ Below B w w' := by
 obtain ⟨p, hB, v, hbk, hown, hne⟩ : ∃ p, Lib.BuilderAt T 5 B b p (bcs l) w := by
  rcases h with h | h
  ·exact ⟨_, h⟩
  ·exact ⟨_, h⟩
 have hl0 : l.length ≠ 0 := by simpa using h0
 rw [bcs_length] at hown; obtain ⟨g, cap, cur, rfl, hbg, hg, hnc, hcm, hcs, htake⟩ : ∃ g cap cur, v = .slice (some ⟨g, 0, none⟩) l.length cap ∧ B ≤ g ∧ w.heap[g]? = some (.cells cur 5 (0, 0)) ∧ l.length ≤ cap ∧ cap ≤ maxLen ∧ cur.size = cap * 1 ∧ cur.toList.take (l.length * 1) = bcs l := by
  rcases hown.2 with ⟨_, hz⟩ | ⟨g, cap, cur, hv, r⟩
  ·exact absurd hz hl0
  ·exact ⟨g, cap, cur, hv, r⟩
 have c1 : w.drew.cell? ⟨b, 1, none⟩ = some (.slice (some ⟨g, 0, none⟩) l.length cap) := by
  have : w.drew.heap[b]? = some (.cells #[p, .slice (some ⟨g, 0, none⟩) l.length cap] T (0, 0)) := hbk; rw [Lib.cell_of_heap this]; rfl
 have hSD : (Builtin.unsafeSliceData_ #[51] 185 #[.slice (some ⟨g, 0, none⟩) l.length cap]).run Tryd.prog w.drew = .ok (.pointer (some ⟨g, 0, none⟩)) w.drew :=
  Lib.run_unsafeSliceData_row _ _ _ _ _ _ (by omega)
 have hUS : (Builtin.unsafeString_ #[185, 3] 9 #[.pointer (some ⟨g, 0, none⟩), .int .i64 l.length]).run Tryd.prog w.drew = .ok (.string ⟨l.toArray⟩) (w.drew.freeze ⟨g, 0, none⟩ l.length) := by
  refine Lib.run_unsafeString_row w.drew 185 3 9 5 Tryd.underlying185 (by kernel_rfl) g cur.size (by have hg' : w.drew.heap[g]? = some (.cells cur 5 (0, 0)) := hg; simp [World.shape?, hg']) l h0 (by omega) (by unfold maxLen at hcm; omega) ?_; intro j x hx; have := hown.cells (g := g) rfl j (.int .u8 x.toNat) (by simp [bcs, hx]); exact this
 have hbf : Below B w (w.drew.freeze ⟨g, 0, none⟩ l.length) := Lib.below_freeze (Below.drew (Below.refl B w)) (p := ⟨g, 0, none⟩) hbg _
 go_enter Tryd.func58, Tryd.ntmps58
 go_wp2
 go_region
 all_goals (go_wp2; go_ret; exact ⟨rfl, hbf⟩)
set_option maxHeartbeats 400000 in
theorem btext_any (B b : Nat) (l : List UInt8) (s : ByteArray) (w : World) (h : Bld 110 B b l w) (hlen : l.length + s.size ≤ 140737488355328) (hBw : B ≤ w.heap.size) :
  Calls Tryd.prog 116 #[.pointer (some ⟨b, 0, none⟩), .string s] w fun e w' => e = .returned (.pointer (some ⟨b, 0, none⟩)) ∧ Bld 110 B b (l ++ s.data.toList) w' ∧ Below B w w' := by
 obtain ⟨c0, hc0⟩ : ∃ v, w.cell? ⟨b, 0, none⟩ = some v := by rcases h with h | h <;> exact ⟨_, h.cell0⟩
 have H := Lib.hid h
 go_enter Tryd.func116, Tryd.ntmps116
 go_wp2_with (go_at_call 155; refine (writeString_any 110 liesOwn B b l s _ H.out hlen hBw).mono ?_; rintro e w1 ⟨rfl, h1, hb1⟩)
 go_ret
 exact ⟨rfl, h1, hb1⟩
def numByte (n k : Nat) (low : Bool) (i : Nat) : UInt8 := UInt8.ofNat (n / 2 ^ (8 * (if low then i else k - 1 - i)))
def numL (n k : Nat) (low : Bool) (m : Nat) : List UInt8 := (List.range m).map (numByte n k low)
theorem numL_succ (n k : Nat) (low : Bool) (m : Nat) : numL n k low (m + 1) = numL n k low m ++ [numByte n k low m] := by simp [numL, List.range_succ]
theorem numL_length (n k : Nat) (low : Bool) (m : Nat) : (numL n k low m).length = m := by simp [numL]
theorem div_cast (n e : Nat) : (n : Int) / 2 ^ e = ((n / 2 ^ e : Nat) : Int) := by
 rw [Int.natCast_ediv, Int.natCast_pow]; rfl
theorem ofNat_cast (q : Nat) : ((q : Nat) : Int) % 256 = ((UInt8.ofNat q).toNat : Int) := by
 rw [UInt8.toNat_ofNat']; omega
theorem numByte_low (n k m : Nat) : (n : Int) / 2 ^ (8 * m) % 256 = (numByte n k true m).toNat := by
 rw [div_cast, ofNat_cast]; rfl
theorem numByte_high (n k m : Nat) : (n : Int) / 2 ^ (8 * (k - 1 - m)) % 256 = (numByte n k false m).toNat := by
 rw [div_cast, ofNat_cast]; rfl
set_option maxHeartbeats 1000000 in
theorem bnumber_any (B b : Nat) (l : List UInt8) (n k : Nat) (low : Bool) (w : World) (h : Bld 110 B b l w) (hn : n ≤ 4294967296) (hk : k ≤ 4) (hlen : l.length ≤ 4294967296) (hBw : B ≤ w.heap.size) :
  Calls Tryd.prog 124 #[.pointer (some ⟨b, 0, none⟩), .int .i64 n, .int .i64 k, .bool low] w fun e w' => e = .returned (.pointer (some ⟨b, 0, none⟩)) ∧ Bld 110 B b (l ++ numL n k low k) w' ∧ Below B w w' := by
 have H := Lib.hid h; clear h
 go_enter Tryd.func124, Tryd.ntmps124
 go_wp2
 go_loopw [12] (fun i wr => ∃ m : Nat, m ≤ k ∧ i = .int .i64 m ∧ Bld 110 B b (l ++ numL n k low m) wr ∧ Below B w wr) (fun i _ => k - (intOf i).toNat)
 case atStart => exact ⟨0, Nat.zero_le _, rfl, by simpa [numL] using H.out, Below.refl _ _⟩
 case round =>
  obtain ⟨m, hm, rfl, h2, hB⟩ := hrel; obtain ⟨c0, hc0⟩ : ∃ v, wr.cell? ⟨b, 0, none⟩ = some v := by rcases h2 with h | h <;> exact ⟨_, h.cell0⟩
  have H2 := Lib.hid h2; clear h2
  by_cases hlt : m < k
  ·cases low
   all_goals
    go_wp2
    go_still_tail 7, (by kernel_rfl)
    change wpList _ _ _ _ _ wr.drew
    go_wp2_with (go_at_call 157; refine (writeByte_any 110 liesOwn B b _ _ _ (by first | exact numByte_low n k m | exact numByte_high n k m) _ (H2.out.below (Below.refl _ _).drew) (by rw [List.length_append, numL_length]; omega) (by have := hB.size; exact Nat.le_trans hBw this)).mono ?_; rintro e w1 ⟨rfl, h1, hb1⟩)
    go_roundw
    case rel => exact ⟨m + 1, by omega, by go_num, by rw [numL_succ, ← List.append_assoc]; exact h1, hB.trans ((Below.refl _ _).drew.trans hb1)⟩
    case measure => simp [intOf]; omega
  ·go_wp2
   go_ret
   have e : m = k := by omega
   subst e; exact ⟨rfl, H2.out, hB⟩
def sizedL (s : ByteArray) : List UInt8 := numL s.size 2 false 2 ++ s.data.toList
set_option maxHeartbeats 400000 in
theorem bsized_any (B b : Nat) (l : List UInt8) (s : ByteArray) (w : World) (h : Bld 110 B b l w) (hs : s.size ≤ 4294967296) (hlen : l.length ≤ 4294967296) (hBw : B ≤ w.heap.size) :
  Calls Tryd.prog 117 #[.pointer (some ⟨b, 0, none⟩), .string s] w fun e w' => e = .returned (.pointer (some ⟨b, 0, none⟩)) ∧ Bld 110 B b (l ++ sizedL s) w' ∧ Below B w w' := by
 have H := Lib.hid h; clear h
 go_enter Tryd.func117, Tryd.ntmps117
 go_wp2_with (go_at_call 124; refine (bnumber_any B b l s.size 2 false _ H.out hs (by omega) hlen hBw).mono ?_; rintro e w1 ⟨rfl, h1, hb1⟩; have hz1 := hb1.size; have H1 := Lib.hid h1; clear h1)
 refine (btext_any B b _ s _ H1.out (by rw [List.length_append, numL_length]; omega) (by omega)).mono ?_; rintro e w2 ⟨rfl, h2, hb2⟩
 go_wp2
 go_ret
 exact ⟨rfl, by rw [sizedL, ← List.append_assoc]; exact h2, hb1.trans hb2⟩
end Go.Proofs.YtaepebkeijmjgaaDoor
end
section
namespace Go.Proofs.YtaepebkeijmjgaaDoor
open RowKit
set_option linter.all false
def isW (w : Int) : Bool := decide (1 ≤ w) && decide (w ≤ 32)
def hOk (h : ByteArray) (w : Int) : Bool := decide (h.size = 0) || decide ((h.size : Int) = w)
def nodeOk (k v l r : ByteArray) (w : Int) : Bool := isW w && decide (1 ≤ k.size) && decide (k.size ≤ 256) && decide (v.size ≤ 2000) && hOk l w && hOk r w
def byteS (x : Int) : ByteArray := ⟨#[UInt8.ofNat x.toNat]⟩
theorem byteS_size (x : Int) : (byteS x).size = 1 := rfl
def sizedS (s : ByteArray) : ByteArray := byteS (s.size / 256) ++ byteS (s.size % 256) ++ s
theorem sizedS_size (s : ByteArray) : (sizedS s).size = 2 + s.size := by simp [sizedS, byteS_size]
def flagsOf (l r : ByteArray) : Int := (if l.size = 0 then 0 else 1) + (if r.size = 0 then 0 else 2)
def encNode (k v l r : ByteArray) (w : Int) : ByteArray := if nodeOk k v l r w = true then sizedS k ++ sizedS v ++ byteS (flagsOf l r) ++ l ++ r else ⟨#[]⟩
set_option maxHeartbeats 400000 in
theorem isWidth_any (x : Int) (w : World) : Calls Tryd.prog 93 #[.int .i64 x] w fun e w' => e = .returned (.bool (isW x)) ∧ w = w' := by
 go_enter Tryd.func93, Tryd.ntmps93
 go_wp2
 all_goals
  go_ret
  refine ⟨ret_bool ?_, rfl⟩
  go_light
  unfold isW
  grind
set_option maxHeartbeats 400000 in
theorem l1Width_any (x : Int) (w : World) : Calls Tryd.prog 90 #[.int .i64 x] w fun e w' => e = .returned (.bool (isW x)) ∧ w = w' := by
 go_enter Tryd.func90, Tryd.ntmps90
 go_wp2
 all_goals
  go_ret
  refine ⟨ret_bool ?_, rfl⟩
  go_light
  unfold isW
  grind
theorem size_zero (s : ByteArray) : s = ByteArray.empty ↔ s.size = 0 := by
 constructor
 ·intro h; rw [h]; rfl
 ·intro h; exact ByteArray.ext (Array.size_eq_zero_iff.mp h)
set_option maxHeartbeats 400000 in
theorem l2HashOk_any (h : ByteArray) (x : Int) (w : World) : Calls Tryd.prog 100 #[.string h, .int .i64 x] w fun e w' => e = .returned (.bool (hOk h x)) ∧ w = w' := by
 go_enter Tryd.func100, Tryd.ntmps100
 go_wp2
 all_goals
  go_ret
  refine ⟨ret_bool ?_, rfl⟩
  go_light
  have := size_zero h; unfold hOk
  grind
theorem byte1_str (w : World) (y : Int) (T : TypeId) (g c : Nat) (hg : g = w.heap.size) :
  (convert 51 9 (.slice (some ⟨g, 0, none⟩) 1 c)).run Tryd.prog (w.alloc (.cells #[.int .u8 y] T)) = .ok (.string ⟨#[UInt8.ofNat y.toNat]⟩) (w.alloc (.cells #[.int .u8 y] T)) := by
 subst hg; have h := run_convert_bytes_arg (P := Tryd.prog) (w.alloc (.cells #[.int .u8 y] T)) 51 5 Tryd.underlying51 Tryd.underlying5 w.heap.size 0 1 c [y] rfl (fun i hi => by
  obtain rfl : i = 0 := by omega
  rw [World.cell?_alloc_new w _ _ (0 + 0)]; rfl) 9 Tryd.underlying9
 exact h
theorem byteS_mod (x : Int) (h : 0 ≤ x) : (⟨#[UInt8.ofNat (x % 256).toNat]⟩ : ByteArray) = byteS x := by
 unfold byteS
 congr 3
 apply UInt8.toNat_inj.mp
 rw [UInt8.toNat_ofNat', UInt8.toNat_ofNat']; omega
set_option maxHeartbeats 400000 in
theorem l2Byte_any (x : Int) (hx : 0 ≤ x) (w : World) : Calls Tryd.prog 121 #[.int .i64 x] w fun e w' => e = .returned (.string (byteS x)) ∧ Below w.heap.size w w' := by
 go_enter Tryd.func121, Tryd.ntmps121
 go_wp2_with ((with_reducible refine gate_dst (N := 6) rfl ?_); refine wpList_convert rfl 51 9 _ rfl rfl (byte1_str _ _ _ _ _ rfl) ?_)
 go_ret
 refine ⟨ret_str ?_, by (repeat' (first | exact Below.refl _ _ | (with_reducible assumption) | (with_reducible refine Below.setCell ?_ zq_37 _) | refine below_then ?_ (by assumption) | (with_reducible refine below_new2 ?_ _) | (with_reducible refine Below.drew ?_) | (with_reducible refine bdrewN ?_ _)))⟩; exact byteS_mod x hx
set_option maxHeartbeats 400000 in
theorem l2Sized_any (s : ByteArray) (hs : s.size ≤ 4294967296) (w : World) : Calls Tryd.prog 112 #[.string s] w fun e w' => e = .returned (.string (sizedS s)) ∧ Below w.heap.size w w' := by
 have z1 : (byteS (s.size / 256)).size + (byteS (s.size % 256)).size ≤ 9223372036854775807 := by rw [byteS_size, byteS_size]; omega
 have z2 : (byteS (s.size / 256)).size + (byteS (s.size % 256)).size + s.size ≤ 9223372036854775807 := by rw [byteS_size, byteS_size]; omega
 go_enter Tryd.func112, Tryd.ntmps112
 go_wp2_with fail
 (go_at_call 121; refine (l2Byte_any _ (by omega) _).mono ?_; rintro e wa ⟨rfl, hb_wa⟩; obtain ⟨hc_wa, hf_wa⟩ := bcell hb_wa; have hz_wa := hb_wa.size; (try simp only [World.size_alloc, World.size_setCell, World.size_drew] at hz_wa); (try simp only [World.size_alloc, World.size_setCell, World.size_drew] at hc_wa); (try simp only [World.size_alloc, World.size_setCell, World.size_drew] at hf_wa); skip)
 go_wp2_with fail
 (go_at_call 121; refine (l2Byte_any _ (by omega) _).mono ?_; rintro e wb ⟨rfl, hb_wb⟩; obtain ⟨hc_wb, hf_wb⟩ := bcell hb_wb; have hz_wb := hb_wb.size; (try simp only [World.size_alloc, World.size_setCell, World.size_drew] at hz_wb); (try simp only [World.size_alloc, World.size_setCell, World.size_drew] at hc_wb); (try simp only [World.size_alloc, World.size_setCell, World.size_drew] at hf_wb); skip)
 go_wp2
 go_ret
 exact ⟨rfl, by (repeat' (first | exact Below.refl _ _ | (with_reducible assumption) | (with_reducible refine Below.setCell ?_ zq_37 _) | refine below_then ?_ (by assumption) | (with_reducible refine below_new2 ?_ _) | (with_reducible refine Below.drew ?_) | (with_reducible refine bdrewN ?_ _)))⟩
set_option maxHeartbeats 400000 in
theorem l2NodeOk_any (a b c d : ByteArray) (x : Int) (w : World) :
  Calls Tryd.prog 120 #[.agg #[.string a, .string b, .string c, .string d], .int .i64 x] w fun e w' => e = .returned (.bool (nodeOk a b c d x)) ∧ Below w.heap.size w w' := by
 unfold nodeOk
 by_cases hw : isW x = true
 ·by_cases h2 : hOk c x = true
  all_goals
   go_enter Tryd.func120, Tryd.ntmps120
   go_wp2_with (first | (go_at_call 90; refine (l1Width_any _ _).mono ?_; rintro e wq ⟨rfl, rfl⟩) | (go_at_call 100; refine (l2HashOk_any _ _ _).mono ?_; rintro e wq ⟨rfl, rfl⟩))
   all_goals
    go_ret
    refine ⟨ret_bool ?_, by (repeat' (first | exact Below.refl _ _ | (with_reducible assumption) | (with_reducible refine Below.setCell ?_ zq_37 _) | refine below_then ?_ (by assumption) | (with_reducible refine below_new2 ?_ _) | (with_reducible refine Below.drew ?_) | (with_reducible refine bdrewN ?_ _)))⟩
    go_light
    grind
 ·go_enter Tryd.func120, Tryd.ntmps120
  go_wp2_with (first | (go_at_call 90; refine (l1Width_any _ _).mono ?_; rintro e wq ⟨rfl, rfl⟩) | (go_at_call 100; refine (l2HashOk_any _ _ _).mono ?_; rintro e wq ⟨rfl, rfl⟩))
  all_goals
   go_ret
   refine ⟨ret_bool ?_, by (repeat' (first | exact Below.refl _ _ | (with_reducible assumption) | (with_reducible refine Below.setCell ?_ zq_37 _) | refine below_then ?_ (by assumption) | (with_reducible refine below_new2 ?_ _) | (with_reducible refine Below.drew ?_) | (with_reducible refine bdrewN ?_ _)))⟩
   go_light
   grind
set_option maxHeartbeats 400000 in
theorem fits_any (h : ByteArray) (x : Int) (p : Addr) (w : World) (hp : w.cell? p = some (.int .i64 x)) :
  Calls Tryd.prog 156 #[.string h, .pointer (some p)] w fun e w' => e = .returned (.bool (hOk h x)) ∧ w = w' := by
 have he : h.toList.isEmpty = decide (h.size = 0) := by
  rw [Bool.eq_iff_iff, decide_eq_true_eq, ← size_zero, ← toList_nil_iff_emptyBytes, List.isEmpty_iff]
 unfold hOk; rw [← he]; clear he
 go_enter Tryd.func156, Tryd.ntmps156
 go_wp2
 all_goals
  go_ret
  refine ⟨ret_bool ?_, rfl⟩
  go_light
  clear hp
  grind
set_option maxHeartbeats 400000 in
theorem nodeValid_any (a b c d : ByteArray) (x : Int) (w : World) :
  Calls Tryd.prog 123 #[.agg #[.string a, .string b, .string c, .string d], .int .i64 x] w fun e w' => e = .returned (.bool (nodeOk a b c d x)) ∧ Below w.heap.size w w' := by
 unfold nodeOk
 by_cases hw : isW x = true
 ·by_cases h2 : hOk c x = true
  all_goals
   go_enter Tryd.func123, Tryd.ntmps123
   go_wp2_with (first | (go_at_call 93; refine (isWidth_any _ _).mono ?_; rintro e wq ⟨rfl, rfl⟩) | (go_at_call 156; refine (fits_any _ x _ _ (by simp [go_sem])).mono ?_; rintro e wq ⟨rfl, rfl⟩))
   all_goals
    go_ret
    refine ⟨ret_bool ?_, by (repeat' (first | exact Below.refl _ _ | (with_reducible assumption) | (with_reducible refine Below.setCell ?_ zq_37 _) | refine below_then ?_ (by assumption) | (with_reducible refine below_new2 ?_ _) | (with_reducible refine Below.drew ?_) | (with_reducible refine bdrewN ?_ _)))⟩
    go_light
    grind
 ·go_enter Tryd.func123, Tryd.ntmps123
  go_wp2_with (first | (go_at_call 93; refine (isWidth_any _ _).mono ?_; rintro e wq ⟨rfl, rfl⟩) | (go_at_call 156; refine (fits_any _ x _ _ (by simp [go_sem])).mono ?_; rintro e wq ⟨rfl, rfl⟩))
  all_goals
   go_ret
   refine ⟨ret_bool ?_, by (repeat' (first | exact Below.refl _ _ | (with_reducible assumption) | (with_reducible refine Below.setCell ?_ zq_37 _) | refine below_then ?_ (by assumption) | (with_reducible refine below_new2 ?_ _) | (with_reducible refine Below.drew ?_) | (with_reducible refine bdrewN ?_ _)))⟩
   go_light
   grind
set_option maxHeartbeats 400000 in
theorem specEncodeNode_any (a b c d : ByteArray) (x : Int) (w : World) :
  Calls Tryd.prog 63 #[.agg #[.string a, .string b, .string c, .string d], .int .i64 x] w fun e w' => e = .returned (.string (encNode a b c d x)) ∧ Below w.heap.size w w' := by
 by_cases hok : nodeOk a b c d x = true
 ·have hsz : a.size ≤ 256 ∧ b.size ≤ 2000 ∧ c.size ≤ 32 ∧ d.size ≤ 32 := by
   unfold nodeOk hOk isW at hok; simp only [Bool.and_eq_true, Bool.or_eq_true, decide_eq_true_eq] at hok; omega
  obtain ⟨h1, h2, h3, h4⟩ := hsz; have he : encNode a b c d x = sizedS a ++ sizedS b ++ byteS (flagsOf c d) ++ c ++ d := by unfold encNode; rw [if_pos hok]
  have HE := Lib.hid he; clear he; have h1b : a.size ≤ 4294967296 := by omega
  have h2b : b.size ≤ 4294967296 := by omega
  have z0 := fun x => byteS_size x
  have z1 : ¬ (9223372036854775807 < (sizedS a).size + (sizedS b).size) := by rw [sizedS_size, sizedS_size]; omega
  have z20 : ¬ (9223372036854775807 < (sizedS a).size + (sizedS b).size + (byteS 0).size) := by simp only [ByteArray.size_append, sizedS_size, byteS_size]; omega
  have z30 : ¬ (9223372036854775807 < (sizedS a).size + (sizedS b).size + (byteS 0).size + c.size) := by simp only [ByteArray.size_append, sizedS_size, byteS_size]; omega
  have z40 : ¬ (9223372036854775807 < (sizedS a).size + (sizedS b).size + (byteS 0).size + c.size + d.size) := by simp only [ByteArray.size_append, sizedS_size, byteS_size]; omega
  have z21 : ¬ (9223372036854775807 < (sizedS a).size + (sizedS b).size + (byteS 1).size) := by simp only [ByteArray.size_append, sizedS_size, byteS_size]; omega
  have z31 : ¬ (9223372036854775807 < (sizedS a).size + (sizedS b).size + (byteS 1).size + c.size) := by simp only [ByteArray.size_append, sizedS_size, byteS_size]; omega
  have z41 : ¬ (9223372036854775807 < (sizedS a).size + (sizedS b).size + (byteS 1).size + c.size + d.size) := by simp only [ByteArray.size_append, sizedS_size, byteS_size]; omega
  have z22 : ¬ (9223372036854775807 < (sizedS a).size + (sizedS b).size + (byteS 2).size) := by simp only [ByteArray.size_append, sizedS_size, byteS_size]; omega
  have z32 : ¬ (9223372036854775807 < (sizedS a).size + (sizedS b).size + (byteS 2).size + c.size) := by simp only [ByteArray.size_append, sizedS_size, byteS_size]; omega
  have z42 : ¬ (9223372036854775807 < (sizedS a).size + (sizedS b).size + (byteS 2).size + c.size + d.size) := by simp only [ByteArray.size_append, sizedS_size, byteS_size]; omega
  have z23 : ¬ (9223372036854775807 < (sizedS a).size + (sizedS b).size + (byteS 3).size) := by simp only [ByteArray.size_append, sizedS_size, byteS_size]; omega
  have z33 : ¬ (9223372036854775807 < (sizedS a).size + (sizedS b).size + (byteS 3).size + c.size) := by simp only [ByteArray.size_append, sizedS_size, byteS_size]; omega
  have z43 : ¬ (9223372036854775807 < (sizedS a).size + (sizedS b).size + (byteS 3).size + c.size + d.size) := by simp only [ByteArray.size_append, sizedS_size, byteS_size]; omega
  have z50 : ¬ (9223372036854775807 < (sizedS a).size + (sizedS b).size + (byteS 0).size + d.size) := by simp only [ByteArray.size_append, sizedS_size, byteS_size]; omega
  have z51 : ¬ (9223372036854775807 < (sizedS a).size + (sizedS b).size + (byteS 1).size + d.size) := by simp only [ByteArray.size_append, sizedS_size, byteS_size]; omega
  have z52 : ¬ (9223372036854775807 < (sizedS a).size + (sizedS b).size + (byteS 2).size + d.size) := by simp only [ByteArray.size_append, sizedS_size, byteS_size]; omega
  have z53 : ¬ (9223372036854775807 < (sizedS a).size + (sizedS b).size + (byteS 3).size + d.size) := by simp only [ByteArray.size_append, sizedS_size, byteS_size]; omega
  clear z0
  by_cases hc : c.size = 0
  all_goals
   by_cases hd : d.size = 0
   all_goals
    go_enter Tryd.func63, Tryd.ntmps63
    go_wp2_with (first | (go_at_call 120; refine (l2NodeOk_any _ _ _ _ _ _).mono ?_; rintro e wa ⟨rfl, hb_wa⟩; obtain ⟨hc_wa, hf_wa⟩ := bcell hb_wa; have hz_wa := hb_wa.size; (try simp only [World.size_alloc, World.size_setCell, World.size_drew] at hz_wa); (try simp only [World.size_alloc, World.size_setCell, World.size_drew] at hc_wa); (try simp only [World.size_alloc, World.size_setCell, World.size_drew] at hf_wa); (try have q_w_0_wa : w.heap.size < wa.heap.size := by omega)))
    have hS : wa.cell? ⟨w.heap.size, 0, none⟩ = some (.string a) ∧ wa.cell? ⟨w.heap.size, 1, none⟩ = some (.string b) ∧ wa.cell? ⟨w.heap.size, 2, none⟩ = some (.string c) ∧ wa.cell? ⟨w.heap.size, 3, none⟩ = some (.string d) := by
     refine ⟨?_, ?_, ?_, ?_⟩ <;> (rw [hc_wa _ _ (by omega)]; simp [go_sem])
    obtain ⟨e0, e1, e2, e3⟩ := hS; clear hc_wa hf_wa
    go_region_held3 (fun w' => w'.cell? ⟨w.heap.size, 0, none⟩ = some (.string a) ∧ w'.cell? ⟨w.heap.size, 1, none⟩ = some (.string b) ∧ w'.cell? ⟨w.heap.size, 2, none⟩ = some (.string c) ∧ w'.cell? ⟨w.heap.size, 3, none⟩ = some (.string d))
     (first
      | exact held4B (by assumption) (by assumption)
      | assumption
      | (simp [*]; done))
     (first
      | (go_at_call 121; refine (l2Byte_any _ (by decide) _).mono ?_; rintro e wx ⟨rfl, hbx⟩)
      | (go_at_call_of 112 (Value.string a); refine (l2Sized_any a h1b _).mono ?_; rintro e wx ⟨rfl, hbx⟩)
      | (go_at_call_of 112 (Value.string b); refine (l2Sized_any b h2b _).mono ?_; rintro e wx ⟨rfl, hbx⟩))
    go_wp2
    all_goals
     go_ret
     refine ⟨?_, by (repeat' (first | exact Below.refl _ _ | (with_reducible assumption) | (with_reducible refine Below.setCell ?_ zq_37 _) | refine below_then ?_ (by assumption) | (with_reducible refine below_new2 ?_ _) | (with_reducible refine Below.drew ?_) | (with_reducible refine bdrewN ?_ _)))⟩; rw [HE.out]; simp [flagsOf, hc, hd]
 ·have he : encNode a b c d x = ⟨#[]⟩ := by unfold encNode; rw [if_neg hok]
  have HE := Lib.hid he; clear he
  go_enter Tryd.func63, Tryd.ntmps63
  go_wp2_with (first | (go_at_call 120; refine (l2NodeOk_any _ _ _ _ _ _).mono ?_; rintro e wa ⟨rfl, hb_wa⟩; obtain ⟨hc_wa, hf_wa⟩ := bcell hb_wa; have hz_wa := hb_wa.size; (try simp only [World.size_alloc, World.size_setCell, World.size_drew] at hz_wa); (try simp only [World.size_alloc, World.size_setCell, World.size_drew] at hc_wa); (try simp only [World.size_alloc, World.size_setCell, World.size_drew] at hf_wa); skip))
  all_goals
   go_ret
   exact ⟨by rw [HE.out]; rfl, by (repeat' (first | exact Below.refl _ _ | (with_reducible assumption) | (with_reducible refine Below.setCell ?_ zq_37 _) | refine below_then ?_ (by assumption) | (with_reducible refine below_new2 ?_ _) | (with_reducible refine Below.drew ?_) | (with_reducible refine bdrewN ?_ _)))⟩
theorem isEmpty_size (h : ByteArray) : h.toList.isEmpty = decide (h.size = 0) := by
 rw [Bool.eq_iff_iff, decide_eq_true_eq, ← size_zero, ← toList_nil_iff_emptyBytes, List.isEmpty_iff]
theorem numL_one (n : Nat) (h : n < 256) : numL n 1 false 1 = [UInt8.ofNat n] := by
 simp [numL, numByte]
theorem sizedL_length (s : ByteArray) : (sizedL s).length = 2 + s.size := by
 rw [sizedL, List.length_append, numL_length]; rfl
theorem byteS_list (n : Nat) : byteS n = ⟨[UInt8.ofNat n].toArray⟩ := rfl
theorem app_list (a b : List UInt8) : (⟨(a ++ b).toArray⟩ : ByteArray) = ⟨a.toArray⟩ ++ ⟨b.toArray⟩ := by
 apply ByteArray.ext
 simp [ByteArray.data_append]
theorem self_list (s : ByteArray) : (⟨s.data.toList.toArray⟩ : ByteArray) = s := rfl
theorem sizedL_eq (s : ByteArray) : (⟨(sizedL s).toArray⟩ : ByteArray) = sizedS s := by
 unfold sizedL sizedS; rw [app_list, self_list]; have h : numL s.size 2 false 2 = [UInt8.ofNat (s.size / 256)] ++ [UInt8.ofNat s.size] := by
  simp [numL, numByte, List.range_succ]
 rw [h, app_list]
 congr 2
 ·unfold byteS
  congr 3
  apply UInt8.toNat_inj.mp
  rw [UInt8.toNat_ofNat', UInt8.toNat_ofNat']; omega
theorem encList (a b c d : ByteArray) (n : Nat) (hn : n < 256) (h : flagsOf c d = n) :
  (⟨(sizedL a ++ (sizedL b ++ (numL n 1 false 1 ++ (c.data.toList ++ d.data.toList)))).toArray⟩ : ByteArray) = sizedS a ++ sizedS b ++ byteS (flagsOf c d) ++ c ++ d := by
 simp only [← List.append_assoc]; rw [app_list, app_list, app_list, app_list, sizedL_eq, sizedL_eq, self_list, self_list, numL_one n hn, h, byteS_list]
theorem bitsOr1 : bits .or .u32 0 1 = 1 := by decide
theorem bitsOr2 : bits .or .u32 0 2 = 2 := by decide
theorem bitsOr3 : bits .or .u32 1 2 = 3 := by decide
attribute [go_sem] bitsOr1 bitsOr2 bitsOr3
theorem held4BB {B : Nat} {u w1 : World} {p q r t : Addr} {a b c d : Value} (hb : Below B u w1) (hp : p.block < B ∧ q.block < B ∧ r.block < B ∧ t.block < B) (h : u.cell? p = some a ∧ u.cell? q = some b ∧ u.cell? r = some c ∧ u.cell? t = some d) : w1.cell? p = some a ∧ w1.cell? q = some b ∧ w1.cell? r = some c ∧ w1.cell? t = some d :=
 ⟨(hb.cell hp.1).trans h.1, (hb.cell hp.2.1).trans h.2.1, (hb.cell hp.2.2.1).trans h.2.2.1, (hb.cell hp.2.2.2).trans h.2.2.2⟩
set_option maxHeartbeats 1000000 in
theorem encodeNode_any (a b c d : ByteArray) (x : Int) (w : World) :
  Calls Tryd.prog 67 #[.agg #[.string a, .string b, .string c, .string d], .int .i64 x] w fun e w' => e = .returned (.string (encNode a b c d x)) ∧ Below w.heap.size w w' := by
 by_cases hok : nodeOk a b c d x = true
 ·have hsz : a.size ≤ 256 ∧ b.size ≤ 2000 ∧ c.size ≤ 32 ∧ d.size ≤ 32 := by
   unfold nodeOk hOk isW at hok; simp only [Bool.and_eq_true, Bool.or_eq_true, decide_eq_true_eq] at hok; omega
  obtain ⟨h1, h2, h3, h4⟩ := hsz; have he : encNode a b c d x = sizedS a ++ sizedS b ++ byteS (flagsOf c d) ++ c ++ d := by unfold encNode; rw [if_pos hok]
  have HE := Lib.hid he; clear he; have la := sizedL_length a; have lb := sizedL_length b; have ln : ∀ n, (numL n 1 false 1).length = 1 := fun n => numL_length n 1 false 1
  have LA := Lib.hid la; clear la; have LB := Lib.hid lb; clear lb; have LN := Lib.hid ln; clear ln
  by_cases hc : c.toList.isEmpty = true
  ·by_cases hd : d.toList.isEmpty = true
   ·go_enter Tryd.func67, Tryd.ntmps67
    go_wp2_with (first | (go_at_call 123; refine (nodeValid_any _ _ _ _ _ _).mono ?_; rintro e wa ⟨rfl, hb_wa⟩; obtain ⟨hc_wa, hf_wa⟩ := bcell hb_wa; have hz_wa := hb_wa.size; (try simp only [World.size_alloc, World.size_setCell, World.size_drew] at hz_wa); (try simp only [World.size_alloc, World.size_setCell, World.size_drew] at hc_wa); (try simp only [World.size_alloc, World.size_setCell, World.size_drew] at hf_wa); (try have q_w_0_wa : w.heap.size < wa.heap.size := by omega)))
    have hS : wa.cell? ⟨w.heap.size, 0, none⟩ = some (.string a) ∧ wa.cell? ⟨w.heap.size, 1, none⟩ = some (.string b) ∧ wa.cell? ⟨w.heap.size, 2, none⟩ = some (.string c) ∧ wa.cell? ⟨w.heap.size, 3, none⟩ = some (.string d) := by
     refine ⟨?_, ?_, ?_, ?_⟩ <;> (rw [hc_wa _ _ (by omega)]; simp [go_sem])
    obtain ⟨e0, e1, e2, e3⟩ := hS; clear hc_wa hf_wa
    go_wp2
    go_region_held3 (fun w' => w'.cell? ⟨w.heap.size, 0, none⟩ = some (.string a) ∧ w'.cell? ⟨w.heap.size, 1, none⟩ = some (.string b) ∧ w'.cell? ⟨w.heap.size, 2, none⟩ = some (.string c) ∧ w'.cell? ⟨w.heap.size, 3, none⟩ = some (.string d))
     (first
      | exact held4BB (B := wa.heap.size) (by assumption) (by simp; omega) (by assumption)
      | assumption
      | (go_keep; done))
     (first
      | (go_at_call_of 117 (Value.string a); refine (bsized_any wa.heap.size wa.heap.size [] a _ ?_ ?_ ?_ ?_).mono ?_; (· exact Bld.fresh _ wa.drew); (· omega); (· simp; done); (· simp; done); rintro e wx ⟨rfl, hBx, hbx⟩; rw [List.nil_append] at hBx; have hzx := hbx.size; simp only [World.size_alloc, World.size_drew] at hzx)
      | (go_at_call_of 117 (Value.string b); refine (bsized_any wa.heap.size wa.heap.size (sizedL a) b _ ?_ ?_ ?_ ?_).mono ?_; (· assumption); (· omega); (· have := LA.out; omega); (· omega); rintro e wx ⟨rfl, hBx, hbx⟩; have hzx := hbx.size)
      | (go_at_call 124; refine (bnumber_any wa.heap.size wa.heap.size (sizedL a ++ sizedL b) 0 1 false _ ?_ ?_ ?_ ?_ ?_).mono ?_; (· assumption); (· omega); (· omega); (· have := LA.out; have := LB.out; rw [List.length_append]; omega); (· omega); rintro e wx ⟨rfl, hBx, hbx⟩; have hzx := hbx.size)
      | (go_at_call_of 116 (Value.string c); refine (btext_any wa.heap.size wa.heap.size (sizedL a ++ sizedL b ++ numL 0 1 false 1) c _ ?_ ?_ ?_).mono ?_; (· assumption); (· have := LA.out; have := LB.out; have := LN.out; simp only [List.length_append, this]; omega); (· omega); rintro e wx ⟨rfl, hBx, hbx⟩; have hzx := hbx.size)
      | (go_at_call_of 116 (Value.string d); refine (btext_any wa.heap.size wa.heap.size (sizedL a ++ sizedL b ++ numL 0 1 false 1 ++ c.data.toList) d _ ?_ ?_ ?_).mono ?_; (· assumption); (· have := LA.out; have := LB.out; have := LN.out; have hcl : c.data.toList.length = c.size := rfl; simp only [List.length_append, this, hcl]; omega); (· omega); rintro e wx ⟨rfl, hBx, hbx⟩; have hzx := hbx.size))
    go_wp2_with (go_at_call 58; refine (string_any 110 wa.heap.size wa.heap.size _ _ hBx ?_).mono ?_; (· intro h; have := congrArg List.length h; simp only [List.length_append, LN.out, List.length_nil] at this; omega); rintro e wz ⟨rfl, hbz⟩)
    go_ret
    have hz : Below wa.heap.size wa wz := by
     refine Below.trans ?_ hbz
     repeat' (first | (refine Below.trans ?_ (by assumption)))
     (repeat' (first | exact Below.refl _ _ | (with_reducible assumption) | (with_reducible refine Below.setCell ?_ zq_37 _) | refine below_then ?_ (by assumption) | (with_reducible refine below_new2 ?_ _) | (with_reducible refine Below.drew ?_) | (with_reducible refine bdrewN ?_ _)))
    refine ⟨?_, by (repeat' (first | exact Below.refl _ _ | (with_reducible assumption) | (with_reducible refine Below.setCell ?_ zq_37 _) | refine below_then ?_ (by assumption) | (with_reducible refine below_new2 ?_ _) | (with_reducible refine Below.drew ?_) | (with_reducible refine bdrewN ?_ _)))⟩; rw [HE.out]; refine congrArg (fun z => Ending.returned (.string z)) (encList a b c d 0 (by decide) ?_); rw [isEmpty_size, decide_eq_true_eq] at hc hd; simp [flagsOf, hc, hd]
   ·go_enter Tryd.func67, Tryd.ntmps67
    go_wp2_with (first | (go_at_call 123; refine (nodeValid_any _ _ _ _ _ _).mono ?_; rintro e wa ⟨rfl, hb_wa⟩; obtain ⟨hc_wa, hf_wa⟩ := bcell hb_wa; have hz_wa := hb_wa.size; (try simp only [World.size_alloc, World.size_setCell, World.size_drew] at hz_wa); (try simp only [World.size_alloc, World.size_setCell, World.size_drew] at hc_wa); (try simp only [World.size_alloc, World.size_setCell, World.size_drew] at hf_wa); (try have q_w_0_wa : w.heap.size < wa.heap.size := by omega)))
    have hS : wa.cell? ⟨w.heap.size, 0, none⟩ = some (.string a) ∧ wa.cell? ⟨w.heap.size, 1, none⟩ = some (.string b) ∧ wa.cell? ⟨w.heap.size, 2, none⟩ = some (.string c) ∧ wa.cell? ⟨w.heap.size, 3, none⟩ = some (.string d) := by
     refine ⟨?_, ?_, ?_, ?_⟩ <;> (rw [hc_wa _ _ (by omega)]; simp [go_sem])
    obtain ⟨e0, e1, e2, e3⟩ := hS; clear hc_wa hf_wa
    go_wp2
    go_region_held3 (fun w' => w'.cell? ⟨w.heap.size, 0, none⟩ = some (.string a) ∧ w'.cell? ⟨w.heap.size, 1, none⟩ = some (.string b) ∧ w'.cell? ⟨w.heap.size, 2, none⟩ = some (.string c) ∧ w'.cell? ⟨w.heap.size, 3, none⟩ = some (.string d))
     (first
      | exact held4BB (B := wa.heap.size) (by assumption) (by simp; omega) (by assumption)
      | assumption
      | (go_keep; done))
     (first
      | (go_at_call_of 117 (Value.string a); refine (bsized_any wa.heap.size wa.heap.size [] a _ ?_ ?_ ?_ ?_).mono ?_; (· exact Bld.fresh _ wa.drew); (· omega); (· simp; done); (· simp; done); rintro e wx ⟨rfl, hBx, hbx⟩; rw [List.nil_append] at hBx; have hzx := hbx.size; simp only [World.size_alloc, World.size_drew] at hzx)
      | (go_at_call_of 117 (Value.string b); refine (bsized_any wa.heap.size wa.heap.size (sizedL a) b _ ?_ ?_ ?_ ?_).mono ?_; (· assumption); (· omega); (· have := LA.out; omega); (· omega); rintro e wx ⟨rfl, hBx, hbx⟩; have hzx := hbx.size)
      | (go_at_call 124; refine (bnumber_any wa.heap.size wa.heap.size (sizedL a ++ sizedL b) 2 1 false _ ?_ ?_ ?_ ?_ ?_).mono ?_; (· assumption); (· omega); (· omega); (· have := LA.out; have := LB.out; rw [List.length_append]; omega); (· omega); rintro e wx ⟨rfl, hBx, hbx⟩; have hzx := hbx.size)
      | (go_at_call_of 116 (Value.string c); refine (btext_any wa.heap.size wa.heap.size (sizedL a ++ sizedL b ++ numL 2 1 false 1) c _ ?_ ?_ ?_).mono ?_; (· assumption); (· have := LA.out; have := LB.out; have := LN.out; simp only [List.length_append, this]; omega); (· omega); rintro e wx ⟨rfl, hBx, hbx⟩; have hzx := hbx.size)
      | (go_at_call_of 116 (Value.string d); refine (btext_any wa.heap.size wa.heap.size (sizedL a ++ sizedL b ++ numL 2 1 false 1 ++ c.data.toList) d _ ?_ ?_ ?_).mono ?_; (· assumption); (· have := LA.out; have := LB.out; have := LN.out; have hcl : c.data.toList.length = c.size := rfl; simp only [List.length_append, this, hcl]; omega); (· omega); rintro e wx ⟨rfl, hBx, hbx⟩; have hzx := hbx.size))
    go_wp2_with (go_at_call 58; refine (string_any 110 wa.heap.size wa.heap.size _ _ hBx ?_).mono ?_; (· intro h; have := congrArg List.length h; simp only [List.length_append, LN.out, List.length_nil] at this; omega); rintro e wz ⟨rfl, hbz⟩)
    go_ret
    have hz : Below wa.heap.size wa wz := by
     refine Below.trans ?_ hbz
     repeat' (first | (refine Below.trans ?_ (by assumption)))
     (repeat' (first | exact Below.refl _ _ | (with_reducible assumption) | (with_reducible refine Below.setCell ?_ zq_37 _) | refine below_then ?_ (by assumption) | (with_reducible refine below_new2 ?_ _) | (with_reducible refine Below.drew ?_) | (with_reducible refine bdrewN ?_ _)))
    refine ⟨?_, by (repeat' (first | exact Below.refl _ _ | (with_reducible assumption) | (with_reducible refine Below.setCell ?_ zq_37 _) | refine below_then ?_ (by assumption) | (with_reducible refine below_new2 ?_ _) | (with_reducible refine Below.drew ?_) | (with_reducible refine bdrewN ?_ _)))⟩; rw [HE.out]; refine congrArg (fun z => Ending.returned (.string z)) (encList a b c d 2 (by decide) ?_); rw [isEmpty_size, decide_eq_true_eq] at hc hd; simp [flagsOf, hc, hd]
  ·by_cases hd : d.toList.isEmpty = true
   ·go_enter Tryd.func67, Tryd.ntmps67
    go_wp2_with (first | (go_at_call 123; refine (nodeValid_any _ _ _ _ _ _).mono ?_; rintro e wa ⟨rfl, hb_wa⟩; obtain ⟨hc_wa, hf_wa⟩ := bcell hb_wa; have hz_wa := hb_wa.size; (try simp only [World.size_alloc, World.size_setCell, World.size_drew] at hz_wa); (try simp only [World.size_alloc, World.size_setCell, World.size_drew] at hc_wa); (try simp only [World.size_alloc, World.size_setCell, World.size_drew] at hf_wa); (try have q_w_0_wa : w.heap.size < wa.heap.size := by omega)))
    have hS : wa.cell? ⟨w.heap.size, 0, none⟩ = some (.string a) ∧ wa.cell? ⟨w.heap.size, 1, none⟩ = some (.string b) ∧ wa.cell? ⟨w.heap.size, 2, none⟩ = some (.string c) ∧ wa.cell? ⟨w.heap.size, 3, none⟩ = some (.string d) := by
     refine ⟨?_, ?_, ?_, ?_⟩ <;> (rw [hc_wa _ _ (by omega)]; simp [go_sem])
    obtain ⟨e0, e1, e2, e3⟩ := hS; clear hc_wa hf_wa
    go_wp2
    go_region_held3 (fun w' => w'.cell? ⟨w.heap.size, 0, none⟩ = some (.string a) ∧ w'.cell? ⟨w.heap.size, 1, none⟩ = some (.string b) ∧ w'.cell? ⟨w.heap.size, 2, none⟩ = some (.string c) ∧ w'.cell? ⟨w.heap.size, 3, none⟩ = some (.string d))
     (first
      | exact held4BB (B := wa.heap.size) (by assumption) (by simp; omega) (by assumption)
      | assumption
      | (go_keep; done))
     (first
      | (go_at_call_of 117 (Value.string a); refine (bsized_any wa.heap.size wa.heap.size [] a _ ?_ ?_ ?_ ?_).mono ?_; (· exact Bld.fresh _ wa.drew); (· omega); (· simp; done); (· simp; done); rintro e wx ⟨rfl, hBx, hbx⟩; rw [List.nil_append] at hBx; have hzx := hbx.size; simp only [World.size_alloc, World.size_drew] at hzx)
      | (go_at_call_of 117 (Value.string b); refine (bsized_any wa.heap.size wa.heap.size (sizedL a) b _ ?_ ?_ ?_ ?_).mono ?_; (· assumption); (· omega); (· have := LA.out; omega); (· omega); rintro e wx ⟨rfl, hBx, hbx⟩; have hzx := hbx.size)
      | (go_at_call 124; refine (bnumber_any wa.heap.size wa.heap.size (sizedL a ++ sizedL b) 1 1 false _ ?_ ?_ ?_ ?_ ?_).mono ?_; (· assumption); (· omega); (· omega); (· have := LA.out; have := LB.out; rw [List.length_append]; omega); (· omega); rintro e wx ⟨rfl, hBx, hbx⟩; have hzx := hbx.size)
      | (go_at_call_of 116 (Value.string c); refine (btext_any wa.heap.size wa.heap.size (sizedL a ++ sizedL b ++ numL 1 1 false 1) c _ ?_ ?_ ?_).mono ?_; (· assumption); (· have := LA.out; have := LB.out; have := LN.out; simp only [List.length_append, this]; omega); (· omega); rintro e wx ⟨rfl, hBx, hbx⟩; have hzx := hbx.size)
      | (go_at_call_of 116 (Value.string d); refine (btext_any wa.heap.size wa.heap.size (sizedL a ++ sizedL b ++ numL 1 1 false 1 ++ c.data.toList) d _ ?_ ?_ ?_).mono ?_; (· assumption); (· have := LA.out; have := LB.out; have := LN.out; have hcl : c.data.toList.length = c.size := rfl; simp only [List.length_append, this, hcl]; omega); (· omega); rintro e wx ⟨rfl, hBx, hbx⟩; have hzx := hbx.size))
    go_wp2_with (go_at_call 58; refine (string_any 110 wa.heap.size wa.heap.size _ _ hBx ?_).mono ?_; (· intro h; have := congrArg List.length h; simp only [List.length_append, LN.out, List.length_nil] at this; omega); rintro e wz ⟨rfl, hbz⟩)
    go_ret
    have hz : Below wa.heap.size wa wz := by
     refine Below.trans ?_ hbz
     repeat' (first | (refine Below.trans ?_ (by assumption)))
     (repeat' (first | exact Below.refl _ _ | (with_reducible assumption) | (with_reducible refine Below.setCell ?_ zq_37 _) | refine below_then ?_ (by assumption) | (with_reducible refine below_new2 ?_ _) | (with_reducible refine Below.drew ?_) | (with_reducible refine bdrewN ?_ _)))
    refine ⟨?_, by (repeat' (first | exact Below.refl _ _ | (with_reducible assumption) | (with_reducible refine Below.setCell ?_ zq_37 _) | refine below_then ?_ (by assumption) | (with_reducible refine below_new2 ?_ _) | (with_reducible refine Below.drew ?_) | (with_reducible refine bdrewN ?_ _)))⟩; rw [HE.out]; refine congrArg (fun z => Ending.returned (.string z)) (encList a b c d 1 (by decide) ?_); rw [isEmpty_size, decide_eq_true_eq] at hc hd; simp [flagsOf, hc, hd]
   ·go_enter Tryd.func67, Tryd.ntmps67
    go_wp2_with (first | (go_at_call 123; refine (nodeValid_any _ _ _ _ _ _).mono ?_; rintro e wa ⟨rfl, hb_wa⟩; obtain ⟨hc_wa, hf_wa⟩ := bcell hb_wa; have hz_wa := hb_wa.size; (try simp only [World.size_alloc, World.size_setCell, World.size_drew] at hz_wa); (try simp only [World.size_alloc, World.size_setCell, World.size_drew] at hc_wa); (try simp only [World.size_alloc, World.size_setCell, World.size_drew] at hf_wa); (try have q_w_0_wa : w.heap.size < wa.heap.size := by omega)))
    have hS : wa.cell? ⟨w.heap.size, 0, none⟩ = some (.string a) ∧ wa.cell? ⟨w.heap.size, 1, none⟩ = some (.string b) ∧ wa.cell? ⟨w.heap.size, 2, none⟩ = some (.string c) ∧ wa.cell? ⟨w.heap.size, 3, none⟩ = some (.string d) := by
     refine ⟨?_, ?_, ?_, ?_⟩ <;> (rw [hc_wa _ _ (by omega)]; simp [go_sem])
    obtain ⟨e0, e1, e2, e3⟩ := hS; clear hc_wa hf_wa
    go_wp2
    go_region_held3 (fun w' => w'.cell? ⟨w.heap.size, 0, none⟩ = some (.string a) ∧ w'.cell? ⟨w.heap.size, 1, none⟩ = some (.string b) ∧ w'.cell? ⟨w.heap.size, 2, none⟩ = some (.string c) ∧ w'.cell? ⟨w.heap.size, 3, none⟩ = some (.string d))
     (first
      | exact held4BB (B := wa.heap.size) (by assumption) (by simp; omega) (by assumption)
      | assumption
      | (go_keep; done))
     (first
      | (go_at_call_of 117 (Value.string a); refine (bsized_any wa.heap.size wa.heap.size [] a _ ?_ ?_ ?_ ?_).mono ?_; (· exact Bld.fresh _ wa.drew); (· omega); (· simp; done); (· simp; done); rintro e wx ⟨rfl, hBx, hbx⟩; rw [List.nil_append] at hBx; have hzx := hbx.size; simp only [World.size_alloc, World.size_drew] at hzx)
      | (go_at_call_of 117 (Value.string b); refine (bsized_any wa.heap.size wa.heap.size (sizedL a) b _ ?_ ?_ ?_ ?_).mono ?_; (· assumption); (· omega); (· have := LA.out; omega); (· omega); rintro e wx ⟨rfl, hBx, hbx⟩; have hzx := hbx.size)
      | (go_at_call 124; refine (bnumber_any wa.heap.size wa.heap.size (sizedL a ++ sizedL b) 3 1 false _ ?_ ?_ ?_ ?_ ?_).mono ?_; (· assumption); (· omega); (· omega); (· have := LA.out; have := LB.out; rw [List.length_append]; omega); (· omega); rintro e wx ⟨rfl, hBx, hbx⟩; have hzx := hbx.size)
      | (go_at_call_of 116 (Value.string c); refine (btext_any wa.heap.size wa.heap.size (sizedL a ++ sizedL b ++ numL 3 1 false 1) c _ ?_ ?_ ?_).mono ?_; (· assumption); (· have := LA.out; have := LB.out; have := LN.out; simp only [List.length_append, this]; omega); (· omega); rintro e wx ⟨rfl, hBx, hbx⟩; have hzx := hbx.size)
      | (go_at_call_of 116 (Value.string d); refine (btext_any wa.heap.size wa.heap.size (sizedL a ++ sizedL b ++ numL 3 1 false 1 ++ c.data.toList) d _ ?_ ?_ ?_).mono ?_; (· assumption); (· have := LA.out; have := LB.out; have := LN.out; have hcl : c.data.toList.length = c.size := rfl; simp only [List.length_append, this, hcl]; omega); (· omega); rintro e wx ⟨rfl, hBx, hbx⟩; have hzx := hbx.size))
    go_wp2_with (go_at_call 58; refine (string_any 110 wa.heap.size wa.heap.size _ _ hBx ?_).mono ?_; (· intro h; have := congrArg List.length h; simp only [List.length_append, LN.out, List.length_nil] at this; omega); rintro e wz ⟨rfl, hbz⟩)
    go_ret
    have hz : Below wa.heap.size wa wz := by
     refine Below.trans ?_ hbz
     repeat' (first | (refine Below.trans ?_ (by assumption)))
     (repeat' (first | exact Below.refl _ _ | (with_reducible assumption) | (with_reducible refine Below.setCell ?_ zq_37 _) | refine below_then ?_ (by assumption) | (with_reducible refine below_new2 ?_ _) | (with_reducible refine Below.drew ?_) | (with_reducible refine bdrewN ?_ _)))
    refine ⟨?_, by (repeat' (first | exact Below.refl _ _ | (with_reducible assumption) | (with_reducible refine Below.setCell ?_ zq_37 _) | refine below_then ?_ (by assumption) | (with_reducible refine below_new2 ?_ _) | (with_reducible refine Below.drew ?_) | (with_reducible refine bdrewN ?_ _)))⟩; rw [HE.out]; refine congrArg (fun z => Ending.returned (.string z)) (encList a b c d 3 (by decide) ?_); rw [isEmpty_size, decide_eq_true_eq] at hc hd; simp [flagsOf, hc, hd]
 ·have he : encNode a b c d x = ⟨#[]⟩ := by unfold encNode; rw [if_neg hok]
  have HE := Lib.hid he; clear he
  go_enter Tryd.func67, Tryd.ntmps67
  go_wp2_with (first | (go_at_call 123; refine (nodeValid_any _ _ _ _ _ _).mono ?_; rintro e wa ⟨rfl, hb_wa⟩; obtain ⟨hc_wa, hf_wa⟩ := bcell hb_wa; have hz_wa := hb_wa.size; (try simp only [World.size_alloc, World.size_setCell, World.size_drew] at hz_wa); (try simp only [World.size_alloc, World.size_setCell, World.size_drew] at hc_wa); (try simp only [World.size_alloc, World.size_setCell, World.size_drew] at hf_wa); skip))
  all_goals
   go_ret
   exact ⟨by rw [HE.out]; rfl, by (repeat' (first | exact Below.refl _ _ | (with_reducible assumption) | (with_reducible refine Below.setCell ?_ zq_37 _) | refine below_then ?_ (by assumption) | (with_reducible refine below_new2 ?_ _) | (with_reducible refine Below.drew ?_) | (with_reducible refine bdrewN ?_ _)))⟩
end Go.Proofs.YtaepebkeijmjgaaDoor
end
section
namespace Go.Proofs.YtaepebkeijmjgaaDoor.Z
open RowKit YtaepebkeijmjgaaDoor
set_option linter.all false
def spec_EncodeNode.f (a0_0 a0_1 a0_2 a0_3 : ByteArray) (a1 : Int) : Option ByteArray := some (encNode a0_0 a0_1 a0_2 a0_3 a1)
theorem spec_EncodeNode.calls (a0_0 a0_1 a0_2 a0_3 : ByteArray) (a1 : Int) (r : ByteArray) (w : World) (h : spec_EncodeNode.f a0_0 a0_1 a0_2 a0_3 a1 = some r) :
  Calls Tryd.prog 63 #[.agg #[.string a0_0, .string a0_1, .string a0_2, .string a0_3], .int .i64 a1] w fun e w' => e = .returned (.string r) ∧ Below w.heap.size w w' := by
 obtain rfl := Option.some.inj h; exact specEncodeNode_any _ _ _ _ _ _
end Go.Proofs.YtaepebkeijmjgaaDoor.Z
end
section
namespace Go.Proofs.YtaepebkeijmjgaaDoor.Z
open RowKit YtaepebkeijmjgaaDoor YtaepebkeijmjgaaDoorW.PrintWords YtaepebkeijmjgaaDoorW.PrintLast
set_option linter.all false
def nText (s : ByteArray) : ByteArray := (⟨#[78]⟩ : ByteArray) ++ s
theorem catL_n (s : ByteArray) : catL [⟨#[78]⟩, s] = (nText s).data.toList := by simp [catL, nText, ByteArray.data_append]
theorem hashN_any (s : ByteArray) (W w : World) (hW : W = w.alloc (.cells #[.string ⟨#[78]⟩, .string s] 9)) (ht : Tab w) (hs : s.size ≤ 4294967200) :
  Calls Tryd.prog 128 #[.slice (some ⟨w.heap.size, 0, none⟩) 2 2] W fun e w' => e = .returned (hashV (shaL (nText s).data.toList)) ∧ Below w.heap.size w w' := by
 subst hW; have h := hashOf_any w.heap.size [⟨#[78]⟩, s] (w.alloc (.cells #[.string ⟨#[78]⟩, .string s] 9)) (fun j p hj => by
  rw [cell_of_row _ _ _ _ _ _ (heap_alloc_new _ _)]
  match j, hj with
  | 0, hj => simp only [List.getElem?_cons_zero, Option.some.injEq] at hj; subst hj; rfl
  | 1, hj => simp only [List.getElem?_cons_succ, List.getElem?_cons_zero, Option.some.injEq] at hj; subst hj; rfl) (ht.below zq_20) (by rw [catL_n, nText, ByteArray.data_append]; simp only [Array.toList_append, List.length_append]; show 1 + s.size ≤ _; omega) (by simp) (by simp)
 rw [catL_n] at h; refine h.mono ?_; rintro e w' ⟨h1, hb⟩; exact ⟨h1, ((Below.refl _ _).alloc (Nat.le_refl _) _).trans (hb.mono (by simp))⟩
def nodeHashV (a b c d : ByteArray) (x : Int) : ByteArray := if (encNode a b c d x).size = 0 then ⟨#[]⟩ else digV (nText (encNode a b c d x)) x
theorem encNode_size_le (a b c d : ByteArray) (x : Int) : (encNode a b c d x).size ≤ 4000 := by
 unfold encNode
 split
 ·rename_i h
  have hs : ∀ s : ByteArray, (sizedS s).size = 2 + s.size := by intro s; unfold sizedS; rw [ByteArray.size_append, ByteArray.size_append]; rfl
  have hb : ∀ y : Int, (byteS y).size = 1 := fun _ => rfl
  rw [ByteArray.size_append, ByteArray.size_append, ByteArray.size_append, ByteArray.size_append, hs, hs, hb]; unfold nodeOk isW hOk at h; simp only [Bool.and_eq_true, Bool.or_eq_true, decide_eq_true_eq] at h; omega
 ·decide
end Go.Proofs.YtaepebkeijmjgaaDoor.Z
end
section
namespace Go.Proofs.YtaepebkeijmjgaaDoor.Z
open RowKit YtaepebkeijmjgaaDoor YtaepebkeijmjgaaDoorW.PrintWords YtaepebkeijmjgaaDoorW.PrintLast
set_option linter.all false
set_option maxRecDepth 100000
def cutL (s : ByteArray) (n : Nat) : List Int := (shaL (nText s).data.toList).take n ++ List.replicate (32 - n) 0
theorem cutL_length (s : ByteArray) (n : Nat) (h : n ≤ 32) : (cutL s n).length = 32 := by
 unfold cutL; rw [List.length_append, List.length_take, shaL_length, List.length_replicate]; omega
def setL (cs : List Value) (o : Nat) : List Value → List Value
 | [] => cs
 | v :: r => setL (cs.set o v) (o + 1) r
theorem setL_all (z : Value) : ∀ (k : Nat) (cs : List Value) (o : Nat), o + k = cs.length → setL cs o (List.replicate k z) = cs.take o ++ List.replicate k z
 | 0, cs, o, h => by rw [List.replicate_zero, List.append_nil, setL, List.take_of_length_le (by omega)]
 | k + 1, cs, o, h => by
  rw [List.replicate_succ, setL, setL_all z k _ (o + 1) (by rw [List.length_set]; omega), List.take_succ_eq_append_getElem (by rw [List.length_set]; omega), List.getElem_set_self, List.take_set_of_le (Nat.le_refl _), List.append_assoc]; rfl
theorem setCells_row {b : Nat} {T : TypeId} : ∀ (vs cs : List Value) (o : Nat) (w : World), w.heap[b]? = some (.cells cs.toArray T (0, 0)) → (w.setCells b o vs).heap[b]? = some (.cells (setL cs o vs).toArray T (0, 0))
 | [], cs, o, w, h => h
 | v :: r, cs, o, w, h => by
  rw [World.setCells, setL]; exact setCells_row r (cs.set o v) (o + 1) _ (hset h rfl)
theorem setCells_other {b k : Nat} (hk : k ≠ b) : ∀ (vs : List Value) (o : Nat) (w : World), (w.setCells b o vs).heap[k]? = w.heap[k]?
 | [], _, _ => rfl
 | v :: r, o, w => by
  rw [World.setCells, setCells_other hk r (o + 1), heap_setCell_other _ _ _ _ hk]
theorem setCells_size (b : Nat) : ∀ (vs : List Value) (o : Nat) (w : World), (w.setCells b o vs).heap.size = w.heap.size
 | [], _, _ => rfl
 | v :: r, o, w => by rw [World.setCells, setCells_size b r (o + 1)]; simp
theorem setCells_outer (b : Nat) : ∀ (vs : List Value) (o : Nat) (w : World), (w.setCells b o vs).os = w.os ∧ (w.setCells b o vs).tape = w.tape ∧ (w.setCells b o vs).output = w.output
 | [], _, _ => ⟨rfl, rfl, rfl⟩
 | v :: r, o, w => by rw [World.setCells]; exact setCells_outer b r (o + 1) _
theorem below_setCells {B b : Nat} {w0 w : World} (h : Below B w0 w) (hb : B ≤ b) (vs : List Value) (o : Nat) : Below B w0 (w.setCells b o vs) := by
 obtain ⟨h1, h2, h3⟩ := setCells_outer b vs o w; exact ⟨h1.trans h.os, h2.trans h.tape, h3.trans h.output, by rw [setCells_size]; exact h.size, fun k hk => (setCells_other (by omega) vs o w).trans (h.block k hk)⟩
theorem below_setRow {B b : Nat} {w0 w : World} (h : Below B w0 w) (hb : B ≤ b) (cs : Array Value) : Below B w0 (w.setRow b cs) :=
 ⟨h.os, h.tape, h.output, by rw [setRow_size]; exact h.size, fun k hk => (setRow_other _ _ _ _ (by omega)).trans (h.block k hk)⟩
section
variable {P : Program} {w : World} {ops : Array Oper} {rest : List Oper} {o : Oper} {a : Act} {Q : Exit → Act → World → Prop}
theorem wpList_clear (hgd : o.guard = none) (x : Operand) (t : TypeId) (ho : o.op = .call { callee := .builtin .clear, args := #[x], argTypes := #[t] }) {v u : Value} {w1 : World} (hx : a.eval x = v) (hr : (Builtin.clear_ #[t] o.type #[v]).run P w = .ok u w1)
  (hK : wpList P ops Q rest (a.put o.dst u) w1) : wpList P ops Q (o :: rest) a w := by
 refine wpList_plain hgd fun K hK' => ?_
 unfold Oper.wp execOp; simp only [ho, resolve, invoke, builtin, Sem.run_bind, Sem.run_pure, Result.andThen_ok, List.map_toArray, List.map_cons, List.map_nil, hx, hr]; exact hK' _ _ hK
end
theorem hash_cells32 (l : List Int) (h : l.length = 32) : (Tryd.prog.info? 133).map (·.size) = some ((l.map (Value.int .u8)).toArray.size) := by
 rw [show ((l.map (Value.int .u8)).toArray.size) = 32 by simp [h]]; kernel_rfl
theorem hash_one (l : List Int) : ((l.map (Value.int .u8)).toArray).all (·.oneCell') = true := by simp [Value.oneCell']
theorem hashN_at (s : ByteArray) (g : Nat) (W w : World) (hg : g = w.heap.size) (hW : W = w.alloc (.cells #[.string ⟨#[78]⟩, .string s] 9)) (ht : Tab w) (hs : s.size ≤ 4294967200) :
  Calls Tryd.prog 128 #[.slice (some ⟨g, 0, none⟩) 2 2] W fun e w' => e = .returned (hashV (shaL (nText s).data.toList)) ∧ Below w.heap.size w w' := by
 subst hg; exact hashN_any s W w hW ht hs
def hashTail (g n : Nat) : Value := .slice (some (if 32 = n then ⟨g, 0, none⟩ else ⟨g, n, none⟩)) (32 - n) (32 - n)
theorem hash_slice (g n : Nat) (hn0 : 1 ≤ n) (hn : n ≤ 32) (W : World) : (Instr.sliceAt 133 (.pointer (some ⟨g, 0, none⟩)) (some (.int .i64 (n : Int))) none none).run Tryd.prog W = .ok (hashTail g n) W := by
 have hT : Tryd.prog.underlying 133 = some (.array (Tryd.prog.arrayLen 133) (Tryd.prog.elem 133)) := by kernel_rfl
 have hL : Tryd.prog.arrayLen 133 = 32 := by kernel_rfl
 have hZ : (sizeOf (Tryd.prog.elem 133)).run Tryd.prog W = .ok 1 W := by kernel_rfl
 rw [run_sliceAt_array_l W _ _ hT .i64 (n : Int) (by omega) (by rw [hL]; omega), hZ, hL]; have h0 : n ≠ 0 := by omega
 simp [slicedAt, hashTail, Addr.add, h0]
theorem hash_clear (g n : Nat) (hn : n ≤ 32) (l : List Int) (hl : l.length = 32) (W : World) (hW : W.heap[g]? = some (.cells (l.map (Value.int .u8)).toArray 133 (0, 0))) (ty : TypeId) :
  (Builtin.clear_ #[51] ty #[hashTail g n]).run Tryd.prog W = .ok (.tuple #[]) (W.setCells g n (List.replicate (32 - n) (.int .u8 0))) := by
 have hz : ∀ w, (zeroValue 5).run Tryd.prog w = .ok (.int .u8 0) w := fun _ => by kernel_rfl
 by_cases h : 32 = n
 ·subst h; have h1 := run_underlying (w := W) (P := Tryd.prog) Tryd.underlying51; simp [hashTail, Builtin.clear_, h1, hz, Builtin.zeroCells, World.setCells]
 ·unfold hashTail; rw [if_neg h]; exact Lib.run_clear_slice W 51 5 ty _ Tryd.underlying51 hz rfl rfl g n (32 - n) (32 - n) (by omega)
   (fun j hj => by rw [cell_of_row _ _ _ _ _ _ hW]; simp [hl]; omega) (fun j hj => frozen_of_row _ _ _ _ _ hW)
set_option maxHeartbeats 1000000 in
theorem cut_any (s : ByteArray) (n : Nat) (hn : 1 ≤ n) (hn2 : n ≤ 32) (hs : s.size ≤ 4294967200) (w : World) (ht : Tab w) :
  Calls Tryd.prog 79 #[.string s, .int .i64 n] w fun e w' => e = .returned (hashV (cutL s n)) ∧ Below w.heap.size w w' := by
 have HT := Lib.hid ht; clear ht
 go_enter Tryd.func79, Tryd.ntmps79
 go_wp2_with fail
 refine (hashN_at s _ _ _ (by simp) rfl (HT.out.below zq_20) hs).mono ?_; rintro e w1 ⟨rfl, hb1⟩; have hz1 := hb1.size; simp only [World.size_alloc] at hz1; have hR4 : w1.heap[w.heap.size]? = some (.cells ((List.replicate 32 (Value.int .u8 0)).toArray) 133 (0, 0)) := (hb1.block _ (by simp)).trans (heap_alloc_new _ _); have hB1 : Below w.heap.size w w1 := ((Below.refl _ _).alloc (Nat.le_refl _) _).trans (hb1.mono (by simp)); obtain ⟨S, hS⟩ : ∃ S, shaL (nText s).data.toList = S := ⟨_, rfl⟩
 have hSl : S.length = 32 := by rw [← hS]; exact shaL_length _
 have hcut : cutL s n = S.take n ++ List.replicate (32 - n) 0 := by unfold cutL; rw [hS]
 rw [hS]; have HS := Lib.hid hS; clear hS; have HCUT := Lib.hid hcut; clear hcut; have HI := Lib.hid (hash_cells32 S hSl); have H1 := Lib.hid (hash_one S); have HSL := Lib.hid hSl; clear hSl; have HR4 := Lib.hid hR4; clear hR4; have hR5 : (w1.alloc (.cells ((List.replicate 32 (Value.int .u8 0)).toArray) 133)).heap[w1.heap.size]? = some (.cells ((List.replicate 32 (Value.int .u8 0)).toArray) 133 (0, 0)) := heap_alloc_new _ _; have HR5 := Lib.hid hR5; clear hR5; have hsz : ((List.replicate 32 (Value.int .u8 0)).toArray).size = ((S.map (Value.int .u8)).toArray).size := by have := HSL.out; simp [this]
 have HSZ := Lib.hid hsz; clear hsz; have hsl := hash_slice w1.heap.size n hn hn2; have hrow := setRow_heap _ _ _ ((S.map (Value.int .u8)).toArray) _ _ HR5.out; have HCL := Lib.hid (hash_clear w1.heap.size n hn2 S HSL.out _ hrow 0); obtain ⟨C, hC⟩ : ∃ C, cutL s n = C := ⟨_, rfl⟩
 have hCl : C.length = 32 := by rw [← hC]; exact cutL_length s n hn2
 have hCm : setL (S.map (Value.int .u8)) n (List.replicate (32 - n) (.int .u8 0)) = C.map (Value.int .u8) := by
  rw [setL_all _ _ _ _ (by rw [List.length_map, HSL.out]; omega), ← hC, HCUT.out]; simp
 have hR6 := setCells_row (List.replicate (32 - n) (.int .u8 0)) (S.map (Value.int .u8)) n _ hrow; rw [hCm] at hR6; have hR7 := (setCells_other (show w.heap.size ≠ w1.heap.size by omega) (List.replicate (32 - n) (Value.int .u8 0)) n ((w1.alloc (.cells ((List.replicate 32 (Value.int .u8 0)).toArray) 133)).setRow w1.heap.size (S.map (Value.int .u8)).toArray)).trans ((setRow_other _ _ _ _ (show w.heap.size ≠ w1.heap.size by omega)).trans ((heap_alloc_old w1 _ (by omega)).trans HR4.out)); have HR6 := Lib.hid hR6; have HR7 := Lib.hid hR7; have HJ := Lib.hid (hash_cells32 C hCl); have H2 := Lib.hid (hash_one C); have hsz2 : ((List.replicate 32 (Value.int .u8 0)).toArray).size = ((C.map (Value.int .u8)).toArray).size := by simp [hCl]
 have HSZ2 := Lib.hid hsz2; have hBx : Below w.heap.size w (((w1.alloc (.cells ((List.replicate 32 (Value.int .u8 0)).toArray) 133)).setRow w1.heap.size (S.map (Value.int .u8)).toArray).setCells w1.heap.size n (List.replicate (32 - n) (.int .u8 0))) :=
  below_setCells (below_setRow (hB1.alloc (by omega) _) (by omega) _) (by omega) _ _
 have HBX := Lib.hid hBx; have HCC := Lib.hid hC; clear hrow hC hCm hR6 hR7 hsz2 hBx hCl
 go_wp2_with (first | refine wpList_store_row rfl 133 _ _ rfl w1.heap.size _ rfl rfl _ _ HR5.out HI.out HSZ.out H1.out ?_ | refine wpList_clear rfl _ 51 rfl rfl HCL.out ?_ | refine wpList_load_row rfl 133 _ rfl w1.heap.size rfl _ _ _ _ HR6.out Tryd.underlying133 rfl HJ.out ?_ | refine wpList_store_row rfl 133 _ _ rfl w.heap.size _ rfl rfl _ _ HR7.out HJ.out HSZ2.out H2.out ?_)
 refine bodyPost_ret (v := hashV C) (results_cell_row Tryd.results79 _ _ w.heap.size 133 _ (0, 0) _ rfl (setRow_heap _ _ _ _ _ _ HR7.out) Tryd.underlying133 rfl HJ.out) rfl ⟨?_, ?_⟩
 ·rw [HCC.out]
 ·exact below_setRow HBX.out (Nat.le_refl _) _
end Go.Proofs.YtaepebkeijmjgaaDoor.Z
end
section
namespace Go.Proofs.YtaepebkeijmjgaaDoor.Z
open RowKit YtaepebkeijmjgaaDoor YtaepebkeijmjgaaDoorW.PrintWords YtaepebkeijmjgaaDoorW.PrintLast
set_option linter.all false
set_option maxRecDepth 100000
def H32 (l : List Int) : Prop := l.length = 32 ∧ ∀ x ∈ l, 0 ≤ x ∧ x < 256
def firstAt : List (List Int) → List Int → Option Nat
 | [], _ => none
 | c :: r, l => if c = l then some 0 else (firstAt r l).map (· + 1)
theorem firstAt_lt : ∀ (C : List (List Int)) (l : List Int) (i : Nat), firstAt C l = some i → i < C.length
 | [], _, _, h => by cases h
 | c :: r, l, i, h => by
  unfold firstAt at h
  split at h
  ·obtain rfl := Option.some.inj h; simp
  ·obtain ⟨j, hj, rfl⟩ := Option.map_eq_some_iff.1 h; have := firstAt_lt r l j hj; simp; omega
theorem firstAt_snoc (C : List (List Int)) (c l : List Int) : firstAt (C ++ [c]) l = match firstAt C l with
  | some i => some i
  | none => if c = l then some C.length else none := by
 induction C with
 | nil => simp [firstAt]
 | cons d r ih =>
  simp only [List.cons_append, firstAt]
  by_cases h : d = l
  ·rw [if_pos h, if_pos h]
  ·rw [if_neg h, if_neg h, ih]
   cases firstAt r l with
   | some i => rfl
   | none =>
    dsimp only
    by_cases h2 : c = l
    ·simp [h2]
    ·simp [h2]
theorem laidOutX : laidOutB Tryd.prog = true := by kernel_rfl
theorem hashLaw : Maps.Keyed Tryd.prog 133 := Maps.Keyed.of_law (deep_law_laid laidOutX (m := 2) (by omega) (of_decide_eq_true (by kernel_rfl)) (by kernel_rfl) (by kernel_rfl))
theorem lit_u8 (x : Int) (h : 0 ≤ x ∧ x < 256) : (Lit.int .u8 x).wf = true := by
 have hmin : IntKind.u8.min = 0 := rfl; have hmax : IntKind.u8.max = 255 := rfl; simp only [Lit.wf, Bool.and_eq_true, decide_eq_true_eq, hmin, hmax]; omega
theorem mapM_one (P : Program) (d : Nat) (e : TypeId) (l : List Int) (he : P.underlying e = some (.int .u8)) (hc : P.cellsOf e = 1) (hb : ∀ x ∈ l, 0 ≤ x ∧ x < 256) : ∀ (k j : Nat), j + k = l.length →
  ((List.range' j k).mapM fun i => P.keyLits (d + 1) e (((l.map (Value.int .u8)).drop (i * P.cellsOf e)).take (P.cellsOf e))) = some ((l.drop j).map fun x => [Lit.int .u8 x])
 | 0, j, h => by
  rw [List.drop_of_length_le (by omega)]; rfl
 | k + 1, j, h => by
  have h1 := mapM_one P d e l he hc hb k (j + 1) (by omega); have hd : l.drop j = l[j] :: l.drop (j + 1) := List.drop_eq_getElem_cons (by omega); rw [List.range'_succ, List.mapM_cons, h1, hd]; have : P.keyLits (d + 1) e (((l.map (Value.int .u8)).drop (j * P.cellsOf e)).take (P.cellsOf e)) = some [Lit.int .u8 l[j]] := by
   rw [hc, Nat.mul_one, ← List.map_drop, hd, List.map_cons, List.take_succ_cons, List.take_zero]; unfold Program.keyLits; rw [he]; simp [lit_u8 _ (hb l[j] (List.getElem_mem _))]
  rw [this]; rfl
theorem flat_one {α β : Type} (f : α → β) : ∀ l : List α, l.flatMap (fun x => [f x]) = l.map f
 | [] => rfl
 | a :: r => by rw [List.flatMap_cons, flat_one f r]; rfl
theorem hash_key (l : List Int) (h : H32 l) : ∃ kl, keyOf Tryd.prog 133 (hashV l) = some kl := by
 have hT : Tryd.prog.underlying 133 = some (.array 32 5) := by kernel_rfl
 have hE : Tryd.prog.underlying 5 = some (.int .u8) := by kernel_rfl
 have hcT : Tryd.prog.cellsOf 133 = 32 := by kernel_rfl
 have hcE : Tryd.prog.cellsOf 5 = 1 := by kernel_rfl
 have hk : Tryd.prog.keyType 133 = true := by kernel_rfl
 have hsz : ∃ n, Tryd.prog.types.size = n + 1 := ⟨Tryd.prog.types.size - 1, by have : 0 < Tryd.prog.types.size := of_decide_eq_true (by kernel_rfl); omega⟩
 obtain ⟨n, hn⟩ := hsz; have hf : (hashV l).formed Tryd.prog 133 = true := by
  unfold hashV Value.formed; rw [hT, hcT]; simp [h.1]
 have hL : Tryd.prog.keyLits (Tryd.prog.types.size + 1) 133 ((hashV l).cells.toList) = some (l.map (Lit.int .u8)) := by
  have hcs : (hashV l).cells.toList = l.map (Value.int .u8) := by simp [hashV, Value.cells]
  rw [hcs, hn]; unfold Program.keyLits; rw [hT]; dsimp only; rw [if_pos (by rw [List.length_map, hcT, h.1]), List.range_eq_range', mapM_one Tryd.prog n 5 l hE hcE h.2 32 0 (by rw [h.1]), List.drop_zero]; rw [Option.map_some, ← List.flatMap_def, flat_one]
 unfold keyOf; rw [hT]; dsimp only; rw [hk, hf, hL]; exact ⟨_, rfl⟩
theorem hash_key_ne {l m : List Int} {kl km : Lit} (h : keyOf Tryd.prog 133 (hashV l) = some kl) (h2 : keyOf Tryd.prog 133 (hashV m) = some km) (hne : l ≠ m) : kl ≠ km := by
 rintro rfl; have h3 := hashLaw.inj h h2; unfold hashV at h3; injection h3 with h4
 refine hne ?_; have h5 : l.map (Value.int .u8) = m.map (Value.int .u8) := by simpa using h4
 exact (List.map_inj_right (fun a b hab => by injection hab)).1 h5
def PlaceIs (C : List (List Int)) (D : DataW Unit) : Prop := Maps.IsMap D ∧ ∀ l kl, keyOf Tryd.prog 133 (hashV l) = some kl → Maps.has D kl = (firstAt C l).isSome ∧ D.atKey kl (.lit (.int .i64 0)) = .lit (.int .i64 (((firstAt C l).getD 0 : Nat) : Int))
theorem PlaceIs.start : PlaceIs [] (.map []) := ⟨Maps.isMap_empty, fun l kl h => ⟨rfl, rfl⟩⟩
theorem PlaceIs.same {C : List (List Int)} {D : DataW Unit} (h : PlaceIs C D) {c : List Int} {i : Nat} (hc : firstAt C c = some i) : PlaceIs (C ++ [c]) D := by
 refine ⟨h.1, fun l kl hk => ?_⟩; have := h.2 l kl hk; rw [firstAt_snoc]
 cases hl : firstAt C l with
 | some j => rw [hl] at this; exact this
 | none =>
  rw [hl] at this; dsimp only; rw [if_neg (fun e => by rw [e, hl] at hc; cases hc)]; exact this
theorem PlaceIs.new {C : List (List Int)} {D : DataW Unit} (h : PlaceIs C D) {c : List Int} {kc : Lit} (hkc : keyOf Tryd.prog 133 (hashV c) = some kc) (hc : firstAt C c = none) : PlaceIs (C ++ [c]) (D.put kc (.lit (.int .i64 (C.length : Int)))) := by
 refine ⟨h.1.put _ _, fun l kl hk => ?_⟩; have := h.2 l kl hk; rw [firstAt_snoc]
 by_cases e : c = l
 ·subst e; obtain rfl : kc = kl := by rw [hkc] at hk; exact Option.some.inj hk
  rw [hc]; dsimp only; rw [if_pos rfl]; exact ⟨Maps.has_put_same h.1 (hashLaw.key hkc) _, Maps.atKey_put_same h.1 (hashLaw.key hkc) _ _⟩
 ·have hne := hash_key_ne hk hkc (fun e' => e e'.symm); rw [Maps.has_put_other hne, Maps.atKey_put_other hne]
  cases hl : firstAt C l with
  | some j => rw [hl] at this; exact this
  | none => rw [hl] at this; dsimp only; rw [if_neg e]; exact this
end Go.Proofs.YtaepebkeijmjgaaDoor.Z
end
section
namespace Go.Proofs.YtaepebkeijmjgaaDoor.Z
open RowKit YtaepebkeijmjgaaDoor YtaepebkeijmjgaaDoorW.PrintWords YtaepebkeijmjgaaDoorW.PrintLast
set_option linter.all false
set_option maxRecDepth 100000
def strs (l : List ByteArray) : List Value := l.map Value.string
theorem strs_length (l : List ByteArray) : (strs l).length = l.length := by simp [strs]
theorem strs_app (l m : List ByteArray) : strs (l ++ m) = strs l ++ strs m := by simp [strs]
structure Idx (base b m : Nat) (v : Value) (W : Int) (encs : List ByteArray) (C : List (List Int)) (w : World) : Prop where
 row : w.heap[b]? = some (.cells #[.int .i64 W, v, .map (some m)] 140 (0, 0))
 own : Own w base 1 v encs.length (strs encs)
 map : ∃ D : DataW Unit, w.ownsMap Tryd.prog 133 (plainElem Tryd.prog 3) m encs.length D ∧ PlaceIs C D
 hb : base ≤ b
 hm : base ≤ m
 nm : m ≠ b
 vb : v.ownBlock ≠ some b
 vm : v.ownBlock ≠ some m
 len : C.length = encs.length
section
variable {base b m : Nat} {v : Value} {W : Int} {encs : List ByteArray} {C : List (List Int)} {w w1 : World}
theorem Idx.lt (h : Idx base b m v W encs C w) : b < w.heap.size := lt_of_block h.row
theorem Idx.ltm (h : Idx base b m v W encs C w) : m < w.heap.size := by obtain ⟨D, h1, _⟩ := h.map; exact h1.lt
theorem Idx.below (h : Idx base b m v W encs C w) (hB : Below w.heap.size w w1) : Idx base b m v W encs C w1 := by
 obtain ⟨D, h1, h2⟩ := h.map; exact { h with
  row := (hB.block b h.lt).trans h.row
  own := h.own.below hB
  map := ⟨D, h1.kept (row := none) ⟨hB.os, hB.tape, hB.output, hB.size, fun k hk _ => hB.block k hk⟩ (by simp), h2⟩ }
theorem Idx.c0 (h : Idx base b m v W encs C w) : w.cell? ⟨b, 0, none⟩ = some (.int .i64 W) := (cell_of_row _ _ _ _ _ _ h.row).trans rfl
theorem Idx.c1 (h : Idx base b m v W encs C w) : w.cell? ⟨b, 1, none⟩ = some v := (cell_of_row _ _ _ _ _ _ h.row).trans rfl
theorem Idx.c2 (h : Idx base b m v W encs C w) : w.cell? ⟨b, 2, none⟩ = some (.map (some m)) := (cell_of_row _ _ _ _ _ _ h.row).trans rfl
theorem Idx.f (h : Idx base b m v W encs C w) (i : Nat) : w.frozen? ⟨b, i, none⟩ = false := frozen_of_row _ _ _ _ _ h.row
end
theorem Idx.app {base b m : Nat} {v v' : Value} {W : Int} {encs : List ByteArray} {C : List (List Int)} {c : List Int} {s : ByteArray} {w0 w w' : World} (h : Idx base b m v W encs C w0) (hrow : w.heap[b]? = some (.cells #[.int .i64 W, v, .map (some m)] 140 (0, 0)))
  (hmap : ∃ D : DataW Unit, w.ownsMap Tryd.prog 133 (plainElem Tryd.prog 3) m (encs.length + 1) D ∧ PlaceIs (C ++ [c]) D) (hg : w.grownBy w' v.ownBlock) (ho : Own w' base 1 v' (encs.length + 1) (strs encs ++ [Value.string s]))
  (hv : v'.ownBlock = v.ownBlock ∨ ∀ k, v'.ownBlock = some k → w.heap.size ≤ k) : Idx base b m v' W (encs ++ [s]) (C ++ [c]) (w'.setCell ⟨b, 1, none⟩ v') := by
 have hbl := lt_of_block hrow; obtain ⟨D, hm1, hm2⟩ := hmap; have hml := hm1.lt; have vb : v'.ownBlock ≠ some b := by
  rcases hv with e | e
  ·rw [e]; exact h.vb
  ·intro e2; have := e b e2; omega
 have vm : v'.ownBlock ≠ some m := by
  rcases hv with e | e
  ·rw [e]; exact h.vm
  ·intro e2; have := e m e2; omega
 have hr1 : w'.heap[b]? = some (.cells #[.int .i64 W, v, .map (some m)] 140 (0, 0)) := (hg.block b hbl (fun e => h.vb e.symm)).trans hrow; refine ⟨?_, ?_, ⟨D, ?_, hm2⟩, h.hb, h.hm, h.nm, vb, vm, by rw [List.length_append, List.length_append, h.len]; rfl⟩
 ·have := heap_setCell_same w' b 1 _ _ v' hr1; rw [this]; rfl
 ·rw [List.length_append, strs_app]; exact ho.set vb _
 ·have h2 : w'.ownsMap Tryd.prog 133 (plainElem Tryd.prog 3) m (encs.length + 1) D := hm1.kept hg (fun e => h.vm e.symm); rw [show (encs ++ [s]).length = encs.length + 1 by simp]; exact h2.setCell (by exact h.nm) _
theorem Idx.slot {base b m : Nat} {v : Value} {W : Int} {encs : List ByteArray} {C : List (List Int)} {w0 w w' : World} (h : Idx base b m v W encs C w0) (hrow : w.heap[b]? = some (.cells #[.int .i64 W, v, .map (some m)] 140 (0, 0))) (hg : w.grownBy w' v.ownBlock) :
  w'.cell? ⟨b, 1, none⟩ = some v ∧ w'.frozen? ⟨b, 1, none⟩ = false := by
 have hr1 : w'.heap[b]? = some (.cells #[.int .i64 W, v, .map (some m)] 140 (0, 0)) := (hg.block b (lt_of_block hrow) (fun e => h.vb e.symm)).trans hrow; exact ⟨(cell_of_row _ _ _ _ _ _ hr1).trans rfl, frozen_of_row _ _ _ _ _ hr1⟩
theorem Idx.grown {base b m : Nat} {v : Value} {W : Int} {encs : List ByteArray} {C : List (List Int)} {w w1 : World} (h : Idx base b m v W encs C w) {B : Nat} (hg : w.grownBy w1 (some B)) (hb : B ≠ b) (hm : B ≠ m) (hv : v.ownBlock ≠ some B) : Idx base b m v W encs C w1 := by
 obtain ⟨D, h1, h2⟩ := h.map; exact { h with
  row := (hg.block b h.lt (fun e => hb (Option.some.inj e).symm)).trans h.row
  own := h.own.grown hg (fun k hk e => hv (by rw [hk, e]))
  map := ⟨D, h1.kept hg (fun e => hm (Option.some.inj e).symm), h2⟩ }
theorem infoStr : (Tryd.prog.info? 9).map (fun i => (i.zero, i.size, i.bytes)) = some (some (.string ⟨#[]⟩), 1, 16) := by kernel_rfl
theorem zeroInt (w : World) : (zeroValue 3).run Tryd.prog w = .ok (.int .i64 0) w := by kernel_rfl
theorem wpQuiet_load {P : Program} {ops : Array Oper} {C : World → Prop} {Q : Act → Prop} {a : Act} {o : Oper} {rest : List Oper} (hg : o.guard = none) (ty : TypeId) (x : Operand) (ho : o.op = .load ty x) (p v : Value) (hx : a.eval x = p)
  (hrun : ∀ w, C w → (Instr.loadAt ty p).run P w = .ok v w) (h : wpQuiet P ops C Q rest (a.put o.dst v)) : wpQuiet P ops C Q (o :: rest) a := by
 unfold wpQuiet; rw [if_pos (by simp [Region.wanted, hg])]; refine ⟨v, fun w hw => ?_, h⟩; unfold Oper.quietAt execOp; simp only [ho, hx, Sem.run_bind, hrun w hw, Result.andThen_ok, Sem.run_pure]; exact ⟨rfl, rfl⟩
theorem wpStill_load {P : Program} {ops : Array Oper} {w : World} {Q : Act → Prop} {a : Act} {o : Oper} {rest : List Oper} (hg : o.guard = none) (ty : TypeId) (x : Operand) (ho : o.op = .load ty x) (p v : Value) (hx : a.eval x = p)
  (hrun : (Instr.loadAt ty p).run P w = .ok v w) (h : wpStill P ops w Q rest (a.put o.dst v)) : wpStill P ops w Q (o :: rest) a := by
 unfold wpStill; rw [if_pos (by simp [Region.wanted, hg])]; unfold Oper.still execOp; simp only [ho, hx, Sem.run_bind, hrun, Result.andThen_ok, Sem.run_pure]; exact ⟨rfl, h⟩
theorem hash_load (c : List Int) (hl : c.length = 32) (g : Nat) (W : World) (hg : W.heap[g]? = some (.cells (c.map (Value.int .u8)).toArray 133 (0, 0))) :
  (Instr.loadAt 133 (.pointer (some ⟨g, 0, none⟩))).run Tryd.prog W = .ok (hashV c) W := by
 simp only [Instr.loadAt, Instr.sureAddr, Sem.run_bind, Sem.run_pure, Result.andThen_ok]; exact run_loadVar_row W g _ _ _ _ _ hg Tryd.underlying133 rfl (hash_cells32 c hl)
theorem place_look {m n : Nat} {D : DataW Unit} {C : List (List Int)} {w : World} (h : w.ownsMap Tryd.prog 133 (plainElem Tryd.prog 3) m n D) (hp : PlaceIs C D) (c : List Int) (hc : H32 c) :
  (Instr.lookup 138 (.map (some m)) (hashV c) true).run Tryd.prog w = .ok (.tuple #[.int .i64 (((firstAt C c).getD 0 : Nat) : Int), .bool (firstAt C c).isSome]) w := by
 obtain ⟨kl, hk⟩ := hash_key c hc; obtain ⟨h1, h2⟩ := hp.2 c kl hk; obtain ⟨v, ps, hrun, hv⟩ := h.look_ok hashLaw Tryd.underlying138 (zeroInt w) (plainElem_int Tryd.underlying3 (by decide)) hk; obtain ⟨x, rfl, hx, _⟩ := plainElem_int_inv Tryd.underlying3 hv; rw [hrun, h1]; rw [h2] at hx; have h3 := congrArg Prod.fst hx; simp only [DataW.lit.injEq, Lit.int.injEq, true_and] at h3; rw [← h3]
set_option maxHeartbeats 2000000 in
theorem idxAdd_old (base b m : Nat) (v : Value) (W : Int) (encs : List ByteArray) (C : List (List Int)) (c : List Int) (s : ByteArray) (i : Nat) (w : World) (h : Idx base b m v W encs C w) (hc : H32 c) (hi : firstAt C c = some i) (hn : encs.length ≤ 1073741824) (hbase : base ≤ w.heap.size) :
  Calls Tryd.prog 80 #[.pointer (some ⟨b, 0, none⟩), hashV c, .string s] w fun e w' => e = .returned (.tuple #[]) ∧ (∃ v', Idx base b m v' W (encs ++ [s]) (C ++ [c]) w') ∧ Below base w w' := by
 obtain ⟨VA, VC, rfl⟩ := h.own.form; obtain ⟨D, hown, hpl⟩ := h.map; have hw1 : (w.alloc (.cells (c.map (Value.int .u8)).toArray 133)).heap[w.heap.size]? = some (.cells (c.map (Value.int .u8)).toArray 133 (0, 0)) := heap_alloc_new _ _; have HX := Lib.hid (h.below ((Below.refl _ _).alloc (Nat.le_refl _) (.cells (c.map (Value.int .u8)).toArray 133))); have kl := fun n => hash_load c hc.1 w.heap.size ((w.alloc (.cells (c.map (Value.int .u8)).toArray 133)).drewN n) hw1
 have kp := fun n => place_look (w := (w.alloc (.cells (c.map (Value.int .u8)).toArray 133)).drewN n) (hown.alloc _) hpl c hc
 rw [hi] at kp; have h0 := h.c0; have h1 := h.c1; have h2 := h.c2; have hf := h.f; have hlt := h.lt; have HI := Lib.hid hi; have HC := Lib.hid hc; have HH := Lib.hid h; clear hi hc h hown hpl hw1; unfold hashV at kl kp ⊢
 go_enter Tryd.func80, Tryd.ntmps80
 go_wp2_with fail
 refine wp_region_quiet_lit (by kernel_rfl) (by kernel_rfl) ?_
 iterate 4 (quiet_step (fail))
 refine wpQuiet_load rfl 133 _ rfl _ _ rfl (fun w' ⟨n, hn⟩ => by subst hn; exact kl n) ?_
 repeat (quiet_step (fail))
 refine wpQuiet_nil ?_; intro _ hw'; obtain ⟨nq, hw''⟩ := hw'; subst hw''; have hrow : (((w.alloc (.cells (c.map (Value.int .u8)).toArray 133)).drewN nq).alloc (.cells #[Value.string s] 9)).heap[b]? = some (.cells #[.int .i64 W, .slice VA encs.length VC, .map (some m)] 140 (0, 0)) :=
  (HX.out.below ((Below.refl _ _).alloc (Nat.le_refl _) (.cells #[Value.string s] 9))).row
 have hown : Own (((w.alloc (.cells (c.map (Value.int .u8)).toArray 133)).drewN nq).alloc (.cells #[Value.string s] 9)) base 1 (.slice VA encs.length VC) encs.length (strs encs) :=
  (HX.out.below ((Below.refl _ _).alloc (Nat.le_refl _) (.cells #[Value.string s] 9))).own
 have hsrc := src_one ((w.alloc (.cells (c.map (Value.int .u8)).toArray 133)).drewN nq) 28 9 9 Tryd.underlying28 (.string s) rfl; rw [show ((w.alloc (.cells (c.map (Value.int .u8)).toArray 133)).drewN nq).heap.size = w.heap.size + 1 by simp] at hsrc; have HROW := Lib.hid hrow; have HOWN := Lib.hid hown; have HSRC := Lib.hid hsrc; have hbel : Below base w (((w.alloc (.cells (c.map (Value.int .u8)).toArray 133)).drewN nq).alloc (.cells #[Value.string s] 9)) := (bdrewN ((Below.refl _ _).alloc hbase _) nq).alloc (by simp; omega) _; have hmp : ∃ D : DataW Unit, (((w.alloc (.cells (c.map (Value.int .u8)).toArray 133)).drewN nq).alloc (.cells #[Value.string s] 9)).ownsMap Tryd.prog 133 (plainElem Tryd.prog 3) m (encs.length + 1) D ∧ PlaceIs (C ++ [c]) D := by
  obtain ⟨D, h1, h2⟩ := (HX.out.below ((Below.refl _ _).alloc (Nat.le_refl _) (.cells #[Value.string s] 9))).map; exact ⟨D, h1.mono (by omega), h2.same HI.out⟩
 have HMP := Lib.hid hmp; have HBEL := Lib.hid hbel; clear hrow hown hsrc hbel hmp kl kp hf
 go_wp2_with (at_builtin; go_loud (refine wpList_app base rfl _ _ 28 28 rfl 9 (.string ⟨#[]⟩) 1 16 Tryd.underlying28 infoStr rfl rfl HOWN.out _ 1 [Value.string s] rfl HSRC.out (by unfold maxLen; omega) (by omega) (by simp; omega) ?_; intro v' w' hown' hgrow hvv; obtain ⟨A', c', rfl⟩ := hown'.form; have HO' := Lib.hid hown'; have HG' := Lib.hid hgrow; have HV' := Lib.hid hvv; clear hown' hgrow hvv; have hs1 := (HH.out.slot HROW.out HG'.out).1; have hs2 := (HH.out.slot HROW.out HG'.out).2))
 go_end0
 refine ⟨rfl, ⟨_, HH.out.app HROW.out HMP.out HG'.out HO'.out HV'.out⟩, ?_⟩; have h5 : Below base w w' := HBEL.out.grown HG'.out (by simp; omega) (fun k hk => (HH.out.own.lt k hk).1); exact h5.setCell HH.out.hb _
set_option maxHeartbeats 2000000 in
theorem idxAdd_newF (base b m : Nat) (v : Value) (W : Int) (encs : List ByteArray) (C : List (List Int)) (c : List Int) (s : ByteArray) (w : World) (h : Idx base b m v W encs C w) (hc : H32 c) (hi : firstAt C c = none) (hn : encs.length ≤ 1073741824) (hbase : base ≤ w.heap.size) :
  Calls Tryd.prog 80 #[.pointer (some ⟨b, 0, none⟩), hashV c, .string s] w fun e w' => e = .returned (.tuple #[]) ∧ ∃ v', Idx base b m v' W (encs ++ [s]) (C ++ [c]) w' ∧ Below base w w' ∧ (v'.ownBlock = v.ownBlock ∨ ∀ k, v'.ownBlock = some k → w.heap.size ≤ k) ∧ ∀ k, k < w.heap.size → k ≠ b → k ≠ m → v.ownBlock ≠ some k → w'.heap[k]? = w.heap[k]? := by
 obtain ⟨VA, VC, rfl⟩ := h.own.form; obtain ⟨D, hown, hpl⟩ := h.map; have hw1 : (w.alloc (.cells (c.map (Value.int .u8)).toArray 133)).heap[w.heap.size]? = some (.cells (c.map (Value.int .u8)).toArray 133 (0, 0)) := heap_alloc_new _ _; have HX := Lib.hid (h.below ((Below.refl _ _).alloc (Nat.le_refl _) (.cells (c.map (Value.int .u8)).toArray 133))); have kl := fun n => hash_load c hc.1 w.heap.size ((w.alloc (.cells (c.map (Value.int .u8)).toArray 133)).drewN n) hw1
 have kp := fun n => place_look (w := (w.alloc (.cells (c.map (Value.int .u8)).toArray 133)).drewN n) (hown.alloc _) hpl c hc
 rw [hi] at kp; have h0 := h.c0; have h1 := h.c1; have h2 := h.c2; have hf := h.f; have hlt := h.lt; have HI := Lib.hid hi; have HC := Lib.hid hc; have HH := Lib.hid h; clear hi hc h hown hpl hw1; unfold hashV at kl kp ⊢
 go_enter Tryd.func80, Tryd.ntmps80
 go_wp2_with fail
 refine wp_region_quiet_lit (by kernel_rfl) (by kernel_rfl) ?_
 iterate 4 (quiet_step (fail))
 refine wpQuiet_load rfl 133 _ rfl _ _ rfl (fun w' ⟨n, hn⟩ => by subst hn; exact kl n) ?_
 repeat (quiet_step (fail))
 refine wpQuiet_nil ?_; intro _ hw'; obtain ⟨nq, hw''⟩ := hw'; subst hw''
 go_wp2_with fail
 obtain ⟨W1, hW1⟩ : ∃ W1, W1 = (w.alloc (.cells (c.map (Value.int .u8)).toArray 133)).drewN nq := ⟨_, rfl⟩
 have hX1 : Idx base b m (.slice VA encs.length VC) W encs C W1 := by rw [hW1]; exact HX.out.below (bdrewN (Below.refl _ _) nq)
 have hr1 : W1.heap[w.heap.size]? = some (.cells (c.map (Value.int .u8)).toArray 133 (0, 0)) := by rw [hW1]; exact heap_alloc_new _ _
 have hz1 : W1.heap.size = w.heap.size + 1 := by rw [hW1]; simp
 have hB1 : Below base w W1 := by rw [hW1]; exact bdrewN ((Below.refl _ _).alloc hbase _) nq
 have HB9 : Hid (Below w.heap.size w W1) := Lib.hid (by rw [hW1]; exact bdrewN ((Below.refl _ _).alloc (Nat.le_refl _) _) nq); rw [← hW1]; clear kl kp h0 h1 h2 hf hW1 HX hlt; have h0 := hX1.c0; have h1 := hX1.c1; have h2 := hX1.c2; have hf := hX1.f; have kl := hash_load c HC.out.1 w.heap.size W1.drew hr1; have HX := Lib.hid hX1; have HZ := Lib.hid hz1; clear hX1 hz1
 go_still_tail 10, (by kernel_rfl)
 refine wpStill_load rfl 133 _ rfl _ (hashV c) rfl kl ?_
 repeat still_step
 try refine wpStill_nil ?_
 obtain ⟨D1, hm1, hp1⟩ := HX.out.map; obtain ⟨kc, hkc⟩ := hash_key c HC.out; have hm1' : W1.drew.ownsMap Tryd.prog 133 (plainElem Tryd.prog 3) m encs.length D1 := hm1; have HM1 := Lib.hid hm1'; have HP1 := Lib.hid hp1; have HKC := Lib.hid hkc; have HB1 := Lib.hid hB1; clear hm1 hm1' hp1 hkc hB1 kl hr1 h0 h1 h2 hf
 change wpList _ _ _ _ _ W1.drew
 go_wp2_with (first | (at_mapUpdate; go_loud (refine wpList_mapUpdate_own _ rfl _ _ _ 138 rfl 133 3 hashLaw Tryd.underlying138 (plainElem Tryd.prog 3) m encs.length D1 rfl HM1.out (by unfold maxLen; omega) _ _ kc rfl rfl HKC.out (.lit (.int .i64 (encs.length : Int))) [] (plainElem_int Tryd.underlying3 (by go_wf)) ?_; intro w2 hm2 hg2; have HM2 := Lib.hid hm2; have HG2 := Lib.hid hg2; clear hm2 hg2; have HR2 := Lib.hid ((HG2.out.block b HX.out.lt (fun e => HX.out.nm (Option.some.inj e).symm)).trans HX.out.row); have hc2 := (cell_of_row _ _ 1 _ _ _ HR2.out).trans rfl; have hf2 := frozen_of_row _ _ 1 _ _ HR2.out; have HZ2 := Lib.hid (show W1.heap.size ≤ w2.heap.size from HG2.out.size); have HO2 := Lib.hid (HX.out.own.drew.grown HG2.out (fun k hk e => HX.out.vm (hk.trans e))); have HSRC := Lib.hid (src_one w2 28 9 9 Tryd.underlying28 (.string s) rfl); have HOWN := Lib.hid (HO2.out.alloc (.cells #[Value.string s] 9)); have HROW := Lib.hid ((heap_alloc_old w2 (.cells #[Value.string s] 9) (lt_of_block HR2.out)).trans HR2.out))) | (at_builtin; go_loud (refine wpList_app base rfl _ _ 28 28 rfl 9 (.string ⟨#[]⟩) 1 16 Tryd.underlying28 infoStr rfl rfl HOWN.out _ 1 [Value.string s] rfl HSRC.out (by unfold maxLen; omega) (by omega) (by have := HZ2.out; have := HZ.out; simp at this ⊢; omega) ?_; intro v' w' hown' hgrow hvv; obtain ⟨A', c', rfl⟩ := hown'.form; have HO' := Lib.hid hown'; have HG' := Lib.hid hgrow; have HV' := Lib.hid hvv; clear hown' hgrow hvv; have hs1 := (HH.out.slot HROW.out HG'.out).1; have hs2 := (HH.out.slot HROW.out HG'.out).2)))
 go_end0
 have hz2 := HZ2.out; have hz := HZ.out; have hmp : ∃ D : DataW Unit, (w2.alloc (.cells #[Value.string s] 9)).ownsMap Tryd.prog 133 (plainElem Tryd.prog 3) m (encs.length + 1) D ∧ PlaceIs (C ++ [c]) D := by
  refine ⟨_, HM2.out.alloc _, ?_⟩; have := HP1.out.new HKC.out HI.out; rw [HH.out.len] at this; exact this
 refine ⟨rfl, _, HH.out.app HROW.out hmp HG'.out HO'.out HV'.out, ?_, HV'.out.imp id (fun g k hk => by have := g k hk; simp at this; omega), fun k hk h1 h2 h3 => ?_⟩; rotate_left
 ·rw [heap_setCell_other _ _ _ _ h1, HG'.out.block k (by simp; omega) (fun e => h3 e.symm), heap_alloc_old w2 _ (by omega), HG2.out.block k (by show k < W1.heap.size; omega) (fun e => h2 (Option.some.inj e))]; exact HB9.out.block k hk
 have h4 : Below base w w2 := (HB1.out.drew).grown HG2.out (by show base ≤ W1.heap.size; omega) (fun k hk => by cases hk; exact HH.out.hm); have h6 : Below base w (w2.alloc (.cells #[Value.string s] 9)) := h4.alloc (Nat.le_trans hbase h4.size) _; have h5 : Below base w w' := h6.grown HG'.out (Nat.le_trans hbase h6.size) (fun k hk => (HH.out.own.lt k hk).1); exact h5.setCell HH.out.hb _
theorem idxAdd_new (base b m : Nat) (v : Value) (W : Int) (encs : List ByteArray) (C : List (List Int)) (c : List Int) (s : ByteArray) (w : World) (h : Idx base b m v W encs C w) (hc : H32 c) (hi : firstAt C c = none) (hn : encs.length ≤ 1073741824) (hbase : base ≤ w.heap.size) :
  Calls Tryd.prog 80 #[.pointer (some ⟨b, 0, none⟩), hashV c, .string s] w fun e w' => e = .returned (.tuple #[]) ∧ (∃ v', Idx base b m v' W (encs ++ [s]) (C ++ [c]) w') ∧ Below base w w' :=
 (idxAdd_newF base b m v W encs C c s w h hc hi hn hbase).mono fun _ _ ⟨h1, v', h2, h3, _⟩ => ⟨h1, ⟨v', h2⟩, h3⟩
end Go.Proofs.YtaepebkeijmjgaaDoor.Z
end
section
namespace Go.Proofs.YtaepebkeijmjgaaDoor
open RowKit
set_option linter.all false
def Rdr (b : Nat) (r : ByteArray) (bad : Bool) (w : World) : Prop := w.heap[b]? = some (.cells #[.string r, .bool bad] 169)
section
variable {b : Nat} {r : ByteArray} {bad : Bool} {w w1 : World}
theorem Rdr.c0 (h : Rdr b r bad w) : w.cell? ⟨b, 0, none⟩ = some (.string r) := by
 unfold Rdr at h; simp [World.cell?, h]
theorem Rdr.c1 (h : Rdr b r bad w) : w.cell? ⟨b, 1, none⟩ = some (.bool bad) := by
 unfold Rdr at h; simp [World.cell?, h]
theorem Rdr.f (h : Rdr b r bad w) (i : Nat) : w.frozen? ⟨b, i, none⟩ = false := by
 unfold Rdr at h; simp [World.frozen?, h]
theorem Rdr.lt (h : Rdr b r bad w) : b < w.heap.size := by
 rcases Nat.lt_or_ge b w.heap.size with h' | h'
 ·exact h'
 ·unfold Rdr at h; simp [Array.getElem?_eq_none h'] at h
theorem Rdr.below (h : Rdr b r bad w) (hb : Below w.heap.size w w1) : Rdr b r bad w1 := (hb.block b h.lt).trans h
theorem Rdr.grown (h : Rdr b r bad w) {row : Option Nat} (hb : w.grownBy w1 row) (hn : some b ≠ row) : Rdr b r bad w1 := (hb.block b h.lt hn).trans h
theorem Rdr.fresh (s : ByteArray) (w : World) : Rdr w.heap.size s false (w.alloc (.cells #[.string s, .bool false] 169)) := by
 show (w.heap.push _)[w.heap.size]? = _; simp
end
theorem wrap_i64 (n : Nat) (h : n < 9223372036854775808) : IntKind.i64.wrap (n : Int) = n := by
 simp [IntKind.wrap, IntKind.bits, IntKind.signed]; omega
end Go.Proofs.YtaepebkeijmjgaaDoor
end
section
namespace Go.Proofs.YtaepebkeijmjgaaDoor
open RowKit
set_option linter.all false



end Go.Proofs.YtaepebkeijmjgaaDoor
end
section
namespace Go.Proofs.YtaepebkeijmjgaaDoor.Z
open RowKit YtaepebkeijmjgaaDoor
set_option linter.all false

end Go.Proofs.YtaepebkeijmjgaaDoor.Z
end
section
namespace Go.Proofs.YtaepebkeijmjgaaDoor.Z
open RowKit YtaepebkeijmjgaaDoorW.PrintWords YtaepebkeijmjgaaDoorW.PrintLast YtaepebkeijmjgaaDoorW.PrintMore
attribute [local go_sem] max2_int min2_int max_two min_two max_three min_three max_four min_four
set_option linter.all false
def impl_isWidth.f (a0 : Int) : Option (Bool) := if a0 ≥ 1 then (some (decide (a0 ≤ 32))) else (some false)
set_option maxHeartbeats 8000000 in
set_option maxRecDepth 100000 in
theorem impl_isWidth.calls (a0 : Int) (r : Bool) (w : World) (h : impl_isWidth.f a0 = some r) :
  Calls Tryd.prog 93 #[.int .i64 a0] w fun e w' => e = .returned (.bool r) ∧ Drawn0 w w' := by
 have H : (if a0 ≥ 1 then (some (decide (a0 ≤ 32))) else (some false)) = some r := h; clear h
 by_cases c2 : a0 ≥ 1
 ·rw [if_pos c2] at H; have c2b0 : decide (1 ≤ a0) = true := decide_eq_true c2; clear c2; obtain rfl := Option.some.inj H
  go_enter Tryd.func93, Tryd.ntmps93
  go_wp2
  go_ret
  exact ⟨by first | rfl | (simp; done) | (simp [*]; done), by repeat (first | exact Drawn0.refl _ | apply Drawn0.step)⟩
 ·rw [if_neg c2] at H; have c2b0 : decide (1 ≤ a0) = false := decide_eq_false c2; clear c2; obtain rfl := Option.some.inj H
  go_enter Tryd.func93, Tryd.ntmps93
  go_wp2
  go_ret
  exact ⟨by first | rfl | (simp; done) | (simp [*]; done), by repeat (first | exact Drawn0.refl _ | apply Drawn0.step)⟩
def impl_Pool_valid.f (a0_0 : Int) (l0_1 : List ByteArray) : Option (Bool) := (impl_isWidth.f a0_0).bind fun t510002 => (if t510002 = true then (some (decide ((l0_1.length : Int) ≤ 20000))) else (some false))
set_option maxHeartbeats 8000000 in
set_option maxRecDepth 100000 in
theorem impl_Pool_valid.calls (a0_0 : Int) (A0_1 : Option Addr) (c0_1 : Nat) (l0_1 : List ByteArray) (r : Bool) (w : World) (hr0_1 : Kd.C Kd.string w A0_1 l0_1.length l0_1) (hc0_1 : l0_1.length ≤ c0_1) (h : impl_Pool_valid.f a0_0 l0_1 = some r) :
  Calls Tryd.prog 51 #[.agg #[.int .i64 a0_0, .slice A0_1 l0_1.length c0_1]] w fun e w' => e = .returned (.bool r) ∧ Below w.heap.size w w' := by
 have hu34 := Tryd.underlying34; have HR0_1 := Aside0.mk hr0_1; have HC0_1 := Aside0.mk hc0_1; clear hr0_1 hc0_1; have HB := Aside0.mk (Below.refl w.heap.size w); have H : ((impl_isWidth.f a0_0).bind fun t510002 => (if t510002 = true then (some (decide ((l0_1.length : Int) ≤ 20000))) else (some false))) = some r := h; clear h; replace H := Option.bind_eq_some_iff.mp H; obtain ⟨t510002, A20, H⟩ := H; (try dsimp only at H); have A2 := Aside0.mk A20; clear A20
 by_cases c3 : t510002 = true
 ·subst c3; have H1 : (some (decide ((l0_1.length : Int) ≤ 20000))) = some r := by rw [if_pos rfl] at H; exact H
  clear H; have H := H1; clear H1; obtain rfl := Option.some.inj H
  go_enter Tryd.func51, Tryd.ntmps51
  go_wp2_with (first | ((with_reducible refine gate_dst (N := 1) rfl ?_); (try (refine gate_guard (by rfl) ?_; dsimp only)); refine box_event ?hg (N := 1) ?hd (cs := #[.int .i64 a0_0, .slice A0_1 l0_1.length c0_1]) (t := 34) ?hr ?_; (case hd => rfl); (case hg => rfl); (case hr => exact zq_9); intro gb510001 hg w4 hbox hb; have n0_ := Aside0.mk (below_step zq_0 hb); have n1_ := Aside0.mk (hbox); have n2_ := Aside0.mk ((by rw [hg]; exact (below_size zq_0) : w.heap.size ≤ gb510001)); have n3_ := Aside0.mk ((by rw [hg]; exact (below_size zq_0) : w.heap.size ≤ gb510001)); clear HB; have HB := n0_; have BK510001 := n1_; have GW510001 := n2_; have GE510001 := n3_; clear n0_ n1_ n2_ n3_; clear hb hbox hg; have hcz5_0 : w4.cell? ⟨gb510001, 0, none⟩ = some (.int .i64 a0_0) := (blk_cell BK510001.out 0).trans rfl; have hcz5_1 : w4.cell? ⟨gb510001, 1, none⟩ = some (.slice A0_1 l0_1.length c0_1) := (blk_cell BK510001.out 1).trans rfl; have hfz5_0 := blk_frozen BK510001.out 0; have hfz5_1 := blk_frozen BK510001.out 1) | ((with_reducible refine gate_callee (f := 93) rfl ?_); refine goesL_ (some 5) rfl rfl Tryd.func93 (by kernel_rfl) rfl #[.int .i64 a0_0] rfl zq_1 ?_; (with_reducible refine (impl_isWidth.calls a0_0 true _ A2.out).mono ?_); rintro e w' ⟨rfl, ⟨nd, rfl⟩⟩; refine ⟨_, rfl, ?_⟩))
  go_ret
  exact ⟨by first | rfl | (simp [errW_none, errW_some] <;> rfl) | (simp [*, errW_none, errW_some] <;> rfl), by repeat (first | (with_reducible first | exact HB.out | apply below_alloc | apply pw_below_drewN | apply below_drew1 | refine below_set ?_ GE510001.out) | exact HB.out)⟩
 ·replace c3 := Bool.eq_false_iff.mpr c3; subst c3; have H1 : (some false) = some r := by rw [if_neg (show ¬ (false = true) by decide)] at H; exact H
  clear H; have H := H1; clear H1; obtain rfl := Option.some.inj H
  go_enter Tryd.func51, Tryd.ntmps51
  go_wp2_with (first | ((with_reducible refine gate_dst (N := 1) rfl ?_); (try (refine gate_guard (by rfl) ?_; dsimp only)); refine box_event ?hg (N := 1) ?hd (cs := #[.int .i64 a0_0, .slice A0_1 l0_1.length c0_1]) (t := 34) ?hr ?_; (case hd => rfl); (case hg => rfl); (case hr => exact zq_9); intro gb510001 hg w6 hbox hb; have n0_ := Aside0.mk (below_step zq_0 hb); have n1_ := Aside0.mk (hbox); have n2_ := Aside0.mk ((by rw [hg]; exact (below_size zq_0) : w.heap.size ≤ gb510001)); have n3_ := Aside0.mk ((by rw [hg]; exact (below_size zq_0) : w.heap.size ≤ gb510001)); clear HB; have HB := n0_; have BK510001 := n1_; have GW510001 := n2_; have GE510001 := n3_; clear n0_ n1_ n2_ n3_; clear hb hbox hg; have hcz7_0 : w6.cell? ⟨gb510001, 0, none⟩ = some (.int .i64 a0_0) := (blk_cell BK510001.out 0).trans rfl; have hcz7_1 : w6.cell? ⟨gb510001, 1, none⟩ = some (.slice A0_1 l0_1.length c0_1) := (blk_cell BK510001.out 1).trans rfl; have hfz7_0 := blk_frozen BK510001.out 0; have hfz7_1 := blk_frozen BK510001.out 1) | ((with_reducible refine gate_callee (f := 93) rfl ?_); refine goesL_ (some 5) rfl rfl Tryd.func93 (by kernel_rfl) rfl #[.int .i64 a0_0] rfl zq_1 ?_; (with_reducible refine (impl_isWidth.calls a0_0 false _ A2.out).mono ?_); rintro e w' ⟨rfl, ⟨nd, rfl⟩⟩; refine ⟨_, rfl, ?_⟩))
  go_ret
  exact ⟨by first | rfl | (simp [errW_none, errW_some] <;> rfl) | (simp [*, errW_none, errW_some] <;> rfl), by repeat (first | (with_reducible first | exact HB.out | apply below_alloc | apply pw_below_drewN | apply below_drew1 | refine below_set ?_ GE510001.out) | exact HB.out)⟩
end Go.Proofs.YtaepebkeijmjgaaDoor.Z
end
section
namespace Go.Proofs.YtaepebkeijmjgaaDoor.Z
open RowKit YtaepebkeijmjgaaDoor YtaepebkeijmjgaaDoorW.PrintWords YtaepebkeijmjgaaDoorW.PrintLast
set_option linter.all false
set_option maxRecDepth 100000
theorem idxAdd_any (base b m : Nat) (v : Value) (W : Int) (encs : List ByteArray) (C : List (List Int)) (c : List Int) (s : ByteArray) (w : World) (h : Idx base b m v W encs C w) (hc : H32 c) (hn : encs.length ≤ 1073741824) (hbase : base ≤ w.heap.size) :
  Calls Tryd.prog 80 #[.pointer (some ⟨b, 0, none⟩), hashV c, .string s] w fun e w' => e = .returned (.tuple #[]) ∧ (∃ v', Idx base b m v' W (encs ++ [s]) (C ++ [c]) w') ∧ Below base w w' := by
 cases hi : firstAt C c with
 | none => exact idxAdd_new base b m v W encs C c s w h hc hi hn hbase
 | some i => exact idxAdd_old base b m v W encs C c s i w h hc hi hn hbase
theorem outB_mem (st : List Int) : ∀ n, ∀ x ∈ outB st n, 0 ≤ x ∧ x < 256
 | 0, x, hx => by simp [outB] at hx
 | n + 1, x, hx => by
  rw [outB] at hx
  rcases List.mem_append.1 hx with h | h
  ·exact outB_mem st n x h
  ·simp only [wordB, List.mem_cons, List.not_mem_nil, or_false] at h
   rcases h with rfl | rfl | rfl | rfl <;> omega
theorem shaL_mem (l : List UInt8) : ∀ x ∈ shaL l, 0 ≤ x ∧ x < 256 := outB_mem _ _
theorem cut_H32 (s : ByteArray) (n : Nat) (hn : n ≤ 32) : H32 (cutL s n) := by
 refine ⟨cutL_length s n hn, fun x hx => ?_⟩; unfold cutL at hx
 rcases List.mem_append.1 hx with h | h
 ·exact shaL_mem _ x (List.mem_of_mem_take h)
 ·have := List.eq_of_mem_replicate h; omega
def cuts (n : Nat) (encs : List ByteArray) : List (List Int) := encs.map fun s => cutL s n
theorem strs_read {w : World} {A : Option Addr} {l : List ByteArray} (h : Kd.C Kd.string w A l.length l) (hn : 0 < l.length) : ∃ ad, A = some ad ∧ ∀ i (hi : i < l.length), w.cell? (ad.add i) = some (.string l[i]) := by
 obtain ⟨ad, e, hc⟩ := h.2.2 hn; refine ⟨ad, e, fun i hi => ?_⟩; obtain ⟨c, hs, hr, hcell⟩ := hc i _ (List.getElem?_eq_getElem hi); have : c = [.string l[i]] := hr; subst this; have := hcell 0 _ rfl
 simpa [Kd.string, Kd.scalar] using this
set_option maxHeartbeats 2000000 in
theorem index_any (n : Nat) (hn1 : 1 ≤ n) (hn2 : n ≤ 32) (A : Option Addr) (c0 : Nat) (encs : List ByteArray) (w : World) (hr : Kd.C Kd.string w A encs.length encs) (hc : encs.length ≤ c0) (hlen : encs.length ≤ 1048576) (hsz : ∀ s ∈ encs, s.size ≤ 1048576) (ht : Tab w) :
  Calls Tryd.prog 52 #[.agg #[.int .i64 n, .slice A encs.length c0]] w fun e w' => (∃ b m v, e = .returned (.pointer (some ⟨b, 0, none⟩)) ∧ Idx w.heap.size b m v n encs (cuts n encs) w') ∧ Below w.heap.size w w' := by
 have HT := Lib.hid ht; clear ht; have HR := Lib.hid hr; clear hr; have HS := Lib.hid hsz; clear hsz; have hmm := @run_makeMap Tryd.prog; have hw0 : (w.alloc (.cells #[.int .i64 (n : Int), .slice A encs.length c0] 34)).heap[w.heap.size]? = some (.cells #[.int .i64 (n : Int), .slice A encs.length c0] 34 (0, 0)) := heap_alloc_new _ _; obtain ⟨W0, hW0⟩ : ∃ W0, W0 = w.alloc (.cells #[.int .i64 (n : Int), .slice A encs.length c0] 34) := ⟨_, rfl⟩
 have hz0 : W0.heap.size = w.heap.size + 1 := by rw [hW0]; simp
 have hB0 : Below w.heap.size w W0 := by rw [hW0]; exact (Below.refl _ _).alloc (Nat.le_refl _) _
 have HW0 := Lib.hid hw0; clear hw0; have HZ0 := Lib.hid hz0; clear hz0; have HB0 := Lib.hid hB0; clear hB0; have HWE := Lib.hid hW0; clear hW0
 go_enter Tryd.func52, Tryd.ntmps52
 go_wp2_with fail
 go_loopw [14] (fun i wr => ∃ j : Nat, j ≤ encs.length ∧ i = .int .i64 j ∧ (∃ v, Idx (w.heap.size + 1) (w.heap.size + 1 + 1) (w.heap.size + 1) v n (encs.take j) (cuts n (encs.take j)) wr) ∧ Below (w.heap.size + 1) W0 wr) (fun i _ => encs.length - (intOf i).toNat)
 case atStart =>
  refine ⟨0, by omega, rfl, ⟨.slice none 0 0, ?_⟩, ?_⟩
  ·rw [← HWE.out]; have hz := HZ0.out; refine ⟨?_, Own.nil _ _ _, ⟨.map [], ?_, PlaceIs.start⟩, by omega, by omega, by omega, by simp [Value.ownBlock], by simp [Value.ownBlock], rfl⟩
   ·have h := heap_alloc_new (W0.alloc (.map #[] 0)) (.cells #[.int .i64 (n : Int), .slice none 0 0, .map (some (w.heap.size + 1))] 140); rw [show (W0.alloc (.map #[] 0)).heap.size = w.heap.size + 1 + 1 by simp [hz]] at h; exact h
   ·have h := World.ownsMap_made W0 Tryd.prog 133 (plainElem (H := Unit) Tryd.prog 3); rw [hz] at h; exact h.alloc _
  ·rw [← HWE.out]; have hz := HZ0.out; exact ((Below.refl _ _).alloc (by omega) _).alloc (by simp; omega) _
 case round =>
  obtain ⟨j, hj, rfl, ⟨v, hI⟩, hB⟩ := hrel; have HI := Lib.hid hI; clear hI; have HB := Lib.hid hB; clear hB; have hrow : wr.heap[w.heap.size]? = some (.cells #[.int .i64 (n : Int), .slice A encs.length c0] 34 (0, 0)) := (HB.out.block _ (by omega)).trans (by rw [HWE.out]; exact HW0.out); have r0 : wr.cell? ⟨w.heap.size, 0, none⟩ = some (.int .i64 (n : Int)) := (cell_of_row _ _ _ _ _ _ hrow).trans rfl; have hBw : Below w.heap.size w wr := HB0.out.trans (HB.out.mono (by omega)); have HBw := Lib.hid hBw; clear hBw; clear hrow
  by_cases hl : j < encs.length
  ·obtain ⟨ad, rfl, had⟩ := strs_read HR.out (by omega); have hcell := cellB HBw.out (had j hl); have hs := HS.out encs[j] (List.getElem_mem _); obtain ⟨s, hse⟩ : ∃ s, encs[j] = s := ⟨_, rfl⟩
   rw [hse] at hcell hs; have HSE := Lib.hid hse; clear had hse; have j0 : (0 : Int) ≤ (j : Int) := by omega
   go_wp2_with fail
   refine (cut_any s n hn1 hn2 (by omega) _ (HT.out.below HBw.out)).mono ?_; rintro e w1 ⟨rfl, hb1⟩; have HI1 := Lib.hid (HI.out.below hb1); have hz1 := Nat.le_trans HB.out.size hb1.size; have hB1 : Below (w.heap.size + 1) W0 w1 := HB.out.trans (hb1.mono (by have := HB.out.size; have := HZ0.out; omega)); have HB1 := Lib.hid hB1; have hlt1 : (encs.take j).length ≤ 1073741824 := by rw [List.length_take]; omega
   have HLT := Lib.hid hlt1; have HZ1 := Lib.hid hz1; clear hcell hs r0 hb1 hz1 hB1 hlt1
   go_wp2_with fail
   refine (idxAdd_any _ _ _ _ _ _ _ _ s _ HI1.out (cut_H32 s n hn2) HLT.out (by have := HZ1.out; have := HZ0.out; omega)).mono ?_; rintro e w2 ⟨rfl, ⟨v2, hI2⟩, hb2⟩; have HI2 := Lib.hid hI2; clear hI2; have HB2 := Lib.hid hb2; clear hb2
   go_wp2
   go_roundw
   case rel =>
    refine ⟨j + 1, by omega, by go_num, ⟨v2, ?_⟩, HB1.out.trans HB2.out⟩; have h := HI2.out; rw [List.take_succ_eq_append_getElem hl, HSE.out]; unfold cuts at h ⊢; rw [List.map_append]; exact h
   case measure => simp [intOf]; omega
  ·obtain rfl : j = encs.length := by omega
   rw [List.take_length] at HI
   go_wp2
   go_ret
   refine ⟨⟨w.heap.size + 1 + 1, w.heap.size + 1, v, rfl, ?_⟩, HBw.out⟩; have h := HI.out; exact { h with own := h.own.lower (by omega), hb := by omega, hm := by omega }
end Go.Proofs.YtaepebkeijmjgaaDoor.Z
end
section
namespace Go.Proofs.YtaepebkeijmjgaaDoor.Z
set_option linter.all false
inductive Sh (α : Type) where
 | nil : Sh α
 | node (x : α) (l r : Sh α) : Sh α
section
variable {α : Type} (ab : α → α → Bool)
def bestF : α → Nat → Nat → List α → α × Nat
 | x, i, _, [] => (x, i)
 | x, i, j, y :: r => if ab y x = true then bestF y j (j + 1) r else bestF x i (j + 1) r
theorem bestF_snoc (p : α) : ∀ (l : List α) (x : α) (i j : Nat), bestF ab x i j (l ++ [p]) = if ab p (bestF ab x i j l).1 = true then (p, j + l.length) else bestF ab x i j l
 | [], x, i, j => by
  rw [List.nil_append, bestF, bestF]
  split
  ·rw [bestF]; rfl
  ·rw [bestF]
 | y :: r, x, i, j => by
  rw [List.cons_append, bestF, bestF]; have e : j + 1 + r.length = j + (y :: r).length := by rw [List.length_cons]; omega
  split
  ·rw [bestF_snoc p r, e]
  ·rw [bestF_snoc p r, e]
theorem bestF_place : ∀ (l : List α) (x : α) (i j : Nat), (bestF ab x i j l = (x, i)) ∨ ∃ k, l[k]? = some (bestF ab x i j l).1 ∧ (bestF ab x i j l).2 = j + k
 | [], x, i, j => .inl rfl
 | y :: r, x, i, j => by
  rw [bestF]
  split
  ·rcases bestF_place r y j (j + 1) with h | ⟨k, h1, h2⟩
   ·exact .inr ⟨0, by rw [h]; rfl, by rw [h]; rfl⟩
   ·exact .inr ⟨k + 1, by rw [List.getElem?_cons_succ]; exact h1, by rw [h2]; omega⟩
  ·rcases bestF_place r x i (j + 1) with h | ⟨k, h1, h2⟩
   ·exact .inl h
   ·exact .inr ⟨k + 1, by rw [List.getElem?_cons_succ]; exact h1, by rw [h2]; omega⟩
theorem bestF_get (a : α) (r : List α) : (a :: r)[(bestF ab a 0 1 r).2]? = some (bestF ab a 0 1 r).1 := by
 rcases bestF_place ab r a 0 1 with h | ⟨k, h1, h2⟩
 ·rw [h]; rfl
 ·rw [h2, show 1 + k = k + 1 by omega, List.getElem?_cons_succ, h1]
theorem bestF_lt (a : α) (r : List α) : (bestF ab a 0 1 r).2 < (a :: r).length := by
 have h := bestF_get ab a r
 rcases Nat.lt_or_ge (bestF ab a 0 1 r).2 (a :: r).length with g | g
 ·exact g
 ·rw [List.getElem?_eq_none g] at h; cases h
def cartF : Nat → List α → Sh α
 | 0, _ => .nil
 | _ + 1, [] => .nil
 | n + 1, a :: r => .node (bestF ab a 0 1 r).1 (cartF n ((a :: r).take (bestF ab a 0 1 r).2)) (cartF n ((a :: r).drop ((bestF ab a 0 1 r).2 + 1)))
theorem cartF_nil : ∀ n, cartF ab n [] = .nil
 | 0 => rfl
 | _ + 1 => rfl
theorem cartF_more : ∀ (n m : Nat) (l : List α), l.length ≤ n → l.length ≤ m → cartF ab n l = cartF ab m l
 | 0, m, l, h, _ => by rw [List.length_eq_zero_iff.1 (Nat.le_zero.1 h), cartF_nil, cartF_nil]
 | n + 1, 0, l, _, h => by rw [List.length_eq_zero_iff.1 (Nat.le_zero.1 h), cartF_nil, cartF_nil]
 | n + 1, m + 1, [], _, _ => rfl
 | n + 1, m + 1, a :: r, h1, h2 => by
  have hb := bestF_lt ab a r; rw [List.length_cons] at h1 h2 hb; rw [cartF, cartF, cartF_more n m ((a :: r).take _) (by rw [List.length_take, List.length_cons]; omega) (by rw [List.length_take, List.length_cons]; omega), cartF_more n m ((a :: r).drop _) (by rw [List.length_drop, List.length_cons]; omega) (by rw [List.length_drop, List.length_cons]; omega)]
def insR : Sh α → α → Sh α
 | .nil, p => .node p .nil .nil
 | .node x l r, p => if ab p x = true then .node p (.node x l r) .nil else .node x l (insR r p)
theorem cartF_snoc (p : α) : ∀ (n : Nat) (l : List α), l.length < n → cartF ab n (l ++ [p]) = insR ab (cartF ab n l) p
 | 0, l, h => absurd h (Nat.not_lt_zero _)
 | n + 1, [], _ => by rw [List.nil_append, cartF, cartF]; simp only [bestF]; rw [List.take_zero, List.drop_of_length_le (by simp), cartF_nil]; rfl
 | n + 1, a :: r, h => by
  have hb := bestF_lt ab a r; have hs := bestF_snoc ab p r a 0 1; rw [List.length_cons] at h hb; rw [List.cons_append, cartF, cartF]
  by_cases hp : ab p (bestF ab a 0 1 r).1 = true
  ·rw [if_pos hp] at hs; rw [hs]; dsimp only; rw [insR, if_pos hp]; have e1 : (a :: (r ++ [p])).take (1 + r.length) = a :: r := by
    rw [← List.cons_append, List.take_append_of_le_length (by rw [List.length_cons]; omega), List.take_of_length_le (by rw [List.length_cons]; omega)]
   have e2 : (a :: (r ++ [p])).drop (1 + r.length + 1) = [] := List.drop_of_length_le (by simp; omega); rw [e1, e2, cartF_nil]
   congr 1
   rw [cartF_more ab n (n + 1) (a :: r) (by rw [List.length_cons]; omega) (by rw [List.length_cons]; omega), cartF]
  ·rw [if_neg hp] at hs; rw [hs, insR, if_neg hp]; have e1 : (a :: (r ++ [p])).take (bestF ab a 0 1 r).2 = (a :: r).take (bestF ab a 0 1 r).2 := by
    rw [← List.cons_append, List.take_append_of_le_length (by rw [List.length_cons]; omega)]
   have e2 : (a :: (r ++ [p])).drop ((bestF ab a 0 1 r).2 + 1) = (a :: r).drop ((bestF ab a 0 1 r).2 + 1) ++ [p] := by
    rw [← List.cons_append, List.drop_append_of_le_length (by rw [List.length_cons]; omega)]
   rw [e1, e2, cartF_snoc p n _ (by rw [List.length_drop, List.length_cons]; omega)]
def cart (l : List α) : Sh α := cartF ab l.length l
theorem cart_snoc (l : List α) (p : α) : cart ab (l ++ [p]) = insR ab (cart ab l) p := by
 unfold cart; rw [cartF_snoc ab p _ l (by simp), cartF_more ab (l ++ [p]).length l.length l (by simp) (Nat.le_refl _)]
theorem cart_cons (a : α) (r : List α) : cart ab (a :: r) = .node (bestF ab a 0 1 r).1 (cart ab ((a :: r).take (bestF ab a 0 1 r).2)) (cart ab ((a :: r).drop ((bestF ab a 0 1 r).2 + 1))) := by
 have hb := bestF_lt ab a r; rw [List.length_cons] at hb; unfold cart; rw [List.length_cons, cartF, cartF_more ab r.length _ ((a :: r).take _) (by rw [List.length_take, List.length_cons]; omega) (Nat.le_refl _), cartF_more ab r.length _ ((a :: r).drop _) (by rw [List.length_drop, List.length_cons]; omega) (Nat.le_refl _)]
def Sh.list : Sh α → List α
 | .nil => []
 | .node x l r => l.list ++ x :: r.list
def edge : Sh α → List α
 | .nil => []
 | .node x _ r => x :: edge r
def graft : Nat → Sh α → α → Sh α
 | 0, t, p => .node p t .nil
 | _ + 1, .nil, p => .node p .nil .nil
 | m + 1, .node x l r, p => .node x l (graft m r p)
theorem graft_ins (p : α) : ∀ (t : Sh α) (m : Nat), m ≤ (edge t).length → (∀ i x, i < m → (edge t)[i]? = some x → ab p x = false) → (∀ x, (edge t)[m]? = some x → ab p x = true) → graft m t p = insR ab t p
 | .nil, 0, _, _, _ => rfl
 | .nil, m + 1, h, _, _ => absurd h (by simp [edge])
 | .node x l r, 0, _, _, h => by rw [graft, insR, if_pos (h x rfl)]
 | .node x l r, m + 1, h0, h1, h2 => by
  have := h1 0 x (by omega) rfl; rw [graft, insR, if_neg (by rw [this]; decide), graft_ins p r m (by simpa [edge] using h0) (fun i y hi hy => h1 (i + 1) y (by omega) (by rw [edge, List.getElem?_cons_succ]; exact hy)) (fun y hy => h2 y (by rw [edge, List.getElem?_cons_succ]; exact hy))]
theorem graft_edge (p : α) : ∀ (t : Sh α) (m : Nat), m ≤ (edge t).length → edge (graft m t p) = (edge t).take m ++ [p]
 | _, 0, _ => by rw [graft, edge, edge, List.take_zero]; rfl
 | .nil, m + 1, h => absurd h (by simp [edge])
 | .node x l r, m + 1, h => by rw [graft, edge, edge, List.take_succ_cons, graft_edge p r m (by simpa [edge] using h), List.cons_append]
def Down (l : List α) : Prop := l.Pairwise fun x y => ab y x = false
theorem down_snoc {l : List α} {p : α} (h : Down ab l) (hp : ∀ x ∈ l, ab p x = false) : Down ab (l ++ [p]) := by
 unfold Down at *; rw [List.pairwise_append]; exact ⟨h, List.pairwise_singleton _ _, fun x hx y hy => by rw [List.mem_singleton.1 hy]; exact hp x hx⟩
theorem kept_all (neg : ∀ x y z, ab x y = false → ab y z = false → ab x z = false) {l : List α} (h : Down ab l) (p : α) (m : Nat) (hm : ∀ x, 0 < m → l[m - 1]? = some x → ab p x = false) : ∀ i x, i < m → m ≤ l.length → l[i]? = some x → ab p x = false := by
 intro i x hi hml hx
 rcases Nat.lt_or_ge i (m - 1) with g | g
 ·have hl : m - 1 < l.length := by omega
  have hi' : i < l.length := by omega
  have h1 := hm l[m - 1] (by omega) (List.getElem?_eq_getElem hl); have h2 := List.pairwise_iff_getElem.1 h i (m - 1) hi' hl g; rw [List.getElem?_eq_getElem hi'] at hx
  cases hx
  exact neg _ _ _ h1 h2
 ·have : i = m - 1 := by omega
  subst this; exact hm x (by omega) hx
end
end Go.Proofs.YtaepebkeijmjgaaDoor.Z
end
section
namespace Go.Proofs.YtaepebkeijmjgaaDoor.Z
open RowKit YtaepebkeijmjgaaDoor YtaepebkeijmjgaaDoorW.PrintWords YtaepebkeijmjgaaDoorW.PrintLast
set_option linter.all false
set_option maxRecDepth 100000
structure Nd where
 b : Nat
 key : ByteArray
 val : ByteArray
 enc : ByteArray
 root : ByteArray
def keyL (k : ByteArray) : List Int := shaL k.data.toList
theorem keyL_length (k : ByteArray) : (keyL k).length = 32 := shaL_length _
def ptrB (b : Nat) : Value := .pointer (some ⟨b, 0, none⟩)
def ptrT : Sh Nd → Value
 | .nil => .pointer none
 | .node x _ _ => ptrB x.b
def rootT : Sh Nd → ByteArray
 | .nil => ⟨#[]⟩
 | .node x _ _ => x.root
def rowL (key val : ByteArray) (rk : List Int) (l r : Value) (enc root : ByteArray) : List Value := .string key :: .string val :: (rk.map (Value.int .u8) ++ [l, r, .string enc, .string root])
def rowT (x : Nd) (l r : Value) : Array Value := (rowL x.key x.val (keyL x.key) l r x.enc x.root).toArray
theorem rowT_key (x : Nd) (l r : Value) : (rowT x l r)[0]? = some (.string x.key) := by simp [rowT, rowL]
theorem rowT_val (x : Nd) (l r : Value) : (rowT x l r)[1]? = some (.string x.val) := by simp [rowT, rowL]
theorem rowL_tail (key val : ByteArray) (rk : List Int) (hr : rk.length = 32) (l r : Value) (enc root : ByteArray) (j : Nat) : (rowL key val rk l r enc root)[34 + j]? = [l, r, .string enc, .string root][j]? := by
 unfold rowL; rw [show 34 + j = (32 + j) + 1 + 1 by omega, List.getElem?_cons_succ, List.getElem?_cons_succ, List.getElem?_append_right (by simp [hr]), List.length_map, hr, show 32 + j - 32 = j by omega]
theorem rowT_left (x : Nd) (l r : Value) : (rowT x l r)[34]? = some l := by
 rw [rowT, List.getElem?_toArray]; exact rowL_tail _ _ _ (keyL_length _) _ _ _ _ 0
theorem rowT_right (x : Nd) (l r : Value) : (rowT x l r)[35]? = some r := by
 rw [rowT, List.getElem?_toArray]; exact rowL_tail _ _ _ (keyL_length _) _ _ _ _ 1
theorem rowT_enc (x : Nd) (l r : Value) : (rowT x l r)[36]? = some (.string x.enc) := by
 rw [rowT, List.getElem?_toArray]; exact rowL_tail _ _ _ (keyL_length _) _ _ _ _ 2
theorem rowT_root (x : Nd) (l r : Value) : (rowT x l r)[37]? = some (.string x.root) := by
 rw [rowT, List.getElem?_toArray]; exact rowL_tail _ _ _ (keyL_length _) _ _ _ _ 3
theorem rowL_put (key val : ByteArray) (rk : List Int) (hr : rk.length = 32) (l r : Value) (enc root : ByteArray) (j : Nat) (u : Value) : (rowL key val rk l r enc root).set (34 + j) u = .string key :: .string val :: (rk.map (Value.int .u8) ++ [l, r, .string enc, .string root].set j u) := by
 unfold rowL; rw [show 34 + j = (32 + j) + 1 + 1 by omega, List.set_cons_succ, List.set_cons_succ, List.set_append_right _ _ (by simp [hr]), List.length_map, hr, show 32 + j - 32 = j by omega]
theorem rowT_setLeft (x : Nd) (l r u : Value) : (rowT x l r).setIfInBounds 34 u = rowT x u r := by
 rw [rowT, List.setIfInBounds_toArray]; exact congrArg _ (rowL_put _ _ _ (keyL_length _) _ _ _ _ 0 u)
theorem rowT_setRight (x : Nd) (l r u : Value) : (rowT x l r).setIfInBounds 35 u = rowT x l u := by
 rw [rowT, List.setIfInBounds_toArray]; exact congrArg _ (rowL_put _ _ _ (keyL_length _) _ _ _ _ 1 u)
theorem rowT_setEnc (x : Nd) (l r : Value) (s : ByteArray) : (rowT x l r).setIfInBounds 36 (.string s) = rowT { x with enc := s } l r := by
 rw [rowT, List.setIfInBounds_toArray]; exact congrArg _ (rowL_put _ _ _ (keyL_length _) _ _ _ _ 2 _)
theorem rowT_setRoot (x : Nd) (l r : Value) (s : ByteArray) : (rowT x l r).setIfInBounds 37 (.string s) = rowT { x with root := s } l r := by
 rw [rowT, List.setIfInBounds_toArray]; exact congrArg _ (rowL_put _ _ _ (keyL_length _) _ _ _ _ 3 _)
theorem rank_load {w : World} {x : Nd} {l r : Value} (h : w.heap[x.b]? = some (.cells (rowT x l r) 136 (0, 0))) : (Instr.loadAt 133 (.pointer (some ⟨x.b, 2, none⟩))).run Tryd.prog w = .ok (hashV (keyL x.key)) w := by
 refine run_loadAt_mid (P := Tryd.prog) w x.b 2 133 ((keyL x.key).map (Value.int .u8)) _ ?_ Tryd.underlying133 rfl ?_
 ·intro j v hv; have hj : j < 32 := by
   rcases Nat.lt_or_ge j 32 with g | g
   ·exact g
   ·rw [List.getElem?_eq_none (by simp [keyL_length]; omega)] at hv; cases hv
  rw [cell_of_row _ _ _ _ _ _ h, rowT, List.getElem?_toArray, rowL, show 2 + j = j + 1 + 1 by omega, List.getElem?_cons_succ, List.getElem?_cons_succ, List.getElem?_append_left (by simp [keyL_length]; omega)]; exact hv
 ·rw [List.length_map, keyL_length]; kernel_rfl
def InM (w : World) : Sh Nd → Prop
 | .nil => True
 | .node x l r => w.heap[x.b]? = some (.cells (rowT x (ptrT l) (ptrT r)) 136 (0, 0)) ∧ InM w l ∧ InM w r
def blks : Sh Nd → List Nat
 | .nil => []
 | .node x l r => x.b :: (blks l ++ blks r)
theorem InM.lt {w : World} : ∀ {t : Sh Nd}, InM w t → ∀ b ∈ blks t, b < w.heap.size
 | .nil, _, b, hb => absurd hb (by simp [blks])
 | .node x l r, h, b, hb => by
  rcases List.mem_cons.1 hb with e | hb
  ·rw [e]; exact lt_of_block h.1
  ·rcases List.mem_append.1 hb with hb | hb
   ·exact h.2.1.lt b hb
   ·exact h.2.2.lt b hb
theorem InM.keep {w w1 : World} : ∀ {t : Sh Nd}, InM w t → (∀ b ∈ blks t, w1.heap[b]? = w.heap[b]?) → InM w1 t
 | .nil, _, _ => trivial
 | .node x l r, h, hb => ⟨(hb x.b (by simp [blks])).trans h.1, h.2.1.keep fun b m => hb b (by simp [blks, m]), h.2.2.keep fun b m => hb b (by simp [blks, m])⟩
theorem InM.below {w w1 : World} {t : Sh Nd} (h : InM w t) (hb : Below w.heap.size w w1) : InM w1 t := h.keep fun b m => hb.block b (h.lt b m)
theorem InM.grown {w w1 : World} {row : Option Nat} {t : Sh Nd} (h : InM w t) (hg : w.grownBy w1 row) (hr : ∀ k, row = some k → k ∉ blks t) : InM w1 t :=
 h.keep fun b m => hg.block b (h.lt b m) fun e => hr b e.symm m
theorem InM.set {w : World} {t : Sh Nd} (h : InM w t) (p : Addr) (hp : p.block ∉ blks t) (u : Value) : InM (w.setCell p u) t :=
 h.keep fun b m => heap_setCell_other _ _ _ _ (fun e => hp (e ▸ m))
def sub : Nat → Sh Nd → Sh Nd
 | 0, t => t
 | _ + 1, .nil => .nil
 | m + 1, .node _ _ r => sub m r
theorem sub_end : ∀ t : Sh Nd, sub (edge t).length t = .nil
 | .nil => rfl
 | .node x l r => by rw [edge, List.length_cons, sub]; exact sub_end r
theorem sub_ptr : ∀ (t : Sh Nd) (m : Nat) (x : Nd), (edge t)[m]? = some x → ptrT (sub m t) = ptrB x.b
 | .nil, m, x, h => by simp [edge] at h
 | .node y l r, 0, x, h => by simp [edge] at h; subst h; rfl
 | .node y l r, m + 1, x, h => by rw [edge, List.getElem?_cons_succ] at h; rw [sub]; exact sub_ptr r m x h
theorem edge_blks : ∀ (t : Sh Nd) (x : Nd), x ∈ edge t → x.b ∈ blks t
 | .nil, x, h => by simp [edge] at h
 | .node y l r, x, h => by
  rw [edge] at h
  rcases List.mem_cons.1 h with e | h
  ·subst e; simp [blks]
  ·have := edge_blks r x h; simp [blks, this]
theorem InM.edge {w : World} : ∀ {t : Sh Nd}, InM w t → ∀ (m : Nat) (x : Nd), (edge t)[m]? = some x → ∃ l r, w.heap[x.b]? = some (.cells (rowT x l r) 136 (0, 0))
 | .nil, _, m, x, h => by simp [Z.edge] at h
 | .node y l r, hi, 0, x, h => by simp [Z.edge] at h; subst h; exact ⟨_, _, hi.1⟩
 | .node y l r, hi, m + 1, x, h => by rw [Z.edge, List.getElem?_cons_succ] at h; exact hi.2.2.edge m x h
theorem graft_blks (p : Nd) : ∀ (t : Sh Nd) (m : Nat), m ≤ (edge t).length → ∀ b, b ∈ blks (graft m t p) ↔ b = p.b ∨ b ∈ blks t
 | t, 0, _, b => by simp [graft, blks]
 | .nil, m + 1, h, b => absurd h (by simp [edge])
 | .node x l r, m + 1, h, b => by
  have := graft_blks p r m (by simpa [edge] using h) b; simp only [graft, blks, List.mem_cons, List.mem_append, this]
  constructor
  ·rintro (h | h | h | h) <;> simp [h]
  ·rintro (h | h | h | h) <;> simp [h]
theorem graft_nodup (p : Nd) : ∀ (t : Sh Nd) (m : Nat), m ≤ (edge t).length → (blks t).Nodup → p.b ∉ blks t → (blks (graft m t p)).Nodup
 | t, 0, _, h, hp => by simp [graft, blks]; exact ⟨hp, h⟩
 | .nil, m + 1, h, _, _ => absurd h (by simp [edge])
 | .node x l r, m + 1, h, hn, hp => by
  simp only [graft, blks, List.nodup_cons, List.nodup_append, List.mem_append, List.mem_cons, not_or] at hn hp ⊢; have h2 : m ≤ (edge r).length := by simpa [edge] using h
  have hb := graft_blks p r m h2; refine ⟨⟨hn.1.1, fun h => ?_⟩, hn.2.1, graft_nodup p r m h2 hn.2.2.1 hp.2.2, fun a ha b hb2 => ?_⟩
  ·rcases (hb _).1 h with e | h
   ·exact hp.1 e.symm
   ·exact hn.1.2 h
  ·rcases (hb _).1 hb2 with e | h
   ·intro e2; exact hp.2.1 (e ▸ e2 ▸ ha)
   ·exact hn.2.2.2 a ha b h
theorem InM.graft0 {w : World} {t : Sh Nd} {p : Nd} (h : InM w t) (hp : w.heap[p.b]? = some (.cells (rowT p (ptrT t) (.pointer none)) 136 (0, 0))) : InM w (graft 0 t p) := ⟨hp, h, trivial⟩
theorem InM.graft {w : World} {p : Nd} : ∀ {t : Sh Nd} (m : Nat) (e : Nd), InM w t → (blks t).Nodup → p.b ∉ blks t → (Z.edge t)[m]? = some e →
  w.heap[p.b]? = some (.cells (rowT p (ptrT (sub (m + 1) t)) (.pointer none)) 136 (0, 0)) → InM (w.setCell ⟨e.b, 35, none⟩ (ptrB p.b)) (Z.graft (m + 1) t p)
 | .nil, m, e, _, _, _, h, _ => by simp [Z.edge] at h
 | .node x l r, 0, e, hi, hn, hp, h, hr => by
  simp only [Z.edge, List.getElem?_cons_zero, Option.some.injEq] at h; subst h; simp only [blks, List.nodup_cons, List.nodup_append, List.mem_append, List.mem_cons, not_or] at hn hp; refine ⟨?_, hi.2.1.set _ hn.1.1 _, ?_, hi.2.2.set _ hn.1.2 _, trivial⟩
  ·exact blk_put hi.1 35 _ (rowT_setRight _ _ _ _)
  ·exact (heap_setCell_other _ _ _ _ hp.1).trans hr
 | .node x l r, m + 1, e, hi, hn, hp, h, hr => by
  simp only [Z.edge, List.getElem?_cons_succ] at h; simp only [blks, List.nodup_cons, List.nodup_append, List.mem_append, List.mem_cons, not_or] at hn hp; have hm := List.mem_of_getElem? h; have he := edge_blks r e hm; have hptr : ptrT (Z.graft (m + 1) r p) = ptrT r := by
   cases r with
   | nil => simp [Z.edge] at h
   | node y l2 r2 => rfl
  refine ⟨?_, hi.2.1.set _ (fun h2 => hn.2.2.2 _ h2 _ he rfl) _, ?_⟩
  ·rw [hptr]; exact (heap_setCell_other _ _ _ _ (fun e2 => hn.1.2 (by rw [e2]; exact he))).trans hi.1
  ·exact InM.graft m e hi.2.2 hn.2.2.1 hp.2.2 h hr
def sealN (W : Int) (x : Nd) (l r : ByteArray) : Nd := { x with enc := encNode x.key x.val l r W, root := (shaV (nText (encNode x.key x.val l r W))).extract 0 W.toNat }
def sealT (W : Int) : Sh Nd → Sh Nd
 | .nil => .nil
 | .node x l r => .node (sealN W x (rootT (sealT W l)) (rootT (sealT W r))) (sealT W l) (sealT W r)
theorem sealT_blks (W : Int) : ∀ t, blks (sealT W t) = blks t
 | .nil => rfl
 | .node x l r => by rw [sealT, blks, blks, sealT_blks W l, sealT_blks W r]; rfl
theorem sealT_ptr (W : Int) : ∀ t, ptrT (sealT W t) = ptrT t
 | .nil => rfl
 | .node x l r => rfl
theorem gTwo {a b c : World} {r r' : Option Nat} (h1 : a.grownBy b r) (h2 : b.grownBy c r') (h : r' = r ∨ ∃ k, r' = some k ∧ a.heap.size ≤ k) : a.grownBy c r :=
 ⟨h2.os.trans h1.os, h2.tape.trans h1.tape, h2.output.trans h1.output, Nat.le_trans h1.size h2.size, fun k hk hne => (h2.block k (Nat.lt_of_lt_of_le hk h1.size) (fun e => by
  rcases h with h | ⟨q, h, hq⟩
  ·exact hne (e.trans h)
  ·rw [h] at e; cases e; omega)).trans (h1.block k hk hne)⟩
theorem gBelow {a b : World} (h : Below a.heap.size a b) (r : Option Nat) : a.grownBy b r := ⟨h.os, h.tape, h.output, h.size, fun k hk _ => h.block k hk⟩
theorem gSet (w : World) (B j : Nat) (u : Value) : w.grownBy (w.setCell ⟨B, j, none⟩ u) (some B) := ⟨rfl, rfl, rfl, by simp, fun k _ hne => Below.heap_setCell w _ u k (fun e => hne (by rw [e]))⟩
structure Fr (bs : List Nat) (w w1 : World) : Prop where
 os : w1.os = w.os
 tape : w1.tape = w.tape
 output : w1.output = w.output
 size : w.heap.size ≤ w1.heap.size
 block : ∀ k, k < w.heap.size → k ∉ bs → w1.heap[k]? = w.heap[k]?
theorem Fr.refl (bs : List Nat) (w : World) : Fr bs w w := ⟨rfl, rfl, rfl, Nat.le_refl _, fun _ _ _ => rfl⟩
theorem Fr.trans {bs cs ds : List Nat} {a b c : World} (h1 : Fr bs a b) (h2 : Fr cs b c) (hb : ∀ k, k ∈ bs → k ∈ ds) (hc : ∀ k, k < a.heap.size → k ∈ cs → k ∈ ds) : Fr ds a c :=
 ⟨h2.os.trans h1.os, h2.tape.trans h1.tape, h2.output.trans h1.output, Nat.le_trans h1.size h2.size, fun k hk hn => (h2.block k (Nat.lt_of_lt_of_le hk h1.size) fun h => hn (hc k hk h)).trans (h1.block k hk fun h => hn (hb k h))⟩
theorem Fr.ofBelow {bs : List Nat} {w w1 : World} (h : Below w.heap.size w w1) : Fr bs w w1 := ⟨h.os, h.tape, h.output, h.size, fun k hk _ => h.block k hk⟩
theorem Fr.ofGrown {bs : List Nat} {w w1 : World} {row : Option Nat} (h : w.grownBy w1 row) (hr : ∀ k, row = some k → k < w.heap.size → k ∈ bs) : Fr bs w w1 :=
 ⟨h.os, h.tape, h.output, h.size, fun k hk hn => h.block k hk fun e => hn (hr k e.symm hk)⟩
theorem Fr.below {bs : List Nat} {B : Nat} {w w1 : World} (h : Fr bs w w1) (hB : B ≤ w.heap.size) (hb : ∀ k ∈ bs, B ≤ k) : Below B w w1 :=
 ⟨h.os, h.tape, h.output, h.size, fun k hk => h.block k (Nat.lt_of_lt_of_le hk hB) fun m => by have := hb k m; omega⟩
theorem InM.fr {bs : List Nat} {w w1 : World} {t : Sh Nd} (h : InM w t) (hf : Fr bs w w1) (hd : ∀ b ∈ blks t, b ∉ bs) : InM w1 t := h.keep fun b m => hf.block b (h.lt b m) (hd b m)
theorem Own.fr {base size : Nat} {v : Value} {n : Nat} {xs : List Value} {bs : List Nat} {w w1 : World} (h : Own w base size v n xs) (hf : Fr bs w w1) (hd : ∀ k, v.ownBlock = some k → k ∉ bs) : Own w1 base size v n xs :=
 h.keep hf.size fun k hk => hf.block k (h.lt k hk).2 (hd k hk)
theorem Own.short {base : Nat} {A : Option Addr} {c n : Nat} {xs : List Value} {w : World} (h : Own w base 1 (.slice A n c) n xs) (m : Nat) (hm : m ≤ n) (hn : 0 < n) : Own w base 1 (.slice A m c) m (xs.take m) := by
 obtain ⟨h0, h⟩ := h
 rcases h with ⟨h, rfl⟩ | ⟨g, cap, hv, h1, h2, h3, h4, h5, h6⟩
 ·omega
 ·cases hv
  refine ⟨by rw [List.length_take, h0]; omega, .inr ⟨g, _, rfl, h1, h2, by omega, h4, fun j hj => ?_, h6⟩⟩; rw [List.getElem?_take, if_pos (by omega)]; exact h5 j (by omega)
end Go.Proofs.YtaepebkeijmjgaaDoor.Z
end
section
namespace Go.Proofs.YtaepebkeijmjgaaDoor.Z
open RowKit YtaepebkeijmjgaaDoor YtaepebkeijmjgaaDoorW.PrintWords YtaepebkeijmjgaaDoorW.PrintLast
set_option linter.all false
set_option maxRecDepth 100000
theorem cells2P {w u : World} {p q : Addr} {a b : Value} (h0 : w.cell? p = some a) (h1 : w.cell? q = some b) (hb : Below w.heap.size w u) : u.cell? p = some a ∧ u.cell? q = some b ∧ Below w.heap.size w u := ⟨cellB hb h0, cellB hb h1, hb⟩
theorem below2P {w u : World} {p q : Addr} {a b : Value} (h : u.cell? p = some a ∧ u.cell? q = some b ∧ Below w.heap.size w u) : Below w.heap.size w u := h.2.2
theorem Tab.fr {w w1 : World} {bs : List Nat} (h : Tab w) (hf : Fr bs w w1) (hn : 0 ∉ bs) : Tab w1 := fun i hi => by
 rw [World.cell?_of_block (a := ⟨0, i, none⟩) (hf.block _ h.lt hn)]; exact h i hi
def RootIs (w : World) (p : Value) (s : ByteArray) : Prop := (p = .pointer none ∧ s = ⟨#[]⟩) ∨ ∃ b, p = ptrB b ∧ w.cell? ⟨b, 37, none⟩ = some (.string s)
theorem RootIs.below {w w1 : World} {p : Value} {s : ByteArray} (h : RootIs w p s) (hb : Below w.heap.size w w1) : RootIs w1 p s := by
 rcases h with h | ⟨b, h1, h2⟩
 ·exact .inl h
 ·exact .inr ⟨b, h1, (hb.cell (World.block_lt_of_cell? _ _ h2)).trans h2⟩
theorem RootIs.of {w : World} : ∀ {t : Sh Nd}, InM w t → RootIs w (ptrT t) (rootT t)
 | .nil, _ => .inl ⟨rfl, rfl⟩
 | .node x l r, h => .inr ⟨x.b, rfl, (cell_of_row _ _ _ _ _ _ h.1).trans (rowT_root _ _ _)⟩
theorem treeHash_any (p : Value) (s : ByteArray) (w : World) (h : RootIs w p s) : Calls Tryd.prog 82 #[p] w fun e w' => e = .returned (.string s) ∧ w = w' := by
 rcases h with ⟨rfl, rfl⟩ | ⟨b, rfl, hc⟩
 ·go_enter Tryd.func82, Tryd.ntmps82
  go_wp2
  go_ret
  exact ⟨rfl, rfl⟩
 ·unfold ptrB
  go_enter Tryd.func82, Tryd.ntmps82
  go_wp2
  go_ret
  exact ⟨rfl, rfl⟩
def At36 (b : Nat) (w : World) : Prop := ∃ s, w.cell? ⟨b, 36, none⟩ = some (.string s) ∧ w.frozen? ⟨b, 36, none⟩ = false
theorem At36.below {b : Nat} {w w1 : World} (h : At36 b w) (hb : Below w.heap.size w w1) : At36 b w1 := by
 obtain ⟨s, h1, h2⟩ := h; exact ⟨s, cellB hb h1, (hb.frozen (p := ⟨b, 36, none⟩) (World.block_lt_of_cell? _ _ h1)).trans h2⟩
theorem cell_set36 {u : World} {p : Addr} {b : Nat} {a x : Value} (h : u.cell? p = some a) (hp : p.off ≠ 36) : (u.setCell ⟨b, 36, none⟩ x).cell? p = some a :=
 (World.cell?_setCell_other u _ _ x (fun e => hp (by rw [← e]))).trans h
theorem At36.set {b : Nat} {w : World} (h : At36 b w) (s : ByteArray) : At36 b (w.setCell ⟨b, 36, none⟩ (.string s)) := by
 obtain ⟨s0, h1, h2⟩ := h; exact ⟨s, by rw [World.cell?_setCell_same' _ _ _ (by rw [h1]; rfl)], by rw [World.frozen?_setCell]; exact h2⟩
theorem RootIs.set36 {w : World} {p : Value} {s : ByteArray} (h : RootIs w p s) (b : Nat) (x : Value) : RootIs (w.setCell ⟨b, 36, none⟩ x) p s := by
 rcases h with h | ⟨c, h1, h2⟩
 ·exact .inl h
 ·exact .inr ⟨c, h1, cell_set36 h2 (by simp)⟩
section
variable {b : Nat} {k v s sl sr : ByteArray} {pl pr : Value} {u w1 : World}
theorem seenI (h0 : u.cell? ⟨b, 0, none⟩ = some (.string k)) (h1 : u.cell? ⟨b, 1, none⟩ = some (.string v)) (h2 : u.cell? ⟨b, 34, none⟩ = some pl) (h3 : u.cell? ⟨b, 35, none⟩ = some pr) (h6 : At36 b u) (h4 : RootIs u pl sl) (h5 : RootIs u pr sr) :
  u.cell? ⟨b, 0, none⟩ = some (.string k) ∧ u.cell? ⟨b, 1, none⟩ = some (.string v) ∧ u.cell? ⟨b, 34, none⟩ = some pl ∧ u.cell? ⟨b, 35, none⟩ = some pr ∧ At36 b u ∧ RootIs u pl sl ∧ RootIs u pr sr := ⟨h0, h1, h2, h3, h6, h4, h5⟩
theorem seenD (h : u.cell? ⟨b, 0, none⟩ = some (.string k) ∧ u.cell? ⟨b, 1, none⟩ = some (.string v) ∧ u.cell? ⟨b, 34, none⟩ = some pl ∧ u.cell? ⟨b, 35, none⟩ = some pr ∧ At36 b u ∧ RootIs u pl sl ∧ RootIs u pr sr) :
  u.drew.cell? ⟨b, 0, none⟩ = some (.string k) ∧ u.drew.cell? ⟨b, 1, none⟩ = some (.string v) ∧ u.drew.cell? ⟨b, 34, none⟩ = some pl ∧ u.drew.cell? ⟨b, 35, none⟩ = some pr ∧ At36 b u.drew ∧ RootIs u.drew pl sl ∧ RootIs u.drew pr sr := ⟨h.1, h.2.1, h.2.2.1, h.2.2.2.1, h.2.2.2.2.1, h.2.2.2.2.2.1.below (Below.refl _ _).drew, h.2.2.2.2.2.2.below (Below.refl _ _).drew⟩
theorem seenB (hb : Below u.heap.size u w1) (h : u.cell? ⟨b, 0, none⟩ = some (.string k) ∧ u.cell? ⟨b, 1, none⟩ = some (.string v) ∧ u.cell? ⟨b, 34, none⟩ = some pl ∧ u.cell? ⟨b, 35, none⟩ = some pr ∧ At36 b u ∧ RootIs u pl sl ∧ RootIs u pr sr) :
  w1.cell? ⟨b, 0, none⟩ = some (.string k) ∧ w1.cell? ⟨b, 1, none⟩ = some (.string v) ∧ w1.cell? ⟨b, 34, none⟩ = some pl ∧ w1.cell? ⟨b, 35, none⟩ = some pr ∧ At36 b w1 ∧ RootIs w1 pl sl ∧ RootIs w1 pr sr := ⟨cellB hb h.1, cellB hb h.2.1, cellB hb h.2.2.1, cellB hb h.2.2.2.1, h.2.2.2.2.1.below hb, h.2.2.2.2.2.1.below hb, h.2.2.2.2.2.2.below hb⟩
theorem seenS (h : u.cell? ⟨b, 0, none⟩ = some (.string k) ∧ u.cell? ⟨b, 1, none⟩ = some (.string v) ∧ u.cell? ⟨b, 34, none⟩ = some pl ∧ u.cell? ⟨b, 35, none⟩ = some pr ∧ At36 b u ∧ RootIs u pl sl ∧ RootIs u pr sr) :
  (u.setCell ⟨b, 36, none⟩ (.string s)).cell? ⟨b, 0, none⟩ = some (.string k) ∧ (u.setCell ⟨b, 36, none⟩ (.string s)).cell? ⟨b, 1, none⟩ = some (.string v) ∧ (u.setCell ⟨b, 36, none⟩ (.string s)).cell? ⟨b, 34, none⟩ = some pl ∧ (u.setCell ⟨b, 36, none⟩ (.string s)).cell? ⟨b, 35, none⟩ = some pr ∧ At36 b (u.setCell ⟨b, 36, none⟩ (.string s)) ∧ RootIs (u.setCell ⟨b, 36, none⟩ (.string s)) pl sl ∧ RootIs (u.setCell ⟨b, 36, none⟩ (.string s)) pr sr := ⟨cell_set36 h.1 (by simp), cell_set36 h.2.1 (by simp), cell_set36 h.2.2.1 (by simp), cell_set36 h.2.2.2.1 (by simp), h.2.2.2.2.1.set _, h.2.2.2.2.2.1.set36 _ _, h.2.2.2.2.2.2.set36 _ _⟩
end
set_option maxHeartbeats 4000000 in
theorem seal_any (x : Nd) (pl pr : Value) (sl sr : ByteArray) (W : Nat) (hW1 : 1 ≤ W) (hW2 : W ≤ 32) (w : World) (h : w.heap[x.b]? = some (.cells (rowT x pl pr) 136 (0, 0))) (hl : RootIs w pl sl) (hr : RootIs w pr sr) (hT : Tab w) (hg : 0 ≠ x.b) :
  Calls Tryd.prog 131 #[ptrB x.b, .int .i64 W] w fun e w' => e = .returned (.tuple #[]) ∧ w'.heap[x.b]? = some (.cells (rowT (sealN W x sl sr) pl pr) 136 (0, 0)) ∧ w.grownBy w' (some x.b) := by
 have c0 := (cell_of_row _ _ _ _ _ _ h).trans (rowT_key _ _ _); have c1 := (cell_of_row _ _ _ _ _ _ h).trans (rowT_val _ _ _); have c34 := (cell_of_row _ _ _ _ _ _ h).trans (rowT_left _ _ _); have c35 := (cell_of_row _ _ _ _ _ _ h).trans (rowT_right _ _ _); have a36 : At36 x.b w := ⟨_, (cell_of_row _ _ _ _ _ _ h).trans (rowT_enc _ _ _), frozen_of_row _ _ 36 _ _ h⟩
 have HROW := Lib.hid h; clear h; have HT := Lib.hid hT; clear hT; have hle := encNode_size_le x.key x.val sl sr W; have hs : (sealN W x sl sr) = { x with enc := encNode x.key x.val sl sr W, root := (shaV (nText (encNode x.key x.val sl sr W))).extract 0 W } := by unfold sealN; rw [Int.toNat_natCast]
 rw [hs]; clear hs; obtain ⟨enc, hE⟩ : ∃ enc, encNode x.key x.val sl sr W = enc := ⟨_, rfl⟩
 rw [hE] at hle ⊢; have HE := Lib.hid hE; clear hE; have hlt := lt_of_block HROW.out; unfold ptrB; obtain ⟨b, hb⟩ : ∃ b, x.b = b := ⟨_, rfl⟩
 rw [hb] at c0 c1 c34 c35 a36 hg hlt ⊢; have HB := Lib.hid hb; clear hb
 go_enter Tryd.func131, Tryd.ntmps131
 go_wp2
 go_region_held3 (fun w' => w'.cell? ⟨b, 0, none⟩ = some (.string x.key) ∧ w'.cell? ⟨b, 1, none⟩ = some (.string x.val) ∧ w'.cell? ⟨b, 34, none⟩ = some pl ∧ w'.cell? ⟨b, 35, none⟩ = some pr ∧ At36 b w' ∧ RootIs w' pl sl ∧ RootIs w' pr sr)
  (repeat' (first | (with_reducible assumption) | (with_reducible exact seenI c0 c1 c34 c35 a36 hl hr) | (with_reducible refine seenD ?_) | (with_reducible refine seenS ?_) | (with_reducible refine seenB (by assumption) ?_)))
  (first | (go_at_call 82; refine (treeHash_any _ _ _ (by assumption)).mono ?_; rintro e w' ⟨rfl, rfl⟩) | (go_at_call 67; refine (encodeNode_any _ _ _ _ _ _).mono ?_; rintro e w1 ⟨rfl, hb1⟩; rw [HE.out]; obtain ⟨s36, c36, f36⟩ := At36.below (by assumption) hb1))
 have hb : Below w.heap.size w w1 := (Below.refl _ _).drew.trans hb1; have hrow := (hb.block x.b (lt_of_block HROW.out)).trans HROW.out; rw [HB.out] at hrow; have hrow2 := blk_put hrow 36 (.string enc) (rowT_setEnc _ _ _ enc); have hg2 : w.grownBy (w1.setCell ⟨b, 36, none⟩ (.string enc)) (some b) := gTwo (gBelow hb _) (gSet _ _ _ _) (.inl rfl); obtain ⟨W3, hW3⟩ : ∃ W3, W3 = w1.setCell ⟨b, 36, none⟩ (.string enc) := ⟨_, rfl⟩
 rw [← hW3] at hrow2 hg2 ⊢; clear hW3 hrow hb hb1; have HR2 := Lib.hid hrow2; clear hrow2; have HG2 := Lib.hid hg2; clear hg2; have HT3 := Lib.hid (HT.out.grown HG2.out (fun e => hg (Option.some.inj e))); clear c0 c1 c34 c35 a36 c36 f36; have c36 : W3.cell? ⟨b, 36, none⟩ = some (.string enc) := (cell_of_row _ _ _ _ _ _ HR2.out).trans (rowT_enc { x with enc := enc } _ _); have hz3 := HG2.out.size
 go_wp2_with fail
 refine (hashN_any enc _ W3 rfl HT3.out (by omega)).mono ?_; rintro e w4 ⟨rfl, hb4⟩; have HT4 := Lib.hid (HT3.out.below hb4); have HB4 := Lib.hid hb4; clear hb4
 go_wp2_with fail
 refine (text_h _ (shaL_length _) W _ (by omega) (by omega)).mono ?_; rintro e w5 ⟨rfl, hb5⟩; have HB5 := Lib.hid (HB4.out.trans (hb5.mono HB4.out.size)); clear hb5; have hrow5 := (HB5.out.block b (by omega)).trans HR2.out; have c37 : w5.cell? ⟨b, 37, none⟩ = some (.string x.root) := (cell_of_row _ _ _ _ _ _ hrow5).trans (rowT_root { x with enc := enc } _ _); have f37 := frozen_of_row _ _ 37 _ _ hrow5; have HR5 := Lib.hid hrow5; clear hrow5
 go_wp2
 go_end0
 refine ⟨rfl, ?_, gTwo HG2.out (gTwo (gBelow HB5.out _) (gSet _ _ _ _) (.inl rfl)) (.inl rfl)⟩; have h := blk_put HR5.out 37 (.string ((shaV (nText enc)).extract 0 W)) (rowT_setRoot { x with enc := enc } pl pr _); exact h
theorem growSeal_any (V : Nat) (x : Nd) (pl pr : Value) (sl sr : ByteArray) (W : Nat) (hW1 : 1 ≤ W) (hW2 : W ≤ 32) (w : World) (hV : w.heap[V]? = some (.cells #[.int .i64 W] 3 (0, 0))) (h : w.heap[x.b]? = some (.cells (rowT x pl pr) 136 (0, 0))) (hl : RootIs w pl sl) (hr : RootIs w pr sr) (hT : Tab w) (hg : 0 ≠ x.b) :
  Calls Tryd.prog 130 #[ptrB x.b, .pointer (some ⟨V, 0, none⟩)] w fun e w' => e = .returned (.tuple #[]) ∧ w'.heap[x.b]? = some (.cells (rowT (sealN W x sl sr) pl pr) 136 (0, 0)) ∧ w.grownBy w' (some x.b) := by
 have v0 : w.cell? ⟨V, 0, none⟩ = some (.int .i64 W) := (cell_of_row _ _ _ _ _ _ hV).trans rfl; have HROW := Lib.hid h; clear h; have HT := Lib.hid hT; clear hT; have HV := Lib.hid hV; clear hV
 go_enter Tryd.func130, Tryd.ntmps130
 go_wp2_with fail
 refine (seal_any x pl pr sl sr W hW1 hW2 w HROW.out hl hr HT.out hg).mono ?_; rintro e w' ⟨rfl, h1, h2⟩
 go_wp2
 go_end0
 exact ⟨rfl, h1, h2⟩
set_option maxHeartbeats 1000000 in
/-- A tree sealed, subtrees first. -/
theorem eachSeal_any (V : Nat) (W : Nat) (hW1 : 1 ≤ W) (hW2 : W ≤ 32) : ∀ (t : Sh Nd) (w : World), InM w t → (blks t).Nodup → w.heap[V]? = some (.cells #[.int .i64 W] 3 (0, 0)) → V ∉ blks t → Tab w → 0 ∉ blks t →
  Calls Tryd.prog 77 #[ptrT t, .func (.func 130) #[] #[.pointer (some ⟨V, 0, none⟩)]] w fun e w' => e = .returned (.tuple #[]) ∧ InM w' (sealT W t) ∧ Fr (blks t) w w' := by
 intro t
 induction t with
 | nil =>
  intro w _ _ _ _ _ _; unfold ptrT
  go_enter Tryd.func77, Tryd.ntmps77
  go_wp2
  (try simp only [Exit.inBlock, Exit.then]); refine bodyPost_ret (results_none rfl _ _ _) rfl ?_; exact ⟨rfl, trivial, Fr.refl _ _⟩
 | node x l r ihl ihr =>
  intro w hi hn hV hVn hT hTn; simp only [blks, List.nodup_cons, List.nodup_append, List.mem_append, List.mem_cons, not_or] at hn hVn hTn; have HX := Lib.hid hi; clear hi; have HN := Lib.hid hn; clear hn; have HVN := Lib.hid hVn; clear hVn; have HTN := Lib.hid hTn; clear hTn; have HV := Lib.hid hV; clear hV; have HT := Lib.hid hT; clear hT; have HL := Lib.hid ihl; clear ihl; have HR := Lib.hid ihr; clear ihr; obtain ⟨b, hb⟩ : ∃ b, x.b = b := ⟨_, rfl⟩
  obtain ⟨pl, hpl⟩ : ∃ p, ptrT l = p := ⟨_, rfl⟩
  obtain ⟨pr, hpr⟩ : ∃ p, ptrT r = p := ⟨_, rfl⟩
  have c34 : w.cell? ⟨x.b, 34, none⟩ = some (ptrT l) := (cell_of_row _ _ _ _ _ _ HX.out.1).trans (rowT_left _ _ _); rw [hb, hpl] at c34; have HB := Lib.hid hb; have HPL := Lib.hid hpl; have HPR := Lib.hid hpr; show Calls Tryd.prog 77 #[ptrB x.b, _] w _; unfold ptrB; rw [hb]; clear hb hpl hpr
  go_enter Tryd.func77, Tryd.ntmps77
  go_wp2_with fail
  rw [← HPL.out]; refine (HL.out w HX.out.2.1 HN.out.2.1 HV.out HVN.out.2.1 HT.out HTN.out.2.1).mono ?_; rintro e w1 ⟨rfl, h1, hf1⟩; have HX1 := Lib.hid h1; clear h1; have HF1 := Lib.hid hf1; clear hf1; have hr1 := (HF1.out.block x.b (lt_of_block HX.out.1) HN.out.1.1).trans HX.out.1; have c35 : w1.cell? ⟨x.b, 35, none⟩ = some (ptrT r) := (cell_of_row _ _ _ _ _ _ hr1).trans (rowT_right _ _ _); rw [HB.out, HPR.out] at c35; have HR1 := Lib.hid hr1; clear hr1 c34; have HT1 := Lib.hid (HT.out.fr HF1.out HTN.out.2.1); have HV1 := Lib.hid ((HF1.out.block V (lt_of_block HV.out) HVN.out.2.1).trans HV.out); have HXr := Lib.hid (HX.out.2.2.fr HF1.out (fun b hb hm => HN.out.2.2.2 _ hm _ hb rfl))
  go_wp2_with fail
  rw [← HPR.out]; refine (HR.out w1 HXr.out HN.out.2.2.1 HV1.out HVN.out.2.2 HT1.out HTN.out.2.2).mono ?_; rintro e w2 ⟨rfl, h2, hf2⟩; have HX2 := Lib.hid h2; clear h2; have HF2 := Lib.hid hf2; clear hf2 c35; have HR2 := Lib.hid ((HF2.out.block x.b (lt_of_block HR1.out) HN.out.1.2).trans HR1.out); have HT2 := Lib.hid (HT1.out.fr HF2.out HTN.out.2.2); have HV2 := Lib.hid ((HF2.out.block V (lt_of_block HV1.out) HVN.out.2.2).trans HV1.out); have HXl := Lib.hid (HX1.out.fr HF2.out (fun b hb hm => by rw [sealT_blks] at hb; exact HN.out.2.2.2 _ hb _ hm rfl)); have hl := RootIs.of HXl.out; have hr := RootIs.of HX2.out; rw [sealT_ptr] at hl hr; have HLR := Lib.hid hl; clear hl; have HRR := Lib.hid hr; clear hr
  go_wp2_with (go_at_call 130; rw [← HB.out]; refine (growSeal_any V x (ptrT l) (ptrT r) (rootT (sealT W l)) (rootT (sealT W r)) W hW1 hW2 w2 HV2.out HR2.out HLR.out HRR.out HT2.out HTN.out.1).mono ?_; rintro e w3 ⟨rfl, h3, hg3⟩; have HX3 := Lib.hid h3; have HG3 := Lib.hid hg3; clear h3 hg3)
  go_end0
  refine ⟨rfl, ⟨?_, ?_, ?_⟩, ?_⟩
  ·rw [sealT_ptr, sealT_ptr]; exact HX3.out
  ·exact HXl.out.grown HG3.out (fun k hk hm => by cases hk; rw [sealT_blks] at hm; exact HN.out.1.1 hm)
  ·exact HX2.out.grown HG3.out (fun k hk hm => by cases hk; rw [sealT_blks] at hm; exact HN.out.1.2 hm)
  ·refine (HF1.out.trans HF2.out (ds := blks (.node x l r)) (fun k hk => by simp [blks, hk]) (fun k _ hk => by simp [blks, hk])).trans (Fr.ofGrown (bs := [x.b]) HG3.out (fun k hk _ => by cases hk; simp)) (fun k hk => hk) (fun k _ hk => by simp [blks] at hk ⊢; exact .inl hk)
end Go.Proofs.YtaepebkeijmjgaaDoor.Z
end
section
namespace Go.Proofs.YtaepebkeijmjgaaDoor.Z
open RowKit YtaepebkeijmjgaaDoorW.PrintWords YtaepebkeijmjgaaDoorW.PrintLast YtaepebkeijmjgaaDoorW.PrintMore
attribute [local go_sem] max2_int min2_int max_two min_two max_three min_three max_four min_four
set_option linter.all false
def impl_textOf.f (a0 : ByteArray) : Option (ByteArray) := if 1 + a0.size ≤ 9223372036854775807 then (some ((⟨#[78]⟩ : ByteArray) ++ a0)) else (none)
set_option maxHeartbeats 8000000 in
set_option maxRecDepth 100000 in
theorem impl_textOf.calls (a0 : ByteArray) (r : ByteArray) (w : World) (h : impl_textOf.f a0 = some r) :
  Calls Tryd.prog 66 #[.string a0] w fun e w' => e = .returned (.string r) ∧ Drawn0 w w' := by
 have H : (if 1 + a0.size ≤ 9223372036854775807 then (some ((⟨#[78]⟩ : ByteArray) ++ a0)) else (none)) = some r := h; clear h
 by_cases c2 : 1 + a0.size ≤ 9223372036854775807
 ·rw [if_pos c2] at H; have c2b0 := eq_true c2; have c2b1 : decide (1 + a0.size ≤ 9223372036854775807) = true := decide_eq_true c2
  try have c2b2 : (9223372036854775807 < 1 + a0.size) = False := eq_false (Nat.not_lt.2 c2)
  obtain rfl := Option.some.inj H
  go_enter Tryd.func66, Tryd.ntmps66
  go_wp2
  go_ret
  exact ⟨by first | rfl | (simp; done) | (simp [*]; done), by repeat (first | exact Drawn0.refl _ | apply Drawn0.step)⟩
 ·rw [if_neg c2] at H; exact absurd H (by simp)
end Go.Proofs.YtaepebkeijmjgaaDoor.Z
end
section
namespace Go.Proofs.YtaepebkeijmjgaaDoor.Z
open RowKit YtaepebkeijmjgaaDoor YtaepebkeijmjgaaDoorW.PrintWords YtaepebkeijmjgaaDoorW.PrintLast
set_option linter.all false
set_option maxRecDepth 100000
structure SaveSt where
 encs : List ByteArray
 code : Int
 a : ByteArray
 b : ByteArray
def outRow (s : SaveSt) : Array Value := #[.int .i64 s.code, .int .i64 0, .slice none 0 0, .string ⟨#[]⟩, .string s.a, .string s.b]
def stepS (n : Nat) (s : SaveSt) (enc : ByteArray) : SaveSt :=
 if s.code ≠ 0 then s
 else match firstAt (cuts n s.encs) (cutL enc n) with
  | some i => if s.encs.getD i ⟨#[]⟩ = enc then s else ⟨s.encs, 4, nText (s.encs.getD i ⟨#[]⟩), nText enc⟩
  | none => if 20000 ≤ s.encs.length then ⟨s.encs, 1, ⟨#[]⟩, ⟨#[]⟩⟩ else ⟨s.encs ++ [enc], 0, ⟨#[]⟩, ⟨#[]⟩⟩
def bsOf (O b m : Nat) (v : Value) : List Nat := O :: b :: m :: v.ownBlock.toList
structure SvIs (O P X base b m : Nat) (pv : Value) (n : Nat) (v : Value) (s : SaveSt) (w : World) : Prop where
 out : w.heap[O]? = some (.cells (outRow s) 44 (0, 0))
 pool : w.heap[P]? = some (.cells #[.int .i64 n, pv] 34 (0, 0))
 ptr : w.heap[X]? = some (.cells #[.pointer (some ⟨b, 0, none⟩)] 88 (0, 0))
 idx : Idx base b m v n s.encs (cuts n s.encs) w
 tab : Tab w
 sz : ∀ x ∈ s.encs, x.size ≤ 1048576
 clean : s.code = 0 → s.a = ⟨#[]⟩ ∧ s.b = ⟨#[]⟩
 bo : base ≤ O
 px : P ∉ bsOf O b m v ∧ X ∉ bsOf O b m v ∧ 0 ∉ bsOf O b m v
 oo : O ≠ b ∧ O ≠ m ∧ v.ownBlock ≠ some O
section
variable {O P X base b m : Nat} {pv : Value} {n : Nat} {v v' : Value} {s s' : SaveSt} {w w1 : World}
theorem SvIs.below (h : SvIs O P X base b m pv n v s w) (hb : Below w.heap.size w w1) : SvIs O P X base b m pv n v s w1 :=
 { h with out := (hb.block O (lt_of_block h.out)).trans h.out, pool := (hb.block P (lt_of_block h.pool)).trans h.pool, ptr := (hb.block X (lt_of_block h.ptr)).trans h.ptr, idx := h.idx.below hb, tab := h.tab.below hb }
theorem SvIs.lt (h : SvIs O P X base b m pv n v s w) : O < w.heap.size ∧ P < w.heap.size ∧ X < w.heap.size ∧ 0 < w.heap.size := ⟨lt_of_block h.out, lt_of_block h.pool, lt_of_block h.ptr, h.tab.lt⟩
theorem mem_bsOf {O b m k : Nat} {v : Value} (h : k ∉ bsOf O b m v) : k ≠ O ∧ k ≠ b ∧ k ≠ m ∧ v.ownBlock ≠ some k := by
 unfold bsOf at h; simp only [List.mem_cons, not_or] at h; refine ⟨h.1, h.2.1, h.2.2.1, fun e => h.2.2.2 ?_⟩; rw [e]; simp
theorem bsOf_mem {O b m k : Nat} {v : Value} (h : k ≠ O ∧ k ≠ b ∧ k ≠ m ∧ v.ownBlock ≠ some k) : k ∉ bsOf O b m v := by
 unfold bsOf; simp only [List.mem_cons, not_or]; refine ⟨h.1, h.2.1, h.2.2.1, fun e => h.2.2.2 ?_⟩
 revert e
 cases v.ownBlock with
 | none => simp
 | some q => simp; exact fun e => e.symm
theorem bsOf_new {O b m k B : Nat} {v v' : Value} (h : k ∉ bsOf O b m v) (hv : v'.ownBlock = v.ownBlock ∨ ∀ k, v'.ownBlock = some k → B ≤ k) (hk : k < B) : k ∉ bsOf O b m v' := by
 have h := mem_bsOf h; refine bsOf_mem ⟨h.1, h.2.1, h.2.2.1, fun e => ?_⟩
 rcases hv with g | g
 ·exact h.2.2.2 (g.symm.trans e)
 ·have := g k e; omega
theorem SvIs.setOut (h : SvIs O P X base b m pv n v s w) (hg : w.grownBy w1 (some O)) (hr : w1.heap[O]? = some (.cells (outRow s') 44 (0, 0))) (he : s'.encs = s.encs) (hc : s'.code ≠ 0) : SvIs O P X base b m pv n v s' w1 :=
 have hP := mem_bsOf h.px.1; have hX := mem_bsOf h.px.2.1; have hT := mem_bsOf h.px.2.2
 ⟨hr, (hg.block P (lt_of_block h.pool) (fun e => hP.1 (Option.some.inj e))).trans h.pool, (hg.block X (lt_of_block h.ptr) (fun e => hX.1 (Option.some.inj e))).trans h.ptr, by rw [he]; exact h.idx.grown hg h.oo.1 h.oo.2.1 h.oo.2.2,
  h.tab.grown hg (fun e => hT.1 (Option.some.inj e)), by rw [he]; exact h.sz, fun e => absurd e hc, h.bo, h.px, h.oo⟩
theorem SvIs.add (h : SvIs O P X base b m pv n v s w) {enc : ByteArray} (hi : Idx base b m v' n (s.encs ++ [enc]) (cuts n s.encs ++ [cutL enc n]) w1) (hf : Fr (b :: m :: v.ownBlock.toList) w w1) (hv : v'.ownBlock = v.ownBlock ∨ ∀ k, v'.ownBlock = some k → w.heap.size ≤ k) (hs : enc.size ≤ 1048576) (hc : s.code = 0) :
  SvIs O P X base b m pv n v' ⟨s.encs ++ [enc], 0, ⟨#[]⟩, ⟨#[]⟩⟩ w1 := by
 have hP := h.px.1; have hX := h.px.2.1; have hT := h.px.2.2; have hlt := h.lt; have sub : ∀ k, k ∉ bsOf O b m v → k ∉ b :: m :: v.ownBlock.toList := fun k hk hm => hk (List.mem_cons_of_mem _ hm)
 have hO : O ∉ b :: m :: v.ownBlock.toList := by
  simp only [List.mem_cons, not_or]; refine ⟨h.oo.1, h.oo.2.1, fun e => h.oo.2.2 ?_⟩
  revert e
  cases v.ownBlock with
  | none => simp
  | some q => simp; exact fun e => e.symm
 refine ⟨?_, (hf.block P hlt.2.1 (sub _ hP)).trans h.pool, (hf.block X hlt.2.2.1 (sub _ hX)).trans h.ptr, ?_, h.tab.fr hf (sub _ hT), ?_, fun _ => ⟨rfl, rfl⟩, h.bo, ⟨bsOf_new hP hv hlt.2.1, bsOf_new hX hv hlt.2.2.1, bsOf_new hT hv hlt.2.2.2⟩, ⟨h.oo.1, h.oo.2.1, fun e => ?_⟩⟩
 ·have := (hf.block O hlt.1 hO).trans h.out; rw [this]; unfold outRow; obtain ⟨e1, e2⟩ := h.clean hc; rw [e1, e2, hc]
 ·unfold cuts at hi ⊢; rw [List.map_append]; exact hi
 ·intro x hx
  rcases List.mem_append.1 hx with g | g
  ·exact h.sz x g
  ·rw [List.mem_singleton.1 g]; exact hs
 ·rcases hv with g | g
  ·exact h.oo.2.2 (g.symm.trans e)
  ·have := g O e; omega
end
theorem gRow (w : World) (g : Nat) (r : Array Value) : w.grownBy (w.setRow g r) (some g) := ⟨rfl, rfl, rfl, by rw [setRow_size]; exact Nat.le_refl _, fun k _ hne => setRow_other w g k r (fun e => hne (by rw [e]))⟩
theorem setCells_below {B : Nat} {w : World} (g : Nat) (hg : B ≤ g) : ∀ (vs : List Value) (o : Nat) (u : World), Below B w u → Below B w (u.setCells g o vs)
 | [], _, _, h => h
 | v :: vs, o, u, h => setCells_below g hg vs (o + 1) _ (h.setCell hg v)
theorem thereRow {w : World} {g : Nat} {z : Array Value} {T : TypeId} (h : w.heap[g]? = some (.cells z T (0, 0))) (hz : z.size = 32) : w.there g 0 32 := fun j hj => by
 rw [cell_of_row _ _ _ _ _ _ h]; exact ⟨by rw [Nat.zero_add, Array.getElem?_eq_getElem (by omega)]; rfl, frozen_of_row _ _ _ _ _ h⟩
theorem hash_loadR (c : List Int) (hl : c.length = 32) (g : Nat) (W : World) (hg : W.rangeAt g 0 (c.map (Value.int .u8))) : (Instr.loadAt 133 (.pointer (some ⟨g, 0, none⟩))).run Tryd.prog W = .ok (hashV c) W := by
 refine run_loadAt_mid (P := Tryd.prog) W g 0 133 (c.map (Value.int .u8)) _ hg Tryd.underlying133 rfl ?_; rw [List.length_map, hl]; kernel_rfl
theorem frOut {O b m : Nat} {v : Value} {w wc w1 : World} (hb : Below w.heap.size w wc) (hg : wc.grownBy w1 (some O)) : Fr (bsOf O b m v) w w1 :=
 (Fr.ofBelow (bs := []) hb).trans (Fr.ofGrown (bs := [O]) hg (fun k hk _ => by cases hk; simp)) (fun k hk => by simp at hk) (fun k _ hk => by simp at hk; subst hk; simp [bsOf])
theorem textOf_f2 (s : ByteArray) (h : s.size ≤ 1048576) : impl_textOf.f s = some (nText s) := by
 unfold impl_textOf.f; rw [if_pos (by omega)]; rfl
theorem cells4O {W u : World} {p q r t : Addr} {a b c d : Value} {O : Nat} (h0 : W.cell? p = some a) (h1 : W.cell? q = some b) (h2 : W.cell? r = some c) (h3 : W.cell? t = some d) (n0 : p.block ≠ O) (n1 : q.block ≠ O) (n2 : r.block ≠ O) (n3 : t.block ≠ O) (hg : W.grownBy u (some O)) :
  u.cell? p = some a ∧ u.cell? q = some b ∧ u.cell? r = some c ∧ u.cell? t = some d ∧ W.grownBy u (some O) :=
 ⟨hg.cell h0 (fun e => n0 (Option.some.inj e)), hg.cell h1 (fun e => n1 (Option.some.inj e)), hg.cell h2 (fun e => n2 (Option.some.inj e)), hg.cell h3 (fun e => n3 (Option.some.inj e)), hg⟩
theorem grown4O {W u : World} {p q r t : Addr} {a b c d : Value} {O : Nat} (h : u.cell? p = some a ∧ u.cell? q = some b ∧ u.cell? r = some c ∧ u.cell? t = some d ∧ W.grownBy u (some O)) : W.grownBy u (some O) := h.2.2.2.2
theorem grown4P {W u : World} {p q r t : Addr} {a b c d : Value} {O : Nat} (h0 : W.cell? p = some a) (h1 : W.cell? q = some b) (h2 : W.cell? r = some c) (h3 : W.cell? t = some d) (h : u.cell? p = some a ∧ u.cell? q = some b ∧ u.cell? r = some c ∧ u.cell? t = some d ∧ W.grownBy u (some O)) : W.grownBy u (some O) := h.2.2.2.2
set_option maxHeartbeats 8000000 in
theorem saveStep_any (O P X base b m : Nat) (pv : Value) (n : Nat) (hn1 : 1 ≤ n) (hn2 : n ≤ 32) (v : Value) (s : SaveSt) (B : Nat) (enc : ByteArray) (w : World) (h : SvIs O P X base b m pv n v s w) (he : w.cell? ⟨B, 36, none⟩ = some (.string enc)) (hs : enc.size ≤ 4000) (hB : B ∉ bsOf O b m v) :
  Calls Tryd.prog 78 #[ptrB B, .pointer (some ⟨O, 0, none⟩), .pointer (some ⟨P, 0, none⟩), .pointer (some ⟨X, 0, none⟩)] w fun e w' => e = .returned (.tuple #[]) ∧ ∃ v', SvIs O P X base b m pv n v' (stepS n s enc) w' ∧ Fr (bsOf O b m v) w w' ∧ (v'.ownBlock = v.ownBlock ∨ ∀ k, v'.ownBlock = some k → w.heap.size ≤ k) := by
 unfold ptrB; have o0 : w.cell? ⟨O, 0, none⟩ = some (.int .i64 s.code) := (cell_of_row _ _ _ _ _ _ h.out).trans rfl; have p0 : w.cell? ⟨P, 0, none⟩ = some (.int .i64 n) := (cell_of_row _ _ _ _ _ _ h.pool).trans rfl
 by_cases hc : s.code = 0
 rotate_left
 ·have e : stepS n s enc = s := by unfold stepS; rw [if_pos hc]
  rw [e]; have hcb : (s.code != 0) = true := bne_iff_ne.mpr hc; have HH := Lib.hid h; clear h he p0 e hc
  go_enter Tryd.func78, Tryd.ntmps78
  go_wp2
  (try simp only [Exit.inBlock, Exit.then]); refine bodyPost_ret (results_none rfl _ _ _) rfl ?_; exact ⟨rfl, v, HH.out, Fr.refl _ _, .inl rfl⟩
 obtain ⟨encs, code, sa, sb⟩ := s; dsimp only at hc o0; subst hc; obtain ⟨ea, eb⟩ := h.clean rfl; dsimp only at ea eb; subst ea eb; obtain ⟨cs, hcs⟩ : ∃ cs, (cutL enc n).map (Value.int .u8) = cs := ⟨_, rfl⟩
 have hcl : cs.length = 32 := by rw [← hcs, List.length_map, cutL_length enc n hn2]
 have hci : (Tryd.prog.info? 133).map (·.size) = some cs.length := by rw [hcl]; kernel_rfl
 have hc1 : ∀ x ∈ cs, x.oneCell' = true := by
  intro x hx; rw [← hcs] at hx; obtain ⟨y, _, rfl⟩ := List.mem_map.1 hx; rfl
 have HCS := Lib.hid hcs; have HT := Lib.hid h.tab; have HH := Lib.hid h; have hOlt := lt_of_block h.out; have hPlt := lt_of_block h.pool; clear h hcs
 go_enter Tryd.func78, Tryd.ntmps78
 go_upto_region 1 with fail
 go_cut [5] (fun v5 wc => ∃ g, v5 = .pointer (some ⟨g, 0, none⟩) ∧ Aside0 (w.heap.size ≤ g) ∧ Aside0 (wc.rangeAt g 0 cs) ∧ Aside0 (Below w.heap.size w wc))
 case first =>
  go_region_held3 (fun w' => w'.cell? ⟨B, 36, none⟩ = some (.string enc) ∧ w'.cell? ⟨P, 0, none⟩ = some (.int .i64 n) ∧ Below w.heap.size w w')
   (first | (with_reducible exact cells2P he p0 (by assumption)) | (with_reducible exact cells2P he p0 (Below.refl _ _).drew) | (with_reducible exact cells2P he p0 (below_new2 (below2P (by assumption)) _)) | exact cells2P he p0 (setCells_below _ (by first | omega | (simp; omega)) _ _ _ (below2P (by assumption))))
   (first | (go_at_call 79; refine (cut_any enc n hn1 hn2 (by omega) _ (HT.out.below (below2P (by assumption)))).mono ?_; rintro e w1 ⟨rfl, hb1⟩; have hq1 := (below2P (by assumption)).trans (hb1.mono (below2P (by assumption)).size); have hz1 := hq1.size; unfold hashV; rw [HCS.out]; have hth1 := thereRow (heap_alloc_new w1 (.cells #[Value.int .u8 0, .int .u8 0, .int .u8 0, .int .u8 0, .int .u8 0, .int .u8 0, .int .u8 0, .int .u8 0, .int .u8 0, .int .u8 0, .int .u8 0, .int .u8 0, .int .u8 0, .int .u8 0, .int .u8 0, .int .u8 0, .int .u8 0, .int .u8 0, .int .u8 0, .int .u8 0, .int .u8 0, .int .u8 0, .int .u8 0, .int .u8 0, .int .u8 0, .int .u8 0, .int .u8 0, .int .u8 0, .int .u8 0, .int .u8 0, .int .u8 0, .int .u8 0] 133)) rfl; (try (have hth2 := thereRow ((hb1.block _ (by simp)).trans (heap_alloc_new _ _)) rfl)); clear hb1))
  all_goals
   go_wp2
   go_meet
   case rel => exact ⟨_, rfl, ⟨by first | exact hz1 | exact Nat.le_refl _⟩, ⟨World.rangeAt_setCells_same _ _ _ _ (by rw [hcl]; first | exact hth1 | exact hth2)⟩, ⟨below2P (by assumption)⟩⟩
 case rest =>
  obtain ⟨g, rfl, HG, HRG, HBW⟩ := hcut; have HE := Lib.hid (cellB HBW.out he); clear he p0 o0 hci hc1; have hX := HH.out.below HBW.out; have x0 : wc.cell? ⟨X, 0, none⟩ = some (.pointer (some ⟨b, 0, none⟩)) := (cell_of_row _ _ _ _ _ _ hX.ptr).trans rfl; have b2 := hX.idx.c2; obtain ⟨D, hown, hpl⟩ := hX.idx.map; have kl := fun q => hash_loadR (cutL enc n) (cutL_length enc n hn2) g (wc.drewN q) (by rw [HCS.out]; exact fun j u hu => HRG.out j u hu)
  have kp := fun q => place_look (w := wc.drewN q) hown hpl (cutL enc n) (cut_H32 enc n hn2)
  unfold hashV at kl kp; rw [HCS.out] at kl kp; have HX := Lib.hid hX; clear hown hpl hX
  cases hi : firstAt (cuts n encs) (cutL enc n) with
  | none =>
   rw [hi] at kp; have HI := Lib.hid hi; clear hi
   go_upto_region 2 with fail
   refine wp_region_quiet_lit (by kernel_rfl) (by kernel_rfl) ?_
   iterate 4 (quiet_step (fail))
   refine wpQuiet_load rfl 133 _ rfl _ _ rfl (fun w' ⟨n, hn⟩ => by subst hn; exact kl n) ?_
   repeat (quiet_step (fail))
   refine wpQuiet_nil ?_; intro _ hw'; obtain ⟨nq0, hw''⟩ := hw'; subst hw''; clear kl kp b2; have b1 := HX.out.idx.c1; obtain ⟨VA, VC, hvf⟩ := HX.out.idx.own.form; rw [hvf] at b1; have HADD : Hid (∀ u, Idx base b m v n encs (cuts n encs) u → encs.length ≤ 1073741824 → base ≤ u.heap.size → Calls Tryd.prog 80 #[.pointer (some ⟨b, 0, none⟩), .agg cs.toArray, .string enc] u fun e w' => e = .returned (.tuple #[]) ∧ ∃ v', Idx base b m v' n (encs ++ [enc]) (cuts n encs ++ [cutL enc n]) w' ∧ Below base u w' ∧ (v'.ownBlock = v.ownBlock ∨ ∀ k, v'.ownBlock = some k → u.heap.size ≤ k) ∧ ∀ k, k < u.heap.size → k ≠ b → k ≠ m → v.ownBlock ≠ some k → w'.heap[k]? = u.heap[k]?) := Lib.hid (by
    intro u hu hn hb; have := idxAdd_newF base b m v n encs (cuts n encs) (cutL enc n) enc u hu (cut_H32 enc n hn2) HI.out hn hb; unfold hashV at this; rw [HCS.out] at this; exact this)
   have HVF := Lib.hid hvf; clear hvf
   by_cases hlen : 20000 ≤ encs.length
   ·have hd : decide ((20000 : Int) ≤ (encs.length : Int)) = true := decide_eq_true (by omega); have HI6 : Hid ((Tryd.prog.info? 44).map (·.size) = some (outRow ⟨encs, 1, ⟨#[]⟩, ⟨#[]⟩⟩).size) := Lib.hid (by kernel_rfl); have H16 : Hid ((outRow ⟨encs, 1, ⟨#[]⟩, ⟨#[]⟩⟩).all (·.oneCell') = true) := Lib.hid (by simp [outRow, Value.oneCell'])
    go_wp2
    go_quiet (fail)
    go_wp2_with (refine wpList_store_row rfl 44 _ _ rfl O (outRow ⟨encs, 1, ⟨#[]⟩, ⟨#[]⟩⟩) rfl rfl _ _ HX.out.out HI6.out rfl H16.out ?_)
    go_end0
    have e : stepS n ⟨encs, 0, ⟨#[]⟩, ⟨#[]⟩⟩ enc = ⟨encs, 1, ⟨#[]⟩, ⟨#[]⟩⟩ := by unfold stepS; rw [if_neg (by simp)]; dsimp only; rw [HI.out]; simp [hlen]
    rw [e]; have hgr : wc.grownBy _ (some O) := gTwo (gBelow (bdrewN (Below.refl wc.heap.size wc) (nq0 + nq)) _) (gRow _ O (outRow ⟨encs, 1, ⟨#[]⟩, ⟨#[]⟩⟩)) (.inl rfl); exact ⟨rfl, v, HX.out.setOut hgr (setRow_heap _ _ _ _ _ _ HX.out.out) rfl (by simp), frOut HBW.out hgr, .inl rfl⟩
   ·have hd : decide ((20000 : Int) ≤ (encs.length : Int)) = false := decide_eq_false (by omega)
    go_wp2
    go_quiet (fail)
    go_wp2
    generalize hW8 : wc.drewN (nq0 + nq) = W8; have hB8 : Below w.heap.size w W8 := by rw [← hW8]; exact HBW.out.trans (bdrewN (Below.refl _ _) _ |>.mono HBW.out.size)
    have hX8 : SvIs O P X base b m pv n v ⟨encs, 0, ⟨#[]⟩, ⟨#[]⟩⟩ W8 := by rw [← hW8]; exact HX.out.below (bdrewN (Below.refl _ _) _)
    have x8 : W8.cell? ⟨X, 0, none⟩ = some (.pointer (some ⟨b, 0, none⟩)) := (cell_of_row _ _ _ _ _ _ hX8.ptr).trans rfl; have e8 : W8.cell? ⟨B, 36, none⟩ = some (.string enc) := by rw [← hW8]; exact HE.out
    have kl8 := hash_loadR (cutL enc n) (cutL_length enc n hn2) g W8.drew (by rw [HCS.out, ← hW8]; exact fun j u hu => HRG.out j u hu); unfold hashV at kl8; rw [HCS.out] at kl8; have HX8 := Lib.hid (hX8.below (Below.refl _ _).drew); have HB8 := Lib.hid hB8.drew; clear hX8 hB8 hW8 x0 b1 HX
    go_still_tail 6, (by kernel_rfl)
    refine wpStill_load rfl 133 _ rfl _ (.agg cs.toArray) rfl kl8 ?_
    repeat still_step
    try refine wpStill_nil ?_
    change wpList _ _ _ _ _ W8.drew
    go_wp2_with (go_at_call 80; refine (HADD.out _ HX8.out.idx (by omega) (by have := HX8.out.bo; have := HX8.out.lt.1; omega)).mono ?_; rintro e w9 ⟨rfl, v', hi9, hb9, hv9, hf9⟩; have HI9 := Lib.hid hi9; have HB9 := Lib.hid hb9; have HV9 := Lib.hid hv9; have HF9 := Lib.hid hf9; clear hi9 hb9 hv9 hf9)
    go_end0
    have e : stepS n ⟨encs, 0, ⟨#[]⟩, ⟨#[]⟩⟩ enc = ⟨encs ++ [enc], 0, ⟨#[]⟩, ⟨#[]⟩⟩ := by unfold stepS; rw [if_neg (by simp)]; dsimp only; rw [HI.out]; simp [hlen]
    rw [e]; have hfr : Fr (b :: m :: v.ownBlock.toList) W8.drew w9 := ⟨HB9.out.os, HB9.out.tape, HB9.out.output, HB9.out.size, fun k hk hm => by
     simp only [List.mem_cons, not_or] at hm; exact HF9.out k hk hm.1 hm.2.1 (fun e => hm.2.2 (by rw [e]; simp))⟩
    exact ⟨rfl, v', HX8.out.add HI9.out hfr HV9.out (by omega) rfl, (Fr.ofBelow (bs := []) HB8.out).trans hfr (fun k hk => by simp at hk) (fun k _ hk => List.mem_cons_of_mem _ hk), HV9.out.imp id (fun g k hk => Nat.le_trans HB8.out.size (g k hk))⟩
  | some i =>
   rw [hi] at kp; have HI := Lib.hid hi; have hil : i < encs.length := by have := firstAt_lt _ _ _ hi; unfold cuts at this; rw [List.length_map] at this; exact this
   clear hi; obtain ⟨gv, cap, hvf, hg1, hg2, hg3, hg4, hg5⟩ := HX.out.idx.own.at (by dsimp only; omega); have b1 := HX.out.idx.c1; rw [hvf] at b1; have c2 := hg4 i (by first | exact hil | (dsimp only [strs_length]; simpa [strs_length] using hil)); rw [strs, List.getElem?_map, List.getElem?_eq_getElem hil, Option.map_some] at c2; obtain ⟨si, hsi⟩ : ∃ s, encs[i] = s := ⟨_, rfl⟩
   rw [hsi] at c2; have hgd : encs.getD i ⟨#[]⟩ = si := by rw [List.getD_eq_getElem?_getD, List.getElem?_eq_getElem hil]; exact hsi
   have hss : si.size ≤ 1048576 := by rw [← hsi]; exact HX.out.sz _ (List.getElem_mem _)
   have HGD := Lib.hid hgd; have HNG : Hid (gv ≠ O) := Lib.hid (fun e => HX.out.oo.2.2 (by rw [hvf, ← e]; rfl)); have e36 := HE.out; have i0 : (0 : Int) ≤ (i : Int) := by omega
   have ii : (i : Int) < (encs.length : Int) := by omega
   clear hsi hgd hvf hg1 hg2 hg3 hg4 hg5
   cases hq : (si.toList == enc.toList)
   ·go_upto_region 2 with fail
    refine wp_region_quiet_lit (by kernel_rfl) (by kernel_rfl) ?_
    iterate 4 (quiet_step (fail))
    refine wpQuiet_load rfl 133 _ rfl _ _ rfl (fun w' ⟨n, hn⟩ => by subst hn; exact kl n) ?_
    repeat (quiet_step (fail))
    refine wpQuiet_nil ?_; intro _ hw'; obtain ⟨nq0, hw''⟩ := hw'; subst hw''; clear kl kp b2
    go_wp2
    go_quiet (fail)
    go_wp2
    generalize hW4 : (wc.drewN nq0).drewN nq = W4; have hB4 : Below wc.heap.size wc W4 := by rw [← hW4]; exact bdrewN (bdrewN (Below.refl _ _) _) _
    have x4 := cellB hB4 x0; have b4 := cellB hB4 b1; have c4 := cellB hB4 c2; have e4 := cellB hB4 e36; have HX4 := Lib.hid (HX.out.below hB4); have HB4 := Lib.hid (HBW.out.trans (hB4.mono HBW.out.size)); clear hB4 hW4 x0 b1 c2 e36; have HTA := Lib.hid (textOf_f2 si hss); have HTB := Lib.hid (textOf_f2 enc (by omega)); have nX : X ≠ O := (mem_bsOf HX.out.px.2.1).1; have nB : B ≠ O := (mem_bsOf hB).1; have nb : b ≠ O := fun e => HX.out.oo.1 e.symm
    have ng : gv ≠ O := HNG.out
    go_region_held3 (fun w' => w'.cell? ⟨X, 0, none⟩ = some (.pointer (some ⟨b, 0, none⟩)) ∧ w'.cell? ⟨b, 1, none⟩ = some (.slice (some ⟨gv, 0, none⟩) encs.length cap) ∧ w'.cell? ⟨gv, i, none⟩ = some (.string si) ∧ w'.cell? ⟨B, 36, none⟩ = some (.string enc) ∧ W4.grownBy w' (some O))
     (first | ((with_reducible refine cells4O x4 b4 c4 e4 nX nb ng nB ?_); with_reducible assumption) | ((with_reducible refine cells4O x4 b4 c4 e4 nX nb ng nB ?_); with_reducible exact gBelow (Below.refl _ _).drew _) | ((with_reducible refine cells4O x4 b4 c4 e4 nX nb ng nB ?_); (repeat (first | ((with_reducible refine grown4P x4 b4 c4 e4 ?_); with_reducible assumption) | (with_reducible refine gTwo ?_ (gSet _ O _ _) (.inl rfl))))))
     (first
      | (go_at_call_of 66 (Value.string si); refine (impl_textOf.calls si (nText si) _ HTA.out).mono ?_; rintro e w1 ⟨rfl, hb1⟩; have hq1 := gTwo (grown4O (by assumption)) (gBelow hb1.below (some O)) (.inl rfl); have HO1 := Lib.hid ((hb1.below.block O (by exact HX4.out.lt.1)).trans (by exact HX4.out.out)); clear hb1)
      | (go_at_call_of 66 (Value.string enc); refine (impl_textOf.calls enc (nText enc) _ HTB.out).mono ?_; rintro e w2 ⟨rfl, hb2⟩; have hq2 := gTwo (grown4O (by assumption)) (gBelow hb2.below (some O)) (.inl rfl); have hO2 := (hb2.below.block O (lt_of_block HO1.out)).trans HO1.out; have o0 := cell_of_row _ _ 0 _ _ _ hO2; have o1 := cell_of_row _ _ 1 _ _ _ hO2; have o2 := cell_of_row _ _ 2 _ _ _ hO2; have o3 := cell_of_row _ _ 3 _ _ _ hO2; have o4 := cell_of_row _ _ 4 _ _ _ hO2; have o5 := cell_of_row _ _ 5 _ _ _ hO2; have f0 := frozen_of_row _ _ 0 _ _ hO2; have f1 := frozen_of_row _ _ 1 _ _ hO2; have f2 := frozen_of_row _ _ 2 _ _ hO2; have f3 := frozen_of_row _ _ 3 _ _ hO2; have f4 := frozen_of_row _ _ 4 _ _ hO2; have f5 := frozen_of_row _ _ 5 _ _ hO2; simp only [outRow, List.getElem?_toArray, List.getElem?_cons_zero, List.getElem?_cons_succ] at o0 o1 o2 o3 o4 o5; have HO2 := Lib.hid hO2; clear hb2 hO2))
    have hgr := grown4P x4 b4 c4 e4 (by assumption)
    go_end0
    have e : stepS n ⟨encs, 0, ⟨#[]⟩, ⟨#[]⟩⟩ enc = ⟨encs, 4, nText si, nText enc⟩ := by
     unfold stepS; rw [if_neg (by simp)]; dsimp only; rw [HI.out]; dsimp only; rw [HGD.out, if_neg (fun e => by rw [e] at hq; simp at hq)]
    rw [e]; refine ⟨rfl, v, HX4.out.setOut hgr ?_ rfl (by simp), frOut HB4.out hgr, .inl rfl⟩; have g0 := blk_put HO2.out 0 (.int .i64 0) rfl; have g1 := blk_put g0 1 (.int .i64 0) rfl; have g2 := blk_put g1 2 (.slice none 0 0) rfl; have g3 := blk_put g2 3 (.string ⟨#[]⟩) rfl; have g4 := blk_put g3 4 (.string ⟨#[]⟩) rfl; have g5 := blk_put g4 5 (.string ⟨#[]⟩) rfl; have g6 := blk_put g5 0 (.int .i64 4) rfl; have g7 := blk_put g6 4 (.string (nText si)) rfl; have g8 := blk_put g7 5 (.string (nText enc)) rfl; simp only [outRow, List.setIfInBounds_toArray, List.set_cons_zero, List.set_cons_succ] at g8; exact g8
   ·go_upto_region 2 with fail
    refine wp_region_quiet_lit (by kernel_rfl) (by kernel_rfl) ?_
    iterate 4 (quiet_step (fail))
    refine wpQuiet_load rfl 133 _ rfl _ _ rfl (fun w' ⟨n, hn⟩ => by subst hn; exact kl n) ?_
    repeat (quiet_step (fail))
    refine wpQuiet_nil ?_; intro _ hw'; obtain ⟨nq0, hw''⟩ := hw'; subst hw''; clear kl kp b2
    go_wp2
    go_quiet (fail)
    go_wp2
    go_end0
    have e : stepS n ⟨encs, 0, ⟨#[]⟩, ⟨#[]⟩⟩ enc = ⟨encs, 0, ⟨#[]⟩, ⟨#[]⟩⟩ := by
     unfold stepS; rw [if_neg (by simp)]; dsimp only; rw [HI.out]; dsimp only; rw [HGD.out, if_pos (of_decide_eq_true ((str_eq si enc).symm.trans hq))]
    rw [e]; have hb9 : Below wc.heap.size wc ((wc.drewN nq0).drewN nq) := bdrewN (bdrewN (Below.refl _ _) _) _; exact ⟨rfl, v, HX.out.below (by first | exact hb9 | exact bdrewN (Below.refl _ _) _), Fr.ofBelow (HBW.out.trans (Below.mono (by first | exact hb9 | exact bdrewN (Below.refl _ _) _) HBW.out.size)), .inl rfl⟩
end Go.Proofs.YtaepebkeijmjgaaDoor.Z
end
section
namespace Go.Proofs.YtaepebkeijmjgaaDoor.Z
open RowKit YtaepebkeijmjgaaDoor YtaepebkeijmjgaaDoorW.PrintWords YtaepebkeijmjgaaDoorW.PrintLast
set_option linter.all false
set_option maxRecDepth 100000
def encN : Sh Nd → List ByteArray
 | .nil => []
 | .node x l r => encN l ++ encN r ++ [x.enc]
theorem ownTrans {a b c : Value} {m n : Nat} (h1 : b.ownBlock = a.ownBlock ∨ ∀ k, b.ownBlock = some k → m ≤ k) (h2 : c.ownBlock = b.ownBlock ∨ ∀ k, c.ownBlock = some k → n ≤ k) (hmn : m ≤ n) : c.ownBlock = a.ownBlock ∨ ∀ k, c.ownBlock = some k → m ≤ k := by
 rcases h2 with h2 | h2
 ·rcases h1 with h1 | h1
  ·exact .inl (h2.trans h1)
  ·exact .inr fun k hk => h1 k (h2.symm.trans hk)
 ·exact .inr fun k hk => Nat.le_trans hmn (h2 k hk)
theorem frTwo {O b m : Nat} {v v' : Value} {w w1 w2 : World} (h1 : Fr (bsOf O b m v) w w1) (h2 : Fr (bsOf O b m v') w1 w2) (hv : v'.ownBlock = v.ownBlock ∨ ∀ k, v'.ownBlock = some k → w.heap.size ≤ k) : Fr (bsOf O b m v) w w2 :=
 h1.trans h2 (fun _ h => h) (fun k hk hm => by
  by_cases h : k ∈ bsOf O b m v
  ·exact h
  ·exact absurd hm (bsOf_new h hv hk))
set_option maxHeartbeats 2000000 in
theorem eachSave_any (O P X base b m : Nat) (pv : Value) (n : Nat) (hn1 : 1 ≤ n) (hn2 : n ≤ 32) : ∀ (t : Sh Nd) (v : Value) (s : SaveSt) (w : World), InM w t → SvIs O P X base b m pv n v s w → (∀ k ∈ blks t, k ∉ bsOf O b m v) → (∀ e ∈ encN t, e.size ≤ 4000) →
  Calls Tryd.prog 77 #[ptrT t, .func (.func 78) #[] #[.pointer (some ⟨O, 0, none⟩), .pointer (some ⟨P, 0, none⟩), .pointer (some ⟨X, 0, none⟩)]] w fun e w' => e = .returned (.tuple #[]) ∧ ∃ v', SvIs O P X base b m pv n v' ((encN t).foldl (stepS n) s) w' ∧ Fr (bsOf O b m v) w w' ∧ (v'.ownBlock = v.ownBlock ∨ ∀ k, v'.ownBlock = some k → w.heap.size ≤ k) := by
 intro t
 induction t with
 | nil =>
  intro v s w _ hs _ _; unfold ptrT
  go_enter Tryd.func77, Tryd.ntmps77
  go_wp2
  (try simp only [Exit.inBlock, Exit.then]); refine bodyPost_ret (results_none rfl _ _ _) rfl ?_; exact ⟨rfl, v, hs, Fr.refl _ _, .inl rfl⟩
 | node x l r ihl ihr =>
  intro v s w hi hs hn he; have HX := Lib.hid hi; clear hi; have HS := Lib.hid hs; clear hs; have HN := Lib.hid hn; clear hn; have HE := Lib.hid he; clear he; have HL := Lib.hid ihl; clear ihl; have HR := Lib.hid ihr; clear ihr; obtain ⟨b0, hb⟩ : ∃ b0, x.b = b0 := ⟨_, rfl⟩
  obtain ⟨pl, hpl⟩ : ∃ p, ptrT l = p := ⟨_, rfl⟩
  obtain ⟨pr, hpr⟩ : ∃ p, ptrT r = p := ⟨_, rfl⟩
  have c34 : w.cell? ⟨x.b, 34, none⟩ = some (ptrT l) := (cell_of_row _ _ _ _ _ _ HX.out.1).trans (rowT_left _ _ _); rw [hb, hpl] at c34; have HB := Lib.hid hb; have HPL := Lib.hid hpl; have HPR := Lib.hid hpr; show Calls Tryd.prog 77 #[ptrB x.b, _] w _; unfold ptrB; rw [hb]; clear hb hpl hpr
  go_enter Tryd.func77, Tryd.ntmps77
  go_wp2_with fail
  rw [← HPL.out]; refine (HL.out v s w HX.out.2.1 HS.out (fun k hk => HN.out k (by simp [blks, hk])) (fun e he => HE.out e (by simp [encN, he]))).mono ?_; rintro e w1 ⟨rfl, v1, hs1, hf1, hv1⟩; have HS1 := Lib.hid hs1; clear hs1; have HF1 := Lib.hid hf1; clear hf1; have HV1 := Lib.hid hv1; clear hv1; have hr1 := (HF1.out.block x.b (lt_of_block HX.out.1) (HN.out x.b (by simp [blks]))).trans HX.out.1; have c35 : w1.cell? ⟨x.b, 35, none⟩ = some (ptrT r) := (cell_of_row _ _ _ _ _ _ hr1).trans (rowT_right _ _ _); rw [HB.out, HPR.out] at c35; have HR1 := Lib.hid hr1; clear hr1 c34; have HXr := Lib.hid (HX.out.2.2.fr HF1.out (fun k hk => HN.out k (by simp [blks, hk]))); have HNr : Hid (∀ k ∈ blks r, k ∉ bsOf O b m v1) := Lib.hid (fun k hk => bsOf_new (HN.out k (by simp [blks, hk])) HV1.out (HX.out.2.2.lt k hk)); have HNx : Hid (x.b ∉ bsOf O b m v1) := Lib.hid (bsOf_new (HN.out x.b (by simp [blks])) HV1.out (lt_of_block HX.out.1))
  go_wp2_with fail
  rw [← HPR.out]; refine (HR.out v1 _ w1 HXr.out HS1.out HNr.out (fun e he => HE.out e (by simp [encN, he]))).mono ?_; rintro e w2 ⟨rfl, v2, hs2, hf2, hv2⟩; have HS2 := Lib.hid hs2; clear hs2; have HF2 := Lib.hid hf2; clear hf2 c35; have HV2 := Lib.hid hv2; clear hv2; have HR2 := Lib.hid ((HF2.out.block x.b (lt_of_block HR1.out) HNx.out).trans HR1.out); have e36 : w2.cell? ⟨b0, 36, none⟩ = some (.string x.enc) := by rw [← HB.out]; exact (cell_of_row _ _ _ _ _ _ HR2.out).trans (rowT_enc _ _ _)
  have HNx2 : Hid (b0 ∉ bsOf O b m v2) := Lib.hid (by rw [← HB.out]; exact bsOf_new HNx.out HV2.out (lt_of_block HR1.out)); have hsz : x.enc.size ≤ 4000 := HE.out _ (by simp [encN])
  go_wp2_with (go_at_call 78; refine (saveStep_any O P X base b m pv n hn1 hn2 v2 _ b0 x.enc w2 HS2.out e36 hsz HNx2.out).mono ?_; rintro e w3 ⟨rfl, v3, hs3, hf3, hv3⟩; have HS3 := Lib.hid hs3; have HF3 := Lib.hid hf3; have HV3 := Lib.hid hv3; clear hs3 hf3 hv3)
  go_end0
  have hv12 := ownTrans HV1.out HV2.out HF1.out.size; have hf12 := frTwo HF1.out HF2.out HV1.out; refine ⟨rfl, v3, ?_, frTwo hf12 HF3.out hv12, ownTrans hv12 HV3.out hf12.size⟩; rw [encN, List.foldl_append, List.foldl_append]; exact HS3.out
theorem ownC {w : World} {base : Nat} {v : Value} {l : List ByteArray} (h : Own w base 1 v l.length (strs l)) (hl : l.length ≤ 1073741824) : ∃ A c, v = .slice A l.length c ∧ Kd.C Kd.string w A l.length l := by
 rcases Nat.eq_zero_or_pos l.length with e | e
 ·obtain ⟨A, c, hv⟩ := h.form; exact ⟨A, c, hv, rfl, by omega, fun h0 => by omega⟩
 ·obtain ⟨g, cap, hv, _, _, _, h4, _⟩ := h.at e; refine ⟨_, _, hv, rfl, by omega, fun _ => ⟨_, rfl, fun j p hj => ⟨[.string p], rfl, rfl, fun i u hu => ?_⟩⟩⟩; have hi : i = 0 := by
   rcases i with _ | i
   ·rfl
   ·simp at hu
  subst hi; have hjl : j < l.length := by
   rcases Nat.lt_or_ge j l.length with g | g
   ·exact g
   ·rw [List.getElem?_eq_none g] at hj; cases hj
  have c := h4 j (by omega); rw [strs, List.getElem?_map, hj] at c; have e2 : (⟨g, 0, none⟩ : Addr).add (j * Kd.string.sz + 0) = ⟨g, j, none⟩ := by
   show (⟨g, 0, none⟩ : Addr).add (j * 1 + 0) = _; simp [Addr.add]; omega
  rw [e2, c]
  simpa using hu
theorem strKM (W : World) (base : Nat) (x : ByteArray) (cs : List Value) (h : Kd.string.K W x cs) : Kd.string.M W base (fun _ => False) x cs := h
theorem cells2B {B : Nat} {w u : World} {p q : Addr} {a b : Value} (h0 : w.cell? p = some a) (h1 : w.cell? q = some b) (hp : p.block < B) (hq : q.block < B) (hb : Below B w u) : u.cell? p = some a ∧ u.cell? q = some b ∧ Below B w u := ⟨(hb.cell hp).trans h0, (hb.cell hq).trans h1, hb⟩
set_option maxHeartbeats 2000000 in
theorem idxPool_any (base b m : Nat) (v : Value) (W : Int) (encs : List ByteArray) (C : List (List Int)) (w : World) (h : Idx base b m v W encs C w) (hl : encs.length ≤ 1073741824) :
  Calls Tryd.prog 81 #[.pointer (some ⟨b, 0, none⟩)] w fun e w' => ∃ u, e = .returned (.agg #[.int .i64 W, u]) ∧ Kd.R Kd.string 9 w' w.heap.size (fun _ => True) u encs ∧ Below w.heap.size w w' := by
 obtain ⟨A, c, rfl, hC⟩ := ownC h.own hl; obtain ⟨W0, hW0⟩ : ∃ W0, W0 = w.alloc (.cells #[.int .i64 0, .slice none 0 0] 34) := ⟨_, rfl⟩
 have hB0 : Below w.heap.size w W0 := by rw [hW0]; exact (Below.refl _ _).alloc (Nat.le_refl _) _
 have hz0 : W0.heap.size = w.heap.size + 1 := by rw [hW0]; simp
 have hr0 : W0.heap[w.heap.size]? = some (.cells #[.int .i64 0, .slice none 0 0] 34 (0, 0)) := by rw [hW0]; exact heap_alloc_new _ _
 have b0 := cellB hB0 h.c0; have b1 := cellB hB0 h.c1; have HC := Lib.hid (Kd.C_below hC hB0); have HB0 := Lib.hid hB0; have HR0 := Lib.hid hr0; have HWE := Lib.hid hW0; have hblt := h.lt; clear h hC hB0 hr0 hW0
 go_enter Tryd.func81, Tryd.ntmps81
 go_upto_region 1 with fail
 rw [← HWE.out]; have nb : b < w.heap.size := hblt
 go_region_held3 (fun w' => w'.cell? ⟨b, 0, none⟩ = some (.int .i64 W) ∧ w'.cell? ⟨b, 1, none⟩ = some (.slice A encs.length c) ∧ Below w.heap.size W0 w')
  (first | ((with_reducible refine cells2B b0 b1 nb nb ?_); with_reducible assumption) | ((with_reducible refine cells2B b0 b1 nb nb ?_); with_reducible exact (Below.refl _ _).drew) | ((with_reducible refine cells2B b0 b1 nb nb ?_); (repeat (first | (with_reducible assumption) | (with_reducible refine Below.setCell ?_ zq_37 _)))))
  (first | (refine Kd.R_append_rows_step Kd.string (w0 := W0) (w.heap.size + 1) (by rfl) (.const (.slice none 0 0)) (.tmp 10) 28 9 (.string ⟨#[]⟩) 16 (by rfl) Tryd.underlying28 infoStr rfl (by decide) (by omega) (.slice none 0 0) [] encs A _ c (fun _ => True) (fun _ => False) (by rfl) (by rfl) (Kd.R_nil _ _ _ _ _) (Kd.C_below HC.out (Below.refl _ _).drew) (strKM _ _) (fun _ h => h.elim) (fun _ _ => trivial) (Below.refl _ _).drew (by show _ ≤ W0.heap.size; omega) (by simp only [List.length_nil]; omega) ?_; intro v3 w3 ho3 hb3 hg3 ha3; obtain ⟨A3, c3, e3⟩ := Kd.R_slice ho3; subst e3; have hq3 : Below w.heap.size W0 w3 := hb3.mono (by omega); have hr3 := (hb3.block w.heap.size (by omega)).trans HR0.out; have q0 := cell_of_row _ _ 0 _ _ _ hr3; have q1 := cell_of_row _ _ 1 _ _ _ hr3; have f0 := frozen_of_row _ _ 0 _ _ hr3; have f1 := frozen_of_row _ _ 1 _ _ hr3; simp only [List.getElem?_toArray, List.getElem?_cons_zero, List.getElem?_cons_succ] at q0 q1; have HR3 := Lib.hid hr3; have HO3 := Lib.hid ho3; clear hr3 ho3 hg3 ha3 hb3))
 go_wp2
 refine bodyPost_ret (results_cell_row rfl _ _ w.heap.size 34 #[.int .i64 W, .slice A3 encs.length c3] (0, 0) _ rfl (by exact blk_put (blk_put HR3.out 0 _ rfl) 1 _ rfl) Tryd.underlying34 rfl (by kernel_rfl)) rfl ?_; refine ⟨_, rfl, ?_, HB0.out.trans (((hq3.setCell (Nat.le_refl _) _).setCell (Nat.le_refl _) _).mono (by have := HB0.out.size; omega))⟩; have h := Kd.R_bound HO3.out; have h2 := Kd.R_far h (p := ⟨w.heap.size, 0, none⟩) (fun k hk e => by have := hk.2.1; simp at e; omega) (.int .i64 W); have h3 := Kd.R_far h2 (p := ⟨w.heap.size, 1, none⟩) (fun k hk e => by have := hk.2.1; simp at e; omega) (.slice A3 encs.length c3); exact Kd.R_mono (Kd.R_lower h3 (by omega)) (fun _ _ => trivial)
def rootL (s : ByteArray) : List Int := ints s.data.toList ++ List.replicate (32 - s.size) 0
def small (l : List ByteArray) : Prop := l.length ≤ 1048576 ∧ ∀ s ∈ l, s.size ≤ 1048576
instance (l : List ByteArray) : Decidable (small l) := inferInstanceAs (Decidable (l.length ≤ 1048576 ∧ ∀ s ∈ l, s.size ≤ 1048576))
def poolOk (W : Int) (l : List ByteArray) : Bool := decide (1 ≤ W ∧ W ≤ 32 ∧ l.length ≤ 20000)
theorem poolOk_iff {W : Int} {l : List ByteArray} : poolOk W l = true ↔ 1 ≤ W ∧ W ≤ 32 ∧ l.length ≤ 20000 := by unfold poolOk; rw [decide_eq_true_eq]
theorem poolValid_f (W : Int) (l : List ByteArray) : impl_Pool_valid.f W l = some (poolOk W l) := by
 unfold impl_Pool_valid.f impl_isWidth.f poolOk
 by_cases h1 : W ≥ 1
 ·rw [if_pos h1, Option.bind_some]
  by_cases h2 : W ≤ 32
  ·rw [decide_eq_true h2, if_pos rfl]; refine congrArg some ?_; rw [decide_eq_decide]; omega
  ·rw [decide_eq_false h2, if_neg (by decide), decide_eq_false (by omega)]
 ·rw [if_neg h1, Option.bind_some, if_neg (by decide), decide_eq_false (by omega)]
end Go.Proofs.YtaepebkeijmjgaaDoor.Z
end
section
namespace Go.Proofs.YtaepebkeijmjgaaDoor.Z
open RowKit YtaepebkeijmjgaaDoor YtaepebkeijmjgaaDoorW.PrintWords YtaepebkeijmjgaaDoorW.PrintLast
theorem wN {x : Int} {n : Nat} (h : x = (n : Int)) (hn : n ≤ 9223372036854775807) : wrap64 x = (n : Int) := by rw [h]; unfold wrap64; omega
theorem wrapN (n : Nat) (h : n < 9223372036854775808) : IntKind.i64.wrap (n : Int) = n := by
 simp [IntKind.wrap, IntKind.bits, IntKind.signed]; omega
theorem rd_at {α : Type} (d : α) (l : List α) (i : Nat) (h : i < l.length) : rdOf d l (i : Int) = l[i] := by
 unfold rdOf; rw [Int.toNat_natCast, List.getD_eq_getElem?_getD, List.getElem?_eq_getElem h]; rfl
end Go.Proofs.YtaepebkeijmjgaaDoor.Z
end
section
namespace Go.Proofs.YtaepebkeijmjgaaDoor.Z
open RowKit YtaepebkeijmjgaaDoorW.PrintWords YtaepebkeijmjgaaDoorW.PrintLast YtaepebkeijmjgaaDoorW.PrintMore
attribute [local go_sem] max2_int min2_int max_two min_two max_three min_three max_four min_four
set_option linter.all false
mutual
def spec_l1Less.l0 : Nat → ByteArray → ByteArray → Int → Option (Bool)
 | 0, _, _, _ => none
 | k + 1, x0, x1, x5 => if x5 < (x0.size : Int) then (spec_l1Less.j1 k x0 x1 x5 (decide (x5 < (x1.size : Int)))) else (spec_l1Less.j1 k x0 x1 x5 false)
def spec_l1Less.j1 : Nat → ByteArray → ByteArray → Int → Bool → Option (Bool)
 | 0, _, _, _, _ => none
 | k + 1, x0, x1, x5, x15 => if x15 = true then (if 0 ≤ x5 then (if x5 < (x0.size : Int) then (if x5 < (x1.size : Int) then (if (bt x0 x5) = (bt x1 x5) then (spec_l1Less.l0 k x0 x1 (wrap64 (x5 + 1))) else (some (decide ((bt x0 x5) < (bt x1 x5))))) else (none)) else (none)) else (none)) else (some (decide ((x0.size : Int) < (x1.size : Int))))
end
def spec_l1Less.f (k : Nat) (a0 : ByteArray) (a1 : ByteArray) : Option (Bool) := spec_l1Less.l0 k a0 a1 0
set_option maxHeartbeats 8000000 in
set_option maxRecDepth 100000 in
theorem spec_l1Less.calls (k : Nat) (a0 : ByteArray) (a1 : ByteArray) (r : Bool) (w : World) (h : spec_l1Less.f k a0 a1 = some r) :
  Calls Tryd.prog 103 #[.string a0, .string a1] w fun e w' => e = .returned (.bool r) ∧ Drawn0 w w' := by
 have H : (spec_l1Less.l0 k a0 a1 0) = some r := h; clear h; have H' := Aside0.mk H; clear H
 go_enter Tryd.func103, Tryd.ntmps103
 go_wp2
 repeat (go_quiet (fail); try go_wp2)
 go_loopg [5] k (fun kq v5 w' => ∃ (x5_1 : Int), v5 = .int .i64 x5_1 ∧ Aside0 (spec_l1Less.l0 kq a0 a1 x5_1 = some r) ∧ Aside0 (kq ≤ k) ∧ Drawn0 w w')
 case atStart => exact ⟨(0), zq_5, H', ⟨Nat.le_refl _⟩, by repeat (first | exact Drawn0.refl _ | apply Drawn0.step)⟩
 case round =>
  clear H'
  try clear c1
  try clear p2
  obtain ⟨x5_1, rfl, HA, HK1, ⟨m1, rfl⟩⟩ := hrel
  cases gk with
  | zero => exact absurd HA.out (by simp [spec_l1Less.l0])
  | succ k1 =>
   have H := HA.out; clear HA; simp only [spec_l1Less.l0] at H; have HC3 := Aside0.mk H; clear H
   go_upto_region 2 with (fail)
   repeat (go_quiet (fail); go_upto_region 2 with (fail))
   go_cut [15] (fun v15 wc => ∃ (kq : Nat) (x15_2 : Bool), v15 = .bool x15_2 ∧ Aside0 (spec_l1Less.j1 kq a0 a1 x5_1 x15_2 = some r) ∧ Aside0 (kq ≤ k1) ∧ Drawn0 w wc)
   case first =>
    have H := HC3.out; clear HC3
    by_cases c4 : x5_1 < (a0.size : Int)
    ·rw [if_pos c4] at H; have c4b0 : decide (x5_1 < (a0.size : Int)) = true := decide_eq_true c4; clear c4; (first | rw [c4b0] | (simp only [i64_w, i32_w]; rw [c4b0]) | skip); have H' := Aside0.mk H; clear H
     go_wp2
     repeat (go_quiet (fail); try go_wp2)
     go_meet
     case rel => exact ⟨_, (decide (x5_1 < (a1.size : Int))), zq_5, H', ⟨by have := HK1.out; first | omega | exact Nat.le_refl _⟩, by repeat (first | exact Drawn0.refl _ | apply Drawn0.step)⟩
    ·rw [if_neg c4] at H; have c4b0 : decide (x5_1 < (a0.size : Int)) = false := decide_eq_false c4; clear c4; (first | rw [c4b0] | (simp only [i64_w, i32_w]; rw [c4b0]) | skip); have H' := Aside0.mk H; clear H
     go_wp2
     repeat (go_quiet (fail); try go_wp2)
     go_meet
     case rel => exact ⟨_, (false), zq_5, H', ⟨by have := HK1.out; first | omega | exact Nat.le_refl _⟩, by repeat (first | exact Drawn0.refl _ | apply Drawn0.step)⟩
   case rest =>
    clear HC3
    try clear c1
    try clear p2
    try clear c4
    try clear c4b0
    try clear p2
    obtain ⟨kq, x15_2, rfl, HA, HJ2, ⟨mc2, rfl⟩⟩ := hcut
    cases kq with
    | zero => exact absurd HA.out (by simp [spec_l1Less.j1])
    | succ kj2 =>
     have H := HA.out; clear HA; simp only [spec_l1Less.j1] at H
     by_cases c5 : x15_2 = true
     ·subst c5; have H1 : (if 0 ≤ x5_1 then (if x5_1 < (a0.size : Int) then (if x5_1 < (a1.size : Int) then (if (bt a0 x5_1) = (bt a1 x5_1) then (spec_l1Less.l0 kj2 a0 a1 (wrap64 (x5_1 + 1))) else (some (decide ((bt a0 x5_1) < (bt a1 x5_1))))) else (none)) else (none)) else (none)) = some r := by rw [if_pos rfl] at H; exact H
      clear H; have H := H1; clear H1
      by_cases c6 : 0 ≤ x5_1
      ·rw [if_pos c6] at H; have c6b0 : decide (0 ≤ x5_1) = true := decide_eq_true c6; clear c6
       by_cases c7 : x5_1 < (a0.size : Int)
       ·rw [if_pos c7] at H; have c7b0 : decide (x5_1 < (a0.size : Int)) = true := decide_eq_true c7; clear c7
        by_cases c9 : x5_1 < (a1.size : Int)
        ·rw [if_pos c9] at H; have c9b0 : decide (x5_1 < (a1.size : Int)) = true := decide_eq_true c9; clear c9
         by_cases c11 : (bt a0 x5_1) = (bt a1 x5_1)
         ·rw [if_pos c11] at H; have c11b0 : ((bt a0 x5_1) == (bt a1 x5_1)) = true := beq_iff_eq.mpr c11; have c11b1 : ((bt a0 x5_1) != (bt a1 x5_1)) = false := bne_eq_false_iff_eq.mpr c11; clear c11; have H' := Aside0.mk H; clear H; have p8 : 0 ≤ (x5_1 : Int) := of_decide_eq_true zq_2; have q8 : x5_1 < (a0.size : Int) := of_decide_eq_true zq_2; have hx8 := bt_at a0 x5_1; replace p8 := eq_true p8; replace q8 := eq_true q8; have p10 : 0 ≤ (x5_1 : Int) := of_decide_eq_true zq_2; have q10 : x5_1 < (a1.size : Int) := of_decide_eq_true zq_2; have hx10 := bt_at a1 x5_1; replace p10 := eq_true p10; replace q10 := eq_true q10
          go_wp2
          repeat (go_quiet (fail); try go_wp2)
          go_roundg kj2
          case measure => have := HK1.out; have := HJ2.out; omega
          case rel => exact ⟨(wrap64 (x5_1 + 1)), zq_5, H', ⟨by have := HK1.out; have := HJ2.out; omega⟩, by repeat (first | exact Drawn0.refl _ | apply Drawn0.step)⟩
         ·rw [if_neg c11] at H; have c11b0 : ((bt a0 x5_1) == (bt a1 x5_1)) = false := beq_eq_false_iff_ne.mpr c11; have c11b1 : ((bt a0 x5_1) != (bt a1 x5_1)) = true := bne_iff_ne.mpr c11; obtain rfl := Option.some.inj H; have p8 : 0 ≤ (x5_1 : Int) := of_decide_eq_true zq_2; have q8 : x5_1 < (a0.size : Int) := of_decide_eq_true zq_2; have hx8 := bt_at a0 x5_1; replace p8 := eq_true p8; replace q8 := eq_true q8; have p10 : 0 ≤ (x5_1 : Int) := of_decide_eq_true zq_2; have q10 : x5_1 < (a1.size : Int) := of_decide_eq_true zq_2; have hx10 := bt_at a1 x5_1; replace p10 := eq_true p10; replace q10 := eq_true q10; have p12 : 0 ≤ (x5_1 : Int) := of_decide_eq_true zq_2; have q12 : x5_1 < (a0.size : Int) := of_decide_eq_true zq_2; have hx12 := bt_at a0 x5_1; replace p12 := eq_true p12; replace q12 := eq_true q12; have p13 : 0 ≤ (x5_1 : Int) := of_decide_eq_true zq_2; have q13 : x5_1 < (a1.size : Int) := of_decide_eq_true zq_2; have hx13 := bt_at a1 x5_1; replace p13 := eq_true p13; replace q13 := eq_true q13
          go_wp2
          repeat (go_quiet (fail); try go_wp2)
          go_ret
          exact ⟨by first | rfl | (simp; done) | (simp [*]; done), by repeat (first | exact Drawn0.refl _ | apply Drawn0.step)⟩
        ·rw [if_neg c9] at H; exact absurd H (by simp)
       ·rw [if_neg c7] at H; exact absurd H (by simp)
      ·rw [if_neg c6] at H; exact absurd H (by simp)
     ·replace c5 := Bool.eq_false_iff.mpr c5; subst c5; have H1 : (some (decide ((a0.size : Int) < (a1.size : Int)))) = some r := by rw [if_neg (show ¬ (false = true) by decide)] at H; exact H
      clear H; have H := H1; clear H1; obtain rfl := Option.some.inj H
      go_wp2
      repeat (go_quiet (fail); try go_wp2)
      go_ret
      exact ⟨by first | rfl | (simp; done) | (simp [*]; done), by repeat (first | exact Drawn0.refl _ | apply Drawn0.step)⟩
def spec_l1Width.f (a0 : Int) : Option (Bool) := if a0 ≥ 1 then (some (decide (a0 ≤ 32))) else (some false)
set_option maxHeartbeats 8000000 in
set_option maxRecDepth 100000 in
theorem spec_l1Width.calls (a0 : Int) (r : Bool) (w : World) (h : spec_l1Width.f a0 = some r) :
  Calls Tryd.prog 90 #[.int .i64 a0] w fun e w' => e = .returned (.bool r) ∧ Drawn0 w w' := by
 have H : (if a0 ≥ 1 then (some (decide (a0 ≤ 32))) else (some false)) = some r := h; clear h
 by_cases c2 : a0 ≥ 1
 ·rw [if_pos c2] at H; have c2b0 : decide (1 ≤ a0) = true := decide_eq_true c2; clear c2; obtain rfl := Option.some.inj H
  go_enter Tryd.func90, Tryd.ntmps90
  go_wp2
  go_ret
  exact ⟨by first | rfl | (simp; done) | (simp [*]; done), by repeat (first | exact Drawn0.refl _ | apply Drawn0.step)⟩
 ·rw [if_neg c2] at H; have c2b0 : decide (1 ≤ a0) = false := decide_eq_false c2; clear c2; obtain rfl := Option.some.inj H
  go_enter Tryd.func90, Tryd.ntmps90
  go_wp2
  go_ret
  exact ⟨by first | rfl | (simp; done) | (simp [*]; done), by repeat (first | exact Drawn0.refl _ | apply Drawn0.step)⟩
def spec_Digest.f (k : Nat) (a0 : ByteArray) (a1 : Int) : Option (ByteArray) := (spec_l1Width.f a1).bind fun t340001 => (if t340001 = true then ((spec_Sha256.f k a0).bind fun t340002 => (if 0 ≤ a1 then (if a1 ≤ (t340002.size : Int) then (some (t340002.extract 0 (a1 : Int).toNat)) else (none)) else (none))) else (some (⟨#[]⟩ : ByteArray)))
set_option maxHeartbeats 8000000 in
set_option maxRecDepth 100000 in
theorem spec_Digest.calls (k : Nat) (a0 : ByteArray) (a1 : Int) (r : ByteArray) (w : World) (h : spec_Digest.f k a0 a1 = some r) :
  Calls Tryd.prog 34 #[.string a0, .int .i64 a1] w fun e w' => e = .returned (.string r) ∧ Below w.heap.size w w' := by
 have HB := Aside0.mk (Below.refl w.heap.size w); have H : ((spec_l1Width.f a1).bind fun t340001 => (if t340001 = true then ((spec_Sha256.f k a0).bind fun t340002 => (if 0 ≤ a1 then (if a1 ≤ (t340002.size : Int) then (some (t340002.extract 0 (a1 : Int).toNat)) else (none)) else (none))) else (some (⟨#[]⟩ : ByteArray)))) = some r := h; clear h; replace H := Option.bind_eq_some_iff.mp H; obtain ⟨t340001, A30, H⟩ := H; (try dsimp only at H); have A3 := Aside0.mk A30; clear A30
 by_cases c4 : t340001 = true
 ·subst c4; have H1 : ((spec_Sha256.f k a0).bind fun t340002 => (if 0 ≤ a1 then (if a1 ≤ (t340002.size : Int) then (some (t340002.extract 0 (a1 : Int).toNat)) else (none)) else (none))) = some r := by rw [if_pos rfl] at H; exact H
  clear H; have H := H1; clear H1; replace H := Option.bind_eq_some_iff.mp H; obtain ⟨t340002, A50, H⟩ := H; (try dsimp only at H); have A5 := Aside0.mk A50; clear A50
  by_cases c6 : 0 ≤ a1
  ·rw [if_pos c6] at H; have c6b0 := eq_true c6; have c6b1 : decide (0 ≤ a1) = true := decide_eq_true c6; clear c6
   by_cases c7 : a1 ≤ (t340002.size : Int)
   ·rw [if_pos c7] at H; have c7b0 := eq_true c7; have c7b1 : decide (a1 ≤ (t340002.size : Int)) = true := decide_eq_true c7; clear c7; obtain rfl := Option.some.inj H
    go_enter Tryd.func34, Tryd.ntmps34
    go_wp2_with (first | ((with_reducible refine gate_callee (f := 90) rfl ?_); refine goesL_ (some 6) rfl rfl Tryd.func90 (by kernel_rfl) rfl #[.int .i64 a1] rfl zq_1 ?_; (with_reducible refine (spec_l1Width.calls a1 true _ A3.out).mono ?_); rintro e w' ⟨rfl, ⟨nd, rfl⟩⟩; refine ⟨_, rfl, ?_⟩) | ((with_reducible refine gate_callee (f := 95) rfl ?_); refine goesL_ (some 9) rfl rfl Tryd.func95 (by kernel_rfl) rfl #[.string a0] rfl zq_1 ?_; (with_reducible refine (spec_Sha256.calls k a0 t340002 _ A5.out).mono ?_); rintro e w8 ⟨rfl, hb⟩; refine ⟨_, rfl, ?_⟩; have n0_ := Aside0.mk (below_step zq_0 hb); clear HB; have HB := n0_; clear n0_; (try clear hb); (try clear hb2); (try clear hk); (try clear hi)))
    go_ret
    exact ⟨by first | rfl | (simp [errW_none, errW_some] <;> rfl) | (simp [*, errW_none, errW_some] <;> rfl), by repeat (first | (with_reducible first | exact HB.out | apply below_alloc | apply pw_below_drewN | apply below_drew1) | exact HB.out)⟩
   ·rw [if_neg c7] at H; exact absurd H (by simp)
  ·rw [if_neg c6] at H; exact absurd H (by simp)
 ·replace c4 := Bool.eq_false_iff.mpr c4; subst c4; have H1 : (some (⟨#[]⟩ : ByteArray)) = some r := by rw [if_neg (show ¬ (false = true) by decide)] at H; exact H
  clear H; have H := H1; clear H1; obtain rfl := Option.some.inj H
  go_enter Tryd.func34, Tryd.ntmps34
  go_wp2_with (first | ((with_reducible refine gate_callee (f := 90) rfl ?_); refine goesL_ (some 6) rfl rfl Tryd.func90 (by kernel_rfl) rfl #[.int .i64 a1] rfl zq_1 ?_; (with_reducible refine (spec_l1Width.calls a1 false _ A3.out).mono ?_); rintro e w' ⟨rfl, ⟨nd, rfl⟩⟩; refine ⟨_, rfl, ?_⟩))
  go_ret
  exact ⟨by first | rfl | (simp [errW_none, errW_some] <;> rfl) | (simp [*, errW_none, errW_some] <;> rfl), by repeat (first | (with_reducible first | exact HB.out | apply below_alloc | apply pw_below_drewN | apply below_drew1) | exact HB.out)⟩

end Go.Proofs.YtaepebkeijmjgaaDoor.Z
end
section
namespace Go.Proofs.YtaepebkeijmjgaaDoor.Z
open RowKit YtaepebkeijmjgaaDoor YtaepebkeijmjgaaDoorW.PrintWords YtaepebkeijmjgaaDoorW.PrintLast
set_option linter.all false
theorem l1Width_f (n : Int) : spec_l1Width.f n = some (widB n) := by
 unfold spec_l1Width.f widB
 by_cases h : n ≥ 1
 ·rw [if_pos h]; congr 1; simp; omega
 ·rw [if_neg h]; congr 1; simp; omega
theorem spec_Digest_f (a0 : ByteArray) (a1 : Int) (ha : a0.size ≤ 4294967296) (k : Nat) (hk : a0.size + 100 < k) : spec_Digest.f k a0 a1 = some (digV a0 a1) := by
 unfold spec_Digest.f; rw [l1Width_f]; simp only [Option.bind_some]
 by_cases hw : widB a1 = true
 ·have hr : 1 ≤ a1 ∧ a1 ≤ 32 := by unfold widB at hw; exact of_decide_eq_true hw
  rw [if_pos hw, digV_yes hw, spec_Sha256_f a0 ha k hk]; simp only [Option.bind_some]; rw [if_pos (by omega), if_pos (by rw [shaV_size]; omega)]
 ·rw [if_neg hw, digV_no (Bool.eq_false_iff.2 hw)]
theorem bt_get (s : ByteArray) (i : Nat) (h : i < s.size) : bt s (i : Int) = ((s.data.toList[i]'h).toNat : Int) := by
 unfold bt; rw [Int.toNat_natCast, dif_pos h]; rfl
theorem bytesLess_drop (a b : List UInt8) (i : Nat) (h1 : i < a.length) (h2 : i < b.length) : Op.bytesLess (a.drop i) (b.drop i) = (a[i] < b[i] || (a[i] == b[i] && Op.bytesLess (a.drop (i + 1)) (b.drop (i + 1)))) := by
 rw [List.drop_eq_getElem_cons h1, List.drop_eq_getElem_cons h2]; rfl
theorem l1Less_loop (a b : ByteArray) (ha : a.size ≤ 4611686018427387904) : ∀ (d i k : Nat), a.size = i + d → 2 * d + 1 < k →
  (i ≤ b.size) → spec_l1Less.l0 k a b (i : Int) = some (Op.bytesLess (a.data.toList.drop i) (b.data.toList.drop i)) := by
 intro d; have hal : a.data.toList.length = a.size := rfl; have hbl : b.data.toList.length = b.size := rfl
 induction d with
 | zero =>
  intro i k hi hk hb; obtain ⟨k, rfl⟩ : ∃ j, k = j + 2 := ⟨k - 2, by omega⟩
  simp only [spec_l1Less.l0]; rw [if_neg (by omega)]; simp only [spec_l1Less.j1]; rw [if_neg (by decide), List.drop_eq_nil_of_le (show a.data.toList.length ≤ i by omega)]
  congr 1
  by_cases h : i < b.size
  ·rw [List.drop_eq_getElem_cons (show i < b.data.toList.length by omega)]; simp [Op.bytesLess]; omega
  ·rw [List.drop_eq_nil_of_le (show b.data.toList.length ≤ i by omega)]; simp [Op.bytesLess]; omega
 | succ d ih =>
  intro i k hi hk hb; obtain ⟨k, rfl⟩ : ∃ j, k = j + 2 := ⟨k - 2, by omega⟩
  simp only [spec_l1Less.l0]; rw [if_pos (by omega)]; simp only [spec_l1Less.j1]
  by_cases h : i < b.size
  ·rw [if_pos (by simp; omega), if_pos (by omega), if_pos (by omega), if_pos (by omega)]; rw [bt_get a i (by omega), bt_get b i h, bytesLess_drop _ _ i (by omega) (by omega)]; have e1 : wrap64 ((i : Int) + 1) = ((i + 1 : Nat) : Int) := by rw [w64 (by omega) (by omega)]; omega
   rw [e1]; clear e1; have hlt : ∀ x y : UInt8, (x < y) ↔ ((x.toNat : Int) < (y.toNat : Int)) := by intro x y; rw [UInt8.lt_iff_toNat_lt]; omega
   have heq : ∀ x y : UInt8, (x = y) ↔ ((x.toNat : Int) = (y.toNat : Int)) := by intro x y; rw [← UInt8.toNat_inj]; omega
   generalize a.data.toList[i]'(by omega) = x; generalize b.data.toList[i]'(by omega) = y
   by_cases hxy : x = y
   ·subst hxy; rw [if_pos rfl, ih (i + 1) k (by omega) (by omega) (by omega)]; simp
   ·rw [if_neg (fun e => hxy ((heq x y).2 e))]; simp [hxy, hlt x y]
  ·rw [if_neg (by simp; omega), List.drop_eq_nil_of_le (show b.data.toList.length ≤ i by omega)]
   congr 1
   rw [decide_eq_false (by omega)]
   cases a.data.toList.drop i <;> rfl
theorem spec_l1Less_f (a b : ByteArray) (ha : a.size ≤ 4294967296) (k : Nat) (hk : 2 * a.size + 1 < k) : spec_l1Less.f k a b = some (Op.bytesLess a.toList b.toList) := by
 unfold spec_l1Less.f; rw [ByteArray.toList_eq, ByteArray.toList_eq]; have h := l1Less_loop a b (by omega) a.size 0 k (by omega) hk (by omega)
 simpa using h
theorem bytesLess_swap : ∀ (x y : List UInt8), x ≠ y → Op.bytesLess y x = !Op.bytesLess x y
 | [], [], h => absurd rfl h
 | [], _ :: _, _ => rfl
 | _ :: _, [], _ => rfl
 | a :: x, b :: y, h => by
  simp only [Op.bytesLess]
  by_cases hab : a = b
  ·subst hab; have := bytesLess_swap x y (fun e => h (by rw [e])); have hl : ¬ a < a := by rw [UInt8.lt_iff_toNat_lt]; omega
   simp [this, hl]
  ·have h1 : ¬ b = a := fun e => hab e.symm
   have hn : a.toNat ≠ b.toNat := fun e => hab (UInt8.toNat_inj.1 e)
   simp only [beq_eq_false_iff_ne.2 hab, beq_eq_false_iff_ne.2 h1, Bool.false_and, Bool.or_false]; rw [Bool.eq_iff_iff]; simp only [decide_eq_true_eq, Bool.not_eq_true', decide_eq_false_iff_not, UInt8.lt_iff_toNat_lt]; omega
theorem strOfNums_inj : ∀ (l m : List Int), (∀ x ∈ l, 0 ≤ x ∧ x < 256) → (∀ x ∈ m, 0 ≤ x ∧ x < 256) → strOfNums l = strOfNums m → l = m := by
 have key : ∀ (l m : List Int), (∀ x ∈ l, 0 ≤ x ∧ x < 256) → (∀ x ∈ m, 0 ≤ x ∧ x < 256) → l.map (fun x => UInt8.ofNat x.toNat) = m.map (fun x => UInt8.ofNat x.toNat) → l = m := by
  intro l
  induction l with
  | nil => intro m _ _ h; cases m with | nil => rfl | cons => simp at h
  | cons a l ih =>
   intro m hl hm h
   cases m with
   | nil => simp at h
   | cons b m =>
    simp only [List.map_cons, List.cons.injEq] at h; have h1 := hl a (by simp); have h2 := hm b (by simp); have h3 := congrArg UInt8.toNat h.1; rw [UInt8.toNat_ofNat', UInt8.toNat_ofNat'] at h3; rw [ih m (fun x hx => hl x (by simp [hx])) (fun x hx => hm x (by simp [hx])) h.2, show a = b by omega]
 intro l m hl hm h; refine key l m hl hm ?_; unfold strOfNums at h; have := congrArg (fun s : ByteArray => s.data.toList) h
 simpa using this
theorem outB_range (h : List Int) : ∀ n, ∀ x ∈ outB h n, 0 ≤ x ∧ x < 256
 | 0, x, hx => by simp [outB] at hx
 | n + 1, x, hx => by
  rw [outB, List.mem_append] at hx
  rcases hx with hx | hx
  ·exact outB_range h n x hx
  ·simp only [wordB, List.mem_cons, List.not_mem_nil, or_false] at hx
   rcases hx with rfl | rfl | rfl | rfl <;> omega
theorem shaL_range (l : List UInt8) : ∀ x ∈ shaL l, 0 ≤ x ∧ x < 256 := outB_range _ _
theorem toList_inj {a b : ByteArray} : a.toList = b.toList ↔ a = b := by
 rw [ByteArray.toList_eq, ByteArray.toList_eq]; exact ⟨fun h => ByteArray.ext (Array.toList_inj.mp h), fun h => by rw [h]⟩
theorem highB_eq (a b : ByteArray) : highB a b = if (shaV a).toList = (shaV b).toList then Op.bytesLess a.toList b.toList else Op.bytesLess (shaV b).toList (shaV a).toList := by
 unfold highB aboveB
 by_cases h : shaL a.data.toList = shaL b.data.toList
 ·rw [if_pos h, if_pos (by unfold shaV; rw [h])]
 ·have h2 : (shaV a).toList ≠ (shaV b).toList := fun e => h (strOfNums_inj _ _ (shaL_range _) (shaL_range _) (toList_inj.1 e))
  rw [if_neg h, if_neg h2]; show (!Op.bytesLess (shaV a).toList (shaV b).toList && !((shaV a).toList == (shaV b).toList)) = _; rw [beq_eq_false_iff_ne.2 h2, bytesLess_swap _ _ h2]; simp
theorem less_neg : ∀ x y z : List UInt8, Op.bytesLess x y = false → Op.bytesLess y z = false → Op.bytesLess x z = false
 | [], _, [], _, _ => rfl
 | _ :: _, _, [], _, _ => rfl
 | [], [], _ :: _, _, h => by simp [Op.bytesLess] at h
 | [], _ :: _, _ :: _, h, _ => by simp [Op.bytesLess] at h
 | a :: x, [], c :: z, _, h => by simp [Op.bytesLess] at h
 | a :: x, b :: y, c :: z, h1, h2 => by
  have ih := less_neg x y z; simp only [Op.bytesLess, Bool.or_eq_false_iff, Bool.and_eq_false_imp, decide_eq_false_iff_not, beq_iff_eq, UInt8.lt_iff_toNat_lt] at h1 h2 ⊢; have inj : ∀ p q : UInt8, p = q ↔ p.toNat = q.toNat := fun p q => UInt8.toNat_inj.symm
  refine ⟨by omega, fun e => ?_⟩; have e' := (inj _ _).1 e; have e1 : a = b := (inj _ _).2 (by omega); have e2 : b = c := (inj _ _).2 (by omega); exact ih (h1.2 e1) (h2.2 e2)
theorem less_asym : ∀ x y : List UInt8, Op.bytesLess x y = true → Op.bytesLess y x = false
 | [], [], h => by simp [Op.bytesLess] at h
 | [], _ :: _, _ => rfl
 | _ :: _, [], h => by simp [Op.bytesLess] at h
 | a :: x, b :: y, h => by
  have ih := less_asym x y; simp only [Op.bytesLess, Bool.or_eq_false_iff, Bool.and_eq_false_imp, decide_eq_false_iff_not, beq_iff_eq, UInt8.lt_iff_toNat_lt, Bool.or_eq_true, Bool.and_eq_true, decide_eq_true_eq] at h ⊢; have inj : ∀ p q : UInt8, p = q ↔ p.toNat = q.toNat := fun p q => UInt8.toNat_inj.symm
  rcases h with h | ⟨h, h2⟩
  ·refine ⟨by omega, fun e => ?_⟩; have := (inj _ _).1 e; omega
  ·have e := (inj _ _).1 h; exact ⟨by omega, fun _ => ih h2⟩
theorem less_lt (x y z : List UInt8) (h1 : Op.bytesLess x y = true) (h2 : Op.bytesLess y z = true) : Op.bytesLess x z = true := by
 cases h : Op.bytesLess x z with
 | true => rfl
 | false => rw [less_neg x z y h (less_asym _ _ h2)] at h1; cases h1
theorem str_inj {P Q : List Int} (hP : ∀ x ∈ P, 0 ≤ x ∧ x < 256) (hQ : ∀ x ∈ Q, 0 ≤ x ∧ x < 256) (h : (strOfNums P).toList = (strOfNums Q).toList) : P = Q :=
 strOfNums_inj P Q hP hQ (toList_inj.1 h)
theorem aboveB_neg (X Y Z : List Int) (a b c : ByteArray) (hX : ∀ x ∈ X, 0 ≤ x ∧ x < 256) (hY : ∀ x ∈ Y, 0 ≤ x ∧ x < 256) (hZ : ∀ x ∈ Z, 0 ≤ x ∧ x < 256) (h1 : aboveB X Y a b = false) (h2 : aboveB Y Z b c = false) : aboveB X Z a c = false := by
 unfold aboveB at h1 h2 ⊢
 by_cases e1 : X = Y
 ·subst e1; rw [if_pos rfl] at h1
  by_cases e2 : X = Z
  ·subst e2; rw [if_pos rfl] at h2 ⊢; exact less_neg _ _ _ h1 h2
  ·rw [if_neg e2] at h2 ⊢; exact h2
 ·rw [if_neg e1] at h1
  by_cases e2 : Y = Z
  ·subst e2; rw [if_neg e1]; exact h1
  ·rw [if_neg e2] at h2; have n1 : (strOfNums X).toList ≠ (strOfNums Y).toList := fun e => e1 (str_inj hX hY e)
   have n2 : (strOfNums Y).toList ≠ (strOfNums Z).toList := fun e => e2 (str_inj hY hZ e)
   rw [beq_eq_false_iff_ne.2 n1] at h1; rw [beq_eq_false_iff_ne.2 n2] at h2; simp only [Bool.not_false, Bool.and_true, Bool.not_eq_false'] at h1 h2; have h3 := less_lt _ _ _ h1 h2
   by_cases e3 : X = Z
   ·subst e3; rw [less_asym _ _ h1] at h2; cases h2
   ·rw [if_neg e3, h3]; rfl
theorem highB_neg (a b c : ByteArray) (h1 : highB a b = false) (h2 : highB b c = false) : highB a c = false :=
 aboveB_neg _ _ _ a b c (shaL_range _) (shaL_range _) (shaL_range _) h1 h2
end Go.Proofs.YtaepebkeijmjgaaDoor.Z
end
section
namespace Go.Proofs.YtaepebkeijmjgaaDoor.Z
open RowKit YtaepebkeijmjgaaDoor YtaepebkeijmjgaaDoorW.PrintWords YtaepebkeijmjgaaDoorW.PrintLast
set_option linter.all false
set_option maxRecDepth 100000
def mapS {α β : Type} (f : α → β) : Sh α → Sh β
 | .nil => .nil
 | .node x l r => .node (f x) (mapS f l) (mapS f r)
def er (x : Nd) : S77 := ⟨x.key, x.val⟩
def abP (p q : S77) : Bool := highB p.f0 q.f0
def abN (x y : Nd) : Bool := highB x.key y.key
theorem map_ins (p : Nd) : ∀ t : Sh Nd, mapS er (insR abN t p) = insR abP (mapS er t) (er p)
 | .nil => rfl
 | .node x l r => by
  rw [insR, mapS, insR, show abP (er p) (er x) = abN p x from rfl]
  split
  ·rfl
  ·rw [mapS, map_ins p r]
def ptrs (l : List Nd) : List Value := l.map fun x => ptrB x.b
structure GrowIs (base : Nat) (ps : List S77) (j : Nat) (t : Sh Nd) (v : Value) (w0 w : World) : Prop where
 inm : InM w t
 nodup : (blks t).Nodup
 ge : ∀ b ∈ blks t, base ≤ b
 own : Own w base 1 v (edge t).length (ptrs (edge t))
 apart : ∀ g, v.ownBlock = some g → g ∉ blks t
 shape : mapS er t = cart abP (ps.take j)
 down : Down abN (edge t)
 few : (edge t).length ≤ j
 below : Below base w0 w
theorem GrowIs.start (base : Nat) (ps : List S77) (w : World) : GrowIs base ps 0 .nil (.slice none 0 0) w w :=
 ⟨trivial, List.nodup_nil, fun b h => by simp [blks] at h, Own.nil _ _ _, fun g h => by simp [Value.ownBlock] at h, rfl, List.Pairwise.nil, Nat.le_refl _, Below.refl _ _⟩
theorem Own.short0 {base : Nat} {A : Option Addr} {c n : Nat} {xs : List Value} {w : World} (h : Own w base 1 (.slice A n c) n xs) (m : Nat) (hm : m ≤ n) : Own w base 1 (.slice A m c) m (xs.take m) := by
 rcases Nat.eq_zero_or_pos n with e | e
 ·obtain rfl : m = 0 := by omega
  subst e; have : xs = [] := List.eq_nil_of_length_eq_zero (by have := h.1; omega); subst this; exact h
 ·exact Z.Own.short h m hm e
theorem own_slice (A : Option Addr) (n m c : Nat) : (Value.slice A n c).ownBlock = (Value.slice A m c).ownBlock := by cases A <;> rfl
theorem GrowIs.next {base : Nat} {ps : List S77} {j : Nat} {t : Sh Nd} {v v' : Value} {w0 wi wa w' : World} {p : Nd} {m : Nat} {ob : Option Nat} (h : GrowIs base ps j t v w0 wi) (hj : ps[j]? = some (er p)) (hm : m ≤ (edge t).length) (hp : p.b ∉ blks t) (hpb : base ≤ p.b)
  (hin : InM wa (graft m t p)) (hk : ∀ x, 0 < m → (edge t)[m - 1]? = some x → abN p x = false) (hu : ∀ i x, m ≤ i → (edge t)[i]? = some x → abN p x = true)
  (hob : ob = v.ownBlock) (hg : wa.grownBy w' ob) (ho : Own w' base 1 v' (m + 1) ((ptrs (edge t)).take m ++ [ptrB p.b])) (hv : v'.ownBlock = ob ∨ ∀ k, v'.ownBlock = some k → wa.heap.size ≤ k) (hvp : v.ownBlock ≠ some p.b) (hb : Below base w0 w') :
  GrowIs base ps (j + 1) (graft m t p) v' w0 w' := by
 subst hob; have hgi := graft_ins abN p t m hm (kept_all abN (fun x y z => highB_neg _ _ _) h.down p m hk · · · hm ·) (fun x hx => hu m x (Nat.le_refl _) hx); have hlt := hin.lt; refine ⟨hin.grown hg ?_, graft_nodup p t m hm h.nodup hp, ?_, ?_, ?_, ?_, ?_, ?_, hb⟩
 ·intro k hk2 hmem
  rcases (graft_blks p t m hm k).1 hmem with e | e
  ·exact hvp (by rw [hk2, e])
  ·exact h.apart k hk2 e
 ·intro b hb2
  rcases (graft_blks p t m hm b).1 hb2 with e | e
  ·omega
  ·exact h.ge b e
 ·rw [graft_edge p t m hm]; have e : ((edge t).take m ++ [p]).length = m + 1 := by rw [List.length_append, List.length_take, List.length_singleton]; omega
  rw [e]; unfold ptrs at ho ⊢; rw [List.map_append, List.map_take]; exact ho
 ·intro g hg2 hmem
  rcases hv with e | e
  ·rw [e] at hg2
   rcases (graft_blks p t m hm g).1 hmem with e2 | e2
   ·exact hvp (by rw [hg2, e2])
   ·exact h.apart g hg2 e2
  ·have := e g hg2; have := hlt g hmem; omega
 ·rw [hgi, map_ins, h.shape]; have hl : j < ps.length := by
   rcases Nat.lt_or_ge j ps.length with g | g
   ·exact g
   ·rw [List.getElem?_eq_none g] at hj; cases hj
  rw [List.take_succ_eq_append_getElem hl, cart_snoc]; rw [List.getElem?_eq_getElem hl] at hj; rw [Option.some.inj hj]
 ·rw [graft_edge p t m hm]; refine down_snoc abN (h.down.sublist (List.take_sublist _ _)) (fun x hx => ?_); obtain ⟨i, hi, rfl⟩ := List.getElem_of_mem hx; rw [List.length_take] at hi; have := kept_all abN (fun x y z => highB_neg _ _ _) h.down p m hk i (edge t)[i] (by omega) hm (List.getElem?_eq_getElem (by omega)); rw [List.getElem_take]; exact this
 ·rw [graft_edge p t m hm, List.length_append, List.length_take, List.length_singleton]; have := h.few; omega
theorem wpStill_loadG {P : Program} {ops : Array Oper} {w : World} {Q : Act → Prop} {a : Act} {o : Oper} {rest : List Oper} (hw : Region.wanted o (yielded ops a.tmps) = true) (ty : TypeId) (x : Operand) (ho : o.op = .load ty x) (p v : Value) (hx : a.eval x = p)
  (hrun : (Instr.loadAt ty p).run P w = .ok v w) (h : wpStill P ops w Q rest (a.put o.dst v)) : wpStill P ops w Q (o :: rest) a := by
 unfold wpStill; rw [if_pos hw]; unfold Oper.still execOp; simp only [ho, hx, Sem.run_bind, hrun, Result.andThen_ok, Sem.run_pure]; exact ⟨rfl, h⟩
structure InnIs (t : Sh Nd) (p : Nd) (m : Nat) (wi w : World) : Prop where
 le : m ≤ (edge t).length
 row : w.heap[p.b]? = some (.cells (rowT p (ptrT (sub m t)) (.pointer none)) 136 (0, 0))
 grown : wi.grownBy w (some p.b)
 up : ∀ i x, m ≤ i → (edge t)[i]? = some x → abN p x = true
theorem infoTree : (Tryd.prog.info? 129).map (fun i => (i.zero, i.size, i.bytes)) = some (some (.pointer none), 1, 8) := by kernel_rfl
theorem rd_pair (ps : List S77) (j : Nat) (h : j < ps.length) : rd_T77 ps (j : Int) = ps[j] := by
 unfold rd_T77; rw [Int.toNat_natCast, List.getD_eq_getElem?_getD, List.getElem?_eq_getElem h]; rfl
theorem heldPI {u : World} {b : Nat} {k v : ByteArray} (h1 : u.cell? ⟨b, 0, none⟩ = some (.string k)) (h2 : u.cell? ⟨b, 1, none⟩ = some (.string v)) (h3 : Tab u) : u.cell? ⟨b, 0, none⟩ = some (.string k) ∧ u.cell? ⟨b, 1, none⟩ = some (.string v) ∧ Tab u := ⟨h1, h2, h3⟩
theorem heldPB {u w1 : World} {b : Nat} {k v : ByteArray} (hb : Below u.heap.size u w1) (h : u.cell? ⟨b, 0, none⟩ = some (.string k) ∧ u.cell? ⟨b, 1, none⟩ = some (.string v) ∧ Tab u) : w1.cell? ⟨b, 0, none⟩ = some (.string k) ∧ w1.cell? ⟨b, 1, none⟩ = some (.string v) ∧ Tab w1 := ⟨cellB hb h.1, cellB hb h.2.1, h.2.2.below hb⟩
theorem heldPD {u : World} {b : Nat} {k v : ByteArray} (h : u.cell? ⟨b, 0, none⟩ = some (.string k) ∧ u.cell? ⟨b, 1, none⟩ = some (.string v) ∧ Tab u) : u.drew.cell? ⟨b, 0, none⟩ = some (.string k) ∧ u.drew.cell? ⟨b, 1, none⟩ = some (.string v) ∧ Tab u.drew := h
theorem heldPA {u : World} {b : Nat} {k v : ByteArray} (o : Obj) (h : u.cell? ⟨b, 0, none⟩ = some (.string k) ∧ u.cell? ⟨b, 1, none⟩ = some (.string v) ∧ Tab u) : (u.alloc o).cell? ⟨b, 0, none⟩ = some (.string k) ∧ (u.alloc o).cell? ⟨b, 1, none⟩ = some (.string v) ∧ Tab (u.alloc o) := heldPB ((Below.refl _ _).alloc (Nat.le_refl _) o) h
theorem hashOne_at (s : ByteArray) (g : Nat) (W : World) (hc : W.cell? ⟨g, 0, none⟩ = some (.string s)) (ht : Tab W) (hs : s.size ≤ 4294967296) :
  Calls Tryd.prog 128 #[.slice (some ⟨g, 0, none⟩) 1 1] W fun e w' => e = .returned (hashV (keyL s)) ∧ Below W.heap.size W w' := by
 have h := hashOf_any g [s] W (fun j p hj => by
  match j, hj with
  | 0, hj =>
   simp only [List.getElem?_cons_zero, Option.some.injEq] at hj; subst hj; exact hc) ht (by rw [catL_one]; exact hs) (by simp) (World.block_lt_of_cell? _ ⟨g, 0, none⟩ hc)
 rw [catL_one] at h; exact h
theorem list32 {α : Type} (l : List α) (h : l.length = 32) : ∃ x0 x1 x2 x3 x4 x5 x6 x7 x8 x9 x10 x11 x12 x13 x14 x15 x16 x17 x18 x19 x20 x21 x22 x23 x24 x25 x26 x27 x28 x29 x30 x31, l = [x0, x1, x2, x3, x4, x5, x6, x7, x8, x9, x10, x11, x12, x13, x14, x15, x16, x17, x18, x19, x20, x21, x22, x23, x24, x25, x26, x27, x28, x29, x30, x31] :=
 match l, h with
 | [x0, x1, x2, x3, x4, x5, x6, x7, x8, x9, x10, x11, x12, x13, x14, x15, x16, x17, x18, x19, x20, x21, x22, x23, x24, x25, x26, x27, x28, x29, x30, x31], _ => ⟨x0, x1, x2, x3, x4, x5, x6, x7, x8, x9, x10, x11, x12, x13, x14, x15, x16, x17, x18, x19, x20, x21, x22, x23, x24, x25, x26, x27, x28, x29, x30, x31, rfl⟩
theorem GrowIs.after {base : Nat} {ps : List S77} {j : Nat} {t : Sh Nd} {v : Value} {w0 w w1 : World} (h : GrowIs base ps j t v w0 w) (hb : Below w.heap.size w w1) (hw : base ≤ w.heap.size) : GrowIs base ps j t v w0 w1 :=
 { h with inm := h.inm.below hb, own := h.own.below hb, below := h.below.trans (hb.mono hw) }
set_option maxHeartbeats 4000000 in
theorem grow_any (A0 : Option Addr) (c0 : Nat) (ps : List S77) (W : Nat) (hW1 : 1 ≤ W) (hW2 : W ≤ 32) (w : World) (hr0 : Kd.C k77 w A0 ps.length ps) (hc0 : ps.length ≤ c0) (hlen : ps.length ≤ 1048576) (hsz : ∀ p ∈ ps, p.f0.size ≤ 4294967296) (hT : Tab w) :
  Calls Tryd.prog 76 #[.slice A0 ps.length c0, .int .i64 W] w fun e w' => ∃ t, e = .returned (ptrT (sealT W t)) ∧ InM w' (sealT W t) ∧ (blks t).Nodup ∧ (∀ b ∈ blks t, w.heap.size ≤ b) ∧ mapS er t = cart abP ps ∧ Below w.heap.size w w' := by
 have HR := Lib.hid hr0; clear hr0; have HS := Lib.hid hsz; clear hsz; have HT := Lib.hid hT; clear hT; obtain ⟨W1, hWE⟩ : ∃ W1, W1 = w.alloc (.cells #[.int .i64 W] 3) := ⟨_, rfl⟩
 have hz1 : W1.heap.size = w.heap.size + 1 := by rw [hWE]; simp
 have hB1 : Below w.heap.size w W1 := by rw [hWE]; exact (Below.refl _ _).alloc (Nat.le_refl _) _
 have hV1 : W1.heap[w.heap.size]? = some (.cells #[.int .i64 W] 3 (0, 0)) := by rw [hWE]; exact heap_alloc_new w _
 have HWE := Lib.hid hWE; have HB1 := Lib.hid hB1; have HV1 := Lib.hid hV1; clear hWE hB1 hV1
 go_enter Tryd.func76, Tryd.ntmps76
 go_upto_region 1 with fail
 rw [← HWE.out]
 go_wp2_with fail
 go_loopw [5, 11] (fun v i wr => ∃ (j : Nat) (t : Sh Nd), j ≤ ps.length ∧ i = .int .i64 j ∧ GrowIs (w.heap.size + 1) ps j t v W1 wr) (fun _ i _ => ps.length - (intOf i).toNat)
 case atStart => exact ⟨0, .nil, by omega, rfl, by rw [← hz1]; exact GrowIs.start _ _ _⟩
 case round =>
  obtain ⟨j, t, hj, rfl, hG⟩ := hrel; obtain ⟨A, c, rfl⟩ := hG.own.form; have HG := Lib.hid hG; clear hG; have HBw := Lib.hid (HB1.out.trans (HG.out.below.mono (by omega)))
  by_cases hl : j < ps.length
  ·obtain ⟨ad, e, hx0, hx1⟩ := at_T77 HR.out (j : Int) (by omega) (by omega)
   cases e
   rw [rd_pair ps j hl] at hx0 hx1; have hks := HS.out ps[j] (List.getElem_mem _); obtain ⟨⟨k, v⟩, hp⟩ : ∃ p, ps[j] = p := ⟨_, rfl⟩
   rw [hp] at hx0 hx1 hks; have HP := Lib.hid hp; clear hp; dsimp only at hx0 hx1 hks; replace hx0 := (HBw.out.cell (World.block_lt_of_cell? w _ hx0)).trans hx0; replace hx1 := (HBw.out.cell (World.block_lt_of_cell? w _ hx1)).trans hx1; rw [Int.toNat_natCast] at hx0 hx1; have hj0 : (0 : Int) ≤ (j : Int) := by omega
   have hj1 : (j : Int) < (ps.length : Int) := by omega
   go_upto_region 5 with fail
   obtain ⟨W2, hWE2⟩ : ∃ W2, W2 = wr.alloc (.cells #[.string k, .string v] 77) := ⟨_, rfl⟩
   rw [← hWE2]; have hz2 : W2.heap.size = wr.heap.size + 1 := by rw [hWE2]; simp
   have hb2 : Below wr.heap.size wr W2 := by rw [hWE2]; exact (Below.refl _ _).alloc (Nat.le_refl _) _
   have hn2 : W2.heap[wr.heap.size]? = some (.cells #[.string k, .string v] 77 (0, 0)) := by rw [hWE2]; exact heap_alloc_new wr _
   have p0 : W2.cell? ⟨wr.heap.size, 0, none⟩ = some (.string k) := (cell_of_row _ _ _ _ _ _ hn2).trans rfl; have p1 : W2.cell? ⟨wr.heap.size, 1, none⟩ = some (.string v) := (cell_of_row _ _ _ _ _ _ hn2).trans rfl; have hT2 := HT.out.below (HBw.out.trans (hb2.mono HBw.out.size)); have hq : (W2.alloc (.cells #[.string k] 9)).drew.cell? ⟨wr.heap.size + 1, 0, none⟩ = some (.string k) := by
    rw [← hz2]; exact (cell_of_row _ _ _ _ _ _ (heap_alloc_new W2 _)).trans rfl
   have HQ := Lib.hid (hashOne_at k _ _ hq (hT2.below ((Below.refl _ _).alloc (Nat.le_refl _) _).drew) hks); obtain ⟨x0, x1, x2, x3, x4, x5, x6, x7, x8, x9, x10, x11, x12, x13, x14, x15, x16, x17, x18, x19, x20, x21, x22, x23, x24, x25, x26, x27, x28, x29, x30, x31, hxs⟩ := list32 (keyL k) (keyL_length k); have HXS := Lib.hid hxs; have hvx : hashV (keyL k) = .agg #[.int .u8 x0, .int .u8 x1, .int .u8 x2, .int .u8 x3, .int .u8 x4, .int .u8 x5, .int .u8 x6, .int .u8 x7, .int .u8 x8, .int .u8 x9, .int .u8 x10, .int .u8 x11, .int .u8 x12, .int .u8 x13, .int .u8 x14, .int .u8 x15, .int .u8 x16, .int .u8 x17, .int .u8 x18, .int .u8 x19, .int .u8 x20, .int .u8 x21, .int .u8 x22, .int .u8 x23, .int .u8 x24, .int .u8 x25, .int .u8 x26, .int .u8 x27, .int .u8 x28, .int .u8 x29, .int .u8 x30, .int .u8 x31] := by unfold hashV; rw [hxs]; rfl
   rw [hvx] at HQ; have HB2 := Lib.hid hb2; clear hxs hvx; have HN2 := Lib.hid hn2; clear hWE2 hb2 hn2 hq hx0 hx1 hj0 hj1
   go_region_held3 (fun w' => w'.cell? ⟨wr.heap.size, 0, none⟩ = some (.string k) ∧ w'.cell? ⟨wr.heap.size, 1, none⟩ = some (.string v) ∧ Tab w')
    (repeat' (first | (with_reducible assumption) | (with_reducible exact heldPI p0 p1 hT2) | (with_reducible refine heldPD ?_) | (with_reducible refine heldPA _ ?_) | (with_reducible refine heldPB (by assumption) ?_)))
    (first | (go_at_call 128; refine (HQ.out).mono ?_; rintro e w3 ⟨rfl, hb3⟩))
   obtain ⟨W4, hWE4⟩ : ∃ W4, W4 = w3.alloc (.cells #[.string k, .string v, .int .u8 x0, .int .u8 x1, .int .u8 x2, .int .u8 x3, .int .u8 x4, .int .u8 x5, .int .u8 x6, .int .u8 x7, .int .u8 x8, .int .u8 x9, .int .u8 x10, .int .u8 x11, .int .u8 x12, .int .u8 x13, .int .u8 x14, .int .u8 x15, .int .u8 x16, .int .u8 x17, .int .u8 x18, .int .u8 x19, .int .u8 x20, .int .u8 x21, .int .u8 x22, .int .u8 x23, .int .u8 x24, .int .u8 x25, .int .u8 x26, .int .u8 x27, .int .u8 x28, .int .u8 x29, .int .u8 x30, .int .u8 x31, .pointer none, .pointer none, .string ⟨#[]⟩, .string ⟨#[]⟩] 136) := ⟨_, rfl⟩
   rw [← hWE4]; obtain ⟨nb, hnb⟩ : ∃ nb, w3.heap.size = nb := ⟨_, rfl⟩
   have hrow4 : W4.heap[nb]? = some (.cells (rowT ⟨nb, k, v, ⟨#[]⟩, ⟨#[]⟩⟩ (.pointer none) (.pointer none)) 136 (0, 0)) := by
    rw [hWE4, ← hnb, heap_alloc_new]; unfold rowT rowL; rw [HXS.out]; rfl
   have hb23 : Below W2.heap.size W2 w3 := ((Below.refl _ _).alloc (Nat.le_refl _) _).drew.trans (hb3.mono (by simp)); have hb4 : Below wr.heap.size wr W4 := by
    rw [hWE4]; exact (HB2.out.trans (hb23.mono (by omega))).alloc (by have := hb23.size; omega) _
   have hn4 : W4.heap[wr.heap.size]? = some (.cells #[.string k, .string v] 77 (0, 0)) := by
    rw [hWE4, heap_alloc_old _ _ (by have := hb23.size; omega)]; exact (hb23.block _ (by omega)).trans HN2.out
   have hzn : wr.heap.size < nb := by have := hb23.size; omega
   have hG4 := HG.out.after hb4 (by have := HG.out.below.size; omega); have hnt : nb ∉ blks t := fun h => by have := HG.out.inm.lt nb h; omega
   have hgv : ∀ g, (Value.slice A (edge t).length c).ownBlock = some g → g < wr.heap.size := fun g h => (HG.out.own.lt g h).2
   rw [hnb]; have HROW := Lib.hid hrow4; have HB4 := Lib.hid hb4; have HN4 := Lib.hid hn4; have HG4 := Lib.hid hG4; have HNT := Lib.hid hnt; have HGV := Lib.hid hgv; have hwo : w.heap.size + 1 ≤ wr.heap.size := by have := HG.out.below.size; omega
   clear hWE4 hnb hrow4 hb4 hn4 hG4 hnt hgv hb3 hb23 HG p0 p1 HQ HXS HB2 HN2 hz2; obtain ⟨wo, rfl⟩ : ∃ wo : World, wo = wr := ⟨_, rfl⟩
   go_wp2_with fail
   go_loopw [5] (fun u w2 => ∃ m, u = .slice A m c ∧ InnIs t ⟨nb, k, v, ⟨#[]⟩, ⟨#[]⟩⟩ m W4 w2) (fun u _ => lenOf u)
   case atStart => exact ⟨_, rfl, Nat.le_refl _, by rw [sub_end]; exact HROW.out, grown_refl _ _, fun i x hi hx => by rw [List.getElem?_eq_none hi] at hx; cases hx⟩
   case round =>
    obtain ⟨m, rfl, hI⟩ := hrel; have hle := hI.le; have hown := Own.short0 (HG4.out.own.grown hI.grown (fun q hq h => by have := HGV.out q hq; have : _ = nb := Option.some.inj h; omega)) m hle; have HI := Lib.hid hI; clear hI; have HO := Lib.hid hown; have hzg := HI.out.grown.size; have hz4 := HB4.out.size; have hln := HG4.out.own.bound; have hfew := HG4.out.few; have hbw := HG4.out.below.size
    cases m with
    | zero =>
     clear hown
     go_wp2_with fail
     go_quiet (fail)
     obtain ⟨wq, hwq⟩ : ∃ wq, wq = wr.drewN nq := ⟨_, rfl⟩
     rw [← hwq]; have hbq : Below wr.heap.size wr wq := by rw [hwq]; exact bdrewN (Below.refl _ _) nq
     have HIN : Hid (InM wq (graft 0 t ⟨nb, k, v, ⟨#[]⟩, ⟨#[]⟩⟩)) := Lib.hid (InM.graft0 ((HG4.out.inm.grown HI.out.grown (fun q hq => by cases hq; exact HNT.out)).below hbq) ((hbq.block nb (lt_of_block HI.out.row)).trans HI.out.row)); have HOQ := Lib.hid (HO.out.below hbq); have HBQ := Lib.hid ((HG4.out.below.grown HI.out.grown (by omega) (fun q hq => by have : nb = q := Option.some.inj hq; omega)).trans (hbq.mono (by omega))); have hzq := hbq.size; clear hwq hbq; have HK : Hid (∀ x, 0 < 0 → (edge t)[0 - 1]? = some x → abN ⟨nb, k, v, ⟨#[]⟩, ⟨#[]⟩⟩ x = false) := Lib.hid (fun x h0 _ => absurd h0 (Nat.lt_irrefl 0))
     (have HOWN := Lib.hid (HOQ.out.alloc (.cells #[.pointer (some ⟨nb, 0, none⟩)] 129)); have HSRC := Lib.hid (src_one wq 193 129 129 Tryd.underlying193 (.pointer (some ⟨nb, 0, none⟩)) rfl); go_wp2_with (at_builtin; go_loud (refine wpList_app (w.heap.size + 1) rfl _ _ 193 193 rfl 129 (.pointer none) 1 8 Tryd.underlying193 infoTree rfl rfl HOWN.out _ 1 [.pointer (some ⟨nb, 0, none⟩)] rfl HSRC.out (by unfold maxLen; omega) (by omega) (by simp; omega) ?_; intro v' w' hown' hgrow hvv; obtain ⟨A', c', rfl⟩ := hown'.form; have HO' := Lib.hid hown'; have HG' := Lib.hid hgrow; have HV' := Lib.hid hvv; clear hown' hgrow hvv)); refine ⟨⟨j + 1, graft 0 t ⟨nb, k, v, ⟨#[]⟩, ⟨#[]⟩⟩, by omega, by go_num, HG4.out.next (p := ⟨nb, k, v, ⟨#[]⟩, ⟨#[]⟩⟩) (by rw [List.getElem?_eq_getElem hl, HP.out]; rfl) (Nat.zero_le _) HNT.out (by show _ ≤ nb; omega) (HIN.out.below ((Below.refl _ _).alloc (Nat.le_refl _) _)) (HK.out) HI.out.up (own_slice _ _ _ _) HG'.out HO'.out HV'.out (fun h => by have : nb < wo.heap.size := HGV.out _ h; omega) ((HBQ.out.alloc (by omega) _).grown HG'.out (by simp; omega) (fun q hq => (HOQ.out.lt q hq).1))⟩, by simp [intOf]; omega⟩)
    | succ m =>
     obtain ⟨e, he⟩ : ∃ e, (edge t)[m]? = some e := ⟨_, List.getElem?_eq_getElem (by omega)⟩
     have hem := edge_blks t e (List.mem_of_getElem? he); have hebn : e.b ≠ nb := fun h => HNT.out (h ▸ hem)
     obtain ⟨l, r, hre⟩ := HG4.out.inm.edge m e he; have hre1 := (HI.out.grown.block e.b (lt_of_block hre) (fun h => hebn (Option.some.inj h))).trans hre; obtain ⟨g, cap, hv, hg1, hg2, hg3, hg4, hg5⟩ := hown.at (by omega)
     cases hv
     have hci := hg4 m (by omega); rw [List.getElem?_take, if_pos (by omega), ptrs, List.getElem?_map, he, Option.map_some] at hci; have he0 := (cell_of_row _ _ _ _ _ _ hre1).trans (rowT_key _ _ _); have kl1 := rank_load (w := wr.drew) (x := ⟨nb, k, v, ⟨#[]⟩, ⟨#[]⟩⟩) (show wr.heap[nb]? = _ from HI.out.row); have kl2 := rank_load (w := wr.drew) (x := e) (show wr.heap[e.b]? = _ from hre1); have hnb4 := lt_of_block HROW.out; have pv0 : wr.cell? ⟨wo.heap.size, 0, none⟩ = some (.string k) := (cell_of_row _ _ _ _ _ _ ((HI.out.grown.block _ (by omega) (fun h => by have : _ = nb := Option.some.inj h; omega)).trans HN4.out)).trans rfl; have hb35 := (cell_of_row _ _ 35 _ _ _ hre1).trans (rowT_right _ _ _); have hf35 := frozen_of_row _ _ 35 _ _ hre1; have hb34 := (cell_of_row _ _ 34 _ _ _ HI.out.row).trans (rowT_left _ _ _); have hf34 := frozen_of_row _ _ 34 _ _ HI.out.row; have HKL1 := Lib.hid kl1; have HKL2 := Lib.hid kl2; have HE := Lib.hid he; have HEM := Lib.hid hem; have HRE := Lib.hid hre1; obtain ⟨M, hM⟩ : ∃ M, m + 1 = M := ⟨_, rfl⟩
     have hM0 : 0 < M := by omega
     have hMi : (0 : Int) < (M : Int) := by omega
     have hw : IntKind.i64.wrap ((M : Int) - 1) = (m : Int) := by
      rw [show (M : Int) - 1 = (m : Int) by omega]; exact wrapN m (by unfold maxLen at hln; omega)
     have hm0 : (0 : Int) ≤ (m : Int) := by omega
     have hmM : m < M := by omega
     have hmc : m ≤ c := by omega
     have hc0 : ¬ (0 = c) := by omega
     rw [hM] at HI HO hle hg3 ⊢; have HM := Lib.hid hM; clear kl1 kl2 hre1 hre he hown hem hg4 hg5 hg1 hM; unfold ptrB at hci; dsimp only at hb34 hf34
     by_cases hab : abN ⟨nb, k, v, ⟨#[]⟩, ⟨#[]⟩⟩ e = true
     ·have HAB : Hid (aboveB (keyL k) (keyL e.key) k e.key = true) := Lib.hid hab; clear hab
      go_wp2_with fail
      go_still_tail 29, (by kernel_rfl)
      go_loud (refine wpStill_loadG (by rfl) 133 _ rfl _ (hashV (keyL k)) rfl HKL1.out ?_)
      repeat still_step
      go_loud (refine wpStill_loadG (by rfl) 133 _ rfl _ (hashV (keyL e.key)) rfl HKL2.out ?_)
      repeat still_step
      try refine wpStill_nil ?_
      change wpList _ _ _ _ _ wr.drew
      go_wp2_with fail
      refine (above_any (keyL k) (keyL e.key) (keyL_length _) (keyL_length _) k e.key _).mono ?_; rintro e' w5 ⟨rfl, hb5⟩; rw [HAB.out]; have hb6 : Below wr.heap.size wr w5 := (Below.refl _ _).drew.trans hb5; have hci5 := cellB hb6 hci; have hrow5 := (hb6.block nb (lt_of_block HI.out.row)).trans HI.out.row; have HB6 := Lib.hid hb6; have HROW5 := Lib.hid hrow5; have h34 := (cell_of_row _ _ 34 _ _ _ hrow5).trans (rowT_left _ _ _); have f34 := frozen_of_row _ _ 34 _ _ hrow5; clear hb34 hf34 hb35 hf35 hb5 hb6 hrow5 hci he0 pv0
      go_wp2_with fail
      go_roundw
      case rel =>
       refine ⟨m, rfl, by omega, ?_, gTwo HI.out.grown (gTwo (gBelow HB6.out _) (gSet _ _ _ _) (.inl rfl)) (.inl rfl), fun i x hi hx => ?_⟩
       ·rw [sub_ptr t m e HE.out]; exact blk_put HROW5.out 34 _ (rowT_setLeft _ _ _ _)
       ·rcases Nat.eq_or_lt_of_le hi with h | h
        ·subst h; rw [HE.out] at hx; cases hx; exact HAB.out
        ·exact HI.out.up i x (by have := HM.out; omega) hx
      case measure => simp; omega
     ·have hab2 : abN ⟨nb, k, v, ⟨#[]⟩, ⟨#[]⟩⟩ e = false := Bool.eq_false_iff.2 hab; have HAB : Hid (aboveB (keyL k) (keyL e.key) k e.key = false) := Lib.hid hab2; clear hab
      go_wp2_with fail
      go_still_tail 29, (by kernel_rfl)
      go_loud (refine wpStill_loadG (by rfl) 133 _ rfl _ (hashV (keyL k)) rfl HKL1.out ?_)
      repeat still_step
      go_loud (refine wpStill_loadG (by rfl) 133 _ rfl _ (hashV (keyL e.key)) rfl HKL2.out ?_)
      repeat still_step
      try refine wpStill_nil ?_
      change wpList _ _ _ _ _ wr.drew
      go_wp2_with fail
      refine (above_any (keyL k) (keyL e.key) (keyL_length _) (keyL_length _) k e.key _).mono ?_; rintro e' w5 ⟨rfl, hb5⟩; rw [HAB.out]; have hb6 : Below wr.heap.size wr w5 := (Below.refl _ _).drew.trans hb5; have hci5 := cellB hb6 hci; have hrow5 := (hb6.block nb (lt_of_block HI.out.row)).trans HI.out.row; have HB6 := Lib.hid hb6; have HROW5 := Lib.hid hrow5; have hre5 := (hb6.block e.b (lt_of_block HRE.out)).trans HRE.out; have h35 := (cell_of_row _ _ 35 _ _ _ hre5).trans (rowT_right _ _ _); have f35 := frozen_of_row _ _ 35 _ _ hre5; have HIN5 := Lib.hid ((HG4.out.inm.grown HI.out.grown (fun q hq => by cases hq; exact HNT.out)).below hb6); have HO5 := Lib.hid (HO.out.below hb6); clear hb34 hf34 hb35 hf35 hb5 hb6 hrow5 hci he0 pv0 hre5
      go_upto_region 11 with fail
      obtain ⟨wq, hwq⟩ : ∃ wq, wq = w5.setCell ⟨e.b, 35, none⟩ (.pointer (some ⟨nb, 0, none⟩)) := ⟨_, rfl⟩
      rw [← hwq]; have HIN : Hid (InM wq (graft M t ⟨nb, k, v, ⟨#[]⟩, ⟨#[]⟩⟩)) := Lib.hid (by
       rw [hwq]; have hM := HM.out; subst hM; exact InM.graft (p := ⟨nb, k, v, ⟨#[]⟩, ⟨#[]⟩⟩) m e HIN5.out HG4.out.nodup HNT.out HE.out HROW5.out)
      have HOQ := Lib.hid (HO5.out.set (p := ⟨e.b, 35, none⟩) (fun h => HG4.out.apart e.b h HEM.out) (.pointer (some ⟨nb, 0, none⟩))); rw [← hwq] at HOQ; have HBQ : Hid (Below (w.heap.size + 1) W1 wq) := Lib.hid (by
       rw [hwq]; exact ((HG4.out.below.grown HI.out.grown (by omega) (fun q hq => by have : nb = q := Option.some.inj hq; omega)).trans (HB6.out.mono (by omega))).setCell (by have := HG4.out.ge e.b HEM.out; show _ ≤ e.b; omega) _)
      have hzq : wr.heap.size ≤ wq.heap.size := by rw [hwq]; simpa using HB6.out.size
      clear hwq h35 f35 hci5; have HK : Hid (∀ x, 0 < M → (edge t)[M - 1]? = some x → abN ⟨nb, k, v, ⟨#[]⟩, ⟨#[]⟩⟩ x = false) := Lib.hid (fun x _ hx => by rw [← HM.out, Nat.add_sub_cancel, HE.out] at hx; cases hx; exact HAB.out)
      (have HOWN := Lib.hid (HOQ.out.alloc (.cells #[.pointer (some ⟨nb, 0, none⟩)] 129)); have HSRC := Lib.hid (src_one wq 193 129 129 Tryd.underlying193 (.pointer (some ⟨nb, 0, none⟩)) rfl); go_wp2_with (at_builtin; go_loud (refine wpList_app (w.heap.size + 1) rfl _ _ 193 193 rfl 129 (.pointer none) 1 8 Tryd.underlying193 infoTree rfl rfl HOWN.out _ 1 [.pointer (some ⟨nb, 0, none⟩)] rfl HSRC.out (by unfold maxLen; omega) (by omega) (by simp; omega) ?_; intro v' w' hown' hgrow hvv; obtain ⟨A', c', rfl⟩ := hown'.form; have HO' := Lib.hid hown'; have HG' := Lib.hid hgrow; have HV' := Lib.hid hvv; clear hown' hgrow hvv)); refine ⟨⟨j + 1, graft M t ⟨nb, k, v, ⟨#[]⟩, ⟨#[]⟩⟩, by omega, by go_num, HG4.out.next (p := ⟨nb, k, v, ⟨#[]⟩, ⟨#[]⟩⟩) (by rw [List.getElem?_eq_getElem hl, HP.out]; rfl) (hle) HNT.out (by show _ ≤ nb; omega) (HIN.out.below ((Below.refl _ _).alloc (Nat.le_refl _) _)) (HK.out) HI.out.up (own_slice _ _ _ _) HG'.out HO'.out HV'.out (fun h => by have : nb < wo.heap.size := HGV.out _ h; omega) ((HBQ.out.alloc (by omega) _).grown HG'.out (by simp; omega) (fun q hq => (HOQ.out.lt q hq).1))⟩, by simp [intOf]; omega⟩)
  ·obtain rfl : j = ps.length := by omega
   have hsh := HG.out.shape; rw [List.take_length] at hsh; have HSH := Lib.hid hsh; clear hsh hl hj; have hV := (HG.out.below.block w.heap.size (by omega)).trans HV1.out; have HV := Lib.hid hV; have HTr := Lib.hid (HT.out.below HBw.out); have htl := HT.out.lt
   cases t with
   | nil =>
    have hz : (edge (Sh.nil : Sh Nd)).length = 0 := rfl; rw [hz]; clear hV hz
    go_wp2
    go_ret
    exact ⟨.nil, rfl, trivial, List.nodup_nil, fun b h => by simp [blks] at h, HSH.out, HBw.out⟩
   | node x l r =>
    obtain ⟨n, hn⟩ : ∃ n, (edge (Sh.node x l r)).length = n + 1 := ⟨(edge r).length, by rw [edge, List.length_cons]⟩
    obtain ⟨g, cap, hv, hg1, hg2, hg3, hg4, hg5⟩ := HG.out.own.at (by omega)
    cases hv
    have hci := hg4 0 (by omega); rw [ptrs, edge, List.map_cons, List.getElem?_cons_zero] at hci; have hap := HG.out.apart g rfl; have hmf : ∀ (fn : Fn) (first cap : Array Value) (w : World), (Instr.makeFunc fn first cap).run Tryd.prog w = .ok (.func fn first cap) w := fun _ _ _ _ => rfl
    have hVn : w.heap.size ∉ blks (.node x l r) := fun h => by have := HG.out.ge _ h; omega
    have hTn : 0 ∉ blks (.node x l r) := fun h => by have := HG.out.ge _ h; omega
    rw [hn]; have HN := Lib.hid hn; have HCI := Lib.hid hci; have HEA := Lib.hid (eachSeal_any w.heap.size W hW1 hW2 (.node x l r) wr HG.out.inm HG.out.nodup hV hVn HTr.out hTn); unfold ptrB at hci; have e1 : ((((n + 1 : Nat) : Int) == 0) = false) := by rw [beq_eq_false_iff_ne]; omega
    have h1 : (0 : Int) < ((n + 1 : Nat) : Int) := by omega
    clear hn hg4 hg5 hg1 hap hVn hTn hV
    go_wp2_with fail
    refine (HEA.out).mono ?_; rintro e w2 ⟨rfl, hi2, hf2⟩; have hci2 : w2.cell? ⟨g, 0, none⟩ = some (.pointer (some ⟨x.b, 0, none⟩)) := (World.cell?_of_block (a := ⟨g, 0, none⟩) (hf2.block g hg2 (HG.out.apart g rfl))).trans hci; have HI2 := Lib.hid hi2; have HF2 := Lib.hid hf2; clear hi2 hf2 hci
    go_wp2
    go_ret
    exact ⟨_, rfl, HI2.out, HG.out.nodup, fun b h => by have := HG.out.ge b h; omega, HSH.out, HBw.out.trans (HF2.out.below HBw.out.size (fun b h => by have := HG.out.ge b h; omega))⟩
end Go.Proofs.YtaepebkeijmjgaaDoor.Z
end
section
namespace Go.Proofs.YtaepebkeijmjgaaDoor.Z
open RowKit YtaepebkeijmjgaaDoorW.PrintWords YtaepebkeijmjgaaDoorW.PrintLast YtaepebkeijmjgaaDoorW.PrintMore
attribute [local go_sem] max2_int min2_int max_two min_two max_three min_three max_four min_four
set_option linter.all false
def impl_pairFits.f (a0 : ByteArray) (a1 : ByteArray) : Option (Bool) := if (a0.size : Int) ≥ 1 then (if (a0.size : Int) ≤ 256 then (some (decide ((a1.size : Int) ≤ 2000))) else (some false)) else (some false)
set_option maxHeartbeats 8000000 in
set_option maxRecDepth 100000 in
theorem impl_pairFits.calls (a0 : ByteArray) (a1 : ByteArray) (r : Bool) (w : World) (h : impl_pairFits.f a0 a1 = some r) :
  Calls Tryd.prog 127 #[.string a0, .string a1] w fun e w' => e = .returned (.bool r) ∧ Drawn0 w w' := by
 have H : (if (a0.size : Int) ≥ 1 then (if (a0.size : Int) ≤ 256 then (some (decide ((a1.size : Int) ≤ 2000))) else (some false)) else (some false)) = some r := h; clear h
 by_cases c3 : (a0.size : Int) ≥ 1
 ·rw [if_pos c3] at H; have c3b0 : decide (1 ≤ (a0.size : Int)) = true := decide_eq_true c3; have c3b1 : decide (1 ≤ a0.size) = true := decide_eq_true (by omega); clear c3
  by_cases c4 : (a0.size : Int) ≤ 256
  ·rw [if_pos c4] at H; have c4b0 : decide ((a0.size : Int) ≤ 256) = true := decide_eq_true c4; have c4b1 : decide (a0.size ≤ 256) = true := decide_eq_true (by omega); clear c4; obtain rfl := Option.some.inj H
   go_enter Tryd.func127, Tryd.ntmps127
   go_wp2
   go_ret
   exact ⟨by first | rfl | (simp; done) | (simp [*]; done), by repeat (first | exact Drawn0.refl _ | apply Drawn0.step)⟩
  ·rw [if_neg c4] at H; have c4b0 : decide ((a0.size : Int) ≤ 256) = false := decide_eq_false c4; have c4b1 : decide (a0.size ≤ 256) = false := decide_eq_false (by omega); clear c4; obtain rfl := Option.some.inj H
   go_enter Tryd.func127, Tryd.ntmps127
   go_wp2
   go_ret
   exact ⟨by first | rfl | (simp; done) | (simp [*]; done), by repeat (first | exact Drawn0.refl _ | apply Drawn0.step)⟩
 ·rw [if_neg c3] at H; have c3b0 : decide (1 ≤ (a0.size : Int)) = false := decide_eq_false c3; have c3b1 : decide (1 ≤ a0.size) = false := decide_eq_false (by omega); clear c3; obtain rfl := Option.some.inj H
  go_enter Tryd.func127, Tryd.ntmps127
  go_wp2
  go_ret
  exact ⟨by first | rfl | (simp; done) | (simp [*]; done), by repeat (first | exact Drawn0.refl _ | apply Drawn0.step)⟩
end Go.Proofs.YtaepebkeijmjgaaDoor.Z
end
