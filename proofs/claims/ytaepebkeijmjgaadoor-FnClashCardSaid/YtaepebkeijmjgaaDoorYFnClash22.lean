/- Own texts, joined. -/
import Derived.Test.YtaepebkeijmjgaaDoorYFnClash27
import Derived.Test.YtaepebkeijmjgaaDoorYFnClash21
import Derived.Lib.Builder
import Derived.Lib.AppendStr
import Derived.Lib.UnsafeStr
import Derived.Lib.Walk
import Derived.Laws.Externs
import Derived.StillTailTactics
import Derived.Deep.RegionHeld3
import Derived.Deep.MidRow
import Derived.Laws.EntriesVeiled
import Derived.WalkLawsBesides
section
namespace Go.Proofs.YtaepebkeijmjgaaDoor.Z
open RowKit YtaepebkeijmjgaaDoor YtaepebkeijmjgaaDoorW.PrintWords YtaepebkeijmjgaaDoorW.PrintLast
set_option linter.all false
set_option maxRecDepth 100000
def catL (ps : List ByteArray) : List UInt8 := ps.flatMap fun s => s.data.toList
theorem catL_snoc (ps : List ByteArray) (s : ByteArray) : catL (ps ++ [s]) = catL ps ++ s.data.toList := by simp [catL]
theorem catL_take_le (ps : List ByteArray) (n : Nat) : (catL (ps.take n)).length ≤ (catL ps).length := by
 have h : catL ps = catL (ps.take n) ++ catL (ps.drop n) := by
  unfold catL; rw [← List.flatMap_append, List.take_append_drop]
 rw [h, List.length_append]; omega
def hashV (l : List Int) : Value := .agg (l.map (Value.int .u8)).toArray
set_option maxHeartbeats 1000000 in
theorem hashOf_any (g : Nat) (ps : List ByteArray) (w : World) (hc : ∀ j p, ps[j]? = some p → w.cell? ⟨g, j, none⟩ = some (.string p)) (ht : Tab w) (hsz : (catL ps).length ≤ 4294967296) (hn : ps.length ≤ 4294967296) (hg : g < w.heap.size) :
  Calls Tryd.prog 128 #[.slice (some ⟨g, 0, none⟩) ps.length ps.length] w fun e w' => e = .returned (hashV (shaL (catL ps))) ∧ Below w.heap.size w w' := by
 have HC := Lib.hid hc; clear hc; have HT := Lib.hid ht; clear ht
 go_enter Tryd.func128, Tryd.ntmps128
 go_wp2_with (go_at_call 158; refine (newHasher_any _).mono ?_; rintro e w1 ⟨rfl, h1, hz1, hb1⟩; have H1 := Lib.hid h1; clear h1)
 have hz2 := hz1; simp only [World.size_alloc] at hz2; have hR1 : w1.heap[w.heap.size]? = some (.cells ((List.replicate 32 (Value.int .u8 0)).toArray) 133 (0, 0)) := (hb1.block _ (by simp)).trans (heap_alloc_new _ _); have HR1 := Lib.hid hR1; clear hR1; have hF1 : Fed (w.heap.size + 1) (ints (catL (ps.take 0))) ((catL (ps.take 0)).length : Nat) w1 := by
  refine ⟨_, by simpa [ints, catL, stateP] using H1.out, fun j hj => by simp [catL, ints] at hj⟩
 have HF1 := Lib.hid hF1; clear hF1; have hB1 : Below w.heap.size w w1 := ((Below.refl _ _).alloc (Nat.le_refl _) _).trans (hb1.mono (by simp))
 go_wp2
 go_loopw [9] (fun i wr => ∃ n : Nat, n ≤ ps.length ∧ i = .int .i64 n ∧ Fed (w.heap.size + 1) (ints (catL (ps.take n))) ((catL (ps.take n)).length : Nat) wr ∧ w1.grownBy wr (some (w.heap.size + 1))) (fun i _ => ps.length - (intOf i).toNat)
 case atStart => exact ⟨0, by omega, rfl, HF1.out, grown_refl _ _⟩
 case round =>
  obtain ⟨n, hn1, rfl, hF, hG⟩ := hrel; have hBr : Below w.heap.size w wr := hB1.grown hG (by omega) (by intro k hk; have := Option.some.inj hk; omega); have HTr := Lib.hid (HT.out.below hBr); have hbg : 0 < w.heap.size + 1 := by have := HT.out.lt; omega
  have HF := Lib.hid hF; clear hF
  by_cases hl : n < ps.length
  ·have hcn := HC.out n ps[n] (List.getElem?_eq_getElem hl); have hcr := (hBr.cell (p := ⟨g, n, none⟩) hg).trans hcn; clear hcn; have hle := catL_take_le ps n; have hle1 : ps[n].size ≤ (catL ps).length := by
    have := catL_take_le ps (n + 1); rw [List.take_succ_eq_append_getElem hl, catL_snoc, List.length_append] at this; have e : ps[n].data.toList.length = ps[n].size := rfl; omega
   obtain ⟨p, hp⟩ : ∃ p, ps[n] = p := ⟨_, rfl⟩
   rw [hp] at hcr hle1; have HP := Lib.hid hp; clear hp; have n0 : (0 : Int) ≤ (n : Int) := by omega
   go_wp2_with (go_at_call 159; refine (feed_any _ _ _ _ _ HF.out HTr.out hbg (by omega) (by omega)).mono ?_; rintro e w2 ⟨rfl, h2, hg2⟩; have H2 := Lib.hid h2; clear h2)
   go_roundw
   case rel =>
    refine ⟨n + 1, by omega, by go_num, ?_, Lib.grownBy_trans hG hg2⟩; rw [List.take_succ_eq_append_getElem hl, catL_snoc, HP.out, ints_app, List.length_append]; exact H2.out
   case measure => simp [intOf]; omega
  ·obtain rfl : n = ps.length := by omega
   rw [List.take_length] at HF; have hRr : wr.heap[w.heap.size]? = some (.cells ((List.replicate 32 (Value.int .u8 0)).toArray) 133 (0, 0)) := (hG.block w.heap.size (by omega) (by intro e; have := Option.some.inj e; omega)).trans HR1.out; have HRr := Lib.hid hRr; clear hRr; have hz3 := hG.size; have hi : (Tryd.prog.info? 133).map (·.size) = some (((shaL (catL ps)).map (Value.int .u8)).toArray.size) := by
    rw [show (((shaL (catL ps)).map (Value.int .u8)).toArray.size) = 32 by simp [shaL_length]]; kernel_rfl
   have h1c : (((shaL (catL ps)).map (Value.int .u8)).toArray).all (·.oneCell') = true := by simp [Value.oneCell']
   have hsz : ((List.replicate 32 (Value.int .u8 0)).toArray).size = ((shaL (catL ps)).map (Value.int .u8)).toArray.size := by simp [shaL_length]
   have HI := Lib.hid hi; clear hi; have H1C := Lib.hid h1c; clear h1c; have HSZ2 := Lib.hid hsz; clear hsz
   go_wp2_with (first | (go_at_call 160; refine (finish_any _ _ _ HF.out HTr.out hbg (by omega)).mono ?_; rintro e w2 ⟨rfl, hg2⟩; have HR2 := Lib.hid ((hg2.block w.heap.size (by omega) (by intro e; have := Option.some.inj e; omega)).trans HRr.out)) | refine wpList_store_row rfl 133 _ _ rfl w.heap.size _ rfl rfl _ _ HR2.out HI.out HSZ2.out H1C.out ?_)
   refine bodyPost_ret (v := hashV (shaL (catL ps))) (results_cell_row Tryd.results128 _ _ w.heap.size 133 _ (0, 0) _ rfl (setRow_heap _ _ _ _ _ _ HR2.out) Tryd.underlying133 rfl HI.out) rfl ⟨rfl, ?_⟩; have hb : Below w.heap.size w w2 := hBr.grown hg2 (by have := hBr.size; omega) (by intro k hk; have := Option.some.inj hk; omega); exact ⟨hb.os, hb.tape, hb.output, by rw [setRow_size]; exact hb.size, fun k hk => (setRow_other _ _ _ _ (by omega)).trans (hb.block k hk)⟩
theorem part_u8 (l : List Int) (i : Nat) (hi : i < l.length) (w : World) : (Go.part 5 (l.map (Value.int .u8)).toArray (i * 1)).run Tryd.prog w = .ok (.int .u8 (rdN l i)) w := by
 have hA : ∀ w : World, (Go.isAgg 5).run Tryd.prog w = .ok false w := fun _ => by kernel_rfl
 unfold Go.part; simp only [Sem.run_bind, hA, Result.andThen_ok, Bool.false_eq_true, if_false, Nat.mul_one]; have : ((l.map (Value.int .u8)).toArray)[i]? = some (.int .u8 (rdN l i)) := by simp [rdN, List.getD_eq_getElem?_getD, hi]
 rw [this]; rfl
theorem eq_loop (l m : List Int) (hl : l.length = 32) (hm : m.length = 32) (w : World) : ∀ (k j : Nat), j + k = 32 →
  (forIn (List.range' j k) ((none, ()) : Option Bool × Unit) (fun i _ => (do
   let a ← Go.part 5 (l.map (Value.int .u8)).toArray (i * 1)
   let b ← Go.part 5 (m.map (Value.int .u8)).toArray (i * 1)
   let c ← Op.equalIn 9999 5 a b
   if (!c) = true then pure (ForInStep.done (some false, ())) else pure (ForInStep.yield (none, ())) : Sem (ForInStep (Option Bool × Unit))))).run Tryd.prog w = .ok (if l.drop j = m.drop j then (none, ()) else (some false, ())) w := by
 intro k
 induction k with
 | zero =>
  intro j hj; rw [List.drop_eq_nil_of_le (by omega), List.drop_eq_nil_of_le (by omega)]; simp
 | succ k ih =>
  intro j hj; have e1 : l.drop j = rdN l j :: l.drop (j + 1) := by
   rw [List.drop_eq_getElem_cons (by omega)]; simp [rdN, List.getD_eq_getElem?_getD, show j < l.length by omega]
  have e2 : m.drop j = rdN m j :: m.drop (j + 1) := by
   rw [List.drop_eq_getElem_cons (by omega)]; simp [rdN, List.getD_eq_getElem?_getD, show j < m.length by omega]
  have h := ih (j + 1) (by omega); rw [List.range'_succ, List.forIn_cons]; simp only [Sem.run_bind]; rw [part_u8 l j (by omega), e1, e2]; simp only [Result.andThen_ok]; rw [part_u8 m j (by omega)]; simp only [Result.andThen_ok]; rw [show (9999 : Nat) = 9998 + 1 from rfl, run_equalIn_int w 9998 5 .u8 .u8 _ _ Tryd.underlying5]; simp only [Result.andThen_ok]
  by_cases hc : rdN l j = rdN m j
  ·rw [hc, beq_self_eq_true]; simp only [Bool.not_true, Bool.false_eq_true, if_false, Sem.run_pure, Result.andThen_ok, List.cons.injEq, true_and]; exact h
  ·rw [beq_eq_false_iff_ne.2 hc]; simp [hc]
theorem eq_arr (l m : List Int) (hl : l.length = 32) (hm : m.length = 32) (w : World) :
  (Op.equalIn 10000 133 (hashV l) (hashV m)).run Tryd.prog w = .ok (decide (l = m)) w := by
 have hT : Tryd.prog.underlying 133 = some (.array 32 5) := by kernel_rfl
 have hs : ∀ w : World, (sizeOf 5).run Tryd.prog w = .ok 1 w := fun _ => by kernel_rfl
 unfold hashV; show (Op.equalIn (9999 + 1) 133 _ _).run Tryd.prog w = _; unfold Op.equalIn; simp only [Sem.run_bind, run_underlying hT, Result.andThen_ok, hs]; rw [Std.Legacy.Range.forIn_eq_forIn_range']; have h := eq_loop l m hl hm w 32 0 rfl; refine (congrArg (fun r => Result.andThen r _) h).trans ?_; simp only [Result.andThen_ok, List.drop_zero]
 by_cases hc : l = m
 ·simp [hc]
 ·simp [hc]
theorem run_neq_hash (l m : List Int) (hl : l.length = 32) (hm : m.length = 32) (w : World) :
  (binOp .neq 133 (hashV l) (hashV m)).run Tryd.prog w = .ok (.bool (!decide (l = m))) w := by
 unfold hashV; rw [run_neq_struct]; have h := eq_arr l m hl hm w; unfold hashV at h; rw [h]; rfl
theorem strOfNums_take (l : List Int) (n : Nat) : strOfNums (l.take n) = (strOfNums l).extract 0 n := by
 apply ByteArray.ext
 unfold strOfNums; simp [ByteArray.data_extract]
set_option maxHeartbeats 1000000 in
set_option maxRecDepth 10000 in
theorem text_h (l : List Int) (hl : l.length = 32) (n : Int) (w : World) (h0 : 1 ≤ n) (h1 : n ≤ 32) :
  Calls Tryd.prog 161 #[hashV l, .int .i64 n] w fun e w' => e = .returned (.string ((strOfNums l).extract 0 n.toNat)) ∧ Below w.heap.size w w' := by
 obtain ⟨n, rfl⟩ := Int.eq_ofNat_of_zero_le (show 0 ≤ n by omega); rw [Int.toNat_natCast]; have h1' : 1 ≤ n := by omega
 have h2' : n ≤ 32 := by omega
 have hcv : (convert 51 9 (.slice (some ⟨w.heap.size, 0, none⟩) n 32)).run Tryd.prog (w.alloc (.cells (l.map (Value.int .u8)).toArray 133)) = .ok (.string ((strOfNums l).extract 0 n)) (w.alloc (.cells (l.map (Value.int .u8)).toArray 133)) := by
  rw [← strOfNums_take]; refine run_convert_bytes_arg (P := Tryd.prog) _ 51 5 Tryd.underlying51 Tryd.underlying5 w.heap.size 0 n 32 (l.take n) (by simp; omega) (fun i hi => ?_) 9 Tryd.underlying9; rw [Nat.zero_add, cell_of_row _ _ _ _ _ _ (heap_alloc_new _ _)]; simp [List.getD_eq_getElem?_getD, List.getElem?_take, hl, hi, show i < 32 by omega]
 have HCV := Lib.hid hcv; clear hcv; have HL := Lib.hid hl; clear hl; unfold hashV
 go_enter Tryd.func161, Tryd.ntmps161
 go_wp2_with ((with_reducible refine gate_dst (N := 7) rfl ?_); refine wpList_convert rfl 51 9 _ rfl rfl HCV.out ?_)
 go_ret
 exact ⟨rfl, by (repeat' (first | exact Below.refl _ _ | (with_reducible assumption) | (with_reducible refine Below.setCell ?_ zq_19 _) | refine below_then ?_ (by assumption) | (with_reducible refine below_new2 ?_ _) | (with_reducible refine Below.drew ?_) | (with_reducible refine bdrewN ?_ _)))⟩
def widB (x : Int) : Bool := decide (1 ≤ x ∧ x ≤ 32)
theorem isWidth_any (x : Int) (w : World) : Calls Tryd.prog 93 #[.int .i64 x] w fun e w' => e = .returned (.bool (widB x)) ∧ w = w' := by
 go_enter Tryd.func93, Tryd.ntmps93
 go_wp2
 all_goals
  go_ret
  refine ⟨ret_bool ?_, rfl⟩; unfold widB
  grind
theorem hash_str (l : List Int) (hl : l.length = 32) (g : Nat) (W : World) (hg : W.heap[g]? = some (.cells (l.map (Value.int .u8)).toArray 133 (0, 0))) :
  (convert 51 9 (.slice (some ⟨g, 0, none⟩) 32 32)).run Tryd.prog W = .ok (.string (strOfNums l)) W := by
 refine run_convert_bytes_arg (P := Tryd.prog) _ 51 5 Tryd.underlying51 Tryd.underlying5 g 0 32 32 l (by omega) (fun i hi => ?_) 9 Tryd.underlying9; rw [Nat.zero_add, cell_of_row _ _ _ _ _ _ hg]; simp [List.getD_eq_getElem?_getD, hl, show i < 32 by omega]
def aboveB (x y : List Int) (a b : ByteArray) : Bool := if x = y then Op.bytesLess a.toList b.toList else (!Op.bytesLess (strOfNums x).toList (strOfNums y).toList && !((strOfNums x).toList == (strOfNums y).toList))
set_option maxHeartbeats 1000000 in
set_option maxRecDepth 10000 in
theorem above_any (x y : List Int) (hx : x.length = 32) (hy : y.length = 32) (a b : ByteArray) (w : World) :
  Calls Tryd.prog 129 #[hashV x, .string a, hashV y, .string b] w fun e w' => e = .returned (.bool (aboveB x y a b)) ∧ Below w.heap.size w w' := by
 have hne := fun w => run_neq_hash x y hx hy w
 have hA : ((w.alloc (.cells (x.map (Value.int .u8)).toArray 133)).alloc (.cells (y.map (Value.int .u8)).toArray 133)).heap[w.heap.size]? = some (.cells (x.map (Value.int .u8)).toArray 133 (0, 0)) := heap_alloc2_old _ _ _; have hB : ((w.alloc (.cells (x.map (Value.int .u8)).toArray 133)).alloc (.cells (y.map (Value.int .u8)).toArray 133)).heap[w.heap.size + 1]? = some (.cells (y.map (Value.int .u8)).toArray 133 (0, 0)) := heap_alloc2_new _ _ _; have hi : (Tryd.prog.info? 133).map (·.size) = some ((x.map (Value.int .u8)).toArray.size) := by
  rw [show ((x.map (Value.int .u8)).toArray.size) = 32 by simp [hx]]; kernel_rfl
 have hj : (Tryd.prog.info? 133).map (·.size) = some ((y.map (Value.int .u8)).toArray.size) := by
  rw [show ((y.map (Value.int .u8)).toArray.size) = 32 by simp [hy]]; kernel_rfl
 have HA := Lib.hid hA; have HB := Lib.hid hB; have HI := Lib.hid hi; have HJ := Lib.hid hj; have HX := Lib.hid hx; have HY := Lib.hid hy; clear hA hB hi hj hx hy; unfold hashV at *
 by_cases hxy : x = y
 ·have hd : decide (x = y) = true := decide_eq_true hxy; have HD : Hid (aboveB x y a b = Op.bytesLess a.toList b.toList) := Lib.hid (by unfold aboveB; rw [if_pos hxy]); clear hxy
  go_enter Tryd.func129, Tryd.ntmps129
  go_wp2_with (first | ((with_reducible refine gate_dst (N := 9) rfl ?_); refine wpList_load_row rfl 133 _ rfl w.heap.size rfl _ _ _ _ HA.out Tryd.underlying133 rfl HI.out ?_) | ((with_reducible refine gate_dst (N := 10) rfl ?_); refine wpList_load_row rfl 133 _ rfl (w.heap.size + 1) rfl _ _ _ _ HB.out Tryd.underlying133 rfl HJ.out ?_))
  go_ret
  exact ⟨by rw [HD.out]; rfl, by (repeat' (first | exact Below.refl _ _ | (with_reducible assumption) | (with_reducible refine Below.setCell ?_ zq_19 _) | refine below_then ?_ (by assumption) | (with_reducible refine below_new2 ?_ _) | (with_reducible refine Below.drew ?_) | (with_reducible refine bdrewN ?_ _)))⟩
 ·have hd : decide (x = y) = false := decide_eq_false hxy; have HD : Hid (aboveB x y a b = (!Op.bytesLess (strOfNums x).toList (strOfNums y).toList && !((strOfNums x).toList == (strOfNums y).toList))) := Lib.hid (by unfold aboveB; rw [if_neg hxy]); clear hxy
  go_enter Tryd.func129, Tryd.ntmps129
  go_wp2_with (first | ((with_reducible refine gate_dst (N := 9) rfl ?_); refine wpList_load_row rfl 133 _ rfl w.heap.size rfl _ _ _ _ HA.out Tryd.underlying133 rfl HI.out ?_) | ((with_reducible refine gate_dst (N := 10) rfl ?_); refine wpList_load_row rfl 133 _ rfl (w.heap.size + 1) rfl _ _ _ _ HB.out Tryd.underlying133 rfl HJ.out ?_))
  have hBel : Below w.heap.size w ((w.alloc (.cells (x.map (Value.int .u8)).toArray 133)).alloc (.cells (y.map (Value.int .u8)).toArray 133)) := by (repeat' (first | exact Below.refl _ _ | (with_reducible assumption) | (with_reducible refine Below.setCell ?_ zq_19 _) | refine below_then ?_ (by assumption) | (with_reducible refine below_new2 ?_ _) | (with_reducible refine Below.drew ?_) | (with_reducible refine bdrewN ?_ _)))
  generalize (w.alloc (.cells (x.map (Value.int .u8)).toArray 133)).alloc (.cells (y.map (Value.int .u8)).toArray 133) = W at HA HB hBel ⊢; have kx := fun n => hash_str x HX.out w.heap.size (W.drewN n) HA.out
  have ky := fun n => hash_str y HY.out (w.heap.size + 1) (W.drewN n) HB.out
  have kx0 := hash_str x HX.out w.heap.size W HA.out; have ky0 := hash_str y HY.out (w.heap.size + 1) W HB.out; clear hne
  go_quiet (fail)
  go_wp2
  go_ret
  exact ⟨by rw [HD.out]; rfl, bdrewN hBel nq⟩
theorem catL_one (s : ByteArray) : catL [s] = s.data.toList := by simp [catL]
def digV (s : ByteArray) (n : Int) : ByteArray := if widB n then (shaV s).extract 0 n.toNat else ⟨#[]⟩
theorem digV_yes {s : ByteArray} {n : Int} (h : widB n = true) : digV s n = (shaV s).extract 0 n.toNat := by unfold digV; rw [h]; rfl
theorem digV_no {s : ByteArray} {n : Int} (h : widB n = false) : digV s n = ⟨#[]⟩ := by unfold digV; rw [h]; rfl
def highB (a b : ByteArray) : Bool := aboveB (shaL a.data.toList) (shaL b.data.toList) a b
end Go.Proofs.YtaepebkeijmjgaaDoor.Z
end
section
namespace Go.Proofs.YtaepebkeijmjgaaDoor
open RowKit
set_option linter.all false
set_option maxRecDepth 100000
structure LiesB (T : TypeId) : Prop where
 lies : liesAt Tryd.prog Tryd.prog.depth T (2 / Tryd.prog.cellsOf T) 0 108 1 = true
 ne : T ≠ 5
theorem liesOwn : LiesB 110 := ⟨by kernel_rfl, by decide⟩
theorem sizeBuilder : (Tryd.prog.info? 108).map (·.size) = some 2 := by kernel_rfl
theorem infoU8' : (Tryd.prog.info? 5).map (fun i => (i.zero, i.size, i.bytes)) = some (some (.int .u8 0), 1, 1) := by kernel_rfl
def Bld (T : TypeId) (B b : Nat) (l : List UInt8) (w : World) : Prop := Lib.IsBuilder T 5 B b (bcs l) w
theorem Bld.fresh (T : TypeId) (w : World) : Bld T w.heap.size w.heap.size [] (w.alloc (.cells #[.pointer none, .slice none 0 0] T)) := Lib.fresh_isBuilder T 5 w
theorem Bld.keep {T : TypeId} {B b : Nat} {l : List UInt8} {w w1 : World} (h : Bld T B b l w) (hs : w.heap.size ≤ w1.heap.size) (hb : ∀ k, k < w.heap.size → w1.heap[k]? = w.heap[k]?) : Bld T B b l w1 := by
 have one : ∀ p, Lib.BuilderAt T 5 B b p (bcs l) w → Lib.BuilderAt T 5 B b p (bcs l) w1 := by
  rintro p ⟨hB, v, hbk, hown, hne⟩; have hlt : b < w.heap.size := by
   rcases Nat.lt_or_ge b w.heap.size with h' | h'
   ·exact h'
   ·simp [Array.getElem?_eq_none h'] at hbk
  refine ⟨hB, v, (hb b hlt).trans hbk, ⟨hown.1, ?_⟩, hne⟩
  rcases hown.2 with h2 | ⟨g, cap, cur, hv, h1, h2, h3⟩
  ·exact .inl h2
  ·refine .inr ⟨g, cap, cur, hv, h1, (hb g ?_).trans h2, h3⟩
   rcases Nat.lt_or_ge g w.heap.size with h' | h'
   ·exact h'
   ·simp [Array.getElem?_eq_none h'] at h2
 rcases h with h | h
 ·exact .inl (one _ h)
 ·exact .inr (one _ h)
theorem Bld.below {T : TypeId} {B b : Nat} {l : List UInt8} {w w1 : World} (h : Bld T B b l w) (hb : Below w.heap.size w w1) : Bld T B b l w1 := h.keep hb.size fun k hk => hb.block k hk
theorem Bld.base {T : TypeId} {B b : Nat} {l : List UInt8} {w : World} (h : Bld T B b l w) : B ≤ b ∧ b < w.heap.size := by
 rcases h with h | h
 ·exact ⟨h.1, h.lt⟩
 ·exact ⟨h.1, h.lt⟩
set_option maxHeartbeats 1000000 in
theorem copyCheck_used (b : Nat) (w : World) (h0 : w.cell? ⟨b, 0, none⟩ = some (.pointer (some ⟨b, 0, none⟩))) :
  Calls Tryd.prog 171 #[.pointer (some ⟨b, 0, none⟩)] w fun e w' => e = .returned (.tuple #[]) ∧ w' = w := by
 obtain ⟨j, hj, _⟩ := Option.map_eq_some_iff.1 sizeBuilder
 go_enter Tryd.func171, Tryd.ntmps171
 go_wp2
 rw [Lib.run_neq_ptr_same w _ Tryd.underlying106 hj]
 go_wp2
 go_end0
 exact ⟨rfl, rfl⟩
set_option maxHeartbeats 1000000 in
theorem copyCheck_fresh (T : TypeId) (hT : LiesB T) (b : Nat) (w : World) (h0 : w.cell? ⟨b, 0, none⟩ = some (.pointer none)) (hsh : w.shape? b = some (T, 2)) (hfz : w.frozen? ⟨b, 0, none⟩ = false) :
  Calls Tryd.prog 171 #[.pointer (some ⟨b, 0, none⟩)] w fun e w' => e = .returned (.tuple #[]) ∧ w' = w.setCell ⟨b, 0, none⟩ (.pointer (some ⟨b, 0, none⟩)) := by
 obtain ⟨j, hj, hjs⟩ := Option.map_eq_some_iff.1 sizeBuilder
 go_enter Tryd.func171, Tryd.ntmps171
 go_wp2
 rw [Lib.run_to_unsafe w ⟨b, 0, none⟩ Tryd.underlying106 Tryd.underlying237 hj (by rw [hjs]; decide) hsh (Nat.zero_lt_succ 1)]; simp only [Result.andThen]; rw [Oper.upon_value]
 go_wp2
 rw [run_callFunc_extern Tryd.func175 (by kernel_rfl) (by kernel_rfl) (by kernel_rfl) (e := Extern.AbiNoEscape.same) (by kernel_rfl)]; rw [Lib.run_noEscape]; simp only [Result.andThen]; rw [Oper.upon_value]
 go_wp2
 rw [Lib.run_from_unsafe w ⟨b, 0, none⟩ Tryd.underlying237 Tryd.underlying106 hj hsh hT.lies]; simp only [Result.andThen]; rw [Oper.upon_value]
 go_wp2
 go_end0
 exact ⟨rfl, rfl⟩
theorem copyCheck_any (T : TypeId) (hT : LiesB T) (B b : Nat) (bs : List Value) (w : World) (h : Lib.IsBuilder T 5 B b bs w) :
  Calls Tryd.prog 171 #[.pointer (some ⟨b, 0, none⟩)] w fun e w' => e = .returned (.tuple #[]) ∧ (Lib.BuilderAt T 5 B b (.pointer (some ⟨b, 0, none⟩)) bs w' ∧ Below B w w') := by
 rcases h with h | h
 ·refine (copyCheck_fresh T hT b w h.cell0 h.shape h.frozen0).mono ?_; rintro e w' ⟨rfl, rfl⟩; exact ⟨rfl, h.used _, (Below.refl B w).setCell (p := ⟨b, 0, none⟩) h.1 _⟩
 ·refine (copyCheck_used b w h.cell0).mono ?_; rintro e w' ⟨rfl, rfl⟩; exact ⟨rfl, h, Below.refl B _⟩
theorem bcs_snoc (l : List UInt8) (c : UInt8) : bcs (l ++ [c]) = bcs l ++ [.int .u8 c.toNat] := by simp [bcs]
set_option maxHeartbeats 2000000 in
theorem writeByte_any (T : TypeId) (hT : LiesB T) (B b : Nat) (l : List UInt8) (c : UInt8) (x : Int) (hx : x = c.toNat) (w : World) (h : Bld T B b l w) (hlen : l.length + 1 ≤ 140737488355328) (hBw : B ≤ w.heap.size) :
  Calls Tryd.prog 157 #[.pointer (some ⟨b, 0, none⟩), .int .u8 x] w fun e w' => e = .returned .nilIface ∧ Bld T B b (l ++ [c]) w' ∧ Below B w w' := by
 subst hx; obtain ⟨i0, hi, hz0, hz1, hz2⟩ := info_parts infoU8'
 go_enter Tryd.func157, Tryd.ntmps157
 go_wp2_with (go_at_call 171; refine (copyCheck_any T hT B b _ _ h).mono ?_)
 rintro e w1 ⟨rfl, h1, hb1⟩; obtain ⟨hB, v, hbk, hown, hne⟩ := h1; have c0 : w1.cell? ⟨b, 0, none⟩ = some (.pointer (some ⟨b, 0, none⟩)) := by rw [Lib.cell_of_heap hbk]; rfl
 have c1 : w1.cell? ⟨b, 1, none⟩ = some v := by rw [Lib.cell_of_heap hbk]; rfl
 go_wp2_with (at_builtin; refine wpList_append_own _ rfl _ _ 51 rfl B 5 i0 (.int .u8 0) 1 1 Tryd.underlying51 hi hz0 hz1 hz2 rfl (by decide) _ _ _ rfl (hown.alloc _) ⟨w1.heap.size, 0, none⟩ 1 1 [.int .u8 c.toNat] rfl rfl ?c1 ?c2 ?c3 ?c4 ?c5 ?_)
 case c1 =>
  intro j u hj
  match j, hj with
  | 0, hj => simp at hj; subst hj; simp [Addr.add]
 case c2 => intro u hu; simp at hu; subst hu; rfl
 case c3 => rw [bcs_length]; unfold maxLen; omega
 case c4 => rw [bcs_length]; omega
 case c5 => have := hb1.size; simp; omega
 intro v' w2 hown' hgrow _; have hlt : b < w1.heap.size := by
  rcases Nat.lt_or_ge b w1.heap.size with h' | h'
  ·exact h'
  ·simp [Array.getElem?_eq_none h'] at hbk
 have hb2 : w2.heap[b]? = some (.cells #[.pointer (some ⟨b, 0, none⟩), v] T (0, 0)) := by
  rw [hgrow.block b (by simp; omega) (fun e => hne e.symm), Lib.alloc_old w1 _ b hlt]; exact hbk
 have d0 : w2.cell? ⟨b, 0, none⟩ = some (.pointer (some ⟨b, 0, none⟩)) := by rw [Lib.cell_of_heap hb2]; rfl
 have d1 : w2.cell? ⟨b, 1, none⟩ = some v := by rw [Lib.cell_of_heap hb2]; rfl
 have f1 : w2.frozen? ⟨b, 1, none⟩ = false := Lib.frozen_of_heap hb2 1; obtain ⟨g, cap, rfl⟩ : ∃ g cap, v' = .slice (some ⟨g, 0, none⟩) ((bcs l).length + 1) cap := by
  rcases hown'.2 with ⟨_, h0⟩ | ⟨g, cap, cur, hv, _⟩
  ·omega
  ·exact ⟨g, cap, hv⟩
 go_wp2
 go_ret
 refine ⟨rfl, ?_, ?_⟩
 ·rw [Bld, bcs_snoc]; exact .inr (Lib.BuilderAt.put (T := T) (e := 5) hB hb2 (bs' := bcs l ++ [.int .u8 c.toNat]) (by simpa using hown') hT.ne)
 ·exact ((hb1.alloc (by have := hb1.size; omega) _).grown hgrow (by have := hb1.size; simp; omega) (fun k hk => (hown.lt k hk).1)).setCell (p := ⟨b, 1, none⟩) hB _
set_option maxHeartbeats 2000000 in
theorem writeString_any (T : TypeId) (hT : LiesB T) (B b : Nat) (l : List UInt8) (s : ByteArray) (w : World) (h : Bld T B b l w) (hlen : l.length + s.size ≤ 140737488355328) (hBw : B ≤ w.heap.size) :
  Calls Tryd.prog 155 #[.pointer (some ⟨b, 0, none⟩), .string s] w fun e w' => e = .returned (.tuple #[.int .i64 s.size, .nilIface]) ∧ Bld T B b (l ++ s.data.toList) w' ∧ Below B w w' := by
 obtain ⟨i0, hi, hz0, hz1, hz2⟩ := info_parts infoU8'
 go_enter Tryd.func155, Tryd.ntmps155
 go_wp2_with (go_at_call 171; refine (copyCheck_any T hT B b _ _ h).mono ?_)
 rintro e w1 ⟨rfl, h1, hb1⟩; obtain ⟨hB, v, hbk, hown, hne⟩ := h1; have c0 : w1.cell? ⟨b, 0, none⟩ = some (.pointer (some ⟨b, 0, none⟩)) := by rw [Lib.cell_of_heap hbk]; rfl
 have c1 : w1.cell? ⟨b, 1, none⟩ = some v := by rw [Lib.cell_of_heap hbk]; rfl
 go_wp2_with (at_builtin; refine Lib.wpList_append_own_string _ rfl _ _ 51 9 rfl B 5 i0 Tryd.underlying51 Tryd.underlying9 hi hz0 hz1 hz2 _ _ _ rfl hown s rfl ?c3 ?c4 ?c5 ?_)
 case c3 => rw [bcs_length]; unfold maxLen; omega
 case c4 => rw [bcs_length]; omega
 case c5 => have := hb1.size; omega
 intro v' w2 hown' hgrow _; have hlt : b < w1.heap.size := by
  rcases Nat.lt_or_ge b w1.heap.size with h' | h'
  ·exact h'
  ·simp [Array.getElem?_eq_none h'] at hbk
 have hb2 : w2.heap[b]? = some (.cells #[.pointer (some ⟨b, 0, none⟩), v] T (0, 0)) := by
  rw [hgrow.block b hlt (fun e => hne e.symm)]; exact hbk
 have d0 : w2.cell? ⟨b, 0, none⟩ = some (.pointer (some ⟨b, 0, none⟩)) := by rw [Lib.cell_of_heap hb2]; rfl
 have d1 : w2.cell? ⟨b, 1, none⟩ = some v := by rw [Lib.cell_of_heap hb2]; rfl
 have f1 : w2.frozen? ⟨b, 1, none⟩ = false := Lib.frozen_of_heap hb2 1; obtain ⟨ao, n', cap, rfl⟩ : ∃ ao n' cap, v' = .slice ao n' cap := by
  rcases hown'.2 with ⟨hv, _⟩ | ⟨g, cap, cur, hv, _⟩
  ·exact ⟨_, _, _, hv⟩
  ·exact ⟨_, _, _, hv⟩
 go_wp2
 go_ret2
 have hcs : Lib.strCells s = bcs s.data.toList := rfl; refine ⟨rfl, ?_, ?_⟩
 ·rw [Bld, bcs_append, ← hcs]; exact .inr (Lib.BuilderAt.put (T := T) (e := 5) hB hb2 (bs' := bcs l ++ Lib.strCells s) (by simpa [Lib.strCells_length] using hown') hT.ne)
 ·exact (hb1.grown hgrow (by have := hb1.size; omega) (fun k hk => (hown.lt k hk).1)).setCell (p := ⟨b, 1, none⟩) hB _
set_option maxHeartbeats 1000000 in
/-- 'b.String()', of a builder that holds a byte. -/
theorem string_any (T : TypeId) (B b : Nat) (l : List UInt8) (w : World) (h : Bld T B b l w) (h0 : l ≠ []) :
  Calls Tryd.prog 58 #[.pointer (some ⟨b, 0, none⟩)] w fun e w' => e = .returned (.string ⟨l.toArray⟩) ∧ Below B w w' := by
 obtain ⟨p, hB, v, hbk, hown, hne⟩ : ∃ p, Lib.BuilderAt T 5 B b p (bcs l) w := by
  rcases h with h | h
  ·exact ⟨_, h⟩
  ·exact ⟨_, h⟩
 have hl0 : l.length ≠ 0 := by simpa using h0
 rw [bcs_length] at hown; obtain ⟨g, cap, cur, rfl, hbg, hg, hnc, hcm, hcs, htake⟩ : ∃ g cap cur, v = .slice (some ⟨g, 0, none⟩) l.length cap ∧ B ≤ g ∧ w.heap[g]? = some (.cells cur 5 (0, 0)) ∧ l.length ≤ cap ∧ cap ≤ maxLen ∧ cur.size = cap * 1 ∧ cur.toList.take (l.length * 1) = bcs l := by
  rcases hown.2 with ⟨_, hz⟩ | ⟨g, cap, cur, hv, r⟩
  ·exact absurd hz hl0
  ·exact ⟨g, cap, cur, hv, r⟩
 have c1 : w.drew.cell? ⟨b, 1, none⟩ = some (.slice (some ⟨g, 0, none⟩) l.length cap) := by
  have : w.drew.heap[b]? = some (.cells #[p, .slice (some ⟨g, 0, none⟩) l.length cap] T (0, 0)) := hbk; rw [Lib.cell_of_heap this]; rfl
 have hSD : (Builtin.unsafeSliceData_ #[51] 185 #[.slice (some ⟨g, 0, none⟩) l.length cap]).run Tryd.prog w.drew = .ok (.pointer (some ⟨g, 0, none⟩)) w.drew :=
  Lib.run_unsafeSliceData_row _ _ _ _ _ _ (by omega)
 have hUS : (Builtin.unsafeString_ #[185, 3] 9 #[.pointer (some ⟨g, 0, none⟩), .int .i64 l.length]).run Tryd.prog w.drew = .ok (.string ⟨l.toArray⟩) (w.drew.freeze ⟨g, 0, none⟩ l.length) := by
  refine Lib.run_unsafeString_row w.drew 185 3 9 5 Tryd.underlying185 (by kernel_rfl) g cur.size (by have hg' : w.drew.heap[g]? = some (.cells cur 5 (0, 0)) := hg; simp [World.shape?, hg']) l h0 (by omega) (by unfold maxLen at hcm; omega) ?_; intro j x hx; have := hown.cells (g := g) rfl j (.int .u8 x.toNat) (by simp [bcs, hx]); exact this
 have hbf : Below B w (w.drew.freeze ⟨g, 0, none⟩ l.length) := Lib.below_freeze (Below.drew (Below.refl B w)) (p := ⟨g, 0, none⟩) hbg _
 go_enter Tryd.func58, Tryd.ntmps58
 go_wp2
 go_region
 all_goals (go_wp2; go_ret; exact ⟨rfl, hbf⟩)
set_option maxHeartbeats 400000 in
theorem btext_any (B b : Nat) (l : List UInt8) (s : ByteArray) (w : World) (h : Bld 110 B b l w) (hlen : l.length + s.size ≤ 140737488355328) (hBw : B ≤ w.heap.size) :
  Calls Tryd.prog 116 #[.pointer (some ⟨b, 0, none⟩), .string s] w fun e w' => e = .returned (.pointer (some ⟨b, 0, none⟩)) ∧ Bld 110 B b (l ++ s.data.toList) w' ∧ Below B w w' := by
 obtain ⟨c0, hc0⟩ : ∃ v, w.cell? ⟨b, 0, none⟩ = some v := by rcases h with h | h <;> exact ⟨_, h.cell0⟩
 have H := Lib.hid h
 go_enter Tryd.func116, Tryd.ntmps116
 go_wp2_with (go_at_call 155; refine (writeString_any 110 liesOwn B b l s _ H.out hlen hBw).mono ?_; rintro e w1 ⟨rfl, h1, hb1⟩)
 go_ret
 exact ⟨rfl, h1, hb1⟩
def numByte (n k : Nat) (low : Bool) (i : Nat) : UInt8 := UInt8.ofNat (n / 2 ^ (8 * (if low then i else k - 1 - i)))
def numL (n k : Nat) (low : Bool) (m : Nat) : List UInt8 := (List.range m).map (numByte n k low)
theorem numL_succ (n k : Nat) (low : Bool) (m : Nat) : numL n k low (m + 1) = numL n k low m ++ [numByte n k low m] := by simp [numL, List.range_succ]
theorem numL_length (n k : Nat) (low : Bool) (m : Nat) : (numL n k low m).length = m := by simp [numL]
theorem div_cast (n e : Nat) : (n : Int) / 2 ^ e = ((n / 2 ^ e : Nat) : Int) := by
 rw [Int.natCast_ediv, Int.natCast_pow]; rfl
theorem ofNat_cast (q : Nat) : ((q : Nat) : Int) % 256 = ((UInt8.ofNat q).toNat : Int) := by
 rw [UInt8.toNat_ofNat']; omega
theorem numByte_low (n k m : Nat) : (n : Int) / 2 ^ (8 * m) % 256 = (numByte n k true m).toNat := by
 rw [div_cast, ofNat_cast]; rfl
theorem numByte_high (n k m : Nat) : (n : Int) / 2 ^ (8 * (k - 1 - m)) % 256 = (numByte n k false m).toNat := by
 rw [div_cast, ofNat_cast]; rfl
set_option maxHeartbeats 1000000 in
theorem bnumber_any (B b : Nat) (l : List UInt8) (n k : Nat) (low : Bool) (w : World) (h : Bld 110 B b l w) (hn : n ≤ 4294967296) (hk : k ≤ 4) (hlen : l.length ≤ 4294967296) (hBw : B ≤ w.heap.size) :
  Calls Tryd.prog 124 #[.pointer (some ⟨b, 0, none⟩), .int .i64 n, .int .i64 k, .bool low] w fun e w' => e = .returned (.pointer (some ⟨b, 0, none⟩)) ∧ Bld 110 B b (l ++ numL n k low k) w' ∧ Below B w w' := by
 have H := Lib.hid h; clear h
 go_enter Tryd.func124, Tryd.ntmps124
 go_wp2
 go_loopw [12] (fun i wr => ∃ m : Nat, m ≤ k ∧ i = .int .i64 m ∧ Bld 110 B b (l ++ numL n k low m) wr ∧ Below B w wr) (fun i _ => k - (intOf i).toNat)
 case atStart => exact ⟨0, Nat.zero_le _, rfl, by simpa [numL] using H.out, Below.refl _ _⟩
 case round =>
  obtain ⟨m, hm, rfl, h2, hB⟩ := hrel; obtain ⟨c0, hc0⟩ : ∃ v, wr.cell? ⟨b, 0, none⟩ = some v := by rcases h2 with h | h <;> exact ⟨_, h.cell0⟩
  have H2 := Lib.hid h2; clear h2
  by_cases hlt : m < k
  ·cases low
   all_goals
    go_wp2
    go_still_tail 7, (by kernel_rfl)
    change wpList _ _ _ _ _ wr.drew
    go_wp2_with (go_at_call 157; refine (writeByte_any 110 liesOwn B b _ _ _ (by first | exact numByte_low n k m | exact numByte_high n k m) _ (H2.out.below (Below.refl _ _).drew) (by rw [List.length_append, numL_length]; omega) (by have := hB.size; exact Nat.le_trans hBw this)).mono ?_; rintro e w1 ⟨rfl, h1, hb1⟩)
    go_roundw
    case rel => exact ⟨m + 1, by omega, by go_num, by rw [numL_succ, ← List.append_assoc]; exact h1, hB.trans ((Below.refl _ _).drew.trans hb1)⟩
    case measure => simp [intOf]; omega
  ·go_wp2
   go_ret
   have e : m = k := by omega
   subst e; exact ⟨rfl, H2.out, hB⟩
def sizedL (s : ByteArray) : List UInt8 := numL s.size 2 false 2 ++ s.data.toList
set_option maxHeartbeats 400000 in
theorem bsized_any (B b : Nat) (l : List UInt8) (s : ByteArray) (w : World) (h : Bld 110 B b l w) (hs : s.size ≤ 4294967296) (hlen : l.length ≤ 4294967296) (hBw : B ≤ w.heap.size) :
  Calls Tryd.prog 117 #[.pointer (some ⟨b, 0, none⟩), .string s] w fun e w' => e = .returned (.pointer (some ⟨b, 0, none⟩)) ∧ Bld 110 B b (l ++ sizedL s) w' ∧ Below B w w' := by
 have H := Lib.hid h; clear h
 go_enter Tryd.func117, Tryd.ntmps117
 go_wp2_with (go_at_call 124; refine (bnumber_any B b l s.size 2 false _ H.out hs (by omega) hlen hBw).mono ?_; rintro e w1 ⟨rfl, h1, hb1⟩; have hz1 := hb1.size; have H1 := Lib.hid h1; clear h1)
 refine (btext_any B b _ s _ H1.out (by rw [List.length_append, numL_length]; omega) (by omega)).mono ?_; rintro e w2 ⟨rfl, h2, hb2⟩
 go_wp2
 go_ret
 exact ⟨rfl, by rw [sizedL, ← List.append_assoc]; exact h2, hb1.trans hb2⟩
end Go.Proofs.YtaepebkeijmjgaaDoor
end
section
namespace Go.Proofs.YtaepebkeijmjgaaDoor
open RowKit
set_option linter.all false
def isW (w : Int) : Bool := decide (1 ≤ w) && decide (w ≤ 32)
def hOk (h : ByteArray) (w : Int) : Bool := decide (h.size = 0) || decide ((h.size : Int) = w)
def nodeOk (k v l r : ByteArray) (w : Int) : Bool := isW w && decide (1 ≤ k.size) && decide (k.size ≤ 256) && decide (v.size ≤ 2000) && hOk l w && hOk r w
def byteS (x : Int) : ByteArray := ⟨#[UInt8.ofNat x.toNat]⟩
theorem byteS_size (x : Int) : (byteS x).size = 1 := rfl
def sizedS (s : ByteArray) : ByteArray := byteS (s.size / 256) ++ byteS (s.size % 256) ++ s
theorem sizedS_size (s : ByteArray) : (sizedS s).size = 2 + s.size := by simp [sizedS, byteS_size]
def flagsOf (l r : ByteArray) : Int := (if l.size = 0 then 0 else 1) + (if r.size = 0 then 0 else 2)
def encNode (k v l r : ByteArray) (w : Int) : ByteArray := if nodeOk k v l r w = true then sizedS k ++ sizedS v ++ byteS (flagsOf l r) ++ l ++ r else ⟨#[]⟩
set_option maxHeartbeats 400000 in
theorem isWidth_any (x : Int) (w : World) : Calls Tryd.prog 93 #[.int .i64 x] w fun e w' => e = .returned (.bool (isW x)) ∧ w = w' := by
 go_enter Tryd.func93, Tryd.ntmps93
 go_wp2
 all_goals
  go_ret
  refine ⟨ret_bool ?_, rfl⟩
  go_light
  unfold isW
  grind
set_option maxHeartbeats 400000 in
theorem l1Width_any (x : Int) (w : World) : Calls Tryd.prog 90 #[.int .i64 x] w fun e w' => e = .returned (.bool (isW x)) ∧ w = w' := by
 go_enter Tryd.func90, Tryd.ntmps90
 go_wp2
 all_goals
  go_ret
  refine ⟨ret_bool ?_, rfl⟩
  go_light
  unfold isW
  grind
theorem size_zero (s : ByteArray) : s = ByteArray.empty ↔ s.size = 0 := by
 constructor
 ·intro h; rw [h]; rfl
 ·intro h; exact ByteArray.ext (Array.size_eq_zero_iff.mp h)
set_option maxHeartbeats 400000 in
theorem l2HashOk_any (h : ByteArray) (x : Int) (w : World) : Calls Tryd.prog 100 #[.string h, .int .i64 x] w fun e w' => e = .returned (.bool (hOk h x)) ∧ w = w' := by
 go_enter Tryd.func100, Tryd.ntmps100
 go_wp2
 all_goals
  go_ret
  refine ⟨ret_bool ?_, rfl⟩
  go_light
  have := size_zero h; unfold hOk
  grind
theorem byte1_str (w : World) (y : Int) (T : TypeId) (g c : Nat) (hg : g = w.heap.size) :
  (convert 51 9 (.slice (some ⟨g, 0, none⟩) 1 c)).run Tryd.prog (w.alloc (.cells #[.int .u8 y] T)) = .ok (.string ⟨#[UInt8.ofNat y.toNat]⟩) (w.alloc (.cells #[.int .u8 y] T)) := by
 subst hg; have h := run_convert_bytes_arg (P := Tryd.prog) (w.alloc (.cells #[.int .u8 y] T)) 51 5 Tryd.underlying51 Tryd.underlying5 w.heap.size 0 1 c [y] rfl (fun i hi => by
  obtain rfl : i = 0 := by omega
  rw [World.cell?_alloc_new w _ _ (0 + 0)]; rfl) 9 Tryd.underlying9
 exact h
theorem byteS_mod (x : Int) (h : 0 ≤ x) : (⟨#[UInt8.ofNat (x % 256).toNat]⟩ : ByteArray) = byteS x := by
 unfold byteS
 congr 3
 apply UInt8.toNat_inj.mp
 rw [UInt8.toNat_ofNat', UInt8.toNat_ofNat']; omega
set_option maxHeartbeats 400000 in
theorem l2Byte_any (x : Int) (hx : 0 ≤ x) (w : World) : Calls Tryd.prog 121 #[.int .i64 x] w fun e w' => e = .returned (.string (byteS x)) ∧ Below w.heap.size w w' := by
 go_enter Tryd.func121, Tryd.ntmps121
 go_wp2_with ((with_reducible refine gate_dst (N := 6) rfl ?_); refine wpList_convert rfl 51 9 _ rfl rfl (byte1_str _ _ _ _ _ rfl) ?_)
 go_ret
 refine ⟨ret_str ?_, by (repeat' (first | exact Below.refl _ _ | (with_reducible assumption) | (with_reducible refine Below.setCell ?_ zq_19 _) | refine below_then ?_ (by assumption) | (with_reducible refine below_new2 ?_ _) | (with_reducible refine Below.drew ?_) | (with_reducible refine bdrewN ?_ _)))⟩; exact byteS_mod x hx
set_option maxHeartbeats 400000 in
theorem l2Sized_any (s : ByteArray) (hs : s.size ≤ 4294967296) (w : World) : Calls Tryd.prog 112 #[.string s] w fun e w' => e = .returned (.string (sizedS s)) ∧ Below w.heap.size w w' := by
 have z1 : (byteS (s.size / 256)).size + (byteS (s.size % 256)).size ≤ 9223372036854775807 := by rw [byteS_size, byteS_size]; omega
 have z2 : (byteS (s.size / 256)).size + (byteS (s.size % 256)).size + s.size ≤ 9223372036854775807 := by rw [byteS_size, byteS_size]; omega
 go_enter Tryd.func112, Tryd.ntmps112
 go_wp2_with fail
 (go_at_call 121; refine (l2Byte_any _ (by omega) _).mono ?_; rintro e wa ⟨rfl, hb_wa⟩; obtain ⟨hc_wa, hf_wa⟩ := bcell hb_wa; have hz_wa := hb_wa.size; (try simp only [World.size_alloc, World.size_setCell, World.size_drew] at hz_wa); (try simp only [World.size_alloc, World.size_setCell, World.size_drew] at hc_wa); (try simp only [World.size_alloc, World.size_setCell, World.size_drew] at hf_wa); skip)
 go_wp2_with fail
 (go_at_call 121; refine (l2Byte_any _ (by omega) _).mono ?_; rintro e wb ⟨rfl, hb_wb⟩; obtain ⟨hc_wb, hf_wb⟩ := bcell hb_wb; have hz_wb := hb_wb.size; (try simp only [World.size_alloc, World.size_setCell, World.size_drew] at hz_wb); (try simp only [World.size_alloc, World.size_setCell, World.size_drew] at hc_wb); (try simp only [World.size_alloc, World.size_setCell, World.size_drew] at hf_wb); skip)
 go_wp2
 go_ret
 exact ⟨rfl, by (repeat' (first | exact Below.refl _ _ | (with_reducible assumption) | (with_reducible refine Below.setCell ?_ zq_19 _) | refine below_then ?_ (by assumption) | (with_reducible refine below_new2 ?_ _) | (with_reducible refine Below.drew ?_) | (with_reducible refine bdrewN ?_ _)))⟩
set_option maxHeartbeats 400000 in
theorem l2NodeOk_any (a b c d : ByteArray) (x : Int) (w : World) :
  Calls Tryd.prog 120 #[.agg #[.string a, .string b, .string c, .string d], .int .i64 x] w fun e w' => e = .returned (.bool (nodeOk a b c d x)) ∧ Below w.heap.size w w' := by
 unfold nodeOk
 by_cases hw : isW x = true
 ·by_cases h2 : hOk c x = true
  all_goals
   go_enter Tryd.func120, Tryd.ntmps120
   go_wp2_with (first | (go_at_call 90; refine (l1Width_any _ _).mono ?_; rintro e wq ⟨rfl, rfl⟩) | (go_at_call 100; refine (l2HashOk_any _ _ _).mono ?_; rintro e wq ⟨rfl, rfl⟩))
   all_goals
    go_ret
    refine ⟨ret_bool ?_, by (repeat' (first | exact Below.refl _ _ | (with_reducible assumption) | (with_reducible refine Below.setCell ?_ zq_19 _) | refine below_then ?_ (by assumption) | (with_reducible refine below_new2 ?_ _) | (with_reducible refine Below.drew ?_) | (with_reducible refine bdrewN ?_ _)))⟩
    go_light
    grind
 ·go_enter Tryd.func120, Tryd.ntmps120
  go_wp2_with (first | (go_at_call 90; refine (l1Width_any _ _).mono ?_; rintro e wq ⟨rfl, rfl⟩) | (go_at_call 100; refine (l2HashOk_any _ _ _).mono ?_; rintro e wq ⟨rfl, rfl⟩))
  all_goals
   go_ret
   refine ⟨ret_bool ?_, by (repeat' (first | exact Below.refl _ _ | (with_reducible assumption) | (with_reducible refine Below.setCell ?_ zq_19 _) | refine below_then ?_ (by assumption) | (with_reducible refine below_new2 ?_ _) | (with_reducible refine Below.drew ?_) | (with_reducible refine bdrewN ?_ _)))⟩
   go_light
   grind
set_option maxHeartbeats 400000 in
theorem fits_any (h : ByteArray) (x : Int) (p : Addr) (w : World) (hp : w.cell? p = some (.int .i64 x)) :
  Calls Tryd.prog 156 #[.string h, .pointer (some p)] w fun e w' => e = .returned (.bool (hOk h x)) ∧ w = w' := by
 have he : h.toList.isEmpty = decide (h.size = 0) := by
  rw [Bool.eq_iff_iff, decide_eq_true_eq, ← size_zero, ← toList_nil_iff_emptyBytes, List.isEmpty_iff]
 unfold hOk; rw [← he]; clear he
 go_enter Tryd.func156, Tryd.ntmps156
 go_wp2
 all_goals
  go_ret
  refine ⟨ret_bool ?_, rfl⟩
  go_light
  clear hp
  grind
set_option maxHeartbeats 400000 in
theorem nodeValid_any (a b c d : ByteArray) (x : Int) (w : World) :
  Calls Tryd.prog 123 #[.agg #[.string a, .string b, .string c, .string d], .int .i64 x] w fun e w' => e = .returned (.bool (nodeOk a b c d x)) ∧ Below w.heap.size w w' := by
 unfold nodeOk
 by_cases hw : isW x = true
 ·by_cases h2 : hOk c x = true
  all_goals
   go_enter Tryd.func123, Tryd.ntmps123
   go_wp2_with (first | (go_at_call 93; refine (isWidth_any _ _).mono ?_; rintro e wq ⟨rfl, rfl⟩) | (go_at_call 156; refine (fits_any _ x _ _ (by simp [go_sem])).mono ?_; rintro e wq ⟨rfl, rfl⟩))
   all_goals
    go_ret
    refine ⟨ret_bool ?_, by (repeat' (first | exact Below.refl _ _ | (with_reducible assumption) | (with_reducible refine Below.setCell ?_ zq_19 _) | refine below_then ?_ (by assumption) | (with_reducible refine below_new2 ?_ _) | (with_reducible refine Below.drew ?_) | (with_reducible refine bdrewN ?_ _)))⟩
    go_light
    grind
 ·go_enter Tryd.func123, Tryd.ntmps123
  go_wp2_with (first | (go_at_call 93; refine (isWidth_any _ _).mono ?_; rintro e wq ⟨rfl, rfl⟩) | (go_at_call 156; refine (fits_any _ x _ _ (by simp [go_sem])).mono ?_; rintro e wq ⟨rfl, rfl⟩))
  all_goals
   go_ret
   refine ⟨ret_bool ?_, by (repeat' (first | exact Below.refl _ _ | (with_reducible assumption) | (with_reducible refine Below.setCell ?_ zq_19 _) | refine below_then ?_ (by assumption) | (with_reducible refine below_new2 ?_ _) | (with_reducible refine Below.drew ?_) | (with_reducible refine bdrewN ?_ _)))⟩
   go_light
   grind
set_option maxHeartbeats 400000 in
theorem specEncodeNode_any (a b c d : ByteArray) (x : Int) (w : World) :
  Calls Tryd.prog 63 #[.agg #[.string a, .string b, .string c, .string d], .int .i64 x] w fun e w' => e = .returned (.string (encNode a b c d x)) ∧ Below w.heap.size w w' := by
 by_cases hok : nodeOk a b c d x = true
 ·have hsz : a.size ≤ 256 ∧ b.size ≤ 2000 ∧ c.size ≤ 32 ∧ d.size ≤ 32 := by
   unfold nodeOk hOk isW at hok; simp only [Bool.and_eq_true, Bool.or_eq_true, decide_eq_true_eq] at hok; omega
  obtain ⟨h1, h2, h3, h4⟩ := hsz; have he : encNode a b c d x = sizedS a ++ sizedS b ++ byteS (flagsOf c d) ++ c ++ d := by unfold encNode; rw [if_pos hok]
  have HE := Lib.hid he; clear he; have h1b : a.size ≤ 4294967296 := by omega
  have h2b : b.size ≤ 4294967296 := by omega
  have z0 := fun x => byteS_size x
  have z1 : ¬ (9223372036854775807 < (sizedS a).size + (sizedS b).size) := by rw [sizedS_size, sizedS_size]; omega
  have z20 : ¬ (9223372036854775807 < (sizedS a).size + (sizedS b).size + (byteS 0).size) := by simp only [ByteArray.size_append, sizedS_size, byteS_size]; omega
  have z30 : ¬ (9223372036854775807 < (sizedS a).size + (sizedS b).size + (byteS 0).size + c.size) := by simp only [ByteArray.size_append, sizedS_size, byteS_size]; omega
  have z40 : ¬ (9223372036854775807 < (sizedS a).size + (sizedS b).size + (byteS 0).size + c.size + d.size) := by simp only [ByteArray.size_append, sizedS_size, byteS_size]; omega
  have z21 : ¬ (9223372036854775807 < (sizedS a).size + (sizedS b).size + (byteS 1).size) := by simp only [ByteArray.size_append, sizedS_size, byteS_size]; omega
  have z31 : ¬ (9223372036854775807 < (sizedS a).size + (sizedS b).size + (byteS 1).size + c.size) := by simp only [ByteArray.size_append, sizedS_size, byteS_size]; omega
  have z41 : ¬ (9223372036854775807 < (sizedS a).size + (sizedS b).size + (byteS 1).size + c.size + d.size) := by simp only [ByteArray.size_append, sizedS_size, byteS_size]; omega
  have z22 : ¬ (9223372036854775807 < (sizedS a).size + (sizedS b).size + (byteS 2).size) := by simp only [ByteArray.size_append, sizedS_size, byteS_size]; omega
  have z32 : ¬ (9223372036854775807 < (sizedS a).size + (sizedS b).size + (byteS 2).size + c.size) := by simp only [ByteArray.size_append, sizedS_size, byteS_size]; omega
  have z42 : ¬ (9223372036854775807 < (sizedS a).size + (sizedS b).size + (byteS 2).size + c.size + d.size) := by simp only [ByteArray.size_append, sizedS_size, byteS_size]; omega
  have z23 : ¬ (9223372036854775807 < (sizedS a).size + (sizedS b).size + (byteS 3).size) := by simp only [ByteArray.size_append, sizedS_size, byteS_size]; omega
  have z33 : ¬ (9223372036854775807 < (sizedS a).size + (sizedS b).size + (byteS 3).size + c.size) := by simp only [ByteArray.size_append, sizedS_size, byteS_size]; omega
  have z43 : ¬ (9223372036854775807 < (sizedS a).size + (sizedS b).size + (byteS 3).size + c.size + d.size) := by simp only [ByteArray.size_append, sizedS_size, byteS_size]; omega
  have z50 : ¬ (9223372036854775807 < (sizedS a).size + (sizedS b).size + (byteS 0).size + d.size) := by simp only [ByteArray.size_append, sizedS_size, byteS_size]; omega
  have z51 : ¬ (9223372036854775807 < (sizedS a).size + (sizedS b).size + (byteS 1).size + d.size) := by simp only [ByteArray.size_append, sizedS_size, byteS_size]; omega
  have z52 : ¬ (9223372036854775807 < (sizedS a).size + (sizedS b).size + (byteS 2).size + d.size) := by simp only [ByteArray.size_append, sizedS_size, byteS_size]; omega
  have z53 : ¬ (9223372036854775807 < (sizedS a).size + (sizedS b).size + (byteS 3).size + d.size) := by simp only [ByteArray.size_append, sizedS_size, byteS_size]; omega
  clear z0
  by_cases hc : c.size = 0
  all_goals
   by_cases hd : d.size = 0
   all_goals
    go_enter Tryd.func63, Tryd.ntmps63
    go_wp2_with (first | (go_at_call 120; refine (l2NodeOk_any _ _ _ _ _ _).mono ?_; rintro e wa ⟨rfl, hb_wa⟩; obtain ⟨hc_wa, hf_wa⟩ := bcell hb_wa; have hz_wa := hb_wa.size; (try simp only [World.size_alloc, World.size_setCell, World.size_drew] at hz_wa); (try simp only [World.size_alloc, World.size_setCell, World.size_drew] at hc_wa); (try simp only [World.size_alloc, World.size_setCell, World.size_drew] at hf_wa); (try have q_w_0_wa : w.heap.size < wa.heap.size := by omega)))
    have hS : wa.cell? ⟨w.heap.size, 0, none⟩ = some (.string a) ∧ wa.cell? ⟨w.heap.size, 1, none⟩ = some (.string b) ∧ wa.cell? ⟨w.heap.size, 2, none⟩ = some (.string c) ∧ wa.cell? ⟨w.heap.size, 3, none⟩ = some (.string d) := by
     refine ⟨?_, ?_, ?_, ?_⟩ <;> (rw [hc_wa _ _ (by omega)]; simp [go_sem])
    obtain ⟨e0, e1, e2, e3⟩ := hS; clear hc_wa hf_wa
    go_region_held3 (fun w' => w'.cell? ⟨w.heap.size, 0, none⟩ = some (.string a) ∧ w'.cell? ⟨w.heap.size, 1, none⟩ = some (.string b) ∧ w'.cell? ⟨w.heap.size, 2, none⟩ = some (.string c) ∧ w'.cell? ⟨w.heap.size, 3, none⟩ = some (.string d))
     (first
      | exact held4B (by assumption) (by assumption)
      | assumption
      | (simp [*]; done))
     (first
      | (go_at_call 121; refine (l2Byte_any _ (by decide) _).mono ?_; rintro e wx ⟨rfl, hbx⟩)
      | (go_at_call_of 112 (Value.string a); refine (l2Sized_any a h1b _).mono ?_; rintro e wx ⟨rfl, hbx⟩)
      | (go_at_call_of 112 (Value.string b); refine (l2Sized_any b h2b _).mono ?_; rintro e wx ⟨rfl, hbx⟩))
    go_wp2
    all_goals
     go_ret
     refine ⟨?_, by (repeat' (first | exact Below.refl _ _ | (with_reducible assumption) | (with_reducible refine Below.setCell ?_ zq_19 _) | refine below_then ?_ (by assumption) | (with_reducible refine below_new2 ?_ _) | (with_reducible refine Below.drew ?_) | (with_reducible refine bdrewN ?_ _)))⟩; rw [HE.out]; simp [flagsOf, hc, hd]
 ·have he : encNode a b c d x = ⟨#[]⟩ := by unfold encNode; rw [if_neg hok]
  have HE := Lib.hid he; clear he
  go_enter Tryd.func63, Tryd.ntmps63
  go_wp2_with (first | (go_at_call 120; refine (l2NodeOk_any _ _ _ _ _ _).mono ?_; rintro e wa ⟨rfl, hb_wa⟩; obtain ⟨hc_wa, hf_wa⟩ := bcell hb_wa; have hz_wa := hb_wa.size; (try simp only [World.size_alloc, World.size_setCell, World.size_drew] at hz_wa); (try simp only [World.size_alloc, World.size_setCell, World.size_drew] at hc_wa); (try simp only [World.size_alloc, World.size_setCell, World.size_drew] at hf_wa); skip))
  all_goals
   go_ret
   exact ⟨by rw [HE.out]; rfl, by (repeat' (first | exact Below.refl _ _ | (with_reducible assumption) | (with_reducible refine Below.setCell ?_ zq_19 _) | refine below_then ?_ (by assumption) | (with_reducible refine below_new2 ?_ _) | (with_reducible refine Below.drew ?_) | (with_reducible refine bdrewN ?_ _)))⟩
theorem isEmpty_size (h : ByteArray) : h.toList.isEmpty = decide (h.size = 0) := by
 rw [Bool.eq_iff_iff, decide_eq_true_eq, ← size_zero, ← toList_nil_iff_emptyBytes, List.isEmpty_iff]
theorem numL_one (n : Nat) (h : n < 256) : numL n 1 false 1 = [UInt8.ofNat n] := by
 simp [numL, numByte]
theorem sizedL_length (s : ByteArray) : (sizedL s).length = 2 + s.size := by
 rw [sizedL, List.length_append, numL_length]; rfl
theorem byteS_list (n : Nat) : byteS n = ⟨[UInt8.ofNat n].toArray⟩ := rfl
theorem app_list (a b : List UInt8) : (⟨(a ++ b).toArray⟩ : ByteArray) = ⟨a.toArray⟩ ++ ⟨b.toArray⟩ := by
 apply ByteArray.ext
 simp [ByteArray.data_append]
theorem self_list (s : ByteArray) : (⟨s.data.toList.toArray⟩ : ByteArray) = s := rfl
theorem sizedL_eq (s : ByteArray) : (⟨(sizedL s).toArray⟩ : ByteArray) = sizedS s := by
 unfold sizedL sizedS; rw [app_list, self_list]; have h : numL s.size 2 false 2 = [UInt8.ofNat (s.size / 256)] ++ [UInt8.ofNat s.size] := by
  simp [numL, numByte, List.range_succ]
 rw [h, app_list]
 congr 2
 ·unfold byteS
  congr 3
  apply UInt8.toNat_inj.mp
  rw [UInt8.toNat_ofNat', UInt8.toNat_ofNat']; omega
theorem encList (a b c d : ByteArray) (n : Nat) (hn : n < 256) (h : flagsOf c d = n) :
  (⟨(sizedL a ++ (sizedL b ++ (numL n 1 false 1 ++ (c.data.toList ++ d.data.toList)))).toArray⟩ : ByteArray) = sizedS a ++ sizedS b ++ byteS (flagsOf c d) ++ c ++ d := by
 simp only [← List.append_assoc]; rw [app_list, app_list, app_list, app_list, sizedL_eq, sizedL_eq, self_list, self_list, numL_one n hn, h, byteS_list]
theorem bitsOr1 : bits .or .u32 0 1 = 1 := by decide
theorem bitsOr2 : bits .or .u32 0 2 = 2 := by decide
theorem bitsOr3 : bits .or .u32 1 2 = 3 := by decide
attribute [go_sem] bitsOr1 bitsOr2 bitsOr3
theorem held4BB {B : Nat} {u w1 : World} {p q r t : Addr} {a b c d : Value} (hb : Below B u w1) (hp : p.block < B ∧ q.block < B ∧ r.block < B ∧ t.block < B) (h : u.cell? p = some a ∧ u.cell? q = some b ∧ u.cell? r = some c ∧ u.cell? t = some d) : w1.cell? p = some a ∧ w1.cell? q = some b ∧ w1.cell? r = some c ∧ w1.cell? t = some d :=
 ⟨(hb.cell hp.1).trans h.1, (hb.cell hp.2.1).trans h.2.1, (hb.cell hp.2.2.1).trans h.2.2.1, (hb.cell hp.2.2.2).trans h.2.2.2⟩
set_option maxHeartbeats 1000000 in
theorem encodeNode_any (a b c d : ByteArray) (x : Int) (w : World) :
  Calls Tryd.prog 67 #[.agg #[.string a, .string b, .string c, .string d], .int .i64 x] w fun e w' => e = .returned (.string (encNode a b c d x)) ∧ Below w.heap.size w w' := by
 by_cases hok : nodeOk a b c d x = true
 ·have hsz : a.size ≤ 256 ∧ b.size ≤ 2000 ∧ c.size ≤ 32 ∧ d.size ≤ 32 := by
   unfold nodeOk hOk isW at hok; simp only [Bool.and_eq_true, Bool.or_eq_true, decide_eq_true_eq] at hok; omega
  obtain ⟨h1, h2, h3, h4⟩ := hsz; have he : encNode a b c d x = sizedS a ++ sizedS b ++ byteS (flagsOf c d) ++ c ++ d := by unfold encNode; rw [if_pos hok]
  have HE := Lib.hid he; clear he; have la := sizedL_length a; have lb := sizedL_length b; have ln : ∀ n, (numL n 1 false 1).length = 1 := fun n => numL_length n 1 false 1
  have LA := Lib.hid la; clear la; have LB := Lib.hid lb; clear lb; have LN := Lib.hid ln; clear ln
  by_cases hc : c.toList.isEmpty = true
  ·by_cases hd : d.toList.isEmpty = true
   ·go_enter Tryd.func67, Tryd.ntmps67
    go_wp2_with (first | (go_at_call 123; refine (nodeValid_any _ _ _ _ _ _).mono ?_; rintro e wa ⟨rfl, hb_wa⟩; obtain ⟨hc_wa, hf_wa⟩ := bcell hb_wa; have hz_wa := hb_wa.size; (try simp only [World.size_alloc, World.size_setCell, World.size_drew] at hz_wa); (try simp only [World.size_alloc, World.size_setCell, World.size_drew] at hc_wa); (try simp only [World.size_alloc, World.size_setCell, World.size_drew] at hf_wa); (try have q_w_0_wa : w.heap.size < wa.heap.size := by omega)))
    have hS : wa.cell? ⟨w.heap.size, 0, none⟩ = some (.string a) ∧ wa.cell? ⟨w.heap.size, 1, none⟩ = some (.string b) ∧ wa.cell? ⟨w.heap.size, 2, none⟩ = some (.string c) ∧ wa.cell? ⟨w.heap.size, 3, none⟩ = some (.string d) := by
     refine ⟨?_, ?_, ?_, ?_⟩ <;> (rw [hc_wa _ _ (by omega)]; simp [go_sem])
    obtain ⟨e0, e1, e2, e3⟩ := hS; clear hc_wa hf_wa
    go_wp2
    go_region_held3 (fun w' => w'.cell? ⟨w.heap.size, 0, none⟩ = some (.string a) ∧ w'.cell? ⟨w.heap.size, 1, none⟩ = some (.string b) ∧ w'.cell? ⟨w.heap.size, 2, none⟩ = some (.string c) ∧ w'.cell? ⟨w.heap.size, 3, none⟩ = some (.string d))
     (first
      | exact held4BB (B := wa.heap.size) (by assumption) (by simp; omega) (by assumption)
      | assumption
      | (go_keep; done))
     (first
      | (go_at_call_of 117 (Value.string a); refine (bsized_any wa.heap.size wa.heap.size [] a _ ?_ ?_ ?_ ?_).mono ?_; (· exact Bld.fresh _ wa.drew); (· omega); (· simp; done); (· simp; done); rintro e wx ⟨rfl, hBx, hbx⟩; rw [List.nil_append] at hBx; have hzx := hbx.size; simp only [World.size_alloc, World.size_drew] at hzx)
      | (go_at_call_of 117 (Value.string b); refine (bsized_any wa.heap.size wa.heap.size (sizedL a) b _ ?_ ?_ ?_ ?_).mono ?_; (· assumption); (· omega); (· have := LA.out; omega); (· omega); rintro e wx ⟨rfl, hBx, hbx⟩; have hzx := hbx.size)
      | (go_at_call 124; refine (bnumber_any wa.heap.size wa.heap.size (sizedL a ++ sizedL b) 0 1 false _ ?_ ?_ ?_ ?_ ?_).mono ?_; (· assumption); (· omega); (· omega); (· have := LA.out; have := LB.out; rw [List.length_append]; omega); (· omega); rintro e wx ⟨rfl, hBx, hbx⟩; have hzx := hbx.size)
      | (go_at_call_of 116 (Value.string c); refine (btext_any wa.heap.size wa.heap.size (sizedL a ++ sizedL b ++ numL 0 1 false 1) c _ ?_ ?_ ?_).mono ?_; (· assumption); (· have := LA.out; have := LB.out; have := LN.out; simp only [List.length_append, this]; omega); (· omega); rintro e wx ⟨rfl, hBx, hbx⟩; have hzx := hbx.size)
      | (go_at_call_of 116 (Value.string d); refine (btext_any wa.heap.size wa.heap.size (sizedL a ++ sizedL b ++ numL 0 1 false 1 ++ c.data.toList) d _ ?_ ?_ ?_).mono ?_; (· assumption); (· have := LA.out; have := LB.out; have := LN.out; have hcl : c.data.toList.length = c.size := rfl; simp only [List.length_append, this, hcl]; omega); (· omega); rintro e wx ⟨rfl, hBx, hbx⟩; have hzx := hbx.size))
    go_wp2_with (go_at_call 58; refine (string_any 110 wa.heap.size wa.heap.size _ _ hBx ?_).mono ?_; (· intro h; have := congrArg List.length h; simp only [List.length_append, LN.out, List.length_nil] at this; omega); rintro e wz ⟨rfl, hbz⟩)
    go_ret
    have hz : Below wa.heap.size wa wz := by
     refine Below.trans ?_ hbz
     repeat' (first | (refine Below.trans ?_ (by assumption)))
     (repeat' (first | exact Below.refl _ _ | (with_reducible assumption) | (with_reducible refine Below.setCell ?_ zq_19 _) | refine below_then ?_ (by assumption) | (with_reducible refine below_new2 ?_ _) | (with_reducible refine Below.drew ?_) | (with_reducible refine bdrewN ?_ _)))
    refine ⟨?_, by (repeat' (first | exact Below.refl _ _ | (with_reducible assumption) | (with_reducible refine Below.setCell ?_ zq_19 _) | refine below_then ?_ (by assumption) | (with_reducible refine below_new2 ?_ _) | (with_reducible refine Below.drew ?_) | (with_reducible refine bdrewN ?_ _)))⟩; rw [HE.out]; refine congrArg (fun z => Ending.returned (.string z)) (encList a b c d 0 (by decide) ?_); rw [isEmpty_size, decide_eq_true_eq] at hc hd; simp [flagsOf, hc, hd]
   ·go_enter Tryd.func67, Tryd.ntmps67
    go_wp2_with (first | (go_at_call 123; refine (nodeValid_any _ _ _ _ _ _).mono ?_; rintro e wa ⟨rfl, hb_wa⟩; obtain ⟨hc_wa, hf_wa⟩ := bcell hb_wa; have hz_wa := hb_wa.size; (try simp only [World.size_alloc, World.size_setCell, World.size_drew] at hz_wa); (try simp only [World.size_alloc, World.size_setCell, World.size_drew] at hc_wa); (try simp only [World.size_alloc, World.size_setCell, World.size_drew] at hf_wa); (try have q_w_0_wa : w.heap.size < wa.heap.size := by omega)))
    have hS : wa.cell? ⟨w.heap.size, 0, none⟩ = some (.string a) ∧ wa.cell? ⟨w.heap.size, 1, none⟩ = some (.string b) ∧ wa.cell? ⟨w.heap.size, 2, none⟩ = some (.string c) ∧ wa.cell? ⟨w.heap.size, 3, none⟩ = some (.string d) := by
     refine ⟨?_, ?_, ?_, ?_⟩ <;> (rw [hc_wa _ _ (by omega)]; simp [go_sem])
    obtain ⟨e0, e1, e2, e3⟩ := hS; clear hc_wa hf_wa
    go_wp2
    go_region_held3 (fun w' => w'.cell? ⟨w.heap.size, 0, none⟩ = some (.string a) ∧ w'.cell? ⟨w.heap.size, 1, none⟩ = some (.string b) ∧ w'.cell? ⟨w.heap.size, 2, none⟩ = some (.string c) ∧ w'.cell? ⟨w.heap.size, 3, none⟩ = some (.string d))
     (first
      | exact held4BB (B := wa.heap.size) (by assumption) (by simp; omega) (by assumption)
      | assumption
      | (go_keep; done))
     (first
      | (go_at_call_of 117 (Value.string a); refine (bsized_any wa.heap.size wa.heap.size [] a _ ?_ ?_ ?_ ?_).mono ?_; (· exact Bld.fresh _ wa.drew); (· omega); (· simp; done); (· simp; done); rintro e wx ⟨rfl, hBx, hbx⟩; rw [List.nil_append] at hBx; have hzx := hbx.size; simp only [World.size_alloc, World.size_drew] at hzx)
      | (go_at_call_of 117 (Value.string b); refine (bsized_any wa.heap.size wa.heap.size (sizedL a) b _ ?_ ?_ ?_ ?_).mono ?_; (· assumption); (· omega); (· have := LA.out; omega); (· omega); rintro e wx ⟨rfl, hBx, hbx⟩; have hzx := hbx.size)
      | (go_at_call 124; refine (bnumber_any wa.heap.size wa.heap.size (sizedL a ++ sizedL b) 2 1 false _ ?_ ?_ ?_ ?_ ?_).mono ?_; (· assumption); (· omega); (· omega); (· have := LA.out; have := LB.out; rw [List.length_append]; omega); (· omega); rintro e wx ⟨rfl, hBx, hbx⟩; have hzx := hbx.size)
      | (go_at_call_of 116 (Value.string c); refine (btext_any wa.heap.size wa.heap.size (sizedL a ++ sizedL b ++ numL 2 1 false 1) c _ ?_ ?_ ?_).mono ?_; (· assumption); (· have := LA.out; have := LB.out; have := LN.out; simp only [List.length_append, this]; omega); (· omega); rintro e wx ⟨rfl, hBx, hbx⟩; have hzx := hbx.size)
      | (go_at_call_of 116 (Value.string d); refine (btext_any wa.heap.size wa.heap.size (sizedL a ++ sizedL b ++ numL 2 1 false 1 ++ c.data.toList) d _ ?_ ?_ ?_).mono ?_; (· assumption); (· have := LA.out; have := LB.out; have := LN.out; have hcl : c.data.toList.length = c.size := rfl; simp only [List.length_append, this, hcl]; omega); (· omega); rintro e wx ⟨rfl, hBx, hbx⟩; have hzx := hbx.size))
    go_wp2_with (go_at_call 58; refine (string_any 110 wa.heap.size wa.heap.size _ _ hBx ?_).mono ?_; (· intro h; have := congrArg List.length h; simp only [List.length_append, LN.out, List.length_nil] at this; omega); rintro e wz ⟨rfl, hbz⟩)
    go_ret
    have hz : Below wa.heap.size wa wz := by
     refine Below.trans ?_ hbz
     repeat' (first | (refine Below.trans ?_ (by assumption)))
     (repeat' (first | exact Below.refl _ _ | (with_reducible assumption) | (with_reducible refine Below.setCell ?_ zq_19 _) | refine below_then ?_ (by assumption) | (with_reducible refine below_new2 ?_ _) | (with_reducible refine Below.drew ?_) | (with_reducible refine bdrewN ?_ _)))
    refine ⟨?_, by (repeat' (first | exact Below.refl _ _ | (with_reducible assumption) | (with_reducible refine Below.setCell ?_ zq_19 _) | refine below_then ?_ (by assumption) | (with_reducible refine below_new2 ?_ _) | (with_reducible refine Below.drew ?_) | (with_reducible refine bdrewN ?_ _)))⟩; rw [HE.out]; refine congrArg (fun z => Ending.returned (.string z)) (encList a b c d 2 (by decide) ?_); rw [isEmpty_size, decide_eq_true_eq] at hc hd; simp [flagsOf, hc, hd]
  ·by_cases hd : d.toList.isEmpty = true
   ·go_enter Tryd.func67, Tryd.ntmps67
    go_wp2_with (first | (go_at_call 123; refine (nodeValid_any _ _ _ _ _ _).mono ?_; rintro e wa ⟨rfl, hb_wa⟩; obtain ⟨hc_wa, hf_wa⟩ := bcell hb_wa; have hz_wa := hb_wa.size; (try simp only [World.size_alloc, World.size_setCell, World.size_drew] at hz_wa); (try simp only [World.size_alloc, World.size_setCell, World.size_drew] at hc_wa); (try simp only [World.size_alloc, World.size_setCell, World.size_drew] at hf_wa); (try have q_w_0_wa : w.heap.size < wa.heap.size := by omega)))
    have hS : wa.cell? ⟨w.heap.size, 0, none⟩ = some (.string a) ∧ wa.cell? ⟨w.heap.size, 1, none⟩ = some (.string b) ∧ wa.cell? ⟨w.heap.size, 2, none⟩ = some (.string c) ∧ wa.cell? ⟨w.heap.size, 3, none⟩ = some (.string d) := by
     refine ⟨?_, ?_, ?_, ?_⟩ <;> (rw [hc_wa _ _ (by omega)]; simp [go_sem])
    obtain ⟨e0, e1, e2, e3⟩ := hS; clear hc_wa hf_wa
    go_wp2
    go_region_held3 (fun w' => w'.cell? ⟨w.heap.size, 0, none⟩ = some (.string a) ∧ w'.cell? ⟨w.heap.size, 1, none⟩ = some (.string b) ∧ w'.cell? ⟨w.heap.size, 2, none⟩ = some (.string c) ∧ w'.cell? ⟨w.heap.size, 3, none⟩ = some (.string d))
     (first
      | exact held4BB (B := wa.heap.size) (by assumption) (by simp; omega) (by assumption)
      | assumption
      | (go_keep; done))
     (first
      | (go_at_call_of 117 (Value.string a); refine (bsized_any wa.heap.size wa.heap.size [] a _ ?_ ?_ ?_ ?_).mono ?_; (· exact Bld.fresh _ wa.drew); (· omega); (· simp; done); (· simp; done); rintro e wx ⟨rfl, hBx, hbx⟩; rw [List.nil_append] at hBx; have hzx := hbx.size; simp only [World.size_alloc, World.size_drew] at hzx)
      | (go_at_call_of 117 (Value.string b); refine (bsized_any wa.heap.size wa.heap.size (sizedL a) b _ ?_ ?_ ?_ ?_).mono ?_; (· assumption); (· omega); (· have := LA.out; omega); (· omega); rintro e wx ⟨rfl, hBx, hbx⟩; have hzx := hbx.size)
      | (go_at_call 124; refine (bnumber_any wa.heap.size wa.heap.size (sizedL a ++ sizedL b) 1 1 false _ ?_ ?_ ?_ ?_ ?_).mono ?_; (· assumption); (· omega); (· omega); (· have := LA.out; have := LB.out; rw [List.length_append]; omega); (· omega); rintro e wx ⟨rfl, hBx, hbx⟩; have hzx := hbx.size)
      | (go_at_call_of 116 (Value.string c); refine (btext_any wa.heap.size wa.heap.size (sizedL a ++ sizedL b ++ numL 1 1 false 1) c _ ?_ ?_ ?_).mono ?_; (· assumption); (· have := LA.out; have := LB.out; have := LN.out; simp only [List.length_append, this]; omega); (· omega); rintro e wx ⟨rfl, hBx, hbx⟩; have hzx := hbx.size)
      | (go_at_call_of 116 (Value.string d); refine (btext_any wa.heap.size wa.heap.size (sizedL a ++ sizedL b ++ numL 1 1 false 1 ++ c.data.toList) d _ ?_ ?_ ?_).mono ?_; (· assumption); (· have := LA.out; have := LB.out; have := LN.out; have hcl : c.data.toList.length = c.size := rfl; simp only [List.length_append, this, hcl]; omega); (· omega); rintro e wx ⟨rfl, hBx, hbx⟩; have hzx := hbx.size))
    go_wp2_with (go_at_call 58; refine (string_any 110 wa.heap.size wa.heap.size _ _ hBx ?_).mono ?_; (· intro h; have := congrArg List.length h; simp only [List.length_append, LN.out, List.length_nil] at this; omega); rintro e wz ⟨rfl, hbz⟩)
    go_ret
    have hz : Below wa.heap.size wa wz := by
     refine Below.trans ?_ hbz
     repeat' (first | (refine Below.trans ?_ (by assumption)))
     (repeat' (first | exact Below.refl _ _ | (with_reducible assumption) | (with_reducible refine Below.setCell ?_ zq_19 _) | refine below_then ?_ (by assumption) | (with_reducible refine below_new2 ?_ _) | (with_reducible refine Below.drew ?_) | (with_reducible refine bdrewN ?_ _)))
    refine ⟨?_, by (repeat' (first | exact Below.refl _ _ | (with_reducible assumption) | (with_reducible refine Below.setCell ?_ zq_19 _) | refine below_then ?_ (by assumption) | (with_reducible refine below_new2 ?_ _) | (with_reducible refine Below.drew ?_) | (with_reducible refine bdrewN ?_ _)))⟩; rw [HE.out]; refine congrArg (fun z => Ending.returned (.string z)) (encList a b c d 1 (by decide) ?_); rw [isEmpty_size, decide_eq_true_eq] at hc hd; simp [flagsOf, hc, hd]
   ·go_enter Tryd.func67, Tryd.ntmps67
    go_wp2_with (first | (go_at_call 123; refine (nodeValid_any _ _ _ _ _ _).mono ?_; rintro e wa ⟨rfl, hb_wa⟩; obtain ⟨hc_wa, hf_wa⟩ := bcell hb_wa; have hz_wa := hb_wa.size; (try simp only [World.size_alloc, World.size_setCell, World.size_drew] at hz_wa); (try simp only [World.size_alloc, World.size_setCell, World.size_drew] at hc_wa); (try simp only [World.size_alloc, World.size_setCell, World.size_drew] at hf_wa); (try have q_w_0_wa : w.heap.size < wa.heap.size := by omega)))
    have hS : wa.cell? ⟨w.heap.size, 0, none⟩ = some (.string a) ∧ wa.cell? ⟨w.heap.size, 1, none⟩ = some (.string b) ∧ wa.cell? ⟨w.heap.size, 2, none⟩ = some (.string c) ∧ wa.cell? ⟨w.heap.size, 3, none⟩ = some (.string d) := by
     refine ⟨?_, ?_, ?_, ?_⟩ <;> (rw [hc_wa _ _ (by omega)]; simp [go_sem])
    obtain ⟨e0, e1, e2, e3⟩ := hS; clear hc_wa hf_wa
    go_wp2
    go_region_held3 (fun w' => w'.cell? ⟨w.heap.size, 0, none⟩ = some (.string a) ∧ w'.cell? ⟨w.heap.size, 1, none⟩ = some (.string b) ∧ w'.cell? ⟨w.heap.size, 2, none⟩ = some (.string c) ∧ w'.cell? ⟨w.heap.size, 3, none⟩ = some (.string d))
     (first
      | exact held4BB (B := wa.heap.size) (by assumption) (by simp; omega) (by assumption)
      | assumption
      | (go_keep; done))
     (first
      | (go_at_call_of 117 (Value.string a); refine (bsized_any wa.heap.size wa.heap.size [] a _ ?_ ?_ ?_ ?_).mono ?_; (· exact Bld.fresh _ wa.drew); (· omega); (· simp; done); (· simp; done); rintro e wx ⟨rfl, hBx, hbx⟩; rw [List.nil_append] at hBx; have hzx := hbx.size; simp only [World.size_alloc, World.size_drew] at hzx)
      | (go_at_call_of 117 (Value.string b); refine (bsized_any wa.heap.size wa.heap.size (sizedL a) b _ ?_ ?_ ?_ ?_).mono ?_; (· assumption); (· omega); (· have := LA.out; omega); (· omega); rintro e wx ⟨rfl, hBx, hbx⟩; have hzx := hbx.size)
      | (go_at_call 124; refine (bnumber_any wa.heap.size wa.heap.size (sizedL a ++ sizedL b) 3 1 false _ ?_ ?_ ?_ ?_ ?_).mono ?_; (· assumption); (· omega); (· omega); (· have := LA.out; have := LB.out; rw [List.length_append]; omega); (· omega); rintro e wx ⟨rfl, hBx, hbx⟩; have hzx := hbx.size)
      | (go_at_call_of 116 (Value.string c); refine (btext_any wa.heap.size wa.heap.size (sizedL a ++ sizedL b ++ numL 3 1 false 1) c _ ?_ ?_ ?_).mono ?_; (· assumption); (· have := LA.out; have := LB.out; have := LN.out; simp only [List.length_append, this]; omega); (· omega); rintro e wx ⟨rfl, hBx, hbx⟩; have hzx := hbx.size)
      | (go_at_call_of 116 (Value.string d); refine (btext_any wa.heap.size wa.heap.size (sizedL a ++ sizedL b ++ numL 3 1 false 1 ++ c.data.toList) d _ ?_ ?_ ?_).mono ?_; (· assumption); (· have := LA.out; have := LB.out; have := LN.out; have hcl : c.data.toList.length = c.size := rfl; simp only [List.length_append, this, hcl]; omega); (· omega); rintro e wx ⟨rfl, hBx, hbx⟩; have hzx := hbx.size))
    go_wp2_with (go_at_call 58; refine (string_any 110 wa.heap.size wa.heap.size _ _ hBx ?_).mono ?_; (· intro h; have := congrArg List.length h; simp only [List.length_append, LN.out, List.length_nil] at this; omega); rintro e wz ⟨rfl, hbz⟩)
    go_ret
    have hz : Below wa.heap.size wa wz := by
     refine Below.trans ?_ hbz
     repeat' (first | (refine Below.trans ?_ (by assumption)))
     (repeat' (first | exact Below.refl _ _ | (with_reducible assumption) | (with_reducible refine Below.setCell ?_ zq_19 _) | refine below_then ?_ (by assumption) | (with_reducible refine below_new2 ?_ _) | (with_reducible refine Below.drew ?_) | (with_reducible refine bdrewN ?_ _)))
    refine ⟨?_, by (repeat' (first | exact Below.refl _ _ | (with_reducible assumption) | (with_reducible refine Below.setCell ?_ zq_19 _) | refine below_then ?_ (by assumption) | (with_reducible refine below_new2 ?_ _) | (with_reducible refine Below.drew ?_) | (with_reducible refine bdrewN ?_ _)))⟩; rw [HE.out]; refine congrArg (fun z => Ending.returned (.string z)) (encList a b c d 3 (by decide) ?_); rw [isEmpty_size, decide_eq_true_eq] at hc hd; simp [flagsOf, hc, hd]
 ·have he : encNode a b c d x = ⟨#[]⟩ := by unfold encNode; rw [if_neg hok]
  have HE := Lib.hid he; clear he
  go_enter Tryd.func67, Tryd.ntmps67
  go_wp2_with (first | (go_at_call 123; refine (nodeValid_any _ _ _ _ _ _).mono ?_; rintro e wa ⟨rfl, hb_wa⟩; obtain ⟨hc_wa, hf_wa⟩ := bcell hb_wa; have hz_wa := hb_wa.size; (try simp only [World.size_alloc, World.size_setCell, World.size_drew] at hz_wa); (try simp only [World.size_alloc, World.size_setCell, World.size_drew] at hc_wa); (try simp only [World.size_alloc, World.size_setCell, World.size_drew] at hf_wa); skip))
  all_goals
   go_ret
   exact ⟨by rw [HE.out]; rfl, by (repeat' (first | exact Below.refl _ _ | (with_reducible assumption) | (with_reducible refine Below.setCell ?_ zq_19 _) | refine below_then ?_ (by assumption) | (with_reducible refine below_new2 ?_ _) | (with_reducible refine Below.drew ?_) | (with_reducible refine bdrewN ?_ _)))⟩
end Go.Proofs.YtaepebkeijmjgaaDoor
end
section
namespace Go.Proofs.YtaepebkeijmjgaaDoor.Z
open RowKit YtaepebkeijmjgaaDoor
set_option linter.all false
def spec_EncodeNode.f (a0_0 a0_1 a0_2 a0_3 : ByteArray) (a1 : Int) : Option ByteArray := some (encNode a0_0 a0_1 a0_2 a0_3 a1)
theorem spec_EncodeNode.calls (a0_0 a0_1 a0_2 a0_3 : ByteArray) (a1 : Int) (r : ByteArray) (w : World) (h : spec_EncodeNode.f a0_0 a0_1 a0_2 a0_3 a1 = some r) :
  Calls Tryd.prog 63 #[.agg #[.string a0_0, .string a0_1, .string a0_2, .string a0_3], .int .i64 a1] w fun e w' => e = .returned (.string r) ∧ Below w.heap.size w w' := by
 obtain rfl := Option.some.inj h; exact specEncodeNode_any _ _ _ _ _ _
end Go.Proofs.YtaepebkeijmjgaaDoor.Z
end
section
namespace Go.Proofs.YtaepebkeijmjgaaDoor.Z
open RowKit YtaepebkeijmjgaaDoor YtaepebkeijmjgaaDoorW.PrintWords YtaepebkeijmjgaaDoorW.PrintLast
set_option linter.all false
def nText (s : ByteArray) : ByteArray := (⟨#[78]⟩ : ByteArray) ++ s
theorem catL_n (s : ByteArray) : catL [⟨#[78]⟩, s] = (nText s).data.toList := by simp [catL, nText, ByteArray.data_append]
theorem hashN_any (s : ByteArray) (W w : World) (hW : W = w.alloc (.cells #[.string ⟨#[78]⟩, .string s] 9)) (ht : Tab w) (hs : s.size ≤ 4294967200) :
  Calls Tryd.prog 128 #[.slice (some ⟨w.heap.size, 0, none⟩) 2 2] W fun e w' => e = .returned (hashV (shaL (nText s).data.toList)) ∧ Below w.heap.size w w' := by
 subst hW; have h := hashOf_any w.heap.size [⟨#[78]⟩, s] (w.alloc (.cells #[.string ⟨#[78]⟩, .string s] 9)) (fun j p hj => by
  rw [cell_of_row _ _ _ _ _ _ (heap_alloc_new _ _)]
  match j, hj with
  | 0, hj => simp only [List.getElem?_cons_zero, Option.some.injEq] at hj; subst hj; rfl
  | 1, hj => simp only [List.getElem?_cons_succ, List.getElem?_cons_zero, Option.some.injEq] at hj; subst hj; rfl) (ht.below zq_28) (by rw [catL_n, nText, ByteArray.data_append]; simp only [Array.toList_append, List.length_append]; show 1 + s.size ≤ _; omega) (by simp) (by simp)
 rw [catL_n] at h; refine h.mono ?_; rintro e w' ⟨h1, hb⟩; exact ⟨h1, ((Below.refl _ _).alloc (Nat.le_refl _) _).trans (hb.mono (by simp))⟩
def nodeHashV (a b c d : ByteArray) (x : Int) : ByteArray := if (encNode a b c d x).size = 0 then ⟨#[]⟩ else digV (nText (encNode a b c d x)) x
theorem encNode_size_le (a b c d : ByteArray) (x : Int) : (encNode a b c d x).size ≤ 4000 := by
 unfold encNode
 split
 ·rename_i h
  have hs : ∀ s : ByteArray, (sizedS s).size = 2 + s.size := by intro s; unfold sizedS; rw [ByteArray.size_append, ByteArray.size_append]; rfl
  have hb : ∀ y : Int, (byteS y).size = 1 := fun _ => rfl
  rw [ByteArray.size_append, ByteArray.size_append, ByteArray.size_append, ByteArray.size_append, hs, hs, hb]; unfold nodeOk isW hOk at h; simp only [Bool.and_eq_true, Bool.or_eq_true, decide_eq_true_eq] at h; omega
 ·decide
end Go.Proofs.YtaepebkeijmjgaaDoor.Z
end
section
namespace Go.Proofs.YtaepebkeijmjgaaDoor.Z
open RowKit YtaepebkeijmjgaaDoor YtaepebkeijmjgaaDoorW.PrintWords YtaepebkeijmjgaaDoorW.PrintLast
set_option linter.all false
set_option maxRecDepth 100000
structure Nd where
 b : Nat
 key : ByteArray
 val : ByteArray
 enc : ByteArray
 root : ByteArray
def keyL (k : ByteArray) : List Int := shaL k.data.toList
theorem keyL_length (k : ByteArray) : (keyL k).length = 32 := shaL_length _
def ptrB (b : Nat) : Value := .pointer (some ⟨b, 0, none⟩)
def ptrT : Sh Nd → Value
 | .nil => .pointer none
 | .node x _ _ => ptrB x.b
def rootT : Sh Nd → ByteArray
 | .nil => ⟨#[]⟩
 | .node x _ _ => x.root
def rowL (key val : ByteArray) (rk : List Int) (l r : Value) (enc root : ByteArray) : List Value := .string key :: .string val :: (rk.map (Value.int .u8) ++ [l, r, .string enc, .string root])
def rowT (x : Nd) (l r : Value) : Array Value := (rowL x.key x.val (keyL x.key) l r x.enc x.root).toArray
theorem rowT_key (x : Nd) (l r : Value) : (rowT x l r)[0]? = some (.string x.key) := by simp [rowT, rowL]
theorem rowT_val (x : Nd) (l r : Value) : (rowT x l r)[1]? = some (.string x.val) := by simp [rowT, rowL]
theorem rowL_tail (key val : ByteArray) (rk : List Int) (hr : rk.length = 32) (l r : Value) (enc root : ByteArray) (j : Nat) : (rowL key val rk l r enc root)[34 + j]? = [l, r, .string enc, .string root][j]? := by
 unfold rowL; rw [show 34 + j = (32 + j) + 1 + 1 by omega, List.getElem?_cons_succ, List.getElem?_cons_succ, List.getElem?_append_right (by simp [hr]), List.length_map, hr, show 32 + j - 32 = j by omega]
theorem rowT_left (x : Nd) (l r : Value) : (rowT x l r)[34]? = some l := by
 rw [rowT, List.getElem?_toArray]; exact rowL_tail _ _ _ (keyL_length _) _ _ _ _ 0
theorem rowT_right (x : Nd) (l r : Value) : (rowT x l r)[35]? = some r := by
 rw [rowT, List.getElem?_toArray]; exact rowL_tail _ _ _ (keyL_length _) _ _ _ _ 1
theorem rowT_enc (x : Nd) (l r : Value) : (rowT x l r)[36]? = some (.string x.enc) := by
 rw [rowT, List.getElem?_toArray]; exact rowL_tail _ _ _ (keyL_length _) _ _ _ _ 2
theorem rowT_root (x : Nd) (l r : Value) : (rowT x l r)[37]? = some (.string x.root) := by
 rw [rowT, List.getElem?_toArray]; exact rowL_tail _ _ _ (keyL_length _) _ _ _ _ 3
theorem rowL_put (key val : ByteArray) (rk : List Int) (hr : rk.length = 32) (l r : Value) (enc root : ByteArray) (j : Nat) (u : Value) : (rowL key val rk l r enc root).set (34 + j) u = .string key :: .string val :: (rk.map (Value.int .u8) ++ [l, r, .string enc, .string root].set j u) := by
 unfold rowL; rw [show 34 + j = (32 + j) + 1 + 1 by omega, List.set_cons_succ, List.set_cons_succ, List.set_append_right _ _ (by simp [hr]), List.length_map, hr, show 32 + j - 32 = j by omega]
theorem rowT_setLeft (x : Nd) (l r u : Value) : (rowT x l r).setIfInBounds 34 u = rowT x u r := by
 rw [rowT, List.setIfInBounds_toArray]; exact congrArg _ (rowL_put _ _ _ (keyL_length _) _ _ _ _ 0 u)
theorem rowT_setRight (x : Nd) (l r u : Value) : (rowT x l r).setIfInBounds 35 u = rowT x l u := by
 rw [rowT, List.setIfInBounds_toArray]; exact congrArg _ (rowL_put _ _ _ (keyL_length _) _ _ _ _ 1 u)
theorem rowT_setEnc (x : Nd) (l r : Value) (s : ByteArray) : (rowT x l r).setIfInBounds 36 (.string s) = rowT { x with enc := s } l r := by
 rw [rowT, List.setIfInBounds_toArray]; exact congrArg _ (rowL_put _ _ _ (keyL_length _) _ _ _ _ 2 _)
theorem rowT_setRoot (x : Nd) (l r : Value) (s : ByteArray) : (rowT x l r).setIfInBounds 37 (.string s) = rowT { x with root := s } l r := by
 rw [rowT, List.setIfInBounds_toArray]; exact congrArg _ (rowL_put _ _ _ (keyL_length _) _ _ _ _ 3 _)
theorem rank_load {w : World} {x : Nd} {l r : Value} (h : w.heap[x.b]? = some (.cells (rowT x l r) 136 (0, 0))) : (Instr.loadAt 133 (.pointer (some ⟨x.b, 2, none⟩))).run Tryd.prog w = .ok (hashV (keyL x.key)) w := by
 refine run_loadAt_mid (P := Tryd.prog) w x.b 2 133 ((keyL x.key).map (Value.int .u8)) _ ?_ Tryd.underlying133 rfl ?_
 ·intro j v hv; have hj : j < 32 := by
   rcases Nat.lt_or_ge j 32 with g | g
   ·exact g
   ·rw [List.getElem?_eq_none (by simp [keyL_length]; omega)] at hv; cases hv
  rw [cell_of_row _ _ _ _ _ _ h, rowT, List.getElem?_toArray, rowL, show 2 + j = j + 1 + 1 by omega, List.getElem?_cons_succ, List.getElem?_cons_succ, List.getElem?_append_left (by simp [keyL_length]; omega)]; exact hv
 ·rw [List.length_map, keyL_length]; kernel_rfl
def InM (w : World) : Sh Nd → Prop
 | .nil => True
 | .node x l r => w.heap[x.b]? = some (.cells (rowT x (ptrT l) (ptrT r)) 136 (0, 0)) ∧ InM w l ∧ InM w r
def blks : Sh Nd → List Nat
 | .nil => []
 | .node x l r => x.b :: (blks l ++ blks r)
theorem InM.lt {w : World} : ∀ {t : Sh Nd}, InM w t → ∀ b ∈ blks t, b < w.heap.size
 | .nil, _, b, hb => absurd hb (by simp [blks])
 | .node x l r, h, b, hb => by
  rcases List.mem_cons.1 hb with e | hb
  ·rw [e]; exact lt_of_block h.1
  ·rcases List.mem_append.1 hb with hb | hb
   ·exact h.2.1.lt b hb
   ·exact h.2.2.lt b hb
theorem InM.keep {w w1 : World} : ∀ {t : Sh Nd}, InM w t → (∀ b ∈ blks t, w1.heap[b]? = w.heap[b]?) → InM w1 t
 | .nil, _, _ => trivial
 | .node x l r, h, hb => ⟨(hb x.b (by simp [blks])).trans h.1, h.2.1.keep fun b m => hb b (by simp [blks, m]), h.2.2.keep fun b m => hb b (by simp [blks, m])⟩
theorem InM.below {w w1 : World} {t : Sh Nd} (h : InM w t) (hb : Below w.heap.size w w1) : InM w1 t := h.keep fun b m => hb.block b (h.lt b m)
theorem InM.grown {w w1 : World} {row : Option Nat} {t : Sh Nd} (h : InM w t) (hg : w.grownBy w1 row) (hr : ∀ k, row = some k → k ∉ blks t) : InM w1 t :=
 h.keep fun b m => hg.block b (h.lt b m) fun e => hr b e.symm m
theorem InM.set {w : World} {t : Sh Nd} (h : InM w t) (p : Addr) (hp : p.block ∉ blks t) (u : Value) : InM (w.setCell p u) t :=
 h.keep fun b m => heap_setCell_other _ _ _ _ (fun e => hp (e ▸ m))
def sub : Nat → Sh Nd → Sh Nd
 | 0, t => t
 | _ + 1, .nil => .nil
 | m + 1, .node _ _ r => sub m r
theorem sub_end : ∀ t : Sh Nd, sub (edge t).length t = .nil
 | .nil => rfl
 | .node x l r => by rw [edge, List.length_cons, sub]; exact sub_end r
theorem sub_ptr : ∀ (t : Sh Nd) (m : Nat) (x : Nd), (edge t)[m]? = some x → ptrT (sub m t) = ptrB x.b
 | .nil, m, x, h => by simp [edge] at h
 | .node y l r, 0, x, h => by simp [edge] at h; subst h; rfl
 | .node y l r, m + 1, x, h => by rw [edge, List.getElem?_cons_succ] at h; rw [sub]; exact sub_ptr r m x h
theorem edge_blks : ∀ (t : Sh Nd) (x : Nd), x ∈ edge t → x.b ∈ blks t
 | .nil, x, h => by simp [edge] at h
 | .node y l r, x, h => by
  rw [edge] at h
  rcases List.mem_cons.1 h with e | h
  ·subst e; simp [blks]
  ·have := edge_blks r x h; simp [blks, this]
theorem InM.edge {w : World} : ∀ {t : Sh Nd}, InM w t → ∀ (m : Nat) (x : Nd), (edge t)[m]? = some x → ∃ l r, w.heap[x.b]? = some (.cells (rowT x l r) 136 (0, 0))
 | .nil, _, m, x, h => by simp [Z.edge] at h
 | .node y l r, hi, 0, x, h => by simp [Z.edge] at h; subst h; exact ⟨_, _, hi.1⟩
 | .node y l r, hi, m + 1, x, h => by rw [Z.edge, List.getElem?_cons_succ] at h; exact hi.2.2.edge m x h
theorem graft_blks (p : Nd) : ∀ (t : Sh Nd) (m : Nat), m ≤ (edge t).length → ∀ b, b ∈ blks (graft m t p) ↔ b = p.b ∨ b ∈ blks t
 | t, 0, _, b => by simp [graft, blks]
 | .nil, m + 1, h, b => absurd h (by simp [edge])
 | .node x l r, m + 1, h, b => by
  have := graft_blks p r m (by simpa [edge] using h) b; simp only [graft, blks, List.mem_cons, List.mem_append, this]
  constructor
  ·rintro (h | h | h | h) <;> simp [h]
  ·rintro (h | h | h | h) <;> simp [h]
theorem graft_nodup (p : Nd) : ∀ (t : Sh Nd) (m : Nat), m ≤ (edge t).length → (blks t).Nodup → p.b ∉ blks t → (blks (graft m t p)).Nodup
 | t, 0, _, h, hp => by simp [graft, blks]; exact ⟨hp, h⟩
 | .nil, m + 1, h, _, _ => absurd h (by simp [edge])
 | .node x l r, m + 1, h, hn, hp => by
  simp only [graft, blks, List.nodup_cons, List.nodup_append, List.mem_append, List.mem_cons, not_or] at hn hp ⊢; have h2 : m ≤ (edge r).length := by simpa [edge] using h
  have hb := graft_blks p r m h2; refine ⟨⟨hn.1.1, fun h => ?_⟩, hn.2.1, graft_nodup p r m h2 hn.2.2.1 hp.2.2, fun a ha b hb2 => ?_⟩
  ·rcases (hb _).1 h with e | h
   ·exact hp.1 e.symm
   ·exact hn.1.2 h
  ·rcases (hb _).1 hb2 with e | h
   ·intro e2; exact hp.2.1 (e ▸ e2 ▸ ha)
   ·exact hn.2.2.2 a ha b h
theorem InM.graft0 {w : World} {t : Sh Nd} {p : Nd} (h : InM w t) (hp : w.heap[p.b]? = some (.cells (rowT p (ptrT t) (.pointer none)) 136 (0, 0))) : InM w (graft 0 t p) := ⟨hp, h, trivial⟩
theorem InM.graft {w : World} {p : Nd} : ∀ {t : Sh Nd} (m : Nat) (e : Nd), InM w t → (blks t).Nodup → p.b ∉ blks t → (Z.edge t)[m]? = some e →
  w.heap[p.b]? = some (.cells (rowT p (ptrT (sub (m + 1) t)) (.pointer none)) 136 (0, 0)) → InM (w.setCell ⟨e.b, 35, none⟩ (ptrB p.b)) (Z.graft (m + 1) t p)
 | .nil, m, e, _, _, _, h, _ => by simp [Z.edge] at h
 | .node x l r, 0, e, hi, hn, hp, h, hr => by
  simp only [Z.edge, List.getElem?_cons_zero, Option.some.injEq] at h; subst h; simp only [blks, List.nodup_cons, List.nodup_append, List.mem_append, List.mem_cons, not_or] at hn hp; refine ⟨?_, hi.2.1.set _ hn.1.1 _, ?_, hi.2.2.set _ hn.1.2 _, trivial⟩
  ·exact blk_put hi.1 35 _ (rowT_setRight _ _ _ _)
  ·exact (heap_setCell_other _ _ _ _ hp.1).trans hr
 | .node x l r, m + 1, e, hi, hn, hp, h, hr => by
  simp only [Z.edge, List.getElem?_cons_succ] at h; simp only [blks, List.nodup_cons, List.nodup_append, List.mem_append, List.mem_cons, not_or] at hn hp; have hm := List.mem_of_getElem? h; have he := edge_blks r e hm; have hptr : ptrT (Z.graft (m + 1) r p) = ptrT r := by
   cases r with
   | nil => simp [Z.edge] at h
   | node y l2 r2 => rfl
  refine ⟨?_, hi.2.1.set _ (fun h2 => hn.2.2.2 _ h2 _ he rfl) _, ?_⟩
  ·rw [hptr]; exact (heap_setCell_other _ _ _ _ (fun e2 => hn.1.2 (by rw [e2]; exact he))).trans hi.1
  ·exact InM.graft m e hi.2.2 hn.2.2.1 hp.2.2 h hr
def sealN (W : Int) (x : Nd) (l r : ByteArray) : Nd := { x with enc := encNode x.key x.val l r W, root := (shaV (nText (encNode x.key x.val l r W))).extract 0 W.toNat }
def sealT (W : Int) : Sh Nd → Sh Nd
 | .nil => .nil
 | .node x l r => .node (sealN W x (rootT (sealT W l)) (rootT (sealT W r))) (sealT W l) (sealT W r)
theorem sealT_blks (W : Int) : ∀ t, blks (sealT W t) = blks t
 | .nil => rfl
 | .node x l r => by rw [sealT, blks, blks, sealT_blks W l, sealT_blks W r]; rfl
theorem sealT_ptr (W : Int) : ∀ t, ptrT (sealT W t) = ptrT t
 | .nil => rfl
 | .node x l r => rfl
theorem gTwo {a b c : World} {r r' : Option Nat} (h1 : a.grownBy b r) (h2 : b.grownBy c r') (h : r' = r ∨ ∃ k, r' = some k ∧ a.heap.size ≤ k) : a.grownBy c r :=
 ⟨h2.os.trans h1.os, h2.tape.trans h1.tape, h2.output.trans h1.output, Nat.le_trans h1.size h2.size, fun k hk hne => (h2.block k (Nat.lt_of_lt_of_le hk h1.size) (fun e => by
  rcases h with h | ⟨q, h, hq⟩
  ·exact hne (e.trans h)
  ·rw [h] at e; cases e; omega)).trans (h1.block k hk hne)⟩
theorem gBelow {a b : World} (h : Below a.heap.size a b) (r : Option Nat) : a.grownBy b r := ⟨h.os, h.tape, h.output, h.size, fun k hk _ => h.block k hk⟩
theorem gSet (w : World) (B j : Nat) (u : Value) : w.grownBy (w.setCell ⟨B, j, none⟩ u) (some B) := ⟨rfl, rfl, rfl, by simp, fun k _ hne => Below.heap_setCell w _ u k (fun e => hne (by rw [e]))⟩
structure Fr (bs : List Nat) (w w1 : World) : Prop where
 os : w1.os = w.os
 tape : w1.tape = w.tape
 output : w1.output = w.output
 size : w.heap.size ≤ w1.heap.size
 block : ∀ k, k < w.heap.size → k ∉ bs → w1.heap[k]? = w.heap[k]?
theorem Fr.refl (bs : List Nat) (w : World) : Fr bs w w := ⟨rfl, rfl, rfl, Nat.le_refl _, fun _ _ _ => rfl⟩
theorem Fr.trans {bs cs ds : List Nat} {a b c : World} (h1 : Fr bs a b) (h2 : Fr cs b c) (hb : ∀ k, k ∈ bs → k ∈ ds) (hc : ∀ k, k < a.heap.size → k ∈ cs → k ∈ ds) : Fr ds a c :=
 ⟨h2.os.trans h1.os, h2.tape.trans h1.tape, h2.output.trans h1.output, Nat.le_trans h1.size h2.size, fun k hk hn => (h2.block k (Nat.lt_of_lt_of_le hk h1.size) fun h => hn (hc k hk h)).trans (h1.block k hk fun h => hn (hb k h))⟩
theorem Fr.ofGrown {bs : List Nat} {w w1 : World} {row : Option Nat} (h : w.grownBy w1 row) (hr : ∀ k, row = some k → k < w.heap.size → k ∈ bs) : Fr bs w w1 :=
 ⟨h.os, h.tape, h.output, h.size, fun k hk hn => h.block k hk fun e => hn (hr k e.symm hk)⟩
theorem Fr.below {bs : List Nat} {B : Nat} {w w1 : World} (h : Fr bs w w1) (hB : B ≤ w.heap.size) (hb : ∀ k ∈ bs, B ≤ k) : Below B w w1 :=
 ⟨h.os, h.tape, h.output, h.size, fun k hk => h.block k (Nat.lt_of_lt_of_le hk hB) fun m => by have := hb k m; omega⟩
theorem InM.fr {bs : List Nat} {w w1 : World} {t : Sh Nd} (h : InM w t) (hf : Fr bs w w1) (hd : ∀ b ∈ blks t, b ∉ bs) : InM w1 t := h.keep fun b m => hf.block b (h.lt b m) (hd b m)
theorem Own.fr {base size : Nat} {v : Value} {n : Nat} {xs : List Value} {bs : List Nat} {w w1 : World} (h : Own w base size v n xs) (hf : Fr bs w w1) (hd : ∀ k, v.ownBlock = some k → k ∉ bs) : Own w1 base size v n xs :=
 h.keep hf.size fun k hk => hf.block k (h.lt k hk).2 (hd k hk)
theorem Own.short {base : Nat} {A : Option Addr} {c n : Nat} {xs : List Value} {w : World} (h : Own w base 1 (.slice A n c) n xs) (m : Nat) (hm : m ≤ n) (hn : 0 < n) : Own w base 1 (.slice A m c) m (xs.take m) := by
 obtain ⟨h0, h⟩ := h
 rcases h with ⟨h, rfl⟩ | ⟨g, cap, hv, h1, h2, h3, h4, h5, h6⟩
 ·omega
 ·cases hv
  refine ⟨by rw [List.length_take, h0]; omega, .inr ⟨g, _, rfl, h1, h2, by omega, h4, fun j hj => ?_, h6⟩⟩; rw [List.getElem?_take, if_pos (by omega)]; exact h5 j (by omega)
end Go.Proofs.YtaepebkeijmjgaaDoor.Z
end
section
namespace Go.Proofs.YtaepebkeijmjgaaDoor.Z
open RowKit YtaepebkeijmjgaaDoor YtaepebkeijmjgaaDoorW.PrintWords YtaepebkeijmjgaaDoorW.PrintLast
set_option linter.all false
set_option maxRecDepth 100000
theorem cells2P {w u : World} {p q : Addr} {a b : Value} (h0 : w.cell? p = some a) (h1 : w.cell? q = some b) (hb : Below w.heap.size w u) : u.cell? p = some a ∧ u.cell? q = some b ∧ Below w.heap.size w u := ⟨cellB hb h0, cellB hb h1, hb⟩
theorem below2P {w u : World} {p q : Addr} {a b : Value} (h : u.cell? p = some a ∧ u.cell? q = some b ∧ Below w.heap.size w u) : Below w.heap.size w u := h.2.2
theorem Tab.fr {w w1 : World} {bs : List Nat} (h : Tab w) (hf : Fr bs w w1) (hn : 0 ∉ bs) : Tab w1 := fun i hi => by
 rw [World.cell?_of_block (a := ⟨0, i, none⟩) (hf.block _ h.lt hn)]; exact h i hi
def RootIs (w : World) (p : Value) (s : ByteArray) : Prop := (p = .pointer none ∧ s = ⟨#[]⟩) ∨ ∃ b, p = ptrB b ∧ w.cell? ⟨b, 37, none⟩ = some (.string s)
theorem RootIs.below {w w1 : World} {p : Value} {s : ByteArray} (h : RootIs w p s) (hb : Below w.heap.size w w1) : RootIs w1 p s := by
 rcases h with h | ⟨b, h1, h2⟩
 ·exact .inl h
 ·exact .inr ⟨b, h1, (hb.cell (World.block_lt_of_cell? _ _ h2)).trans h2⟩
theorem RootIs.of {w : World} : ∀ {t : Sh Nd}, InM w t → RootIs w (ptrT t) (rootT t)
 | .nil, _ => .inl ⟨rfl, rfl⟩
 | .node x l r, h => .inr ⟨x.b, rfl, (cell_of_row _ _ _ _ _ _ h.1).trans (rowT_root _ _ _)⟩
theorem treeHash_any (p : Value) (s : ByteArray) (w : World) (h : RootIs w p s) : Calls Tryd.prog 82 #[p] w fun e w' => e = .returned (.string s) ∧ w = w' := by
 rcases h with ⟨rfl, rfl⟩ | ⟨b, rfl, hc⟩
 ·go_enter Tryd.func82, Tryd.ntmps82
  go_wp2
  go_ret
  exact ⟨rfl, rfl⟩
 ·unfold ptrB
  go_enter Tryd.func82, Tryd.ntmps82
  go_wp2
  go_ret
  exact ⟨rfl, rfl⟩
def At36 (b : Nat) (w : World) : Prop := ∃ s, w.cell? ⟨b, 36, none⟩ = some (.string s) ∧ w.frozen? ⟨b, 36, none⟩ = false
theorem At36.below {b : Nat} {w w1 : World} (h : At36 b w) (hb : Below w.heap.size w w1) : At36 b w1 := by
 obtain ⟨s, h1, h2⟩ := h; exact ⟨s, cellB hb h1, (hb.frozen (p := ⟨b, 36, none⟩) (World.block_lt_of_cell? _ _ h1)).trans h2⟩
theorem cell_set36 {u : World} {p : Addr} {b : Nat} {a x : Value} (h : u.cell? p = some a) (hp : p.off ≠ 36) : (u.setCell ⟨b, 36, none⟩ x).cell? p = some a :=
 (World.cell?_setCell_other u _ _ x (fun e => hp (by rw [← e]))).trans h
theorem At36.set {b : Nat} {w : World} (h : At36 b w) (s : ByteArray) : At36 b (w.setCell ⟨b, 36, none⟩ (.string s)) := by
 obtain ⟨s0, h1, h2⟩ := h; exact ⟨s, by rw [World.cell?_setCell_same' _ _ _ (by rw [h1]; rfl)], by rw [World.frozen?_setCell]; exact h2⟩
theorem RootIs.set36 {w : World} {p : Value} {s : ByteArray} (h : RootIs w p s) (b : Nat) (x : Value) : RootIs (w.setCell ⟨b, 36, none⟩ x) p s := by
 rcases h with h | ⟨c, h1, h2⟩
 ·exact .inl h
 ·exact .inr ⟨c, h1, cell_set36 h2 (by simp)⟩
section
variable {b : Nat} {k v s sl sr : ByteArray} {pl pr : Value} {u w1 : World}
theorem seenI (h0 : u.cell? ⟨b, 0, none⟩ = some (.string k)) (h1 : u.cell? ⟨b, 1, none⟩ = some (.string v)) (h2 : u.cell? ⟨b, 34, none⟩ = some pl) (h3 : u.cell? ⟨b, 35, none⟩ = some pr) (h6 : At36 b u) (h4 : RootIs u pl sl) (h5 : RootIs u pr sr) :
  u.cell? ⟨b, 0, none⟩ = some (.string k) ∧ u.cell? ⟨b, 1, none⟩ = some (.string v) ∧ u.cell? ⟨b, 34, none⟩ = some pl ∧ u.cell? ⟨b, 35, none⟩ = some pr ∧ At36 b u ∧ RootIs u pl sl ∧ RootIs u pr sr := ⟨h0, h1, h2, h3, h6, h4, h5⟩
theorem seenD (h : u.cell? ⟨b, 0, none⟩ = some (.string k) ∧ u.cell? ⟨b, 1, none⟩ = some (.string v) ∧ u.cell? ⟨b, 34, none⟩ = some pl ∧ u.cell? ⟨b, 35, none⟩ = some pr ∧ At36 b u ∧ RootIs u pl sl ∧ RootIs u pr sr) :
  u.drew.cell? ⟨b, 0, none⟩ = some (.string k) ∧ u.drew.cell? ⟨b, 1, none⟩ = some (.string v) ∧ u.drew.cell? ⟨b, 34, none⟩ = some pl ∧ u.drew.cell? ⟨b, 35, none⟩ = some pr ∧ At36 b u.drew ∧ RootIs u.drew pl sl ∧ RootIs u.drew pr sr := ⟨h.1, h.2.1, h.2.2.1, h.2.2.2.1, h.2.2.2.2.1, h.2.2.2.2.2.1.below (Below.refl _ _).drew, h.2.2.2.2.2.2.below (Below.refl _ _).drew⟩
theorem seenB (hb : Below u.heap.size u w1) (h : u.cell? ⟨b, 0, none⟩ = some (.string k) ∧ u.cell? ⟨b, 1, none⟩ = some (.string v) ∧ u.cell? ⟨b, 34, none⟩ = some pl ∧ u.cell? ⟨b, 35, none⟩ = some pr ∧ At36 b u ∧ RootIs u pl sl ∧ RootIs u pr sr) :
  w1.cell? ⟨b, 0, none⟩ = some (.string k) ∧ w1.cell? ⟨b, 1, none⟩ = some (.string v) ∧ w1.cell? ⟨b, 34, none⟩ = some pl ∧ w1.cell? ⟨b, 35, none⟩ = some pr ∧ At36 b w1 ∧ RootIs w1 pl sl ∧ RootIs w1 pr sr := ⟨cellB hb h.1, cellB hb h.2.1, cellB hb h.2.2.1, cellB hb h.2.2.2.1, h.2.2.2.2.1.below hb, h.2.2.2.2.2.1.below hb, h.2.2.2.2.2.2.below hb⟩
theorem seenS (h : u.cell? ⟨b, 0, none⟩ = some (.string k) ∧ u.cell? ⟨b, 1, none⟩ = some (.string v) ∧ u.cell? ⟨b, 34, none⟩ = some pl ∧ u.cell? ⟨b, 35, none⟩ = some pr ∧ At36 b u ∧ RootIs u pl sl ∧ RootIs u pr sr) :
  (u.setCell ⟨b, 36, none⟩ (.string s)).cell? ⟨b, 0, none⟩ = some (.string k) ∧ (u.setCell ⟨b, 36, none⟩ (.string s)).cell? ⟨b, 1, none⟩ = some (.string v) ∧ (u.setCell ⟨b, 36, none⟩ (.string s)).cell? ⟨b, 34, none⟩ = some pl ∧ (u.setCell ⟨b, 36, none⟩ (.string s)).cell? ⟨b, 35, none⟩ = some pr ∧ At36 b (u.setCell ⟨b, 36, none⟩ (.string s)) ∧ RootIs (u.setCell ⟨b, 36, none⟩ (.string s)) pl sl ∧ RootIs (u.setCell ⟨b, 36, none⟩ (.string s)) pr sr := ⟨cell_set36 h.1 (by simp), cell_set36 h.2.1 (by simp), cell_set36 h.2.2.1 (by simp), cell_set36 h.2.2.2.1 (by simp), h.2.2.2.2.1.set _, h.2.2.2.2.2.1.set36 _ _, h.2.2.2.2.2.2.set36 _ _⟩
end
set_option maxHeartbeats 4000000 in
theorem seal_any (x : Nd) (pl pr : Value) (sl sr : ByteArray) (W : Nat) (hW1 : 1 ≤ W) (hW2 : W ≤ 32) (w : World) (h : w.heap[x.b]? = some (.cells (rowT x pl pr) 136 (0, 0))) (hl : RootIs w pl sl) (hr : RootIs w pr sr) (hT : Tab w) (hg : 0 ≠ x.b) :
  Calls Tryd.prog 131 #[ptrB x.b, .int .i64 W] w fun e w' => e = .returned (.tuple #[]) ∧ w'.heap[x.b]? = some (.cells (rowT (sealN W x sl sr) pl pr) 136 (0, 0)) ∧ w.grownBy w' (some x.b) := by
 have c0 := (cell_of_row _ _ _ _ _ _ h).trans (rowT_key _ _ _); have c1 := (cell_of_row _ _ _ _ _ _ h).trans (rowT_val _ _ _); have c34 := (cell_of_row _ _ _ _ _ _ h).trans (rowT_left _ _ _); have c35 := (cell_of_row _ _ _ _ _ _ h).trans (rowT_right _ _ _); have a36 : At36 x.b w := ⟨_, (cell_of_row _ _ _ _ _ _ h).trans (rowT_enc _ _ _), frozen_of_row _ _ 36 _ _ h⟩
 have HROW := Lib.hid h; clear h; have HT := Lib.hid hT; clear hT; have hle := encNode_size_le x.key x.val sl sr W; have hs : (sealN W x sl sr) = { x with enc := encNode x.key x.val sl sr W, root := (shaV (nText (encNode x.key x.val sl sr W))).extract 0 W } := by unfold sealN; rw [Int.toNat_natCast]
 rw [hs]; clear hs; obtain ⟨enc, hE⟩ : ∃ enc, encNode x.key x.val sl sr W = enc := ⟨_, rfl⟩
 rw [hE] at hle ⊢; have HE := Lib.hid hE; clear hE; have hlt := lt_of_block HROW.out; unfold ptrB; obtain ⟨b, hb⟩ : ∃ b, x.b = b := ⟨_, rfl⟩
 rw [hb] at c0 c1 c34 c35 a36 hg hlt ⊢; have HB := Lib.hid hb; clear hb
 go_enter Tryd.func131, Tryd.ntmps131
 go_wp2
 go_region_held3 (fun w' => w'.cell? ⟨b, 0, none⟩ = some (.string x.key) ∧ w'.cell? ⟨b, 1, none⟩ = some (.string x.val) ∧ w'.cell? ⟨b, 34, none⟩ = some pl ∧ w'.cell? ⟨b, 35, none⟩ = some pr ∧ At36 b w' ∧ RootIs w' pl sl ∧ RootIs w' pr sr)
  (repeat' (first | (with_reducible assumption) | (with_reducible exact seenI c0 c1 c34 c35 a36 hl hr) | (with_reducible refine seenD ?_) | (with_reducible refine seenS ?_) | (with_reducible refine seenB (by assumption) ?_)))
  (first | (go_at_call 82; refine (treeHash_any _ _ _ (by assumption)).mono ?_; rintro e w' ⟨rfl, rfl⟩) | (go_at_call 67; refine (encodeNode_any _ _ _ _ _ _).mono ?_; rintro e w1 ⟨rfl, hb1⟩; rw [HE.out]; obtain ⟨s36, c36, f36⟩ := At36.below (by assumption) hb1))
 have hb : Below w.heap.size w w1 := (Below.refl _ _).drew.trans hb1; have hrow := (hb.block x.b (lt_of_block HROW.out)).trans HROW.out; rw [HB.out] at hrow; have hrow2 := blk_put hrow 36 (.string enc) (rowT_setEnc _ _ _ enc); have hg2 : w.grownBy (w1.setCell ⟨b, 36, none⟩ (.string enc)) (some b) := gTwo (gBelow hb _) (gSet _ _ _ _) (.inl rfl); obtain ⟨W3, hW3⟩ : ∃ W3, W3 = w1.setCell ⟨b, 36, none⟩ (.string enc) := ⟨_, rfl⟩
 rw [← hW3] at hrow2 hg2 ⊢; clear hW3 hrow hb hb1; have HR2 := Lib.hid hrow2; clear hrow2; have HG2 := Lib.hid hg2; clear hg2; have HT3 := Lib.hid (HT.out.grown HG2.out (fun e => hg (Option.some.inj e))); clear c0 c1 c34 c35 a36 c36 f36; have c36 : W3.cell? ⟨b, 36, none⟩ = some (.string enc) := (cell_of_row _ _ _ _ _ _ HR2.out).trans (rowT_enc { x with enc := enc } _ _); have hz3 := HG2.out.size
 go_wp2_with fail
 refine (hashN_any enc _ W3 rfl HT3.out (by omega)).mono ?_; rintro e w4 ⟨rfl, hb4⟩; have HT4 := Lib.hid (HT3.out.below hb4); have HB4 := Lib.hid hb4; clear hb4
 go_wp2_with fail
 refine (text_h _ (shaL_length _) W _ (by omega) (by omega)).mono ?_; rintro e w5 ⟨rfl, hb5⟩; have HB5 := Lib.hid (HB4.out.trans (hb5.mono HB4.out.size)); clear hb5; have hrow5 := (HB5.out.block b (by omega)).trans HR2.out; have c37 : w5.cell? ⟨b, 37, none⟩ = some (.string x.root) := (cell_of_row _ _ _ _ _ _ hrow5).trans (rowT_root { x with enc := enc } _ _); have f37 := frozen_of_row _ _ 37 _ _ hrow5; have HR5 := Lib.hid hrow5; clear hrow5
 go_wp2
 go_end0
 refine ⟨rfl, ?_, gTwo HG2.out (gTwo (gBelow HB5.out _) (gSet _ _ _ _) (.inl rfl)) (.inl rfl)⟩; have h := blk_put HR5.out 37 (.string ((shaV (nText enc)).extract 0 W)) (rowT_setRoot { x with enc := enc } pl pr _); exact h
theorem growSeal_any (V : Nat) (x : Nd) (pl pr : Value) (sl sr : ByteArray) (W : Nat) (hW1 : 1 ≤ W) (hW2 : W ≤ 32) (w : World) (hV : w.heap[V]? = some (.cells #[.int .i64 W] 3 (0, 0))) (h : w.heap[x.b]? = some (.cells (rowT x pl pr) 136 (0, 0))) (hl : RootIs w pl sl) (hr : RootIs w pr sr) (hT : Tab w) (hg : 0 ≠ x.b) :
  Calls Tryd.prog 130 #[ptrB x.b, .pointer (some ⟨V, 0, none⟩)] w fun e w' => e = .returned (.tuple #[]) ∧ w'.heap[x.b]? = some (.cells (rowT (sealN W x sl sr) pl pr) 136 (0, 0)) ∧ w.grownBy w' (some x.b) := by
 have v0 : w.cell? ⟨V, 0, none⟩ = some (.int .i64 W) := (cell_of_row _ _ _ _ _ _ hV).trans rfl; have HROW := Lib.hid h; clear h; have HT := Lib.hid hT; clear hT; have HV := Lib.hid hV; clear hV
 go_enter Tryd.func130, Tryd.ntmps130
 go_wp2_with fail
 refine (seal_any x pl pr sl sr W hW1 hW2 w HROW.out hl hr HT.out hg).mono ?_; rintro e w' ⟨rfl, h1, h2⟩
 go_wp2
 go_end0
 exact ⟨rfl, h1, h2⟩
set_option maxHeartbeats 1000000 in
/-- A tree sealed, subtrees first. -/
theorem eachSeal_any (V : Nat) (W : Nat) (hW1 : 1 ≤ W) (hW2 : W ≤ 32) : ∀ (t : Sh Nd) (w : World), InM w t → (blks t).Nodup → w.heap[V]? = some (.cells #[.int .i64 W] 3 (0, 0)) → V ∉ blks t → Tab w → 0 ∉ blks t →
  Calls Tryd.prog 77 #[ptrT t, .func (.func 130) #[] #[.pointer (some ⟨V, 0, none⟩)]] w fun e w' => e = .returned (.tuple #[]) ∧ InM w' (sealT W t) ∧ Fr (blks t) w w' := by
 intro t
 induction t with
 | nil =>
  intro w _ _ _ _ _ _; unfold ptrT
  go_enter Tryd.func77, Tryd.ntmps77
  go_wp2
  (try simp only [Exit.inBlock, Exit.then]); refine bodyPost_ret (results_none rfl _ _ _) rfl ?_; exact ⟨rfl, trivial, Fr.refl _ _⟩
 | node x l r ihl ihr =>
  intro w hi hn hV hVn hT hTn; simp only [blks, List.nodup_cons, List.nodup_append, List.mem_append, List.mem_cons, not_or] at hn hVn hTn; have HX := Lib.hid hi; clear hi; have HN := Lib.hid hn; clear hn; have HVN := Lib.hid hVn; clear hVn; have HTN := Lib.hid hTn; clear hTn; have HV := Lib.hid hV; clear hV; have HT := Lib.hid hT; clear hT; have HL := Lib.hid ihl; clear ihl; have HR := Lib.hid ihr; clear ihr; obtain ⟨b, hb⟩ : ∃ b, x.b = b := ⟨_, rfl⟩
  obtain ⟨pl, hpl⟩ : ∃ p, ptrT l = p := ⟨_, rfl⟩
  obtain ⟨pr, hpr⟩ : ∃ p, ptrT r = p := ⟨_, rfl⟩
  have c34 : w.cell? ⟨x.b, 34, none⟩ = some (ptrT l) := (cell_of_row _ _ _ _ _ _ HX.out.1).trans (rowT_left _ _ _); rw [hb, hpl] at c34; have HB := Lib.hid hb; have HPL := Lib.hid hpl; have HPR := Lib.hid hpr; show Calls Tryd.prog 77 #[ptrB x.b, _] w _; unfold ptrB; rw [hb]; clear hb hpl hpr
  go_enter Tryd.func77, Tryd.ntmps77
  go_wp2_with fail
  rw [← HPL.out]; refine (HL.out w HX.out.2.1 HN.out.2.1 HV.out HVN.out.2.1 HT.out HTN.out.2.1).mono ?_; rintro e w1 ⟨rfl, h1, hf1⟩; have HX1 := Lib.hid h1; clear h1; have HF1 := Lib.hid hf1; clear hf1; have hr1 := (HF1.out.block x.b (lt_of_block HX.out.1) HN.out.1.1).trans HX.out.1; have c35 : w1.cell? ⟨x.b, 35, none⟩ = some (ptrT r) := (cell_of_row _ _ _ _ _ _ hr1).trans (rowT_right _ _ _); rw [HB.out, HPR.out] at c35; have HR1 := Lib.hid hr1; clear hr1 c34; have HT1 := Lib.hid (HT.out.fr HF1.out HTN.out.2.1); have HV1 := Lib.hid ((HF1.out.block V (lt_of_block HV.out) HVN.out.2.1).trans HV.out); have HXr := Lib.hid (HX.out.2.2.fr HF1.out (fun b hb hm => HN.out.2.2.2 _ hm _ hb rfl))
  go_wp2_with fail
  rw [← HPR.out]; refine (HR.out w1 HXr.out HN.out.2.2.1 HV1.out HVN.out.2.2 HT1.out HTN.out.2.2).mono ?_; rintro e w2 ⟨rfl, h2, hf2⟩; have HX2 := Lib.hid h2; clear h2; have HF2 := Lib.hid hf2; clear hf2 c35; have HR2 := Lib.hid ((HF2.out.block x.b (lt_of_block HR1.out) HN.out.1.2).trans HR1.out); have HT2 := Lib.hid (HT1.out.fr HF2.out HTN.out.2.2); have HV2 := Lib.hid ((HF2.out.block V (lt_of_block HV1.out) HVN.out.2.2).trans HV1.out); have HXl := Lib.hid (HX1.out.fr HF2.out (fun b hb hm => by rw [sealT_blks] at hb; exact HN.out.2.2.2 _ hb _ hm rfl)); have hl := RootIs.of HXl.out; have hr := RootIs.of HX2.out; rw [sealT_ptr] at hl hr; have HLR := Lib.hid hl; clear hl; have HRR := Lib.hid hr; clear hr
  go_wp2_with (go_at_call 130; rw [← HB.out]; refine (growSeal_any V x (ptrT l) (ptrT r) (rootT (sealT W l)) (rootT (sealT W r)) W hW1 hW2 w2 HV2.out HR2.out HLR.out HRR.out HT2.out HTN.out.1).mono ?_; rintro e w3 ⟨rfl, h3, hg3⟩; have HX3 := Lib.hid h3; have HG3 := Lib.hid hg3; clear h3 hg3)
  go_end0
  refine ⟨rfl, ⟨?_, ?_, ?_⟩, ?_⟩
  ·rw [sealT_ptr, sealT_ptr]; exact HX3.out
  ·exact HXl.out.grown HG3.out (fun k hk hm => by cases hk; rw [sealT_blks] at hm; exact HN.out.1.1 hm)
  ·exact HX2.out.grown HG3.out (fun k hk hm => by cases hk; rw [sealT_blks] at hm; exact HN.out.1.2 hm)
  ·refine (HF1.out.trans HF2.out (ds := blks (.node x l r)) (fun k hk => by simp [blks, hk]) (fun k _ hk => by simp [blks, hk])).trans (Fr.ofGrown (bs := [x.b]) HG3.out (fun k hk _ => by cases hk; simp)) (fun k hk => hk) (fun k _ hk => by simp [blks] at hk ⊢; exact .inl hk)
end Go.Proofs.YtaepebkeijmjgaaDoor.Z
end
section
namespace Go.Proofs.YtaepebkeijmjgaaDoor.Z
open RowKit YtaepebkeijmjgaaDoor YtaepebkeijmjgaaDoorW.PrintWords YtaepebkeijmjgaaDoorW.PrintLast
theorem wN {x : Int} {n : Nat} (h : x = (n : Int)) (hn : n ≤ 9223372036854775807) : wrap64 x = (n : Int) := by rw [h]; unfold wrap64; omega
theorem wrapN (n : Nat) (h : n < 9223372036854775808) : IntKind.i64.wrap (n : Int) = n := by
 simp [IntKind.wrap, IntKind.bits, IntKind.signed]; omega
theorem rd_at {α : Type} (d : α) (l : List α) (i : Nat) (h : i < l.length) : rdOf d l (i : Int) = l[i] := by
 unfold rdOf; rw [Int.toNat_natCast, List.getD_eq_getElem?_getD, List.getElem?_eq_getElem h]; rfl
end Go.Proofs.YtaepebkeijmjgaaDoor.Z
end
section
namespace Go.Proofs.YtaepebkeijmjgaaDoor.Z
open RowKit YtaepebkeijmjgaaDoorW.PrintWords YtaepebkeijmjgaaDoorW.PrintLast YtaepebkeijmjgaaDoorW.PrintMore
attribute [local go_sem] max2_int min2_int max_two min_two max_three min_three max_four min_four
set_option linter.all false
mutual
def spec_l1Less.l0 : Nat → ByteArray → ByteArray → Int → Option (Bool)
 | 0, _, _, _ => none
 | k + 1, x0, x1, x5 => if x5 < (x0.size : Int) then (spec_l1Less.j1 k x0 x1 x5 (decide (x5 < (x1.size : Int)))) else (spec_l1Less.j1 k x0 x1 x5 false)
def spec_l1Less.j1 : Nat → ByteArray → ByteArray → Int → Bool → Option (Bool)
 | 0, _, _, _, _ => none
 | k + 1, x0, x1, x5, x15 => if x15 = true then (if 0 ≤ x5 then (if x5 < (x0.size : Int) then (if x5 < (x1.size : Int) then (if (bt x0 x5) = (bt x1 x5) then (spec_l1Less.l0 k x0 x1 (wrap64 (x5 + 1))) else (some (decide ((bt x0 x5) < (bt x1 x5))))) else (none)) else (none)) else (none)) else (some (decide ((x0.size : Int) < (x1.size : Int))))
end
def spec_l1Less.f (k : Nat) (a0 : ByteArray) (a1 : ByteArray) : Option (Bool) := spec_l1Less.l0 k a0 a1 0
set_option maxHeartbeats 8000000 in
set_option maxRecDepth 100000 in
theorem spec_l1Less.calls (k : Nat) (a0 : ByteArray) (a1 : ByteArray) (r : Bool) (w : World) (h : spec_l1Less.f k a0 a1 = some r) :
  Calls Tryd.prog 103 #[.string a0, .string a1] w fun e w' => e = .returned (.bool r) ∧ Drawn0 w w' := by
 have H : (spec_l1Less.l0 k a0 a1 0) = some r := h; clear h; have H' := Aside0.mk H; clear H
 go_enter Tryd.func103, Tryd.ntmps103
 go_wp2
 repeat (go_quiet (fail); try go_wp2)
 go_loopg [5] k (fun kq v5 w' => ∃ (x5_1 : Int), v5 = .int .i64 x5_1 ∧ Aside0 (spec_l1Less.l0 kq a0 a1 x5_1 = some r) ∧ Aside0 (kq ≤ k) ∧ Drawn0 w w')
 case atStart => exact ⟨(0), zq_4, H', ⟨Nat.le_refl _⟩, by repeat (first | exact Drawn0.refl _ | apply Drawn0.step)⟩
 case round =>
  clear H'
  try clear c1
  try clear p2
  obtain ⟨x5_1, rfl, HA, HK1, ⟨m1, rfl⟩⟩ := hrel
  cases gk with
  | zero => exact absurd HA.out (by simp [spec_l1Less.l0])
  | succ k1 =>
   have H := HA.out; clear HA; simp only [spec_l1Less.l0] at H; have HC3 := Aside0.mk H; clear H
   go_upto_region 2 with (fail)
   repeat (go_quiet (fail); go_upto_region 2 with (fail))
   go_cut [15] (fun v15 wc => ∃ (kq : Nat) (x15_2 : Bool), v15 = .bool x15_2 ∧ Aside0 (spec_l1Less.j1 kq a0 a1 x5_1 x15_2 = some r) ∧ Aside0 (kq ≤ k1) ∧ Drawn0 w wc)
   case first =>
    have H := HC3.out; clear HC3
    by_cases c4 : x5_1 < (a0.size : Int)
    ·rw [if_pos c4] at H; have c4b0 : decide (x5_1 < (a0.size : Int)) = true := decide_eq_true c4; clear c4; (first | rw [c4b0] | (simp only [i64_w, i32_w]; rw [c4b0]) | skip); have H' := Aside0.mk H; clear H
     go_wp2
     repeat (go_quiet (fail); try go_wp2)
     go_meet
     case rel => exact ⟨_, (decide (x5_1 < (a1.size : Int))), zq_4, H', ⟨by have := HK1.out; first | omega | exact Nat.le_refl _⟩, by repeat (first | exact Drawn0.refl _ | apply Drawn0.step)⟩
    ·rw [if_neg c4] at H; have c4b0 : decide (x5_1 < (a0.size : Int)) = false := decide_eq_false c4; clear c4; (first | rw [c4b0] | (simp only [i64_w, i32_w]; rw [c4b0]) | skip); have H' := Aside0.mk H; clear H
     go_wp2
     repeat (go_quiet (fail); try go_wp2)
     go_meet
     case rel => exact ⟨_, (false), zq_4, H', ⟨by have := HK1.out; first | omega | exact Nat.le_refl _⟩, by repeat (first | exact Drawn0.refl _ | apply Drawn0.step)⟩
   case rest =>
    clear HC3
    try clear c1
    try clear p2
    try clear c4
    try clear c4b0
    try clear p2
    obtain ⟨kq, x15_2, rfl, HA, HJ2, ⟨mc2, rfl⟩⟩ := hcut
    cases kq with
    | zero => exact absurd HA.out (by simp [spec_l1Less.j1])
    | succ kj2 =>
     have H := HA.out; clear HA; simp only [spec_l1Less.j1] at H
     by_cases c5 : x15_2 = true
     ·subst c5; have H1 : (if 0 ≤ x5_1 then (if x5_1 < (a0.size : Int) then (if x5_1 < (a1.size : Int) then (if (bt a0 x5_1) = (bt a1 x5_1) then (spec_l1Less.l0 kj2 a0 a1 (wrap64 (x5_1 + 1))) else (some (decide ((bt a0 x5_1) < (bt a1 x5_1))))) else (none)) else (none)) else (none)) = some r := by rw [if_pos rfl] at H; exact H
      clear H; have H := H1; clear H1
      by_cases c6 : 0 ≤ x5_1
      ·rw [if_pos c6] at H; have c6b0 : decide (0 ≤ x5_1) = true := decide_eq_true c6; clear c6
       by_cases c7 : x5_1 < (a0.size : Int)
       ·rw [if_pos c7] at H; have c7b0 : decide (x5_1 < (a0.size : Int)) = true := decide_eq_true c7; clear c7
        by_cases c9 : x5_1 < (a1.size : Int)
        ·rw [if_pos c9] at H; have c9b0 : decide (x5_1 < (a1.size : Int)) = true := decide_eq_true c9; clear c9
         by_cases c11 : (bt a0 x5_1) = (bt a1 x5_1)
         ·rw [if_pos c11] at H; have c11b0 : ((bt a0 x5_1) == (bt a1 x5_1)) = true := beq_iff_eq.mpr c11; have c11b1 : ((bt a0 x5_1) != (bt a1 x5_1)) = false := bne_eq_false_iff_eq.mpr c11; clear c11; have H' := Aside0.mk H; clear H; have p8 : 0 ≤ (x5_1 : Int) := of_decide_eq_true zq_2; have q8 : x5_1 < (a0.size : Int) := of_decide_eq_true zq_2; have hx8 := bt_at a0 x5_1; replace p8 := eq_true p8; replace q8 := eq_true q8; have p10 : 0 ≤ (x5_1 : Int) := of_decide_eq_true zq_2; have q10 : x5_1 < (a1.size : Int) := of_decide_eq_true zq_2; have hx10 := bt_at a1 x5_1; replace p10 := eq_true p10; replace q10 := eq_true q10
          go_wp2
          repeat (go_quiet (fail); try go_wp2)
          go_roundg kj2
          case measure => have := HK1.out; have := HJ2.out; omega
          case rel => exact ⟨(wrap64 (x5_1 + 1)), zq_4, H', ⟨by have := HK1.out; have := HJ2.out; omega⟩, by repeat (first | exact Drawn0.refl _ | apply Drawn0.step)⟩
         ·rw [if_neg c11] at H; have c11b0 : ((bt a0 x5_1) == (bt a1 x5_1)) = false := beq_eq_false_iff_ne.mpr c11; have c11b1 : ((bt a0 x5_1) != (bt a1 x5_1)) = true := bne_iff_ne.mpr c11; obtain rfl := Option.some.inj H; have p8 : 0 ≤ (x5_1 : Int) := of_decide_eq_true zq_2; have q8 : x5_1 < (a0.size : Int) := of_decide_eq_true zq_2; have hx8 := bt_at a0 x5_1; replace p8 := eq_true p8; replace q8 := eq_true q8; have p10 : 0 ≤ (x5_1 : Int) := of_decide_eq_true zq_2; have q10 : x5_1 < (a1.size : Int) := of_decide_eq_true zq_2; have hx10 := bt_at a1 x5_1; replace p10 := eq_true p10; replace q10 := eq_true q10; have p12 : 0 ≤ (x5_1 : Int) := of_decide_eq_true zq_2; have q12 : x5_1 < (a0.size : Int) := of_decide_eq_true zq_2; have hx12 := bt_at a0 x5_1; replace p12 := eq_true p12; replace q12 := eq_true q12; have p13 : 0 ≤ (x5_1 : Int) := of_decide_eq_true zq_2; have q13 : x5_1 < (a1.size : Int) := of_decide_eq_true zq_2; have hx13 := bt_at a1 x5_1; replace p13 := eq_true p13; replace q13 := eq_true q13
          go_wp2
          repeat (go_quiet (fail); try go_wp2)
          go_ret
          exact ⟨by first | rfl | (simp; done) | (simp [*]; done), by repeat (first | exact Drawn0.refl _ | apply Drawn0.step)⟩
        ·rw [if_neg c9] at H; exact absurd H (by simp)
       ·rw [if_neg c7] at H; exact absurd H (by simp)
      ·rw [if_neg c6] at H; exact absurd H (by simp)
     ·replace c5 := Bool.eq_false_iff.mpr c5; subst c5; have H1 : (some (decide ((a0.size : Int) < (a1.size : Int)))) = some r := by rw [if_neg (show ¬ (false = true) by decide)] at H; exact H
      clear H; have H := H1; clear H1; obtain rfl := Option.some.inj H
      go_wp2
      repeat (go_quiet (fail); try go_wp2)
      go_ret
      exact ⟨by first | rfl | (simp; done) | (simp [*]; done), by repeat (first | exact Drawn0.refl _ | apply Drawn0.step)⟩
def spec_l1Width.f (a0 : Int) : Option (Bool) := if a0 ≥ 1 then (some (decide (a0 ≤ 32))) else (some false)
set_option maxHeartbeats 8000000 in
set_option maxRecDepth 100000 in
theorem spec_l1Width.calls (a0 : Int) (r : Bool) (w : World) (h : spec_l1Width.f a0 = some r) :
  Calls Tryd.prog 90 #[.int .i64 a0] w fun e w' => e = .returned (.bool r) ∧ Drawn0 w w' := by
 have H : (if a0 ≥ 1 then (some (decide (a0 ≤ 32))) else (some false)) = some r := h; clear h
 by_cases c2 : a0 ≥ 1
 ·rw [if_pos c2] at H; have c2b0 : decide (1 ≤ a0) = true := decide_eq_true c2; clear c2; obtain rfl := Option.some.inj H
  go_enter Tryd.func90, Tryd.ntmps90
  go_wp2
  go_ret
  exact ⟨by first | rfl | (simp; done) | (simp [*]; done), by repeat (first | exact Drawn0.refl _ | apply Drawn0.step)⟩
 ·rw [if_neg c2] at H; have c2b0 : decide (1 ≤ a0) = false := decide_eq_false c2; clear c2; obtain rfl := Option.some.inj H
  go_enter Tryd.func90, Tryd.ntmps90
  go_wp2
  go_ret
  exact ⟨by first | rfl | (simp; done) | (simp [*]; done), by repeat (first | exact Drawn0.refl _ | apply Drawn0.step)⟩
def spec_Digest.f (k : Nat) (a0 : ByteArray) (a1 : Int) : Option (ByteArray) := (spec_l1Width.f a1).bind fun t340001 => (if t340001 = true then ((spec_Sha256.f k a0).bind fun t340002 => (if 0 ≤ a1 then (if a1 ≤ (t340002.size : Int) then (some (t340002.extract 0 (a1 : Int).toNat)) else (none)) else (none))) else (some (⟨#[]⟩ : ByteArray)))
set_option maxHeartbeats 8000000 in
set_option maxRecDepth 100000 in
theorem spec_Digest.calls (k : Nat) (a0 : ByteArray) (a1 : Int) (r : ByteArray) (w : World) (h : spec_Digest.f k a0 a1 = some r) :
  Calls Tryd.prog 34 #[.string a0, .int .i64 a1] w fun e w' => e = .returned (.string r) ∧ Below w.heap.size w w' := by
 have HB := Aside0.mk (Below.refl w.heap.size w); have H : ((spec_l1Width.f a1).bind fun t340001 => (if t340001 = true then ((spec_Sha256.f k a0).bind fun t340002 => (if 0 ≤ a1 then (if a1 ≤ (t340002.size : Int) then (some (t340002.extract 0 (a1 : Int).toNat)) else (none)) else (none))) else (some (⟨#[]⟩ : ByteArray)))) = some r := h; clear h; replace H := Option.bind_eq_some_iff.mp H; obtain ⟨t340001, A30, H⟩ := H; (try dsimp only at H); have A3 := Aside0.mk A30; clear A30
 by_cases c4 : t340001 = true
 ·subst c4; have H1 : ((spec_Sha256.f k a0).bind fun t340002 => (if 0 ≤ a1 then (if a1 ≤ (t340002.size : Int) then (some (t340002.extract 0 (a1 : Int).toNat)) else (none)) else (none))) = some r := by rw [if_pos rfl] at H; exact H
  clear H; have H := H1; clear H1; replace H := Option.bind_eq_some_iff.mp H; obtain ⟨t340002, A50, H⟩ := H; (try dsimp only at H); have A5 := Aside0.mk A50; clear A50
  by_cases c6 : 0 ≤ a1
  ·rw [if_pos c6] at H; have c6b0 := eq_true c6; have c6b1 : decide (0 ≤ a1) = true := decide_eq_true c6; clear c6
   by_cases c7 : a1 ≤ (t340002.size : Int)
   ·rw [if_pos c7] at H; have c7b0 := eq_true c7; have c7b1 : decide (a1 ≤ (t340002.size : Int)) = true := decide_eq_true c7; clear c7; obtain rfl := Option.some.inj H
    go_enter Tryd.func34, Tryd.ntmps34
    go_wp2_with (first | ((with_reducible refine gate_callee (f := 90) rfl ?_); refine goesL_ (some 6) rfl rfl Tryd.func90 (by kernel_rfl) rfl #[.int .i64 a1] rfl zq_1 ?_; (with_reducible refine (spec_l1Width.calls a1 true _ A3.out).mono ?_); rintro e w' ⟨rfl, ⟨nd, rfl⟩⟩; refine ⟨_, rfl, ?_⟩) | ((with_reducible refine gate_callee (f := 95) rfl ?_); refine goesL_ (some 9) rfl rfl Tryd.func95 (by kernel_rfl) rfl #[.string a0] rfl zq_1 ?_; (with_reducible refine (spec_Sha256.calls k a0 t340002 _ A5.out).mono ?_); rintro e w8 ⟨rfl, hb⟩; refine ⟨_, rfl, ?_⟩; have n0_ := Aside0.mk (below_step zq_0 hb); clear HB; have HB := n0_; clear n0_; (try clear hb); (try clear hb2); (try clear hk); (try clear hi)))
    go_ret
    exact ⟨by first | rfl | (simp [errW_none, errW_some] <;> rfl) | (simp [*, errW_none, errW_some] <;> rfl), by repeat (first | (with_reducible first | exact HB.out | apply below_alloc | apply pw_below_drewN | apply below_drew1) | exact HB.out)⟩
   ·rw [if_neg c7] at H; exact absurd H (by simp)
  ·rw [if_neg c6] at H; exact absurd H (by simp)
 ·replace c4 := Bool.eq_false_iff.mpr c4; subst c4; have H1 : (some (⟨#[]⟩ : ByteArray)) = some r := by rw [if_neg (show ¬ (false = true) by decide)] at H; exact H
  clear H; have H := H1; clear H1; obtain rfl := Option.some.inj H
  go_enter Tryd.func34, Tryd.ntmps34
  go_wp2_with (first | ((with_reducible refine gate_callee (f := 90) rfl ?_); refine goesL_ (some 6) rfl rfl Tryd.func90 (by kernel_rfl) rfl #[.int .i64 a1] rfl zq_1 ?_; (with_reducible refine (spec_l1Width.calls a1 false _ A3.out).mono ?_); rintro e w' ⟨rfl, ⟨nd, rfl⟩⟩; refine ⟨_, rfl, ?_⟩))
  go_ret
  exact ⟨by first | rfl | (simp [errW_none, errW_some] <;> rfl) | (simp [*, errW_none, errW_some] <;> rfl), by repeat (first | (with_reducible first | exact HB.out | apply below_alloc | apply pw_below_drewN | apply below_drew1) | exact HB.out)⟩
def spec_Higher.f (k : Nat) (a0 : ByteArray) (a1 : ByteArray) : Option (Bool) := (spec_Sha256.f k a0).bind fun t1380001 => ((spec_Sha256.f k a1).bind fun t1380002 => (if t1380001.toList = t1380002.toList then ((spec_l1Less.f k a0 a1).bind fun t1380003 => (some t1380003)) else ((spec_l1Less.f k t1380002 t1380001).bind fun t1380004 => (some t1380004))))
set_option maxHeartbeats 8000000 in
set_option maxRecDepth 100000 in
theorem spec_Higher.calls (k : Nat) (a0 : ByteArray) (a1 : ByteArray) (r : Bool) (w : World) (h : spec_Higher.f k a0 a1 = some r) :
  Calls Tryd.prog 138 #[.string a0, .string a1] w fun e w' => e = .returned (.bool r) ∧ Below w.heap.size w w' := by
 have HB := Aside0.mk (Below.refl w.heap.size w); have H : ((spec_Sha256.f k a0).bind fun t1380001 => ((spec_Sha256.f k a1).bind fun t1380002 => (if t1380001.toList = t1380002.toList then ((spec_l1Less.f k a0 a1).bind fun t1380003 => (some t1380003)) else ((spec_l1Less.f k t1380002 t1380001).bind fun t1380004 => (some t1380004))))) = some r := h; clear h; replace H := Option.bind_eq_some_iff.mp H; obtain ⟨t1380001, A30, H⟩ := H; (try dsimp only at H); have A3 := Aside0.mk A30; clear A30; replace H := Option.bind_eq_some_iff.mp H; obtain ⟨t1380002, A40, H⟩ := H; (try dsimp only at H); have A4 := Aside0.mk A40; clear A40
 by_cases c5 : t1380001.toList = t1380002.toList
 ·rw [if_pos c5] at H; have c5b0 : (t1380001.toList == t1380002.toList) = true := beq_iff_eq.mpr c5; have c5b1 : (t1380001.toList != t1380002.toList) = false := bne_eq_false_iff_eq.mpr c5; clear c5; replace H := Option.bind_eq_some_iff.mp H; obtain ⟨t1380003, A60, H⟩ := H; (try dsimp only at H); have A6 := Aside0.mk A60; clear A60; obtain rfl := Option.some.inj H
  go_enter Tryd.func138, Tryd.ntmps138
  go_wp2_with (first | ((with_reducible refine gate_callee (f := 95) rfl ?_); refine goesL_ (some 8) rfl rfl Tryd.func95 (by kernel_rfl) rfl #[.string a0] rfl zq_1 ?_; (with_reducible refine (spec_Sha256.calls k a0 t1380001 _ A3.out).mono ?_); rintro e w7 ⟨rfl, hb⟩; refine ⟨_, rfl, ?_⟩; have n0_ := Aside0.mk (below_step zq_0 hb); clear HB; have HB := n0_; clear n0_; (try clear hb); (try clear hb2); (try clear hk); (try clear hi)) | ((with_reducible refine gate_callee (f := 95) rfl ?_); refine goesL_ (some 10) rfl rfl Tryd.func95 (by kernel_rfl) rfl #[.string a1] rfl zq_1 ?_; (with_reducible refine (spec_Sha256.calls k a1 t1380002 _ A4.out).mono ?_); rintro e w8 ⟨rfl, hb⟩; refine ⟨_, rfl, ?_⟩; have n0_ := Aside0.mk (below_step zq_0 hb); clear HB; have HB := n0_; clear n0_; (try clear hb); (try clear hb2); (try clear hk); (try clear hi)) | ((with_reducible refine gate_callee (f := 103) rfl ?_); refine goesL_ (some 19) rfl rfl Tryd.func103 (by kernel_rfl) rfl #[.string a0, .string a1] rfl zq_1 ?_; (with_reducible refine (spec_l1Less.calls k a0 a1 t1380003 _ A6.out).mono ?_); rintro e w' ⟨rfl, ⟨nd, rfl⟩⟩; refine ⟨_, rfl, ?_⟩))
  go_ret
  exact ⟨by first | rfl | (simp [errW_none, errW_some] <;> rfl) | (simp [*, errW_none, errW_some] <;> rfl), by repeat (first | (with_reducible first | exact HB.out | apply below_alloc | apply pw_below_drewN | apply below_drew1) | exact HB.out)⟩
 ·rw [if_neg c5] at H; have c5b0 : (t1380001.toList == t1380002.toList) = false := beq_eq_false_iff_ne.mpr c5; have c5b1 : (t1380001.toList != t1380002.toList) = true := bne_iff_ne.mpr c5; replace H := Option.bind_eq_some_iff.mp H; obtain ⟨t1380004, A90, H⟩ := H; (try dsimp only at H); have A9 := Aside0.mk A90; clear A90; obtain rfl := Option.some.inj H
  go_enter Tryd.func138, Tryd.ntmps138
  go_wp2_with (first | ((with_reducible refine gate_callee (f := 95) rfl ?_); refine goesL_ (some 8) rfl rfl Tryd.func95 (by kernel_rfl) rfl #[.string a0] rfl zq_1 ?_; (with_reducible refine (spec_Sha256.calls k a0 t1380001 _ A3.out).mono ?_); rintro e w10 ⟨rfl, hb⟩; refine ⟨_, rfl, ?_⟩; have n0_ := Aside0.mk (below_step zq_0 hb); clear HB; have HB := n0_; clear n0_; (try clear hb); (try clear hb2); (try clear hk); (try clear hi)) | ((with_reducible refine gate_callee (f := 95) rfl ?_); refine goesL_ (some 10) rfl rfl Tryd.func95 (by kernel_rfl) rfl #[.string a1] rfl zq_1 ?_; (with_reducible refine (spec_Sha256.calls k a1 t1380002 _ A4.out).mono ?_); rintro e w11 ⟨rfl, hb⟩; refine ⟨_, rfl, ?_⟩; have n0_ := Aside0.mk (below_step zq_0 hb); clear HB; have HB := n0_; clear n0_; (try clear hb); (try clear hb2); (try clear hk); (try clear hi)) | ((with_reducible refine gate_callee (f := 103) rfl ?_); refine goesL_ (some 16) rfl rfl Tryd.func103 (by kernel_rfl) rfl #[.string t1380002, .string t1380001] rfl zq_1 ?_; (with_reducible refine (spec_l1Less.calls k t1380002 t1380001 t1380004 _ A9.out).mono ?_); rintro e w' ⟨rfl, ⟨nd, rfl⟩⟩; refine ⟨_, rfl, ?_⟩))
  go_ret
  exact ⟨by first | rfl | (simp [errW_none, errW_some] <;> rfl) | (simp [*, errW_none, errW_some] <;> rfl), by repeat (first | (with_reducible first | exact HB.out | apply below_alloc | apply pw_below_drewN | apply below_drew1) | exact HB.out)⟩
end Go.Proofs.YtaepebkeijmjgaaDoor.Z
end
section
namespace Go.Proofs.YtaepebkeijmjgaaDoor.Z
open RowKit YtaepebkeijmjgaaDoor YtaepebkeijmjgaaDoorW.PrintWords YtaepebkeijmjgaaDoorW.PrintLast
set_option linter.all false
theorem l1Width_f (n : Int) : spec_l1Width.f n = some (widB n) := by
 unfold spec_l1Width.f widB
 by_cases h : n ≥ 1
 ·rw [if_pos h]; congr 1; simp; omega
 ·rw [if_neg h]; congr 1; simp; omega
theorem spec_Digest_f (a0 : ByteArray) (a1 : Int) (ha : a0.size ≤ 4294967296) (k : Nat) (hk : a0.size + 100 < k) : spec_Digest.f k a0 a1 = some (digV a0 a1) := by
 unfold spec_Digest.f; rw [l1Width_f]; simp only [Option.bind_some]
 by_cases hw : widB a1 = true
 ·have hr : 1 ≤ a1 ∧ a1 ≤ 32 := by unfold widB at hw; exact of_decide_eq_true hw
  rw [if_pos hw, digV_yes hw, spec_Sha256_f a0 ha k hk]; simp only [Option.bind_some]; rw [if_pos (by omega), if_pos (by rw [shaV_size]; omega)]
 ·rw [if_neg hw, digV_no (Bool.eq_false_iff.2 hw)]
theorem bt_get (s : ByteArray) (i : Nat) (h : i < s.size) : bt s (i : Int) = ((s.data.toList[i]'h).toNat : Int) := by
 unfold bt; rw [Int.toNat_natCast, dif_pos h]; rfl
theorem bytesLess_drop (a b : List UInt8) (i : Nat) (h1 : i < a.length) (h2 : i < b.length) : Op.bytesLess (a.drop i) (b.drop i) = (a[i] < b[i] || (a[i] == b[i] && Op.bytesLess (a.drop (i + 1)) (b.drop (i + 1)))) := by
 rw [List.drop_eq_getElem_cons h1, List.drop_eq_getElem_cons h2]; rfl
theorem l1Less_loop (a b : ByteArray) (ha : a.size ≤ 4611686018427387904) : ∀ (d i k : Nat), a.size = i + d → 2 * d + 1 < k →
  (i ≤ b.size) → spec_l1Less.l0 k a b (i : Int) = some (Op.bytesLess (a.data.toList.drop i) (b.data.toList.drop i)) := by
 intro d; have hal : a.data.toList.length = a.size := rfl; have hbl : b.data.toList.length = b.size := rfl
 induction d with
 | zero =>
  intro i k hi hk hb; obtain ⟨k, rfl⟩ : ∃ j, k = j + 2 := ⟨k - 2, by omega⟩
  simp only [spec_l1Less.l0]; rw [if_neg (by omega)]; simp only [spec_l1Less.j1]; rw [if_neg (by decide), List.drop_eq_nil_of_le (show a.data.toList.length ≤ i by omega)]
  congr 1
  by_cases h : i < b.size
  ·rw [List.drop_eq_getElem_cons (show i < b.data.toList.length by omega)]; simp [Op.bytesLess]; omega
  ·rw [List.drop_eq_nil_of_le (show b.data.toList.length ≤ i by omega)]; simp [Op.bytesLess]; omega
 | succ d ih =>
  intro i k hi hk hb; obtain ⟨k, rfl⟩ : ∃ j, k = j + 2 := ⟨k - 2, by omega⟩
  simp only [spec_l1Less.l0]; rw [if_pos (by omega)]; simp only [spec_l1Less.j1]
  by_cases h : i < b.size
  ·rw [if_pos (by simp; omega), if_pos (by omega), if_pos (by omega), if_pos (by omega)]; rw [bt_get a i (by omega), bt_get b i h, bytesLess_drop _ _ i (by omega) (by omega)]; have e1 : wrap64 ((i : Int) + 1) = ((i + 1 : Nat) : Int) := by rw [w64 (by omega) (by omega)]; omega
   rw [e1]; clear e1; have hlt : ∀ x y : UInt8, (x < y) ↔ ((x.toNat : Int) < (y.toNat : Int)) := by intro x y; rw [UInt8.lt_iff_toNat_lt]; omega
   have heq : ∀ x y : UInt8, (x = y) ↔ ((x.toNat : Int) = (y.toNat : Int)) := by intro x y; rw [← UInt8.toNat_inj]; omega
   generalize a.data.toList[i]'(by omega) = x; generalize b.data.toList[i]'(by omega) = y
   by_cases hxy : x = y
   ·subst hxy; rw [if_pos rfl, ih (i + 1) k (by omega) (by omega) (by omega)]; simp
   ·rw [if_neg (fun e => hxy ((heq x y).2 e))]; simp [hxy, hlt x y]
  ·rw [if_neg (by simp; omega), List.drop_eq_nil_of_le (show b.data.toList.length ≤ i by omega)]
   congr 1
   rw [decide_eq_false (by omega)]
   cases a.data.toList.drop i <;> rfl
theorem spec_l1Less_f (a b : ByteArray) (ha : a.size ≤ 4294967296) (k : Nat) (hk : 2 * a.size + 1 < k) : spec_l1Less.f k a b = some (Op.bytesLess a.toList b.toList) := by
 unfold spec_l1Less.f; rw [ByteArray.toList_eq, ByteArray.toList_eq]; have h := l1Less_loop a b (by omega) a.size 0 k (by omega) hk (by omega)
 simpa using h
theorem bytesLess_swap : ∀ (x y : List UInt8), x ≠ y → Op.bytesLess y x = !Op.bytesLess x y
 | [], [], h => absurd rfl h
 | [], _ :: _, _ => rfl
 | _ :: _, [], _ => rfl
 | a :: x, b :: y, h => by
  simp only [Op.bytesLess]
  by_cases hab : a = b
  ·subst hab; have := bytesLess_swap x y (fun e => h (by rw [e])); have hl : ¬ a < a := by rw [UInt8.lt_iff_toNat_lt]; omega
   simp [this, hl]
  ·have h1 : ¬ b = a := fun e => hab e.symm
   have hn : a.toNat ≠ b.toNat := fun e => hab (UInt8.toNat_inj.1 e)
   simp only [beq_eq_false_iff_ne.2 hab, beq_eq_false_iff_ne.2 h1, Bool.false_and, Bool.or_false]; rw [Bool.eq_iff_iff]; simp only [decide_eq_true_eq, Bool.not_eq_true', decide_eq_false_iff_not, UInt8.lt_iff_toNat_lt]; omega
theorem strOfNums_inj : ∀ (l m : List Int), (∀ x ∈ l, 0 ≤ x ∧ x < 256) → (∀ x ∈ m, 0 ≤ x ∧ x < 256) → strOfNums l = strOfNums m → l = m := by
 have key : ∀ (l m : List Int), (∀ x ∈ l, 0 ≤ x ∧ x < 256) → (∀ x ∈ m, 0 ≤ x ∧ x < 256) → l.map (fun x => UInt8.ofNat x.toNat) = m.map (fun x => UInt8.ofNat x.toNat) → l = m := by
  intro l
  induction l with
  | nil => intro m _ _ h; cases m with | nil => rfl | cons => simp at h
  | cons a l ih =>
   intro m hl hm h
   cases m with
   | nil => simp at h
   | cons b m =>
    simp only [List.map_cons, List.cons.injEq] at h; have h1 := hl a (by simp); have h2 := hm b (by simp); have h3 := congrArg UInt8.toNat h.1; rw [UInt8.toNat_ofNat', UInt8.toNat_ofNat'] at h3; rw [ih m (fun x hx => hl x (by simp [hx])) (fun x hx => hm x (by simp [hx])) h.2, show a = b by omega]
 intro l m hl hm h; refine key l m hl hm ?_; unfold strOfNums at h; have := congrArg (fun s : ByteArray => s.data.toList) h
 simpa using this
theorem outB_range (h : List Int) : ∀ n, ∀ x ∈ outB h n, 0 ≤ x ∧ x < 256
 | 0, x, hx => by simp [outB] at hx
 | n + 1, x, hx => by
  rw [outB, List.mem_append] at hx
  rcases hx with hx | hx
  ·exact outB_range h n x hx
  ·simp only [wordB, List.mem_cons, List.not_mem_nil, or_false] at hx
   rcases hx with rfl | rfl | rfl | rfl <;> omega
theorem shaL_range (l : List UInt8) : ∀ x ∈ shaL l, 0 ≤ x ∧ x < 256 := outB_range _ _
theorem toList_inj {a b : ByteArray} : a.toList = b.toList ↔ a = b := by
 rw [ByteArray.toList_eq, ByteArray.toList_eq]; exact ⟨fun h => ByteArray.ext (Array.toList_inj.mp h), fun h => by rw [h]⟩
theorem highB_eq (a b : ByteArray) : highB a b = if (shaV a).toList = (shaV b).toList then Op.bytesLess a.toList b.toList else Op.bytesLess (shaV b).toList (shaV a).toList := by
 unfold highB aboveB
 by_cases h : shaL a.data.toList = shaL b.data.toList
 ·rw [if_pos h, if_pos (by unfold shaV; rw [h])]
 ·have h2 : (shaV a).toList ≠ (shaV b).toList := fun e => h (strOfNums_inj _ _ (shaL_range _) (shaL_range _) (toList_inj.1 e))
  rw [if_neg h, if_neg h2]; show (!Op.bytesLess (shaV a).toList (shaV b).toList && !((shaV a).toList == (shaV b).toList)) = _; rw [beq_eq_false_iff_ne.2 h2, bytesLess_swap _ _ h2]; simp
theorem spec_Higher_f (a b : ByteArray) (ha : a.size ≤ 4294967296) (hb : b.size ≤ 4294967296) (k : Nat) (hk : 2 * a.size + 2 * b.size + 200 < k) : spec_Higher.f k a b = some (highB a b) := by
 unfold spec_Higher.f; rw [spec_Sha256_f a ha k (by omega), spec_Sha256_f b hb k (by omega)]; simp only [Option.bind_some]; rw [spec_l1Less_f a b ha k (by omega), spec_l1Less_f _ _ (by rw [shaV_size]; omega) k (by rw [shaV_size]; omega), highB_eq]; simp only [Option.bind_some]
 split <;> rfl
theorem less_neg : ∀ x y z : List UInt8, Op.bytesLess x y = false → Op.bytesLess y z = false → Op.bytesLess x z = false
 | [], _, [], _, _ => rfl
 | _ :: _, _, [], _, _ => rfl
 | [], [], _ :: _, _, h => by simp [Op.bytesLess] at h
 | [], _ :: _, _ :: _, h, _ => by simp [Op.bytesLess] at h
 | a :: x, [], c :: z, _, h => by simp [Op.bytesLess] at h
 | a :: x, b :: y, c :: z, h1, h2 => by
  have ih := less_neg x y z; simp only [Op.bytesLess, Bool.or_eq_false_iff, Bool.and_eq_false_imp, decide_eq_false_iff_not, beq_iff_eq, UInt8.lt_iff_toNat_lt] at h1 h2 ⊢; have inj : ∀ p q : UInt8, p = q ↔ p.toNat = q.toNat := fun p q => UInt8.toNat_inj.symm
  refine ⟨by omega, fun e => ?_⟩; have e' := (inj _ _).1 e; have e1 : a = b := (inj _ _).2 (by omega); have e2 : b = c := (inj _ _).2 (by omega); exact ih (h1.2 e1) (h2.2 e2)
theorem less_asym : ∀ x y : List UInt8, Op.bytesLess x y = true → Op.bytesLess y x = false
 | [], [], h => by simp [Op.bytesLess] at h
 | [], _ :: _, _ => rfl
 | _ :: _, [], h => by simp [Op.bytesLess] at h
 | a :: x, b :: y, h => by
  have ih := less_asym x y; simp only [Op.bytesLess, Bool.or_eq_false_iff, Bool.and_eq_false_imp, decide_eq_false_iff_not, beq_iff_eq, UInt8.lt_iff_toNat_lt, Bool.or_eq_true, Bool.and_eq_true, decide_eq_true_eq] at h ⊢; have inj : ∀ p q : UInt8, p = q ↔ p.toNat = q.toNat := fun p q => UInt8.toNat_inj.symm
  rcases h with h | ⟨h, h2⟩
  ·refine ⟨by omega, fun e => ?_⟩; have := (inj _ _).1 e; omega
  ·have e := (inj _ _).1 h; exact ⟨by omega, fun _ => ih h2⟩
theorem less_lt (x y z : List UInt8) (h1 : Op.bytesLess x y = true) (h2 : Op.bytesLess y z = true) : Op.bytesLess x z = true := by
 cases h : Op.bytesLess x z with
 | true => rfl
 | false => rw [less_neg x z y h (less_asym _ _ h2)] at h1; cases h1
theorem str_inj {P Q : List Int} (hP : ∀ x ∈ P, 0 ≤ x ∧ x < 256) (hQ : ∀ x ∈ Q, 0 ≤ x ∧ x < 256) (h : (strOfNums P).toList = (strOfNums Q).toList) : P = Q :=
 strOfNums_inj P Q hP hQ (toList_inj.1 h)
theorem aboveB_neg (X Y Z : List Int) (a b c : ByteArray) (hX : ∀ x ∈ X, 0 ≤ x ∧ x < 256) (hY : ∀ x ∈ Y, 0 ≤ x ∧ x < 256) (hZ : ∀ x ∈ Z, 0 ≤ x ∧ x < 256) (h1 : aboveB X Y a b = false) (h2 : aboveB Y Z b c = false) : aboveB X Z a c = false := by
 unfold aboveB at h1 h2 ⊢
 by_cases e1 : X = Y
 ·subst e1; rw [if_pos rfl] at h1
  by_cases e2 : X = Z
  ·subst e2; rw [if_pos rfl] at h2 ⊢; exact less_neg _ _ _ h1 h2
  ·rw [if_neg e2] at h2 ⊢; exact h2
 ·rw [if_neg e1] at h1
  by_cases e2 : Y = Z
  ·subst e2; rw [if_neg e1]; exact h1
  ·rw [if_neg e2] at h2; have n1 : (strOfNums X).toList ≠ (strOfNums Y).toList := fun e => e1 (str_inj hX hY e)
   have n2 : (strOfNums Y).toList ≠ (strOfNums Z).toList := fun e => e2 (str_inj hY hZ e)
   rw [beq_eq_false_iff_ne.2 n1] at h1; rw [beq_eq_false_iff_ne.2 n2] at h2; simp only [Bool.not_false, Bool.and_true, Bool.not_eq_false'] at h1 h2; have h3 := less_lt _ _ _ h1 h2
   by_cases e3 : X = Z
   ·subst e3; rw [less_asym _ _ h1] at h2; cases h2
   ·rw [if_neg e3, h3]; rfl
theorem highB_neg (a b c : ByteArray) (h1 : highB a b = false) (h2 : highB b c = false) : highB a c = false :=
 aboveB_neg _ _ _ a b c (shaL_range _) (shaL_range _) (shaL_range _) h1 h2
end Go.Proofs.YtaepebkeijmjgaaDoor.Z
end
section
namespace Go.Proofs.YtaepebkeijmjgaaDoor.Z
open RowKit YtaepebkeijmjgaaDoor YtaepebkeijmjgaaDoorW.PrintWords YtaepebkeijmjgaaDoorW.PrintLast
set_option linter.all false
set_option maxRecDepth 100000
def mapS {α β : Type} (f : α → β) : Sh α → Sh β
 | .nil => .nil
 | .node x l r => .node (f x) (mapS f l) (mapS f r)
def er (x : Nd) : S77 := ⟨x.key, x.val⟩
def abP (p q : S77) : Bool := highB p.f0 q.f0
def abN (x y : Nd) : Bool := highB x.key y.key
theorem map_ins (p : Nd) : ∀ t : Sh Nd, mapS er (insR abN t p) = insR abP (mapS er t) (er p)
 | .nil => rfl
 | .node x l r => by
  rw [insR, mapS, insR, show abP (er p) (er x) = abN p x from rfl]
  split
  ·rfl
  ·rw [mapS, map_ins p r]
def ptrs (l : List Nd) : List Value := l.map fun x => ptrB x.b
structure GrowIs (base : Nat) (ps : List S77) (j : Nat) (t : Sh Nd) (v : Value) (w0 w : World) : Prop where
 inm : InM w t
 nodup : (blks t).Nodup
 ge : ∀ b ∈ blks t, base ≤ b
 own : Own w base 1 v (edge t).length (ptrs (edge t))
 apart : ∀ g, v.ownBlock = some g → g ∉ blks t
 shape : mapS er t = cart abP (ps.take j)
 down : Down abN (edge t)
 few : (edge t).length ≤ j
 below : Below base w0 w
theorem GrowIs.start (base : Nat) (ps : List S77) (w : World) : GrowIs base ps 0 .nil (.slice none 0 0) w w :=
 ⟨trivial, List.nodup_nil, fun b h => by simp [blks] at h, Own.nil _ _ _, fun g h => by simp [Value.ownBlock] at h, rfl, List.Pairwise.nil, Nat.le_refl _, Below.refl _ _⟩
theorem Own.short0 {base : Nat} {A : Option Addr} {c n : Nat} {xs : List Value} {w : World} (h : Own w base 1 (.slice A n c) n xs) (m : Nat) (hm : m ≤ n) : Own w base 1 (.slice A m c) m (xs.take m) := by
 rcases Nat.eq_zero_or_pos n with e | e
 ·obtain rfl : m = 0 := by omega
  subst e; have : xs = [] := List.eq_nil_of_length_eq_zero (by have := h.1; omega); subst this; exact h
 ·exact Z.Own.short h m hm e
theorem own_slice (A : Option Addr) (n m c : Nat) : (Value.slice A n c).ownBlock = (Value.slice A m c).ownBlock := by cases A <;> rfl
theorem GrowIs.next {base : Nat} {ps : List S77} {j : Nat} {t : Sh Nd} {v v' : Value} {w0 wi wa w' : World} {p : Nd} {m : Nat} {ob : Option Nat} (h : GrowIs base ps j t v w0 wi) (hj : ps[j]? = some (er p)) (hm : m ≤ (edge t).length) (hp : p.b ∉ blks t) (hpb : base ≤ p.b)
  (hin : InM wa (graft m t p)) (hk : ∀ x, 0 < m → (edge t)[m - 1]? = some x → abN p x = false) (hu : ∀ i x, m ≤ i → (edge t)[i]? = some x → abN p x = true)
  (hob : ob = v.ownBlock) (hg : wa.grownBy w' ob) (ho : Own w' base 1 v' (m + 1) ((ptrs (edge t)).take m ++ [ptrB p.b])) (hv : v'.ownBlock = ob ∨ ∀ k, v'.ownBlock = some k → wa.heap.size ≤ k) (hvp : v.ownBlock ≠ some p.b) (hb : Below base w0 w') :
  GrowIs base ps (j + 1) (graft m t p) v' w0 w' := by
 subst hob; have hgi := graft_ins abN p t m hm (kept_all abN (fun x y z => highB_neg _ _ _) h.down p m hk · · · hm ·) (fun x hx => hu m x (Nat.le_refl _) hx); have hlt := hin.lt; refine ⟨hin.grown hg ?_, graft_nodup p t m hm h.nodup hp, ?_, ?_, ?_, ?_, ?_, ?_, hb⟩
 ·intro k hk2 hmem
  rcases (graft_blks p t m hm k).1 hmem with e | e
  ·exact hvp (by rw [hk2, e])
  ·exact h.apart k hk2 e
 ·intro b hb2
  rcases (graft_blks p t m hm b).1 hb2 with e | e
  ·omega
  ·exact h.ge b e
 ·rw [graft_edge p t m hm]; have e : ((edge t).take m ++ [p]).length = m + 1 := by rw [List.length_append, List.length_take, List.length_singleton]; omega
  rw [e]; unfold ptrs at ho ⊢; rw [List.map_append, List.map_take]; exact ho
 ·intro g hg2 hmem
  rcases hv with e | e
  ·rw [e] at hg2
   rcases (graft_blks p t m hm g).1 hmem with e2 | e2
   ·exact hvp (by rw [hg2, e2])
   ·exact h.apart g hg2 e2
  ·have := e g hg2; have := hlt g hmem; omega
 ·rw [hgi, map_ins, h.shape]; have hl : j < ps.length := by
   rcases Nat.lt_or_ge j ps.length with g | g
   ·exact g
   ·rw [List.getElem?_eq_none g] at hj; cases hj
  rw [List.take_succ_eq_append_getElem hl, cart_snoc]; rw [List.getElem?_eq_getElem hl] at hj; rw [Option.some.inj hj]
 ·rw [graft_edge p t m hm]; refine down_snoc abN (h.down.sublist (List.take_sublist _ _)) (fun x hx => ?_); obtain ⟨i, hi, rfl⟩ := List.getElem_of_mem hx; rw [List.length_take] at hi; have := kept_all abN (fun x y z => highB_neg _ _ _) h.down p m hk i (edge t)[i] (by omega) hm (List.getElem?_eq_getElem (by omega)); rw [List.getElem_take]; exact this
 ·rw [graft_edge p t m hm, List.length_append, List.length_take, List.length_singleton]; have := h.few; omega
theorem wpStill_loadG {P : Program} {ops : Array Oper} {w : World} {Q : Act → Prop} {a : Act} {o : Oper} {rest : List Oper} (hw : Region.wanted o (yielded ops a.tmps) = true) (ty : TypeId) (x : Operand) (ho : o.op = .load ty x) (p v : Value) (hx : a.eval x = p)
  (hrun : (Instr.loadAt ty p).run P w = .ok v w) (h : wpStill P ops w Q rest (a.put o.dst v)) : wpStill P ops w Q (o :: rest) a := by
 unfold wpStill; rw [if_pos hw]; unfold Oper.still execOp; simp only [ho, hx, Sem.run_bind, hrun, Result.andThen_ok, Sem.run_pure]; exact ⟨rfl, h⟩
structure InnIs (t : Sh Nd) (p : Nd) (m : Nat) (wi w : World) : Prop where
 le : m ≤ (edge t).length
 row : w.heap[p.b]? = some (.cells (rowT p (ptrT (sub m t)) (.pointer none)) 136 (0, 0))
 grown : wi.grownBy w (some p.b)
 up : ∀ i x, m ≤ i → (edge t)[i]? = some x → abN p x = true
theorem infoTree : (Tryd.prog.info? 129).map (fun i => (i.zero, i.size, i.bytes)) = some (some (.pointer none), 1, 8) := by kernel_rfl
theorem rd_pair (ps : List S77) (j : Nat) (h : j < ps.length) : rd_T77 ps (j : Int) = ps[j] := by
 unfold rd_T77; rw [Int.toNat_natCast, List.getD_eq_getElem?_getD, List.getElem?_eq_getElem h]; rfl
theorem heldPI {u : World} {b : Nat} {k v : ByteArray} (h1 : u.cell? ⟨b, 0, none⟩ = some (.string k)) (h2 : u.cell? ⟨b, 1, none⟩ = some (.string v)) (h3 : Tab u) : u.cell? ⟨b, 0, none⟩ = some (.string k) ∧ u.cell? ⟨b, 1, none⟩ = some (.string v) ∧ Tab u := ⟨h1, h2, h3⟩
theorem heldPB {u w1 : World} {b : Nat} {k v : ByteArray} (hb : Below u.heap.size u w1) (h : u.cell? ⟨b, 0, none⟩ = some (.string k) ∧ u.cell? ⟨b, 1, none⟩ = some (.string v) ∧ Tab u) : w1.cell? ⟨b, 0, none⟩ = some (.string k) ∧ w1.cell? ⟨b, 1, none⟩ = some (.string v) ∧ Tab w1 := ⟨cellB hb h.1, cellB hb h.2.1, h.2.2.below hb⟩
theorem heldPD {u : World} {b : Nat} {k v : ByteArray} (h : u.cell? ⟨b, 0, none⟩ = some (.string k) ∧ u.cell? ⟨b, 1, none⟩ = some (.string v) ∧ Tab u) : u.drew.cell? ⟨b, 0, none⟩ = some (.string k) ∧ u.drew.cell? ⟨b, 1, none⟩ = some (.string v) ∧ Tab u.drew := h
theorem heldPA {u : World} {b : Nat} {k v : ByteArray} (o : Obj) (h : u.cell? ⟨b, 0, none⟩ = some (.string k) ∧ u.cell? ⟨b, 1, none⟩ = some (.string v) ∧ Tab u) : (u.alloc o).cell? ⟨b, 0, none⟩ = some (.string k) ∧ (u.alloc o).cell? ⟨b, 1, none⟩ = some (.string v) ∧ Tab (u.alloc o) := heldPB ((Below.refl _ _).alloc (Nat.le_refl _) o) h
theorem hashOne_at (s : ByteArray) (g : Nat) (W : World) (hc : W.cell? ⟨g, 0, none⟩ = some (.string s)) (ht : Tab W) (hs : s.size ≤ 4294967296) :
  Calls Tryd.prog 128 #[.slice (some ⟨g, 0, none⟩) 1 1] W fun e w' => e = .returned (hashV (keyL s)) ∧ Below W.heap.size W w' := by
 have h := hashOf_any g [s] W (fun j p hj => by
  match j, hj with
  | 0, hj =>
   simp only [List.getElem?_cons_zero, Option.some.injEq] at hj; subst hj; exact hc) ht (by rw [catL_one]; exact hs) (by simp) (World.block_lt_of_cell? _ ⟨g, 0, none⟩ hc)
 rw [catL_one] at h; exact h
theorem list32 {α : Type} (l : List α) (h : l.length = 32) : ∃ x0 x1 x2 x3 x4 x5 x6 x7 x8 x9 x10 x11 x12 x13 x14 x15 x16 x17 x18 x19 x20 x21 x22 x23 x24 x25 x26 x27 x28 x29 x30 x31, l = [x0, x1, x2, x3, x4, x5, x6, x7, x8, x9, x10, x11, x12, x13, x14, x15, x16, x17, x18, x19, x20, x21, x22, x23, x24, x25, x26, x27, x28, x29, x30, x31] :=
 match l, h with
 | [x0, x1, x2, x3, x4, x5, x6, x7, x8, x9, x10, x11, x12, x13, x14, x15, x16, x17, x18, x19, x20, x21, x22, x23, x24, x25, x26, x27, x28, x29, x30, x31], _ => ⟨x0, x1, x2, x3, x4, x5, x6, x7, x8, x9, x10, x11, x12, x13, x14, x15, x16, x17, x18, x19, x20, x21, x22, x23, x24, x25, x26, x27, x28, x29, x30, x31, rfl⟩
theorem GrowIs.after {base : Nat} {ps : List S77} {j : Nat} {t : Sh Nd} {v : Value} {w0 w w1 : World} (h : GrowIs base ps j t v w0 w) (hb : Below w.heap.size w w1) (hw : base ≤ w.heap.size) : GrowIs base ps j t v w0 w1 :=
 { h with inm := h.inm.below hb, own := h.own.below hb, below := h.below.trans (hb.mono hw) }
set_option maxHeartbeats 4000000 in
theorem grow_any (A0 : Option Addr) (c0 : Nat) (ps : List S77) (W : Nat) (hW1 : 1 ≤ W) (hW2 : W ≤ 32) (w : World) (hr0 : Kd.C k77 w A0 ps.length ps) (hc0 : ps.length ≤ c0) (hlen : ps.length ≤ 1048576) (hsz : ∀ p ∈ ps, p.f0.size ≤ 4294967296) (hT : Tab w) :
  Calls Tryd.prog 76 #[.slice A0 ps.length c0, .int .i64 W] w fun e w' => ∃ t, e = .returned (ptrT (sealT W t)) ∧ InM w' (sealT W t) ∧ (blks t).Nodup ∧ (∀ b ∈ blks t, w.heap.size ≤ b) ∧ mapS er t = cart abP ps ∧ Below w.heap.size w w' := by
 have HR := Lib.hid hr0; clear hr0; have HS := Lib.hid hsz; clear hsz; have HT := Lib.hid hT; clear hT; obtain ⟨W1, hWE⟩ : ∃ W1, W1 = w.alloc (.cells #[.int .i64 W] 3) := ⟨_, rfl⟩
 have hz1 : W1.heap.size = w.heap.size + 1 := by rw [hWE]; simp
 have hB1 : Below w.heap.size w W1 := by rw [hWE]; exact (Below.refl _ _).alloc (Nat.le_refl _) _
 have hV1 : W1.heap[w.heap.size]? = some (.cells #[.int .i64 W] 3 (0, 0)) := by rw [hWE]; exact heap_alloc_new w _
 have HWE := Lib.hid hWE; have HB1 := Lib.hid hB1; have HV1 := Lib.hid hV1; clear hWE hB1 hV1
 go_enter Tryd.func76, Tryd.ntmps76
 go_upto_region 1 with fail
 rw [← HWE.out]
 go_wp2_with fail
 go_loopw [5, 11] (fun v i wr => ∃ (j : Nat) (t : Sh Nd), j ≤ ps.length ∧ i = .int .i64 j ∧ GrowIs (w.heap.size + 1) ps j t v W1 wr) (fun _ i _ => ps.length - (intOf i).toNat)
 case atStart => exact ⟨0, .nil, by omega, rfl, by rw [← hz1]; exact GrowIs.start _ _ _⟩
 case round =>
  obtain ⟨j, t, hj, rfl, hG⟩ := hrel; obtain ⟨A, c, rfl⟩ := hG.own.form; have HG := Lib.hid hG; clear hG; have HBw := Lib.hid (HB1.out.trans (HG.out.below.mono (by omega)))
  by_cases hl : j < ps.length
  ·obtain ⟨ad, e, hx0, hx1⟩ := at_T77 HR.out (j : Int) (by omega) (by omega)
   cases e
   rw [rd_pair ps j hl] at hx0 hx1; have hks := HS.out ps[j] (List.getElem_mem _); obtain ⟨⟨k, v⟩, hp⟩ : ∃ p, ps[j] = p := ⟨_, rfl⟩
   rw [hp] at hx0 hx1 hks; have HP := Lib.hid hp; clear hp; dsimp only at hx0 hx1 hks; replace hx0 := (HBw.out.cell (World.block_lt_of_cell? w _ hx0)).trans hx0; replace hx1 := (HBw.out.cell (World.block_lt_of_cell? w _ hx1)).trans hx1; rw [Int.toNat_natCast] at hx0 hx1; have hj0 : (0 : Int) ≤ (j : Int) := by omega
   have hj1 : (j : Int) < (ps.length : Int) := by omega
   go_upto_region 5 with fail
   obtain ⟨W2, hWE2⟩ : ∃ W2, W2 = wr.alloc (.cells #[.string k, .string v] 77) := ⟨_, rfl⟩
   rw [← hWE2]; have hz2 : W2.heap.size = wr.heap.size + 1 := by rw [hWE2]; simp
   have hb2 : Below wr.heap.size wr W2 := by rw [hWE2]; exact (Below.refl _ _).alloc (Nat.le_refl _) _
   have hn2 : W2.heap[wr.heap.size]? = some (.cells #[.string k, .string v] 77 (0, 0)) := by rw [hWE2]; exact heap_alloc_new wr _
   have p0 : W2.cell? ⟨wr.heap.size, 0, none⟩ = some (.string k) := (cell_of_row _ _ _ _ _ _ hn2).trans rfl; have p1 : W2.cell? ⟨wr.heap.size, 1, none⟩ = some (.string v) := (cell_of_row _ _ _ _ _ _ hn2).trans rfl; have hT2 := HT.out.below (HBw.out.trans (hb2.mono HBw.out.size)); have hq : (W2.alloc (.cells #[.string k] 9)).drew.cell? ⟨wr.heap.size + 1, 0, none⟩ = some (.string k) := by
    rw [← hz2]; exact (cell_of_row _ _ _ _ _ _ (heap_alloc_new W2 _)).trans rfl
   have HQ := Lib.hid (hashOne_at k _ _ hq (hT2.below ((Below.refl _ _).alloc (Nat.le_refl _) _).drew) hks); obtain ⟨x0, x1, x2, x3, x4, x5, x6, x7, x8, x9, x10, x11, x12, x13, x14, x15, x16, x17, x18, x19, x20, x21, x22, x23, x24, x25, x26, x27, x28, x29, x30, x31, hxs⟩ := list32 (keyL k) (keyL_length k); have HXS := Lib.hid hxs; have hvx : hashV (keyL k) = .agg #[.int .u8 x0, .int .u8 x1, .int .u8 x2, .int .u8 x3, .int .u8 x4, .int .u8 x5, .int .u8 x6, .int .u8 x7, .int .u8 x8, .int .u8 x9, .int .u8 x10, .int .u8 x11, .int .u8 x12, .int .u8 x13, .int .u8 x14, .int .u8 x15, .int .u8 x16, .int .u8 x17, .int .u8 x18, .int .u8 x19, .int .u8 x20, .int .u8 x21, .int .u8 x22, .int .u8 x23, .int .u8 x24, .int .u8 x25, .int .u8 x26, .int .u8 x27, .int .u8 x28, .int .u8 x29, .int .u8 x30, .int .u8 x31] := by unfold hashV; rw [hxs]; rfl
   rw [hvx] at HQ; have HB2 := Lib.hid hb2; clear hxs hvx; have HN2 := Lib.hid hn2; clear hWE2 hb2 hn2 hq hx0 hx1 hj0 hj1
   go_region_held3 (fun w' => w'.cell? ⟨wr.heap.size, 0, none⟩ = some (.string k) ∧ w'.cell? ⟨wr.heap.size, 1, none⟩ = some (.string v) ∧ Tab w')
    (repeat' (first | (with_reducible assumption) | (with_reducible exact heldPI p0 p1 hT2) | (with_reducible refine heldPD ?_) | (with_reducible refine heldPA _ ?_) | (with_reducible refine heldPB (by assumption) ?_)))
    (first | (go_at_call 128; refine (HQ.out).mono ?_; rintro e w3 ⟨rfl, hb3⟩))
   obtain ⟨W4, hWE4⟩ : ∃ W4, W4 = w3.alloc (.cells #[.string k, .string v, .int .u8 x0, .int .u8 x1, .int .u8 x2, .int .u8 x3, .int .u8 x4, .int .u8 x5, .int .u8 x6, .int .u8 x7, .int .u8 x8, .int .u8 x9, .int .u8 x10, .int .u8 x11, .int .u8 x12, .int .u8 x13, .int .u8 x14, .int .u8 x15, .int .u8 x16, .int .u8 x17, .int .u8 x18, .int .u8 x19, .int .u8 x20, .int .u8 x21, .int .u8 x22, .int .u8 x23, .int .u8 x24, .int .u8 x25, .int .u8 x26, .int .u8 x27, .int .u8 x28, .int .u8 x29, .int .u8 x30, .int .u8 x31, .pointer none, .pointer none, .string ⟨#[]⟩, .string ⟨#[]⟩] 136) := ⟨_, rfl⟩
   rw [← hWE4]; obtain ⟨nb, hnb⟩ : ∃ nb, w3.heap.size = nb := ⟨_, rfl⟩
   have hrow4 : W4.heap[nb]? = some (.cells (rowT ⟨nb, k, v, ⟨#[]⟩, ⟨#[]⟩⟩ (.pointer none) (.pointer none)) 136 (0, 0)) := by
    rw [hWE4, ← hnb, heap_alloc_new]; unfold rowT rowL; rw [HXS.out]; rfl
   have hb23 : Below W2.heap.size W2 w3 := ((Below.refl _ _).alloc (Nat.le_refl _) _).drew.trans (hb3.mono (by simp)); have hb4 : Below wr.heap.size wr W4 := by
    rw [hWE4]; exact (HB2.out.trans (hb23.mono (by omega))).alloc (by have := hb23.size; omega) _
   have hn4 : W4.heap[wr.heap.size]? = some (.cells #[.string k, .string v] 77 (0, 0)) := by
    rw [hWE4, heap_alloc_old _ _ (by have := hb23.size; omega)]; exact (hb23.block _ (by omega)).trans HN2.out
   have hzn : wr.heap.size < nb := by have := hb23.size; omega
   have hG4 := HG.out.after hb4 (by have := HG.out.below.size; omega); have hnt : nb ∉ blks t := fun h => by have := HG.out.inm.lt nb h; omega
   have hgv : ∀ g, (Value.slice A (edge t).length c).ownBlock = some g → g < wr.heap.size := fun g h => (HG.out.own.lt g h).2
   rw [hnb]; have HROW := Lib.hid hrow4; have HB4 := Lib.hid hb4; have HN4 := Lib.hid hn4; have HG4 := Lib.hid hG4; have HNT := Lib.hid hnt; have HGV := Lib.hid hgv; have hwo : w.heap.size + 1 ≤ wr.heap.size := by have := HG.out.below.size; omega
   clear hWE4 hnb hrow4 hb4 hn4 hG4 hnt hgv hb3 hb23 HG p0 p1 HQ HXS HB2 HN2 hz2; obtain ⟨wo, rfl⟩ : ∃ wo : World, wo = wr := ⟨_, rfl⟩
   go_wp2_with fail
   go_loopw [5] (fun u w2 => ∃ m, u = .slice A m c ∧ InnIs t ⟨nb, k, v, ⟨#[]⟩, ⟨#[]⟩⟩ m W4 w2) (fun u _ => lenOf u)
   case atStart => exact ⟨_, rfl, Nat.le_refl _, by rw [sub_end]; exact HROW.out, grown_refl _ _, fun i x hi hx => by rw [List.getElem?_eq_none hi] at hx; cases hx⟩
   case round =>
    obtain ⟨m, rfl, hI⟩ := hrel; have hle := hI.le; have hown := Own.short0 (HG4.out.own.grown hI.grown (fun q hq h => by have := HGV.out q hq; have : _ = nb := Option.some.inj h; omega)) m hle; have HI := Lib.hid hI; clear hI; have HO := Lib.hid hown; have hzg := HI.out.grown.size; have hz4 := HB4.out.size; have hln := HG4.out.own.bound; have hfew := HG4.out.few; have hbw := HG4.out.below.size
    cases m with
    | zero =>
     clear hown
     go_wp2_with fail
     go_quiet (fail)
     obtain ⟨wq, hwq⟩ : ∃ wq, wq = wr.drewN nq := ⟨_, rfl⟩
     rw [← hwq]; have hbq : Below wr.heap.size wr wq := by rw [hwq]; exact bdrewN (Below.refl _ _) nq
     have HIN : Hid (InM wq (graft 0 t ⟨nb, k, v, ⟨#[]⟩, ⟨#[]⟩⟩)) := Lib.hid (InM.graft0 ((HG4.out.inm.grown HI.out.grown (fun q hq => by cases hq; exact HNT.out)).below hbq) ((hbq.block nb (lt_of_block HI.out.row)).trans HI.out.row)); have HOQ := Lib.hid (HO.out.below hbq); have HBQ := Lib.hid ((HG4.out.below.grown HI.out.grown (by omega) (fun q hq => by have : nb = q := Option.some.inj hq; omega)).trans (hbq.mono (by omega))); have hzq := hbq.size; clear hwq hbq; have HK : Hid (∀ x, 0 < 0 → (edge t)[0 - 1]? = some x → abN ⟨nb, k, v, ⟨#[]⟩, ⟨#[]⟩⟩ x = false) := Lib.hid (fun x h0 _ => absurd h0 (Nat.lt_irrefl 0))
     (have HOWN := Lib.hid (HOQ.out.alloc (.cells #[.pointer (some ⟨nb, 0, none⟩)] 129)); have HSRC := Lib.hid (src_one wq 193 129 129 Tryd.underlying193 (.pointer (some ⟨nb, 0, none⟩)) rfl); go_wp2_with (at_builtin; go_loud (refine wpList_app (w.heap.size + 1) rfl _ _ 193 193 rfl 129 (.pointer none) 1 8 Tryd.underlying193 infoTree rfl rfl HOWN.out _ 1 [.pointer (some ⟨nb, 0, none⟩)] rfl HSRC.out (by unfold maxLen; omega) (by omega) (by simp; omega) ?_; intro v' w' hown' hgrow hvv; obtain ⟨A', c', rfl⟩ := hown'.form; have HO' := Lib.hid hown'; have HG' := Lib.hid hgrow; have HV' := Lib.hid hvv; clear hown' hgrow hvv)); refine ⟨⟨j + 1, graft 0 t ⟨nb, k, v, ⟨#[]⟩, ⟨#[]⟩⟩, by omega, by go_num, HG4.out.next (p := ⟨nb, k, v, ⟨#[]⟩, ⟨#[]⟩⟩) (by rw [List.getElem?_eq_getElem hl, HP.out]; rfl) (Nat.zero_le _) HNT.out (by show _ ≤ nb; omega) (HIN.out.below ((Below.refl _ _).alloc (Nat.le_refl _) _)) (HK.out) HI.out.up (own_slice _ _ _ _) HG'.out HO'.out HV'.out (fun h => by have : nb < wo.heap.size := HGV.out _ h; omega) ((HBQ.out.alloc (by omega) _).grown HG'.out (by simp; omega) (fun q hq => (HOQ.out.lt q hq).1))⟩, by simp [intOf]; omega⟩)
    | succ m =>
     obtain ⟨e, he⟩ : ∃ e, (edge t)[m]? = some e := ⟨_, List.getElem?_eq_getElem (by omega)⟩
     have hem := edge_blks t e (List.mem_of_getElem? he); have hebn : e.b ≠ nb := fun h => HNT.out (h ▸ hem)
     obtain ⟨l, r, hre⟩ := HG4.out.inm.edge m e he; have hre1 := (HI.out.grown.block e.b (lt_of_block hre) (fun h => hebn (Option.some.inj h))).trans hre; obtain ⟨g, cap, hv, hg1, hg2, hg3, hg4, hg5⟩ := hown.at (by omega)
     cases hv
     have hci := hg4 m (by omega); rw [List.getElem?_take, if_pos (by omega), ptrs, List.getElem?_map, he, Option.map_some] at hci; have he0 := (cell_of_row _ _ _ _ _ _ hre1).trans (rowT_key _ _ _); have kl1 := rank_load (w := wr.drew) (x := ⟨nb, k, v, ⟨#[]⟩, ⟨#[]⟩⟩) (show wr.heap[nb]? = _ from HI.out.row); have kl2 := rank_load (w := wr.drew) (x := e) (show wr.heap[e.b]? = _ from hre1); have hnb4 := lt_of_block HROW.out; have pv0 : wr.cell? ⟨wo.heap.size, 0, none⟩ = some (.string k) := (cell_of_row _ _ _ _ _ _ ((HI.out.grown.block _ (by omega) (fun h => by have : _ = nb := Option.some.inj h; omega)).trans HN4.out)).trans rfl; have hb35 := (cell_of_row _ _ 35 _ _ _ hre1).trans (rowT_right _ _ _); have hf35 := frozen_of_row _ _ 35 _ _ hre1; have hb34 := (cell_of_row _ _ 34 _ _ _ HI.out.row).trans (rowT_left _ _ _); have hf34 := frozen_of_row _ _ 34 _ _ HI.out.row; have HKL1 := Lib.hid kl1; have HKL2 := Lib.hid kl2; have HE := Lib.hid he; have HEM := Lib.hid hem; have HRE := Lib.hid hre1; obtain ⟨M, hM⟩ : ∃ M, m + 1 = M := ⟨_, rfl⟩
     have hM0 : 0 < M := by omega
     have hMi : (0 : Int) < (M : Int) := by omega
     have hw : IntKind.i64.wrap ((M : Int) - 1) = (m : Int) := by
      rw [show (M : Int) - 1 = (m : Int) by omega]; exact wrapN m (by unfold maxLen at hln; omega)
     have hm0 : (0 : Int) ≤ (m : Int) := by omega
     have hmM : m < M := by omega
     have hmc : m ≤ c := by omega
     have hc0 : ¬ (0 = c) := by omega
     rw [hM] at HI HO hle hg3 ⊢; have HM := Lib.hid hM; clear kl1 kl2 hre1 hre he hown hem hg4 hg5 hg1 hM; unfold ptrB at hci; dsimp only at hb34 hf34
     by_cases hab : abN ⟨nb, k, v, ⟨#[]⟩, ⟨#[]⟩⟩ e = true
     ·have HAB : Hid (aboveB (keyL k) (keyL e.key) k e.key = true) := Lib.hid hab; clear hab
      go_wp2_with fail
      go_still_tail 29, (by kernel_rfl)
      go_loud (refine wpStill_loadG (by rfl) 133 _ rfl _ (hashV (keyL k)) rfl HKL1.out ?_)
      repeat still_step
      go_loud (refine wpStill_loadG (by rfl) 133 _ rfl _ (hashV (keyL e.key)) rfl HKL2.out ?_)
      repeat still_step
      try refine wpStill_nil ?_
      change wpList _ _ _ _ _ wr.drew
      go_wp2_with fail
      refine (above_any (keyL k) (keyL e.key) (keyL_length _) (keyL_length _) k e.key _).mono ?_; rintro e' w5 ⟨rfl, hb5⟩; rw [HAB.out]; have hb6 : Below wr.heap.size wr w5 := (Below.refl _ _).drew.trans hb5; have hci5 := cellB hb6 hci; have hrow5 := (hb6.block nb (lt_of_block HI.out.row)).trans HI.out.row; have HB6 := Lib.hid hb6; have HROW5 := Lib.hid hrow5; have h34 := (cell_of_row _ _ 34 _ _ _ hrow5).trans (rowT_left _ _ _); have f34 := frozen_of_row _ _ 34 _ _ hrow5; clear hb34 hf34 hb35 hf35 hb5 hb6 hrow5 hci he0 pv0
      go_wp2_with fail
      go_roundw
      case rel =>
       refine ⟨m, rfl, by omega, ?_, gTwo HI.out.grown (gTwo (gBelow HB6.out _) (gSet _ _ _ _) (.inl rfl)) (.inl rfl), fun i x hi hx => ?_⟩
       ·rw [sub_ptr t m e HE.out]; exact blk_put HROW5.out 34 _ (rowT_setLeft _ _ _ _)
       ·rcases Nat.eq_or_lt_of_le hi with h | h
        ·subst h; rw [HE.out] at hx; cases hx; exact HAB.out
        ·exact HI.out.up i x (by have := HM.out; omega) hx
      case measure => simp; omega
     ·have hab2 : abN ⟨nb, k, v, ⟨#[]⟩, ⟨#[]⟩⟩ e = false := Bool.eq_false_iff.2 hab; have HAB : Hid (aboveB (keyL k) (keyL e.key) k e.key = false) := Lib.hid hab2; clear hab
      go_wp2_with fail
      go_still_tail 29, (by kernel_rfl)
      go_loud (refine wpStill_loadG (by rfl) 133 _ rfl _ (hashV (keyL k)) rfl HKL1.out ?_)
      repeat still_step
      go_loud (refine wpStill_loadG (by rfl) 133 _ rfl _ (hashV (keyL e.key)) rfl HKL2.out ?_)
      repeat still_step
      try refine wpStill_nil ?_
      change wpList _ _ _ _ _ wr.drew
      go_wp2_with fail
      refine (above_any (keyL k) (keyL e.key) (keyL_length _) (keyL_length _) k e.key _).mono ?_; rintro e' w5 ⟨rfl, hb5⟩; rw [HAB.out]; have hb6 : Below wr.heap.size wr w5 := (Below.refl _ _).drew.trans hb5; have hci5 := cellB hb6 hci; have hrow5 := (hb6.block nb (lt_of_block HI.out.row)).trans HI.out.row; have HB6 := Lib.hid hb6; have HROW5 := Lib.hid hrow5; have hre5 := (hb6.block e.b (lt_of_block HRE.out)).trans HRE.out; have h35 := (cell_of_row _ _ 35 _ _ _ hre5).trans (rowT_right _ _ _); have f35 := frozen_of_row _ _ 35 _ _ hre5; have HIN5 := Lib.hid ((HG4.out.inm.grown HI.out.grown (fun q hq => by cases hq; exact HNT.out)).below hb6); have HO5 := Lib.hid (HO.out.below hb6); clear hb34 hf34 hb35 hf35 hb5 hb6 hrow5 hci he0 pv0 hre5
      go_upto_region 11 with fail
      obtain ⟨wq, hwq⟩ : ∃ wq, wq = w5.setCell ⟨e.b, 35, none⟩ (.pointer (some ⟨nb, 0, none⟩)) := ⟨_, rfl⟩
      rw [← hwq]; have HIN : Hid (InM wq (graft M t ⟨nb, k, v, ⟨#[]⟩, ⟨#[]⟩⟩)) := Lib.hid (by
       rw [hwq]; have hM := HM.out; subst hM; exact InM.graft (p := ⟨nb, k, v, ⟨#[]⟩, ⟨#[]⟩⟩) m e HIN5.out HG4.out.nodup HNT.out HE.out HROW5.out)
      have HOQ := Lib.hid (HO5.out.set (p := ⟨e.b, 35, none⟩) (fun h => HG4.out.apart e.b h HEM.out) (.pointer (some ⟨nb, 0, none⟩))); rw [← hwq] at HOQ; have HBQ : Hid (Below (w.heap.size + 1) W1 wq) := Lib.hid (by
       rw [hwq]; exact ((HG4.out.below.grown HI.out.grown (by omega) (fun q hq => by have : nb = q := Option.some.inj hq; omega)).trans (HB6.out.mono (by omega))).setCell (by have := HG4.out.ge e.b HEM.out; show _ ≤ e.b; omega) _)
      have hzq : wr.heap.size ≤ wq.heap.size := by rw [hwq]; simpa using HB6.out.size
      clear hwq h35 f35 hci5; have HK : Hid (∀ x, 0 < M → (edge t)[M - 1]? = some x → abN ⟨nb, k, v, ⟨#[]⟩, ⟨#[]⟩⟩ x = false) := Lib.hid (fun x _ hx => by rw [← HM.out, Nat.add_sub_cancel, HE.out] at hx; cases hx; exact HAB.out)
      (have HOWN := Lib.hid (HOQ.out.alloc (.cells #[.pointer (some ⟨nb, 0, none⟩)] 129)); have HSRC := Lib.hid (src_one wq 193 129 129 Tryd.underlying193 (.pointer (some ⟨nb, 0, none⟩)) rfl); go_wp2_with (at_builtin; go_loud (refine wpList_app (w.heap.size + 1) rfl _ _ 193 193 rfl 129 (.pointer none) 1 8 Tryd.underlying193 infoTree rfl rfl HOWN.out _ 1 [.pointer (some ⟨nb, 0, none⟩)] rfl HSRC.out (by unfold maxLen; omega) (by omega) (by simp; omega) ?_; intro v' w' hown' hgrow hvv; obtain ⟨A', c', rfl⟩ := hown'.form; have HO' := Lib.hid hown'; have HG' := Lib.hid hgrow; have HV' := Lib.hid hvv; clear hown' hgrow hvv)); refine ⟨⟨j + 1, graft M t ⟨nb, k, v, ⟨#[]⟩, ⟨#[]⟩⟩, by omega, by go_num, HG4.out.next (p := ⟨nb, k, v, ⟨#[]⟩, ⟨#[]⟩⟩) (by rw [List.getElem?_eq_getElem hl, HP.out]; rfl) (hle) HNT.out (by show _ ≤ nb; omega) (HIN.out.below ((Below.refl _ _).alloc (Nat.le_refl _) _)) (HK.out) HI.out.up (own_slice _ _ _ _) HG'.out HO'.out HV'.out (fun h => by have : nb < wo.heap.size := HGV.out _ h; omega) ((HBQ.out.alloc (by omega) _).grown HG'.out (by simp; omega) (fun q hq => (HOQ.out.lt q hq).1))⟩, by simp [intOf]; omega⟩)
  ·obtain rfl : j = ps.length := by omega
   have hsh := HG.out.shape; rw [List.take_length] at hsh; have HSH := Lib.hid hsh; clear hsh hl hj; have hV := (HG.out.below.block w.heap.size (by omega)).trans HV1.out; have HV := Lib.hid hV; have HTr := Lib.hid (HT.out.below HBw.out); have htl := HT.out.lt
   cases t with
   | nil =>
    have hz : (edge (Sh.nil : Sh Nd)).length = 0 := rfl; rw [hz]; clear hV hz
    go_wp2
    go_ret
    exact ⟨.nil, rfl, trivial, List.nodup_nil, fun b h => by simp [blks] at h, HSH.out, HBw.out⟩
   | node x l r =>
    obtain ⟨n, hn⟩ : ∃ n, (edge (Sh.node x l r)).length = n + 1 := ⟨(edge r).length, by rw [edge, List.length_cons]⟩
    obtain ⟨g, cap, hv, hg1, hg2, hg3, hg4, hg5⟩ := HG.out.own.at (by omega)
    cases hv
    have hci := hg4 0 (by omega); rw [ptrs, edge, List.map_cons, List.getElem?_cons_zero] at hci; have hap := HG.out.apart g rfl; have hmf : ∀ (fn : Fn) (first cap : Array Value) (w : World), (Instr.makeFunc fn first cap).run Tryd.prog w = .ok (.func fn first cap) w := fun _ _ _ _ => rfl
    have hVn : w.heap.size ∉ blks (.node x l r) := fun h => by have := HG.out.ge _ h; omega
    have hTn : 0 ∉ blks (.node x l r) := fun h => by have := HG.out.ge _ h; omega
    rw [hn]; have HN := Lib.hid hn; have HCI := Lib.hid hci; have HEA := Lib.hid (eachSeal_any w.heap.size W hW1 hW2 (.node x l r) wr HG.out.inm HG.out.nodup hV hVn HTr.out hTn); unfold ptrB at hci; have e1 : ((((n + 1 : Nat) : Int) == 0) = false) := by rw [beq_eq_false_iff_ne]; omega
    have h1 : (0 : Int) < ((n + 1 : Nat) : Int) := by omega
    clear hn hg4 hg5 hg1 hap hVn hTn hV
    go_wp2_with fail
    refine (HEA.out).mono ?_; rintro e w2 ⟨rfl, hi2, hf2⟩; have hci2 : w2.cell? ⟨g, 0, none⟩ = some (.pointer (some ⟨x.b, 0, none⟩)) := (World.cell?_of_block (a := ⟨g, 0, none⟩) (hf2.block g hg2 (HG.out.apart g rfl))).trans hci; have HI2 := Lib.hid hi2; have HF2 := Lib.hid hf2; clear hi2 hf2 hci
    go_wp2
    go_ret
    exact ⟨_, rfl, HI2.out, HG.out.nodup, fun b h => by have := HG.out.ge b h; omega, HSH.out, HBw.out.trans (HF2.out.below HBw.out.size (fun b h => by have := HG.out.ge b h; omega))⟩
end Go.Proofs.YtaepebkeijmjgaaDoor.Z
end
section
namespace Go.Proofs.YtaepebkeijmjgaaDoor.Z
open RowKit YtaepebkeijmjgaaDoorW.PrintWords YtaepebkeijmjgaaDoorW.PrintLast YtaepebkeijmjgaaDoorW.PrintMore
attribute [local go_sem] max2_int min2_int max_two min_two max_three min_three max_four min_four
set_option linter.all false
def impl_pairFits.f (a0 : ByteArray) (a1 : ByteArray) : Option (Bool) := if (a0.size : Int) ≥ 1 then (if (a0.size : Int) ≤ 256 then (some (decide ((a1.size : Int) ≤ 2000))) else (some false)) else (some false)
set_option maxHeartbeats 8000000 in
set_option maxRecDepth 100000 in
theorem impl_pairFits.calls (a0 : ByteArray) (a1 : ByteArray) (r : Bool) (w : World) (h : impl_pairFits.f a0 a1 = some r) :
  Calls Tryd.prog 127 #[.string a0, .string a1] w fun e w' => e = .returned (.bool r) ∧ Drawn0 w w' := by
 have H : (if (a0.size : Int) ≥ 1 then (if (a0.size : Int) ≤ 256 then (some (decide ((a1.size : Int) ≤ 2000))) else (some false)) else (some false)) = some r := h; clear h
 by_cases c3 : (a0.size : Int) ≥ 1
 ·rw [if_pos c3] at H; have c3b0 : decide (1 ≤ (a0.size : Int)) = true := decide_eq_true c3; have c3b1 : decide (1 ≤ a0.size) = true := decide_eq_true (by omega); clear c3
  by_cases c4 : (a0.size : Int) ≤ 256
  ·rw [if_pos c4] at H; have c4b0 : decide ((a0.size : Int) ≤ 256) = true := decide_eq_true c4; have c4b1 : decide (a0.size ≤ 256) = true := decide_eq_true (by omega); clear c4; obtain rfl := Option.some.inj H
   go_enter Tryd.func127, Tryd.ntmps127
   go_wp2
   go_ret
   exact ⟨by first | rfl | (simp; done) | (simp [*]; done), by repeat (first | exact Drawn0.refl _ | apply Drawn0.step)⟩
  ·rw [if_neg c4] at H; have c4b0 : decide ((a0.size : Int) ≤ 256) = false := decide_eq_false c4; have c4b1 : decide (a0.size ≤ 256) = false := decide_eq_false (by omega); clear c4; obtain rfl := Option.some.inj H
   go_enter Tryd.func127, Tryd.ntmps127
   go_wp2
   go_ret
   exact ⟨by first | rfl | (simp; done) | (simp [*]; done), by repeat (first | exact Drawn0.refl _ | apply Drawn0.step)⟩
 ·rw [if_neg c3] at H; have c3b0 : decide (1 ≤ (a0.size : Int)) = false := decide_eq_false c3; have c3b1 : decide (1 ≤ a0.size) = false := decide_eq_false (by omega); clear c3; obtain rfl := Option.some.inj H
  go_enter Tryd.func127, Tryd.ntmps127
  go_wp2
  go_ret
  exact ⟨by first | rfl | (simp; done) | (simp [*]; done), by repeat (first | exact Drawn0.refl _ | apply Drawn0.step)⟩
def impl_isMap.l0 : Nat → List (S77) → List (S77) → Int → Int → Option (Bool)
 | 0, _, _, _, _ => none
 | k + 1, x0, x8, x9, x10 => if x10 < x9 then (if 0 ≤ x10 then (if x10 < (x8.length : Int) then ((impl_pairFits.f ((rd_T77 x8 x10).f0) ((rd_T77 x8 x10).f1)).bind fun t750003 => (if t750003 = true then (if x10 > 0 then (if 0 ≤ (wrap64 (x10 - 1)) then (if (wrap64 (x10 - 1)) < (x0.length : Int) then (if ((Op.bytesLess (((rd_T77 x0 (wrap64 (x10 - 1))).f0).toList) (((rd_T77 x8 x10).f0).toList)) = true) then (impl_isMap.l0 k x0 x8 x9 (wrap64 (x10 + 1))) else (some false)) else (none)) else (none)) else (impl_isMap.l0 k x0 x8 x9 (wrap64 (x10 + 1)))) else (some false))) else (none)) else (none)) else (some true)
def impl_isMap.f (k : Nat) (l0 : List (S77)) : Option (Bool) := if (l0.length : Int) > 500 then (some false) else (impl_isMap.l0 k l0 l0 (l0.length : Int) 0)
set_option maxHeartbeats 8000000 in
set_option maxRecDepth 100000 in
theorem impl_isMap.calls (k : Nat) (A0 : Option Addr) (c0 : Nat) (l0 : List (S77)) (r : Bool) (w : World) (hr0 : Kd.C k77 w A0 l0.length l0) (hc0 : l0.length ≤ c0) (h : impl_isMap.f k l0 = some r) :
  Calls Tryd.prog 75 #[.slice A0 l0.length c0] w fun e w' => e = .returned (.bool r) ∧ Below w.heap.size w w' := by
 have hu77 := Tryd.underlying77; have HR0 := Aside0.mk hr0; have HC0 := Aside0.mk hc0; clear hr0 hc0; have HB := Aside0.mk (Below.refl w.heap.size w); have H : (if (l0.length : Int) > 500 then (some false) else (impl_isMap.l0 k l0 l0 (l0.length : Int) 0)) = some r := h; clear h
 by_cases c2 : (l0.length : Int) > 500
 ·rw [if_pos c2] at H; have c2b0 : decide (500 < (l0.length : Int)) = true := decide_eq_true c2; have c2b1 : decide (500 < l0.length) = true := decide_eq_true (by omega); clear c2; obtain rfl := Option.some.inj H
  go_enter Tryd.func75, Tryd.ntmps75
  go_wp2
  repeat (go_quiet (fail); try go_wp2)
  go_ret
  exact ⟨by first | rfl | (simp [errW_none, errW_some] <;> rfl) | (simp [*, errW_none, errW_some] <;> rfl), by repeat (first | (with_reducible first | exact HB.out | apply below_alloc | apply pw_below_drewN | apply below_drew1) | exact HB.out)⟩
 ·rw [if_neg c2] at H; have c2b0 : decide (500 < (l0.length : Int)) = false := decide_eq_false c2; have c2b1 : decide (500 < l0.length) = false := decide_eq_false (by omega); clear c2; have H' := Aside0.mk H; clear H
  go_enter Tryd.func75, Tryd.ntmps75
  go_wp2
  repeat (go_quiet (fail); try go_wp2)
  go_loopg [10] k (fun kq v10 w' => ∃ (x10_1 : Int), v10 = .int .i64 x10_1 ∧ Aside0 (impl_isMap.l0 kq l0 l0 (l0.length : Int) x10_1 = some r) ∧ Aside0 (kq ≤ k) ∧ Aside0 (Below w.heap.size w w'))
  case atStart => exact ⟨(0), zq_4, H', ⟨Nat.le_refl _⟩, ⟨by repeat (first | (with_reducible first | exact HB.out | apply below_alloc | apply pw_below_drewN | apply below_drew1) | exact HB.out)⟩⟩
  case round =>
   clear H'
   try clear c2
   try clear c2b0
   try clear c2b1
   try clear p2
   obtain ⟨x10_1, rfl, HA, HK1, HB⟩ := hrel
   cases gk with
   | zero => exact absurd HA.out (by simp [impl_isMap.l0])
   | succ k1 =>
    have H := HA.out; clear HA; simp only [impl_isMap.l0] at H
    by_cases c3 : x10_1 < (l0.length : Int)
    ·rw [if_pos c3] at H; have c3b0 : decide (x10_1 < (l0.length : Int)) = true := decide_eq_true c3; clear c3
     by_cases c4 : 0 ≤ x10_1
     ·rw [if_pos c4] at H; have c4b0 : decide (0 ≤ x10_1) = true := decide_eq_true c4; clear c4
      by_cases c5 : x10_1 < (l0.length : Int)
      ·rw [if_pos c5] at H; have c5b0 : decide (x10_1 < (l0.length : Int)) = true := decide_eq_true c5; clear c5; replace H := Option.bind_eq_some_iff.mp H; obtain ⟨t750003, A60, H⟩ := H; (try dsimp only at H); have A6 := Aside0.mk A60; clear A60
       by_cases c7 : t750003 = true
       ·subst c7; have H1 : (if x10_1 > 0 then (if 0 ≤ (wrap64 (x10_1 - 1)) then (if (wrap64 (x10_1 - 1)) < (l0.length : Int) then (if ((Op.bytesLess (((rd_T77 l0 (wrap64 (x10_1 - 1))).f0).toList) (((rd_T77 l0 x10_1).f0).toList)) = true) then (impl_isMap.l0 k1 l0 l0 (l0.length : Int) (wrap64 (x10_1 + 1))) else (some false)) else (none)) else (none)) else (impl_isMap.l0 k1 l0 l0 (l0.length : Int) (wrap64 (x10_1 + 1)))) = some r := by rw [if_pos rfl] at H; exact H
        clear H; have H := H1; clear H1
        by_cases c8 : x10_1 > 0
        ·rw [if_pos c8] at H; have c8b0 : decide (0 < x10_1) = true := decide_eq_true c8; clear c8; obtain ⟨ji9, hji9⟩ : ∃ j_ : Int, (wrap64 (x10_1 - 1)) = j_ := ⟨_, rfl⟩
         replace H : (if 0 ≤ (ji9) then (if (ji9) < (l0.length : Int) then (if ((Op.bytesLess (((rd_T77 l0 (ji9)).f0).toList) (((rd_T77 l0 x10_1).f0).toList)) = true) then (impl_isMap.l0 k1 l0 l0 (l0.length : Int) (wrap64 (x10_1 + 1))) else (some false)) else (none)) else (none)) = some r := by first | (rw [hji9] at H; exact H) | (simp only [hji9] at H ⊢; exact H)
         (try rw [hji9] at A6); have hji9w : (IntKind.i64.wrap (x10_1 - 1)) = ji9 := (i64_w _).trans hji9
         by_cases c10 : 0 ≤ (ji9)
         ·rw [if_pos c10] at H; have c10b0 : decide (0 ≤ (ji9)) = true := decide_eq_true c10; clear c10
          by_cases c11 : (ji9) < (l0.length : Int)
          ·rw [if_pos c11] at H; have c11b0 : decide ((ji9) < (l0.length : Int)) = true := decide_eq_true c11; clear c11
           by_cases c12 : ((Op.bytesLess (((rd_T77 l0 (ji9)).f0).toList) (((rd_T77 l0 x10_1).f0).toList)) = true)
           ·rw [if_pos c12] at H; have c12b0 : (Op.bytesLess (((rd_T77 l0 (ji9)).f0).toList) (((rd_T77 l0 x10_1).f0).toList)) = true := c12; clear c12; have H' := Aside0.mk H; clear H; have p750001 : 0 ≤ (x10_1 : Int) := of_decide_eq_true zq_2; have q750001 : x10_1 < (l0.length : Int) := of_decide_eq_true zq_2; obtain ⟨ad750001, e750001, hx750001_0, hx750001_1⟩ := at_T77 HR0.out x10_1 p750001 q750001
            cases e750001
            replace hx750001_0 := (HB.out.cell (World.block_lt_of_cell? w _ hx750001_0)).trans hx750001_0; replace hx750001_1 := (HB.out.cell (World.block_lt_of_cell? w _ hx750001_1)).trans hx750001_1; replace p750001 := eq_true p750001; replace q750001 := eq_true q750001
            go_wp2_with (first | ((with_reducible refine gate_dst (N := 4) rfl ?_); refine box_event ?hg (N := 4) ?hd (cs := #[.string (⟨#[]⟩ : ByteArray), .string (⟨#[]⟩ : ByteArray)]) (t := 77) ?hr ?_; (case hd => rfl); (case hg => rfl); (case hr => exact zq_14); intro gb750002 hg w13 hbox hb; have n0_ := Aside0.mk (below_step zq_0 hb); have n1_ := Aside0.mk (hbox); have n2_ := Aside0.mk ((by rw [hg]; exact (below_size zq_0) : w.heap.size ≤ gb750002)); have n3_ := Aside0.mk ((by rw [hg]; exact (below_size zq_0) : w.heap.size ≤ gb750002)); clear HB; have HB := n0_; have BK750002 := n1_; have GW750002 := n2_; have GE750002 := n3_; clear n0_ n1_ n2_ n3_; clear hb hbox hg; have hcz14_0 : w13.cell? ⟨gb750002, 0, none⟩ = some (.string (⟨#[]⟩ : ByteArray)) := (blk_cell BK750002.out 0).trans rfl; have hcz14_1 : w13.cell? ⟨gb750002, 1, none⟩ = some (.string (⟨#[]⟩ : ByteArray)) := (blk_cell BK750002.out 1).trans rfl; have hfz14_0 := blk_frozen BK750002.out 0; have hfz14_1 := blk_frozen BK750002.out 1) | (go_at_call 127; (with_reducible refine (impl_pairFits.calls ((rd_T77 l0 x10_1).f0) ((rd_T77 l0 x10_1).f1) true _ A6.out).mono ?_); rintro e w' ⟨rfl, ⟨nd, rfl⟩⟩; (try first | exact ⟨rfl, _, World.drewN_drewN _ _ _⟩ | exact ⟨rfl, _, Eq.trans (World.drewN_drewN _ _ _) (congrArg (World.drewN _) (Nat.add_assoc _ _ _))⟩); have p750004 : 0 ≤ ((ji9) : Int) := of_decide_eq_true zq_2; have q750004 : (ji9) < (l0.length : Int) := of_decide_eq_true zq_2; obtain ⟨ad750004, e750004, hx750004_0, hx750004_1⟩ := at_T77 HR0.out (ji9) p750004 q750004; obtain rfl : ad750001 = ad750004 := (by injection e750004); have hn750004_0 : ad750001.block ≠ gb750002 := Nat.ne_of_lt (Nat.lt_of_lt_of_le (by have := World.block_lt_of_cell? _ _ hx750004_0; first | rwa [add_block] at this | exact this) GW750002.out); have hn750004_1 : ad750001.block ≠ gb750002 := Nat.ne_of_lt (Nat.lt_of_lt_of_le (by have := World.block_lt_of_cell? _ _ hx750004_0; first | rwa [add_block] at this | exact this) GW750002.out); replace hx750004_0 := (HB.out.cell (World.block_lt_of_cell? w _ hx750004_0)).trans hx750004_0; replace hx750004_1 := (HB.out.cell (World.block_lt_of_cell? w _ hx750004_1)).trans hx750004_1; replace hx750004_0 := (cell_far (p := ⟨gb750002, 0, none⟩) zq_12 (.string ((rd_T77 l0 x10_1).f0))).trans hx750004_0; replace hx750004_1 := (cell_far (p := ⟨gb750002, 0, none⟩) zq_12 (.string ((rd_T77 l0 x10_1).f0))).trans hx750004_1; replace hx750004_0 := (cell_far (p := ⟨gb750002, 1, none⟩) zq_13 (.string ((rd_T77 l0 x10_1).f1))).trans hx750004_0; replace hx750004_1 := (cell_far (p := ⟨gb750002, 1, none⟩) zq_13 (.string ((rd_T77 l0 x10_1).f1))).trans hx750004_1; (try have hy750004_0 := fun (n_ : Nat) => (show ((((w13.drewN n_).setCell ⟨gb750002, 0, none⟩ (.string ((rd_T77 l0 x10_1).f0))).setCell ⟨gb750002, 1, none⟩ (.string ((rd_T77 l0 x10_1).f1)))).cell? _ = some _ from hx750004_0)); (try have hy750004_1 := fun (n_ : Nat) => (show ((((w13.drewN n_).setCell ⟨gb750002, 0, none⟩ (.string ((rd_T77 l0 x10_1).f0))).setCell ⟨gb750002, 1, none⟩ (.string ((rd_T77 l0 x10_1).f1)))).cell? _ = some _ from hx750004_1)); clear hn750004_0; clear hn750004_1; replace p750004 := eq_true p750004; replace q750004 := eq_true q750004))
            repeat (go_quiet (first | ((with_reducible refine gate_dst (N := 4) rfl ?_); refine box_event ?hg (N := 4) ?hd (cs := #[.string (⟨#[]⟩ : ByteArray), .string (⟨#[]⟩ : ByteArray)]) (t := 77) ?hr ?_; (case hd => rfl); (case hg => rfl); (case hr => exact zq_14); intro gb750002 hg w13 hbox hb; have n0_ := Aside0.mk (below_step zq_0 hb); have n1_ := Aside0.mk (hbox); have n2_ := Aside0.mk ((by rw [hg]; exact (below_size zq_0) : w.heap.size ≤ gb750002)); have n3_ := Aside0.mk ((by rw [hg]; exact (below_size zq_0) : w.heap.size ≤ gb750002)); clear HB; have HB := n0_; have BK750002 := n1_; have GW750002 := n2_; have GE750002 := n3_; clear n0_ n1_ n2_ n3_; clear hb hbox hg; have hcz14_0 : w13.cell? ⟨gb750002, 0, none⟩ = some (.string (⟨#[]⟩ : ByteArray)) := (blk_cell BK750002.out 0).trans rfl; have hcz14_1 : w13.cell? ⟨gb750002, 1, none⟩ = some (.string (⟨#[]⟩ : ByteArray)) := (blk_cell BK750002.out 1).trans rfl; have hfz14_0 := blk_frozen BK750002.out 0; have hfz14_1 := blk_frozen BK750002.out 1) | (go_at_call 127; (with_reducible refine (impl_pairFits.calls ((rd_T77 l0 x10_1).f0) ((rd_T77 l0 x10_1).f1) true _ A6.out).mono ?_); rintro e w' ⟨rfl, ⟨nd, rfl⟩⟩; (try first | exact ⟨rfl, _, World.drewN_drewN _ _ _⟩ | exact ⟨rfl, _, Eq.trans (World.drewN_drewN _ _ _) (congrArg (World.drewN _) (Nat.add_assoc _ _ _))⟩); have p750004 : 0 ≤ ((ji9) : Int) := of_decide_eq_true zq_2; have q750004 : (ji9) < (l0.length : Int) := of_decide_eq_true zq_2; obtain ⟨ad750004, e750004, hx750004_0, hx750004_1⟩ := at_T77 HR0.out (ji9) p750004 q750004; obtain rfl : ad750001 = ad750004 := (by injection e750004); have hn750004_0 : ad750001.block ≠ gb750002 := Nat.ne_of_lt (Nat.lt_of_lt_of_le (by have := World.block_lt_of_cell? _ _ hx750004_0; first | rwa [add_block] at this | exact this) GW750002.out); have hn750004_1 : ad750001.block ≠ gb750002 := Nat.ne_of_lt (Nat.lt_of_lt_of_le (by have := World.block_lt_of_cell? _ _ hx750004_0; first | rwa [add_block] at this | exact this) GW750002.out); replace hx750004_0 := (HB.out.cell (World.block_lt_of_cell? w _ hx750004_0)).trans hx750004_0; replace hx750004_1 := (HB.out.cell (World.block_lt_of_cell? w _ hx750004_1)).trans hx750004_1; replace hx750004_0 := (cell_far (p := ⟨gb750002, 0, none⟩) zq_12 (.string ((rd_T77 l0 x10_1).f0))).trans hx750004_0; replace hx750004_1 := (cell_far (p := ⟨gb750002, 0, none⟩) zq_12 (.string ((rd_T77 l0 x10_1).f0))).trans hx750004_1; replace hx750004_0 := (cell_far (p := ⟨gb750002, 1, none⟩) zq_13 (.string ((rd_T77 l0 x10_1).f1))).trans hx750004_0; replace hx750004_1 := (cell_far (p := ⟨gb750002, 1, none⟩) zq_13 (.string ((rd_T77 l0 x10_1).f1))).trans hx750004_1; (try have hy750004_0 := fun (n_ : Nat) => (show ((((w13.drewN n_).setCell ⟨gb750002, 0, none⟩ (.string ((rd_T77 l0 x10_1).f0))).setCell ⟨gb750002, 1, none⟩ (.string ((rd_T77 l0 x10_1).f1)))).cell? _ = some _ from hx750004_0)); (try have hy750004_1 := fun (n_ : Nat) => (show ((((w13.drewN n_).setCell ⟨gb750002, 0, none⟩ (.string ((rd_T77 l0 x10_1).f0))).setCell ⟨gb750002, 1, none⟩ (.string ((rd_T77 l0 x10_1).f1)))).cell? _ = some _ from hx750004_1)); clear hn750004_0; clear hn750004_1; replace p750004 := eq_true p750004; replace q750004 := eq_true q750004)); try go_wp2_with (first | ((with_reducible refine gate_dst (N := 4) rfl ?_); refine box_event ?hg (N := 4) ?hd (cs := #[.string (⟨#[]⟩ : ByteArray), .string (⟨#[]⟩ : ByteArray)]) (t := 77) ?hr ?_; (case hd => rfl); (case hg => rfl); (case hr => exact zq_14); intro gb750002 hg w13 hbox hb; have n0_ := Aside0.mk (below_step zq_0 hb); have n1_ := Aside0.mk (hbox); have n2_ := Aside0.mk ((by rw [hg]; exact (below_size zq_0) : w.heap.size ≤ gb750002)); have n3_ := Aside0.mk ((by rw [hg]; exact (below_size zq_0) : w.heap.size ≤ gb750002)); clear HB; have HB := n0_; have BK750002 := n1_; have GW750002 := n2_; have GE750002 := n3_; clear n0_ n1_ n2_ n3_; clear hb hbox hg; have hcz14_0 : w13.cell? ⟨gb750002, 0, none⟩ = some (.string (⟨#[]⟩ : ByteArray)) := (blk_cell BK750002.out 0).trans rfl; have hcz14_1 : w13.cell? ⟨gb750002, 1, none⟩ = some (.string (⟨#[]⟩ : ByteArray)) := (blk_cell BK750002.out 1).trans rfl; have hfz14_0 := blk_frozen BK750002.out 0; have hfz14_1 := blk_frozen BK750002.out 1) | (go_at_call 127; (with_reducible refine (impl_pairFits.calls ((rd_T77 l0 x10_1).f0) ((rd_T77 l0 x10_1).f1) true _ A6.out).mono ?_); rintro e w' ⟨rfl, ⟨nd, rfl⟩⟩; (try first | exact ⟨rfl, _, World.drewN_drewN _ _ _⟩ | exact ⟨rfl, _, Eq.trans (World.drewN_drewN _ _ _) (congrArg (World.drewN _) (Nat.add_assoc _ _ _))⟩); have p750004 : 0 ≤ ((ji9) : Int) := of_decide_eq_true zq_2; have q750004 : (ji9) < (l0.length : Int) := of_decide_eq_true zq_2; obtain ⟨ad750004, e750004, hx750004_0, hx750004_1⟩ := at_T77 HR0.out (ji9) p750004 q750004; obtain rfl : ad750001 = ad750004 := (by injection e750004); have hn750004_0 : ad750001.block ≠ gb750002 := Nat.ne_of_lt (Nat.lt_of_lt_of_le (by have := World.block_lt_of_cell? _ _ hx750004_0; first | rwa [add_block] at this | exact this) GW750002.out); have hn750004_1 : ad750001.block ≠ gb750002 := Nat.ne_of_lt (Nat.lt_of_lt_of_le (by have := World.block_lt_of_cell? _ _ hx750004_0; first | rwa [add_block] at this | exact this) GW750002.out); replace hx750004_0 := (HB.out.cell (World.block_lt_of_cell? w _ hx750004_0)).trans hx750004_0; replace hx750004_1 := (HB.out.cell (World.block_lt_of_cell? w _ hx750004_1)).trans hx750004_1; replace hx750004_0 := (cell_far (p := ⟨gb750002, 0, none⟩) zq_12 (.string ((rd_T77 l0 x10_1).f0))).trans hx750004_0; replace hx750004_1 := (cell_far (p := ⟨gb750002, 0, none⟩) zq_12 (.string ((rd_T77 l0 x10_1).f0))).trans hx750004_1; replace hx750004_0 := (cell_far (p := ⟨gb750002, 1, none⟩) zq_13 (.string ((rd_T77 l0 x10_1).f1))).trans hx750004_0; replace hx750004_1 := (cell_far (p := ⟨gb750002, 1, none⟩) zq_13 (.string ((rd_T77 l0 x10_1).f1))).trans hx750004_1; (try have hy750004_0 := fun (n_ : Nat) => (show ((((w13.drewN n_).setCell ⟨gb750002, 0, none⟩ (.string ((rd_T77 l0 x10_1).f0))).setCell ⟨gb750002, 1, none⟩ (.string ((rd_T77 l0 x10_1).f1)))).cell? _ = some _ from hx750004_0)); (try have hy750004_1 := fun (n_ : Nat) => (show ((((w13.drewN n_).setCell ⟨gb750002, 0, none⟩ (.string ((rd_T77 l0 x10_1).f0))).setCell ⟨gb750002, 1, none⟩ (.string ((rd_T77 l0 x10_1).f1)))).cell? _ = some _ from hx750004_1)); clear hn750004_0; clear hn750004_1; replace p750004 := eq_true p750004; replace q750004 := eq_true q750004)))
            go_roundg k1
            case measure => have := HK1.out; omega
            case rel => exact ⟨(wrap64 (x10_1 + 1)), zq_4, H', ⟨by have := HK1.out; omega⟩, ⟨by repeat (first | (with_reducible first | exact HB.out | apply below_alloc | apply pw_below_drewN | apply below_drew1 | refine below_set ?_ GE750002.out) | exact HB.out)⟩⟩
           ·rw [if_neg c12] at H; have c12b0 : (Op.bytesLess (((rd_T77 l0 (ji9)).f0).toList) (((rd_T77 l0 x10_1).f0).toList)) = false := by simpa using c12
            clear c12; obtain rfl := Option.some.inj H; have p750001 : 0 ≤ (x10_1 : Int) := of_decide_eq_true zq_2; have q750001 : x10_1 < (l0.length : Int) := of_decide_eq_true zq_2; obtain ⟨ad750001, e750001, hx750001_0, hx750001_1⟩ := at_T77 HR0.out x10_1 p750001 q750001
            cases e750001
            replace hx750001_0 := (HB.out.cell (World.block_lt_of_cell? w _ hx750001_0)).trans hx750001_0; replace hx750001_1 := (HB.out.cell (World.block_lt_of_cell? w _ hx750001_1)).trans hx750001_1; replace p750001 := eq_true p750001; replace q750001 := eq_true q750001
            go_wp2_with (first | ((with_reducible refine gate_dst (N := 4) rfl ?_); refine box_event ?hg (N := 4) ?hd (cs := #[.string (⟨#[]⟩ : ByteArray), .string (⟨#[]⟩ : ByteArray)]) (t := 77) ?hr ?_; (case hd => rfl); (case hg => rfl); (case hr => exact zq_14); intro gb750002 hg w15 hbox hb; have n0_ := Aside0.mk (below_step zq_0 hb); have n1_ := Aside0.mk (hbox); have n2_ := Aside0.mk ((by rw [hg]; exact (below_size zq_0) : w.heap.size ≤ gb750002)); have n3_ := Aside0.mk ((by rw [hg]; exact (below_size zq_0) : w.heap.size ≤ gb750002)); clear HB; have HB := n0_; have BK750002 := n1_; have GW750002 := n2_; have GE750002 := n3_; clear n0_ n1_ n2_ n3_; clear hb hbox hg; have hcz16_0 : w15.cell? ⟨gb750002, 0, none⟩ = some (.string (⟨#[]⟩ : ByteArray)) := (blk_cell BK750002.out 0).trans rfl; have hcz16_1 : w15.cell? ⟨gb750002, 1, none⟩ = some (.string (⟨#[]⟩ : ByteArray)) := (blk_cell BK750002.out 1).trans rfl; have hfz16_0 := blk_frozen BK750002.out 0; have hfz16_1 := blk_frozen BK750002.out 1) | (go_at_call 127; (with_reducible refine (impl_pairFits.calls ((rd_T77 l0 x10_1).f0) ((rd_T77 l0 x10_1).f1) true _ A6.out).mono ?_); rintro e w' ⟨rfl, ⟨nd, rfl⟩⟩; (try first | exact ⟨rfl, _, World.drewN_drewN _ _ _⟩ | exact ⟨rfl, _, Eq.trans (World.drewN_drewN _ _ _) (congrArg (World.drewN _) (Nat.add_assoc _ _ _))⟩); have p750004 : 0 ≤ ((ji9) : Int) := of_decide_eq_true zq_2; have q750004 : (ji9) < (l0.length : Int) := of_decide_eq_true zq_2; obtain ⟨ad750004, e750004, hx750004_0, hx750004_1⟩ := at_T77 HR0.out (ji9) p750004 q750004; obtain rfl : ad750001 = ad750004 := (by injection e750004); have hn750004_0 : ad750001.block ≠ gb750002 := Nat.ne_of_lt (Nat.lt_of_lt_of_le (by have := World.block_lt_of_cell? _ _ hx750004_0; first | rwa [add_block] at this | exact this) GW750002.out); have hn750004_1 : ad750001.block ≠ gb750002 := Nat.ne_of_lt (Nat.lt_of_lt_of_le (by have := World.block_lt_of_cell? _ _ hx750004_0; first | rwa [add_block] at this | exact this) GW750002.out); replace hx750004_0 := (HB.out.cell (World.block_lt_of_cell? w _ hx750004_0)).trans hx750004_0; replace hx750004_1 := (HB.out.cell (World.block_lt_of_cell? w _ hx750004_1)).trans hx750004_1; replace hx750004_0 := (cell_far (p := ⟨gb750002, 0, none⟩) zq_12 (.string ((rd_T77 l0 x10_1).f0))).trans hx750004_0; replace hx750004_1 := (cell_far (p := ⟨gb750002, 0, none⟩) zq_12 (.string ((rd_T77 l0 x10_1).f0))).trans hx750004_1; replace hx750004_0 := (cell_far (p := ⟨gb750002, 1, none⟩) zq_13 (.string ((rd_T77 l0 x10_1).f1))).trans hx750004_0; replace hx750004_1 := (cell_far (p := ⟨gb750002, 1, none⟩) zq_13 (.string ((rd_T77 l0 x10_1).f1))).trans hx750004_1; (try have hy750004_0 := fun (n_ : Nat) => (show ((((w15.drewN n_).setCell ⟨gb750002, 0, none⟩ (.string ((rd_T77 l0 x10_1).f0))).setCell ⟨gb750002, 1, none⟩ (.string ((rd_T77 l0 x10_1).f1)))).cell? _ = some _ from hx750004_0)); (try have hy750004_1 := fun (n_ : Nat) => (show ((((w15.drewN n_).setCell ⟨gb750002, 0, none⟩ (.string ((rd_T77 l0 x10_1).f0))).setCell ⟨gb750002, 1, none⟩ (.string ((rd_T77 l0 x10_1).f1)))).cell? _ = some _ from hx750004_1)); clear hn750004_0; clear hn750004_1; replace p750004 := eq_true p750004; replace q750004 := eq_true q750004))
            repeat (go_quiet (first | ((with_reducible refine gate_dst (N := 4) rfl ?_); refine box_event ?hg (N := 4) ?hd (cs := #[.string (⟨#[]⟩ : ByteArray), .string (⟨#[]⟩ : ByteArray)]) (t := 77) ?hr ?_; (case hd => rfl); (case hg => rfl); (case hr => exact zq_14); intro gb750002 hg w15 hbox hb; have n0_ := Aside0.mk (below_step zq_0 hb); have n1_ := Aside0.mk (hbox); have n2_ := Aside0.mk ((by rw [hg]; exact (below_size zq_0) : w.heap.size ≤ gb750002)); have n3_ := Aside0.mk ((by rw [hg]; exact (below_size zq_0) : w.heap.size ≤ gb750002)); clear HB; have HB := n0_; have BK750002 := n1_; have GW750002 := n2_; have GE750002 := n3_; clear n0_ n1_ n2_ n3_; clear hb hbox hg; have hcz16_0 : w15.cell? ⟨gb750002, 0, none⟩ = some (.string (⟨#[]⟩ : ByteArray)) := (blk_cell BK750002.out 0).trans rfl; have hcz16_1 : w15.cell? ⟨gb750002, 1, none⟩ = some (.string (⟨#[]⟩ : ByteArray)) := (blk_cell BK750002.out 1).trans rfl; have hfz16_0 := blk_frozen BK750002.out 0; have hfz16_1 := blk_frozen BK750002.out 1) | (go_at_call 127; (with_reducible refine (impl_pairFits.calls ((rd_T77 l0 x10_1).f0) ((rd_T77 l0 x10_1).f1) true _ A6.out).mono ?_); rintro e w' ⟨rfl, ⟨nd, rfl⟩⟩; (try first | exact ⟨rfl, _, World.drewN_drewN _ _ _⟩ | exact ⟨rfl, _, Eq.trans (World.drewN_drewN _ _ _) (congrArg (World.drewN _) (Nat.add_assoc _ _ _))⟩); have p750004 : 0 ≤ ((ji9) : Int) := of_decide_eq_true zq_2; have q750004 : (ji9) < (l0.length : Int) := of_decide_eq_true zq_2; obtain ⟨ad750004, e750004, hx750004_0, hx750004_1⟩ := at_T77 HR0.out (ji9) p750004 q750004; obtain rfl : ad750001 = ad750004 := (by injection e750004); have hn750004_0 : ad750001.block ≠ gb750002 := Nat.ne_of_lt (Nat.lt_of_lt_of_le (by have := World.block_lt_of_cell? _ _ hx750004_0; first | rwa [add_block] at this | exact this) GW750002.out); have hn750004_1 : ad750001.block ≠ gb750002 := Nat.ne_of_lt (Nat.lt_of_lt_of_le (by have := World.block_lt_of_cell? _ _ hx750004_0; first | rwa [add_block] at this | exact this) GW750002.out); replace hx750004_0 := (HB.out.cell (World.block_lt_of_cell? w _ hx750004_0)).trans hx750004_0; replace hx750004_1 := (HB.out.cell (World.block_lt_of_cell? w _ hx750004_1)).trans hx750004_1; replace hx750004_0 := (cell_far (p := ⟨gb750002, 0, none⟩) zq_12 (.string ((rd_T77 l0 x10_1).f0))).trans hx750004_0; replace hx750004_1 := (cell_far (p := ⟨gb750002, 0, none⟩) zq_12 (.string ((rd_T77 l0 x10_1).f0))).trans hx750004_1; replace hx750004_0 := (cell_far (p := ⟨gb750002, 1, none⟩) zq_13 (.string ((rd_T77 l0 x10_1).f1))).trans hx750004_0; replace hx750004_1 := (cell_far (p := ⟨gb750002, 1, none⟩) zq_13 (.string ((rd_T77 l0 x10_1).f1))).trans hx750004_1; (try have hy750004_0 := fun (n_ : Nat) => (show ((((w15.drewN n_).setCell ⟨gb750002, 0, none⟩ (.string ((rd_T77 l0 x10_1).f0))).setCell ⟨gb750002, 1, none⟩ (.string ((rd_T77 l0 x10_1).f1)))).cell? _ = some _ from hx750004_0)); (try have hy750004_1 := fun (n_ : Nat) => (show ((((w15.drewN n_).setCell ⟨gb750002, 0, none⟩ (.string ((rd_T77 l0 x10_1).f0))).setCell ⟨gb750002, 1, none⟩ (.string ((rd_T77 l0 x10_1).f1)))).cell? _ = some _ from hx750004_1)); clear hn750004_0; clear hn750004_1; replace p750004 := eq_true p750004; replace q750004 := eq_true q750004)); try go_wp2_with (first | ((with_reducible refine gate_dst (N := 4) rfl ?_); refine box_event ?hg (N := 4) ?hd (cs := #[.string (⟨#[]⟩ : ByteArray), .string (⟨#[]⟩ : ByteArray)]) (t := 77) ?hr ?_; (case hd => rfl); (case hg => rfl); (case hr => exact zq_14); intro gb750002 hg w15 hbox hb; have n0_ := Aside0.mk (below_step zq_0 hb); have n1_ := Aside0.mk (hbox); have n2_ := Aside0.mk ((by rw [hg]; exact (below_size zq_0) : w.heap.size ≤ gb750002)); have n3_ := Aside0.mk ((by rw [hg]; exact (below_size zq_0) : w.heap.size ≤ gb750002)); clear HB; have HB := n0_; have BK750002 := n1_; have GW750002 := n2_; have GE750002 := n3_; clear n0_ n1_ n2_ n3_; clear hb hbox hg; have hcz16_0 : w15.cell? ⟨gb750002, 0, none⟩ = some (.string (⟨#[]⟩ : ByteArray)) := (blk_cell BK750002.out 0).trans rfl; have hcz16_1 : w15.cell? ⟨gb750002, 1, none⟩ = some (.string (⟨#[]⟩ : ByteArray)) := (blk_cell BK750002.out 1).trans rfl; have hfz16_0 := blk_frozen BK750002.out 0; have hfz16_1 := blk_frozen BK750002.out 1) | (go_at_call 127; (with_reducible refine (impl_pairFits.calls ((rd_T77 l0 x10_1).f0) ((rd_T77 l0 x10_1).f1) true _ A6.out).mono ?_); rintro e w' ⟨rfl, ⟨nd, rfl⟩⟩; (try first | exact ⟨rfl, _, World.drewN_drewN _ _ _⟩ | exact ⟨rfl, _, Eq.trans (World.drewN_drewN _ _ _) (congrArg (World.drewN _) (Nat.add_assoc _ _ _))⟩); have p750004 : 0 ≤ ((ji9) : Int) := of_decide_eq_true zq_2; have q750004 : (ji9) < (l0.length : Int) := of_decide_eq_true zq_2; obtain ⟨ad750004, e750004, hx750004_0, hx750004_1⟩ := at_T77 HR0.out (ji9) p750004 q750004; obtain rfl : ad750001 = ad750004 := (by injection e750004); have hn750004_0 : ad750001.block ≠ gb750002 := Nat.ne_of_lt (Nat.lt_of_lt_of_le (by have := World.block_lt_of_cell? _ _ hx750004_0; first | rwa [add_block] at this | exact this) GW750002.out); have hn750004_1 : ad750001.block ≠ gb750002 := Nat.ne_of_lt (Nat.lt_of_lt_of_le (by have := World.block_lt_of_cell? _ _ hx750004_0; first | rwa [add_block] at this | exact this) GW750002.out); replace hx750004_0 := (HB.out.cell (World.block_lt_of_cell? w _ hx750004_0)).trans hx750004_0; replace hx750004_1 := (HB.out.cell (World.block_lt_of_cell? w _ hx750004_1)).trans hx750004_1; replace hx750004_0 := (cell_far (p := ⟨gb750002, 0, none⟩) zq_12 (.string ((rd_T77 l0 x10_1).f0))).trans hx750004_0; replace hx750004_1 := (cell_far (p := ⟨gb750002, 0, none⟩) zq_12 (.string ((rd_T77 l0 x10_1).f0))).trans hx750004_1; replace hx750004_0 := (cell_far (p := ⟨gb750002, 1, none⟩) zq_13 (.string ((rd_T77 l0 x10_1).f1))).trans hx750004_0; replace hx750004_1 := (cell_far (p := ⟨gb750002, 1, none⟩) zq_13 (.string ((rd_T77 l0 x10_1).f1))).trans hx750004_1; (try have hy750004_0 := fun (n_ : Nat) => (show ((((w15.drewN n_).setCell ⟨gb750002, 0, none⟩ (.string ((rd_T77 l0 x10_1).f0))).setCell ⟨gb750002, 1, none⟩ (.string ((rd_T77 l0 x10_1).f1)))).cell? _ = some _ from hx750004_0)); (try have hy750004_1 := fun (n_ : Nat) => (show ((((w15.drewN n_).setCell ⟨gb750002, 0, none⟩ (.string ((rd_T77 l0 x10_1).f0))).setCell ⟨gb750002, 1, none⟩ (.string ((rd_T77 l0 x10_1).f1)))).cell? _ = some _ from hx750004_1)); clear hn750004_0; clear hn750004_1; replace p750004 := eq_true p750004; replace q750004 := eq_true q750004)))
            go_ret
            exact ⟨by first | rfl | (simp [errW_none, errW_some] <;> rfl) | (simp only [← hji9]; first | rfl | (simp [errW_none, errW_some] <;> rfl)) | (simp [*, errW_none, errW_some] <;> rfl), by repeat (first | (with_reducible first | exact HB.out | apply below_alloc | apply pw_below_drewN | apply below_drew1 | refine below_set ?_ GE750002.out) | exact HB.out)⟩
          ·rw [if_neg c11] at H; exact absurd H (by simp)
         ·rw [if_neg c10] at H; exact absurd H (by simp)
        ·rw [if_neg c8] at H; have c8b0 : decide (0 < x10_1) = false := decide_eq_false c8; clear c8; have H' := Aside0.mk H; clear H; have p750001 : 0 ≤ (x10_1 : Int) := of_decide_eq_true zq_2; have q750001 : x10_1 < (l0.length : Int) := of_decide_eq_true zq_2; obtain ⟨ad750001, e750001, hx750001_0, hx750001_1⟩ := at_T77 HR0.out x10_1 p750001 q750001
         cases e750001
         replace hx750001_0 := (HB.out.cell (World.block_lt_of_cell? w _ hx750001_0)).trans hx750001_0; replace hx750001_1 := (HB.out.cell (World.block_lt_of_cell? w _ hx750001_1)).trans hx750001_1; replace p750001 := eq_true p750001; replace q750001 := eq_true q750001
         go_wp2_with (first | ((with_reducible refine gate_dst (N := 4) rfl ?_); refine box_event ?hg (N := 4) ?hd (cs := #[.string (⟨#[]⟩ : ByteArray), .string (⟨#[]⟩ : ByteArray)]) (t := 77) ?hr ?_; (case hd => rfl); (case hg => rfl); (case hr => exact zq_14); intro gb750002 hg w17 hbox hb; have n0_ := Aside0.mk (below_step zq_0 hb); have n1_ := Aside0.mk (hbox); have n2_ := Aside0.mk ((by rw [hg]; exact (below_size zq_0) : w.heap.size ≤ gb750002)); have n3_ := Aside0.mk ((by rw [hg]; exact (below_size zq_0) : w.heap.size ≤ gb750002)); clear HB; have HB := n0_; have BK750002 := n1_; have GW750002 := n2_; have GE750002 := n3_; clear n0_ n1_ n2_ n3_; clear hb hbox hg; have hcz18_0 : w17.cell? ⟨gb750002, 0, none⟩ = some (.string (⟨#[]⟩ : ByteArray)) := (blk_cell BK750002.out 0).trans rfl; have hcz18_1 : w17.cell? ⟨gb750002, 1, none⟩ = some (.string (⟨#[]⟩ : ByteArray)) := (blk_cell BK750002.out 1).trans rfl; have hfz18_0 := blk_frozen BK750002.out 0; have hfz18_1 := blk_frozen BK750002.out 1) | (go_at_call 127; (with_reducible refine (impl_pairFits.calls ((rd_T77 l0 x10_1).f0) ((rd_T77 l0 x10_1).f1) true _ A6.out).mono ?_); rintro e w' ⟨rfl, ⟨nd, rfl⟩⟩; (try first | exact ⟨rfl, _, World.drewN_drewN _ _ _⟩ | exact ⟨rfl, _, Eq.trans (World.drewN_drewN _ _ _) (congrArg (World.drewN _) (Nat.add_assoc _ _ _))⟩)))
         repeat (go_quiet (first | ((with_reducible refine gate_dst (N := 4) rfl ?_); refine box_event ?hg (N := 4) ?hd (cs := #[.string (⟨#[]⟩ : ByteArray), .string (⟨#[]⟩ : ByteArray)]) (t := 77) ?hr ?_; (case hd => rfl); (case hg => rfl); (case hr => exact zq_14); intro gb750002 hg w17 hbox hb; have n0_ := Aside0.mk (below_step zq_0 hb); have n1_ := Aside0.mk (hbox); have n2_ := Aside0.mk ((by rw [hg]; exact (below_size zq_0) : w.heap.size ≤ gb750002)); have n3_ := Aside0.mk ((by rw [hg]; exact (below_size zq_0) : w.heap.size ≤ gb750002)); clear HB; have HB := n0_; have BK750002 := n1_; have GW750002 := n2_; have GE750002 := n3_; clear n0_ n1_ n2_ n3_; clear hb hbox hg; have hcz18_0 : w17.cell? ⟨gb750002, 0, none⟩ = some (.string (⟨#[]⟩ : ByteArray)) := (blk_cell BK750002.out 0).trans rfl; have hcz18_1 : w17.cell? ⟨gb750002, 1, none⟩ = some (.string (⟨#[]⟩ : ByteArray)) := (blk_cell BK750002.out 1).trans rfl; have hfz18_0 := blk_frozen BK750002.out 0; have hfz18_1 := blk_frozen BK750002.out 1) | (go_at_call 127; (with_reducible refine (impl_pairFits.calls ((rd_T77 l0 x10_1).f0) ((rd_T77 l0 x10_1).f1) true _ A6.out).mono ?_); rintro e w' ⟨rfl, ⟨nd, rfl⟩⟩; (try first | exact ⟨rfl, _, World.drewN_drewN _ _ _⟩ | exact ⟨rfl, _, Eq.trans (World.drewN_drewN _ _ _) (congrArg (World.drewN _) (Nat.add_assoc _ _ _))⟩))); try go_wp2_with (first | ((with_reducible refine gate_dst (N := 4) rfl ?_); refine box_event ?hg (N := 4) ?hd (cs := #[.string (⟨#[]⟩ : ByteArray), .string (⟨#[]⟩ : ByteArray)]) (t := 77) ?hr ?_; (case hd => rfl); (case hg => rfl); (case hr => exact zq_14); intro gb750002 hg w17 hbox hb; have n0_ := Aside0.mk (below_step zq_0 hb); have n1_ := Aside0.mk (hbox); have n2_ := Aside0.mk ((by rw [hg]; exact (below_size zq_0) : w.heap.size ≤ gb750002)); have n3_ := Aside0.mk ((by rw [hg]; exact (below_size zq_0) : w.heap.size ≤ gb750002)); clear HB; have HB := n0_; have BK750002 := n1_; have GW750002 := n2_; have GE750002 := n3_; clear n0_ n1_ n2_ n3_; clear hb hbox hg; have hcz18_0 : w17.cell? ⟨gb750002, 0, none⟩ = some (.string (⟨#[]⟩ : ByteArray)) := (blk_cell BK750002.out 0).trans rfl; have hcz18_1 : w17.cell? ⟨gb750002, 1, none⟩ = some (.string (⟨#[]⟩ : ByteArray)) := (blk_cell BK750002.out 1).trans rfl; have hfz18_0 := blk_frozen BK750002.out 0; have hfz18_1 := blk_frozen BK750002.out 1) | (go_at_call 127; (with_reducible refine (impl_pairFits.calls ((rd_T77 l0 x10_1).f0) ((rd_T77 l0 x10_1).f1) true _ A6.out).mono ?_); rintro e w' ⟨rfl, ⟨nd, rfl⟩⟩; (try first | exact ⟨rfl, _, World.drewN_drewN _ _ _⟩ | exact ⟨rfl, _, Eq.trans (World.drewN_drewN _ _ _) (congrArg (World.drewN _) (Nat.add_assoc _ _ _))⟩))))
         go_roundg k1
         case measure => have := HK1.out; omega
         case rel => exact ⟨(wrap64 (x10_1 + 1)), zq_4, H', ⟨by have := HK1.out; omega⟩, ⟨by repeat (first | (with_reducible first | exact HB.out | apply below_alloc | apply pw_below_drewN | apply below_drew1 | refine below_set ?_ GE750002.out) | exact HB.out)⟩⟩
       ·replace c7 := Bool.eq_false_iff.mpr c7; subst c7; have H1 : (some false) = some r := by rw [if_neg (show ¬ (false = true) by decide)] at H; exact H
        clear H; have H := H1; clear H1; obtain rfl := Option.some.inj H; have p750001 : 0 ≤ (x10_1 : Int) := of_decide_eq_true zq_2; have q750001 : x10_1 < (l0.length : Int) := of_decide_eq_true zq_2; obtain ⟨ad750001, e750001, hx750001_0, hx750001_1⟩ := at_T77 HR0.out x10_1 p750001 q750001
        cases e750001
        replace hx750001_0 := (HB.out.cell (World.block_lt_of_cell? w _ hx750001_0)).trans hx750001_0; replace hx750001_1 := (HB.out.cell (World.block_lt_of_cell? w _ hx750001_1)).trans hx750001_1; replace p750001 := eq_true p750001; replace q750001 := eq_true q750001
        go_wp2_with (first | ((with_reducible refine gate_dst (N := 4) rfl ?_); refine box_event ?hg (N := 4) ?hd (cs := #[.string (⟨#[]⟩ : ByteArray), .string (⟨#[]⟩ : ByteArray)]) (t := 77) ?hr ?_; (case hd => rfl); (case hg => rfl); (case hr => exact zq_14); intro gb750002 hg w19 hbox hb; have n0_ := Aside0.mk (below_step zq_0 hb); have n1_ := Aside0.mk (hbox); have n2_ := Aside0.mk ((by rw [hg]; exact (below_size zq_0) : w.heap.size ≤ gb750002)); have n3_ := Aside0.mk ((by rw [hg]; exact (below_size zq_0) : w.heap.size ≤ gb750002)); clear HB; have HB := n0_; have BK750002 := n1_; have GW750002 := n2_; have GE750002 := n3_; clear n0_ n1_ n2_ n3_; clear hb hbox hg; have hcz20_0 : w19.cell? ⟨gb750002, 0, none⟩ = some (.string (⟨#[]⟩ : ByteArray)) := (blk_cell BK750002.out 0).trans rfl; have hcz20_1 : w19.cell? ⟨gb750002, 1, none⟩ = some (.string (⟨#[]⟩ : ByteArray)) := (blk_cell BK750002.out 1).trans rfl; have hfz20_0 := blk_frozen BK750002.out 0; have hfz20_1 := blk_frozen BK750002.out 1) | (go_at_call 127; (with_reducible refine (impl_pairFits.calls ((rd_T77 l0 x10_1).f0) ((rd_T77 l0 x10_1).f1) false _ A6.out).mono ?_); rintro e w' ⟨rfl, ⟨nd, rfl⟩⟩; (try first | exact ⟨rfl, _, World.drewN_drewN _ _ _⟩ | exact ⟨rfl, _, Eq.trans (World.drewN_drewN _ _ _) (congrArg (World.drewN _) (Nat.add_assoc _ _ _))⟩)))
        repeat (go_quiet (first | ((with_reducible refine gate_dst (N := 4) rfl ?_); refine box_event ?hg (N := 4) ?hd (cs := #[.string (⟨#[]⟩ : ByteArray), .string (⟨#[]⟩ : ByteArray)]) (t := 77) ?hr ?_; (case hd => rfl); (case hg => rfl); (case hr => exact zq_14); intro gb750002 hg w19 hbox hb; have n0_ := Aside0.mk (below_step zq_0 hb); have n1_ := Aside0.mk (hbox); have n2_ := Aside0.mk ((by rw [hg]; exact (below_size zq_0) : w.heap.size ≤ gb750002)); have n3_ := Aside0.mk ((by rw [hg]; exact (below_size zq_0) : w.heap.size ≤ gb750002)); clear HB; have HB := n0_; have BK750002 := n1_; have GW750002 := n2_; have GE750002 := n3_; clear n0_ n1_ n2_ n3_; clear hb hbox hg; have hcz20_0 : w19.cell? ⟨gb750002, 0, none⟩ = some (.string (⟨#[]⟩ : ByteArray)) := (blk_cell BK750002.out 0).trans rfl; have hcz20_1 : w19.cell? ⟨gb750002, 1, none⟩ = some (.string (⟨#[]⟩ : ByteArray)) := (blk_cell BK750002.out 1).trans rfl; have hfz20_0 := blk_frozen BK750002.out 0; have hfz20_1 := blk_frozen BK750002.out 1) | (go_at_call 127; (with_reducible refine (impl_pairFits.calls ((rd_T77 l0 x10_1).f0) ((rd_T77 l0 x10_1).f1) false _ A6.out).mono ?_); rintro e w' ⟨rfl, ⟨nd, rfl⟩⟩; (try first | exact ⟨rfl, _, World.drewN_drewN _ _ _⟩ | exact ⟨rfl, _, Eq.trans (World.drewN_drewN _ _ _) (congrArg (World.drewN _) (Nat.add_assoc _ _ _))⟩))); try go_wp2_with (first | ((with_reducible refine gate_dst (N := 4) rfl ?_); refine box_event ?hg (N := 4) ?hd (cs := #[.string (⟨#[]⟩ : ByteArray), .string (⟨#[]⟩ : ByteArray)]) (t := 77) ?hr ?_; (case hd => rfl); (case hg => rfl); (case hr => exact zq_14); intro gb750002 hg w19 hbox hb; have n0_ := Aside0.mk (below_step zq_0 hb); have n1_ := Aside0.mk (hbox); have n2_ := Aside0.mk ((by rw [hg]; exact (below_size zq_0) : w.heap.size ≤ gb750002)); have n3_ := Aside0.mk ((by rw [hg]; exact (below_size zq_0) : w.heap.size ≤ gb750002)); clear HB; have HB := n0_; have BK750002 := n1_; have GW750002 := n2_; have GE750002 := n3_; clear n0_ n1_ n2_ n3_; clear hb hbox hg; have hcz20_0 : w19.cell? ⟨gb750002, 0, none⟩ = some (.string (⟨#[]⟩ : ByteArray)) := (blk_cell BK750002.out 0).trans rfl; have hcz20_1 : w19.cell? ⟨gb750002, 1, none⟩ = some (.string (⟨#[]⟩ : ByteArray)) := (blk_cell BK750002.out 1).trans rfl; have hfz20_0 := blk_frozen BK750002.out 0; have hfz20_1 := blk_frozen BK750002.out 1) | (go_at_call 127; (with_reducible refine (impl_pairFits.calls ((rd_T77 l0 x10_1).f0) ((rd_T77 l0 x10_1).f1) false _ A6.out).mono ?_); rintro e w' ⟨rfl, ⟨nd, rfl⟩⟩; (try first | exact ⟨rfl, _, World.drewN_drewN _ _ _⟩ | exact ⟨rfl, _, Eq.trans (World.drewN_drewN _ _ _) (congrArg (World.drewN _) (Nat.add_assoc _ _ _))⟩))))
        go_ret
        exact ⟨by first | rfl | (simp [errW_none, errW_some] <;> rfl) | (simp [*, errW_none, errW_some] <;> rfl), by repeat (first | (with_reducible first | exact HB.out | apply below_alloc | apply pw_below_drewN | apply below_drew1 | refine below_set ?_ GE750002.out) | exact HB.out)⟩
      ·rw [if_neg c5] at H; exact absurd H (by simp)
     ·rw [if_neg c4] at H; exact absurd H (by simp)
    ·rw [if_neg c3] at H; have c3b0 : decide (x10_1 < (l0.length : Int)) = false := decide_eq_false c3; clear c3; obtain rfl := Option.some.inj H
     go_wp2
     repeat (go_quiet (fail); try go_wp2)
     go_ret
     exact ⟨by first | rfl | (simp [errW_none, errW_some] <;> rfl) | (simp [*, errW_none, errW_some] <;> rfl), by repeat (first | (with_reducible first | exact HB.out | apply below_alloc | apply pw_below_drewN | apply below_drew1) | exact HB.out)⟩
end Go.Proofs.YtaepebkeijmjgaaDoor.Z
end
section
namespace Go.Proofs.YtaepebkeijmjgaaDoor.Z
open RowKit YtaepebkeijmjgaaDoor YtaepebkeijmjgaaDoorW.PrintWords YtaepebkeijmjgaaDoorW.PrintLast
set_option linter.all false
set_option maxRecDepth 100000
def pairOk (k v : ByteArray) : Bool := decide (1 ≤ k.size) && (decide (k.size ≤ 256) && decide (v.size ≤ 2000))
def zP : S77 := ⟨⟨#[]⟩, ⟨#[]⟩⟩
def okAt (l : List S77) (i : Nat) : Bool := pairOk (l.getD i zP).f0 (l.getD i zP).f1 && (decide (i = 0) || Op.bytesLess (l.getD (i - 1) zP).f0.toList (l.getD i zP).f0.toList)
def okD (l : List S77) : Nat → Nat → Bool
 | _, 0 => true
 | i, d + 1 => okAt l i && okD l (i + 1) d
def mapOk (l : List S77) : Bool := decide (l.length ≤ 500) && okD l 0 l.length
theorem okD_all (l : List S77) : ∀ (d i : Nat), okD l i d = true → ∀ j, i ≤ j → j < i + d → okAt l j = true
 | 0, i, _, j, h1, h2 => by omega
 | d + 1, i, h, j, h1, h2 => by
  rw [okD, Bool.and_eq_true] at h
  rcases Nat.eq_or_lt_of_le h1 with e | e
  ·subst e; exact h.1
  ·exact okD_all l d (i + 1) h.2 j e (by omega)
theorem mapOk_pair {l : List S77} (h : mapOk l = true) : l.length ≤ 500 ∧ ∀ p ∈ l, 1 ≤ p.f0.size ∧ p.f0.size ≤ 256 ∧ p.f1.size ≤ 2000 := by
 unfold mapOk at h; rw [Bool.and_eq_true, decide_eq_true_eq] at h; refine ⟨h.1, fun p hp => ?_⟩; obtain ⟨i, hi, rfl⟩ := List.getElem_of_mem hp; have := okD_all l l.length 0 h.2 i (by omega) (by omega); unfold okAt pairOk at this; rw [List.getD_eq_getElem?_getD, List.getElem?_eq_getElem hi, Option.getD_some] at this; simp only [Bool.and_eq_true, decide_eq_true_eq] at this; omega
theorem pairFits_f (k v : ByteArray) : impl_pairFits.f k v = some (pairOk k v) := by
 unfold impl_pairFits.f pairOk
 by_cases h1 : 1 ≤ k.size
 ·rw [if_pos (by omega), decide_eq_true h1]
  by_cases h2 : k.size ≤ 256
  ·rw [if_pos (by omega), decide_eq_true h2]; refine congrArg some ?_; rw [Bool.true_and, Bool.true_and, decide_eq_decide]; omega
  ·rw [if_neg (by omega), decide_eq_false h2]; rfl
 ·rw [if_neg (by omega), decide_eq_false h1]; rfl
theorem rdP (l : List S77) (i : Nat) (h : i < l.length) : rd_T77 l (i : Int) = l.getD i zP := by
 rw [rd_pair l i h, List.getD_eq_getElem?_getD, List.getElem?_eq_getElem h]; rfl
theorem isMap_loop (l : List S77) (hl : l.length ≤ 500) : ∀ (d i k : Nat), l.length = i + d → d < k → impl_isMap.l0 k l l (l.length : Int) (i : Int) = some (okD l i d) := by
 intro d
 induction d with
 | zero =>
  intro i k h hk; obtain ⟨k, rfl⟩ : ∃ j, k = j + 1 := ⟨k - 1, by omega⟩
  simp only [impl_isMap.l0]; rw [if_neg (by omega)]; rfl
 | succ d ih =>
  intro i k h hk; obtain ⟨k, rfl⟩ : ∃ j, k = j + 1 := ⟨k - 1, by omega⟩
  simp only [impl_isMap.l0]; rw [if_pos (by omega), if_pos (by omega), if_pos (by omega), rdP l i (by omega), pairFits_f, Option.bind_some]; rw [okD, okAt]
  cases hp : pairOk (l.getD i zP).f0 (l.getD i zP).f1
  ·rw [if_neg (by decide)]; rfl
  rw [if_pos rfl, show wrap64 ((i : Int) + 1) = ((i + 1 : Nat) : Int) from wN (by omega) (by omega), ih (i + 1) k (by omega) (by omega)]
  by_cases h0 : i = 0
  ·rw [if_neg (by omega), decide_eq_true h0]; rfl
  ·rw [if_pos (by omega), show wrap64 ((i : Int) - 1) = ((i - 1 : Nat) : Int) from wN (by omega) (by omega), if_pos (by omega), if_pos (by omega), rdP l (i - 1) (by omega), decide_eq_false h0]
   cases Op.bytesLess (l.getD (i - 1) zP).f0.toList (l.getD i zP).f0.toList <;> rfl
theorem isMap_f (l : List S77) (k : Nat) (hk : 500 < k) : impl_isMap.f k l = some (mapOk l) := by
 unfold impl_isMap.f mapOk
 by_cases h : l.length ≤ 500
 ·rw [if_neg (by omega), decide_eq_true h]; exact isMap_loop l h l.length 0 k (by omega) (by omega)
 ·rw [if_pos (by omega), decide_eq_false h]; rfl
def hashSh (W : Int) : Sh S77 → ByteArray
 | .nil => ⟨#[]⟩
 | .node p l r => (shaV (nText (encNode p.f0 p.f1 (hashSh W l) (hashSh W r) W))).extract 0 W.toNat
def encsSh (W : Int) : Sh S77 → List ByteArray
 | .nil => []
 | .node p l r => encsSh W l ++ encsSh W r ++ [encNode p.f0 p.f1 (hashSh W l) (hashSh W r) W]
theorem encsSh_length (W : Int) : ∀ t : Sh S77, (encsSh W t).length = t.list.length
 | .nil => rfl
 | .node p l r => by simp only [encsSh, Sh.list, List.length_append, List.length_cons, List.length_nil, encsSh_length W l, encsSh_length W r]; omega
theorem seal_hash (W : Int) : ∀ t : Sh Nd, rootT (sealT W t) = hashSh W (mapS er t)
 | .nil => rfl
 | .node x l r => by
  rw [sealT, rootT, mapS, hashSh, ← seal_hash W l, ← seal_hash W r]; rfl
theorem cart_list : ∀ (n : Nat) (l : List S77), l.length ≤ n → (cart abP l).list = l
 | _, [], _ => rfl
 | 0, a :: r, h => by rw [List.length_cons] at h; omega
 | n + 1, a :: r, h => by
  have hb := bestF_lt abP a r; have hg := bestF_get abP a r; rw [List.length_cons] at h hb; rw [cart_cons, Sh.list, cart_list n _ (by rw [List.length_take, List.length_cons]; omega), cart_list n _ (by rw [List.length_drop, List.length_cons]; omega)]; have hx : (a :: r)[(bestF abP a 0 1 r).2]'(by rw [List.length_cons]; omega) = (bestF abP a 0 1 r).1 := by
   rw [List.getElem?_eq_getElem (by rw [List.length_cons]; omega)] at hg; exact Option.some.inj hg
  rw [← hx, ← List.drop_eq_getElem_cons, List.take_append_drop]
theorem widB_isW (x : Int) : widB x = isW x := by unfold widB isW; rw [Bool.eq_iff_iff]; simp
def rootR (l : List S77) (W : Int) : ByteArray := if mapOk l = true ∧ isW W = true then hashSh W (cart abP l) else ⟨#[]⟩
def impl_Root.f (l0 : List S77) (a1 : Int) : Option ByteArray := some (rootR l0 a1)
set_option maxHeartbeats 1000000 in
theorem impl_Root.calls (A0 : Option Addr) (c0 : Nat) (l0 : List S77) (a1 : Int) (r : ByteArray) (w : World) (hr0 : Kd.C k77 w A0 l0.length l0) (hc0 : l0.length ≤ c0) (h : impl_Root.f l0 a1 = some r) (hTab : Tab w := by exact Tab.below (by assumption) (by repeat (first | (with_reducible first | exact HB.out | apply below_alloc | apply pw_below_drewN | apply below_drew1 | refine below_set ?_ (Aside0.out (by assumption))) | exact HB.out))) :
  Calls Tryd.prog 32 #[.slice A0 l0.length c0, .int .i64 a1] w fun e w' => e = .returned (.string r) ∧ Below w.heap.size w w' := by
 obtain rfl := Option.some.inj h; clear h; have HT := Lib.hid hTab; clear hTab; have HR := Lib.hid hr0; clear hr0; have HM := Lib.hid (isMap_f l0 1000 (by decide))
 cases hm : mapOk l0
 ·have HX : Hid (rootR l0 a1 = ⟨#[]⟩) := Lib.hid (by unfold rootR; rw [if_neg (fun g => by rw [hm] at g; exact absurd g.1 (by decide))]); rw [hm] at HM; clear hm
  go_enter Tryd.func32, Tryd.ntmps32
  go_wp2_with (go_at_call 75; refine (impl_isMap.calls 1000 A0 c0 l0 _ _ HR.out hc0 HM.out).mono ?_; rintro e w1 ⟨rfl, hb1⟩; have HB1 := Lib.hid hb1; clear hb1)
  go_ret
  exact ⟨by rw [HX.out]; rfl, HB1.out⟩
 cases hw : isW a1
 ·have HX : Hid (rootR l0 a1 = ⟨#[]⟩) := Lib.hid (by unfold rootR; rw [if_neg (fun g => by rw [hw] at g; exact absurd g.2 (by decide))]); rw [hm] at HM; have HW := Lib.hid ((widB_isW a1).trans hw); clear hm hw
  go_enter Tryd.func32, Tryd.ntmps32
  go_wp2_with (first | (go_at_call 75; refine (impl_isMap.calls 1000 A0 c0 l0 _ _ HR.out hc0 HM.out).mono ?_; rintro e w1 ⟨rfl, hb1⟩; have HB1 := Lib.hid hb1; clear hb1) | (go_at_call 93; go_loud (refine (isWidth_any _ _).mono ?_; rintro e w2 ⟨rfl, rfl⟩; rw [HW.out])))
  go_ret
  exact ⟨by rw [HX.out]; rfl, HB1.out⟩
 have HX : Hid (rootR l0 a1 = hashSh a1 (cart abP l0)) := Lib.hid (by unfold rootR; rw [if_pos ⟨hm, hw⟩]); have hpr := mapOk_pair hm; have hr : 1 ≤ a1 ∧ a1 ≤ 32 := by unfold isW at hw; simp only [Bool.and_eq_true, decide_eq_true_eq] at hw; exact hw
 obtain ⟨W, hWn⟩ : ∃ W : Nat, a1 = (W : Int) := ⟨a1.toNat, by omega⟩
 subst hWn; rw [hm] at HM; have HW := Lib.hid ((widB_isW _).trans hw); have HPR := Lib.hid hpr.2; have hlen := hpr.1; clear hm hw hpr
 go_enter Tryd.func32, Tryd.ntmps32
 go_wp2_with (first | (go_at_call 75; refine (impl_isMap.calls 1000 A0 c0 l0 _ _ HR.out hc0 HM.out).mono ?_; rintro e w1 ⟨rfl, hb1⟩; have HB1 := Lib.hid hb1; clear hb1) | (go_at_call 93; go_loud (refine (isWidth_any _ _).mono ?_; rintro e w2 ⟨rfl, rfl⟩; rw [HW.out])) | (go_at_call 76; refine (grow_any A0 c0 l0 W (by omega) (by omega) w1 (Kd.C_below HR.out HB1.out) hc0 (by omega) (fun p hp => by have := HPR.out p hp; omega) (HT.out.below HB1.out)).mono ?_; rintro e w3 ⟨t, rfl, hi, hn, hg, hs, hb⟩; have HI := Lib.hid hi; have HS := Lib.hid hs; have HB := Lib.hid hb; clear hi hn hg hs hb) | (go_at_call 82; refine (treeHash_any _ _ _ (RootIs.of HI.out)).mono ?_; rintro e w4 ⟨rfl, rfl⟩))
 go_ret
 exact ⟨by rw [HX.out, ← HS.out, ← seal_hash]; rfl, HB1.out.trans (HB.out.mono HB1.out.size)⟩
end Go.Proofs.YtaepebkeijmjgaaDoor.Z
end
section
namespace Go.Proofs.YtaepebkeijmjgaaDoor.Z
open RowKit YtaepebkeijmjgaaDoor YtaepebkeijmjgaaDoorW.PrintWords YtaepebkeijmjgaaDoorW.PrintLast
set_option linter.all false
def ltK (a b : ByteArray) : Bool := Op.bytesLess a.toList b.toList
theorem ltK_irr (a : ByteArray) : ltK a a = false := by
 unfold ltK
 cases h : Op.bytesLess a.toList a.toList
 ·rfl
 ·have := less_asym _ _ h; rw [h] at this; exact this
theorem ltK_ne {a b : ByteArray} (h : ltK a b = true) : a ≠ b := fun e => by rw [e, ltK_irr] at h; exact absurd h (by decide)
theorem ltK_as {a b : ByteArray} (h : ltK a b = true) : ltK b a = false := less_asym _ _ h
theorem listK {a b : ByteArray} : a.toList = b.toList ↔ a = b := ⟨fun h => by rw [ByteArray.toList_eq, ByteArray.toList_eq] at h; exact ByteArray.ext (Array.toList_inj.mp h), fun h => by rw [h]⟩
theorem ltK_tri {a b : ByteArray} (h1 : ltK a b = false) (h2 : ltK b a = false) : a = b := by
 by_cases h : a.toList = b.toList
 ·exact listK.1 h
 ·have := bytesLess_swap _ _ h; unfold ltK at h1 h2; rw [h1, h2] at this; exact absurd this (by decide)
def Srt (l : List ByteArray) : Prop := l.Pairwise (fun a b => ltK a b = true)
theorem Srt.ext : ∀ {a b : List ByteArray}, Srt a → Srt b → (∀ x, x ∈ a ↔ x ∈ b) → a = b
 | [], [], _, _, _ => rfl
 | [], b :: r, _, _, h => absurd ((h b).2 (by simp)) (by simp)
 | a :: r, [], _, _, h => absurd ((h a).1 (by simp)) (by simp)
 | a :: r, b :: s, ha, hb, h => by
  have ha' := List.pairwise_cons.1 ha; have hb' := List.pairwise_cons.1 hb; have e : a = b := by
   have h1 := (h a).1 (by simp); have h2 := (h b).2 (by simp)
   rcases List.mem_cons.1 h1 with h1 | h1
   ·exact h1
   rcases List.mem_cons.1 h2 with h2 | h2
   ·exact h2.symm
   have := ltK_as (hb'.1 a h1); rw [ha'.1 b h2] at this; exact absurd this (by decide)
  subst e; rw [Srt.ext ha'.2 hb'.2 (fun x => ⟨fun hx => by
   rcases List.mem_cons.1 ((h x).1 (List.mem_cons_of_mem _ hx)) with g | g
   ·exact absurd g.symm (ltK_ne (ha'.1 x hx))
   ·exact g, fun hx => by
   rcases List.mem_cons.1 ((h x).2 (List.mem_cons_of_mem _ hx)) with g | g
   ·exact absurd g.symm (ltK_ne (hb'.1 x hx))
   ·exact g⟩)]
def insP (k v : ByteArray) : List S77 → List S77
 | [] => [⟨k, v⟩]
 | a :: r => if ltK k a.f0 = true then ⟨k, v⟩ :: a :: r else a :: insP k v r
def outP (k : ByteArray) (l : List S77) : List S77 := l.filter (fun a => !decide (a.f0 = k))
def withP (l : List S77) (k v : ByteArray) : List S77 := insP k v (outP k l)
def keysP (l : List S77) : List ByteArray := l.map (fun a => a.f0)
theorem insP_mem (k v : ByteArray) : ∀ (l : List S77) (x : ByteArray), x ∈ keysP (insP k v l) ↔ x = k ∨ x ∈ keysP l
 | [], x => by simp [insP, keysP]
 | a :: r, x => by
  unfold insP
  split
  ·simp [keysP]
  ·have := insP_mem k v r x; simp only [keysP, List.map_cons, List.mem_cons] at this ⊢; rw [this]; exact or_left_comm
theorem outP_mem (k : ByteArray) (l : List S77) (x : ByteArray) : x ∈ keysP (outP k l) ↔ x ∈ keysP l ∧ x ≠ k := by
 unfold keysP outP; simp only [List.mem_map, List.mem_filter, Bool.not_eq_true', decide_eq_false_iff_not]
 constructor
 ·rintro ⟨a, ⟨h1, h2⟩, rfl⟩; exact ⟨⟨a, h1, rfl⟩, h2⟩
 ·rintro ⟨⟨a, h1, rfl⟩, h2⟩; exact ⟨a, ⟨h1, h2⟩, rfl⟩
theorem withP_mem (l : List S77) (k v x : ByteArray) : x ∈ keysP (withP l k v) ↔ x = k ∨ x ∈ keysP l := by
 unfold withP; rw [insP_mem, outP_mem]
 by_cases h : x = k
 ·simp [h]
 ·simp [h]
theorem insP_len (k v : ByteArray) : ∀ (l : List S77), (insP k v l).length = l.length + 1
 | [] => rfl
 | a :: r => by
  unfold insP
  split
  ·rfl
  ·rw [List.length_cons, insP_len k v r]; rfl
theorem withP_len (l : List S77) (k v : ByteArray) : (withP l k v).length ≤ l.length + 1 := by
 unfold withP outP; rw [insP_len]; exact Nat.succ_le_succ (List.length_filter_le _ _)
def chgP : List S77 → List S77 → List S219
 | [], [] => []
 | p :: ps, [] => ⟨p.f0, true, p.f1, false, ⟨#[]⟩⟩ :: chgP ps []
 | [], q :: qs => ⟨q.f0, false, ⟨#[]⟩, true, q.f1⟩ :: chgP [] qs
 | p :: ps, q :: qs =>
  if ltK p.f0 q.f0 = true then ⟨p.f0, true, p.f1, false, ⟨#[]⟩⟩ :: chgP ps (q :: qs)
  else if ltK q.f0 p.f0 = true then ⟨q.f0, false, ⟨#[]⟩, true, q.f1⟩ :: chgP (p :: ps) qs
  else if p.f1 = q.f1 then chgP ps qs else ⟨p.f0, true, p.f1, true, q.f1⟩ :: chgP ps qs
termination_by ps qs => ps.length + qs.length
end Go.Proofs.YtaepebkeijmjgaaDoor.Z
end
section
namespace Go.Proofs.YtaepebkeijmjgaaDoor.Z
open RowKit YtaepebkeijmjgaaDoorW.PrintWords YtaepebkeijmjgaaDoorW.PrintLast YtaepebkeijmjgaaDoorW.PrintMore
attribute [local go_sem] max2_int min2_int max_two min_two max_three min_three max_four min_four
set_option linter.all false
def spec_l4Without.l0 : Nat → List (S77) → ByteArray → List (S77) → Int → Option ((List (S77)))
 | 0, _, _, _, _ => none
 | k + 1, x0, x1, x5, x6 => if x6 < (x0.length : Int) then (if 0 ≤ x6 then (if ((rd_T77 x0 x6).f0).toList = x1.toList then (spec_l4Without.l0 k x0 x1 x5 (wrap64 (x6 + 1))) else (if x5.length < 4398046511104 then (spec_l4Without.l0 k x0 x1 (x5 ++ [(⟨(rd_T77 x0 x6).f0, (rd_T77 x0 x6).f1⟩ : S77)]) (wrap64 (x6 + 1))) else (none))) else (none)) else (some x5)
def spec_l4Without.f (k : Nat) (l0 : List (S77)) (a1 : ByteArray) : Option ((List (S77))) := spec_l4Without.l0 k l0 a1 (([] : List (S77))) 0
set_option maxHeartbeats 8000000 in
set_option maxRecDepth 100000 in
theorem spec_l4Without.calls (k : Nat) (A0 : Option Addr) (c0 : Nat) (l0 : List (S77)) (a1 : ByteArray) (r : List (S77)) (w : World) (hr0 : Kd.C k77 w A0 l0.length l0) (hc0 : l0.length ≤ c0) (h : spec_l4Without.f k l0 a1 = some r) :
  Calls Tryd.prog 137 #[.slice A0 l0.length c0, .string a1] w fun e w' => ∃ v0_ : Value, e = .returned (v0_) ∧ Kd.R k77 77 w' w.heap.size (fun _ => True) v0_ r ∧ Below w.heap.size w w' := by
 have hu77 := Tryd.underlying77; have HR0 := Aside0.mk hr0; have HC0 := Aside0.mk hc0; clear hr0 hc0; have HB := Aside0.mk (Below.refl w.heap.size w); have H : (spec_l4Without.l0 k l0 a1 (([] : List (S77))) 0) = some r := h; clear h; obtain ⟨y1370001, hy1370001⟩ : ∃ y_ : List (S77), y_ = (([] : List (S77))) := ⟨_, rfl⟩
 replace H : (spec_l4Without.l0 k l0 a1 y1370001 0) = some r := by first | (rw [hy1370001]; with_reducible exact H) | (have H2_ := (Option.bind_some _ _).symm.trans H; rw [hy1370001]; with_reducible exact H2_) | (have H2_ := (Option.bind_some _ _).symm.trans H; with_reducible exact H2_) | with_reducible exact H | (rw [hy1370001]; exact H) | exact H
 have Ny1370001 := Aside0.mk hy1370001; clear hy1370001; have H' := Aside0.mk H; clear H
 go_enter Tryd.func137, Tryd.ntmps137
 go_wp2_with (first | ((with_reducible refine gate_dst (N := 7) rfl ?_); refine Kd.R_lit k77 _ 77 ?hg (N := 7) ?hd (xs := ([] : List (S77))) (inner := []) (ok := fun _ => True) (okp := fun _ => True) ?hr ?hp (fun _ hk => hk) trivial (Below.refl _ _) (Nat.le_refl _) (by simp) ?_; (case hd => rfl); (case hg => rfl); (case hr => exact zq_14); (case hp => exact (Reps.none _ _)); intro v1370002 w3 ho4 hb hg_ hnew_; clear hg_ hnew_; (first | rw [← Ny1370001.out] at ho4 | (simp only [Int.reduceToNat] at ho4; rw [← Ny1370001.out] at ho4)); have n0_ := Aside0.mk (Kd.R_lower ho4 (below_size zq_0)); have n1_ := Aside0.mk (below_step zq_0 hb); clear HB; have HO1370003 := n0_; have HB := n1_; clear n0_ n1_; clear hb ho4))
 go_loopg [5, 6] k (fun kq v5 v6 w' => ∃ (x5_1 : List (S77)) (x6_1 : Int), v6 = .int .i64 x6_1 ∧ Aside0 (spec_l4Without.l0 kq l0 a1 x5_1 x6_1 = some r) ∧ Aside0 (kq ≤ k) ∧ Aside0 (Kd.R k77 77 w' w.heap.size (fun _ => True) v5 x5_1) ∧ Aside0 (Below w.heap.size w w'))
 case atStart => exact ⟨(y1370001), (0), zq_4, H', ⟨Nat.le_refl _⟩, ⟨by (with_reducible repeat (first | apply Kd.R_alloc | apply Kd.R_drewN | apply Kd.R_drew)); exact HO1370003.out⟩, ⟨by repeat (first | (with_reducible first | exact HB.out | apply below_alloc | apply pw_below_drewN | apply below_drew1) | exact HB.out)⟩⟩
 case round =>
  clear H'
  try clear c1
  try clear p2
  obtain ⟨x5_1, x6_1, rfl, HA, HK1, HO_5, HB⟩ := hrel
  cases gk with
  | zero => exact absurd HA.out (by simp [spec_l4Without.l0])
  | succ k1 =>
   have H := HA.out; clear HA; simp only [spec_l4Without.l0] at H
   by_cases c5 : x6_1 < (l0.length : Int)
   ·rw [if_pos c5] at H; have c5b0 : decide (x6_1 < (l0.length : Int)) = true := decide_eq_true c5; clear c5
    by_cases c6 : 0 ≤ x6_1
    ·rw [if_pos c6] at H; have c6b0 : decide (0 ≤ x6_1) = true := decide_eq_true c6; clear c6
     by_cases c7 : ((rd_T77 l0 x6_1).f0).toList = a1.toList
     ·rw [if_pos c7] at H; have c7b0 : (((rd_T77 l0 x6_1).f0).toList == a1.toList) = true := beq_iff_eq.mpr c7; have c7b1 : (((rd_T77 l0 x6_1).f0).toList != a1.toList) = false := bne_eq_false_iff_eq.mpr c7; clear c7; have H' := Aside0.mk H; clear H; have p1370004 : 0 ≤ (x6_1 : Int) := of_decide_eq_true zq_2; have q1370004 : x6_1 < (l0.length : Int) := of_decide_eq_true zq_2; obtain ⟨ad1370004, e1370004, hx1370004_0, hx1370004_1⟩ := at_T77 HR0.out x6_1 p1370004 q1370004
      cases e1370004
      replace hx1370004_0 := (HB.out.cell (World.block_lt_of_cell? w _ hx1370004_0)).trans hx1370004_0; replace hx1370004_1 := (HB.out.cell (World.block_lt_of_cell? w _ hx1370004_1)).trans hx1370004_1; replace p1370004 := eq_true p1370004; replace q1370004 := eq_true q1370004
      go_wp2
      go_roundg k1
      case measure => have := HK1.out; omega
      case rel => exact ⟨(x5_1), (wrap64 (x6_1 + 1)), zq_4, H', ⟨by have := HK1.out; omega⟩, ⟨by (with_reducible repeat (first | apply Kd.R_alloc | apply Kd.R_drewN | apply Kd.R_drew)); exact HO_5.out⟩, ⟨by repeat (first | (with_reducible first | exact HB.out | apply below_alloc | apply pw_below_drewN | apply below_drew1) | exact HB.out)⟩⟩
     ·rw [if_neg c7] at H; have c7b0 : (((rd_T77 l0 x6_1).f0).toList == a1.toList) = false := beq_eq_false_iff_ne.mpr c7; have c7b1 : (((rd_T77 l0 x6_1).f0).toList != a1.toList) = true := bne_iff_ne.mpr c7
      by_cases c8 : x5_1.length < 4398046511104
      ·rw [if_pos c8] at H; have LMc8 := Aside0.mk c8; clear c8; obtain ⟨y1370006, hy1370006⟩ : ∃ y_ : List (S77), y_ = (x5_1 ++ [(⟨(rd_T77 l0 x6_1).f0, (rd_T77 l0 x6_1).f1⟩ : S77)]) := ⟨_, rfl⟩
       replace H : (spec_l4Without.l0 k1 l0 a1 y1370006 (wrap64 (x6_1 + 1))) = some r := by first | (rw [hy1370006]; with_reducible exact H) | (have H2_ := (Option.bind_some _ _).symm.trans H; rw [hy1370006]; with_reducible exact H2_) | (have H2_ := (Option.bind_some _ _).symm.trans H; with_reducible exact H2_) | with_reducible exact H | (rw [hy1370006]; exact H) | exact H
       have Ny1370006 := Aside0.mk hy1370006; clear hy1370006; have H' := Aside0.mk H; clear H; have p1370004 : 0 ≤ (x6_1 : Int) := of_decide_eq_true zq_2; have q1370004 : x6_1 < (l0.length : Int) := of_decide_eq_true zq_2; obtain ⟨ad1370004, e1370004, hx1370004_0, hx1370004_1⟩ := at_T77 HR0.out x6_1 p1370004 q1370004
       cases e1370004
       replace hx1370004_0 := (HB.out.cell (World.block_lt_of_cell? w _ hx1370004_0)).trans hx1370004_0; replace hx1370004_1 := (HB.out.cell (World.block_lt_of_cell? w _ hx1370004_1)).trans hx1370004_1; replace p1370004 := eq_true p1370004; replace q1370004 := eq_true q1370004; have p1370005 : 0 ≤ (x6_1 : Int) := of_decide_eq_true zq_2; have q1370005 : x6_1 < (l0.length : Int) := of_decide_eq_true zq_2; obtain ⟨ad1370005, e1370005, hx1370005_0, hx1370005_1⟩ := at_T77 HR0.out x6_1 p1370005 q1370005; obtain rfl : ad1370004 = ad1370005 := (by injection e1370005)
       replace hx1370005_0 := (HB.out.cell (World.block_lt_of_cell? w _ hx1370005_0)).trans hx1370005_0; replace hx1370005_1 := (HB.out.cell (World.block_lt_of_cell? w _ hx1370005_1)).trans hx1370005_1; replace p1370005 := eq_true p1370005; replace q1370005 := eq_true q1370005
       go_wp2_with (first | ((with_reducible refine gate_builtin (b := .append) (xs := #[.tmp 21, .tmp 26]) rfl ?_); at_builtin; refine Kd.R_append k77 (w0 := w) w.heap.size rfl (.tmp 21) (.tmp 26) 22 77 (.agg #[(.string ⟨#[]⟩), (.string ⟨#[]⟩)]) 32 rfl Tryd.underlying22 info77 rfl (by decide) (by omega) u5 x5_1 (⟨(rd_T77 l0 x6_1).f0, (rd_T77 l0 x6_1).f1⟩ : S77) [.string ((rd_T77 l0 x6_1).f0), .string ((rd_T77 l0 x6_1).f1)] (fun _ => True) (fun _ => False) rfl rfl ?aP (fun _ hk => hk.elim) ?aF ?aO ?aB ?aS ?aL ?_; (case aP => exact k77_mkM _ _ _ (⟨(rd_T77 l0 x6_1).f0, (rd_T77 l0 x6_1).f1⟩ : S77)); (case aB => exact zq_0); (case aF => exact (fun _ _ => trivial)); (case aO => exact zq_24); (case aS => exact (below_size zq_0)); (case aL => have := LMc8.out; omega); intro v1370007 w9 ho hb hg hat; rw [← Ny1370006.out] at ho; have n0_ := Aside0.mk (hb); have n1_ := Aside0.mk (ho); clear HB; clear HO_5; have HB := n0_; have HO1370008 := n1_; clear n0_ n1_; clear ho hb hg hat))
       go_roundg k1
       case measure => have := HK1.out; omega
       case rel => exact ⟨(y1370006), (wrap64 (x6_1 + 1)), zq_4, H', ⟨by have := HK1.out; omega⟩, ⟨by (with_reducible repeat (first | apply Kd.R_alloc | apply Kd.R_drewN | apply Kd.R_drew)); exact HO1370008.out⟩, ⟨by repeat (first | (with_reducible first | exact HB.out | apply below_alloc | apply pw_below_drewN | apply below_drew1) | exact HB.out)⟩⟩
      ·rw [if_neg c8] at H; exact absurd H (by simp)
    ·rw [if_neg c6] at H; exact absurd H (by simp)
   ·rw [if_neg c5] at H; have c5b0 : decide (x6_1 < (l0.length : Int)) = false := decide_eq_false c5; clear c5; obtain rfl := Option.some.inj H
    go_wp2
    go_ret
    exact ⟨_, by first | rfl | (simp [errW_none, errW_some] <;> rfl) | (simp [*, errW_none, errW_some] <;> rfl), by (with_reducible repeat (first | apply Kd.R_alloc | apply Kd.R_drewN | apply Kd.R_drew)); exact HO_5.out, by repeat (first | (with_reducible first | exact HB.out | apply below_alloc | apply pw_below_drewN | apply below_drew1) | exact HB.out)⟩
def spec_l4With.l0 : Nat → ByteArray → ByteArray → List (S77) → List (S77) → Bool → Int → Option ((List (S77)))
 | 0, _, _, _, _, _, _ => none
 | k + 1, x1, x2, x7, x8, x9, x10 => if x10 < (x7.length : Int) then (if x9 = true then (if 0 ≤ x10 then (if x8.length < 4398046511104 then (spec_l4With.l0 k x1 x2 x7 (x8 ++ [(⟨(rd_T77 x7 x10).f0, (rd_T77 x7 x10).f1⟩ : S77)]) x9 (wrap64 (x10 + 1))) else (none)) else (none)) else (if 0 ≤ x10 then ((spec_l1Less.f k x1 ((rd_T77 x7 x10).f0)).bind fun t1040012 => (if t1040012 = true then (if x8.length < 4398046511104 then ((some (x8 ++ [(⟨x1, x2⟩ : S77)] : List (S77))).bind fun y1040013 => (if y1040013.length < 4398046511104 then (spec_l4With.l0 k x1 x2 x7 (y1040013 ++ [(⟨(rd_T77 x7 x10).f0, (rd_T77 x7 x10).f1⟩ : S77)]) true (wrap64 (x10 + 1))) else (none))) else (none)) else (if x8.length < 4398046511104 then (spec_l4With.l0 k x1 x2 x7 (x8 ++ [(⟨(rd_T77 x7 x10).f0, (rd_T77 x7 x10).f1⟩ : S77)]) x9 (wrap64 (x10 + 1))) else (none)))) else (none))) else (if x9 = true then (some x8) else (if x8.length < 4398046511104 then (some (x8 ++ [(⟨x1, x2⟩ : S77)])) else (none)))
def spec_l4With.f (k : Nat) (l0 : List (S77)) (a1 : ByteArray) (a2 : ByteArray) : Option ((List (S77))) := (spec_l4Without.f k l0 a1).bind fun t1040001 => (spec_l4With.l0 k a1 a2 t1040001 (([] : List (S77))) false 0)
set_option maxHeartbeats 8000000 in
set_option maxRecDepth 100000 in
theorem spec_l4With.calls (k : Nat) (A0 : Option Addr) (c0 : Nat) (l0 : List (S77)) (a1 : ByteArray) (a2 : ByteArray) (r : List (S77)) (w : World) (hr0 : Kd.C k77 w A0 l0.length l0) (hc0 : l0.length ≤ c0) (h : spec_l4With.f k l0 a1 a2 = some r) :
  Calls Tryd.prog 104 #[.slice A0 l0.length c0, .string a1, .string a2] w fun e w' => ∃ v0_ : Value, e = .returned (v0_) ∧ Kd.R k77 77 w' w.heap.size (fun _ => True) v0_ r ∧ Below w.heap.size w w' := by
 have hu77 := Tryd.underlying77; have HR0 := Aside0.mk hr0; have HC0 := Aside0.mk hc0; clear hr0 hc0; have HB := Aside0.mk (Below.refl w.heap.size w); have H : ((spec_l4Without.f k l0 a1).bind fun t1040001 => (spec_l4With.l0 k a1 a2 t1040001 (([] : List (S77))) false 0)) = some r := h; clear h; replace H := Option.bind_eq_some_iff.mp H; obtain ⟨t1040001, A40, H⟩ := H; (try dsimp only at H); have A4 := Aside0.mk A40; clear A40; obtain ⟨y1040004, hy1040004⟩ : ∃ y_ : List (S77), y_ = (([] : List (S77))) := ⟨_, rfl⟩
 replace H : (spec_l4With.l0 k a1 a2 t1040001 y1040004 false 0) = some r := by first | (rw [hy1040004]; with_reducible exact H) | (have H2_ := (Option.bind_some _ _).symm.trans H; rw [hy1040004]; with_reducible exact H2_) | (have H2_ := (Option.bind_some _ _).symm.trans H; with_reducible exact H2_) | with_reducible exact H | (rw [hy1040004]; exact H) | exact H
 have Ny1040004 := Aside0.mk hy1040004; clear hy1040004; have H' := Aside0.mk H; clear H
 go_enter Tryd.func104, Tryd.ntmps104
 go_wp2_with (first | ((with_reducible refine gate_callee (f := 137) rfl ?_); refine goesL_ (some 13) rfl rfl Tryd.func137 (by kernel_rfl) rfl #[.slice A0 l0.length c0, .string a1] rfl zq_1 ?_; (with_reducible refine (spec_l4Without.calls k _ _ l0 a1 t1040001 _ ?side1 ?side2 A4.out).mono ?_); (case side1 => exact zq_5); (case side2 => exact HC0.out); rintro e w5 ⟨v1040002, rfl, ho0, hb⟩; refine ⟨_, rfl, ?_⟩; have n0_ := Aside0.mk (Kd.R_lower ho0 (below_size zq_0)); have n1_ := Aside0.mk (below_step zq_0 hb); clear HB; have HO1040003 := n0_; have HB := n1_; clear n0_ n1_; (try clear hb); (try clear hb2); (try clear hk); (try clear hi); (try clear ho0)) | ((with_reducible refine gate_dst (N := 14) rfl ?_); refine Kd.R_lit k77 _ 77 ?hg (N := 14) ?hd (xs := ([] : List (S77))) (inner := []) (ok := fun _ => True) (okp := fun _ => True) ?hr ?hp (fun _ hk => hk) trivial (Below.refl _ _) (Nat.le_refl _) (by simp) ?_; (case hd => rfl); (case hg => rfl); (case hr => exact zq_14); (case hp => exact (Reps.none _ _)); intro v1040005 w6 ho7 hb hg_ hnew_; clear hg_ hnew_; (first | rw [← Ny1040004.out] at ho7 | (simp only [Int.reduceToNat] at ho7; rw [← Ny1040004.out] at ho7)); have n0_ := Aside0.mk (Kd.R_elder' (by (with_reducible repeat (first | apply Kd.R_alloc | apply Kd.R_drewN | apply Kd.R_drew)); exact HO1040003.out) (Kd.R_base ho7) hb); have n1_ := Aside0.mk (Kd.R_lower (Kd.R_new' ho7 (Kd.R_lt (by (with_reducible repeat (first | apply Kd.R_alloc | apply Kd.R_drewN | apply Kd.R_drew)); exact HO1040003.out))) (below_size zq_0)); have n2_ := Aside0.mk (below_step zq_0 hb); clear HO1040003; clear HB; have HO1040003 := n0_; have HO1040006 := n1_; have HB := n2_; clear n0_ n1_ n2_; clear hb ho7))
 go_loopg [8, 9, 10] k (fun kq v8 v9 v10 w' => ∃ (x8_1 : List (S77)) (x9_1 : Bool) (x10_1 : Int), v9 = .bool x9_1 ∧ v10 = .int .i64 x10_1 ∧ Aside0 (spec_l4With.l0 kq a1 a2 t1040001 x8_1 x9_1 x10_1 = some r) ∧ Aside0 (kq ≤ k) ∧ Aside0 (Kd.R k77 77 w' w.heap.size (fun k_ => some k_ ≠ (v8 : Value).ownBlock) v1040002 t1040001) ∧ Aside0 (Kd.R k77 77 w' w.heap.size (fun k_ => some k_ ≠ (v1040002 : Value).ownBlock) v8 x8_1) ∧ Aside0 (Below w.heap.size w w'))
 case atStart => exact ⟨(y1040004), (false), (0), zq_4, zq_4, H', ⟨Nat.le_refl _⟩, ⟨by (with_reducible repeat (first | apply Kd.R_alloc | apply Kd.R_drewN | apply Kd.R_drew)); exact Kd.R_mono HO1040003.out (fun _ hk => hk.2)⟩, ⟨by (with_reducible repeat (first | apply Kd.R_alloc | apply Kd.R_drewN | apply Kd.R_drew)); exact Kd.R_mono HO1040006.out (fun _ hk => hk.2)⟩, ⟨by repeat (first | (with_reducible first | exact HB.out | apply below_alloc | apply pw_below_drewN | apply below_drew1) | exact HB.out)⟩⟩
 case round =>
  clear H'
  try clear c1
  try clear p2
  obtain ⟨x8_1, x9_1, x10_1, rfl, rfl, HA, HK1, HO_7, HO_8, HB⟩ := hrel
  cases gk with
  | zero => exact absurd HA.out (by simp [spec_l4With.l0])
  | succ k1 =>
   have H := HA.out; clear HA; simp only [spec_l4With.l0] at H
   by_cases c8 : x10_1 < (t1040001.length : Int)
   ·rw [if_pos c8] at H; have c8b0 : decide (x10_1 < (t1040001.length : Int)) = true := decide_eq_true c8; clear c8
    by_cases c9 : x9_1 = true
    ·subst c9; have H1 : (if 0 ≤ x10_1 then (if x8_1.length < 4398046511104 then (spec_l4With.l0 k1 a1 a2 t1040001 (x8_1 ++ [(⟨(rd_T77 t1040001 x10_1).f0, (rd_T77 t1040001 x10_1).f1⟩ : S77)]) true (wrap64 (x10_1 + 1))) else (none)) else (none)) = some r := by rw [if_pos rfl] at H; exact H
     clear H; have H := H1; clear H1
     by_cases c10 : 0 ≤ x10_1
     ·rw [if_pos c10] at H; have c10b0 : decide (0 ≤ x10_1) = true := decide_eq_true c10; clear c10
      by_cases c11 : x8_1.length < 4398046511104
      ·rw [if_pos c11] at H; have LMc11 := Aside0.mk c11; clear c11; obtain ⟨y1040008, hy1040008⟩ : ∃ y_ : List (S77), y_ = (x8_1 ++ [(⟨(rd_T77 t1040001 x10_1).f0, (rd_T77 t1040001 x10_1).f1⟩ : S77)]) := ⟨_, rfl⟩
       replace H : (spec_l4With.l0 k1 a1 a2 t1040001 y1040008 true (wrap64 (x10_1 + 1))) = some r := by first | (rw [hy1040008]; with_reducible exact H) | (have H2_ := (Option.bind_some _ _).symm.trans H; rw [hy1040008]; with_reducible exact H2_) | (have H2_ := (Option.bind_some _ _).symm.trans H; with_reducible exact H2_) | with_reducible exact H | (rw [hy1040008]; exact H) | exact H
       have Ny1040008 := Aside0.mk hy1040008; clear hy1040008; have H' := Aside0.mk H; clear H; obtain ⟨Ao12, co12, eo12⟩ := Kd.R_slice HO_7.out; subst eo12; have p1040007 : 0 ≤ (x10_1 : Int) := of_decide_eq_true zq_2; have q1040007 : x10_1 < (t1040001.length : Int) := of_decide_eq_true zq_2; obtain ⟨ad1040007, e1040007, hx1040007_0, hx1040007_1⟩ := at_T77 (Kd.R_reads' HO_7.out).2.2 x10_1 p1040007 q1040007
       cases e1040007
       replace p1040007 := eq_true p1040007; replace q1040007 := eq_true q1040007
       go_wp2_with (first | ((with_reducible refine gate_builtin (b := .append) (xs := #[.tmp 38, .tmp 43]) rfl ?_); at_builtin; refine Kd.R_append k77 (w0 := w) w.heap.size rfl (.tmp 38) (.tmp 43) 22 77 (.agg #[(.string ⟨#[]⟩), (.string ⟨#[]⟩)]) 32 rfl Tryd.underlying22 info77 rfl (by decide) (by omega) u8 x8_1 (⟨(rd_T77 t1040001 x10_1).f0, (rd_T77 t1040001 x10_1).f1⟩ : S77) [.string ((rd_T77 t1040001 x10_1).f0), .string ((rd_T77 t1040001 x10_1).f1)] (fun k_ => some k_ ≠ (.slice (some ad1040007) t1040001.length co12 : Value).ownBlock) (fun _ => False) rfl rfl ?aP (fun _ hk => hk.elim) ?aF ?aO ?aB ?aS ?aL ?_; (case aP => exact k77_mkM _ _ _ (⟨(rd_T77 t1040001 x10_1).f0, (rd_T77 t1040001 x10_1).f1⟩ : S77)); (case aB => exact zq_0); (case aF => exact (fun k_ hk => Kd.fresh' (Kd.R_lt zq_6) k_ hk)); (case aO => exact zq_20); (case aS => exact (below_size zq_0)); (case aL => have := LMc11.out; omega); intro v1040009 w13 ho hb hg hat; rw [← Ny1040008.out] at ho; have n0_ := Aside0.mk (Kd.R_after (ok := (fun _ => True)) zq_34 hg hat); have n1_ := Aside0.mk (hb); have n2_ := Aside0.mk (ho); clear HO_7; clear HB; clear HO_8; have HO_7 := n0_; have HB := n1_; have HO1040010 := n2_; clear n0_ n1_ n2_; clear ho hb hg hat))
       go_roundg k1
       case measure => have := HK1.out; omega
       case rel => exact ⟨(y1040008), (true), (wrap64 (x10_1 + 1)), zq_4, zq_4, H', ⟨by have := HK1.out; omega⟩, ⟨by (with_reducible repeat (first | apply Kd.R_alloc | apply Kd.R_drewN | apply Kd.R_drew)); exact Kd.R_mono HO_7.out (fun _ hk => hk.2)⟩, ⟨by (with_reducible repeat (first | apply Kd.R_alloc | apply Kd.R_drewN | apply Kd.R_drew)); exact HO1040010.out⟩, ⟨by repeat (first | (with_reducible first | exact HB.out | apply below_alloc | apply pw_below_drewN | apply below_drew1) | exact HB.out)⟩⟩
      ·rw [if_neg c11] at H; exact absurd H (by simp)
     ·rw [if_neg c10] at H; exact absurd H (by simp)
    ·replace c9 := Bool.eq_false_iff.mpr c9; subst c9; have H1 : (if 0 ≤ x10_1 then ((spec_l1Less.f k1 a1 ((rd_T77 t1040001 x10_1).f0)).bind fun t1040012 => (if t1040012 = true then (if x8_1.length < 4398046511104 then ((some (x8_1 ++ [(⟨a1, a2⟩ : S77)] : List (S77))).bind fun y1040013 => (if y1040013.length < 4398046511104 then (spec_l4With.l0 k1 a1 a2 t1040001 (y1040013 ++ [(⟨(rd_T77 t1040001 x10_1).f0, (rd_T77 t1040001 x10_1).f1⟩ : S77)]) true (wrap64 (x10_1 + 1))) else (none))) else (none)) else (if x8_1.length < 4398046511104 then (spec_l4With.l0 k1 a1 a2 t1040001 (x8_1 ++ [(⟨(rd_T77 t1040001 x10_1).f0, (rd_T77 t1040001 x10_1).f1⟩ : S77)]) false (wrap64 (x10_1 + 1))) else (none)))) else (none)) = some r := by rw [if_neg (show ¬ (false = true) by decide)] at H; exact H
     clear H; have H := H1; clear H1
     by_cases c14 : 0 ≤ x10_1
     ·rw [if_pos c14] at H; have c14b0 : decide (0 ≤ x10_1) = true := decide_eq_true c14; clear c14; replace H := Option.bind_eq_some_iff.mp H; obtain ⟨t1040012, A150, H⟩ := H; (try dsimp only at H); have A15 := Aside0.mk A150; clear A150
      by_cases c16 : t1040012 = true
      ·subst c16; have H1 : (if x8_1.length < 4398046511104 then ((some (x8_1 ++ [(⟨a1, a2⟩ : S77)] : List (S77))).bind fun y1040013 => (if y1040013.length < 4398046511104 then (spec_l4With.l0 k1 a1 a2 t1040001 (y1040013 ++ [(⟨(rd_T77 t1040001 x10_1).f0, (rd_T77 t1040001 x10_1).f1⟩ : S77)]) true (wrap64 (x10_1 + 1))) else (none))) else (none)) = some r := by rw [if_pos rfl] at H; exact H
       clear H; have H := H1; clear H1
       by_cases c17 : x8_1.length < 4398046511104
       ·rw [if_pos c17] at H; have LMc17 := Aside0.mk c17; clear c17; obtain ⟨y1040013, hy1040013⟩ : ∃ y_ : List (S77), y_ = (x8_1 ++ [(⟨a1, a2⟩ : S77)]) := ⟨_, rfl⟩
        replace H : (if y1040013.length < 4398046511104 then (spec_l4With.l0 k1 a1 a2 t1040001 (y1040013 ++ [(⟨(rd_T77 t1040001 x10_1).f0, (rd_T77 t1040001 x10_1).f1⟩ : S77)]) true (wrap64 (x10_1 + 1))) else (none)) = some r := by first | (rw [hy1040013]; with_reducible exact H) | (have H2_ := (Option.bind_some _ _).symm.trans H; rw [hy1040013]; with_reducible exact H2_) | (have H2_ := (Option.bind_some _ _).symm.trans H; with_reducible exact H2_) | with_reducible exact H | (rw [hy1040013]; exact H) | exact H
        have Ny1040013 := Aside0.mk hy1040013; clear hy1040013
        by_cases c18 : y1040013.length < 4398046511104
        ·rw [if_pos c18] at H; have LMc18 := Aside0.mk c18; clear c18; obtain ⟨y1040017, hy1040017⟩ : ∃ y_ : List (S77), y_ = (y1040013 ++ [(⟨(rd_T77 t1040001 x10_1).f0, (rd_T77 t1040001 x10_1).f1⟩ : S77)]) := ⟨_, rfl⟩
         replace H : (spec_l4With.l0 k1 a1 a2 t1040001 y1040017 true (wrap64 (x10_1 + 1))) = some r := by first | (rw [hy1040017]; with_reducible exact H) | (have H2_ := (Option.bind_some _ _).symm.trans H; rw [hy1040017]; with_reducible exact H2_) | (have H2_ := (Option.bind_some _ _).symm.trans H; with_reducible exact H2_) | with_reducible exact H | (rw [hy1040017]; exact H) | exact H
         have Ny1040017 := Aside0.mk hy1040017; clear hy1040017; have H' := Aside0.mk H; clear H; obtain ⟨Ao19, co19, eo19⟩ := Kd.R_slice HO_7.out; subst eo19; have p1040011 : 0 ≤ (x10_1 : Int) := of_decide_eq_true zq_2; have q1040011 : x10_1 < (t1040001.length : Int) := of_decide_eq_true zq_2; obtain ⟨ad1040011, e1040011, hx1040011_0, hx1040011_1⟩ := at_T77 (Kd.R_reads' HO_7.out).2.2 x10_1 p1040011 q1040011
         cases e1040011
         replace p1040011 := eq_true p1040011; replace q1040011 := eq_true q1040011
         go_wp2_with (first | (go_at_call 103; (with_reducible refine (spec_l1Less.calls k1 a1 ((rd_T77 t1040001 x10_1).f0) true _ A15.out).mono ?_); rintro e w' ⟨rfl, ⟨nd, rfl⟩⟩) | ((with_reducible refine gate_builtin (b := .append) (xs := #[.tmp 32, .tmp 36]) rfl ?_); at_builtin; refine Kd.R_append k77 (w0 := w) w.heap.size rfl (.tmp 32) (.tmp 36) 22 77 (.agg #[(.string ⟨#[]⟩), (.string ⟨#[]⟩)]) 32 rfl Tryd.underlying22 info77 rfl (by decide) (by omega) u8 x8_1 (⟨a1, a2⟩ : S77) [.string a1, .string a2] (fun k_ => some k_ ≠ (.slice (some ad1040011) t1040001.length co19 : Value).ownBlock) (fun _ => False) rfl rfl ?aP (fun _ hk => hk.elim) ?aF ?aO ?aB ?aS ?aL ?_; (case aP => exact k77_mkM _ _ _ (⟨a1, a2⟩ : S77)); (case aB => exact zq_0); (case aF => exact (fun k_ hk => Kd.fresh' (Kd.R_lt zq_6) k_ hk)); (case aO => exact zq_20); (case aS => exact (below_size zq_0)); (case aL => have := LMc17.out; omega); intro v1040014 w20 ho hb hg hat; rw [← Ny1040013.out] at ho; have n0_ := Aside0.mk (Kd.R_after (ok := (fun _ => True)) zq_34 hg hat); have n1_ := Aside0.mk (hb); have n2_ := Aside0.mk (ho); clear HO_7; clear HB; clear HO_8; have HO_7 := n0_; have HB := n1_; have HO1040015 := n2_; clear n0_ n1_ n2_; clear ho hb hg hat; have p1040016 : 0 ≤ (x10_1 : Int) := of_decide_eq_true zq_2; have q1040016 : x10_1 < (t1040001.length : Int) := of_decide_eq_true zq_2; obtain ⟨ad1040016, e1040016, hx1040016_0, hx1040016_1⟩ := at_T77 (Kd.R_reads' HO_7.out).2.2 x10_1 p1040016 q1040016; obtain rfl : ad1040011 = ad1040016 := (by injection e1040016); replace p1040016 := eq_true p1040016; replace q1040016 := eq_true q1040016) | ((with_reducible refine gate_builtin (b := .append) (xs := #[.tmp 38, .tmp 43]) rfl ?_); at_builtin; refine Kd.R_append k77 (w0 := w) w.heap.size rfl (.tmp 38) (.tmp 43) 22 77 (.agg #[(.string ⟨#[]⟩), (.string ⟨#[]⟩)]) 32 rfl Tryd.underlying22 info77 rfl (by decide) (by omega) v1040014 y1040013 (⟨(rd_T77 t1040001 x10_1).f0, (rd_T77 t1040001 x10_1).f1⟩ : S77) [.string ((rd_T77 t1040001 x10_1).f0), .string ((rd_T77 t1040001 x10_1).f1)] (fun k_ => some k_ ≠ (.slice (some ad1040011) t1040001.length co19 : Value).ownBlock) (fun _ => False) rfl rfl ?aP (fun _ hk => hk.elim) ?aF ?aO ?aB ?aS ?aL ?_; (case aP => exact k77_mkM _ _ _ (⟨(rd_T77 t1040001 x10_1).f0, (rd_T77 t1040001 x10_1).f1⟩ : S77)); (case aB => exact zq_0); (case aF => exact (fun k_ hk => Kd.fresh' (Kd.R_lt zq_6) k_ hk)); (case aO => exact (by (with_reducible repeat (first | apply Kd.R_alloc | apply Kd.R_drewN | apply Kd.R_drew)); exact HO1040015.out)); (case aS => exact (below_size zq_0)); (case aL => have := LMc18.out; omega); intro v1040018 w21 ho hb hg hat; rw [← Ny1040017.out] at ho; have n0_ := Aside0.mk (Kd.R_after (ok := (fun _ => True)) zq_6 hg hat); have n1_ := Aside0.mk (hb); have n2_ := Aside0.mk (ho); clear HO_7; clear HB; clear HO1040015; have HO_7 := n0_; have HB := n1_; have HO1040019 := n2_; clear n0_ n1_ n2_; clear ho hb hg hat))
         go_roundg k1
         case measure => have := HK1.out; omega
         case rel => exact ⟨(y1040017), (true), (wrap64 (x10_1 + 1)), zq_4, zq_4, H', ⟨by have := HK1.out; omega⟩, ⟨by (with_reducible repeat (first | apply Kd.R_alloc | apply Kd.R_drewN | apply Kd.R_drew)); exact Kd.R_mono HO_7.out (fun _ hk => hk.2)⟩, ⟨by (with_reducible repeat (first | apply Kd.R_alloc | apply Kd.R_drewN | apply Kd.R_drew)); exact HO1040019.out⟩, ⟨by repeat (first | (with_reducible first | exact HB.out | apply below_alloc | apply pw_below_drewN | apply below_drew1) | exact HB.out)⟩⟩
        ·rw [if_neg c18] at H; exact absurd H (by simp)
       ·rw [if_neg c17] at H; exact absurd H (by simp)
      ·replace c16 := Bool.eq_false_iff.mpr c16; subst c16; have H1 : (if x8_1.length < 4398046511104 then (spec_l4With.l0 k1 a1 a2 t1040001 (x8_1 ++ [(⟨(rd_T77 t1040001 x10_1).f0, (rd_T77 t1040001 x10_1).f1⟩ : S77)]) false (wrap64 (x10_1 + 1))) else (none)) = some r := by rw [if_neg (show ¬ (false = true) by decide)] at H; exact H
       clear H; have H := H1; clear H1
       by_cases c22 : x8_1.length < 4398046511104
       ·rw [if_pos c22] at H; have LMc22 := Aside0.mk c22; clear c22; obtain ⟨y1040021, hy1040021⟩ : ∃ y_ : List (S77), y_ = (x8_1 ++ [(⟨(rd_T77 t1040001 x10_1).f0, (rd_T77 t1040001 x10_1).f1⟩ : S77)]) := ⟨_, rfl⟩
        replace H : (spec_l4With.l0 k1 a1 a2 t1040001 y1040021 false (wrap64 (x10_1 + 1))) = some r := by first | (rw [hy1040021]; with_reducible exact H) | (have H2_ := (Option.bind_some _ _).symm.trans H; rw [hy1040021]; with_reducible exact H2_) | (have H2_ := (Option.bind_some _ _).symm.trans H; with_reducible exact H2_) | with_reducible exact H | (rw [hy1040021]; exact H) | exact H
        have Ny1040021 := Aside0.mk hy1040021; clear hy1040021; have H' := Aside0.mk H; clear H; obtain ⟨Ao23, co23, eo23⟩ := Kd.R_slice HO_7.out; subst eo23; have p1040011 : 0 ≤ (x10_1 : Int) := of_decide_eq_true zq_2; have q1040011 : x10_1 < (t1040001.length : Int) := of_decide_eq_true zq_2; obtain ⟨ad1040011, e1040011, hx1040011_0, hx1040011_1⟩ := at_T77 (Kd.R_reads' HO_7.out).2.2 x10_1 p1040011 q1040011
        cases e1040011
        replace p1040011 := eq_true p1040011; replace q1040011 := eq_true q1040011
        go_wp2_with (first | (go_at_call 103; (with_reducible refine (spec_l1Less.calls k1 a1 ((rd_T77 t1040001 x10_1).f0) false _ A15.out).mono ?_); rintro e w' ⟨rfl, ⟨nd, rfl⟩⟩; have p1040020 : 0 ≤ (x10_1 : Int) := of_decide_eq_true zq_2; have q1040020 : x10_1 < (t1040001.length : Int) := of_decide_eq_true zq_2; obtain ⟨ad1040020, e1040020, hx1040020_0, hx1040020_1⟩ := at_T77 (Kd.R_reads' HO_7.out).2.2 x10_1 p1040020 q1040020; obtain rfl : ad1040011 = ad1040020 := (by injection e1040020); replace p1040020 := eq_true p1040020; replace q1040020 := eq_true q1040020) | ((with_reducible refine gate_builtin (b := .append) (xs := #[.tmp 38, .tmp 43]) rfl ?_); at_builtin; refine Kd.R_append k77 (w0 := w) w.heap.size rfl (.tmp 38) (.tmp 43) 22 77 (.agg #[(.string ⟨#[]⟩), (.string ⟨#[]⟩)]) 32 rfl Tryd.underlying22 info77 rfl (by decide) (by omega) u8 x8_1 (⟨(rd_T77 t1040001 x10_1).f0, (rd_T77 t1040001 x10_1).f1⟩ : S77) [.string ((rd_T77 t1040001 x10_1).f0), .string ((rd_T77 t1040001 x10_1).f1)] (fun k_ => some k_ ≠ (.slice (some ad1040011) t1040001.length co23 : Value).ownBlock) (fun _ => False) rfl rfl ?aP (fun _ hk => hk.elim) ?aF ?aO ?aB ?aS ?aL ?_; (case aP => exact k77_mkM _ _ _ (⟨(rd_T77 t1040001 x10_1).f0, (rd_T77 t1040001 x10_1).f1⟩ : S77)); (case aB => exact zq_0); (case aF => exact (fun k_ hk => Kd.fresh' (Kd.R_lt zq_6) k_ hk)); (case aO => exact zq_20); (case aS => exact (below_size zq_0)); (case aL => have := LMc22.out; omega); intro v1040022 w24 ho hb hg hat; rw [← Ny1040021.out] at ho; have n0_ := Aside0.mk (Kd.R_after (ok := (fun _ => True)) zq_34 hg hat); have n1_ := Aside0.mk (hb); have n2_ := Aside0.mk (ho); clear HO_7; clear HB; clear HO_8; have HO_7 := n0_; have HB := n1_; have HO1040023 := n2_; clear n0_ n1_ n2_; clear ho hb hg hat))
        go_roundg k1
        case measure => have := HK1.out; omega
        case rel => exact ⟨(y1040021), (false), (wrap64 (x10_1 + 1)), zq_4, zq_4, H', ⟨by have := HK1.out; omega⟩, ⟨by (with_reducible repeat (first | apply Kd.R_alloc | apply Kd.R_drewN | apply Kd.R_drew)); exact Kd.R_mono HO_7.out (fun _ hk => hk.2)⟩, ⟨by (with_reducible repeat (first | apply Kd.R_alloc | apply Kd.R_drewN | apply Kd.R_drew)); exact HO1040023.out⟩, ⟨by repeat (first | (with_reducible first | exact HB.out | apply below_alloc | apply pw_below_drewN | apply below_drew1) | exact HB.out)⟩⟩
       ·rw [if_neg c22] at H; exact absurd H (by simp)
     ·rw [if_neg c14] at H; exact absurd H (by simp)
   ·rw [if_neg c8] at H; have c8b0 : decide (x10_1 < (t1040001.length : Int)) = false := decide_eq_false c8; clear c8
    by_cases c25 : x9_1 = true
    ·subst c25; have H1 : (some x8_1) = some r := by rw [if_pos rfl] at H; exact H
     clear H; have H := H1; clear H1; obtain rfl := Option.some.inj H; obtain ⟨Ao26, co26, eo26⟩ := Kd.R_slice HO_7.out; subst eo26
     go_wp2
     go_ret
     exact ⟨_, by first | rfl | (simp [errW_none, errW_some] <;> rfl) | (simp [*, errW_none, errW_some] <;> rfl), by (with_reducible repeat (first | apply Kd.R_alloc | apply Kd.R_drewN | apply Kd.R_drew)); exact Kd.R_mono HO_8.out (fun _ hk => trivial), by repeat (first | (with_reducible first | exact HB.out | apply below_alloc | apply pw_below_drewN | apply below_drew1) | exact HB.out)⟩
    ·replace c25 := Bool.eq_false_iff.mpr c25; subst c25; have H1 : (if x8_1.length < 4398046511104 then (some (x8_1 ++ [(⟨a1, a2⟩ : S77)])) else (none)) = some r := by rw [if_neg (show ¬ (false = true) by decide)] at H; exact H
     clear H; have H := H1; clear H1
     by_cases c27 : x8_1.length < 4398046511104
     ·rw [if_pos c27] at H; have LMc27 := Aside0.mk c27; clear c27; obtain ⟨y1040024, hy1040024⟩ : ∃ y_ : List (S77), y_ = (x8_1 ++ [(⟨a1, a2⟩ : S77)]) := ⟨_, rfl⟩
      replace H : (some y1040024) = some r := by first | (rw [hy1040024]; with_reducible exact H) | (have H2_ := (Option.bind_some _ _).symm.trans H; rw [hy1040024]; with_reducible exact H2_) | (have H2_ := (Option.bind_some _ _).symm.trans H; with_reducible exact H2_) | with_reducible exact H | (rw [hy1040024]; exact H) | exact H
      have Ny1040024 := Aside0.mk hy1040024; clear hy1040024; obtain rfl := Option.some.inj H; obtain ⟨Ao28, co28, eo28⟩ := Kd.R_slice HO_7.out; subst eo28
      go_wp2_with (first | ((with_reducible refine gate_builtin (b := .append) (xs := #[.tmp 47, .tmp 51]) rfl ?_); at_builtin; refine Kd.R_append k77 (w0 := w) w.heap.size rfl (.tmp 47) (.tmp 51) 22 77 (.agg #[(.string ⟨#[]⟩), (.string ⟨#[]⟩)]) 32 rfl Tryd.underlying22 info77 rfl (by decide) (by omega) u8 x8_1 (⟨a1, a2⟩ : S77) [.string a1, .string a2] (fun k_ => some k_ ≠ (.slice Ao28 t1040001.length co28 : Value).ownBlock) (fun _ => False) rfl rfl ?aP (fun _ hk => hk.elim) ?aF ?aO ?aB ?aS ?aL ?_; (case aP => exact k77_mkM _ _ _ (⟨a1, a2⟩ : S77)); (case aB => exact zq_0); (case aF => exact (fun k_ hk => Kd.fresh' (Kd.R_lt zq_6) k_ hk)); (case aO => exact zq_20); (case aS => exact (below_size zq_0)); (case aL => have := LMc27.out; omega); intro v1040025 w29 ho hb hg hat; rw [← Ny1040024.out] at ho; have n0_ := Aside0.mk (Kd.R_after (ok := (fun _ => True)) zq_34 hg hat); have n1_ := Aside0.mk (hb); have n2_ := Aside0.mk (ho); clear HO_7; clear HB; clear HO_8; have HO_7 := n0_; have HB := n1_; have HO1040026 := n2_; clear n0_ n1_ n2_; clear ho hb hg hat))
      go_ret
      exact ⟨_, by first | rfl | (simp [errW_none, errW_some] <;> rfl) | (simp [*, errW_none, errW_some] <;> rfl), by (with_reducible repeat (first | apply Kd.R_alloc | apply Kd.R_drewN | apply Kd.R_drew)); exact Kd.R_mono HO1040026.out (fun _ hk => trivial), by repeat (first | (with_reducible first | exact HB.out | apply below_alloc | apply pw_below_drewN | apply below_drew1) | exact HB.out)⟩
     ·rw [if_neg c27] at H; exact absurd H (by simp)
end Go.Proofs.YtaepebkeijmjgaaDoor.Z
end
