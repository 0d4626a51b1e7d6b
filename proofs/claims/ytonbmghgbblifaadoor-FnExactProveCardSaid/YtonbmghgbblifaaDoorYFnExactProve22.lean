/- Own texts, joined. -/
import Derived.Test.YtonbmghgbblifaaDoorYFnExactProve25
import Derived.Test.YtonbmghgbblifaaDoorYFnExactProve21
import Derived.Lib.Builder
import Derived.Lib.AppendStr
import Derived.Lib.UnsafeStr
import Derived.Lib.Walk
import Derived.Laws.Externs
import Derived.StillTailTactics
import Derived.Deep.RegionHeld3
import Derived.Lib.SliceRun
import Derived.Maps.OwnSet
import Derived.DeepKeys4
import Derived.Lib.BufferOwn
import Derived.Lib.BufferWrite
import Derived.WalkLawsBesides
section
namespace Go.Proofs.YtonbmghgbblifaaDoor.Z
open RowKit YtonbmghgbblifaaDoor YtonbmghgbblifaaDoorW.PrintWords YtonbmghgbblifaaDoorW.PrintLast
set_option linter.all false
set_option maxRecDepth 100000
theorem strOfNums_take (l : List Int) (n : Nat) : strOfNums (l.take n) = (strOfNums l).extract 0 n := by
 apply ByteArray.ext
 unfold strOfNums; simp [ByteArray.data_extract]
def widB (x : Int) : Bool := decide (1 ≤ x ∧ x ≤ 32)
theorem isWidth_any (x : Int) (w : World) : Calls Tryd.prog 66 #[.int .i64 x] w fun e w' => e = .returned (.bool (widB x)) ∧ w = w' := by
 go_enter Tryd.func66, Tryd.ntmps66
 go_wp2
 all_goals
  go_ret
  refine ⟨ret_bool ?_, rfl⟩; unfold widB
  grind
theorem hash_str (l : List Int) (hl : l.length = 32) (g : Nat) (W : World) (hg : W.heap[g]? = some (.cells (l.map (Value.int .u8)).toArray 123 (0, 0))) :
  (convert 47 9 (.slice (some ⟨g, 0, none⟩) 32 32)).run Tryd.prog W = .ok (.string (strOfNums l)) W := by
 refine run_convert_bytes_arg (P := Tryd.prog) _ 47 5 Tryd.underlying47 Tryd.underlying5 g 0 32 32 l (by omega) (fun i hi => ?_) 9 Tryd.underlying9; rw [Nat.zero_add, cell_of_row _ _ _ _ _ _ hg]; simp [List.getD_eq_getElem?_getD, hl, show i < 32 by omega]
def aboveB (x y : List Int) (a b : ByteArray) : Bool := if x = y then Op.bytesLess a.toList b.toList else (!Op.bytesLess (strOfNums x).toList (strOfNums y).toList && !((strOfNums x).toList == (strOfNums y).toList))
set_option maxHeartbeats 1000000 in
set_option maxRecDepth 10000 in
theorem above_any (x y : List Int) (hx : x.length = 32) (hy : y.length = 32) (a b : ByteArray) (w : World) :
  Calls Tryd.prog 142 #[hashV x, .string a, hashV y, .string b] w fun e w' => e = .returned (.bool (aboveB x y a b)) ∧ Below w.heap.size w w' := by
 have hne := fun w => run_neq_hash x y hx hy w
 have hA : ((w.alloc (.cells (x.map (Value.int .u8)).toArray 123)).alloc (.cells (y.map (Value.int .u8)).toArray 123)).heap[w.heap.size]? = some (.cells (x.map (Value.int .u8)).toArray 123 (0, 0)) := heap_alloc2_old _ _ _; have hB : ((w.alloc (.cells (x.map (Value.int .u8)).toArray 123)).alloc (.cells (y.map (Value.int .u8)).toArray 123)).heap[w.heap.size + 1]? = some (.cells (y.map (Value.int .u8)).toArray 123 (0, 0)) := heap_alloc2_new _ _ _; have hi : (Tryd.prog.info? 123).map (·.size) = some ((x.map (Value.int .u8)).toArray.size) := by
  rw [show ((x.map (Value.int .u8)).toArray.size) = 32 by simp [hx]]; kernel_rfl
 have hj : (Tryd.prog.info? 123).map (·.size) = some ((y.map (Value.int .u8)).toArray.size) := by
  rw [show ((y.map (Value.int .u8)).toArray.size) = 32 by simp [hy]]; kernel_rfl
 have HA := Lib.hid hA; have HB := Lib.hid hB; have HI := Lib.hid hi; have HJ := Lib.hid hj; have HX := Lib.hid hx; have HY := Lib.hid hy; clear hA hB hi hj hx hy; unfold hashV at *
 by_cases hxy : x = y
 ·have hd : decide (x = y) = true := decide_eq_true hxy; have HD : Hid (aboveB x y a b = Op.bytesLess a.toList b.toList) := Lib.hid (by unfold aboveB; rw [if_pos hxy]); clear hxy
  go_enter Tryd.func142, Tryd.ntmps142
  go_wp2_with (first | ((with_reducible refine gate_dst (N := 9) rfl ?_); refine wpList_load_row rfl 123 _ rfl w.heap.size rfl _ _ _ _ HA.out Tryd.underlying123 rfl HI.out ?_) | ((with_reducible refine gate_dst (N := 10) rfl ?_); refine wpList_load_row rfl 123 _ rfl (w.heap.size + 1) rfl _ _ _ _ HB.out Tryd.underlying123 rfl HJ.out ?_))
  go_ret
  exact ⟨by rw [HD.out]; rfl, by (repeat' (first | exact Below.refl _ _ | (with_reducible assumption) | (with_reducible refine Below.setCell ?_ zq_12 _) | refine below_then ?_ (by assumption) | (with_reducible refine below_new2 ?_ _) | (with_reducible refine Below.drew ?_) | (with_reducible refine bdrewN ?_ _)))⟩
 ·have hd : decide (x = y) = false := decide_eq_false hxy; have HD : Hid (aboveB x y a b = (!Op.bytesLess (strOfNums x).toList (strOfNums y).toList && !((strOfNums x).toList == (strOfNums y).toList))) := Lib.hid (by unfold aboveB; rw [if_neg hxy]); clear hxy
  go_enter Tryd.func142, Tryd.ntmps142
  go_wp2_with (first | ((with_reducible refine gate_dst (N := 9) rfl ?_); refine wpList_load_row rfl 123 _ rfl w.heap.size rfl _ _ _ _ HA.out Tryd.underlying123 rfl HI.out ?_) | ((with_reducible refine gate_dst (N := 10) rfl ?_); refine wpList_load_row rfl 123 _ rfl (w.heap.size + 1) rfl _ _ _ _ HB.out Tryd.underlying123 rfl HJ.out ?_))
  have hBel : Below w.heap.size w ((w.alloc (.cells (x.map (Value.int .u8)).toArray 123)).alloc (.cells (y.map (Value.int .u8)).toArray 123)) := by (repeat' (first | exact Below.refl _ _ | (with_reducible assumption) | (with_reducible refine Below.setCell ?_ zq_12 _) | refine below_then ?_ (by assumption) | (with_reducible refine below_new2 ?_ _) | (with_reducible refine Below.drew ?_) | (with_reducible refine bdrewN ?_ _)))
  generalize (w.alloc (.cells (x.map (Value.int .u8)).toArray 123)).alloc (.cells (y.map (Value.int .u8)).toArray 123) = W at HA HB hBel ⊢; have kx := fun n => hash_str x HX.out w.heap.size (W.drewN n) HA.out
  have ky := fun n => hash_str y HY.out (w.heap.size + 1) (W.drewN n) HB.out
  have kx0 := hash_str x HX.out w.heap.size W HA.out; have ky0 := hash_str y HY.out (w.heap.size + 1) W HB.out; clear hne
  go_quiet (fail)
  go_wp2
  go_ret
  exact ⟨by rw [HD.out]; rfl, bdrewN hBel nq⟩
theorem catL_one (s : ByteArray) : catL [s] = s.data.toList := by simp [catL]
theorem hashOne_any (s : ByteArray) (W w : World) (hW : W = w.alloc (.cells #[.string s] 9)) (ht : Tab w) (hs : s.size ≤ 4294967296) :
  Calls Tryd.prog 83 #[.slice (some ⟨w.heap.size, 0, none⟩) 1 1] W fun e w' => e = .returned (hashV (shaL s.data.toList)) ∧ Below w.heap.size w w' := by
 subst hW; have h := hashOf_any w.heap.size [s] (w.alloc (.cells #[.string s] 9)) (fun j p hj => by
  match j, hj with
  | 0, hj =>
   simp only [List.getElem?_cons_zero, Option.some.injEq] at hj; subst hj; rw [cell_of_row _ _ _ _ _ _ (heap_alloc_new _ _)]; rfl) (ht.below zq_15) (by rw [catL_one]; exact hs) (by simp) (by simp)
 rw [catL_one] at h; refine h.mono ?_; rintro e w' ⟨h1, hb⟩; exact ⟨h1, ((Below.refl _ _).alloc (Nat.le_refl _) _).trans (hb.mono (by simp))⟩
def digV (s : ByteArray) (n : Int) : ByteArray := if widB n then (shaV s).extract 0 n.toNat else ⟨#[]⟩
theorem digV_yes {s : ByteArray} {n : Int} (h : widB n = true) : digV s n = (shaV s).extract 0 n.toNat := by unfold digV; rw [h]; rfl
theorem digV_no {s : ByteArray} {n : Int} (h : widB n = false) : digV s n = ⟨#[]⟩ := by unfold digV; rw [h]; rfl
def highB (a b : ByteArray) : Bool := aboveB (shaL a.data.toList) (shaL b.data.toList) a b
def impl_Higher.f (a0 a1 : ByteArray) : Option Bool := if a0.size ≤ 4294967296 ∧ a1.size ≤ 4294967296 then some (highB a0 a1) else none
theorem impl_Higher.calls (a0 a1 : ByteArray) (r : Bool) (w : World) (h : impl_Higher.f a0 a1 = some r) (hTab : Tab w := by exact Tab.below (by assumption) (by repeat (first | (with_reducible first | exact HB.out | apply below_alloc | apply pw_below_drewN | apply below_drew1 | refine below_set ?_ (Aside0.out (by assumption))) | exact HB.out))) :
  Calls Tryd.prog 110 #[.string a0, .string a1] w fun e w' => e = .returned (.bool r) ∧ Below w.heap.size w w' := by
 unfold impl_Higher.f at h
 split at h
 ·rename_i hs
  obtain rfl := Option.some.inj h; have HT := Lib.hid hTab; clear hTab
  go_enter Tryd.func110, Tryd.ntmps110
  go_wp2_with fail
  refine (hashOne_any a0 _ w rfl HT.out hs.1).mono ?_; rintro e w1 ⟨rfl, hb1⟩
  go_wp2_with fail
  refine (hashOne_any a1 _ w1 rfl (HT.out.below hb1) hs.2).mono ?_; rintro e w2 ⟨rfl, hb2⟩
  go_wp2_with fail
  refine (above_any _ _ (shaL_length _) (shaL_length _) a0 a1 _).mono ?_; rintro e w3 ⟨rfl, hb3⟩
  go_wp2
  go_ret
  exact ⟨rfl, (hb1.trans (hb2.mono hb1.size)).trans (hb3.mono (Nat.le_trans hb1.size hb2.size))⟩
 ·cases h
end Go.Proofs.YtonbmghgbblifaaDoor.Z
end
section
namespace Go.Proofs.YtonbmghgbblifaaDoor
open RowKit
set_option linter.all false
set_option maxRecDepth 100000
structure LiesB (T : TypeId) : Prop where
 lies : liesAt Tryd.prog Tryd.prog.depth T (2 / Tryd.prog.cellsOf T) 0 107 1 = true
 ne : T ≠ 5
theorem liesOwn : LiesB 109 := ⟨by kernel_rfl, by decide⟩
theorem sizeBuilder : (Tryd.prog.info? 107).map (·.size) = some 2 := by kernel_rfl
theorem infoU8' : (Tryd.prog.info? 5).map (fun i => (i.zero, i.size, i.bytes)) = some (some (.int .u8 0), 1, 1) := by kernel_rfl
def Bld (T : TypeId) (B b : Nat) (l : List UInt8) (w : World) : Prop := Lib.IsBuilder T 5 B b (bcs l) w
theorem Bld.fresh (T : TypeId) (w : World) : Bld T w.heap.size w.heap.size [] (w.alloc (.cells #[.pointer none, .slice none 0 0] T)) := Lib.fresh_isBuilder T 5 w
theorem Bld.keep {T : TypeId} {B b : Nat} {l : List UInt8} {w w1 : World} (h : Bld T B b l w) (hs : w.heap.size ≤ w1.heap.size) (hb : ∀ k, k < w.heap.size → w1.heap[k]? = w.heap[k]?) : Bld T B b l w1 := by
 have one : ∀ p, Lib.BuilderAt T 5 B b p (bcs l) w → Lib.BuilderAt T 5 B b p (bcs l) w1 := by
  rintro p ⟨hB, v, hbk, hown, hne⟩; have hlt : b < w.heap.size := by
   rcases Nat.lt_or_ge b w.heap.size with h' | h'
   ·exact h'
   ·simp [Array.getElem?_eq_none h'] at hbk
  refine ⟨hB, v, (hb b hlt).trans hbk, ⟨hown.1, ?_⟩, hne⟩
  rcases hown.2 with h2 | ⟨g, cap, cur, hv, h1, h2, h3⟩
  ·exact .inl h2
  ·refine .inr ⟨g, cap, cur, hv, h1, (hb g ?_).trans h2, h3⟩
   rcases Nat.lt_or_ge g w.heap.size with h' | h'
   ·exact h'
   ·simp [Array.getElem?_eq_none h'] at h2
 rcases h with h | h
 ·exact .inl (one _ h)
 ·exact .inr (one _ h)
theorem Bld.below {T : TypeId} {B b : Nat} {l : List UInt8} {w w1 : World} (h : Bld T B b l w) (hb : Below w.heap.size w w1) : Bld T B b l w1 := h.keep hb.size fun k hk => hb.block k hk
theorem Bld.base {T : TypeId} {B b : Nat} {l : List UInt8} {w : World} (h : Bld T B b l w) : B ≤ b ∧ b < w.heap.size := by
 rcases h with h | h
 ·exact ⟨h.1, h.lt⟩
 ·exact ⟨h.1, h.lt⟩
set_option maxHeartbeats 1000000 in
theorem copyCheck_used (b : Nat) (w : World) (h0 : w.cell? ⟨b, 0, none⟩ = some (.pointer (some ⟨b, 0, none⟩))) :
  Calls Tryd.prog 143 #[.pointer (some ⟨b, 0, none⟩)] w fun e w' => e = .returned (.tuple #[]) ∧ w' = w := by
 obtain ⟨j, hj, _⟩ := Option.map_eq_some_iff.1 sizeBuilder
 go_enter Tryd.func143, Tryd.ntmps143
 go_wp2
 rw [Lib.run_neq_ptr_same w _ Tryd.underlying105 hj]
 go_wp2
 go_end0
 exact ⟨rfl, rfl⟩
set_option maxHeartbeats 1000000 in
theorem copyCheck_fresh (T : TypeId) (hT : LiesB T) (b : Nat) (w : World) (h0 : w.cell? ⟨b, 0, none⟩ = some (.pointer none)) (hsh : w.shape? b = some (T, 2)) (hfz : w.frozen? ⟨b, 0, none⟩ = false) :
  Calls Tryd.prog 143 #[.pointer (some ⟨b, 0, none⟩)] w fun e w' => e = .returned (.tuple #[]) ∧ w' = w.setCell ⟨b, 0, none⟩ (.pointer (some ⟨b, 0, none⟩)) := by
 obtain ⟨j, hj, hjs⟩ := Option.map_eq_some_iff.1 sizeBuilder
 go_enter Tryd.func143, Tryd.ntmps143
 go_wp2
 rw [Lib.run_to_unsafe w ⟨b, 0, none⟩ Tryd.underlying105 Tryd.underlying211 hj (by rw [hjs]; decide) hsh (Nat.zero_lt_succ 1)]; simp only [Result.andThen]; rw [Oper.upon_value]
 go_wp2
 rw [run_callFunc_extern Tryd.func153 (by kernel_rfl) (by kernel_rfl) (by kernel_rfl) (e := Extern.AbiNoEscape.same) (by kernel_rfl)]; rw [Lib.run_noEscape]; simp only [Result.andThen]; rw [Oper.upon_value]
 go_wp2
 rw [Lib.run_from_unsafe w ⟨b, 0, none⟩ Tryd.underlying211 Tryd.underlying105 hj hsh hT.lies]; simp only [Result.andThen]; rw [Oper.upon_value]
 go_wp2
 go_end0
 exact ⟨rfl, rfl⟩
theorem copyCheck_any (T : TypeId) (hT : LiesB T) (B b : Nat) (bs : List Value) (w : World) (h : Lib.IsBuilder T 5 B b bs w) :
  Calls Tryd.prog 143 #[.pointer (some ⟨b, 0, none⟩)] w fun e w' => e = .returned (.tuple #[]) ∧ (Lib.BuilderAt T 5 B b (.pointer (some ⟨b, 0, none⟩)) bs w' ∧ Below B w w') := by
 rcases h with h | h
 ·refine (copyCheck_fresh T hT b w h.cell0 h.shape h.frozen0).mono ?_; rintro e w' ⟨rfl, rfl⟩; exact ⟨rfl, h.used _, (Below.refl B w).setCell (p := ⟨b, 0, none⟩) h.1 _⟩
 ·refine (copyCheck_used b w h.cell0).mono ?_; rintro e w' ⟨rfl, rfl⟩; exact ⟨rfl, h, Below.refl B _⟩
theorem bcs_snoc (l : List UInt8) (c : UInt8) : bcs (l ++ [c]) = bcs l ++ [.int .u8 c.toNat] := by simp [bcs]
set_option maxHeartbeats 2000000 in
theorem writeByte_any (T : TypeId) (hT : LiesB T) (B b : Nat) (l : List UInt8) (c : UInt8) (x : Int) (hx : x = c.toNat) (w : World) (h : Bld T B b l w) (hlen : l.length + 1 ≤ 140737488355328) (hBw : B ≤ w.heap.size) :
  Calls Tryd.prog 121 #[.pointer (some ⟨b, 0, none⟩), .int .u8 x] w fun e w' => e = .returned .nilIface ∧ Bld T B b (l ++ [c]) w' ∧ Below B w w' := by
 subst hx; obtain ⟨i0, hi, hz0, hz1, hz2⟩ := info_parts infoU8'
 go_enter Tryd.func121, Tryd.ntmps121
 go_wp2_with (go_at_call 143; refine (copyCheck_any T hT B b _ _ h).mono ?_)
 rintro e w1 ⟨rfl, h1, hb1⟩; obtain ⟨hB, v, hbk, hown, hne⟩ := h1; have c0 : w1.cell? ⟨b, 0, none⟩ = some (.pointer (some ⟨b, 0, none⟩)) := by rw [Lib.cell_of_heap hbk]; rfl
 have c1 : w1.cell? ⟨b, 1, none⟩ = some v := by rw [Lib.cell_of_heap hbk]; rfl
 go_wp2_with (at_builtin; refine wpList_append_own _ rfl _ _ 47 rfl B 5 i0 (.int .u8 0) 1 1 Tryd.underlying47 hi hz0 hz1 hz2 rfl (by decide) _ _ _ rfl (hown.alloc _) ⟨w1.heap.size, 0, none⟩ 1 1 [.int .u8 c.toNat] rfl rfl ?c1 ?c2 ?c3 ?c4 ?c5 ?_)
 case c1 =>
  intro j u hj
  match j, hj with
  | 0, hj => simp at hj; subst hj; simp [Addr.add]
 case c2 => intro u hu; simp at hu; subst hu; rfl
 case c3 => rw [bcs_length]; unfold maxLen; omega
 case c4 => rw [bcs_length]; omega
 case c5 => have := hb1.size; simp; omega
 intro v' w2 hown' hgrow _; have hlt : b < w1.heap.size := by
  rcases Nat.lt_or_ge b w1.heap.size with h' | h'
  ·exact h'
  ·simp [Array.getElem?_eq_none h'] at hbk
 have hb2 : w2.heap[b]? = some (.cells #[.pointer (some ⟨b, 0, none⟩), v] T (0, 0)) := by
  rw [hgrow.block b (by simp; omega) (fun e => hne e.symm), Lib.alloc_old w1 _ b hlt]; exact hbk
 have d0 : w2.cell? ⟨b, 0, none⟩ = some (.pointer (some ⟨b, 0, none⟩)) := by rw [Lib.cell_of_heap hb2]; rfl
 have d1 : w2.cell? ⟨b, 1, none⟩ = some v := by rw [Lib.cell_of_heap hb2]; rfl
 have f1 : w2.frozen? ⟨b, 1, none⟩ = false := Lib.frozen_of_heap hb2 1; obtain ⟨g, cap, rfl⟩ : ∃ g cap, v' = .slice (some ⟨g, 0, none⟩) ((bcs l).length + 1) cap := by
  rcases hown'.2 with ⟨_, h0⟩ | ⟨g, cap, cur, hv, _⟩
  ·omega
  ·exact ⟨g, cap, hv⟩
 go_wp2
 go_ret
 refine ⟨rfl, ?_, ?_⟩
 ·rw [Bld, bcs_snoc]; exact .inr (Lib.BuilderAt.put (T := T) (e := 5) hB hb2 (bs' := bcs l ++ [.int .u8 c.toNat]) (by simpa using hown') hT.ne)
 ·exact ((hb1.alloc (by have := hb1.size; omega) _).grown hgrow (by have := hb1.size; simp; omega) (fun k hk => (hown.lt k hk).1)).setCell (p := ⟨b, 1, none⟩) hB _
set_option maxHeartbeats 2000000 in
theorem writeString_any (T : TypeId) (hT : LiesB T) (B b : Nat) (l : List UInt8) (s : ByteArray) (w : World) (h : Bld T B b l w) (hlen : l.length + s.size ≤ 140737488355328) (hBw : B ≤ w.heap.size) :
  Calls Tryd.prog 122 #[.pointer (some ⟨b, 0, none⟩), .string s] w fun e w' => e = .returned (.tuple #[.int .i64 s.size, .nilIface]) ∧ Bld T B b (l ++ s.data.toList) w' ∧ Below B w w' := by
 obtain ⟨i0, hi, hz0, hz1, hz2⟩ := info_parts infoU8'
 go_enter Tryd.func122, Tryd.ntmps122
 go_wp2_with (go_at_call 143; refine (copyCheck_any T hT B b _ _ h).mono ?_)
 rintro e w1 ⟨rfl, h1, hb1⟩; obtain ⟨hB, v, hbk, hown, hne⟩ := h1; have c0 : w1.cell? ⟨b, 0, none⟩ = some (.pointer (some ⟨b, 0, none⟩)) := by rw [Lib.cell_of_heap hbk]; rfl
 have c1 : w1.cell? ⟨b, 1, none⟩ = some v := by rw [Lib.cell_of_heap hbk]; rfl
 go_wp2_with (at_builtin; refine Lib.wpList_append_own_string _ rfl _ _ 47 9 rfl B 5 i0 Tryd.underlying47 Tryd.underlying9 hi hz0 hz1 hz2 _ _ _ rfl hown s rfl ?c3 ?c4 ?c5 ?_)
 case c3 => rw [bcs_length]; unfold maxLen; omega
 case c4 => rw [bcs_length]; omega
 case c5 => have := hb1.size; omega
 intro v' w2 hown' hgrow _; have hlt : b < w1.heap.size := by
  rcases Nat.lt_or_ge b w1.heap.size with h' | h'
  ·exact h'
  ·simp [Array.getElem?_eq_none h'] at hbk
 have hb2 : w2.heap[b]? = some (.cells #[.pointer (some ⟨b, 0, none⟩), v] T (0, 0)) := by
  rw [hgrow.block b hlt (fun e => hne e.symm)]; exact hbk
 have d0 : w2.cell? ⟨b, 0, none⟩ = some (.pointer (some ⟨b, 0, none⟩)) := by rw [Lib.cell_of_heap hb2]; rfl
 have d1 : w2.cell? ⟨b, 1, none⟩ = some v := by rw [Lib.cell_of_heap hb2]; rfl
 have f1 : w2.frozen? ⟨b, 1, none⟩ = false := Lib.frozen_of_heap hb2 1; obtain ⟨ao, n', cap, rfl⟩ : ∃ ao n' cap, v' = .slice ao n' cap := by
  rcases hown'.2 with ⟨hv, _⟩ | ⟨g, cap, cur, hv, _⟩
  ·exact ⟨_, _, _, hv⟩
  ·exact ⟨_, _, _, hv⟩
 go_wp2
 go_ret2
 have hcs : Lib.strCells s = bcs s.data.toList := rfl; refine ⟨rfl, ?_, ?_⟩
 ·rw [Bld, bcs_append, ← hcs]; exact .inr (Lib.BuilderAt.put (T := T) (e := 5) hB hb2 (bs' := bcs l ++ Lib.strCells s) (by simpa [Lib.strCells_length] using hown') hT.ne)
 ·exact (hb1.grown hgrow (by have := hb1.size; omega) (fun k hk => (hown.lt k hk).1)).setCell (p := ⟨b, 1, none⟩) hB _
set_option maxHeartbeats 1000000 in
/-- 'b.String()', of a builder that holds a byte. -/
theorem string_any (T : TypeId) (B b : Nat) (l : List UInt8) (w : World) (h : Bld T B b l w) (h0 : l ≠ []) :
  Calls Tryd.prog 55 #[.pointer (some ⟨b, 0, none⟩)] w fun e w' => e = .returned (.string ⟨l.toArray⟩) ∧ Below B w w' := by
 obtain ⟨p, hB, v, hbk, hown, hne⟩ : ∃ p, Lib.BuilderAt T 5 B b p (bcs l) w := by
  rcases h with h | h
  ·exact ⟨_, h⟩
  ·exact ⟨_, h⟩
 have hl0 : l.length ≠ 0 := by simpa using h0
 rw [bcs_length] at hown; obtain ⟨g, cap, cur, rfl, hbg, hg, hnc, hcm, hcs, htake⟩ : ∃ g cap cur, v = .slice (some ⟨g, 0, none⟩) l.length cap ∧ B ≤ g ∧ w.heap[g]? = some (.cells cur 5 (0, 0)) ∧ l.length ≤ cap ∧ cap ≤ maxLen ∧ cur.size = cap * 1 ∧ cur.toList.take (l.length * 1) = bcs l := by
  rcases hown.2 with ⟨_, hz⟩ | ⟨g, cap, cur, hv, r⟩
  ·exact absurd hz hl0
  ·exact ⟨g, cap, cur, hv, r⟩
 have c1 : w.drew.cell? ⟨b, 1, none⟩ = some (.slice (some ⟨g, 0, none⟩) l.length cap) := by
  have : w.drew.heap[b]? = some (.cells #[p, .slice (some ⟨g, 0, none⟩) l.length cap] T (0, 0)) := hbk; rw [Lib.cell_of_heap this]; rfl
 have hSD : (Builtin.unsafeSliceData_ #[47] 167 #[.slice (some ⟨g, 0, none⟩) l.length cap]).run Tryd.prog w.drew = .ok (.pointer (some ⟨g, 0, none⟩)) w.drew :=
  Lib.run_unsafeSliceData_row _ _ _ _ _ _ (by omega)
 have hUS : (Builtin.unsafeString_ #[167, 3] 9 #[.pointer (some ⟨g, 0, none⟩), .int .i64 l.length]).run Tryd.prog w.drew = .ok (.string ⟨l.toArray⟩) (w.drew.freeze ⟨g, 0, none⟩ l.length) := by
  refine Lib.run_unsafeString_row w.drew 167 3 9 5 Tryd.underlying167 (by kernel_rfl) g cur.size (by have hg' : w.drew.heap[g]? = some (.cells cur 5 (0, 0)) := hg; simp [World.shape?, hg']) l h0 (by omega) (by unfold maxLen at hcm; omega) ?_; intro j x hx; have := hown.cells (g := g) rfl j (.int .u8 x.toNat) (by simp [bcs, hx]); exact this
 have hbf : Below B w (w.drew.freeze ⟨g, 0, none⟩ l.length) := Lib.below_freeze (Below.drew (Below.refl B w)) (p := ⟨g, 0, none⟩) hbg _
 go_enter Tryd.func55, Tryd.ntmps55
 go_wp2
 go_region
 all_goals (go_wp2; go_ret; exact ⟨rfl, hbf⟩)
set_option maxHeartbeats 400000 in
theorem btext_any (B b : Nat) (l : List UInt8) (s : ByteArray) (w : World) (h : Bld 109 B b l w) (hlen : l.length + s.size ≤ 140737488355328) (hBw : B ≤ w.heap.size) :
  Calls Tryd.prog 79 #[.pointer (some ⟨b, 0, none⟩), .string s] w fun e w' => e = .returned (.pointer (some ⟨b, 0, none⟩)) ∧ Bld 109 B b (l ++ s.data.toList) w' ∧ Below B w w' := by
 obtain ⟨c0, hc0⟩ : ∃ v, w.cell? ⟨b, 0, none⟩ = some v := by rcases h with h | h <;> exact ⟨_, h.cell0⟩
 have H := Lib.hid h
 go_enter Tryd.func79, Tryd.ntmps79
 go_wp2_with (go_at_call 122; refine (writeString_any 109 liesOwn B b l s _ H.out hlen hBw).mono ?_; rintro e w1 ⟨rfl, h1, hb1⟩)
 go_ret
 exact ⟨rfl, h1, hb1⟩
def numByte (n k : Nat) (low : Bool) (i : Nat) : UInt8 := UInt8.ofNat (n / 2 ^ (8 * (if low then i else k - 1 - i)))
def numL (n k : Nat) (low : Bool) (m : Nat) : List UInt8 := (List.range m).map (numByte n k low)
theorem numL_succ (n k : Nat) (low : Bool) (m : Nat) : numL n k low (m + 1) = numL n k low m ++ [numByte n k low m] := by simp [numL, List.range_succ]
theorem numL_length (n k : Nat) (low : Bool) (m : Nat) : (numL n k low m).length = m := by simp [numL]
theorem div_cast (n e : Nat) : (n : Int) / 2 ^ e = ((n / 2 ^ e : Nat) : Int) := by
 rw [Int.natCast_ediv, Int.natCast_pow]; rfl
theorem ofNat_cast (q : Nat) : ((q : Nat) : Int) % 256 = ((UInt8.ofNat q).toNat : Int) := by
 rw [UInt8.toNat_ofNat']; omega
theorem numByte_low (n k m : Nat) : (n : Int) / 2 ^ (8 * m) % 256 = (numByte n k true m).toNat := by
 rw [div_cast, ofNat_cast]; rfl
theorem numByte_high (n k m : Nat) : (n : Int) / 2 ^ (8 * (k - 1 - m)) % 256 = (numByte n k false m).toNat := by
 rw [div_cast, ofNat_cast]; rfl
set_option maxHeartbeats 1000000 in
theorem bnumber_any (B b : Nat) (l : List UInt8) (n k : Nat) (low : Bool) (w : World) (h : Bld 109 B b l w) (hn : n ≤ 4294967296) (hk : k ≤ 4) (hlen : l.length ≤ 4294967296) (hBw : B ≤ w.heap.size) :
  Calls Tryd.prog 78 #[.pointer (some ⟨b, 0, none⟩), .int .i64 n, .int .i64 k, .bool low] w fun e w' => e = .returned (.pointer (some ⟨b, 0, none⟩)) ∧ Bld 109 B b (l ++ numL n k low k) w' ∧ Below B w w' := by
 have H := Lib.hid h; clear h
 go_enter Tryd.func78, Tryd.ntmps78
 go_wp2
 go_loopw [12] (fun i wr => ∃ m : Nat, m ≤ k ∧ i = .int .i64 m ∧ Bld 109 B b (l ++ numL n k low m) wr ∧ Below B w wr) (fun i _ => k - (intOf i).toNat)
 case atStart => exact ⟨0, Nat.zero_le _, rfl, by simpa [numL] using H.out, Below.refl _ _⟩
 case round =>
  obtain ⟨m, hm, rfl, h2, hB⟩ := hrel; obtain ⟨c0, hc0⟩ : ∃ v, wr.cell? ⟨b, 0, none⟩ = some v := by rcases h2 with h | h <;> exact ⟨_, h.cell0⟩
  have H2 := Lib.hid h2; clear h2
  by_cases hlt : m < k
  ·cases low
   all_goals
    go_wp2
    go_still_tail 7, (by kernel_rfl)
    change wpList _ _ _ _ _ wr.drew
    go_wp2_with (go_at_call 121; refine (writeByte_any 109 liesOwn B b _ _ _ (by first | exact numByte_low n k m | exact numByte_high n k m) _ (H2.out.below (Below.refl _ _).drew) (by rw [List.length_append, numL_length]; omega) (by have := hB.size; exact Nat.le_trans hBw this)).mono ?_; rintro e w1 ⟨rfl, h1, hb1⟩)
    go_roundw
    case rel => exact ⟨m + 1, by omega, by go_num, by rw [numL_succ, ← List.append_assoc]; exact h1, hB.trans ((Below.refl _ _).drew.trans hb1)⟩
    case measure => simp [intOf]; omega
  ·go_wp2
   go_ret
   have e : m = k := by omega
   subst e; exact ⟨rfl, H2.out, hB⟩
def sizedL (s : ByteArray) : List UInt8 := numL s.size 2 false 2 ++ s.data.toList
set_option maxHeartbeats 400000 in
theorem bsized_any (B b : Nat) (l : List UInt8) (s : ByteArray) (w : World) (h : Bld 109 B b l w) (hs : s.size ≤ 4294967296) (hlen : l.length ≤ 4294967296) (hBw : B ≤ w.heap.size) :
  Calls Tryd.prog 77 #[.pointer (some ⟨b, 0, none⟩), .string s] w fun e w' => e = .returned (.pointer (some ⟨b, 0, none⟩)) ∧ Bld 109 B b (l ++ sizedL s) w' ∧ Below B w w' := by
 have H := Lib.hid h; clear h
 go_enter Tryd.func77, Tryd.ntmps77
 go_wp2_with (go_at_call 78; refine (bnumber_any B b l s.size 2 false _ H.out hs (by omega) hlen hBw).mono ?_; rintro e w1 ⟨rfl, h1, hb1⟩; have hz1 := hb1.size; have H1 := Lib.hid h1; clear h1)
 refine (btext_any B b _ s _ H1.out (by rw [List.length_append, numL_length]; omega) (by omega)).mono ?_; rintro e w2 ⟨rfl, h2, hb2⟩
 go_wp2
 go_ret
 exact ⟨rfl, by rw [sizedL, ← List.append_assoc]; exact h2, hb1.trans hb2⟩
end Go.Proofs.YtonbmghgbblifaaDoor
end
section
namespace Go.Proofs.YtonbmghgbblifaaDoor
open RowKit
set_option linter.all false
def isW (w : Int) : Bool := decide (1 ≤ w) && decide (w ≤ 32)
def hOk (h : ByteArray) (w : Int) : Bool := decide (h.size = 0) || decide ((h.size : Int) = w)
def nodeOk (k v l r : ByteArray) (w : Int) : Bool := isW w && decide (1 ≤ k.size) && decide (k.size ≤ 256) && decide (v.size ≤ 2000) && hOk l w && hOk r w
def byteS (x : Int) : ByteArray := ⟨#[UInt8.ofNat x.toNat]⟩
theorem byteS_size (x : Int) : (byteS x).size = 1 := rfl
def sizedS (s : ByteArray) : ByteArray := byteS (s.size / 256) ++ byteS (s.size % 256) ++ s
theorem sizedS_size (s : ByteArray) : (sizedS s).size = 2 + s.size := by simp [sizedS, byteS_size]
def flagsOf (l r : ByteArray) : Int := (if l.size = 0 then 0 else 1) + (if r.size = 0 then 0 else 2)
def encNode (k v l r : ByteArray) (w : Int) : ByteArray := if nodeOk k v l r w = true then sizedS k ++ sizedS v ++ byteS (flagsOf l r) ++ l ++ r else ⟨#[]⟩
set_option maxHeartbeats 400000 in
theorem isWidth_any (x : Int) (w : World) : Calls Tryd.prog 66 #[.int .i64 x] w fun e w' => e = .returned (.bool (isW x)) ∧ w = w' := by
 go_enter Tryd.func66, Tryd.ntmps66
 go_wp2
 all_goals
  go_ret
  refine ⟨ret_bool ?_, rfl⟩
  go_light
  unfold isW
  grind
set_option maxHeartbeats 400000 in
theorem l1Width_any (x : Int) (w : World) : Calls Tryd.prog 63 #[.int .i64 x] w fun e w' => e = .returned (.bool (isW x)) ∧ w = w' := by
 go_enter Tryd.func63, Tryd.ntmps63
 go_wp2
 all_goals
  go_ret
  refine ⟨ret_bool ?_, rfl⟩
  go_light
  unfold isW
  grind
theorem size_zero (s : ByteArray) : s = ByteArray.empty ↔ s.size = 0 := by
 constructor
 ·intro h; rw [h]; rfl
 ·intro h; exact ByteArray.ext (Array.size_eq_zero_iff.mp h)
set_option maxHeartbeats 400000 in
theorem l2HashOk_any (h : ByteArray) (x : Int) (w : World) : Calls Tryd.prog 94 #[.string h, .int .i64 x] w fun e w' => e = .returned (.bool (hOk h x)) ∧ w = w' := by
 go_enter Tryd.func94, Tryd.ntmps94
 go_wp2
 all_goals
  go_ret
  refine ⟨ret_bool ?_, rfl⟩
  go_light
  have := size_zero h; unfold hOk
  grind
theorem byte1_str (w : World) (y : Int) (T : TypeId) (g c : Nat) (hg : g = w.heap.size) :
  (convert 47 9 (.slice (some ⟨g, 0, none⟩) 1 c)).run Tryd.prog (w.alloc (.cells #[.int .u8 y] T)) = .ok (.string ⟨#[UInt8.ofNat y.toNat]⟩) (w.alloc (.cells #[.int .u8 y] T)) := by
 subst hg; have h := run_convert_bytes_arg (P := Tryd.prog) (w.alloc (.cells #[.int .u8 y] T)) 47 5 Tryd.underlying47 Tryd.underlying5 w.heap.size 0 1 c [y] rfl (fun i hi => by
  obtain rfl : i = 0 := by omega
  rw [World.cell?_alloc_new w _ _ (0 + 0)]; rfl) 9 Tryd.underlying9
 exact h
theorem byteS_mod (x : Int) (h : 0 ≤ x) : (⟨#[UInt8.ofNat (x % 256).toNat]⟩ : ByteArray) = byteS x := by
 unfold byteS
 congr 3
 apply UInt8.toNat_inj.mp
 rw [UInt8.toNat_ofNat', UInt8.toNat_ofNat']; omega
set_option maxHeartbeats 400000 in
theorem l2Byte_any (x : Int) (hx : 0 ≤ x) (w : World) : Calls Tryd.prog 82 #[.int .i64 x] w fun e w' => e = .returned (.string (byteS x)) ∧ Below w.heap.size w w' := by
 go_enter Tryd.func82, Tryd.ntmps82
 go_wp2_with ((with_reducible refine gate_dst (N := 6) rfl ?_); refine wpList_convert rfl 47 9 _ rfl rfl (byte1_str _ _ _ _ _ rfl) ?_)
 go_ret
 refine ⟨ret_str ?_, by (repeat' (first | exact Below.refl _ _ | (with_reducible assumption) | (with_reducible refine Below.setCell ?_ zq_12 _) | refine below_then ?_ (by assumption) | (with_reducible refine below_new2 ?_ _) | (with_reducible refine Below.drew ?_) | (with_reducible refine bdrewN ?_ _)))⟩; exact byteS_mod x hx
set_option maxHeartbeats 400000 in
theorem l2Sized_any (s : ByteArray) (hs : s.size ≤ 4294967296) (w : World) : Calls Tryd.prog 81 #[.string s] w fun e w' => e = .returned (.string (sizedS s)) ∧ Below w.heap.size w w' := by
 have z1 : (byteS (s.size / 256)).size + (byteS (s.size % 256)).size ≤ 9223372036854775807 := by rw [byteS_size, byteS_size]; omega
 have z2 : (byteS (s.size / 256)).size + (byteS (s.size % 256)).size + s.size ≤ 9223372036854775807 := by rw [byteS_size, byteS_size]; omega
 go_enter Tryd.func81, Tryd.ntmps81
 go_wp2_with fail
 (go_at_call 82; refine (l2Byte_any _ (by omega) _).mono ?_; rintro e wa ⟨rfl, hb_wa⟩; obtain ⟨hc_wa, hf_wa⟩ := bcell hb_wa; have hz_wa := hb_wa.size; (try simp only [World.size_alloc, World.size_setCell, World.size_drew] at hz_wa); (try simp only [World.size_alloc, World.size_setCell, World.size_drew] at hc_wa); (try simp only [World.size_alloc, World.size_setCell, World.size_drew] at hf_wa); skip)
 go_wp2_with fail
 (go_at_call 82; refine (l2Byte_any _ (by omega) _).mono ?_; rintro e wb ⟨rfl, hb_wb⟩; obtain ⟨hc_wb, hf_wb⟩ := bcell hb_wb; have hz_wb := hb_wb.size; (try simp only [World.size_alloc, World.size_setCell, World.size_drew] at hz_wb); (try simp only [World.size_alloc, World.size_setCell, World.size_drew] at hc_wb); (try simp only [World.size_alloc, World.size_setCell, World.size_drew] at hf_wb); skip)
 go_wp2
 go_ret
 exact ⟨rfl, by (repeat' (first | exact Below.refl _ _ | (with_reducible assumption) | (with_reducible refine Below.setCell ?_ zq_12 _) | refine below_then ?_ (by assumption) | (with_reducible refine below_new2 ?_ _) | (with_reducible refine Below.drew ?_) | (with_reducible refine bdrewN ?_ _)))⟩
set_option maxHeartbeats 400000 in
theorem l2NodeOk_any (a b c d : ByteArray) (x : Int) (w : World) :
  Calls Tryd.prog 80 #[.agg #[.string a, .string b, .string c, .string d], .int .i64 x] w fun e w' => e = .returned (.bool (nodeOk a b c d x)) ∧ Below w.heap.size w w' := by
 unfold nodeOk
 by_cases hw : isW x = true
 ·by_cases h2 : hOk c x = true
  all_goals
   go_enter Tryd.func80, Tryd.ntmps80
   go_wp2_with (first | (go_at_call 63; refine (l1Width_any _ _).mono ?_; rintro e wq ⟨rfl, rfl⟩) | (go_at_call 94; refine (l2HashOk_any _ _ _).mono ?_; rintro e wq ⟨rfl, rfl⟩))
   all_goals
    go_ret
    refine ⟨ret_bool ?_, by (repeat' (first | exact Below.refl _ _ | (with_reducible assumption) | (with_reducible refine Below.setCell ?_ zq_12 _) | refine below_then ?_ (by assumption) | (with_reducible refine below_new2 ?_ _) | (with_reducible refine Below.drew ?_) | (with_reducible refine bdrewN ?_ _)))⟩
    go_light
    grind
 ·go_enter Tryd.func80, Tryd.ntmps80
  go_wp2_with (first | (go_at_call 63; refine (l1Width_any _ _).mono ?_; rintro e wq ⟨rfl, rfl⟩) | (go_at_call 94; refine (l2HashOk_any _ _ _).mono ?_; rintro e wq ⟨rfl, rfl⟩))
  all_goals
   go_ret
   refine ⟨ret_bool ?_, by (repeat' (first | exact Below.refl _ _ | (with_reducible assumption) | (with_reducible refine Below.setCell ?_ zq_12 _) | refine below_then ?_ (by assumption) | (with_reducible refine below_new2 ?_ _) | (with_reducible refine Below.drew ?_) | (with_reducible refine bdrewN ?_ _)))⟩
   go_light
   grind
set_option maxHeartbeats 400000 in
theorem fits_any (h : ByteArray) (x : Int) (p : Addr) (w : World) (hp : w.cell? p = some (.int .i64 x)) :
  Calls Tryd.prog 120 #[.string h, .pointer (some p)] w fun e w' => e = .returned (.bool (hOk h x)) ∧ w = w' := by
 have he : h.toList.isEmpty = decide (h.size = 0) := by
  rw [Bool.eq_iff_iff, decide_eq_true_eq, ← size_zero, ← toList_nil_iff_emptyBytes, List.isEmpty_iff]
 unfold hOk; rw [← he]; clear he
 go_enter Tryd.func120, Tryd.ntmps120
 go_wp2
 all_goals
  go_ret
  refine ⟨ret_bool ?_, rfl⟩
  go_light
  clear hp
  grind
set_option maxHeartbeats 400000 in
theorem nodeValid_any (a b c d : ByteArray) (x : Int) (w : World) :
  Calls Tryd.prog 76 #[.agg #[.string a, .string b, .string c, .string d], .int .i64 x] w fun e w' => e = .returned (.bool (nodeOk a b c d x)) ∧ Below w.heap.size w w' := by
 unfold nodeOk
 by_cases hw : isW x = true
 ·by_cases h2 : hOk c x = true
  all_goals
   go_enter Tryd.func76, Tryd.ntmps76
   go_wp2_with (first | (go_at_call 66; refine (isWidth_any _ _).mono ?_; rintro e wq ⟨rfl, rfl⟩) | (go_at_call 120; refine (fits_any _ x _ _ (by simp [go_sem])).mono ?_; rintro e wq ⟨rfl, rfl⟩))
   all_goals
    go_ret
    refine ⟨ret_bool ?_, by (repeat' (first | exact Below.refl _ _ | (with_reducible assumption) | (with_reducible refine Below.setCell ?_ zq_12 _) | refine below_then ?_ (by assumption) | (with_reducible refine below_new2 ?_ _) | (with_reducible refine Below.drew ?_) | (with_reducible refine bdrewN ?_ _)))⟩
    go_light
    grind
 ·go_enter Tryd.func76, Tryd.ntmps76
  go_wp2_with (first | (go_at_call 66; refine (isWidth_any _ _).mono ?_; rintro e wq ⟨rfl, rfl⟩) | (go_at_call 120; refine (fits_any _ x _ _ (by simp [go_sem])).mono ?_; rintro e wq ⟨rfl, rfl⟩))
  all_goals
   go_ret
   refine ⟨ret_bool ?_, by (repeat' (first | exact Below.refl _ _ | (with_reducible assumption) | (with_reducible refine Below.setCell ?_ zq_12 _) | refine below_then ?_ (by assumption) | (with_reducible refine below_new2 ?_ _) | (with_reducible refine Below.drew ?_) | (with_reducible refine bdrewN ?_ _)))⟩
   go_light
   grind
set_option maxHeartbeats 400000 in
theorem specEncodeNode_any (a b c d : ByteArray) (x : Int) (w : World) :
  Calls Tryd.prog 28 #[.agg #[.string a, .string b, .string c, .string d], .int .i64 x] w fun e w' => e = .returned (.string (encNode a b c d x)) ∧ Below w.heap.size w w' := by
 by_cases hok : nodeOk a b c d x = true
 ·have hsz : a.size ≤ 256 ∧ b.size ≤ 2000 ∧ c.size ≤ 32 ∧ d.size ≤ 32 := by
   unfold nodeOk hOk isW at hok; simp only [Bool.and_eq_true, Bool.or_eq_true, decide_eq_true_eq] at hok; omega
  obtain ⟨h1, h2, h3, h4⟩ := hsz; have he : encNode a b c d x = sizedS a ++ sizedS b ++ byteS (flagsOf c d) ++ c ++ d := by unfold encNode; rw [if_pos hok]
  have HE := Lib.hid he; clear he; have h1b : a.size ≤ 4294967296 := by omega
  have h2b : b.size ≤ 4294967296 := by omega
  have z0 := fun x => byteS_size x
  have z1 : ¬ (9223372036854775807 < (sizedS a).size + (sizedS b).size) := by rw [sizedS_size, sizedS_size]; omega
  have z20 : ¬ (9223372036854775807 < (sizedS a).size + (sizedS b).size + (byteS 0).size) := by simp only [ByteArray.size_append, sizedS_size, byteS_size]; omega
  have z30 : ¬ (9223372036854775807 < (sizedS a).size + (sizedS b).size + (byteS 0).size + c.size) := by simp only [ByteArray.size_append, sizedS_size, byteS_size]; omega
  have z40 : ¬ (9223372036854775807 < (sizedS a).size + (sizedS b).size + (byteS 0).size + c.size + d.size) := by simp only [ByteArray.size_append, sizedS_size, byteS_size]; omega
  have z21 : ¬ (9223372036854775807 < (sizedS a).size + (sizedS b).size + (byteS 1).size) := by simp only [ByteArray.size_append, sizedS_size, byteS_size]; omega
  have z31 : ¬ (9223372036854775807 < (sizedS a).size + (sizedS b).size + (byteS 1).size + c.size) := by simp only [ByteArray.size_append, sizedS_size, byteS_size]; omega
  have z41 : ¬ (9223372036854775807 < (sizedS a).size + (sizedS b).size + (byteS 1).size + c.size + d.size) := by simp only [ByteArray.size_append, sizedS_size, byteS_size]; omega
  have z22 : ¬ (9223372036854775807 < (sizedS a).size + (sizedS b).size + (byteS 2).size) := by simp only [ByteArray.size_append, sizedS_size, byteS_size]; omega
  have z32 : ¬ (9223372036854775807 < (sizedS a).size + (sizedS b).size + (byteS 2).size + c.size) := by simp only [ByteArray.size_append, sizedS_size, byteS_size]; omega
  have z42 : ¬ (9223372036854775807 < (sizedS a).size + (sizedS b).size + (byteS 2).size + c.size + d.size) := by simp only [ByteArray.size_append, sizedS_size, byteS_size]; omega
  have z23 : ¬ (9223372036854775807 < (sizedS a).size + (sizedS b).size + (byteS 3).size) := by simp only [ByteArray.size_append, sizedS_size, byteS_size]; omega
  have z33 : ¬ (9223372036854775807 < (sizedS a).size + (sizedS b).size + (byteS 3).size + c.size) := by simp only [ByteArray.size_append, sizedS_size, byteS_size]; omega
  have z43 : ¬ (9223372036854775807 < (sizedS a).size + (sizedS b).size + (byteS 3).size + c.size + d.size) := by simp only [ByteArray.size_append, sizedS_size, byteS_size]; omega
  have z50 : ¬ (9223372036854775807 < (sizedS a).size + (sizedS b).size + (byteS 0).size + d.size) := by simp only [ByteArray.size_append, sizedS_size, byteS_size]; omega
  have z51 : ¬ (9223372036854775807 < (sizedS a).size + (sizedS b).size + (byteS 1).size + d.size) := by simp only [ByteArray.size_append, sizedS_size, byteS_size]; omega
  have z52 : ¬ (9223372036854775807 < (sizedS a).size + (sizedS b).size + (byteS 2).size + d.size) := by simp only [ByteArray.size_append, sizedS_size, byteS_size]; omega
  have z53 : ¬ (9223372036854775807 < (sizedS a).size + (sizedS b).size + (byteS 3).size + d.size) := by simp only [ByteArray.size_append, sizedS_size, byteS_size]; omega
  clear z0
  by_cases hc : c.size = 0
  all_goals
   by_cases hd : d.size = 0
   all_goals
    go_enter Tryd.func28, Tryd.ntmps28
    go_wp2_with (first | (go_at_call 80; refine (l2NodeOk_any _ _ _ _ _ _).mono ?_; rintro e wa ⟨rfl, hb_wa⟩; obtain ⟨hc_wa, hf_wa⟩ := bcell hb_wa; have hz_wa := hb_wa.size; (try simp only [World.size_alloc, World.size_setCell, World.size_drew] at hz_wa); (try simp only [World.size_alloc, World.size_setCell, World.size_drew] at hc_wa); (try simp only [World.size_alloc, World.size_setCell, World.size_drew] at hf_wa); (try have q_w_0_wa : w.heap.size < wa.heap.size := by omega)))
    have hS : wa.cell? ⟨w.heap.size, 0, none⟩ = some (.string a) ∧ wa.cell? ⟨w.heap.size, 1, none⟩ = some (.string b) ∧ wa.cell? ⟨w.heap.size, 2, none⟩ = some (.string c) ∧ wa.cell? ⟨w.heap.size, 3, none⟩ = some (.string d) := by
     refine ⟨?_, ?_, ?_, ?_⟩ <;> (rw [hc_wa _ _ (by omega)]; simp [go_sem])
    obtain ⟨e0, e1, e2, e3⟩ := hS; clear hc_wa hf_wa
    go_region_held3 (fun w' => w'.cell? ⟨w.heap.size, 0, none⟩ = some (.string a) ∧ w'.cell? ⟨w.heap.size, 1, none⟩ = some (.string b) ∧ w'.cell? ⟨w.heap.size, 2, none⟩ = some (.string c) ∧ w'.cell? ⟨w.heap.size, 3, none⟩ = some (.string d))
     (first
      | exact held4B (by assumption) (by assumption)
      | assumption
      | (simp [*]; done))
     (first
      | (go_at_call 82; refine (l2Byte_any _ (by decide) _).mono ?_; rintro e wx ⟨rfl, hbx⟩)
      | (go_at_call_of 81 (Value.string a); refine (l2Sized_any a h1b _).mono ?_; rintro e wx ⟨rfl, hbx⟩)
      | (go_at_call_of 81 (Value.string b); refine (l2Sized_any b h2b _).mono ?_; rintro e wx ⟨rfl, hbx⟩))
    go_wp2
    all_goals
     go_ret
     refine ⟨?_, by (repeat' (first | exact Below.refl _ _ | (with_reducible assumption) | (with_reducible refine Below.setCell ?_ zq_12 _) | refine below_then ?_ (by assumption) | (with_reducible refine below_new2 ?_ _) | (with_reducible refine Below.drew ?_) | (with_reducible refine bdrewN ?_ _)))⟩; rw [HE.out]; simp [flagsOf, hc, hd]
 ·have he : encNode a b c d x = ⟨#[]⟩ := by unfold encNode; rw [if_neg hok]
  have HE := Lib.hid he; clear he
  go_enter Tryd.func28, Tryd.ntmps28
  go_wp2_with (first | (go_at_call 80; refine (l2NodeOk_any _ _ _ _ _ _).mono ?_; rintro e wa ⟨rfl, hb_wa⟩; obtain ⟨hc_wa, hf_wa⟩ := bcell hb_wa; have hz_wa := hb_wa.size; (try simp only [World.size_alloc, World.size_setCell, World.size_drew] at hz_wa); (try simp only [World.size_alloc, World.size_setCell, World.size_drew] at hc_wa); (try simp only [World.size_alloc, World.size_setCell, World.size_drew] at hf_wa); skip))
  all_goals
   go_ret
   exact ⟨by rw [HE.out]; rfl, by (repeat' (first | exact Below.refl _ _ | (with_reducible assumption) | (with_reducible refine Below.setCell ?_ zq_12 _) | refine below_then ?_ (by assumption) | (with_reducible refine below_new2 ?_ _) | (with_reducible refine Below.drew ?_) | (with_reducible refine bdrewN ?_ _)))⟩
theorem isEmpty_size (h : ByteArray) : h.toList.isEmpty = decide (h.size = 0) := by
 rw [Bool.eq_iff_iff, decide_eq_true_eq, ← size_zero, ← toList_nil_iff_emptyBytes, List.isEmpty_iff]
theorem sizedL_length (s : ByteArray) : (sizedL s).length = 2 + s.size := by
 rw [sizedL, List.length_append, numL_length]; rfl
theorem byteS_list (n : Nat) : byteS n = ⟨[UInt8.ofNat n].toArray⟩ := rfl
theorem app_list (a b : List UInt8) : (⟨(a ++ b).toArray⟩ : ByteArray) = ⟨a.toArray⟩ ++ ⟨b.toArray⟩ := by
 apply ByteArray.ext
 simp [ByteArray.data_append]
theorem self_list (s : ByteArray) : (⟨s.data.toList.toArray⟩ : ByteArray) = s := rfl
theorem sizedL_eq (s : ByteArray) : (⟨(sizedL s).toArray⟩ : ByteArray) = sizedS s := by
 unfold sizedL sizedS; rw [app_list, self_list]; have h : numL s.size 2 false 2 = [UInt8.ofNat (s.size / 256)] ++ [UInt8.ofNat s.size] := by
  simp [numL, numByte, List.range_succ]
 rw [h, app_list]
 congr 2
 ·unfold byteS
  congr 3
  apply UInt8.toNat_inj.mp
  rw [UInt8.toNat_ofNat', UInt8.toNat_ofNat']; omega
theorem bitsOr1 : bits .or .u32 0 1 = 1 := by decide
theorem bitsOr2 : bits .or .u32 0 2 = 2 := by decide
theorem bitsOr3 : bits .or .u32 1 2 = 3 := by decide
attribute [go_sem] bitsOr1 bitsOr2 bitsOr3
end Go.Proofs.YtonbmghgbblifaaDoor
end
section
namespace Go.Proofs.YtonbmghgbblifaaDoor.Z
open RowKit YtonbmghgbblifaaDoor
set_option linter.all false

end Go.Proofs.YtonbmghgbblifaaDoor.Z
end
section
namespace Go.Proofs.YtonbmghgbblifaaDoor.Z
open RowKit YtonbmghgbblifaaDoor YtonbmghgbblifaaDoorW.PrintWords YtonbmghgbblifaaDoorW.PrintLast
set_option linter.all false
def nText (s : ByteArray) : ByteArray := (⟨#[78]⟩ : ByteArray) ++ s
theorem catL_n (s : ByteArray) : catL [⟨#[78]⟩, s] = (nText s).data.toList := by simp [catL, nText, ByteArray.data_append]
theorem hashN_any (s : ByteArray) (W w : World) (hW : W = w.alloc (.cells #[.string ⟨#[78]⟩, .string s] 9)) (ht : Tab w) (hs : s.size ≤ 4294967200) :
  Calls Tryd.prog 83 #[.slice (some ⟨w.heap.size, 0, none⟩) 2 2] W fun e w' => e = .returned (hashV (shaL (nText s).data.toList)) ∧ Below w.heap.size w w' := by
 subst hW; have h := hashOf_any w.heap.size [⟨#[78]⟩, s] (w.alloc (.cells #[.string ⟨#[78]⟩, .string s] 9)) (fun j p hj => by
  rw [cell_of_row _ _ _ _ _ _ (heap_alloc_new _ _)]
  match j, hj with
  | 0, hj => simp only [List.getElem?_cons_zero, Option.some.injEq] at hj; subst hj; rfl
  | 1, hj => simp only [List.getElem?_cons_succ, List.getElem?_cons_zero, Option.some.injEq] at hj; subst hj; rfl) (ht.below zq_15) (by rw [catL_n, nText, ByteArray.data_append]; simp only [Array.toList_append, List.length_append]; show 1 + s.size ≤ _; omega) (by simp) (by simp)
 rw [catL_n] at h; refine h.mono ?_; rintro e w' ⟨h1, hb⟩; exact ⟨h1, ((Below.refl _ _).alloc (Nat.le_refl _) _).trans (hb.mono (by simp))⟩
end Go.Proofs.YtonbmghgbblifaaDoor.Z
end
section
namespace Go.Proofs.YtonbmghgbblifaaDoor.Z
open RowKit YtonbmghgbblifaaDoor YtonbmghgbblifaaDoorW.PrintWords YtonbmghgbblifaaDoorW.PrintLast
set_option linter.all false
set_option maxRecDepth 100000
def cutL (s : ByteArray) (n : Nat) : List Int := (shaL (nText s).data.toList).take n ++ List.replicate (32 - n) 0
theorem cutL_length (s : ByteArray) (n : Nat) (h : n ≤ 32) : (cutL s n).length = 32 := by
 unfold cutL; rw [List.length_append, List.length_take, shaL_length, List.length_replicate]; omega
def setL (cs : List Value) (o : Nat) : List Value → List Value
 | [] => cs
 | v :: r => setL (cs.set o v) (o + 1) r
theorem setL_all (z : Value) : ∀ (k : Nat) (cs : List Value) (o : Nat), o + k = cs.length → setL cs o (List.replicate k z) = cs.take o ++ List.replicate k z
 | 0, cs, o, h => by rw [List.replicate_zero, List.append_nil, setL, List.take_of_length_le (by omega)]
 | k + 1, cs, o, h => by
  rw [List.replicate_succ, setL, setL_all z k _ (o + 1) (by rw [List.length_set]; omega), List.take_succ_eq_append_getElem (by rw [List.length_set]; omega), List.getElem_set_self, List.take_set_of_le (Nat.le_refl _), List.append_assoc]; rfl
theorem setCells_row {b : Nat} {T : TypeId} : ∀ (vs cs : List Value) (o : Nat) (w : World), w.heap[b]? = some (.cells cs.toArray T (0, 0)) → (w.setCells b o vs).heap[b]? = some (.cells (setL cs o vs).toArray T (0, 0))
 | [], cs, o, w, h => h
 | v :: r, cs, o, w, h => by
  rw [World.setCells, setL]; exact setCells_row r (cs.set o v) (o + 1) _ (hset h rfl)
theorem setCells_other {b k : Nat} (hk : k ≠ b) : ∀ (vs : List Value) (o : Nat) (w : World), (w.setCells b o vs).heap[k]? = w.heap[k]?
 | [], _, _ => rfl
 | v :: r, o, w => by
  rw [World.setCells, setCells_other hk r (o + 1), heap_setCell_other _ _ _ _ hk]
theorem setCells_size (b : Nat) : ∀ (vs : List Value) (o : Nat) (w : World), (w.setCells b o vs).heap.size = w.heap.size
 | [], _, _ => rfl
 | v :: r, o, w => by rw [World.setCells, setCells_size b r (o + 1)]; simp
theorem setCells_outer (b : Nat) : ∀ (vs : List Value) (o : Nat) (w : World), (w.setCells b o vs).os = w.os ∧ (w.setCells b o vs).tape = w.tape ∧ (w.setCells b o vs).output = w.output
 | [], _, _ => ⟨rfl, rfl, rfl⟩
 | v :: r, o, w => by rw [World.setCells]; exact setCells_outer b r (o + 1) _
theorem below_setCells {B b : Nat} {w0 w : World} (h : Below B w0 w) (hb : B ≤ b) (vs : List Value) (o : Nat) : Below B w0 (w.setCells b o vs) := by
 obtain ⟨h1, h2, h3⟩ := setCells_outer b vs o w; exact ⟨h1.trans h.os, h2.trans h.tape, h3.trans h.output, by rw [setCells_size]; exact h.size, fun k hk => (setCells_other (by omega) vs o w).trans (h.block k hk)⟩
theorem below_setRow {B b : Nat} {w0 w : World} (h : Below B w0 w) (hb : B ≤ b) (cs : Array Value) : Below B w0 (w.setRow b cs) :=
 ⟨h.os, h.tape, h.output, by rw [setRow_size]; exact h.size, fun k hk => (setRow_other _ _ _ _ (by omega)).trans (h.block k hk)⟩
section
variable {P : Program} {w : World} {ops : Array Oper} {rest : List Oper} {o : Oper} {a : Act} {Q : Exit → Act → World → Prop}
theorem wpList_clear (hgd : o.guard = none) (x : Operand) (t : TypeId) (ho : o.op = .call { callee := .builtin .clear, args := #[x], argTypes := #[t] }) {v u : Value} {w1 : World} (hx : a.eval x = v) (hr : (Builtin.clear_ #[t] o.type #[v]).run P w = .ok u w1)
  (hK : wpList P ops Q rest (a.put o.dst u) w1) : wpList P ops Q (o :: rest) a w := by
 refine wpList_plain hgd fun K hK' => ?_
 unfold Oper.wp execOp; simp only [ho, resolve, invoke, builtin, Sem.run_bind, Sem.run_pure, Result.andThen_ok, List.map_toArray, List.map_cons, List.map_nil, hx, hr]; exact hK' _ _ hK
end
theorem hash_cells32 (l : List Int) (h : l.length = 32) : (Tryd.prog.info? 123).map (·.size) = some ((l.map (Value.int .u8)).toArray.size) := by
 rw [show ((l.map (Value.int .u8)).toArray.size) = 32 by simp [h]]; kernel_rfl
theorem hash_one (l : List Int) : ((l.map (Value.int .u8)).toArray).all (·.oneCell') = true := by simp [Value.oneCell']
theorem hashN_at (s : ByteArray) (g : Nat) (W w : World) (hg : g = w.heap.size) (hW : W = w.alloc (.cells #[.string ⟨#[78]⟩, .string s] 9)) (ht : Tab w) (hs : s.size ≤ 4294967200) :
  Calls Tryd.prog 83 #[.slice (some ⟨g, 0, none⟩) 2 2] W fun e w' => e = .returned (hashV (shaL (nText s).data.toList)) ∧ Below w.heap.size w w' := by
 subst hg; exact hashN_any s W w hW ht hs
def hashTail (g n : Nat) : Value := .slice (some (if 32 = n then ⟨g, 0, none⟩ else ⟨g, n, none⟩)) (32 - n) (32 - n)
theorem hash_slice (g n : Nat) (hn0 : 1 ≤ n) (hn : n ≤ 32) (W : World) : (Instr.sliceAt 123 (.pointer (some ⟨g, 0, none⟩)) (some (.int .i64 (n : Int))) none none).run Tryd.prog W = .ok (hashTail g n) W := by
 have hT : Tryd.prog.underlying 123 = some (.array (Tryd.prog.arrayLen 123) (Tryd.prog.elem 123)) := by kernel_rfl
 have hL : Tryd.prog.arrayLen 123 = 32 := by kernel_rfl
 have hZ : (sizeOf (Tryd.prog.elem 123)).run Tryd.prog W = .ok 1 W := by kernel_rfl
 rw [run_sliceAt_array_l W _ _ hT .i64 (n : Int) (by omega) (by rw [hL]; omega), hZ, hL]; have h0 : n ≠ 0 := by omega
 simp [slicedAt, hashTail, Addr.add, h0]
theorem hash_clear (g n : Nat) (hn : n ≤ 32) (l : List Int) (hl : l.length = 32) (W : World) (hW : W.heap[g]? = some (.cells (l.map (Value.int .u8)).toArray 123 (0, 0))) (ty : TypeId) :
  (Builtin.clear_ #[47] ty #[hashTail g n]).run Tryd.prog W = .ok (.tuple #[]) (W.setCells g n (List.replicate (32 - n) (.int .u8 0))) := by
 have hz : ∀ w, (zeroValue 5).run Tryd.prog w = .ok (.int .u8 0) w := fun _ => by kernel_rfl
 by_cases h : 32 = n
 ·subst h; have h1 := run_underlying (w := W) (P := Tryd.prog) Tryd.underlying47; simp [hashTail, Builtin.clear_, h1, hz, Builtin.zeroCells, World.setCells]
 ·unfold hashTail; rw [if_neg h]; exact Lib.run_clear_slice W 47 5 ty _ Tryd.underlying47 hz rfl rfl g n (32 - n) (32 - n) (by omega)
   (fun j hj => by rw [cell_of_row _ _ _ _ _ _ hW]; simp [hl]; omega) (fun j hj => frozen_of_row _ _ _ _ _ hW)
set_option maxHeartbeats 1000000 in
theorem cut_any (s : ByteArray) (n : Nat) (hn : 1 ≤ n) (hn2 : n ≤ 32) (hs : s.size ≤ 4294967200) (w : World) (ht : Tab w) :
  Calls Tryd.prog 68 #[.string s, .int .i64 n] w fun e w' => e = .returned (hashV (cutL s n)) ∧ Below w.heap.size w w' := by
 have HT := Lib.hid ht; clear ht
 go_enter Tryd.func68, Tryd.ntmps68
 go_wp2_with fail
 refine (hashN_at s _ _ _ (by simp) rfl (HT.out.below zq_15) hs).mono ?_; rintro e w1 ⟨rfl, hb1⟩; have hz1 := hb1.size; simp only [World.size_alloc] at hz1; have hR4 : w1.heap[w.heap.size]? = some (.cells ((List.replicate 32 (Value.int .u8 0)).toArray) 123 (0, 0)) := (hb1.block _ (by simp)).trans (heap_alloc_new _ _); have hB1 : Below w.heap.size w w1 := ((Below.refl _ _).alloc (Nat.le_refl _) _).trans (hb1.mono (by simp)); obtain ⟨S, hS⟩ : ∃ S, shaL (nText s).data.toList = S := ⟨_, rfl⟩
 have hSl : S.length = 32 := by rw [← hS]; exact shaL_length _
 have hcut : cutL s n = S.take n ++ List.replicate (32 - n) 0 := by unfold cutL; rw [hS]
 rw [hS]; have HS := Lib.hid hS; clear hS; have HCUT := Lib.hid hcut; clear hcut; have HI := Lib.hid (hash_cells32 S hSl); have H1 := Lib.hid (hash_one S); have HSL := Lib.hid hSl; clear hSl; have HR4 := Lib.hid hR4; clear hR4; have hR5 : (w1.alloc (.cells ((List.replicate 32 (Value.int .u8 0)).toArray) 123)).heap[w1.heap.size]? = some (.cells ((List.replicate 32 (Value.int .u8 0)).toArray) 123 (0, 0)) := heap_alloc_new _ _; have HR5 := Lib.hid hR5; clear hR5; have hsz : ((List.replicate 32 (Value.int .u8 0)).toArray).size = ((S.map (Value.int .u8)).toArray).size := by have := HSL.out; simp [this]
 have HSZ := Lib.hid hsz; clear hsz; have hsl := hash_slice w1.heap.size n hn hn2; have hrow := setRow_heap _ _ _ ((S.map (Value.int .u8)).toArray) _ _ HR5.out; have HCL := Lib.hid (hash_clear w1.heap.size n hn2 S HSL.out _ hrow 0); obtain ⟨C, hC⟩ : ∃ C, cutL s n = C := ⟨_, rfl⟩
 have hCl : C.length = 32 := by rw [← hC]; exact cutL_length s n hn2
 have hCm : setL (S.map (Value.int .u8)) n (List.replicate (32 - n) (.int .u8 0)) = C.map (Value.int .u8) := by
  rw [setL_all _ _ _ _ (by rw [List.length_map, HSL.out]; omega), ← hC, HCUT.out]; simp
 have hR6 := setCells_row (List.replicate (32 - n) (.int .u8 0)) (S.map (Value.int .u8)) n _ hrow; rw [hCm] at hR6; have hR7 := (setCells_other (show w.heap.size ≠ w1.heap.size by omega) (List.replicate (32 - n) (Value.int .u8 0)) n ((w1.alloc (.cells ((List.replicate 32 (Value.int .u8 0)).toArray) 123)).setRow w1.heap.size (S.map (Value.int .u8)).toArray)).trans ((setRow_other _ _ _ _ (show w.heap.size ≠ w1.heap.size by omega)).trans ((heap_alloc_old w1 _ (by omega)).trans HR4.out)); have HR6 := Lib.hid hR6; have HR7 := Lib.hid hR7; have HJ := Lib.hid (hash_cells32 C hCl); have H2 := Lib.hid (hash_one C); have hsz2 : ((List.replicate 32 (Value.int .u8 0)).toArray).size = ((C.map (Value.int .u8)).toArray).size := by simp [hCl]
 have HSZ2 := Lib.hid hsz2; have hBx : Below w.heap.size w (((w1.alloc (.cells ((List.replicate 32 (Value.int .u8 0)).toArray) 123)).setRow w1.heap.size (S.map (Value.int .u8)).toArray).setCells w1.heap.size n (List.replicate (32 - n) (.int .u8 0))) :=
  below_setCells (below_setRow (hB1.alloc (by omega) _) (by omega) _) (by omega) _ _
 have HBX := Lib.hid hBx; have HCC := Lib.hid hC; clear hrow hC hCm hR6 hR7 hsz2 hBx hCl
 go_wp2_with (first | refine wpList_store_row rfl 123 _ _ rfl w1.heap.size _ rfl rfl _ _ HR5.out HI.out HSZ.out H1.out ?_ | refine wpList_clear rfl _ 47 rfl rfl HCL.out ?_ | refine wpList_load_row rfl 123 _ rfl w1.heap.size rfl _ _ _ _ HR6.out Tryd.underlying123 rfl HJ.out ?_ | refine wpList_store_row rfl 123 _ _ rfl w.heap.size _ rfl rfl _ _ HR7.out HJ.out HSZ2.out H2.out ?_)
 refine bodyPost_ret (v := hashV C) (results_cell_row Tryd.results68 _ _ w.heap.size 123 _ (0, 0) _ rfl (setRow_heap _ _ _ _ _ _ HR7.out) Tryd.underlying123 rfl HJ.out) rfl ⟨?_, ?_⟩
 ·rw [HCC.out]
 ·exact below_setRow HBX.out (Nat.le_refl _) _
end Go.Proofs.YtonbmghgbblifaaDoor.Z
end
section
namespace Go.Proofs.YtonbmghgbblifaaDoor.Z
open RowKit YtonbmghgbblifaaDoor YtonbmghgbblifaaDoorW.PrintWords YtonbmghgbblifaaDoorW.PrintLast
set_option linter.all false
set_option maxRecDepth 100000
def H32 (l : List Int) : Prop := l.length = 32 ∧ ∀ x ∈ l, 0 ≤ x ∧ x < 256
theorem ints_mem (l : List UInt8) : ∀ x ∈ ints l, 0 ≤ x ∧ x < 256 := by
 intro x hx; obtain ⟨b, _, rfl⟩ := List.mem_map.1 hx; have := UInt8.toNat_lt b; omega
def firstAt : List (List Int) → List Int → Option Nat
 | [], _ => none
 | c :: r, l => if c = l then some 0 else (firstAt r l).map (· + 1)
theorem firstAt_lt : ∀ (C : List (List Int)) (l : List Int) (i : Nat), firstAt C l = some i → i < C.length
 | [], _, _, h => by cases h
 | c :: r, l, i, h => by
  unfold firstAt at h
  split at h
  ·obtain rfl := Option.some.inj h; simp
  ·obtain ⟨j, hj, rfl⟩ := Option.map_eq_some_iff.1 h; have := firstAt_lt r l j hj; simp; omega
theorem firstAt_snoc (C : List (List Int)) (c l : List Int) : firstAt (C ++ [c]) l = match firstAt C l with
  | some i => some i
  | none => if c = l then some C.length else none := by
 induction C with
 | nil => simp [firstAt]
 | cons d r ih =>
  simp only [List.cons_append, firstAt]
  by_cases h : d = l
  ·rw [if_pos h, if_pos h]
  ·rw [if_neg h, if_neg h, ih]
   cases firstAt r l with
   | some i => rfl
   | none =>
    dsimp only
    by_cases h2 : c = l
    ·simp [h2]
    ·simp [h2]
theorem laidOutX : laidOutB Tryd.prog = true := by kernel_rfl
theorem hashLaw : Maps.Keyed Tryd.prog 123 := Maps.Keyed.of_law (deep_law_laid laidOutX (m := 2) (by omega) (of_decide_eq_true (by kernel_rfl)) (by kernel_rfl) (by kernel_rfl))
theorem lit_u8 (x : Int) (h : 0 ≤ x ∧ x < 256) : (Lit.int .u8 x).wf = true := by
 have hmin : IntKind.u8.min = 0 := rfl; have hmax : IntKind.u8.max = 255 := rfl; simp only [Lit.wf, Bool.and_eq_true, decide_eq_true_eq, hmin, hmax]; omega
theorem mapM_one (P : Program) (d : Nat) (e : TypeId) (l : List Int) (he : P.underlying e = some (.int .u8)) (hc : P.cellsOf e = 1) (hb : ∀ x ∈ l, 0 ≤ x ∧ x < 256) : ∀ (k j : Nat), j + k = l.length →
  ((List.range' j k).mapM fun i => P.keyLits (d + 1) e (((l.map (Value.int .u8)).drop (i * P.cellsOf e)).take (P.cellsOf e))) = some ((l.drop j).map fun x => [Lit.int .u8 x])
 | 0, j, h => by
  rw [List.drop_of_length_le (by omega)]; rfl
 | k + 1, j, h => by
  have h1 := mapM_one P d e l he hc hb k (j + 1) (by omega); have hd : l.drop j = l[j] :: l.drop (j + 1) := List.drop_eq_getElem_cons (by omega); rw [List.range'_succ, List.mapM_cons, h1, hd]; have : P.keyLits (d + 1) e (((l.map (Value.int .u8)).drop (j * P.cellsOf e)).take (P.cellsOf e)) = some [Lit.int .u8 l[j]] := by
   rw [hc, Nat.mul_one, ← List.map_drop, hd, List.map_cons, List.take_succ_cons, List.take_zero]; unfold Program.keyLits; rw [he]; simp [lit_u8 _ (hb l[j] (List.getElem_mem _))]
  rw [this]; rfl
theorem flat_one {α β : Type} (f : α → β) : ∀ l : List α, l.flatMap (fun x => [f x]) = l.map f
 | [] => rfl
 | a :: r => by rw [List.flatMap_cons, flat_one f r]; rfl
theorem hash_key (l : List Int) (h : H32 l) : ∃ kl, keyOf Tryd.prog 123 (hashV l) = some kl := by
 have hT : Tryd.prog.underlying 123 = some (.array 32 5) := by kernel_rfl
 have hE : Tryd.prog.underlying 5 = some (.int .u8) := by kernel_rfl
 have hcT : Tryd.prog.cellsOf 123 = 32 := by kernel_rfl
 have hcE : Tryd.prog.cellsOf 5 = 1 := by kernel_rfl
 have hk : Tryd.prog.keyType 123 = true := by kernel_rfl
 have hsz : ∃ n, Tryd.prog.types.size = n + 1 := ⟨Tryd.prog.types.size - 1, by have : 0 < Tryd.prog.types.size := of_decide_eq_true (by kernel_rfl); omega⟩
 obtain ⟨n, hn⟩ := hsz; have hf : (hashV l).formed Tryd.prog 123 = true := by
  unfold hashV Value.formed; rw [hT, hcT]; simp [h.1]
 have hL : Tryd.prog.keyLits (Tryd.prog.types.size + 1) 123 ((hashV l).cells.toList) = some (l.map (Lit.int .u8)) := by
  have hcs : (hashV l).cells.toList = l.map (Value.int .u8) := by simp [hashV, Value.cells]
  rw [hcs, hn]; unfold Program.keyLits; rw [hT]; dsimp only; rw [if_pos (by rw [List.length_map, hcT, h.1]), List.range_eq_range', mapM_one Tryd.prog n 5 l hE hcE h.2 32 0 (by rw [h.1]), List.drop_zero]; rw [Option.map_some, ← List.flatMap_def, flat_one]
 unfold keyOf; rw [hT]; dsimp only; rw [hk, hf, hL]; exact ⟨_, rfl⟩
theorem hash_key_ne {l m : List Int} {kl km : Lit} (h : keyOf Tryd.prog 123 (hashV l) = some kl) (h2 : keyOf Tryd.prog 123 (hashV m) = some km) (hne : l ≠ m) : kl ≠ km := by
 rintro rfl; have h3 := hashLaw.inj h h2; unfold hashV at h3; injection h3 with h4
 refine hne ?_; have h5 : l.map (Value.int .u8) = m.map (Value.int .u8) := by simpa using h4
 exact (List.map_inj_right (fun a b hab => by injection hab)).1 h5
def PlaceIs (C : List (List Int)) (D : DataW Unit) : Prop := Maps.IsMap D ∧ ∀ l kl, keyOf Tryd.prog 123 (hashV l) = some kl → Maps.has D kl = (firstAt C l).isSome ∧ D.atKey kl (.lit (.int .i64 0)) = .lit (.int .i64 (((firstAt C l).getD 0 : Nat) : Int))
theorem PlaceIs.start : PlaceIs [] (.map []) := ⟨Maps.isMap_empty, fun l kl h => ⟨rfl, rfl⟩⟩
theorem PlaceIs.same {C : List (List Int)} {D : DataW Unit} (h : PlaceIs C D) {c : List Int} {i : Nat} (hc : firstAt C c = some i) : PlaceIs (C ++ [c]) D := by
 refine ⟨h.1, fun l kl hk => ?_⟩; have := h.2 l kl hk; rw [firstAt_snoc]
 cases hl : firstAt C l with
 | some j => rw [hl] at this; exact this
 | none =>
  rw [hl] at this; dsimp only; rw [if_neg (fun e => by rw [e, hl] at hc; cases hc)]; exact this
theorem PlaceIs.new {C : List (List Int)} {D : DataW Unit} (h : PlaceIs C D) {c : List Int} {kc : Lit} (hkc : keyOf Tryd.prog 123 (hashV c) = some kc) (hc : firstAt C c = none) : PlaceIs (C ++ [c]) (D.put kc (.lit (.int .i64 (C.length : Int)))) := by
 refine ⟨h.1.put _ _, fun l kl hk => ?_⟩; have := h.2 l kl hk; rw [firstAt_snoc]
 by_cases e : c = l
 ·subst e; obtain rfl : kc = kl := by rw [hkc] at hk; exact Option.some.inj hk
  rw [hc]; dsimp only; rw [if_pos rfl]; exact ⟨Maps.has_put_same h.1 (hashLaw.key hkc) _, Maps.atKey_put_same h.1 (hashLaw.key hkc) _ _⟩
 ·have hne := hash_key_ne hk hkc (fun e' => e e'.symm); rw [Maps.has_put_other hne, Maps.atKey_put_other hne]
  cases hl : firstAt C l with
  | some j => rw [hl] at this; exact this
  | none => rw [hl] at this; dsimp only; rw [if_neg e]; exact this
end Go.Proofs.YtonbmghgbblifaaDoor.Z
end
section
namespace Go.Proofs.YtonbmghgbblifaaDoor.Z
open RowKit YtonbmghgbblifaaDoor YtonbmghgbblifaaDoorW.PrintWords YtonbmghgbblifaaDoorW.PrintLast
set_option linter.all false
set_option maxRecDepth 100000
def strs (l : List ByteArray) : List Value := l.map Value.string
theorem strs_app (l m : List ByteArray) : strs (l ++ m) = strs l ++ strs m := by simp [strs]
structure Idx (base b m : Nat) (v : Value) (W : Int) (encs : List ByteArray) (C : List (List Int)) (w : World) : Prop where
 row : w.heap[b]? = some (.cells #[.int .i64 W, v, .map (some m)] 163 (0, 0))
 own : Own w base 1 v encs.length (strs encs)
 map : ∃ D : DataW Unit, w.ownsMap Tryd.prog 123 (plainElem Tryd.prog 3) m encs.length D ∧ PlaceIs C D
 hb : base ≤ b
 hm : base ≤ m
 nm : m ≠ b
 vb : v.ownBlock ≠ some b
 vm : v.ownBlock ≠ some m
 len : C.length = encs.length
section
variable {base b m : Nat} {v : Value} {W : Int} {encs : List ByteArray} {C : List (List Int)} {w w1 : World}
theorem Idx.lt (h : Idx base b m v W encs C w) : b < w.heap.size := lt_of_block h.row
theorem Idx.ltm (h : Idx base b m v W encs C w) : m < w.heap.size := by obtain ⟨D, h1, _⟩ := h.map; exact h1.lt
theorem Idx.below (h : Idx base b m v W encs C w) (hB : Below w.heap.size w w1) : Idx base b m v W encs C w1 := by
 obtain ⟨D, h1, h2⟩ := h.map; exact { h with
  row := (hB.block b h.lt).trans h.row
  own := h.own.below hB
  map := ⟨D, h1.kept (row := none) ⟨hB.os, hB.tape, hB.output, hB.size, fun k hk _ => hB.block k hk⟩ (by simp), h2⟩ }
theorem Idx.c0 (h : Idx base b m v W encs C w) : w.cell? ⟨b, 0, none⟩ = some (.int .i64 W) := (cell_of_row _ _ _ _ _ _ h.row).trans rfl
theorem Idx.c1 (h : Idx base b m v W encs C w) : w.cell? ⟨b, 1, none⟩ = some v := (cell_of_row _ _ _ _ _ _ h.row).trans rfl
theorem Idx.c2 (h : Idx base b m v W encs C w) : w.cell? ⟨b, 2, none⟩ = some (.map (some m)) := (cell_of_row _ _ _ _ _ _ h.row).trans rfl
theorem Idx.f (h : Idx base b m v W encs C w) (i : Nat) : w.frozen? ⟨b, i, none⟩ = false := frozen_of_row _ _ _ _ _ h.row
end
theorem Idx.app {base b m : Nat} {v v' : Value} {W : Int} {encs : List ByteArray} {C : List (List Int)} {c : List Int} {s : ByteArray} {w0 w w' : World} (h : Idx base b m v W encs C w0) (hrow : w.heap[b]? = some (.cells #[.int .i64 W, v, .map (some m)] 163 (0, 0)))
  (hmap : ∃ D : DataW Unit, w.ownsMap Tryd.prog 123 (plainElem Tryd.prog 3) m (encs.length + 1) D ∧ PlaceIs (C ++ [c]) D) (hg : w.grownBy w' v.ownBlock) (ho : Own w' base 1 v' (encs.length + 1) (strs encs ++ [Value.string s]))
  (hv : v'.ownBlock = v.ownBlock ∨ ∀ k, v'.ownBlock = some k → w.heap.size ≤ k) : Idx base b m v' W (encs ++ [s]) (C ++ [c]) (w'.setCell ⟨b, 1, none⟩ v') := by
 have hbl := lt_of_block hrow; obtain ⟨D, hm1, hm2⟩ := hmap; have hml := hm1.lt; have vb : v'.ownBlock ≠ some b := by
  rcases hv with e | e
  ·rw [e]; exact h.vb
  ·intro e2; have := e b e2; omega
 have vm : v'.ownBlock ≠ some m := by
  rcases hv with e | e
  ·rw [e]; exact h.vm
  ·intro e2; have := e m e2; omega
 have hr1 : w'.heap[b]? = some (.cells #[.int .i64 W, v, .map (some m)] 163 (0, 0)) := (hg.block b hbl (fun e => h.vb e.symm)).trans hrow; refine ⟨?_, ?_, ⟨D, ?_, hm2⟩, h.hb, h.hm, h.nm, vb, vm, by rw [List.length_append, List.length_append, h.len]; rfl⟩
 ·have := heap_setCell_same w' b 1 _ _ v' hr1; rw [this]; rfl
 ·rw [List.length_append, strs_app]; exact ho.set vb _
 ·have h2 : w'.ownsMap Tryd.prog 123 (plainElem Tryd.prog 3) m (encs.length + 1) D := hm1.kept hg (fun e => h.vm e.symm); rw [show (encs ++ [s]).length = encs.length + 1 by simp]; exact h2.setCell (by exact h.nm) _
theorem Idx.slot {base b m : Nat} {v : Value} {W : Int} {encs : List ByteArray} {C : List (List Int)} {w0 w w' : World} (h : Idx base b m v W encs C w0) (hrow : w.heap[b]? = some (.cells #[.int .i64 W, v, .map (some m)] 163 (0, 0))) (hg : w.grownBy w' v.ownBlock) :
  w'.cell? ⟨b, 1, none⟩ = some v ∧ w'.frozen? ⟨b, 1, none⟩ = false := by
 have hr1 : w'.heap[b]? = some (.cells #[.int .i64 W, v, .map (some m)] 163 (0, 0)) := (hg.block b (lt_of_block hrow) (fun e => h.vb e.symm)).trans hrow; exact ⟨(cell_of_row _ _ _ _ _ _ hr1).trans rfl, frozen_of_row _ _ _ _ _ hr1⟩
theorem Idx.grown {base b m : Nat} {v : Value} {W : Int} {encs : List ByteArray} {C : List (List Int)} {w w1 : World} (h : Idx base b m v W encs C w) {B : Nat} (hg : w.grownBy w1 (some B)) (hb : B ≠ b) (hm : B ≠ m) (hv : v.ownBlock ≠ some B) : Idx base b m v W encs C w1 := by
 obtain ⟨D, h1, h2⟩ := h.map; exact { h with
  row := (hg.block b h.lt (fun e => hb (Option.some.inj e).symm)).trans h.row
  own := h.own.grown hg (fun k hk e => hv (by rw [hk, e]))
  map := ⟨D, h1.kept hg (fun e => hm (Option.some.inj e).symm), h2⟩ }
theorem infoStr : (Tryd.prog.info? 9).map (fun i => (i.zero, i.size, i.bytes)) = some (some (.string ⟨#[]⟩), 1, 16) := by kernel_rfl
theorem zeroInt (w : World) : (zeroValue 3).run Tryd.prog w = .ok (.int .i64 0) w := by kernel_rfl
theorem wpQuiet_load {P : Program} {ops : Array Oper} {C : World → Prop} {Q : Act → Prop} {a : Act} {o : Oper} {rest : List Oper} (hg : o.guard = none) (ty : TypeId) (x : Operand) (ho : o.op = .load ty x) (p v : Value) (hx : a.eval x = p)
  (hrun : ∀ w, C w → (Instr.loadAt ty p).run P w = .ok v w) (h : wpQuiet P ops C Q rest (a.put o.dst v)) : wpQuiet P ops C Q (o :: rest) a := by
 unfold wpQuiet; rw [if_pos (by simp [Region.wanted, hg])]; refine ⟨v, fun w hw => ?_, h⟩; unfold Oper.quietAt execOp; simp only [ho, hx, Sem.run_bind, hrun w hw, Result.andThen_ok, Sem.run_pure]; exact ⟨rfl, rfl⟩
theorem wpStill_load {P : Program} {ops : Array Oper} {w : World} {Q : Act → Prop} {a : Act} {o : Oper} {rest : List Oper} (hg : o.guard = none) (ty : TypeId) (x : Operand) (ho : o.op = .load ty x) (p v : Value) (hx : a.eval x = p)
  (hrun : (Instr.loadAt ty p).run P w = .ok v w) (h : wpStill P ops w Q rest (a.put o.dst v)) : wpStill P ops w Q (o :: rest) a := by
 unfold wpStill; rw [if_pos (by simp [Region.wanted, hg])]; unfold Oper.still execOp; simp only [ho, hx, Sem.run_bind, hrun, Result.andThen_ok, Sem.run_pure]; exact ⟨rfl, h⟩
theorem hash_load (c : List Int) (hl : c.length = 32) (g : Nat) (W : World) (hg : W.heap[g]? = some (.cells (c.map (Value.int .u8)).toArray 123 (0, 0))) :
  (Instr.loadAt 123 (.pointer (some ⟨g, 0, none⟩))).run Tryd.prog W = .ok (hashV c) W := by
 simp only [Instr.loadAt, Instr.sureAddr, Sem.run_bind, Sem.run_pure, Result.andThen_ok]; exact run_loadVar_row W g _ _ _ _ _ hg Tryd.underlying123 rfl (hash_cells32 c hl)
theorem place_look {m n : Nat} {D : DataW Unit} {C : List (List Int)} {w : World} (h : w.ownsMap Tryd.prog 123 (plainElem Tryd.prog 3) m n D) (hp : PlaceIs C D) (c : List Int) (hc : H32 c) :
  (Instr.lookup 119 (.map (some m)) (hashV c) true).run Tryd.prog w = .ok (.tuple #[.int .i64 (((firstAt C c).getD 0 : Nat) : Int), .bool (firstAt C c).isSome]) w := by
 obtain ⟨kl, hk⟩ := hash_key c hc; obtain ⟨h1, h2⟩ := hp.2 c kl hk; obtain ⟨v, ps, hrun, hv⟩ := h.look_ok hashLaw Tryd.underlying119 (zeroInt w) (plainElem_int Tryd.underlying3 (by decide)) hk; obtain ⟨x, rfl, hx, _⟩ := plainElem_int_inv Tryd.underlying3 hv; rw [hrun, h1]; rw [h2] at hx; have h3 := congrArg Prod.fst hx; simp only [DataW.lit.injEq, Lit.int.injEq, true_and] at h3; rw [← h3]
set_option maxHeartbeats 2000000 in
theorem idxAdd_old (base b m : Nat) (v : Value) (W : Int) (encs : List ByteArray) (C : List (List Int)) (c : List Int) (s : ByteArray) (i : Nat) (w : World) (h : Idx base b m v W encs C w) (hc : H32 c) (hi : firstAt C c = some i) (hn : encs.length ≤ 1073741824) (hbase : base ≤ w.heap.size) :
  Calls Tryd.prog 107 #[.pointer (some ⟨b, 0, none⟩), hashV c, .string s] w fun e w' => e = .returned (.tuple #[]) ∧ (∃ v', Idx base b m v' W (encs ++ [s]) (C ++ [c]) w') ∧ Below base w w' := by
 obtain ⟨VA, VC, rfl⟩ := h.own.form; obtain ⟨D, hown, hpl⟩ := h.map; have hw1 : (w.alloc (.cells (c.map (Value.int .u8)).toArray 123)).heap[w.heap.size]? = some (.cells (c.map (Value.int .u8)).toArray 123 (0, 0)) := heap_alloc_new _ _; have HX := Lib.hid (h.below ((Below.refl _ _).alloc (Nat.le_refl _) (.cells (c.map (Value.int .u8)).toArray 123))); have kl := fun n => hash_load c hc.1 w.heap.size ((w.alloc (.cells (c.map (Value.int .u8)).toArray 123)).drewN n) hw1
 have kp := fun n => place_look (w := (w.alloc (.cells (c.map (Value.int .u8)).toArray 123)).drewN n) (hown.alloc _) hpl c hc
 rw [hi] at kp; have h0 := h.c0; have h1 := h.c1; have h2 := h.c2; have hf := h.f; have hlt := h.lt; have HI := Lib.hid hi; have HC := Lib.hid hc; have HH := Lib.hid h; clear hi hc h hown hpl hw1; unfold hashV at kl kp ⊢
 go_enter Tryd.func107, Tryd.ntmps107
 go_wp2_with fail
 refine wp_region_quiet_lit (by kernel_rfl) (by kernel_rfl) ?_
 iterate 4 (quiet_step (fail))
 refine wpQuiet_load rfl 123 _ rfl _ _ rfl (fun w' ⟨n, hn⟩ => by subst hn; exact kl n) ?_
 repeat (quiet_step (fail))
 refine wpQuiet_nil ?_; intro _ hw'; obtain ⟨nq, hw''⟩ := hw'; subst hw''; have hrow : (((w.alloc (.cells (c.map (Value.int .u8)).toArray 123)).drewN nq).alloc (.cells #[Value.string s] 9)).heap[b]? = some (.cells #[.int .i64 W, .slice VA encs.length VC, .map (some m)] 163 (0, 0)) :=
  (HX.out.below ((Below.refl _ _).alloc (Nat.le_refl _) (.cells #[Value.string s] 9))).row
 have hown : Own (((w.alloc (.cells (c.map (Value.int .u8)).toArray 123)).drewN nq).alloc (.cells #[Value.string s] 9)) base 1 (.slice VA encs.length VC) encs.length (strs encs) :=
  (HX.out.below ((Below.refl _ _).alloc (Nat.le_refl _) (.cells #[Value.string s] 9))).own
 have hsrc := src_one ((w.alloc (.cells (c.map (Value.int .u8)).toArray 123)).drewN nq) 28 9 9 Tryd.underlying28 (.string s) rfl; rw [show ((w.alloc (.cells (c.map (Value.int .u8)).toArray 123)).drewN nq).heap.size = w.heap.size + 1 by simp] at hsrc; have HROW := Lib.hid hrow; have HOWN := Lib.hid hown; have HSRC := Lib.hid hsrc; have hbel : Below base w (((w.alloc (.cells (c.map (Value.int .u8)).toArray 123)).drewN nq).alloc (.cells #[Value.string s] 9)) := (bdrewN ((Below.refl _ _).alloc hbase _) nq).alloc (by simp; omega) _; have hmp : ∃ D : DataW Unit, (((w.alloc (.cells (c.map (Value.int .u8)).toArray 123)).drewN nq).alloc (.cells #[Value.string s] 9)).ownsMap Tryd.prog 123 (plainElem Tryd.prog 3) m (encs.length + 1) D ∧ PlaceIs (C ++ [c]) D := by
  obtain ⟨D, h1, h2⟩ := (HX.out.below ((Below.refl _ _).alloc (Nat.le_refl _) (.cells #[Value.string s] 9))).map; exact ⟨D, h1.mono (by omega), h2.same HI.out⟩
 have HMP := Lib.hid hmp; have HBEL := Lib.hid hbel; clear hrow hown hsrc hbel hmp kl kp hf
 go_wp2_with (at_builtin; go_loud (refine wpList_app base rfl _ _ 28 28 rfl 9 (.string ⟨#[]⟩) 1 16 Tryd.underlying28 infoStr rfl rfl HOWN.out _ 1 [Value.string s] rfl HSRC.out (by unfold maxLen; omega) (by omega) (by simp; omega) ?_; intro v' w' hown' hgrow hvv; obtain ⟨A', c', rfl⟩ := hown'.form; have HO' := Lib.hid hown'; have HG' := Lib.hid hgrow; have HV' := Lib.hid hvv; clear hown' hgrow hvv; have hs1 := (HH.out.slot HROW.out HG'.out).1; have hs2 := (HH.out.slot HROW.out HG'.out).2))
 go_end0
 refine ⟨rfl, ⟨_, HH.out.app HROW.out HMP.out HG'.out HO'.out HV'.out⟩, ?_⟩; have h5 : Below base w w' := HBEL.out.grown HG'.out (by simp; omega) (fun k hk => (HH.out.own.lt k hk).1); exact h5.setCell HH.out.hb _
set_option maxHeartbeats 2000000 in
theorem idxAdd_newF (base b m : Nat) (v : Value) (W : Int) (encs : List ByteArray) (C : List (List Int)) (c : List Int) (s : ByteArray) (w : World) (h : Idx base b m v W encs C w) (hc : H32 c) (hi : firstAt C c = none) (hn : encs.length ≤ 1073741824) (hbase : base ≤ w.heap.size) :
  Calls Tryd.prog 107 #[.pointer (some ⟨b, 0, none⟩), hashV c, .string s] w fun e w' => e = .returned (.tuple #[]) ∧ ∃ v', Idx base b m v' W (encs ++ [s]) (C ++ [c]) w' ∧ Below base w w' ∧ (v'.ownBlock = v.ownBlock ∨ ∀ k, v'.ownBlock = some k → w.heap.size ≤ k) ∧ ∀ k, k < w.heap.size → k ≠ b → k ≠ m → v.ownBlock ≠ some k → w'.heap[k]? = w.heap[k]? := by
 obtain ⟨VA, VC, rfl⟩ := h.own.form; obtain ⟨D, hown, hpl⟩ := h.map; have hw1 : (w.alloc (.cells (c.map (Value.int .u8)).toArray 123)).heap[w.heap.size]? = some (.cells (c.map (Value.int .u8)).toArray 123 (0, 0)) := heap_alloc_new _ _; have HX := Lib.hid (h.below ((Below.refl _ _).alloc (Nat.le_refl _) (.cells (c.map (Value.int .u8)).toArray 123))); have kl := fun n => hash_load c hc.1 w.heap.size ((w.alloc (.cells (c.map (Value.int .u8)).toArray 123)).drewN n) hw1
 have kp := fun n => place_look (w := (w.alloc (.cells (c.map (Value.int .u8)).toArray 123)).drewN n) (hown.alloc _) hpl c hc
 rw [hi] at kp; have h0 := h.c0; have h1 := h.c1; have h2 := h.c2; have hf := h.f; have hlt := h.lt; have HI := Lib.hid hi; have HC := Lib.hid hc; have HH := Lib.hid h; clear hi hc h hown hpl hw1; unfold hashV at kl kp ⊢
 go_enter Tryd.func107, Tryd.ntmps107
 go_wp2_with fail
 refine wp_region_quiet_lit (by kernel_rfl) (by kernel_rfl) ?_
 iterate 4 (quiet_step (fail))
 refine wpQuiet_load rfl 123 _ rfl _ _ rfl (fun w' ⟨n, hn⟩ => by subst hn; exact kl n) ?_
 repeat (quiet_step (fail))
 refine wpQuiet_nil ?_; intro _ hw'; obtain ⟨nq, hw''⟩ := hw'; subst hw''
 go_wp2_with fail
 obtain ⟨W1, hW1⟩ : ∃ W1, W1 = (w.alloc (.cells (c.map (Value.int .u8)).toArray 123)).drewN nq := ⟨_, rfl⟩
 have hX1 : Idx base b m (.slice VA encs.length VC) W encs C W1 := by rw [hW1]; exact HX.out.below (bdrewN (Below.refl _ _) nq)
 have hr1 : W1.heap[w.heap.size]? = some (.cells (c.map (Value.int .u8)).toArray 123 (0, 0)) := by rw [hW1]; exact heap_alloc_new _ _
 have hz1 : W1.heap.size = w.heap.size + 1 := by rw [hW1]; simp
 have hB1 : Below base w W1 := by rw [hW1]; exact bdrewN ((Below.refl _ _).alloc hbase _) nq
 have HB9 : Hid (Below w.heap.size w W1) := Lib.hid (by rw [hW1]; exact bdrewN ((Below.refl _ _).alloc (Nat.le_refl _) _) nq); rw [← hW1]; clear kl kp h0 h1 h2 hf hW1 HX hlt; have h0 := hX1.c0; have h1 := hX1.c1; have h2 := hX1.c2; have hf := hX1.f; have kl := hash_load c HC.out.1 w.heap.size W1.drew hr1; have HX := Lib.hid hX1; have HZ := Lib.hid hz1; clear hX1 hz1
 go_still_tail 10, (by kernel_rfl)
 refine wpStill_load rfl 123 _ rfl _ (hashV c) rfl kl ?_
 repeat still_step
 try refine wpStill_nil ?_
 obtain ⟨D1, hm1, hp1⟩ := HX.out.map; obtain ⟨kc, hkc⟩ := hash_key c HC.out; have hm1' : W1.drew.ownsMap Tryd.prog 123 (plainElem Tryd.prog 3) m encs.length D1 := hm1; have HM1 := Lib.hid hm1'; have HP1 := Lib.hid hp1; have HKC := Lib.hid hkc; have HB1 := Lib.hid hB1; clear hm1 hm1' hp1 hkc hB1 kl hr1 h0 h1 h2 hf
 change wpList _ _ _ _ _ W1.drew
 go_wp2_with (first | (at_mapUpdate; go_loud (refine wpList_mapUpdate_own _ rfl _ _ _ 119 rfl 123 3 hashLaw Tryd.underlying119 (plainElem Tryd.prog 3) m encs.length D1 rfl HM1.out (by unfold maxLen; omega) _ _ kc rfl rfl HKC.out (.lit (.int .i64 (encs.length : Int))) [] (plainElem_int Tryd.underlying3 (by go_wf)) ?_; intro w2 hm2 hg2; have HM2 := Lib.hid hm2; have HG2 := Lib.hid hg2; clear hm2 hg2; have HR2 := Lib.hid ((HG2.out.block b HX.out.lt (fun e => HX.out.nm (Option.some.inj e).symm)).trans HX.out.row); have hc2 := (cell_of_row _ _ 1 _ _ _ HR2.out).trans rfl; have hf2 := frozen_of_row _ _ 1 _ _ HR2.out; have HZ2 := Lib.hid (show W1.heap.size ≤ w2.heap.size from HG2.out.size); have HO2 := Lib.hid (HX.out.own.drew.grown HG2.out (fun k hk e => HX.out.vm (hk.trans e))); have HSRC := Lib.hid (src_one w2 28 9 9 Tryd.underlying28 (.string s) rfl); have HOWN := Lib.hid (HO2.out.alloc (.cells #[Value.string s] 9)); have HROW := Lib.hid ((heap_alloc_old w2 (.cells #[Value.string s] 9) (lt_of_block HR2.out)).trans HR2.out))) | (at_builtin; go_loud (refine wpList_app base rfl _ _ 28 28 rfl 9 (.string ⟨#[]⟩) 1 16 Tryd.underlying28 infoStr rfl rfl HOWN.out _ 1 [Value.string s] rfl HSRC.out (by unfold maxLen; omega) (by omega) (by have := HZ2.out; have := HZ.out; simp at this ⊢; omega) ?_; intro v' w' hown' hgrow hvv; obtain ⟨A', c', rfl⟩ := hown'.form; have HO' := Lib.hid hown'; have HG' := Lib.hid hgrow; have HV' := Lib.hid hvv; clear hown' hgrow hvv; have hs1 := (HH.out.slot HROW.out HG'.out).1; have hs2 := (HH.out.slot HROW.out HG'.out).2)))
 go_end0
 have hz2 := HZ2.out; have hz := HZ.out; have hmp : ∃ D : DataW Unit, (w2.alloc (.cells #[Value.string s] 9)).ownsMap Tryd.prog 123 (plainElem Tryd.prog 3) m (encs.length + 1) D ∧ PlaceIs (C ++ [c]) D := by
  refine ⟨_, HM2.out.alloc _, ?_⟩; have := HP1.out.new HKC.out HI.out; rw [HH.out.len] at this; exact this
 refine ⟨rfl, _, HH.out.app HROW.out hmp HG'.out HO'.out HV'.out, ?_, HV'.out.imp id (fun g k hk => by have := g k hk; simp at this; omega), fun k hk h1 h2 h3 => ?_⟩; rotate_left
 ·rw [heap_setCell_other _ _ _ _ h1, HG'.out.block k (by simp; omega) (fun e => h3 e.symm), heap_alloc_old w2 _ (by omega), HG2.out.block k (by show k < W1.heap.size; omega) (fun e => h2 (Option.some.inj e))]; exact HB9.out.block k hk
 have h4 : Below base w w2 := (HB1.out.drew).grown HG2.out (by show base ≤ W1.heap.size; omega) (fun k hk => by cases hk; exact HH.out.hm); have h6 : Below base w (w2.alloc (.cells #[Value.string s] 9)) := h4.alloc (Nat.le_trans hbase h4.size) _; have h5 : Below base w w' := h6.grown HG'.out (Nat.le_trans hbase h6.size) (fun k hk => (HH.out.own.lt k hk).1); exact h5.setCell HH.out.hb _
theorem idxAdd_new (base b m : Nat) (v : Value) (W : Int) (encs : List ByteArray) (C : List (List Int)) (c : List Int) (s : ByteArray) (w : World) (h : Idx base b m v W encs C w) (hc : H32 c) (hi : firstAt C c = none) (hn : encs.length ≤ 1073741824) (hbase : base ≤ w.heap.size) :
  Calls Tryd.prog 107 #[.pointer (some ⟨b, 0, none⟩), hashV c, .string s] w fun e w' => e = .returned (.tuple #[]) ∧ (∃ v', Idx base b m v' W (encs ++ [s]) (C ++ [c]) w') ∧ Below base w w' :=
 (idxAdd_newF base b m v W encs C c s w h hc hi hn hbase).mono fun _ _ ⟨h1, v', h2, h3, _⟩ => ⟨h1, ⟨v', h2⟩, h3⟩
end Go.Proofs.YtonbmghgbblifaaDoor.Z
end
section
namespace Go.Proofs.YtonbmghgbblifaaDoor
open RowKit
set_option linter.all false
def Rdr (b : Nat) (r : ByteArray) (bad : Bool) (w : World) : Prop := w.heap[b]? = some (.cells #[.string r, .bool bad] 137)
section
variable {b : Nat} {r : ByteArray} {bad : Bool} {w w1 : World}
theorem Rdr.c0 (h : Rdr b r bad w) : w.cell? ⟨b, 0, none⟩ = some (.string r) := by
 unfold Rdr at h; simp [World.cell?, h]
theorem Rdr.c1 (h : Rdr b r bad w) : w.cell? ⟨b, 1, none⟩ = some (.bool bad) := by
 unfold Rdr at h; simp [World.cell?, h]
theorem Rdr.f (h : Rdr b r bad w) (i : Nat) : w.frozen? ⟨b, i, none⟩ = false := by
 unfold Rdr at h; simp [World.frozen?, h]
theorem Rdr.lt (h : Rdr b r bad w) : b < w.heap.size := by
 rcases Nat.lt_or_ge b w.heap.size with h' | h'
 ·exact h'
 ·unfold Rdr at h; simp [Array.getElem?_eq_none h'] at h
theorem Rdr.set0 (h : Rdr b r bad w) (s : ByteArray) : Rdr b s bad (w.setCell ⟨b, 0, none⟩ (.string s)) := by
 have hl := h.lt; unfold Rdr at h ⊢; rw [Array.getElem?_eq_getElem hl] at h; have h' := Option.some.inj h; simp [World.setCell, hl, Array.getElem_modify, h']
theorem Rdr.set1 (h : Rdr b r bad w) (s : Bool) : Rdr b r s (w.setCell ⟨b, 1, none⟩ (.bool s)) := by
 have hl := h.lt; unfold Rdr at h ⊢; rw [Array.getElem?_eq_getElem hl] at h; have h' := Option.some.inj h; simp [World.setCell, hl, Array.getElem_modify, h']
theorem Rdr.below (h : Rdr b r bad w) (hb : Below w.heap.size w w1) : Rdr b r bad w1 := (hb.block b h.lt).trans h
theorem Rdr.grown (h : Rdr b r bad w) {row : Option Nat} (hb : w.grownBy w1 row) (hn : some b ≠ row) : Rdr b r bad w1 := (hb.block b h.lt hn).trans h
theorem Rdr.fresh (s : ByteArray) (w : World) : Rdr w.heap.size s false (w.alloc (.cells #[.string s, .bool false] 137)) := by
 show (w.heap.push _)[w.heap.size]? = _; simp
end
def textR (r : ByteArray) (bad : Bool) (n : Int) : ByteArray × ByteArray × Bool :=
 if bad = true ∨ n < 0 ∨ (r.size : Int) < n then (⟨#[]⟩, r, true) else (r.extract 0 n.toNat, r.extract n.toNat r.size, false)
set_option maxHeartbeats 400000 in
theorem text_any (b : Nat) (r : ByteArray) (bad : Bool) (n : Int) (w : World) (h : Rdr b r bad w) :
  Calls Tryd.prog 87 #[.pointer (some ⟨b, 0, none⟩), .int .i64 n] w fun e w' => e = .returned (.string (textR r bad n).1) ∧ Rdr b (textR r bad n).2.1 (textR r bad n).2.2 w' ∧ w.grownBy w' (some b) := by
 have c0 := h.c0; have c1 := h.c1; have f0 := h.f 0; have f1 := h.f 1; have H := Lib.hid h; clear h
 by_cases hc : bad = true ∨ n < 0 ∨ (r.size : Int) < n
 ·have ht : textR r bad n = (⟨#[]⟩, r, true) := by unfold textR; rw [if_pos hc]
  rw [ht]; clear ht
  by_cases hb : bad = true
  ·subst hb
   go_enter Tryd.func87, Tryd.ntmps87
   go_wp2
   go_ret
   exact ⟨rfl, H.out.set1 true, Lib.grownBy_setCell _ _ _ _⟩
  ·obtain rfl : bad = false := by simpa using hb
   by_cases hn : n < 0
   ·go_enter Tryd.func87, Tryd.ntmps87
    go_wp2
    go_ret
    exact ⟨rfl, H.out.set1 true, Lib.grownBy_setCell _ _ _ _⟩
   ·have hn2 : (r.size : Int) < n := by simp at hc; omega
    go_enter Tryd.func87, Tryd.ntmps87
    go_wp2
    go_ret
    exact ⟨rfl, H.out.set1 true, Lib.grownBy_setCell _ _ _ _⟩
 ·have ht : textR r bad n = (r.extract 0 n.toNat, r.extract n.toNat r.size, false) := by unfold textR; rw [if_neg hc]
  rw [ht]; clear ht; simp only [not_or, Bool.not_eq_true] at hc; obtain ⟨rfl, hn0, hn1⟩ := hc; have hn2 : 0 ≤ n := by omega
  have hn3 : n ≤ r.size := by omega
  have hn4 : ¬ (r.size : Int) < n := by omega
  go_enter Tryd.func87, Tryd.ntmps87
  go_wp2
  go_ret
  exact ⟨rfl, H.out.set0 _, Lib.grownBy_setCell _ _ _ _⟩
theorem or_join (x y : Nat) (hy : y < 256) : (x * 256) ||| y = x * 256 + y := by
 have h := Nat.shiftLeft_add_eq_or_of_lt (i := 8) hy x; rw [Nat.shiftLeft_eq] at h; exact h.symm
theorem or_vec (n a b : Nat) : (BitVec.ofInt n (a : Int) ||| BitVec.ofInt n (b : Int)).toNat = (a % 2 ^ n) ||| (b % 2 ^ n) := by
 rw [BitVec.toNat_or, BitVec.ofInt_natCast, BitVec.ofInt_natCast, BitVec.toNat_ofNat, BitVec.toNat_ofNat]
theorem wrap_u32 (n : Nat) (h : n < 4294967296) : IntKind.u32.wrap (n : Int) = n := by
 simp [IntKind.wrap, IntKind.bits, IntKind.signed]; omega
theorem wrap_i64 (n : Nat) (h : n < 9223372036854775808) : IntKind.i64.wrap (n : Int) = n := by
 simp [IntKind.wrap, IntKind.bits, IntKind.signed]; omega
theorem bitsOrU32 (x y : Nat) (hx : x < 16777216) (hy : y < 256) : bits .or .u32 ((x : Int) * 256) (y : Int) = ((x * 256 + y : Nat) : Int) := by
 have e : ((x : Int) * 256) = ((x * 256 : Nat) : Int) := by simp
 rw [e]; show IntKind.u32.wrap (((BitVec.ofInt 32 ((x * 256 : Nat) : Int) ||| BitVec.ofInt 32 (y : Int)).toNat : Nat) : Int) = _; rw [or_vec, Nat.mod_eq_of_lt (by omega), Nat.mod_eq_of_lt (by omega), or_join x y hy, wrap_u32 _ (by omega)]
theorem bitsOrI64 (x y : Nat) (hx : x < 16777216) (hy : y < 256) : bits .or .i64 ((x : Int) * 256) (y : Int) = ((x * 256 + y : Nat) : Int) := by
 have e : ((x : Int) * 256) = ((x * 256 : Nat) : Int) := by simp
 rw [e]; show IntKind.i64.wrap (((BitVec.ofInt 64 ((x * 256 : Nat) : Int) ||| BitVec.ofInt 64 (y : Int)).toNat : Nat) : Int) = _; rw [or_vec, Nat.mod_eq_of_lt (by omega), Nat.mod_eq_of_lt (by omega), or_join x y hy, wrap_i64 _ (by omega)]
def numV (l : List UInt8) : Nat := l.foldl (fun a b => a * 256 + b.toNat) 0
theorem numV_snoc (l : List UInt8) (b : UInt8) : numV (l ++ [b]) = numV l * 256 + b.toNat := by simp [numV]
theorem numV_lt (l : List UInt8) : numV l < 256 ^ l.length := by
 have gen : ∀ (l : List UInt8) (a n : Nat), a < 256 ^ n → l.foldl (fun a b => a * 256 + b.toNat) a < 256 ^ (n + l.length) := by
  intro l
  induction l with
  | nil => intro a n h; simpa using h
  | cons x r ih =>
   intro a n h; have hx : x.toNat < 256 := x.toNat_lt; have h2 := ih (a * 256 + x.toNat) (n + 1) (by rw [Nat.pow_succ]; omega); rw [List.foldl_cons, List.length_cons, show n + (r.length + 1) = n + 1 + r.length by omega]; exact h2
 have h := gen l 0 0 (by decide)
 simpa [numV] using h
theorem numV_step (t : ByteArray) (m : Nat) (hm : m < t.size) (h2 : t.size ≤ 2) :
  numV (t.data.toList.take m) < 256 ∧ numV (t.data.toList.take (m + 1)) = numV (t.data.toList.take m) * 256 + (t.data[m]'hm).toNat := by
 constructor
 ·have h := numV_lt (t.data.toList.take m); have hl : (t.data.toList.take m).length ≤ 1 := by rw [List.length_take]; omega
  have := Nat.pow_le_pow_right (n := 256) (by decide) hl; omega
 ·rw [List.take_succ_eq_append_getElem (by simpa using hm), numV_snoc]; simp
theorem numU32_step (t : ByteArray) (m : Nat) (hm : m < t.size) (h2 : t.size ≤ 2) :
  bits .or .u32 ((numV (t.data.toList.take m) : Int) * 256 % 4294967296) (((t.data[m]'hm).toNat : Int) % 4294967296) = (numV (t.data.toList.take (m + 1)) : Int) := by
 obtain ⟨h1, h3⟩ := numV_step t m hm h2; have h4 := (t.data[m]'hm).toNat_lt; rw [Int.emod_eq_of_lt (by omega) (by omega), Int.emod_eq_of_lt (by omega) (by omega), bitsOrU32 _ _ (by omega) (by omega), h3]
set_option maxHeartbeats 1000000 in
theorem numFlag_any (b : Nat) (r : ByteArray) (bad : Bool) (k : Nat) (hk : k ≤ 2) (w : World) (h : Rdr b r bad w) :
  Calls Tryd.prog 86 #[.pointer (some ⟨b, 0, none⟩), .int .i64 k] w fun e w' => e = .returned (.int .u32 (numV (textR r bad k).1.data.toList)) ∧ Rdr b (textR r bad k).2.1 (textR r bad k).2.2 w' ∧ w.grownBy w' (some b) := by
 have hlt := h.lt; have hsz : (textR r bad k).1.size ≤ 2 := by
  unfold textR
  split
  ·exact Nat.zero_le _
  ·simp; omega
 have H := Lib.hid h; clear h; generalize ht : (textR r bad k).1 = t at hsz ⊢; have HT := Lib.hid ht; clear ht
 go_enter Tryd.func86, Tryd.ntmps86
 go_wp2_with (first | (go_at_call 87; refine (text_any b r bad k _ H.out).mono ?_; rintro e wa ⟨rfl, hRa, hga⟩; rw [HT.out]; have hza := hga.size) | (((with_reducible refine gate_dst (N := 11) rfl ?_); refine wpList_bytes wa.heap.size rfl 9 47 5 _ rfl Tryd.underlying9 Tryd.underlying47 Tryd.underlying5 t rfl (by first | assumption | (simp; omega) | omega) (by unfold maxLen; omega) ?_; rintro v_wb wb ho_wb hv_wb hb_wb; obtain ⟨hc_wb, hf_wb⟩ := bcell hb_wb; have hz_wb := hb_wb.size; (try simp only [World.size_alloc, World.size_setCell, World.size_drew] at hz_wb); (try simp only [World.size_alloc, World.size_setCell, World.size_drew] at hc_wb); (try simp only [World.size_alloc, World.size_setCell, World.size_drew] at hf_wb); skip); obtain ⟨A, c, rfl⟩ := ho_wb.form))
 have HO := Lib.hid ho_wb; clear ho_wb; have htl : t.data.toList.length = t.size := rfl; have HTL := Lib.hid htl; clear htl
 go_loopw [5, 13] (fun v i wr => ∃ m : Nat, m ≤ t.size ∧ i = .int .i64 m ∧ v = .int .u32 (numV (t.data.toList.take m)) ∧ wr = wb) (fun _ i _ => t.size - (intOf i).toNat)
 case atStart => exact ⟨0, Nat.zero_le _, rfl, rfl, rfl⟩
 case round =>
  obtain ⟨m, hm, rfl, rfl, rfl⟩ := hrel
  by_cases hlt2 : m < t.size
  ·obtain ⟨g, cap, hv, h1, h2, h3, hcell, hfr⟩ := (HO.out).at (by rw [HTL.out]; omega)
   cases hv
   have hc := hcell m (by rw [HTL.out]; omega); rw [bcs_get _ _ (by rw [HTL.out]; omega)] at hc; clear hcell hfr
   go_wp2
   refine ⟨⟨m + 1, by omega, by go_num, ?_, trivial⟩, by simp [intOf]; omega⟩; rw [numU32_step t m hlt2 hsz]
  ·have hm2 : m = t.size := by omega
   subst hm2; clear hlt2
   go_wp2
   go_ret
   refine ⟨?_, hRa.below hb_wb, Lib.grownBy_below hga hb_wb⟩; rw [List.take_of_length_le (by rw [HTL.out]; omega)]; rfl
theorem wrap64_small (n : Nat) (h : n < 9223372036854775808) : wrap64 (n : Int) = n := by unfold wrap64; omega
theorem numI64_step (t : ByteArray) (m : Nat) (hm : m < t.size) (h2 : t.size ≤ 2) :
  bits .or .i64 (wrap64 ((numV (t.data.toList.take m) : Int) * 256)) (wrap64 ((t.data[m]'hm).toNat : Int)) = (numV (t.data.toList.take (m + 1)) : Int) := by
 obtain ⟨h1, h3⟩ := numV_step t m hm h2; have h4 := (t.data[m]'hm).toNat_lt; rw [show ((numV (t.data.toList.take m) : Int) * 256) = ((numV (t.data.toList.take m) * 256 : Nat) : Int) by simp, wrap64_small _ (by omega), wrap64_small _ (by omega), Int.natCast_mul]; rw [show ((256 : Nat) : Int) = 256 from rfl, bitsOrI64 _ _ (by omega) (by omega), h3]
set_option maxHeartbeats 1000000 in
theorem numInt_any (b : Nat) (r : ByteArray) (bad : Bool) (k : Nat) (hk : k ≤ 2) (w : World) (h : Rdr b r bad w) :
  Calls Tryd.prog 126 #[.pointer (some ⟨b, 0, none⟩), .int .i64 k] w fun e w' => e = .returned (.int .i64 (numV (textR r bad k).1.data.toList)) ∧ Rdr b (textR r bad k).2.1 (textR r bad k).2.2 w' ∧ w.grownBy w' (some b) := by
 have hlt := h.lt; have hsz : (textR r bad k).1.size ≤ 2 := by
  unfold textR
  split
  ·exact Nat.zero_le _
  ·simp; omega
 have H := Lib.hid h; clear h; generalize ht : (textR r bad k).1 = t at hsz ⊢; have HT := Lib.hid ht; clear ht
 go_enter Tryd.func126, Tryd.ntmps126
 go_wp2_with (first | (go_at_call 87; refine (text_any b r bad k _ H.out).mono ?_; rintro e wa ⟨rfl, hRa, hga⟩; rw [HT.out]; have hza := hga.size) | (((with_reducible refine gate_dst (N := 11) rfl ?_); refine wpList_bytes wa.heap.size rfl 9 47 5 _ rfl Tryd.underlying9 Tryd.underlying47 Tryd.underlying5 t rfl (by first | assumption | (simp; omega) | omega) (by unfold maxLen; omega) ?_; rintro v_wb wb ho_wb hv_wb hb_wb; obtain ⟨hc_wb, hf_wb⟩ := bcell hb_wb; have hz_wb := hb_wb.size; (try simp only [World.size_alloc, World.size_setCell, World.size_drew] at hz_wb); (try simp only [World.size_alloc, World.size_setCell, World.size_drew] at hc_wb); (try simp only [World.size_alloc, World.size_setCell, World.size_drew] at hf_wb); skip); obtain ⟨A, c, rfl⟩ := ho_wb.form))
 have HO := Lib.hid ho_wb; clear ho_wb; have htl : t.data.toList.length = t.size := rfl; have HTL := Lib.hid htl; clear htl
 go_loopw [5, 13] (fun v i wr => ∃ m : Nat, m ≤ t.size ∧ i = .int .i64 m ∧ v = .int .i64 (numV (t.data.toList.take m)) ∧ wr = wb) (fun _ i _ => t.size - (intOf i).toNat)
 case atStart => exact ⟨0, Nat.zero_le _, rfl, rfl, rfl⟩
 case round =>
  obtain ⟨m, hm, rfl, rfl, rfl⟩ := hrel
  by_cases hlt2 : m < t.size
  ·obtain ⟨g, cap, hv, h1, h2, h3, hcell, hfr⟩ := (HO.out).at (by rw [HTL.out]; omega)
   cases hv
   have hc := hcell m (by rw [HTL.out]; omega); rw [bcs_get _ _ (by rw [HTL.out]; omega)] at hc; clear hcell hfr
   go_wp2
   refine ⟨⟨m + 1, by omega, by go_num, ?_, trivial⟩, by simp [intOf]; omega⟩; rw [numI64_step t m hlt2 hsz]
  ·have hm2 : m = t.size := by omega
   subst hm2; clear hlt2
   go_wp2
   go_ret
   refine ⟨?_, hRa.below hb_wb, Lib.grownBy_below hga hb_wb⟩; rw [List.take_of_length_le (by rw [HTL.out]; omega)]; rfl
def sizedR (r : ByteArray) (bad : Bool) : ByteArray × ByteArray × Bool :=
 textR (textR r bad 2).2.1 (textR r bad 2).2.2 (numV (textR r bad 2).1.data.toList)
set_option maxHeartbeats 400000 in
theorem rsized_any (b : Nat) (r : ByteArray) (bad : Bool) (w : World) (h : Rdr b r bad w) :
  Calls Tryd.prog 85 #[.pointer (some ⟨b, 0, none⟩)] w fun e w' => e = .returned (.string (sizedR r bad).1) ∧ Rdr b (sizedR r bad).2.1 (sizedR r bad).2.2 w' ∧ w.grownBy w' (some b) := by
 have H := Lib.hid h; clear h
 go_enter Tryd.func85, Tryd.ntmps85
 go_wp2_with (first | (go_at_call 126; refine (numInt_any b r bad 2 (by omega) _ H.out).mono ?_; rintro e wa ⟨rfl, hRa, hga⟩) | (go_at_call 87; refine (text_any b _ _ _ _ hRa).mono ?_; rintro e wc ⟨rfl, hRc, hgc⟩))
 go_ret
 exact ⟨rfl, hRc, hga.trans hgc⟩
end Go.Proofs.YtonbmghgbblifaaDoor
end
section
namespace Go.Proofs.YtonbmghgbblifaaDoor
open RowKit
set_option linter.all false
theorem gcell {b : Nat} {W w1 : World} (hg : W.grownBy w1 (some b)) : (∀ k o, k < W.heap.size → k ≠ b → w1.cell? ⟨k, o, none⟩ = W.cell? ⟨k, o, none⟩) ∧ (∀ k o, k < W.heap.size → k ≠ b → w1.frozen? ⟨k, o, none⟩ = W.frozen? ⟨k, o, none⟩) :=
 ⟨fun k o h hn => World.cell?_of_block (a := ⟨k, o, none⟩) (hg.block k h (by simpa using hn)), fun k o h hn => World.frozen?_of_block (a := ⟨k, o, none⟩) (hg.block k h (by simpa using hn))⟩
theorem below_rdr {b : Nat} {a w w' : World} (h : Below a.heap.size a w) (hg : w.grownBy w' (some b)) (hb : a.heap.size ≤ b) : Below a.heap.size a w' := h.grown hg h.size fun k hk => by cases hk; exact hb
def nodeV : Option (ByteArray × ByteArray × ByteArray × ByteArray) → Value
 | some (a, b, c, d) => .tuple #[.agg #[.string a, .string b, .string c, .string d], .bool true]
 | none => .tuple #[.agg #[.string ⟨#[]⟩, .string ⟨#[]⟩, .string ⟨#[]⟩, .string ⟨#[]⟩], .bool false]
def optText (p : Bool) (t : ByteArray × ByteArray × Bool) (x : Int) : ByteArray × ByteArray × Bool := if p = true then textR t.2.1 t.2.2 x else (⟨#[]⟩, t.2.1, t.2.2)
def decI (s : ByteArray) (x : Int) : Option (ByteArray × ByteArray × ByteArray × ByteArray) :=
 let K := sizedR s false
 let V := sizedR K.2.1 K.2.2
 let F := textR V.2.1 V.2.2 1
 let f := numV F.1.data.toList
 let L := optText (decide (f % 2 = 1)) F x
 let R := optText (decide (f / 2 % 2 = 1)) L x
 if isW x = true ∧ R.2.2 = false ∧ R.2.1.size = 0 ∧ f ≤ 3 ∧ nodeOk K.1 V.1 L.1 R.1 x = true then some (K.1, V.1, L.1, R.1) else none
theorem bitsAnd1 : ∀ f : Nat, f < 256 → bits .and .u32 (f : Int) 1 = ((f % 2 : Nat) : Int) := by decide +kernel
theorem bitsAnd2 : ∀ f : Nat, f < 256 → bits .and .u32 (f : Int) 2 = ((f / 2 % 2 * 2 : Nat) : Int) := by decide +kernel
theorem text1_lt (r : ByteArray) (bad : Bool) : numV (textR r bad 1).1.data.toList < 256 := by
 have h := numV_lt (textR r bad 1).1.data.toList; have h2 : (textR r bad 1).1.data.toList.length ≤ 1 := by
  unfold textR
  split
  ·exact Nat.zero_le _
  ·simp; omega
 have := Nat.pow_le_pow_right (n := 256) (by decide) h2; omega
theorem Rdr.fresh2 {b : Nat} (s : ByteArray) (w : World) (h : b = w.heap.size) : Rdr b s false (w.alloc (.cells #[.string s, .bool false] 137)) := by
 subst h; exact Rdr.fresh s w
theorem Rdr.alloc2 {b : Nat} {r : ByteArray} {bad : Bool} {w : World} (h : Rdr b r bad w) (o : Obj) : Rdr b r bad (w.alloc o) := h.below ((Below.refl _ _).alloc (Nat.le_refl _) o)
theorem Rdr.setFar {b : Nat} {r : ByteArray} {bad : Bool} {w : World} (h : Rdr b r bad w) (p : Addr) (v : Value) (hn : b ≠ p.block) : Rdr b r bad (w.setCell p v) := (Below.heap_setCell w p v b hn).trans h
theorem numFlag1_any (b : Nat) (r : ByteArray) (bad : Bool) (w : World) (h : Rdr b r bad w) :
  Calls Tryd.prog 86 #[.pointer (some ⟨b, 0, none⟩), .int .i64 1] w fun e w' => e = .returned (.int .u32 (numV (textR r bad 1).1.data.toList)) ∧ Rdr b (textR r bad 1).2.1 (textR r bad 1).2.2 w' ∧ w.grownBy w' (some b) := numFlag_any b r bad 1 (by omega) w h
set_option maxHeartbeats 16000000 in
theorem decodeNode_any (s : ByteArray) (x : Int) (w : World) :
  Calls Tryd.prog 30 #[.string s, .int .i64 x] w fun e w' => e = .returned (nodeV (decI s x)) ∧ Below w.heap.size w w' := by
 by_cases hw : isW x = true
 ·unfold decI; have hf := text1_lt (sizedR (sizedR s false).2.1 (sizedR s false).2.2).2.1 (sizedR (sizedR s false).2.1 (sizedR s false).2.2).2.2; obtain ⟨k, rk, bk, hk⟩ : ∃ k rk bk, sizedR s false = (k, rk, bk) := ⟨_, _, _, rfl⟩
  rw [hk] at hf ⊢; have HK := Lib.hid hk; clear hk; dsimp only at hf ⊢; obtain ⟨v, rv, bv, hv⟩ : ∃ v rv bv, sizedR rk bk = (v, rv, bv) := ⟨_, _, _, rfl⟩
  rw [hv] at hf ⊢; have HV := Lib.hid hv; clear hv; dsimp only at hf ⊢; generalize hfe : numV (textR rv bv 1).1.data.toList = f at hf ⊢; obtain ⟨ft, rf, bf, hft⟩ : ∃ ft rf bf, textR rv bv 1 = (ft, rf, bf) := ⟨_, _, _, rfl⟩
  rw [hft] at hfe ⊢; have HF := Lib.hid hft; clear hft; dsimp only at hfe; have HFE := Lib.hid hfe; clear hfe; have hb1 := bitsAnd1 f hf; have hb2 := bitsAnd2 f hf; clear hf; obtain ⟨l, rl, bl, hl⟩ : ∃ l rl bl, optText (decide (f % 2 = 1)) (ft, rf, bf) x = (l, rl, bl) := ⟨_, _, _, rfl⟩
  rw [hl]; obtain ⟨r, rr, br, hr⟩ : ∃ r rr br, optText (decide (f / 2 % 2 = 1)) (l, rl, bl) x = (r, rr, br) := ⟨_, _, _, rfl⟩
  rw [hr]; dsimp only; have hcase : br = true ∨ (br = false ∧ rr.toList.isEmpty = false) ∨ (br = false ∧ rr.toList.isEmpty = true ∧ 3 < (f : Int)) ∨ (br = false ∧ rr.toList.isEmpty = true ∧ ¬ 3 < (f : Int) ∧ nodeOk k v l r x = false) ∨ (br = false ∧ rr.toList.isEmpty = true ∧ ¬ 3 < (f : Int) ∧ nodeOk k v l r x = true) := by
   cases br <;> cases rr.toList.isEmpty <;> cases nodeOk k v l r x <;> simp <;> omega
  have hgoal : ∀ z, (if isW x = true ∧ br = false ∧ rr.size = 0 ∧ f ≤ 3 ∧ nodeOk k v l r x = true then some (k, v, l, r) else none) = z → (if isW x = true ∧ br = false ∧ rr.size = 0 ∧ f ≤ 3 ∧ nodeOk k v l r x = true then some (k, v, l, r) else none) = z := fun _ h => h
  clear hgoal; obtain ⟨z, hz⟩ : ∃ z, (if isW x = true ∧ br = false ∧ rr.size = 0 ∧ f ≤ 3 ∧ nodeOk k v l r x = true then some (k, v, l, r) else none) = z := ⟨_, rfl⟩
  rw [hz]; have HZ := Lib.hid hz; clear hz; have HSZ := Lib.hid (isEmpty_size rr); have h01 : f % 2 = 0 ∨ f % 2 = 1 := by omega
  have h02 : f / 2 % 2 = 0 ∨ f / 2 % 2 = 1 := by omega
  rcases h01 with h1 | h1
  all_goals
   rcases h02 with h2 | h2
   all_goals
    rw [h1] at hb1; rw [h2] at hb2; simp only [h1, h2, optText, decide_true, if_true, Nat.zero_ne_one, decide_false, Bool.false_eq_true, if_false, Prod.mk.injEq] at hl hr; have HL := Lib.hid hl; clear hl; have HR := Lib.hid hr; clear hr; clear h1 h2
  --CASES
  --CASES
  --CASES
  --CASES
  ·obtain ⟨rfl, rfl, rfl⟩ := HL.out; obtain ⟨rfl, rfl, rfl⟩ := HR.out
   rcases hcase with h | ⟨h, h3⟩ | ⟨h, h3, h4⟩ | ⟨h, h3, h4, h5⟩ | ⟨h, h3, h4, h5⟩
   all_goals
    subst h
    go_enter Tryd.func30, Tryd.ntmps30
    go_wp2_with (first | (go_at_call 66; refine (isWidth_any _ _).mono ?_; rintro e wq ⟨rfl, rfl⟩) | (go_at_call 85; refine (rsized_any _ _ _ _ zq_39).mono ?_; rintro e wr ⟨rfl, hR, hg⟩; (first | rw [HK.out] at hR ⊢ | rw [HV.out] at hR ⊢); dsimp only at hR ⊢; (have hz := hg.size; (try simp only [World.size_alloc, World.size_setCell, World.size_drew] at hz); obtain ⟨gc, gf⟩ := gcell hg; (try simp only [World.size_alloc, World.size_setCell, World.size_drew] at gc); (try simp only [World.size_alloc, World.size_setCell, World.size_drew] at gf); have rc := hR.c0; have rd := hR.c1; have rf := hR.f 0; have rg := hR.f 1); have q0 : w.heap.size < wr.heap.size := (by omega); have q1 : wr.heap.size ≠ w.heap.size + 1 := (by omega); have q3 : wr.heap.size ≠ w.heap.size := (by omega); have q4 : w.heap.size ≠ wr.heap.size := (by omega)) | (go_at_call 86; refine (numFlag1_any _ _ _ _ zq_27).mono ?_; rintro e wf ⟨rfl, hR, hg⟩; rw [HF.out] at hR ⊢; dsimp only at hR ⊢; rw [HFE.out]; (have hz := hg.size; (try simp only [World.size_alloc, World.size_setCell, World.size_drew] at hz); obtain ⟨gc, gf⟩ := gcell hg; (try simp only [World.size_alloc, World.size_setCell, World.size_drew] at gc); (try simp only [World.size_alloc, World.size_setCell, World.size_drew] at gf); have rc := hR.c0; have rd := hR.c1; have rf := hR.f 0; have rg := hR.f 1); have q0 : w.heap.size < wf.heap.size := (by omega); have q2 : wr.heap.size < wf.heap.size := (by omega)) | (go_at_call 87; refine (text_any _ _ _ _ _ zq_27).mono ?_; rintro e wt ⟨rfl, hR, hg⟩; (first | rw [HL.out] at hR ⊢ | rw [HR.out] at hR ⊢); dsimp only at hR ⊢; (have hz := hg.size; (try simp only [World.size_alloc, World.size_setCell, World.size_drew] at hz); obtain ⟨gc, gf⟩ := gcell hg; (try simp only [World.size_alloc, World.size_setCell, World.size_drew] at gc); (try simp only [World.size_alloc, World.size_setCell, World.size_drew] at gf); have rc := hR.c0; have rd := hR.c1; have rf := hR.f 0; have rg := hR.f 1); have q0 : w.heap.size < wt.heap.size := (by omega); have q2 : wr.heap.size < wt.heap.size := (by omega)) | (go_at_call 76; refine (nodeValid_any _ _ _ _ _ _).mono ?_; rintro e wy ⟨rfl, hby⟩; obtain ⟨hcy, hfy⟩ := bcell hby; have hzy := hby.size; (try simp only [World.size_alloc, World.size_setCell, World.size_drew] at hzy); (try simp only [World.size_alloc, World.size_setCell, World.size_drew] at hcy); (try simp only [World.size_alloc, World.size_setCell, World.size_drew] at hfy); have q0 : w.heap.size < wy.heap.size := (by omega); have q2 : wr.heap.size < wy.heap.size := (by omega)))
   ·all_goals
     have t0 : wf.cell? ⟨w.heap.size, 0, none⟩ = some (.string ⟨#[]⟩) := by go_simp
     have t1 : wf.cell? ⟨w.heap.size, 1, none⟩ = some (.string ⟨#[]⟩) := by go_simp
     have t2 : wf.cell? ⟨w.heap.size, 2, none⟩ = some (.string ⟨#[]⟩) := by go_simp
     have t3 : wf.cell? ⟨w.heap.size, 3, none⟩ = some (.string ⟨#[]⟩) := by go_simp
     refine bodyPost_ret (v := .tuple #[.agg #[.string ⟨#[]⟩, .string ⟨#[]⟩, .string ⟨#[]⟩, .string ⟨#[]⟩], .bool false]) zq_22 rfl ⟨?_, ?_⟩
     ·have e : z = none := by rw [← HZ.out]; exact if_neg (fun q => by simp at q)
      rw [e]; rfl
     ·(repeat' (first | exact Below.refl _ _ | (with_reducible assumption) | (with_reducible refine Below.setCell ?_ zq_12 _) | refine below_rdr ?_ (by assumption) (by omega) | refine below_then ?_ (by assumption) | (with_reducible refine below_new2 ?_ _)))
   ·all_goals
     have t0 : wf.cell? ⟨w.heap.size, 0, none⟩ = some (.string ⟨#[]⟩) := by go_simp
     have t1 : wf.cell? ⟨w.heap.size, 1, none⟩ = some (.string ⟨#[]⟩) := by go_simp
     have t2 : wf.cell? ⟨w.heap.size, 2, none⟩ = some (.string ⟨#[]⟩) := by go_simp
     have t3 : wf.cell? ⟨w.heap.size, 3, none⟩ = some (.string ⟨#[]⟩) := by go_simp
     refine bodyPost_ret (v := .tuple #[.agg #[.string ⟨#[]⟩, .string ⟨#[]⟩, .string ⟨#[]⟩, .string ⟨#[]⟩], .bool false]) zq_22 rfl ⟨?_, ?_⟩
     ·have e : z = none := by rw [← HZ.out]; exact if_neg (fun q => by have e := HSZ.out; rw [h3, q.2.2.1] at e; simp at e)
      rw [e]; rfl
     ·(repeat' (first | exact Below.refl _ _ | (with_reducible assumption) | (with_reducible refine Below.setCell ?_ zq_12 _) | refine below_rdr ?_ (by assumption) (by omega) | refine below_then ?_ (by assumption) | (with_reducible refine below_new2 ?_ _)))
   ·all_goals
     have t0 : wf.cell? ⟨w.heap.size, 0, none⟩ = some (.string ⟨#[]⟩) := by go_simp
     have t1 : wf.cell? ⟨w.heap.size, 1, none⟩ = some (.string ⟨#[]⟩) := by go_simp
     have t2 : wf.cell? ⟨w.heap.size, 2, none⟩ = some (.string ⟨#[]⟩) := by go_simp
     have t3 : wf.cell? ⟨w.heap.size, 3, none⟩ = some (.string ⟨#[]⟩) := by go_simp
     refine bodyPost_ret (v := .tuple #[.agg #[.string ⟨#[]⟩, .string ⟨#[]⟩, .string ⟨#[]⟩, .string ⟨#[]⟩], .bool false]) zq_22 rfl ⟨?_, ?_⟩
     ·have e : z = none := by rw [← HZ.out]; exact if_neg (fun q => by have := q.2.2.2.1; omega)
      rw [e]; rfl
     ·(repeat' (first | exact Below.refl _ _ | (with_reducible assumption) | (with_reducible refine Below.setCell ?_ zq_12 _) | refine below_rdr ?_ (by assumption) (by omega) | refine below_then ?_ (by assumption) | (with_reducible refine below_new2 ?_ _)))
   ·all_goals
     have t0 : wy.cell? ⟨w.heap.size, 0, none⟩ = some (.string ⟨#[]⟩) := by go_simp
     have t1 : wy.cell? ⟨w.heap.size, 1, none⟩ = some (.string ⟨#[]⟩) := by go_simp
     have t2 : wy.cell? ⟨w.heap.size, 2, none⟩ = some (.string ⟨#[]⟩) := by go_simp
     have t3 : wy.cell? ⟨w.heap.size, 3, none⟩ = some (.string ⟨#[]⟩) := by go_simp
     refine bodyPost_ret (v := .tuple #[.agg #[.string ⟨#[]⟩, .string ⟨#[]⟩, .string ⟨#[]⟩, .string ⟨#[]⟩], .bool false]) zq_22 rfl ⟨?_, ?_⟩
     ·have e : z = none := by rw [← HZ.out]; exact if_neg (fun q => by rw [h5] at q; simp at q)
      rw [e]; rfl
     ·(repeat' (first | exact Below.refl _ _ | (with_reducible assumption) | (with_reducible refine Below.setCell ?_ zq_12 _) | refine below_rdr ?_ (by assumption) (by omega) | refine below_then ?_ (by assumption) | (with_reducible refine below_new2 ?_ _)))
   ·all_goals
     have t0 : wy.cell? ⟨w.heap.size, 0, none⟩ = some (.string ⟨#[]⟩) := by go_simp
     have t1 : wy.cell? ⟨w.heap.size, 1, none⟩ = some (.string ⟨#[]⟩) := by go_simp
     have t2 : wy.cell? ⟨w.heap.size, 2, none⟩ = some (.string ⟨#[]⟩) := by go_simp
     have t3 : wy.cell? ⟨w.heap.size, 3, none⟩ = some (.string ⟨#[]⟩) := by go_simp
     refine bodyPost_ret (v := .tuple #[.agg #[.string k, .string v, .string ⟨#[]⟩, .string ⟨#[]⟩], .bool true]) zq_22 rfl ⟨?_, ?_⟩
     ·have e : z = some (k, v, ⟨#[]⟩, ⟨#[]⟩) := by rw [← HZ.out]; have e := HSZ.out; rw [h3] at e; have e2 := of_decide_eq_true e.symm; have e3 : f ≤ 3 := (by omega); exact if_pos (by simp [hw, e2, h5, e3])
      rw [e]; rfl
     ·(repeat' (first | exact Below.refl _ _ | (with_reducible assumption) | (with_reducible refine Below.setCell ?_ zq_12 _) | refine below_rdr ?_ (by assumption) (by omega) | refine below_then ?_ (by assumption) | (with_reducible refine below_new2 ?_ _)))
  ·obtain ⟨rfl, rfl, rfl⟩ := HL.out
   rcases hcase with h | ⟨h, h3⟩ | ⟨h, h3, h4⟩ | ⟨h, h3, h4, h5⟩ | ⟨h, h3, h4, h5⟩
   all_goals
    subst h
    go_enter Tryd.func30, Tryd.ntmps30
    go_wp2_with (first | (go_at_call 66; refine (isWidth_any _ _).mono ?_; rintro e wq ⟨rfl, rfl⟩) | (go_at_call 85; refine (rsized_any _ _ _ _ zq_39).mono ?_; rintro e wr ⟨rfl, hR, hg⟩; (first | rw [HK.out] at hR ⊢ | rw [HV.out] at hR ⊢); dsimp only at hR ⊢; (have hz := hg.size; (try simp only [World.size_alloc, World.size_setCell, World.size_drew] at hz); obtain ⟨gc, gf⟩ := gcell hg; (try simp only [World.size_alloc, World.size_setCell, World.size_drew] at gc); (try simp only [World.size_alloc, World.size_setCell, World.size_drew] at gf); have rc := hR.c0; have rd := hR.c1; have rf := hR.f 0; have rg := hR.f 1); have q0 : w.heap.size < wr.heap.size := (by omega); have q1 : wr.heap.size ≠ w.heap.size + 1 := (by omega); have q3 : wr.heap.size ≠ w.heap.size := (by omega); have q4 : w.heap.size ≠ wr.heap.size := (by omega)) | (go_at_call 86; refine (numFlag1_any _ _ _ _ zq_27).mono ?_; rintro e wf ⟨rfl, hR, hg⟩; rw [HF.out] at hR ⊢; dsimp only at hR ⊢; rw [HFE.out]; (have hz := hg.size; (try simp only [World.size_alloc, World.size_setCell, World.size_drew] at hz); obtain ⟨gc, gf⟩ := gcell hg; (try simp only [World.size_alloc, World.size_setCell, World.size_drew] at gc); (try simp only [World.size_alloc, World.size_setCell, World.size_drew] at gf); have rc := hR.c0; have rd := hR.c1; have rf := hR.f 0; have rg := hR.f 1); have q0 : w.heap.size < wf.heap.size := (by omega); have q2 : wr.heap.size < wf.heap.size := (by omega)) | (go_at_call 87; refine (text_any _ _ _ _ _ zq_27).mono ?_; rintro e wt ⟨rfl, hR, hg⟩; (first | rw [HL.out] at hR ⊢ | rw [HR.out] at hR ⊢); dsimp only at hR ⊢; (have hz := hg.size; (try simp only [World.size_alloc, World.size_setCell, World.size_drew] at hz); obtain ⟨gc, gf⟩ := gcell hg; (try simp only [World.size_alloc, World.size_setCell, World.size_drew] at gc); (try simp only [World.size_alloc, World.size_setCell, World.size_drew] at gf); have rc := hR.c0; have rd := hR.c1; have rf := hR.f 0; have rg := hR.f 1); have q0 : w.heap.size < wt.heap.size := (by omega); have q2 : wr.heap.size < wt.heap.size := (by omega)) | (go_at_call 76; refine (nodeValid_any _ _ _ _ _ _).mono ?_; rintro e wy ⟨rfl, hby⟩; obtain ⟨hcy, hfy⟩ := bcell hby; have hzy := hby.size; (try simp only [World.size_alloc, World.size_setCell, World.size_drew] at hzy); (try simp only [World.size_alloc, World.size_setCell, World.size_drew] at hcy); (try simp only [World.size_alloc, World.size_setCell, World.size_drew] at hfy); have q0 : w.heap.size < wy.heap.size := (by omega); have q2 : wr.heap.size < wy.heap.size := (by omega)))
   ·all_goals
     have t0 : wt.cell? ⟨w.heap.size, 0, none⟩ = some (.string ⟨#[]⟩) := by go_simp
     have t1 : wt.cell? ⟨w.heap.size, 1, none⟩ = some (.string ⟨#[]⟩) := by go_simp
     have t2 : wt.cell? ⟨w.heap.size, 2, none⟩ = some (.string ⟨#[]⟩) := by go_simp
     have t3 : wt.cell? ⟨w.heap.size, 3, none⟩ = some (.string ⟨#[]⟩) := by go_simp
     refine bodyPost_ret (v := .tuple #[.agg #[.string ⟨#[]⟩, .string ⟨#[]⟩, .string ⟨#[]⟩, .string ⟨#[]⟩], .bool false]) zq_22 rfl ⟨?_, ?_⟩
     ·have e : z = none := by rw [← HZ.out]; exact if_neg (fun q => by simp at q)
      rw [e]; rfl
     ·(repeat' (first | exact Below.refl _ _ | (with_reducible assumption) | (with_reducible refine Below.setCell ?_ zq_12 _) | refine below_rdr ?_ (by assumption) (by omega) | refine below_then ?_ (by assumption) | (with_reducible refine below_new2 ?_ _)))
   ·all_goals
     have t0 : wt.cell? ⟨w.heap.size, 0, none⟩ = some (.string ⟨#[]⟩) := by go_simp
     have t1 : wt.cell? ⟨w.heap.size, 1, none⟩ = some (.string ⟨#[]⟩) := by go_simp
     have t2 : wt.cell? ⟨w.heap.size, 2, none⟩ = some (.string ⟨#[]⟩) := by go_simp
     have t3 : wt.cell? ⟨w.heap.size, 3, none⟩ = some (.string ⟨#[]⟩) := by go_simp
     refine bodyPost_ret (v := .tuple #[.agg #[.string ⟨#[]⟩, .string ⟨#[]⟩, .string ⟨#[]⟩, .string ⟨#[]⟩], .bool false]) zq_22 rfl ⟨?_, ?_⟩
     ·have e : z = none := by rw [← HZ.out]; exact if_neg (fun q => by have e := HSZ.out; rw [h3, q.2.2.1] at e; simp at e)
      rw [e]; rfl
     ·(repeat' (first | exact Below.refl _ _ | (with_reducible assumption) | (with_reducible refine Below.setCell ?_ zq_12 _) | refine below_rdr ?_ (by assumption) (by omega) | refine below_then ?_ (by assumption) | (with_reducible refine below_new2 ?_ _)))
   ·all_goals
     have t0 : wt.cell? ⟨w.heap.size, 0, none⟩ = some (.string ⟨#[]⟩) := by go_simp
     have t1 : wt.cell? ⟨w.heap.size, 1, none⟩ = some (.string ⟨#[]⟩) := by go_simp
     have t2 : wt.cell? ⟨w.heap.size, 2, none⟩ = some (.string ⟨#[]⟩) := by go_simp
     have t3 : wt.cell? ⟨w.heap.size, 3, none⟩ = some (.string ⟨#[]⟩) := by go_simp
     refine bodyPost_ret (v := .tuple #[.agg #[.string ⟨#[]⟩, .string ⟨#[]⟩, .string ⟨#[]⟩, .string ⟨#[]⟩], .bool false]) zq_22 rfl ⟨?_, ?_⟩
     ·have e : z = none := by rw [← HZ.out]; exact if_neg (fun q => by have := q.2.2.2.1; omega)
      rw [e]; rfl
     ·(repeat' (first | exact Below.refl _ _ | (with_reducible assumption) | (with_reducible refine Below.setCell ?_ zq_12 _) | refine below_rdr ?_ (by assumption) (by omega) | refine below_then ?_ (by assumption) | (with_reducible refine below_new2 ?_ _)))
   ·all_goals
     have t0 : wy.cell? ⟨w.heap.size, 0, none⟩ = some (.string ⟨#[]⟩) := by go_simp
     have t1 : wy.cell? ⟨w.heap.size, 1, none⟩ = some (.string ⟨#[]⟩) := by go_simp
     have t2 : wy.cell? ⟨w.heap.size, 2, none⟩ = some (.string ⟨#[]⟩) := by go_simp
     have t3 : wy.cell? ⟨w.heap.size, 3, none⟩ = some (.string ⟨#[]⟩) := by go_simp
     refine bodyPost_ret (v := .tuple #[.agg #[.string ⟨#[]⟩, .string ⟨#[]⟩, .string ⟨#[]⟩, .string ⟨#[]⟩], .bool false]) zq_22 rfl ⟨?_, ?_⟩
     ·have e : z = none := by rw [← HZ.out]; exact if_neg (fun q => by rw [h5] at q; simp at q)
      rw [e]; rfl
     ·(repeat' (first | exact Below.refl _ _ | (with_reducible assumption) | (with_reducible refine Below.setCell ?_ zq_12 _) | refine below_rdr ?_ (by assumption) (by omega) | refine below_then ?_ (by assumption) | (with_reducible refine below_new2 ?_ _)))
   ·all_goals
     have t0 : wy.cell? ⟨w.heap.size, 0, none⟩ = some (.string ⟨#[]⟩) := by go_simp
     have t1 : wy.cell? ⟨w.heap.size, 1, none⟩ = some (.string ⟨#[]⟩) := by go_simp
     have t2 : wy.cell? ⟨w.heap.size, 2, none⟩ = some (.string ⟨#[]⟩) := by go_simp
     have t3 : wy.cell? ⟨w.heap.size, 3, none⟩ = some (.string ⟨#[]⟩) := by go_simp
     refine bodyPost_ret (v := .tuple #[.agg #[.string k, .string v, .string ⟨#[]⟩, .string r], .bool true]) zq_22 rfl ⟨?_, ?_⟩
     ·have e : z = some (k, v, ⟨#[]⟩, r) := by rw [← HZ.out]; have e := HSZ.out; rw [h3] at e; have e2 := of_decide_eq_true e.symm; have e3 : f ≤ 3 := (by omega); exact if_pos (by simp [hw, e2, h5, e3])
      rw [e]; rfl
     ·(repeat' (first | exact Below.refl _ _ | (with_reducible assumption) | (with_reducible refine Below.setCell ?_ zq_12 _) | refine below_rdr ?_ (by assumption) (by omega) | refine below_then ?_ (by assumption) | (with_reducible refine below_new2 ?_ _)))
  ·obtain ⟨rfl, rfl, rfl⟩ := HR.out
   rcases hcase with h | ⟨h, h3⟩ | ⟨h, h3, h4⟩ | ⟨h, h3, h4, h5⟩ | ⟨h, h3, h4, h5⟩
   all_goals
    subst h
    go_enter Tryd.func30, Tryd.ntmps30
    go_wp2_with (first | (go_at_call 66; refine (isWidth_any _ _).mono ?_; rintro e wq ⟨rfl, rfl⟩) | (go_at_call 85; refine (rsized_any _ _ _ _ zq_39).mono ?_; rintro e wr ⟨rfl, hR, hg⟩; (first | rw [HK.out] at hR ⊢ | rw [HV.out] at hR ⊢); dsimp only at hR ⊢; (have hz := hg.size; (try simp only [World.size_alloc, World.size_setCell, World.size_drew] at hz); obtain ⟨gc, gf⟩ := gcell hg; (try simp only [World.size_alloc, World.size_setCell, World.size_drew] at gc); (try simp only [World.size_alloc, World.size_setCell, World.size_drew] at gf); have rc := hR.c0; have rd := hR.c1; have rf := hR.f 0; have rg := hR.f 1); have q0 : w.heap.size < wr.heap.size := (by omega); have q1 : wr.heap.size ≠ w.heap.size + 1 := (by omega); have q3 : wr.heap.size ≠ w.heap.size := (by omega); have q4 : w.heap.size ≠ wr.heap.size := (by omega)) | (go_at_call 86; refine (numFlag1_any _ _ _ _ zq_27).mono ?_; rintro e wf ⟨rfl, hR, hg⟩; rw [HF.out] at hR ⊢; dsimp only at hR ⊢; rw [HFE.out]; (have hz := hg.size; (try simp only [World.size_alloc, World.size_setCell, World.size_drew] at hz); obtain ⟨gc, gf⟩ := gcell hg; (try simp only [World.size_alloc, World.size_setCell, World.size_drew] at gc); (try simp only [World.size_alloc, World.size_setCell, World.size_drew] at gf); have rc := hR.c0; have rd := hR.c1; have rf := hR.f 0; have rg := hR.f 1); have q0 : w.heap.size < wf.heap.size := (by omega); have q2 : wr.heap.size < wf.heap.size := (by omega)) | (go_at_call 87; refine (text_any _ _ _ _ _ zq_27).mono ?_; rintro e wt ⟨rfl, hR, hg⟩; (first | rw [HL.out] at hR ⊢ | rw [HR.out] at hR ⊢); dsimp only at hR ⊢; (have hz := hg.size; (try simp only [World.size_alloc, World.size_setCell, World.size_drew] at hz); obtain ⟨gc, gf⟩ := gcell hg; (try simp only [World.size_alloc, World.size_setCell, World.size_drew] at gc); (try simp only [World.size_alloc, World.size_setCell, World.size_drew] at gf); have rc := hR.c0; have rd := hR.c1; have rf := hR.f 0; have rg := hR.f 1); have q0 : w.heap.size < wt.heap.size := (by omega); have q2 : wr.heap.size < wt.heap.size := (by omega)) | (go_at_call 76; refine (nodeValid_any _ _ _ _ _ _).mono ?_; rintro e wy ⟨rfl, hby⟩; obtain ⟨hcy, hfy⟩ := bcell hby; have hzy := hby.size; (try simp only [World.size_alloc, World.size_setCell, World.size_drew] at hzy); (try simp only [World.size_alloc, World.size_setCell, World.size_drew] at hcy); (try simp only [World.size_alloc, World.size_setCell, World.size_drew] at hfy); have q0 : w.heap.size < wy.heap.size := (by omega); have q2 : wr.heap.size < wy.heap.size := (by omega)))
   ·all_goals
     have t0 : wt.cell? ⟨w.heap.size, 0, none⟩ = some (.string ⟨#[]⟩) := by go_simp
     have t1 : wt.cell? ⟨w.heap.size, 1, none⟩ = some (.string ⟨#[]⟩) := by go_simp
     have t2 : wt.cell? ⟨w.heap.size, 2, none⟩ = some (.string ⟨#[]⟩) := by go_simp
     have t3 : wt.cell? ⟨w.heap.size, 3, none⟩ = some (.string ⟨#[]⟩) := by go_simp
     refine bodyPost_ret (v := .tuple #[.agg #[.string ⟨#[]⟩, .string ⟨#[]⟩, .string ⟨#[]⟩, .string ⟨#[]⟩], .bool false]) zq_22 rfl ⟨?_, ?_⟩
     ·have e : z = none := by rw [← HZ.out]; exact if_neg (fun q => by simp at q)
      rw [e]; rfl
     ·(repeat' (first | exact Below.refl _ _ | (with_reducible assumption) | (with_reducible refine Below.setCell ?_ zq_12 _) | refine below_rdr ?_ (by assumption) (by omega) | refine below_then ?_ (by assumption) | (with_reducible refine below_new2 ?_ _)))
   ·all_goals
     have t0 : wt.cell? ⟨w.heap.size, 0, none⟩ = some (.string ⟨#[]⟩) := by go_simp
     have t1 : wt.cell? ⟨w.heap.size, 1, none⟩ = some (.string ⟨#[]⟩) := by go_simp
     have t2 : wt.cell? ⟨w.heap.size, 2, none⟩ = some (.string ⟨#[]⟩) := by go_simp
     have t3 : wt.cell? ⟨w.heap.size, 3, none⟩ = some (.string ⟨#[]⟩) := by go_simp
     refine bodyPost_ret (v := .tuple #[.agg #[.string ⟨#[]⟩, .string ⟨#[]⟩, .string ⟨#[]⟩, .string ⟨#[]⟩], .bool false]) zq_22 rfl ⟨?_, ?_⟩
     ·have e : z = none := by rw [← HZ.out]; exact if_neg (fun q => by have e := HSZ.out; rw [h3, q.2.2.1] at e; simp at e)
      rw [e]; rfl
     ·(repeat' (first | exact Below.refl _ _ | (with_reducible assumption) | (with_reducible refine Below.setCell ?_ zq_12 _) | refine below_rdr ?_ (by assumption) (by omega) | refine below_then ?_ (by assumption) | (with_reducible refine below_new2 ?_ _)))
   ·all_goals
     have t0 : wt.cell? ⟨w.heap.size, 0, none⟩ = some (.string ⟨#[]⟩) := by go_simp
     have t1 : wt.cell? ⟨w.heap.size, 1, none⟩ = some (.string ⟨#[]⟩) := by go_simp
     have t2 : wt.cell? ⟨w.heap.size, 2, none⟩ = some (.string ⟨#[]⟩) := by go_simp
     have t3 : wt.cell? ⟨w.heap.size, 3, none⟩ = some (.string ⟨#[]⟩) := by go_simp
     refine bodyPost_ret (v := .tuple #[.agg #[.string ⟨#[]⟩, .string ⟨#[]⟩, .string ⟨#[]⟩, .string ⟨#[]⟩], .bool false]) zq_22 rfl ⟨?_, ?_⟩
     ·have e : z = none := by rw [← HZ.out]; exact if_neg (fun q => by have := q.2.2.2.1; omega)
      rw [e]; rfl
     ·(repeat' (first | exact Below.refl _ _ | (with_reducible assumption) | (with_reducible refine Below.setCell ?_ zq_12 _) | refine below_rdr ?_ (by assumption) (by omega) | refine below_then ?_ (by assumption) | (with_reducible refine below_new2 ?_ _)))
   ·all_goals
     have t0 : wy.cell? ⟨w.heap.size, 0, none⟩ = some (.string ⟨#[]⟩) := by go_simp
     have t1 : wy.cell? ⟨w.heap.size, 1, none⟩ = some (.string ⟨#[]⟩) := by go_simp
     have t2 : wy.cell? ⟨w.heap.size, 2, none⟩ = some (.string ⟨#[]⟩) := by go_simp
     have t3 : wy.cell? ⟨w.heap.size, 3, none⟩ = some (.string ⟨#[]⟩) := by go_simp
     refine bodyPost_ret (v := .tuple #[.agg #[.string ⟨#[]⟩, .string ⟨#[]⟩, .string ⟨#[]⟩, .string ⟨#[]⟩], .bool false]) zq_22 rfl ⟨?_, ?_⟩
     ·have e : z = none := by rw [← HZ.out]; exact if_neg (fun q => by rw [h5] at q; simp at q)
      rw [e]; rfl
     ·(repeat' (first | exact Below.refl _ _ | (with_reducible assumption) | (with_reducible refine Below.setCell ?_ zq_12 _) | refine below_rdr ?_ (by assumption) (by omega) | refine below_then ?_ (by assumption) | (with_reducible refine below_new2 ?_ _)))
   ·all_goals
     have t0 : wy.cell? ⟨w.heap.size, 0, none⟩ = some (.string ⟨#[]⟩) := by go_simp
     have t1 : wy.cell? ⟨w.heap.size, 1, none⟩ = some (.string ⟨#[]⟩) := by go_simp
     have t2 : wy.cell? ⟨w.heap.size, 2, none⟩ = some (.string ⟨#[]⟩) := by go_simp
     have t3 : wy.cell? ⟨w.heap.size, 3, none⟩ = some (.string ⟨#[]⟩) := by go_simp
     refine bodyPost_ret (v := .tuple #[.agg #[.string k, .string v, .string l, .string ⟨#[]⟩], .bool true]) zq_22 rfl ⟨?_, ?_⟩
     ·have e : z = some (k, v, l, ⟨#[]⟩) := by rw [← HZ.out]; have e := HSZ.out; rw [h3] at e; have e2 := of_decide_eq_true e.symm; have e3 : f ≤ 3 := (by omega); exact if_pos (by simp [hw, e2, h5, e3])
      rw [e]; rfl
     ·(repeat' (first | exact Below.refl _ _ | (with_reducible assumption) | (with_reducible refine Below.setCell ?_ zq_12 _) | refine below_rdr ?_ (by assumption) (by omega) | refine below_then ?_ (by assumption) | (with_reducible refine below_new2 ?_ _)))
  ·rcases hcase with h | ⟨h, h3⟩ | ⟨h, h3, h4⟩ | ⟨h, h3, h4, h5⟩ | ⟨h, h3, h4, h5⟩
   all_goals
    subst h
    go_enter Tryd.func30, Tryd.ntmps30
    go_wp2_with (first | (go_at_call 66; refine (isWidth_any _ _).mono ?_; rintro e wq ⟨rfl, rfl⟩) | (go_at_call 85; refine (rsized_any _ _ _ _ zq_39).mono ?_; rintro e wr ⟨rfl, hR, hg⟩; (first | rw [HK.out] at hR ⊢ | rw [HV.out] at hR ⊢); dsimp only at hR ⊢; (have hz := hg.size; (try simp only [World.size_alloc, World.size_setCell, World.size_drew] at hz); obtain ⟨gc, gf⟩ := gcell hg; (try simp only [World.size_alloc, World.size_setCell, World.size_drew] at gc); (try simp only [World.size_alloc, World.size_setCell, World.size_drew] at gf); have rc := hR.c0; have rd := hR.c1; have rf := hR.f 0; have rg := hR.f 1); have q0 : w.heap.size < wr.heap.size := (by omega); have q1 : wr.heap.size ≠ w.heap.size + 1 := (by omega); have q3 : wr.heap.size ≠ w.heap.size := (by omega); have q4 : w.heap.size ≠ wr.heap.size := (by omega)) | (go_at_call 86; refine (numFlag1_any _ _ _ _ zq_27).mono ?_; rintro e wf ⟨rfl, hR, hg⟩; rw [HF.out] at hR ⊢; dsimp only at hR ⊢; rw [HFE.out]; (have hz := hg.size; (try simp only [World.size_alloc, World.size_setCell, World.size_drew] at hz); obtain ⟨gc, gf⟩ := gcell hg; (try simp only [World.size_alloc, World.size_setCell, World.size_drew] at gc); (try simp only [World.size_alloc, World.size_setCell, World.size_drew] at gf); have rc := hR.c0; have rd := hR.c1; have rf := hR.f 0; have rg := hR.f 1); have q0 : w.heap.size < wf.heap.size := (by omega); have q2 : wr.heap.size < wf.heap.size := (by omega)) | (go_at_call 87; refine (text_any _ _ _ _ _ zq_27).mono ?_; rintro e wt ⟨rfl, hR, hg⟩; (first | rw [HL.out] at hR ⊢ | rw [HR.out] at hR ⊢); dsimp only at hR ⊢; (have hz := hg.size; (try simp only [World.size_alloc, World.size_setCell, World.size_drew] at hz); obtain ⟨gc, gf⟩ := gcell hg; (try simp only [World.size_alloc, World.size_setCell, World.size_drew] at gc); (try simp only [World.size_alloc, World.size_setCell, World.size_drew] at gf); have rc := hR.c0; have rd := hR.c1; have rf := hR.f 0; have rg := hR.f 1); have q0 : w.heap.size < wt.heap.size := (by omega); have q2 : wr.heap.size < wt.heap.size := (by omega)) | (go_at_call 76; refine (nodeValid_any _ _ _ _ _ _).mono ?_; rintro e wy ⟨rfl, hby⟩; obtain ⟨hcy, hfy⟩ := bcell hby; have hzy := hby.size; (try simp only [World.size_alloc, World.size_setCell, World.size_drew] at hzy); (try simp only [World.size_alloc, World.size_setCell, World.size_drew] at hcy); (try simp only [World.size_alloc, World.size_setCell, World.size_drew] at hfy); have q0 : w.heap.size < wy.heap.size := (by omega); have q2 : wr.heap.size < wy.heap.size := (by omega)))
   ·all_goals
     have t0 : wt.cell? ⟨w.heap.size, 0, none⟩ = some (.string ⟨#[]⟩) := by go_simp
     have t1 : wt.cell? ⟨w.heap.size, 1, none⟩ = some (.string ⟨#[]⟩) := by go_simp
     have t2 : wt.cell? ⟨w.heap.size, 2, none⟩ = some (.string ⟨#[]⟩) := by go_simp
     have t3 : wt.cell? ⟨w.heap.size, 3, none⟩ = some (.string ⟨#[]⟩) := by go_simp
     refine bodyPost_ret (v := .tuple #[.agg #[.string ⟨#[]⟩, .string ⟨#[]⟩, .string ⟨#[]⟩, .string ⟨#[]⟩], .bool false]) zq_22 rfl ⟨?_, ?_⟩
     ·have e : z = none := by rw [← HZ.out]; exact if_neg (fun q => by simp at q)
      rw [e]; rfl
     ·(repeat' (first | exact Below.refl _ _ | (with_reducible assumption) | (with_reducible refine Below.setCell ?_ zq_12 _) | refine below_rdr ?_ (by assumption) (by omega) | refine below_then ?_ (by assumption) | (with_reducible refine below_new2 ?_ _)))
   ·all_goals
     have t0 : wt.cell? ⟨w.heap.size, 0, none⟩ = some (.string ⟨#[]⟩) := by go_simp
     have t1 : wt.cell? ⟨w.heap.size, 1, none⟩ = some (.string ⟨#[]⟩) := by go_simp
     have t2 : wt.cell? ⟨w.heap.size, 2, none⟩ = some (.string ⟨#[]⟩) := by go_simp
     have t3 : wt.cell? ⟨w.heap.size, 3, none⟩ = some (.string ⟨#[]⟩) := by go_simp
     refine bodyPost_ret (v := .tuple #[.agg #[.string ⟨#[]⟩, .string ⟨#[]⟩, .string ⟨#[]⟩, .string ⟨#[]⟩], .bool false]) zq_22 rfl ⟨?_, ?_⟩
     ·have e : z = none := by rw [← HZ.out]; exact if_neg (fun q => by have e := HSZ.out; rw [h3, q.2.2.1] at e; simp at e)
      rw [e]; rfl
     ·(repeat' (first | exact Below.refl _ _ | (with_reducible assumption) | (with_reducible refine Below.setCell ?_ zq_12 _) | refine below_rdr ?_ (by assumption) (by omega) | refine below_then ?_ (by assumption) | (with_reducible refine below_new2 ?_ _)))
   ·all_goals
     have t0 : wt.cell? ⟨w.heap.size, 0, none⟩ = some (.string ⟨#[]⟩) := by go_simp
     have t1 : wt.cell? ⟨w.heap.size, 1, none⟩ = some (.string ⟨#[]⟩) := by go_simp
     have t2 : wt.cell? ⟨w.heap.size, 2, none⟩ = some (.string ⟨#[]⟩) := by go_simp
     have t3 : wt.cell? ⟨w.heap.size, 3, none⟩ = some (.string ⟨#[]⟩) := by go_simp
     refine bodyPost_ret (v := .tuple #[.agg #[.string ⟨#[]⟩, .string ⟨#[]⟩, .string ⟨#[]⟩, .string ⟨#[]⟩], .bool false]) zq_22 rfl ⟨?_, ?_⟩
     ·have e : z = none := by rw [← HZ.out]; exact if_neg (fun q => by have := q.2.2.2.1; omega)
      rw [e]; rfl
     ·(repeat' (first | exact Below.refl _ _ | (with_reducible assumption) | (with_reducible refine Below.setCell ?_ zq_12 _) | refine below_rdr ?_ (by assumption) (by omega) | refine below_then ?_ (by assumption) | (with_reducible refine below_new2 ?_ _)))
   ·all_goals
     have t0 : wy.cell? ⟨w.heap.size, 0, none⟩ = some (.string ⟨#[]⟩) := by go_simp
     have t1 : wy.cell? ⟨w.heap.size, 1, none⟩ = some (.string ⟨#[]⟩) := by go_simp
     have t2 : wy.cell? ⟨w.heap.size, 2, none⟩ = some (.string ⟨#[]⟩) := by go_simp
     have t3 : wy.cell? ⟨w.heap.size, 3, none⟩ = some (.string ⟨#[]⟩) := by go_simp
     refine bodyPost_ret (v := .tuple #[.agg #[.string ⟨#[]⟩, .string ⟨#[]⟩, .string ⟨#[]⟩, .string ⟨#[]⟩], .bool false]) zq_22 rfl ⟨?_, ?_⟩
     ·have e : z = none := by rw [← HZ.out]; exact if_neg (fun q => by rw [h5] at q; simp at q)
      rw [e]; rfl
     ·(repeat' (first | exact Below.refl _ _ | (with_reducible assumption) | (with_reducible refine Below.setCell ?_ zq_12 _) | refine below_rdr ?_ (by assumption) (by omega) | refine below_then ?_ (by assumption) | (with_reducible refine below_new2 ?_ _)))
   ·all_goals
     have t0 : wy.cell? ⟨w.heap.size, 0, none⟩ = some (.string ⟨#[]⟩) := by go_simp
     have t1 : wy.cell? ⟨w.heap.size, 1, none⟩ = some (.string ⟨#[]⟩) := by go_simp
     have t2 : wy.cell? ⟨w.heap.size, 2, none⟩ = some (.string ⟨#[]⟩) := by go_simp
     have t3 : wy.cell? ⟨w.heap.size, 3, none⟩ = some (.string ⟨#[]⟩) := by go_simp
     refine bodyPost_ret (v := .tuple #[.agg #[.string k, .string v, .string l, .string r], .bool true]) zq_22 rfl ⟨?_, ?_⟩
     ·have e : z = some (k, v, l, r) := by rw [← HZ.out]; have e := HSZ.out; rw [h3] at e; have e2 := of_decide_eq_true e.symm; have e3 : f ≤ 3 := (by omega); exact if_pos (by simp [hw, e2, h5, e3])
      rw [e]; rfl
     ·(repeat' (first | exact Below.refl _ _ | (with_reducible assumption) | (with_reducible refine Below.setCell ?_ zq_12 _) | refine below_rdr ?_ (by assumption) (by omega) | refine below_then ?_ (by assumption) | (with_reducible refine below_new2 ?_ _)))
 ·have hn : decI s x = none := by unfold decI; simp [hw]
  rw [hn]
  go_enter Tryd.func30, Tryd.ntmps30
  go_wp2_with (first | (go_at_call 66; refine (isWidth_any _ _).mono ?_; rintro e wq ⟨rfl, rfl⟩))
  refine bodyPost_ret (v := nodeV none) (by simp [results, Tryd.results30, go_sem, nodeV]; try rfl) rfl ⟨?_, ?_⟩
  ·rfl
  ·(repeat' (first | exact Below.refl _ _ | (with_reducible assumption) | (with_reducible refine Below.setCell ?_ zq_12 _) | refine below_then ?_ (by assumption) | (with_reducible refine below_new2 ?_ _) | (with_reducible refine Below.drew ?_) | (with_reducible refine bdrewN ?_ _)))
def byteAt (s : ByteArray) (i : Nat) : Nat := (s.data.toList.getD i 0).toNat
theorem byteAt_lt (s : ByteArray) (i : Nat) : byteAt s i < 256 := UInt8.toNat_lt _
theorem byteAt_eq (s : ByteArray) (i : Nat) (h : i < s.size) : byteAt s i = (s[i]'h).toNat := by
 have h2 : i < s.data.toList.length := by simpa using h
 unfold byteAt; rw [List.getD_eq_getElem?_getD, List.getElem?_eq_getElem h2]; rfl
theorem pieceNum (s : ByteArray) (i : Nat) (h : i < s.size) (h2 : i + 1 < s.size) :
  wrap64 (wrap64 (wrap64 ((s[i]'h).toNat : Int) * 256) + wrap64 ((s[i + 1]'h2).toNat : Int)) = ((byteAt s i * 256 + byteAt s (i + 1) : Nat) : Int) := by
 rw [byteAt_eq s i h, byteAt_eq s (i + 1) h2]; have h3 := (s[i]'h).toNat_lt; have h4 := (s[i + 1]'h2).toNat_lt; unfold wrap64; omega
def pieceS (s : ByteArray) (i : Nat) : Option (ByteArray × Nat) :=
 if s.size < i + 2 then none else if s.size < i + 2 + (byteAt s i * 256 + byteAt s (i + 1)) then none else
  some (s.extract (i + 2) (i + 2 + (byteAt s i * 256 + byteAt s (i + 1))), i + 2 + (byteAt s i * 256 + byteAt s (i + 1)))
def pieceV : Option (ByteArray × Nat) → Value
 | some (k, n) => .tuple #[.string k, .int .i64 n, .bool true]
 | none => .tuple #[.string ⟨#[]⟩, .int .i64 0, .bool false]
set_option maxHeartbeats 400000 in
theorem l2Piece_any (s : ByteArray) (i : Nat) (hs : s.size ≤ 4294967296) (hi : i ≤ 4294967296) (w : World) :
  Calls Tryd.prog 134 #[.string s, .int .i64 i] w fun e w' => e = .returned (pieceV (pieceS s i)) ∧ Below w.heap.size w w' := by
 unfold pieceS; have hm := byteAt_lt s i; have hl := byteAt_lt s (i + 1)
 by_cases h1 : s.size < i + 2
 ·rw [if_pos h1]; have g1 : (s.size : Int) < (i : Int) + 2 := by omega
  go_enter Tryd.func134, Tryd.ntmps134
  go_wp2
  refine bodyPost_ret (v := pieceV none) (by simp [results, Tryd.results134, go_sem, pieceV]; try rfl) rfl ⟨?_, ?_⟩
  ·rfl
  ·(repeat' (first | exact Below.refl _ _ | (with_reducible assumption) | (with_reducible refine Below.setCell ?_ zq_12 _) | refine below_then ?_ (by assumption) | (with_reducible refine below_new2 ?_ _) | (with_reducible refine Below.drew ?_) | (with_reducible refine bdrewN ?_ _)))
 ·rw [if_neg h1]; have g1 : ¬ (s.size : Int) < (i : Int) + 2 := by omega
  have b1 : i < s.size := by omega
  have b2 : i + 1 < s.size := by omega
  have hnb : byteAt s i * 256 + byteAt s (i + 1) < 65536 := by omega
  have hnum := pieceNum s i b1 b2; generalize byteAt s i * 256 + byteAt s (i + 1) = n at hnb hnum ⊢; have HN := Lib.hid hnum; clear hnum; have b3 : (0 : Int) ≤ (i : Int) := by omega
  have b4 : (i : Int) < (s.size : Int) := by omega
  have b5 : (0 : Int) ≤ (i : Int) + 1 := by omega
  have b6 : (i : Int) + 1 < (s.size : Int) := by omega
  clear hm hl
  by_cases h2 : s.size < i + 2 + n
  ·rw [if_pos h2]; have g2 : (s.size : Int) < (i : Int) + 2 + n := by omega
   go_enter Tryd.func134, Tryd.ntmps134
   go_wp2
   go_region
   rw [HN.out]
   go_wp2
   refine bodyPost_ret (v := pieceV none) (by simp [results, Tryd.results134, go_sem, pieceV]; try rfl) rfl ⟨?_, ?_⟩
   ·rfl
   ·(repeat' (first | exact Below.refl _ _ | (with_reducible assumption) | (with_reducible refine Below.setCell ?_ zq_12 _) | refine below_then ?_ (by assumption) | (with_reducible refine below_new2 ?_ _) | (with_reducible refine Below.drew ?_) | (with_reducible refine bdrewN ?_ _)))
  ·rw [if_neg h2]; have g2 : ¬ (s.size : Int) < (i : Int) + 2 + n := by omega
   have g3 : (i : Int) + 2 + n ≤ s.size := by omega
   have g4 : (0 : Int) ≤ (i : Int) + 2 := by omega
   have g5 : (i : Int) + 2 ≤ (i : Int) + 2 + n := by omega
   go_enter Tryd.func134, Tryd.ntmps134
   go_wp2
   go_region
   rw [HN.out]
   go_wp2
   refine bodyPost_ret (v := .tuple #[.string (s.extract (i + 2) (i + 2 + n)), .int .i64 ((i : Int) + 2 + n), .bool true]) (by simp [results, Tryd.results134, go_sem, pieceV]; try rfl) rfl ⟨?_, ?_⟩
   ·simp [pieceV]
   ·(repeat' (first | exact Below.refl _ _ | (with_reducible assumption) | (with_reducible refine Below.setCell ?_ zq_12 _) | refine below_then ?_ (by assumption) | (with_reducible refine below_new2 ?_ _) | (with_reducible refine Below.drew ?_) | (with_reducible refine bdrewN ?_ _)))
theorem l2Piece0_any (s : ByteArray) (hs : s.size ≤ 4294967296) (w : World) :
  Calls Tryd.prog 134 #[.string s, .int .i64 0] w fun e w' => e = .returned (pieceV (pieceS s 0)) ∧ Below w.heap.size w w' := l2Piece_any s 0 hs (by omega) w
theorem pieceS_le {s k : ByteArray} {i n : Nat} (h : pieceS s i = some (k, n)) : n ≤ s.size ∧ i + 2 ≤ n := by
 unfold pieceS at h
 split at h
 ·cases h
 ·split at h
  ·cases h
  ·simp only [Option.some.injEq, Prod.mk.injEq] at h; omega
def finS (s : ByteArray) (x : Int) (k v l r : ByteArray) : Option (ByteArray × ByteArray × ByteArray × ByteArray) := if encNode k v l r x = s then some (k, v, l, r) else none
def decS (s : ByteArray) (x : Int) : Option (ByteArray × ByteArray × ByteArray × ByteArray) :=
 match pieceS s 0 with
 | none => none
 | some (k, i) =>
  match pieceS s i with
  | none => none
  | some (v, n) =>
   if s.size ≤ n ∨ isW x = false then none else
   if byteAt s n % 2 = 1 then
    if ((s.size - (n + 1) : Nat) : Int) < x then none else finS s x k v ((s.extract (n + 1) s.size).extract 0 x.toNat) ((s.extract (n + 1) s.size).extract x.toNat (s.size - (n + 1)))
   else finS s x k v ⟨#[]⟩ (s.extract (n + 1) s.size)
set_option maxHeartbeats 4000000 in
theorem specDecodeNode_any (s : ByteArray) (x : Int) (hs : s.size ≤ 4294967296) (w : World) :
  Calls Tryd.prog 141 #[.string s, .int .i64 x] w fun e w' => e = .returned (nodeV (decS s x)) ∧ Below w.heap.size w w' := by
 unfold decS
 rcases h1 : pieceS s 0 with _ | ⟨k, i⟩
 ·have H1 := Lib.hid h1; clear h1; dsimp only
  go_enter Tryd.func141, Tryd.ntmps141
  go_wp2_with (first | (go_at_call_of 134 (Value.int .i64 0); refine (l2Piece0_any s hs _).mono ?_; rintro e wa ⟨rfl, hb_wa⟩; rw [H1.out]; obtain ⟨hc_wa, hf_wa⟩ := bcell hb_wa; have hz_wa := hb_wa.size; (try simp only [World.size_alloc] at hz_wa); (try simp only [World.size_alloc] at hc_wa); (try simp only [World.size_alloc] at hf_wa); have q0 : w.heap.size < wa.heap.size := (by omega); unfold pieceV))
  all_goals
   have t0 : wa.cell? ⟨w.heap.size, 0, none⟩ = some (.string ⟨#[]⟩) := by go_simp
   have t1 : wa.cell? ⟨w.heap.size, 1, none⟩ = some (.string ⟨#[]⟩) := by go_simp
   have t2 : wa.cell? ⟨w.heap.size, 2, none⟩ = some (.string ⟨#[]⟩) := by go_simp
   have t3 : wa.cell? ⟨w.heap.size, 3, none⟩ = some (.string ⟨#[]⟩) := by go_simp
   refine bodyPost_ret (v := .tuple #[.agg #[.string ⟨#[]⟩, .string ⟨#[]⟩, .string ⟨#[]⟩, .string ⟨#[]⟩], .bool false]) (by simp [results, Tryd.results141, go_sem, t0, t1, t2, t3]; try rfl) rfl ⟨?_, ?_⟩
   ·rfl
   ·(repeat' (first | exact Below.refl _ _ | (with_reducible assumption) | (with_reducible refine Below.setCell ?_ zq_12 _) | refine below_then ?_ (by assumption) | (with_reducible refine below_new2 ?_ _) | (with_reducible refine Below.drew ?_) | (with_reducible refine bdrewN ?_ _)))
 ·have hi := (pieceS_le h1).1; have H1 := Lib.hid h1; clear h1; dsimp only
  rcases h2 : pieceS s i with _ | ⟨v, n⟩
  ·have H2 := Lib.hid h2; clear h2; dsimp only
   go_enter Tryd.func141, Tryd.ntmps141
   go_wp2_with (first | (go_at_call_of 134 (Value.int .i64 0); refine (l2Piece0_any s hs _).mono ?_; rintro e wa ⟨rfl, hb_wa⟩; rw [H1.out]; obtain ⟨hc_wa, hf_wa⟩ := bcell hb_wa; have hz_wa := hb_wa.size; (try simp only [World.size_alloc] at hz_wa); (try simp only [World.size_alloc] at hc_wa); (try simp only [World.size_alloc] at hf_wa); have q0 : w.heap.size < wa.heap.size := (by omega); unfold pieceV) | (go_at_call_of 134 (Value.int .i64 (i : Int)); refine (l2Piece_any s i hs (by omega) _).mono ?_; rintro e wb ⟨rfl, hb_wb⟩; rw [H2.out]; obtain ⟨hc_wb, hf_wb⟩ := bcell hb_wb; have hz_wb := hb_wb.size; (try simp only [World.size_alloc] at hz_wb); (try simp only [World.size_alloc] at hc_wb); (try simp only [World.size_alloc] at hf_wb); have q1 : w.heap.size < wb.heap.size := (by omega); unfold pieceV))
   all_goals
    have t0 : wb.cell? ⟨w.heap.size, 0, none⟩ = some (.string ⟨#[]⟩) := by go_simp
    have t1 : wb.cell? ⟨w.heap.size, 1, none⟩ = some (.string ⟨#[]⟩) := by go_simp
    have t2 : wb.cell? ⟨w.heap.size, 2, none⟩ = some (.string ⟨#[]⟩) := by go_simp
    have t3 : wb.cell? ⟨w.heap.size, 3, none⟩ = some (.string ⟨#[]⟩) := by go_simp
    refine bodyPost_ret (v := .tuple #[.agg #[.string ⟨#[]⟩, .string ⟨#[]⟩, .string ⟨#[]⟩, .string ⟨#[]⟩], .bool false]) (by simp [results, Tryd.results141, go_sem, t0, t1, t2, t3]; try rfl) rfl ⟨?_, ?_⟩
    ·rfl
    ·(repeat' (first | exact Below.refl _ _ | (with_reducible assumption) | (with_reducible refine Below.setCell ?_ zq_12 _) | refine below_then ?_ (by assumption) | (with_reducible refine below_new2 ?_ _) | (with_reducible refine Below.drew ?_) | (with_reducible refine bdrewN ?_ _)))
  ·have hn := (pieceS_le h2).1; have H2 := Lib.hid h2; clear h2; dsimp only
   by_cases h3 : s.size ≤ n ∨ isW x = false
   ·rw [if_pos h3]
    by_cases h4 : s.size ≤ n
    ·clear h3; have h5 : (s.size : Int) ≤ (n : Int) := by omega
     go_enter Tryd.func141, Tryd.ntmps141
     go_wp2_with (first | (go_at_call_of 134 (Value.int .i64 0); refine (l2Piece0_any s hs _).mono ?_; rintro e wa ⟨rfl, hb_wa⟩; rw [H1.out]; obtain ⟨hc_wa, hf_wa⟩ := bcell hb_wa; have hz_wa := hb_wa.size; (try simp only [World.size_alloc] at hz_wa); (try simp only [World.size_alloc] at hc_wa); (try simp only [World.size_alloc] at hf_wa); have q0 : w.heap.size < wa.heap.size := (by omega); unfold pieceV) | (go_at_call_of 134 (Value.int .i64 (i : Int)); refine (l2Piece_any s i hs (by omega) _).mono ?_; rintro e wb ⟨rfl, hb_wb⟩; rw [H2.out]; obtain ⟨hc_wb, hf_wb⟩ := bcell hb_wb; have hz_wb := hb_wb.size; (try simp only [World.size_alloc] at hz_wb); (try simp only [World.size_alloc] at hc_wb); (try simp only [World.size_alloc] at hf_wb); have q1 : w.heap.size < wb.heap.size := (by omega); unfold pieceV))
     all_goals
      have t0 : wb.cell? ⟨w.heap.size, 0, none⟩ = some (.string ⟨#[]⟩) := by go_simp
      have t1 : wb.cell? ⟨w.heap.size, 1, none⟩ = some (.string ⟨#[]⟩) := by go_simp
      have t2 : wb.cell? ⟨w.heap.size, 2, none⟩ = some (.string ⟨#[]⟩) := by go_simp
      have t3 : wb.cell? ⟨w.heap.size, 3, none⟩ = some (.string ⟨#[]⟩) := by go_simp
      refine bodyPost_ret (v := .tuple #[.agg #[.string ⟨#[]⟩, .string ⟨#[]⟩, .string ⟨#[]⟩, .string ⟨#[]⟩], .bool false]) (by simp [results, Tryd.results141, go_sem, t0, t1, t2, t3]; try rfl) rfl ⟨?_, ?_⟩
      ·rfl
      ·(repeat' (first | exact Below.refl _ _ | (with_reducible assumption) | (with_reducible refine Below.setCell ?_ zq_12 _) | refine below_then ?_ (by assumption) | (with_reducible refine below_new2 ?_ _) | (with_reducible refine Below.drew ?_) | (with_reducible refine bdrewN ?_ _)))
    ·have h5 : ¬ (s.size : Int) ≤ (n : Int) := by omega
     have h6 : isW x = false := by rcases h3 with h | h <;> simp_all
     clear h3
     go_enter Tryd.func141, Tryd.ntmps141
     go_wp2_with (first | (go_at_call_of 134 (Value.int .i64 0); refine (l2Piece0_any s hs _).mono ?_; rintro e wa ⟨rfl, hb_wa⟩; rw [H1.out]; obtain ⟨hc_wa, hf_wa⟩ := bcell hb_wa; have hz_wa := hb_wa.size; (try simp only [World.size_alloc] at hz_wa); (try simp only [World.size_alloc] at hc_wa); (try simp only [World.size_alloc] at hf_wa); have q0 : w.heap.size < wa.heap.size := (by omega); unfold pieceV) | (go_at_call_of 134 (Value.int .i64 (i : Int)); refine (l2Piece_any s i hs (by omega) _).mono ?_; rintro e wb ⟨rfl, hb_wb⟩; rw [H2.out]; obtain ⟨hc_wb, hf_wb⟩ := bcell hb_wb; have hz_wb := hb_wb.size; (try simp only [World.size_alloc] at hz_wb); (try simp only [World.size_alloc] at hc_wb); (try simp only [World.size_alloc] at hf_wb); have q1 : w.heap.size < wb.heap.size := (by omega); unfold pieceV) | (go_at_call 63; refine (l1Width_any _ _).mono ?_; rintro e wq ⟨rfl, rfl⟩))
     all_goals
      have t0 : wb.cell? ⟨w.heap.size, 0, none⟩ = some (.string ⟨#[]⟩) := by go_simp
      have t1 : wb.cell? ⟨w.heap.size, 1, none⟩ = some (.string ⟨#[]⟩) := by go_simp
      have t2 : wb.cell? ⟨w.heap.size, 2, none⟩ = some (.string ⟨#[]⟩) := by go_simp
      have t3 : wb.cell? ⟨w.heap.size, 3, none⟩ = some (.string ⟨#[]⟩) := by go_simp
      refine bodyPost_ret (v := .tuple #[.agg #[.string ⟨#[]⟩, .string ⟨#[]⟩, .string ⟨#[]⟩, .string ⟨#[]⟩], .bool false]) (by simp [results, Tryd.results141, go_sem, t0, t1, t2, t3]; try rfl) rfl ⟨?_, ?_⟩
      ·rfl
      ·(repeat' (first | exact Below.refl _ _ | (with_reducible assumption) | (with_reducible refine Below.setCell ?_ zq_12 _) | refine below_then ?_ (by assumption) | (with_reducible refine below_new2 ?_ _) | (with_reducible refine Below.drew ?_) | (with_reducible refine bdrewN ?_ _)))
   ·rw [if_neg h3]; have h5 : ¬ (s.size : Int) ≤ (n : Int) := by omega
    have h6 : isW x = true := by cases h : isW x <;> simp_all
    clear h3; have h7 : 1 ≤ x ∧ x ≤ 32 := by unfold isW at h6; simp at h6; omega
    obtain ⟨h8, h9⟩ := h7; have g0 : (0 : Int) ≤ (n : Int) := by omega
    have g1 : (n : Int) < (s.size : Int) := by omega
    have g2 : (0 : Int) ≤ (n : Int) + 1 := by omega
    have g3 : (n : Int) + 1 ≤ (s.size : Int) := by omega
    have b1 : n < s.size := by omega
    have hby := byteAt_eq s n b1
    by_cases h10 : byteAt s n % 2 = 1
    ·rw [if_pos h10]; have g4 : (((s[n]'b1).toNat : Int) % 2 == 1) = true := by rw [hby] at h10; rw [beq_iff_eq]; omega
     clear hby h10
     by_cases h11 : ((s.size - (n + 1) : Nat) : Int) < x
     ·rw [if_pos h11]
      go_enter Tryd.func141, Tryd.ntmps141
      go_wp2_with (first | (go_at_call_of 134 (Value.int .i64 0); refine (l2Piece0_any s hs _).mono ?_; rintro e wa ⟨rfl, hb_wa⟩; rw [H1.out]; obtain ⟨hc_wa, hf_wa⟩ := bcell hb_wa; have hz_wa := hb_wa.size; (try simp only [World.size_alloc] at hz_wa); (try simp only [World.size_alloc] at hc_wa); (try simp only [World.size_alloc] at hf_wa); have q0 : w.heap.size < wa.heap.size := (by omega); unfold pieceV) | (go_at_call_of 134 (Value.int .i64 (i : Int)); refine (l2Piece_any s i hs (by omega) _).mono ?_; rintro e wb ⟨rfl, hb_wb⟩; rw [H2.out]; obtain ⟨hc_wb, hf_wb⟩ := bcell hb_wb; have hz_wb := hb_wb.size; (try simp only [World.size_alloc] at hz_wb); (try simp only [World.size_alloc] at hc_wb); (try simp only [World.size_alloc] at hf_wb); have q1 : w.heap.size < wb.heap.size := (by omega); unfold pieceV) | (go_at_call 63; refine (l1Width_any _ _).mono ?_; rintro e wq ⟨rfl, rfl⟩) | (go_at_call 28; refine (specEncodeNode_any _ _ _ _ _ _).mono ?_; rintro e wc ⟨rfl, hb_wc⟩; obtain ⟨hc_wc, hf_wc⟩ := bcell hb_wc; have hz_wc := hb_wc.size; (try simp only [World.size_alloc, World.size_setCell, World.size_drew] at hz_wc); (try simp only [World.size_alloc, World.size_setCell, World.size_drew] at hc_wc); (try simp only [World.size_alloc, World.size_setCell, World.size_drew] at hf_wc); (try have q_w_0_wc : w.heap.size < wc.heap.size := by omega); (try have q_wb_0_wc : wb.heap.size < wc.heap.size := by omega)))
      all_goals
       have t0 : wb.cell? ⟨w.heap.size, 0, none⟩ = some (.string ⟨#[]⟩) := by go_simp
       have t1 : wb.cell? ⟨w.heap.size, 1, none⟩ = some (.string ⟨#[]⟩) := by go_simp
       have t2 : wb.cell? ⟨w.heap.size, 2, none⟩ = some (.string ⟨#[]⟩) := by go_simp
       have t3 : wb.cell? ⟨w.heap.size, 3, none⟩ = some (.string ⟨#[]⟩) := by go_simp
       refine bodyPost_ret (v := .tuple #[.agg #[.string ⟨#[]⟩, .string ⟨#[]⟩, .string ⟨#[]⟩, .string ⟨#[]⟩], .bool false]) zq_54 rfl ⟨?_, ?_⟩
       ·rfl
       ·(repeat' (first | exact Below.refl _ _ | (with_reducible assumption) | (with_reducible refine Below.setCell ?_ zq_12 _) | refine below_then ?_ (by assumption) | (with_reducible refine below_new2 ?_ _) | (with_reducible refine Below.drew ?_) | (with_reducible refine bdrewN ?_ _)))
     ·rw [if_neg h11]; have g5 : x ≤ ((s.size - (n + 1) : Nat) : Int) := by omega
      have g7 : (0 : Int) ≤ x := by omega
      unfold finS
      by_cases h12 : encNode k v ((s.extract (n + 1) s.size).extract 0 x.toNat) ((s.extract (n + 1) s.size).extract x.toNat (s.size - (n + 1))) x = s
      ·rw [if_pos h12]; have g6 : ((encNode k v ((s.extract (n + 1) s.size).extract 0 x.toNat) ((s.extract (n + 1) s.size).extract x.toNat (s.size - (n + 1))) x).toList == s.toList) = true := by rw [str_eq]; exact decide_eq_true h12
       clear h12
       go_enter Tryd.func141, Tryd.ntmps141
       go_wp2_with (first | (go_at_call_of 134 (Value.int .i64 0); refine (l2Piece0_any s hs _).mono ?_; rintro e wa ⟨rfl, hb_wa⟩; rw [H1.out]; obtain ⟨hc_wa, hf_wa⟩ := bcell hb_wa; have hz_wa := hb_wa.size; (try simp only [World.size_alloc] at hz_wa); (try simp only [World.size_alloc] at hc_wa); (try simp only [World.size_alloc] at hf_wa); have q0 : w.heap.size < wa.heap.size := (by omega); unfold pieceV) | (go_at_call_of 134 (Value.int .i64 (i : Int)); refine (l2Piece_any s i hs (by omega) _).mono ?_; rintro e wb ⟨rfl, hb_wb⟩; rw [H2.out]; obtain ⟨hc_wb, hf_wb⟩ := bcell hb_wb; have hz_wb := hb_wb.size; (try simp only [World.size_alloc] at hz_wb); (try simp only [World.size_alloc] at hc_wb); (try simp only [World.size_alloc] at hf_wb); have q1 : w.heap.size < wb.heap.size := (by omega); unfold pieceV) | (go_at_call 63; refine (l1Width_any _ _).mono ?_; rintro e wq ⟨rfl, rfl⟩) | (go_at_call 28; refine (specEncodeNode_any _ _ _ _ _ _).mono ?_; rintro e wc ⟨rfl, hb_wc⟩; obtain ⟨hc_wc, hf_wc⟩ := bcell hb_wc; have hz_wc := hb_wc.size; (try simp only [World.size_alloc, World.size_setCell, World.size_drew] at hz_wc); (try simp only [World.size_alloc, World.size_setCell, World.size_drew] at hc_wc); (try simp only [World.size_alloc, World.size_setCell, World.size_drew] at hf_wc); (try have q_w_0_wc : w.heap.size < wc.heap.size := by omega); (try have q_wb_0_wc : wb.heap.size < wc.heap.size := by omega)))
       all_goals
        have t0 : wc.cell? ⟨w.heap.size, 0, none⟩ = some (.string ⟨#[]⟩) := by go_simp
        have t1 : wc.cell? ⟨w.heap.size, 1, none⟩ = some (.string ⟨#[]⟩) := by go_simp
        have t2 : wc.cell? ⟨w.heap.size, 2, none⟩ = some (.string ⟨#[]⟩) := by go_simp
        have t3 : wc.cell? ⟨w.heap.size, 3, none⟩ = some (.string ⟨#[]⟩) := by go_simp
        refine bodyPost_ret (v := .tuple #[.agg #[.string k, .string v, .string ((s.extract (n + 1) s.size).extract 0 x.toNat), .string ((s.extract (n + 1) s.size).extract x.toNat (s.size - (n + 1)))], .bool true]) zq_54 rfl ⟨?_, ?_⟩
        ·rfl
        ·(repeat' (first | exact Below.refl _ _ | (with_reducible assumption) | (with_reducible refine Below.setCell ?_ zq_12 _) | refine below_then ?_ (by assumption) | (with_reducible refine below_new2 ?_ _) | (with_reducible refine Below.drew ?_) | (with_reducible refine bdrewN ?_ _)))
      ·rw [if_neg h12]; have g6 : ((encNode k v ((s.extract (n + 1) s.size).extract 0 x.toNat) ((s.extract (n + 1) s.size).extract x.toNat (s.size - (n + 1))) x).toList == s.toList) = false := by rw [str_eq]; exact decide_eq_false h12
       clear h12
       go_enter Tryd.func141, Tryd.ntmps141
       go_wp2_with (first | (go_at_call_of 134 (Value.int .i64 0); refine (l2Piece0_any s hs _).mono ?_; rintro e wa ⟨rfl, hb_wa⟩; rw [H1.out]; obtain ⟨hc_wa, hf_wa⟩ := bcell hb_wa; have hz_wa := hb_wa.size; (try simp only [World.size_alloc] at hz_wa); (try simp only [World.size_alloc] at hc_wa); (try simp only [World.size_alloc] at hf_wa); have q0 : w.heap.size < wa.heap.size := (by omega); unfold pieceV) | (go_at_call_of 134 (Value.int .i64 (i : Int)); refine (l2Piece_any s i hs (by omega) _).mono ?_; rintro e wb ⟨rfl, hb_wb⟩; rw [H2.out]; obtain ⟨hc_wb, hf_wb⟩ := bcell hb_wb; have hz_wb := hb_wb.size; (try simp only [World.size_alloc] at hz_wb); (try simp only [World.size_alloc] at hc_wb); (try simp only [World.size_alloc] at hf_wb); have q1 : w.heap.size < wb.heap.size := (by omega); unfold pieceV) | (go_at_call 63; refine (l1Width_any _ _).mono ?_; rintro e wq ⟨rfl, rfl⟩) | (go_at_call 28; refine (specEncodeNode_any _ _ _ _ _ _).mono ?_; rintro e wc ⟨rfl, hb_wc⟩; obtain ⟨hc_wc, hf_wc⟩ := bcell hb_wc; have hz_wc := hb_wc.size; (try simp only [World.size_alloc, World.size_setCell, World.size_drew] at hz_wc); (try simp only [World.size_alloc, World.size_setCell, World.size_drew] at hc_wc); (try simp only [World.size_alloc, World.size_setCell, World.size_drew] at hf_wc); (try have q_w_0_wc : w.heap.size < wc.heap.size := by omega); (try have q_wb_0_wc : wb.heap.size < wc.heap.size := by omega)))
       all_goals
        have t0 : wc.cell? ⟨w.heap.size, 0, none⟩ = some (.string ⟨#[]⟩) := by go_simp
        have t1 : wc.cell? ⟨w.heap.size, 1, none⟩ = some (.string ⟨#[]⟩) := by go_simp
        have t2 : wc.cell? ⟨w.heap.size, 2, none⟩ = some (.string ⟨#[]⟩) := by go_simp
        have t3 : wc.cell? ⟨w.heap.size, 3, none⟩ = some (.string ⟨#[]⟩) := by go_simp
        refine bodyPost_ret (v := .tuple #[.agg #[.string ⟨#[]⟩, .string ⟨#[]⟩, .string ⟨#[]⟩, .string ⟨#[]⟩], .bool false]) zq_54 rfl ⟨?_, ?_⟩
        ·rfl
        ·(repeat' (first | exact Below.refl _ _ | (with_reducible assumption) | (with_reducible refine Below.setCell ?_ zq_12 _) | refine below_then ?_ (by assumption) | (with_reducible refine below_new2 ?_ _) | (with_reducible refine Below.drew ?_) | (with_reducible refine bdrewN ?_ _)))
    ·rw [if_neg h10]; have g4 : (((s[n]'b1).toNat : Int) % 2 == 1) = false := by rw [hby] at h10; rw [beq_eq_false_iff_ne]; omega
     clear hby h10; unfold finS
     by_cases h12 : encNode k v ⟨#[]⟩ (s.extract (n + 1) s.size) x = s
     ·rw [if_pos h12]; have g6 : ((encNode k v ⟨#[]⟩ (s.extract (n + 1) s.size) x).toList == s.toList) = true := by rw [str_eq]; exact decide_eq_true h12
      clear h12
      go_enter Tryd.func141, Tryd.ntmps141
      go_wp2_with (first | (go_at_call_of 134 (Value.int .i64 0); refine (l2Piece0_any s hs _).mono ?_; rintro e wa ⟨rfl, hb_wa⟩; rw [H1.out]; obtain ⟨hc_wa, hf_wa⟩ := bcell hb_wa; have hz_wa := hb_wa.size; (try simp only [World.size_alloc] at hz_wa); (try simp only [World.size_alloc] at hc_wa); (try simp only [World.size_alloc] at hf_wa); have q0 : w.heap.size < wa.heap.size := (by omega); unfold pieceV) | (go_at_call_of 134 (Value.int .i64 (i : Int)); refine (l2Piece_any s i hs (by omega) _).mono ?_; rintro e wb ⟨rfl, hb_wb⟩; rw [H2.out]; obtain ⟨hc_wb, hf_wb⟩ := bcell hb_wb; have hz_wb := hb_wb.size; (try simp only [World.size_alloc] at hz_wb); (try simp only [World.size_alloc] at hc_wb); (try simp only [World.size_alloc] at hf_wb); have q1 : w.heap.size < wb.heap.size := (by omega); unfold pieceV) | (go_at_call 63; refine (l1Width_any _ _).mono ?_; rintro e wq ⟨rfl, rfl⟩) | (go_at_call 28; refine (specEncodeNode_any _ _ _ _ _ _).mono ?_; rintro e wc ⟨rfl, hb_wc⟩; obtain ⟨hc_wc, hf_wc⟩ := bcell hb_wc; have hz_wc := hb_wc.size; (try simp only [World.size_alloc, World.size_setCell, World.size_drew] at hz_wc); (try simp only [World.size_alloc, World.size_setCell, World.size_drew] at hc_wc); (try simp only [World.size_alloc, World.size_setCell, World.size_drew] at hf_wc); (try have q_w_0_wc : w.heap.size < wc.heap.size := by omega); (try have q_wb_0_wc : wb.heap.size < wc.heap.size := by omega)))
      all_goals
       have t0 : wc.cell? ⟨w.heap.size, 0, none⟩ = some (.string ⟨#[]⟩) := by go_simp
       have t1 : wc.cell? ⟨w.heap.size, 1, none⟩ = some (.string ⟨#[]⟩) := by go_simp
       have t2 : wc.cell? ⟨w.heap.size, 2, none⟩ = some (.string ⟨#[]⟩) := by go_simp
       have t3 : wc.cell? ⟨w.heap.size, 3, none⟩ = some (.string ⟨#[]⟩) := by go_simp
       refine bodyPost_ret (v := .tuple #[.agg #[.string k, .string v, .string ⟨#[]⟩, .string (s.extract (n + 1) s.size)], .bool true]) zq_54 rfl ⟨?_, ?_⟩
       ·rfl
       ·(repeat' (first | exact Below.refl _ _ | (with_reducible assumption) | (with_reducible refine Below.setCell ?_ zq_12 _) | refine below_then ?_ (by assumption) | (with_reducible refine below_new2 ?_ _) | (with_reducible refine Below.drew ?_) | (with_reducible refine bdrewN ?_ _)))
     ·rw [if_neg h12]; have g6 : ((encNode k v ⟨#[]⟩ (s.extract (n + 1) s.size) x).toList == s.toList) = false := by rw [str_eq]; exact decide_eq_false h12
      clear h12
      go_enter Tryd.func141, Tryd.ntmps141
      go_wp2_with (first | (go_at_call_of 134 (Value.int .i64 0); refine (l2Piece0_any s hs _).mono ?_; rintro e wa ⟨rfl, hb_wa⟩; rw [H1.out]; obtain ⟨hc_wa, hf_wa⟩ := bcell hb_wa; have hz_wa := hb_wa.size; (try simp only [World.size_alloc] at hz_wa); (try simp only [World.size_alloc] at hc_wa); (try simp only [World.size_alloc] at hf_wa); have q0 : w.heap.size < wa.heap.size := (by omega); unfold pieceV) | (go_at_call_of 134 (Value.int .i64 (i : Int)); refine (l2Piece_any s i hs (by omega) _).mono ?_; rintro e wb ⟨rfl, hb_wb⟩; rw [H2.out]; obtain ⟨hc_wb, hf_wb⟩ := bcell hb_wb; have hz_wb := hb_wb.size; (try simp only [World.size_alloc] at hz_wb); (try simp only [World.size_alloc] at hc_wb); (try simp only [World.size_alloc] at hf_wb); have q1 : w.heap.size < wb.heap.size := (by omega); unfold pieceV) | (go_at_call 63; refine (l1Width_any _ _).mono ?_; rintro e wq ⟨rfl, rfl⟩) | (go_at_call 28; refine (specEncodeNode_any _ _ _ _ _ _).mono ?_; rintro e wc ⟨rfl, hb_wc⟩; obtain ⟨hc_wc, hf_wc⟩ := bcell hb_wc; have hz_wc := hb_wc.size; (try simp only [World.size_alloc, World.size_setCell, World.size_drew] at hz_wc); (try simp only [World.size_alloc, World.size_setCell, World.size_drew] at hc_wc); (try simp only [World.size_alloc, World.size_setCell, World.size_drew] at hf_wc); (try have q_w_0_wc : w.heap.size < wc.heap.size := by omega); (try have q_wb_0_wc : wb.heap.size < wc.heap.size := by omega)))
      all_goals
       have t0 : wc.cell? ⟨w.heap.size, 0, none⟩ = some (.string ⟨#[]⟩) := by go_simp
       have t1 : wc.cell? ⟨w.heap.size, 1, none⟩ = some (.string ⟨#[]⟩) := by go_simp
       have t2 : wc.cell? ⟨w.heap.size, 2, none⟩ = some (.string ⟨#[]⟩) := by go_simp
       have t3 : wc.cell? ⟨w.heap.size, 3, none⟩ = some (.string ⟨#[]⟩) := by go_simp
       refine bodyPost_ret (v := .tuple #[.agg #[.string ⟨#[]⟩, .string ⟨#[]⟩, .string ⟨#[]⟩, .string ⟨#[]⟩], .bool false]) zq_54 rfl ⟨?_, ?_⟩
       ·rfl
       ·(repeat' (first | exact Below.refl _ _ | (with_reducible assumption) | (with_reducible refine Below.setCell ?_ zq_12 _) | refine below_then ?_ (by assumption) | (with_reducible refine below_new2 ?_ _) | (with_reducible refine Below.drew ?_) | (with_reducible refine bdrewN ?_ _)))
theorem ext_ext (s : ByteArray) (a b c d : Nat) : (s.extract a b).extract c d = s.extract (a + c) (min (a + d) b) := by
 apply ByteArray.ext
 simp [ByteArray.data_extract, Array.extract_extract]
theorem ext_size (s : ByteArray) (a b : Nat) : (s.extract a b).size = min b s.size - a := by simp
theorem ext_list (s : ByteArray) (a b : Nat) : (s.extract a b).data.toList = (s.data.toList.drop a).take (b - a) := by
 simp [ByteArray.data_extract, Array.toList_extract, List.extract]
theorem text_ok (s : ByteArray) (i m : Nat) (h : i + m ≤ s.size) : textR (s.extract i s.size) false m = (s.extract i (i + m), s.extract (i + m) s.size, false) := by
 unfold textR; have hz := ext_size s i s.size; rw [if_neg (by simp; omega)]; rw [ext_ext, ext_ext, hz]; refine Prod.ext ?_ (Prod.ext ?_ rfl)
 ·show s.extract (i + 0) (min (i + ((m : Nat) : Int).toNat) s.size) = _
  congr 1
  simp; omega
 ·show s.extract (i + ((m : Nat) : Int).toNat) (min (i + (min s.size s.size - i)) s.size) = _
  congr 1
  simp; omega
theorem text_bad (s : ByteArray) (i : Nat) (m : Int) (h : (s.size : Int) < i + m) (hi : i ≤ s.size) : (textR (s.extract i s.size) false m).2.2 = true := by
 unfold textR; have hz := ext_size s i s.size; rw [if_pos (by right; right; rw [hz]; omega)]
theorem text_stays (r : ByteArray) (m : Int) : textR r true m = (⟨#[]⟩, r, true) := by
 unfold textR; rw [if_pos (Or.inl rfl)]
theorem sized_stays (r : ByteArray) : (sizedR r true).2.2 = true := by
 unfold sizedR; rw [text_stays, text_stays]
theorem two_bytes (s : ByteArray) (i : Nat) (h : i + 2 ≤ s.size) : numV (s.extract i (i + 2)).data.toList = byteAt s i * 256 + byteAt s (i + 1) := by
 rw [ext_list]; have hl : s.data.toList.length = s.size := rfl; unfold byteAt; rw [List.drop_eq_getElem_cons (by omega : i < s.data.toList.length), List.drop_eq_getElem_cons (by omega : i + 1 < s.data.toList.length)]; rw [show i + 2 - i = 2 by omega]; simp [numV, List.getD_eq_getElem?_getD, List.getElem?_eq_getElem (by omega : i < s.data.toList.length), List.getElem?_eq_getElem (by omega : i + 1 < s.data.toList.length)]
theorem one_byte (s : ByteArray) (i : Nat) (h : i + 1 ≤ s.size) : numV (s.extract i (i + 1)).data.toList = byteAt s i := by
 rw [ext_list]; have hl : s.data.toList.length = s.size := rfl; unfold byteAt; rw [List.drop_eq_getElem_cons (by omega : i < s.data.toList.length)]; rw [show i + 1 - i = 1 by omega]; simp [numV, List.getD_eq_getElem?_getD, List.getElem?_eq_getElem (by omega : i < s.data.toList.length)]
theorem sized_piece (s : ByteArray) (i : Nat) (hi : i ≤ s.size) : (∀ k n, pieceS s i = some (k, n) → sizedR (s.extract i s.size) false = (k, s.extract n s.size, false)) ∧ (pieceS s i = none → (sizedR (s.extract i s.size) false).2.2 = true) := by
 unfold pieceS sizedR
 by_cases h1 : s.size < i + 2
 ·rw [if_pos h1]; refine ⟨fun k n h => (by cases h), fun _ => ?_⟩; have hb := text_bad s i 2 (by omega) hi; rw [hb, text_stays]
 ·rw [if_neg h1]; have ht := text_ok s i 2 (by omega); rw [show ((2 : Nat) : Int) = 2 from rfl] at ht; rw [ht]; dsimp only; rw [two_bytes s i (by omega)]; generalize byteAt s i * 256 + byteAt s (i + 1) = m
  by_cases h2 : s.size < i + 2 + m
  ·rw [if_pos h2]; refine ⟨fun k n h => (by cases h), fun _ => text_bad s (i + 2) m (by omega) (by omega)⟩
  ·rw [if_neg h2]; refine ⟨fun k n h => ?_, fun h => (by cases h)⟩; simp only [Option.some.injEq, Prod.mk.injEq] at h; obtain ⟨rfl, rfl⟩ := h; exact text_ok s (i + 2) m (by omega)
theorem ext_full (s : ByteArray) : s.extract 0 s.size = s := by
 apply ByteArray.ext
 simp [ByteArray.data_extract]
theorem size0 (q : ByteArray) (h : q.size = 0) : q = ⟨#[]⟩ := by
 apply ByteArray.ext
 have h2 : q.data.size = 0 := h; exact Array.eq_empty_of_size_eq_zero h2
theorem ite_same {α : Type} {p q : Prop} [Decidable p] [Decidable q] (h : p ↔ q) (a b : α) : ite p a b = ite q a b := by
 by_cases hp : p
 ·rw [if_pos hp, if_pos (h.1 hp)]
 ·rw [if_neg hp, if_neg (fun hq => hp (h.2 hq))]
theorem flagsOf_cases (l r : ByteArray) : flagsOf l r = (if l.size = 0 then 0 else 1) + (if r.size = 0 then 0 else 2) := rfl
theorem nodeOk_right {k v l r : ByteArray} {x : Int} (h : nodeOk k v l r x = true) : r.size = 0 ∨ (r.size : Int) = x := by
 unfold nodeOk hOk at h; simp only [Bool.and_eq_true, Bool.or_eq_true, decide_eq_true_eq] at h; omega
theorem tail_same (k v l q : ByteArray) (x : Int) (f : Nat) (hx : isW x = true) (hl : (l.size = 0 ∧ f % 2 = 0) ∨ (l.size ≠ 0 ∧ f % 2 = 1)) :
  (if nodeOk k v l q x = true ∧ flagsOf l q = (f : Int) then some (k, v, l, q) else none) =
   (if isW x = true ∧ (optText (decide (f / 2 % 2 = 1)) (l, q, false) x).2.2 = false ∧ (optText (decide (f / 2 % 2 = 1)) (l, q, false) x).2.1.size = 0 ∧ f ≤ 3 ∧ nodeOk k v l (optText (decide (f / 2 % 2 = 1)) (l, q, false) x).1 x = true then some (k, v, l, (optText (decide (f / 2 % 2 = 1)) (l, q, false) x).1) else none) := by
 have hx2 : 1 ≤ x ∧ x ≤ 32 := by unfold isW at hx; simp at hx; omega
 rw [flagsOf_cases]
 by_cases hb : f / 2 % 2 = 1
 ·have ho : optText (decide (f / 2 % 2 = 1)) (l, q, false) x = textR q false x := by unfold optText; rw [if_pos (by simpa using hb)]
  rw [ho]
  by_cases h1 : (q.size : Int) < x
  ·have ht : textR q false x = (⟨#[]⟩, q, true) := by unfold textR; rw [if_pos (Or.inr (Or.inr h1))]
   rw [ht, if_neg, if_neg]
   ·intro h; exact Bool.noConfusion h.2.1
   ·rintro ⟨h2, h3⟩; have h4 := nodeOk_right h2; have h5 : q.size = 0 := by omega
    rw [if_pos h5] at h3
    split at h3 <;> omega
  ·have ht : textR q false x = (q.extract 0 x.toNat, q.extract x.toNat q.size, false) := by
    unfold textR; rw [if_neg (by simp; omega)]
   rw [ht]
   by_cases h2 : (q.size : Int) = x
   ·have e1 : q.extract 0 x.toNat = q := by rw [show x.toNat = q.size by omega]; exact ext_full q
    have e2 : (q.extract x.toNat q.size).size = 0 := by rw [ext_size]; omega
    have h0 : q.size ≠ 0 := by omega
    dsimp only; rw [e1, e2, if_neg h0]; refine ite_same ?_ _ _
    constructor
    ·rintro ⟨h3, h4⟩; refine ⟨hx, rfl, rfl, ?_, h3⟩
     split at h4 <;> omega
    ·rintro ⟨_, _, _, h3, h4⟩; refine ⟨h4, ?_⟩
     split <;> omega
   ·rw [if_neg, if_neg]
    ·rintro ⟨_, _, h3, _⟩; dsimp only at h3; rw [ext_size] at h3; omega
    ·rintro ⟨h3, h4⟩; have h5 := nodeOk_right h3; have h6 : q.size = 0 := by omega
     omega
 ·have ho : optText (decide (f / 2 % 2 = 1)) (l, q, false) x = (⟨#[]⟩, q, false) := by unfold optText; rw [if_neg (by simpa using hb)]
  rw [ho]; dsimp only
  by_cases h0 : q.size = 0
  ·rw [if_pos h0, size0 q h0]; refine ite_same ?_ _ _
   constructor
   ·rintro ⟨h3, h4⟩; refine ⟨hx, rfl, rfl, ?_, h3⟩
    split at h4 <;> omega
   ·rintro ⟨_, _, _, h3, h4⟩; refine ⟨h4, ?_⟩
    split <;> omega
  ·rw [if_neg, if_neg]
   ·rintro ⟨_, _, h3, _⟩; exact h0 h3
   ·rintro ⟨h3, h4⟩; rw [if_neg h0] at h4
    split at h4 <;> omega
theorem piece_parts {s k : ByteArray} {i n : Nat} (h : pieceS s i = some (k, n)) : s.extract i n = sizedS k := by
 unfold pieceS at h
 split at h
 ·cases h
 ·split at h
  ·cases h
  ·rename_i h1 h2
   simp only [Option.some.injEq, Prod.mk.injEq] at h; obtain ⟨rfl, rfl⟩ := h; have hm := byteAt_lt s i; have hl := byteAt_lt s (i + 1); have hz : (s.extract (i + 2) (i + 2 + (byteAt s i * 256 + byteAt s (i + 1)))).size = byteAt s i * 256 + byteAt s (i + 1) := by rw [ext_size]; omega
   have hs : s.data.toList.length = s.size := rfl; unfold sizedS; rw [hz, show (((byteAt s i * 256 + byteAt s (i + 1) : Nat) : Int) / 256) = (byteAt s i : Int) by omega, show (((byteAt s i * 256 + byteAt s (i + 1) : Nat) : Int) % 256) = (byteAt s (i + 1) : Int) by omega]; generalize byteAt s i * 256 + byteAt s (i + 1) = m at *; rw [byteS_list, byteS_list]
   apply ByteArray.ext
   apply Array.toList_inj.mp
   rw [ByteArray.data_append, ByteArray.data_append, Array.toList_append, Array.toList_append, ext_list, ext_list]; rw [List.drop_eq_getElem_cons (by omega : i < s.data.toList.length), List.drop_eq_getElem_cons (by omega : i + 1 < s.data.toList.length)]; rw [show i + 2 + m - i = m + 2 by omega, show i + 2 + m - (i + 2) = m by omega]; unfold byteAt; simp [List.getD_eq_getElem?_getD, List.getElem?_eq_getElem (by omega : i < s.data.toList.length), List.getElem?_eq_getElem (by omega : i + 1 < s.data.toList.length)]
theorem ext_join (s : ByteArray) (a b c : Nat) (h1 : a ≤ b) (h2 : b ≤ c) : s.extract a b ++ s.extract b c = s.extract a c := by
 apply ByteArray.ext
 apply Array.toList_inj.mp
 rw [ByteArray.data_append, Array.toList_append, ext_list, ext_list, ext_list]; rw [show c - a = (b - a) + (c - b) by omega, List.take_add, List.drop_drop, show a + (b - a) = b by omega]
theorem one_ext (s : ByteArray) (n : Nat) (h : n < s.size) : s.extract n (n + 1) = byteS (byteAt s n) := by
 have hs : s.data.toList.length = s.size := rfl; rw [byteS_list]
 apply ByteArray.ext
 apply Array.toList_inj.mp
 rw [ext_list, List.drop_eq_getElem_cons (by omega : n < s.data.toList.length), show n + 1 - n = 1 by omega]; unfold byteAt; simp [List.getD_eq_getElem?_getD, List.getElem?_eq_getElem (by omega : n < s.data.toList.length)]
theorem text_parts {s k v : ByteArray} {i n : Nat} (h1 : pieceS s 0 = some (k, i)) (h2 : pieceS s i = some (v, n)) (hn : n < s.size) :
  s = sizedS k ++ sizedS v ++ byteS (byteAt s n) ++ s.extract (n + 1) s.size := by
 have a1 := pieceS_le h1; have a2 := pieceS_le h2; rw [← piece_parts h1, ← piece_parts h2, ← one_ext s n hn, ext_join s 0 i n (by omega) (by omega), ext_join s 0 n (n + 1) (by omega) (by omega), ext_join s 0 (n + 1) s.size (by omega) (by omega), ext_full]
theorem enc_iff (s k v l q rest : ByteArray) (f : Nat) (x : Int) (hf : f < 256) (hs : s = sizedS k ++ sizedS v ++ byteS f ++ rest) (hr : rest = l ++ q) :
  encNode k v l q x = s ↔ nodeOk k v l q x = true ∧ flagsOf l q = (f : Int) := by
 subst hr; unfold encNode
 by_cases hok : nodeOk k v l q x = true
 ·rw [if_pos hok]; have hfl : flagsOf l q = 0 ∨ flagsOf l q = 1 ∨ flagsOf l q = 2 ∨ flagsOf l q = 3 := by
   rw [flagsOf_cases]
   split <;> split <;> simp
  obtain ⟨g, hg, hg2⟩ : ∃ g : Nat, flagsOf l q = (g : Int) ∧ g < 256 := by
   rcases hfl with h | h | h | h
   ·exact ⟨0, h, by omega⟩
   ·exact ⟨1, h, by omega⟩
   ·exact ⟨2, h, by omega⟩
   ·exact ⟨3, h, by omega⟩
  rw [hg]
  constructor
  ·intro h; refine ⟨hok, ?_⟩; rw [hs] at h; have h2 := congrArg (fun z : ByteArray => z.data.toList) h; simp only [byteS_list, ByteArray.data_append, Array.toList_append, List.append_assoc, List.append_cancel_left_eq] at h2; simp only [List.cons_append, List.nil_append, List.cons.injEq] at h2; have h3 := congrArg UInt8.toNat h2.1; rw [UInt8.toNat_ofNat', UInt8.toNat_ofNat'] at h3; omega
  ·rintro ⟨_, h⟩; have hgf : g = f := by omega
   rw [hs, hgf]; simp only [ByteArray.append_assoc]
 ·rw [if_neg hok]
  constructor
  ·intro h; have h2 : (0 : Nat) = (sizedS k ++ sizedS v ++ byteS f ++ (l ++ q)).size := congrArg ByteArray.size (h.trans hs); simp only [ByteArray.size_append, byteS_size] at h2; omega
  ·rintro ⟨h, _⟩; exact absurd h hok
theorem stays_text (r : ByteArray) (bad : Bool) (m : Int) (h : bad = true) : (textR r bad m).2.2 = true := by
 subst h; rw [text_stays]
theorem stays_opt (p : Bool) (t : ByteArray × ByteArray × Bool) (x : Int) (h : t.2.2 = true) : (optText p t x).2.2 = true := by
 unfold optText
 split
 ·exact stays_text _ _ _ h
 ·exact h
theorem tail_bad (k : ByteArray) (V : ByteArray × ByteArray × Bool) (x : Int) (h : V.2.2 = true) :
  (optText (decide (numV (textR V.2.1 V.2.2 1).1.data.toList / 2 % 2 = 1)) (optText (decide (numV (textR V.2.1 V.2.2 1).1.data.toList % 2 = 1)) (textR V.2.1 V.2.2 1) x) x).2.2 = true :=
 stays_opt _ _ x (stays_opt _ _ x (stays_text _ _ 1 h))
theorem dec_same (s : ByteArray) (x : Int) : decS s x = decI s x := by
 unfold decS decI; dsimp only
 by_cases hx : isW x = true
 ·rcases h1 : pieceS s 0 with _ | ⟨k, i⟩
  ·have hb := (sized_piece s 0 (Nat.zero_le _)).2 h1; rw [ext_full] at hb; have hc : (sizedR (sizedR s false).2.1 (sizedR s false).2.2).2.2 = true := by rw [hb]; exact sized_stays _
   have hd := tail_bad s _ x hc; rw [if_neg]; rintro ⟨_, h, _⟩; rw [hd] at h
   cases h
  ·have hk := (sized_piece s 0 (Nat.zero_le _)).1 k i h1; rw [ext_full] at hk; have hi := pieceS_le h1; rw [hk]; dsimp only
   rcases h2 : pieceS s i with _ | ⟨v, n⟩
   ·have hc := (sized_piece s i hi.1).2 h2; have hd := tail_bad s _ x hc; rw [if_neg]; rintro ⟨_, h, _⟩; rw [hd] at h
    cases h
   ·have hv := (sized_piece s i hi.1).1 v n h2; have hn := pieceS_le h2; rw [hv]; dsimp only
    by_cases h3 : s.size ≤ n
    ·rw [if_pos (Or.inl h3)]; have hc := text_bad s n 1 (by omega) hn.1; have hd := stays_opt (decide (numV (textR (s.extract n s.size) false 1).1.data.toList / 2 % 2 = 1)) _ x (stays_opt (decide (numV (textR (s.extract n s.size) false 1).1.data.toList % 2 = 1)) _ x hc); rw [if_neg]; rintro ⟨_, h, _⟩; rw [hd] at h
     cases h
    ·rw [if_neg (by rw [hx]; simp; omega)]; have hf := text_ok s n 1 (by omega); rw [show ((1 : Nat) : Int) = 1 from rfl] at hf; rw [hf]; dsimp only; rw [one_byte s n (by omega)]; have hp := text_parts h1 h2 (by omega); have hlt := byteAt_lt s n; generalize byteAt s n = f at hp hlt ⊢; have hrz : (s.extract (n + 1) s.size).size = s.size - (n + 1) := by rw [ext_size]; omega
     generalize s.extract (n + 1) s.size = rest at hp hrz ⊢; generalize s.extract n (n + 1) = ft
     by_cases hodd : f % 2 = 1
     ·rw [if_pos hodd, ← hrz]; have ho : optText (decide (f % 2 = 1)) (ft, rest, false) x = textR rest false x := by unfold optText; rw [if_pos (by simpa using hodd)]
      rw [ho]; have hx2 : 1 ≤ x ∧ x ≤ 32 := by unfold isW at hx; simp at hx; omega
      by_cases h4 : ((rest.size : Nat) : Int) < x
      ·rw [if_pos h4, if_neg]; rintro ⟨_, h, _⟩; have hc : (textR rest false x).2.2 = true := by unfold textR; rw [if_pos (Or.inr (Or.inr h4))]
       have hd := stays_opt (decide (f / 2 % 2 = 1)) _ x hc; rw [hd] at h
       cases h
      ·rw [if_neg h4]; have ht : textR rest false x = (rest.extract 0 x.toNat, rest.extract x.toNat rest.size, false) := by
        unfold textR; rw [if_neg (by simp; omega)]
       rw [ht]; have hj : rest = rest.extract 0 x.toNat ++ rest.extract x.toNat rest.size := by rw [ext_join rest 0 x.toNat rest.size (by omega) (by omega), ext_full]
       have hls : (rest.extract 0 x.toNat).size = x.toNat := by rw [ext_size]; omega
       unfold finS; rw [ite_same (enc_iff s k v _ _ rest f x hlt hp hj)]; exact tail_same k v _ _ x f hx (Or.inr ⟨by omega, hodd⟩)
     ·rw [if_neg hodd]; have ho : optText (decide (f % 2 = 1)) (ft, rest, false) x = (⟨#[]⟩, rest, false) := by unfold optText; rw [if_neg (by simpa using hodd)]
      rw [ho]; have hj : rest = (⟨#[]⟩ : ByteArray) ++ rest := by apply ByteArray.ext; simp [ByteArray.data_append]
      unfold finS; rw [ite_same (enc_iff s k v _ _ rest f x hlt hp hj)]; exact tail_same k v _ _ x f hx (Or.inl ⟨rfl, by omega⟩)
 ·have hx' : isW x = false := by simpa using hx
  rw [if_neg (fun h => hx h.1)]
  rcases h1 : pieceS s 0 with _ | ⟨k, i⟩
  ·rfl
  ·dsimp only
   rcases h2 : pieceS s i with _ | ⟨v, n⟩
   ·rfl
   ·dsimp only; rw [if_pos (Or.inr hx')]
end Go.Proofs.YtonbmghgbblifaaDoor
end
section
namespace Go.Proofs.YtonbmghgbblifaaDoor.Z
open RowKit YtonbmghgbblifaaDoor
set_option linter.all false
def decT : Option (ByteArray × ByteArray × ByteArray × ByteArray) → ByteArray × ByteArray × ByteArray × ByteArray × Bool
 | none => (⟨#[]⟩, ⟨#[]⟩, ⟨#[]⟩, ⟨#[]⟩, false)
 | some (a, b, c, d) => (a, b, c, d, true)
def spec_DecodeNode.f (a0 : ByteArray) (a1 : Int) : Option (ByteArray × ByteArray × ByteArray × ByteArray × Bool) := if a0.size ≤ 4294967296 then some (decT (decI a0 a1)) else none
theorem spec_DecodeNode.calls (a0 : ByteArray) (a1 : Int) (r1 r2 r3 r4 : ByteArray) (r5 : Bool) (w : World) (h : spec_DecodeNode.f a0 a1 = some (r1, r2, r3, r4, r5)) :
  Calls Tryd.prog 141 #[.string a0, .int .i64 a1] w fun e w' => e = .returned (.tuple #[.agg #[.string r1, .string r2, .string r3, .string r4], .bool r5]) ∧ Below w.heap.size w w' := by
 unfold spec_DecodeNode.f at h
 split at h
 ·rename_i hs
  have h := Option.some.inj h; refine (specDecodeNode_any a0 a1 hs w).mono ?_; rintro e w' ⟨rfl, hb⟩; rw [dec_same]; refine ⟨?_, hb⟩
  rcases hz : decI a0 a1 with _ | ⟨a, b, c, d⟩
  all_goals
   rw [hz] at h; simp only [decT, Prod.mk.injEq] at h; obtain ⟨rfl, rfl, rfl, rfl, rfl⟩ := h; rfl
 ·cases h
end Go.Proofs.YtonbmghgbblifaaDoor.Z
end
section
namespace Go.Proofs.YtonbmghgbblifaaDoor.Z
open RowKit YtonbmghgbblifaaDoorW.PrintWords YtonbmghgbblifaaDoorW.PrintLast YtonbmghgbblifaaDoorW.PrintMore
attribute [local go_sem] max2_int min2_int max_two min_two max_three min_three max_four min_four
set_option linter.all false
def impl_isWidth.f (a0 : Int) : Option (Bool) := if a0 ≥ 1 then (some (decide (a0 ≤ 32))) else (some false)
set_option maxHeartbeats 8000000 in
set_option maxRecDepth 100000 in
theorem impl_isWidth.calls (a0 : Int) (r : Bool) (w : World) (h : impl_isWidth.f a0 = some r) :
  Calls Tryd.prog 66 #[.int .i64 a0] w fun e w' => e = .returned (.bool r) ∧ Drawn0 w w' := by
 have H : (if a0 ≥ 1 then (some (decide (a0 ≤ 32))) else (some false)) = some r := h; clear h
 by_cases c2 : a0 ≥ 1
 ·rw [if_pos c2] at H; have c2b0 : decide (1 ≤ a0) = true := decide_eq_true c2; clear c2; obtain rfl := Option.some.inj H
  go_enter Tryd.func66, Tryd.ntmps66
  go_wp2
  go_ret
  exact ⟨by first | rfl | (simp; done) | (simp [*]; done), by repeat (first | exact Drawn0.refl _ | apply Drawn0.step)⟩
 ·rw [if_neg c2] at H; have c2b0 : decide (1 ≤ a0) = false := decide_eq_false c2; clear c2; obtain rfl := Option.some.inj H
  go_enter Tryd.func66, Tryd.ntmps66
  go_wp2
  go_ret
  exact ⟨by first | rfl | (simp; done) | (simp [*]; done), by repeat (first | exact Drawn0.refl _ | apply Drawn0.step)⟩
def impl_Pool_valid.f (a0_0 : Int) (l0_1 : List ByteArray) : Option (Bool) := (impl_isWidth.f a0_0).bind fun t480002 => (if t480002 = true then (some (decide ((l0_1.length : Int) ≤ 20000))) else (some false))
set_option maxHeartbeats 8000000 in
set_option maxRecDepth 100000 in
theorem impl_Pool_valid.calls (a0_0 : Int) (A0_1 : Option Addr) (c0_1 : Nat) (l0_1 : List ByteArray) (r : Bool) (w : World) (hr0_1 : Kd.C Kd.string w A0_1 l0_1.length l0_1) (hc0_1 : l0_1.length ≤ c0_1) (h : impl_Pool_valid.f a0_0 l0_1 = some r) :
  Calls Tryd.prog 48 #[.agg #[.int .i64 a0_0, .slice A0_1 l0_1.length c0_1]] w fun e w' => e = .returned (.bool r) ∧ Below w.heap.size w w' := by
 have hu34 := Tryd.underlying34; have HR0_1 := Aside0.mk hr0_1; have HC0_1 := Aside0.mk hc0_1; clear hr0_1 hc0_1; have HB := Aside0.mk (Below.refl w.heap.size w); have H : ((impl_isWidth.f a0_0).bind fun t480002 => (if t480002 = true then (some (decide ((l0_1.length : Int) ≤ 20000))) else (some false))) = some r := h; clear h; replace H := Option.bind_eq_some_iff.mp H; obtain ⟨t480002, A20, H⟩ := H; (try dsimp only at H); have A2 := Aside0.mk A20; clear A20
 by_cases c3 : t480002 = true
 ·subst c3; have H1 : (some (decide ((l0_1.length : Int) ≤ 20000))) = some r := by rw [if_pos rfl] at H; exact H
  clear H; have H := H1; clear H1; obtain rfl := Option.some.inj H
  go_enter Tryd.func48, Tryd.ntmps48
  go_wp2_with (first | ((with_reducible refine gate_dst (N := 1) rfl ?_); (try (refine gate_guard (by rfl) ?_; dsimp only)); refine box_event ?hg (N := 1) ?hd (cs := #[.int .i64 a0_0, .slice A0_1 l0_1.length c0_1]) (t := 34) ?hr ?_; (case hd => rfl); (case hg => rfl); (case hr => exact zq_14); intro gb480001 hg w4 hbox hb; have n0_ := Aside0.mk (below_step zq_0 hb); have n1_ := Aside0.mk (hbox); have n2_ := Aside0.mk ((by rw [hg]; exact (below_size zq_0) : w.heap.size ≤ gb480001)); have n3_ := Aside0.mk ((by rw [hg]; exact (below_size zq_0) : w.heap.size ≤ gb480001)); clear HB; have HB := n0_; have BK480001 := n1_; have GW480001 := n2_; have GE480001 := n3_; clear n0_ n1_ n2_ n3_; clear hb hbox hg; have hcz5_0 : w4.cell? ⟨gb480001, 0, none⟩ = some (.int .i64 a0_0) := (blk_cell BK480001.out 0).trans rfl; have hcz5_1 : w4.cell? ⟨gb480001, 1, none⟩ = some (.slice A0_1 l0_1.length c0_1) := (blk_cell BK480001.out 1).trans rfl; have hfz5_0 := blk_frozen BK480001.out 0; have hfz5_1 := blk_frozen BK480001.out 1) | ((with_reducible refine gate_callee (f := 66) rfl ?_); refine goesL_ (some 5) rfl rfl Tryd.func66 (by kernel_rfl) rfl #[.int .i64 a0_0] rfl zq_1 ?_; (with_reducible refine (impl_isWidth.calls a0_0 true _ A2.out).mono ?_); rintro e w' ⟨rfl, ⟨nd, rfl⟩⟩; refine ⟨_, rfl, ?_⟩))
  go_ret
  exact ⟨by first | rfl | (simp [errW_none, errW_some] <;> rfl) | (simp [*, errW_none, errW_some] <;> rfl), by repeat (first | (with_reducible first | exact HB.out | apply below_alloc | apply pw_below_drewN | apply below_drew1 | refine below_set ?_ GE480001.out) | exact HB.out)⟩
 ·replace c3 := Bool.eq_false_iff.mpr c3; subst c3; have H1 : (some false) = some r := by rw [if_neg (show ¬ (false = true) by decide)] at H; exact H
  clear H; have H := H1; clear H1; obtain rfl := Option.some.inj H
  go_enter Tryd.func48, Tryd.ntmps48
  go_wp2_with (first | ((with_reducible refine gate_dst (N := 1) rfl ?_); (try (refine gate_guard (by rfl) ?_; dsimp only)); refine box_event ?hg (N := 1) ?hd (cs := #[.int .i64 a0_0, .slice A0_1 l0_1.length c0_1]) (t := 34) ?hr ?_; (case hd => rfl); (case hg => rfl); (case hr => exact zq_14); intro gb480001 hg w6 hbox hb; have n0_ := Aside0.mk (below_step zq_0 hb); have n1_ := Aside0.mk (hbox); have n2_ := Aside0.mk ((by rw [hg]; exact (below_size zq_0) : w.heap.size ≤ gb480001)); have n3_ := Aside0.mk ((by rw [hg]; exact (below_size zq_0) : w.heap.size ≤ gb480001)); clear HB; have HB := n0_; have BK480001 := n1_; have GW480001 := n2_; have GE480001 := n3_; clear n0_ n1_ n2_ n3_; clear hb hbox hg; have hcz7_0 : w6.cell? ⟨gb480001, 0, none⟩ = some (.int .i64 a0_0) := (blk_cell BK480001.out 0).trans rfl; have hcz7_1 : w6.cell? ⟨gb480001, 1, none⟩ = some (.slice A0_1 l0_1.length c0_1) := (blk_cell BK480001.out 1).trans rfl; have hfz7_0 := blk_frozen BK480001.out 0; have hfz7_1 := blk_frozen BK480001.out 1) | ((with_reducible refine gate_callee (f := 66) rfl ?_); refine goesL_ (some 5) rfl rfl Tryd.func66 (by kernel_rfl) rfl #[.int .i64 a0_0] rfl zq_1 ?_; (with_reducible refine (impl_isWidth.calls a0_0 false _ A2.out).mono ?_); rintro e w' ⟨rfl, ⟨nd, rfl⟩⟩; refine ⟨_, rfl, ?_⟩))
  go_ret
  exact ⟨by first | rfl | (simp [errW_none, errW_some] <;> rfl) | (simp [*, errW_none, errW_some] <;> rfl), by repeat (first | (with_reducible first | exact HB.out | apply below_alloc | apply pw_below_drewN | apply below_drew1 | refine below_set ?_ GE480001.out) | exact HB.out)⟩
end Go.Proofs.YtonbmghgbblifaaDoor.Z
end
section
namespace Go.Proofs.YtonbmghgbblifaaDoor.Z
open RowKit YtonbmghgbblifaaDoor YtonbmghgbblifaaDoorW.PrintWords YtonbmghgbblifaaDoorW.PrintLast
set_option linter.all false
set_option maxRecDepth 100000
theorem idxAdd_any (base b m : Nat) (v : Value) (W : Int) (encs : List ByteArray) (C : List (List Int)) (c : List Int) (s : ByteArray) (w : World) (h : Idx base b m v W encs C w) (hc : H32 c) (hn : encs.length ≤ 1073741824) (hbase : base ≤ w.heap.size) :
  Calls Tryd.prog 107 #[.pointer (some ⟨b, 0, none⟩), hashV c, .string s] w fun e w' => e = .returned (.tuple #[]) ∧ (∃ v', Idx base b m v' W (encs ++ [s]) (C ++ [c]) w') ∧ Below base w w' := by
 cases hi : firstAt C c with
 | none => exact idxAdd_new base b m v W encs C c s w h hc hi hn hbase
 | some i => exact idxAdd_old base b m v W encs C c s i w h hc hi hn hbase
theorem outB_mem (st : List Int) : ∀ n, ∀ x ∈ outB st n, 0 ≤ x ∧ x < 256
 | 0, x, hx => by simp [outB] at hx
 | n + 1, x, hx => by
  rw [outB] at hx
  rcases List.mem_append.1 hx with h | h
  ·exact outB_mem st n x h
  ·simp only [wordB, List.mem_cons, List.not_mem_nil, or_false] at h
   rcases h with rfl | rfl | rfl | rfl <;> omega
theorem shaL_mem (l : List UInt8) : ∀ x ∈ shaL l, 0 ≤ x ∧ x < 256 := outB_mem _ _
theorem cut_H32 (s : ByteArray) (n : Nat) (hn : n ≤ 32) : H32 (cutL s n) := by
 refine ⟨cutL_length s n hn, fun x hx => ?_⟩; unfold cutL at hx
 rcases List.mem_append.1 hx with h | h
 ·exact shaL_mem _ x (List.mem_of_mem_take h)
 ·have := List.eq_of_mem_replicate h; omega
def cuts (n : Nat) (encs : List ByteArray) : List (List Int) := encs.map fun s => cutL s n
theorem strs_read {w : World} {A : Option Addr} {l : List ByteArray} (h : Kd.C Kd.string w A l.length l) (hn : 0 < l.length) : ∃ ad, A = some ad ∧ ∀ i (hi : i < l.length), w.cell? (ad.add i) = some (.string l[i]) := by
 obtain ⟨ad, e, hc⟩ := h.2.2 hn; refine ⟨ad, e, fun i hi => ?_⟩; obtain ⟨c, hs, hr, hcell⟩ := hc i _ (List.getElem?_eq_getElem hi); have : c = [.string l[i]] := hr; subst this; have := hcell 0 _ rfl
 simpa [Kd.string, Kd.scalar] using this
set_option maxHeartbeats 2000000 in
theorem index_any (n : Nat) (hn1 : 1 ≤ n) (hn2 : n ≤ 32) (A : Option Addr) (c0 : Nat) (encs : List ByteArray) (w : World) (hr : Kd.C Kd.string w A encs.length encs) (hc : encs.length ≤ c0) (hlen : encs.length ≤ 1048576) (hsz : ∀ s ∈ encs, s.size ≤ 1048576) (ht : Tab w) :
  Calls Tryd.prog 49 #[.agg #[.int .i64 n, .slice A encs.length c0]] w fun e w' => (∃ b m v, e = .returned (.pointer (some ⟨b, 0, none⟩)) ∧ Idx w.heap.size b m v n encs (cuts n encs) w') ∧ Below w.heap.size w w' := by
 have HT := Lib.hid ht; clear ht; have HR := Lib.hid hr; clear hr; have HS := Lib.hid hsz; clear hsz; have hmm := @run_makeMap Tryd.prog; have hw0 : (w.alloc (.cells #[.int .i64 (n : Int), .slice A encs.length c0] 34)).heap[w.heap.size]? = some (.cells #[.int .i64 (n : Int), .slice A encs.length c0] 34 (0, 0)) := heap_alloc_new _ _; obtain ⟨W0, hW0⟩ : ∃ W0, W0 = w.alloc (.cells #[.int .i64 (n : Int), .slice A encs.length c0] 34) := ⟨_, rfl⟩
 have hz0 : W0.heap.size = w.heap.size + 1 := by rw [hW0]; simp
 have hB0 : Below w.heap.size w W0 := by rw [hW0]; exact (Below.refl _ _).alloc (Nat.le_refl _) _
 have HW0 := Lib.hid hw0; clear hw0; have HZ0 := Lib.hid hz0; clear hz0; have HB0 := Lib.hid hB0; clear hB0; have HWE := Lib.hid hW0; clear hW0
 go_enter Tryd.func49, Tryd.ntmps49
 go_wp2_with fail
 go_loopw [14] (fun i wr => ∃ j : Nat, j ≤ encs.length ∧ i = .int .i64 j ∧ (∃ v, Idx (w.heap.size + 1) (w.heap.size + 1 + 1) (w.heap.size + 1) v n (encs.take j) (cuts n (encs.take j)) wr) ∧ Below (w.heap.size + 1) W0 wr) (fun i _ => encs.length - (intOf i).toNat)
 case atStart =>
  refine ⟨0, by omega, rfl, ⟨.slice none 0 0, ?_⟩, ?_⟩
  ·rw [← HWE.out]; have hz := HZ0.out; refine ⟨?_, Own.nil _ _ _, ⟨.map [], ?_, PlaceIs.start⟩, by omega, by omega, by omega, by simp [Value.ownBlock], by simp [Value.ownBlock], rfl⟩
   ·have h := heap_alloc_new (W0.alloc (.map #[] 0)) (.cells #[.int .i64 (n : Int), .slice none 0 0, .map (some (w.heap.size + 1))] 163); rw [show (W0.alloc (.map #[] 0)).heap.size = w.heap.size + 1 + 1 by simp [hz]] at h; exact h
   ·have h := World.ownsMap_made W0 Tryd.prog 123 (plainElem (H := Unit) Tryd.prog 3); rw [hz] at h; exact h.alloc _
  ·rw [← HWE.out]; have hz := HZ0.out; exact ((Below.refl _ _).alloc (by omega) _).alloc (by simp; omega) _
 case round =>
  obtain ⟨j, hj, rfl, ⟨v, hI⟩, hB⟩ := hrel; have HI := Lib.hid hI; clear hI; have HB := Lib.hid hB; clear hB; have hrow : wr.heap[w.heap.size]? = some (.cells #[.int .i64 (n : Int), .slice A encs.length c0] 34 (0, 0)) := (HB.out.block _ (by omega)).trans (by rw [HWE.out]; exact HW0.out); have r0 : wr.cell? ⟨w.heap.size, 0, none⟩ = some (.int .i64 (n : Int)) := (cell_of_row _ _ _ _ _ _ hrow).trans rfl; have hBw : Below w.heap.size w wr := HB0.out.trans (HB.out.mono (by omega)); have HBw := Lib.hid hBw; clear hBw; clear hrow
  by_cases hl : j < encs.length
  ·obtain ⟨ad, rfl, had⟩ := strs_read HR.out (by omega); have hcell := cellB HBw.out (had j hl); have hs := HS.out encs[j] (List.getElem_mem _); obtain ⟨s, hse⟩ : ∃ s, encs[j] = s := ⟨_, rfl⟩
   rw [hse] at hcell hs; have HSE := Lib.hid hse; clear had hse; have j0 : (0 : Int) ≤ (j : Int) := by omega
   go_wp2_with fail
   refine (cut_any s n hn1 hn2 (by omega) _ (HT.out.below HBw.out)).mono ?_; rintro e w1 ⟨rfl, hb1⟩; have HI1 := Lib.hid (HI.out.below hb1); have hz1 := Nat.le_trans HB.out.size hb1.size; have hB1 : Below (w.heap.size + 1) W0 w1 := HB.out.trans (hb1.mono (by have := HB.out.size; have := HZ0.out; omega)); have HB1 := Lib.hid hB1; have hlt1 : (encs.take j).length ≤ 1073741824 := by rw [List.length_take]; omega
   have HLT := Lib.hid hlt1; have HZ1 := Lib.hid hz1; clear hcell hs r0 hb1 hz1 hB1 hlt1
   go_wp2_with fail
   refine (idxAdd_any _ _ _ _ _ _ _ _ s _ HI1.out (cut_H32 s n hn2) HLT.out (by have := HZ1.out; have := HZ0.out; omega)).mono ?_; rintro e w2 ⟨rfl, ⟨v2, hI2⟩, hb2⟩; have HI2 := Lib.hid hI2; clear hI2; have HB2 := Lib.hid hb2; clear hb2
   go_wp2
   go_roundw
   case rel =>
    refine ⟨j + 1, by omega, by go_num, ⟨v2, ?_⟩, HB1.out.trans HB2.out⟩; have h := HI2.out; rw [List.take_succ_eq_append_getElem hl, HSE.out]; unfold cuts at h ⊢; rw [List.map_append]; exact h
   case measure => simp [intOf]; omega
  ·obtain rfl : j = encs.length := by omega
   rw [List.take_length] at HI
   go_wp2
   go_ret
   refine ⟨⟨w.heap.size + 1 + 1, w.heap.size + 1, v, rfl, ?_⟩, HBw.out⟩; have h := HI.out; exact { h with own := h.own.lower (by omega), hb := by omega, hm := by omega }
theorem wpList_copyR {P : Program} {w : World} {ops : Array Oper} {rest : List Oper} {o : Oper} {a : Act} {Q : Exit → Act → World → Prop} (hgd : o.guard = none) (d s : Operand) (t t' : TypeId)
  (ho : o.op = .call { callee := .builtin .copy, args := #[d, s], argTypes := #[t, t'] }) {v u : Value} (hd : a.eval d = v) (hs : a.eval s = u) {v' : Value} {w' : World}
  (hr : (Builtin.copy_ #[t, t'] o.type #[v, u]).run P w = .ok v' w') (h : wpList P ops Q rest (a.put o.dst v') w') : wpList P ops Q (o :: rest) a w := by
 refine wpList_plain hgd fun K hK' => ?_
 unfold Oper.wp execOp; simp only [ho, resolve, invoke, builtin, Sem.run_bind, Sem.run_pure, Result.andThen_ok, List.map_toArray, List.map_cons, List.map_nil, hd, hs, hr]; exact hK' _ _ h
def rootL (s : ByteArray) : List Int := ints s.data.toList ++ List.replicate (32 - s.size) 0
theorem rootL_H32 (s : ByteArray) (h : s.size ≤ 32) : H32 (rootL s) := by
 have hl : s.data.toList.length = s.size := rfl; refine ⟨by unfold rootL; rw [List.length_append, ints_length, hl, List.length_replicate]; omega, fun x hx => ?_⟩; unfold rootL at hx
 rcases List.mem_append.1 hx with h | h
 ·exact ints_mem _ x h
 ·have := List.eq_of_mem_replicate h; omega
def findR (n : Nat) (encs : List ByteArray) (C : List (List Int)) (root : ByteArray) : ByteArray × ByteArray × ByteArray × ByteArray × Int :=
 match firstAt C (rootL root) with
 | none => (⟨#[]⟩, ⟨#[]⟩, ⟨#[]⟩, ⟨#[]⟩, 2)
 | some i => match decI (encs.getD i ⟨#[]⟩) n with
  | none => (⟨#[]⟩, ⟨#[]⟩, ⟨#[]⟩, ⟨#[]⟩, 3)
  | some (a, b, c, d) => (a, b, c, d, 0)
def findV (r : ByteArray × ByteArray × ByteArray × ByteArray × Int) : Value := .tuple #[.agg #[.string r.1, .string r.2.1, .string r.2.2.1, .string r.2.2.2.1], .int .i64 r.2.2.2.2]
theorem run_copyRoot (s : ByteArray) (hs : s.size ≤ 32) (g : Nat) (ty : TypeId) (W : World) (hg : W.heap[g]? = some (.cells (List.replicate 32 (Value.int .u8 0)).toArray 123 (0, 0))) :
  (Builtin.copy_ #[47, 9] ty #[.slice (some ⟨g, 0, none⟩) 32 32, .string s]).run Tryd.prog W = .ok (goInt s.size) (W.setRow g ((rootL s).map (Value.int .u8)).toArray) := by
 have h := Lib.run_copy_row_string (P := Tryd.prog) W 47 9 ty 5 g 0 32 32 s _ _ Tryd.underlying47 (by kernel_rfl) hg hs (by simp; omega); rw [h]; have e : (List.take 0 (List.replicate 32 (Value.int .u8 0)).toArray.toList ++ Lib.byteCells s.data.toList ++ List.drop (0 + s.size) (List.replicate 32 (Value.int .u8 0)).toArray.toList) = (rootL s).map (Value.int .u8) := by
  rw [Nat.zero_add, List.take_zero, List.nil_append, List.drop_replicate]; unfold rootL ints Lib.byteCells; rw [List.map_append, List.map_map, List.map_replicate]; rfl
 rw [e]
theorem held3B {u w1 : World} {p q r : Addr} {a b c : Value} (hb : Below u.heap.size u w1) (h : u.cell? p = some a ∧ u.cell? q = some b ∧ u.cell? r = some c) : w1.cell? p = some a ∧ w1.cell? q = some b ∧ w1.cell? r = some c := ⟨cellB hb h.1, cellB hb h.2.1, cellB hb h.2.2⟩
theorem findR_some (n : Nat) (encs : List ByteArray) (C : List (List Int)) (root : ByteArray) (i : Nat) (hi : firstAt C (rootL root) = some i) (k0 k1 k2 k3 : ByteArray) (ok : Bool) (hk : decT (decI (encs.getD i ⟨#[]⟩) n) = (k0, k1, k2, k3, ok)) :
  findR n encs C root = if ok = true then (k0, k1, k2, k3, 0) else (⟨#[]⟩, ⟨#[]⟩, ⟨#[]⟩, ⟨#[]⟩, 3) := by
 unfold findR; rw [hi]; dsimp only
 rcases hz : decI (encs.getD i ⟨#[]⟩) n with _ | ⟨a, b, c, d⟩
 all_goals
  rw [hz] at hk; simp only [decT, Prod.mk.injEq] at hk; obtain ⟨rfl, rfl, rfl, rfl, rfl⟩ := hk; rfl
theorem held3I {u : World} {p q r : Addr} {a b c : Value} (h1 : u.cell? p = some a) (h2 : u.cell? q = some b) (h3 : u.cell? r = some c) : u.cell? p = some a ∧ u.cell? q = some b ∧ u.cell? r = some c := ⟨h1, h2, h3⟩
theorem held3D {u : World} {p q r : Addr} {a b c : Value} (h : u.cell? p = some a ∧ u.cell? q = some b ∧ u.cell? r = some c) : u.drew.cell? p = some a ∧ u.drew.cell? q = some b ∧ u.drew.cell? r = some c := h
theorem held3A {u : World} {p q r : Addr} {a b c : Value} (o : Obj) (h : u.cell? p = some a ∧ u.cell? q = some b ∧ u.cell? r = some c) : (u.alloc o).cell? p = some a ∧ (u.alloc o).cell? q = some b ∧ (u.alloc o).cell? r = some c := held3B ((Below.refl _ _).alloc (Nat.le_refl _) o) h
theorem held3S {u : World} {p q r : Addr} {a b c v0 v1 v2 v3 : Value} {g : Nat} (h : u.cell? p = some a ∧ u.cell? q = some b ∧ u.cell? r = some c) (hp : p.block < g) (hq : q.block < g) (hr : r.block < g) :
  ((((u.setCell ⟨g, 0, none⟩ v0).setCell ⟨g, 1, none⟩ v1).setCell ⟨g, 2, none⟩ v2).setCell ⟨g, 3, none⟩ v3).cell? p = some a ∧ ((((u.setCell ⟨g, 0, none⟩ v0).setCell ⟨g, 1, none⟩ v1).setCell ⟨g, 2, none⟩ v2).setCell ⟨g, 3, none⟩ v3).cell? q = some b ∧ ((((u.setCell ⟨g, 0, none⟩ v0).setCell ⟨g, 1, none⟩ v1).setCell ⟨g, 2, none⟩ v2).setCell ⟨g, 3, none⟩ v3).cell? r = some c := by
 have e : ∀ (u : World) (k : Nat) (v : Value) (p : Addr), p.block < g → (u.setCell ⟨g, k, none⟩ v).cell? p = u.cell? p := fun u k v p hp => World.cell?_setCell_other u _ _ v (fun e => by rw [← e] at hp; exact Nat.lt_irrefl _ hp)
 refine ⟨?_, ?_, ?_⟩
 ·rw [e _ _ _ _ hp, e _ _ _ _ hp, e _ _ _ _ hp, e _ _ _ _ hp]; exact h.1
 ·rw [e _ _ _ _ hq, e _ _ _ _ hq, e _ _ _ _ hq, e _ _ _ _ hq]; exact h.2.1
 ·rw [e _ _ _ _ hr, e _ _ _ _ hr, e _ _ _ _ hr, e _ _ _ _ hr]; exact h.2.2
set_option maxHeartbeats 4000000 in
theorem find_any (base b m : Nat) (v : Value) (n : Nat) (encs : List ByteArray) (C : List (List Int)) (root : ByteArray) (w : World) (h : Idx base b m v n encs C w) (hroot : root.size ≤ 32) (hlen : encs.length ≤ 1073741824) :
  Calls Tryd.prog 108 #[.pointer (some ⟨b, 0, none⟩), .string root] w fun e w' => e = .returned (findV (findR n encs C root)) ∧ Below w.heap.size w w' := by
 obtain ⟨R, hR⟩ : ∃ R, findR n encs C root = R := ⟨_, rfl⟩
 rw [hR]; have HRR := Lib.hid hR; clear hR; obtain ⟨VA, VC, rfl⟩ := h.own.form; have hlt := h.lt; have HH := Lib.hid h; have HRT := Lib.hid hroot; clear h hroot
 go_enter Tryd.func108, Tryd.ntmps108
 go_upto_region 2 with fail
 obtain ⟨W1, hW1⟩ : ∃ W1, W1 = ((w.alloc (.cells #[.string ⟨#[]⟩, .string ⟨#[]⟩, .string ⟨#[]⟩, .string ⟨#[]⟩] 49)).alloc (.cells (List.replicate 32 (Value.int .u8 0)).toArray 123)) := ⟨_, rfl⟩
 have hz1 : W1.heap.size = w.heap.size + 2 := by rw [hW1]; simp
 have hn1 : W1.heap[w.heap.size]? = some (.cells #[.string ⟨#[]⟩, .string ⟨#[]⟩, .string ⟨#[]⟩, .string ⟨#[]⟩] 49 (0, 0)) := by rw [hW1]; exact heap_alloc2_old _ _ _
 have hh1 : W1.heap[w.heap.size + 1]? = some (.cells (List.replicate 32 (Value.int .u8 0)).toArray 123 (0, 0)) := by rw [hW1]; exact heap_alloc2_new _ _ _
 have hB1 : Below w.heap.size w W1 := by rw [hW1]; exact ((Below.refl _ _).alloc (Nat.le_refl _) _).alloc (by simp) _
 have hE : ((w.alloc (.cells #[.string ⟨#[]⟩, .string ⟨#[]⟩, .string ⟨#[]⟩, .string ⟨#[]⟩] 49)).alloc (.cells (List.replicate 32 (Value.int .u8 0)).toArray 123)) = W1 := hW1.symm; rw [show (List.replicate 32 (Value.int .u8 0)).toArray = #[Value.int .u8 0, .int .u8 0, .int .u8 0, .int .u8 0, .int .u8 0, .int .u8 0, .int .u8 0, .int .u8 0, .int .u8 0, .int .u8 0, .int .u8 0, .int .u8 0, .int .u8 0, .int .u8 0, .int .u8 0, .int .u8 0, .int .u8 0, .int .u8 0, .int .u8 0, .int .u8 0, .int .u8 0, .int .u8 0, .int .u8 0, .int .u8 0, .int .u8 0, .int .u8 0, .int .u8 0, .int .u8 0, .int .u8 0, .int .u8 0, .int .u8 0, .int .u8 0] from rfl] at hE; rw [hE]; clear hE hW1; have HCP := Lib.hid (run_copyRoot root HRT.out (w.heap.size + 1) 3 W1 hh1); have hh2 := setRow_heap _ _ _ ((rootL root).map (Value.int .u8)).toArray _ _ hh1; have hn2 := (setRow_other W1 (w.heap.size + 1) w.heap.size ((rootL root).map (Value.int .u8)).toArray (by omega)).trans hn1; have HX := Lib.hid (HH.out.below hB1); have hB2 : Below W1.heap.size W1 W1 := Below.refl _ _; clear hn1 hh1
 go_upto_region 3 with (refine wpList_copyR rfl _ _ 47 9 rfl rfl rfl HCP.out ?_)
 obtain ⟨W2, hW2⟩ : ∃ W2, W2 = W1.setRow (w.heap.size + 1) ((rootL root).map (Value.int .u8)).toArray := ⟨_, rfl⟩
 have hz2 : W2.heap.size = w.heap.size + 2 := by rw [hW2, setRow_size]; exact hz1
 have hB2 : Below w.heap.size w W2 := by rw [hW2]; exact below_setRow hB1 (by omega) _
 rw [← hW2] at hh2 hn2 ⊢; clear hW2 hB1 HX hz1 HCP; have HB2 := Lib.hid hB2; clear hB2; have HN2 := Lib.hid hn2; clear hn2; have HZ2 := Lib.hid hz2; clear hz2; have hX := HH.out.below HB2.out; have H32R := Lib.hid (rootL_H32 root HRT.out); have h0 := hX.c0; have h1 := hX.c1; have h2 := hX.c2; obtain ⟨D, hown, hpl⟩ := hX.map; have HX := Lib.hid hX; clear hX; have kl := fun n => hash_load (rootL root) H32R.out.1 (w.heap.size + 1) (W2.drewN n) hh2
 have kp := fun n => place_look (w := W2.drewN n) hown hpl (rootL root) H32R.out
 clear hown hpl hh2; have hI4 : (Tryd.prog.info? 49).map (·.size) = some (#[Value.string ⟨#[]⟩, .string ⟨#[]⟩, .string ⟨#[]⟩, .string ⟨#[]⟩].size) := by kernel_rfl
 have HI4 := Lib.hid hI4; clear hI4; have hsz4 : (#[Value.string ⟨#[]⟩, .string ⟨#[]⟩, .string ⟨#[]⟩, .string ⟨#[]⟩] : Array Value).size = (#[Value.string ⟨#[]⟩, .string ⟨#[]⟩, .string ⟨#[]⟩, .string ⟨#[]⟩] : Array Value).size := rfl; have HS4 := Lib.hid hsz4; clear hsz4; have h14 : (#[Value.string ⟨#[]⟩, .string ⟨#[]⟩, .string ⟨#[]⟩, .string ⟨#[]⟩] : Array Value).all (·.oneCell') = true := by simp [Value.oneCell']
 have H14 := Lib.hid h14; clear h14; unfold hashV at kl kp
 cases hi : firstAt C (rootL root) with
 | none =>
  rw [hi] at kp; have HI := Lib.hid hi; clear hi; refine wp_region_quiet_lit (by kernel_rfl) (by kernel_rfl) ?_
  iterate 4 (quiet_step (fail))
  refine wpQuiet_load rfl 123 _ rfl _ _ rfl (fun w' ⟨n, hn⟩ => by subst hn; exact kl n) ?_
  repeat (quiet_step (fail))
  refine wpQuiet_nil ?_; intro _ hw'; obtain ⟨nq, hw''⟩ := hw'; subst hw''; clear kl kp h0 h1 h2; have HN3 := Lib.hid (show (W2.drewN nq).heap[w.heap.size]? = _ from HN2.out)
  go_wp2_with (refine wpList_store_row rfl 49 _ _ rfl w.heap.size _ rfl rfl _ _ HN3.out HI4.out HS4.out H14.out ?_)
  refine bodyPost_ret (results_ct rfl _ _ w.heap.size 49 #[.string ⟨#[]⟩, .string ⟨#[]⟩, .string ⟨#[]⟩, .string ⟨#[]⟩] (0, 0) _ rfl (setRow_heap _ _ _ _ _ _ HN3.out) Tryd.underlying49 rfl HI4.out) rfl ⟨?_, ?_⟩
  ·rw [← HRR.out]; unfold findR; rw [HI.out]; rfl
  exact below_setRow (bdrewN HB2.out nq) (Nat.le_refl _) _
 | some i =>
  rw [hi] at kp; have hil : i < encs.length := by have := firstAt_lt _ _ _ hi; rw [HH.out.len] at this; exact this
  have HI := Lib.hid hi; clear hi; refine wp_region_quiet_lit (by kernel_rfl) (by kernel_rfl) ?_
  iterate 4 (quiet_step (fail))
  refine wpQuiet_load rfl 123 _ rfl _ _ rfl (fun w' ⟨n, hn⟩ => by subst hn; exact kl n) ?_
  repeat (quiet_step (fail))
  refine wpQuiet_nil ?_; intro _ hw'; obtain ⟨nq, hw''⟩ := hw'; subst hw''; clear kl kp h0 h1 h2; have HN3 := Lib.hid (show (W2.drewN nq).heap[w.heap.size]? = _ from HN2.out); obtain ⟨g, cap, hv, hg1, hg2, hg3, hg4, hg5⟩ := HX.out.own.at (by omega); simp only [Value.slice.injEq] at hv; obtain ⟨rfl, _, rfl⟩ := hv; have c2 := hg4 i (by omega); rw [strs, List.getElem?_map, List.getElem?_eq_getElem hil, Option.map_some] at c2; obtain ⟨s, hs⟩ : ∃ s, encs[i] = s := ⟨_, rfl⟩
  have hgd : encs.getD i ⟨#[]⟩ = s := by rw [List.getD_eq_getElem?_getD, List.getElem?_eq_getElem hil]; exact hs
  rw [hs] at c2; have HSS := Lib.hid hgd; clear hs hgd hg4 hg5 hg3
  go_upto_region 6 with fail
  obtain ⟨W3, hW3⟩ : ∃ W3, W3 = W2.drewN nq := ⟨_, rfl⟩
  have e0 : W3.cell? ⟨b, 0, none⟩ = some (.int .i64 (n : Int)) := by rw [hW3]; exact HX.out.c0
  have e1 : W3.cell? ⟨b, 1, none⟩ = some (.slice (some ⟨g, 0, none⟩) encs.length VC) := by rw [hW3]; exact HX.out.c1
  have e2 : W3.cell? ⟨g, i, none⟩ = some (.string s) := by rw [hW3]; exact c2
  have HN3 : Hid (W3.heap[w.heap.size]? = some (.cells #[.string ⟨#[]⟩, .string ⟨#[]⟩, .string ⟨#[]⟩, .string ⟨#[]⟩] 49 (0, 0))) := Lib.hid (by rw [hW3]; exact HN2.out); have HB3 : Hid (Below w.heap.size w W3) := Lib.hid (by rw [hW3]; exact bdrewN HB2.out nq); have HZ3 : Hid (W3.heap.size = w.heap.size + 2) := Lib.hid (by rw [hW3]; exact HZ2.out); rw [← hW3]; clear hW3 c2 HN2 HB2 HZ2 hg1 hg2; have hb3 : b < W3.heap.size := by have := HZ3.out; omega
  have hgg : g < W3.heap.size := World.block_lt_of_cell? _ ⟨g, i, none⟩ e2; have i0 : (0 : Int) ≤ (i : Int) := by omega
  have ii : (i : Int) < (encs.length : Int) := by omega
  obtain ⟨k0, k1, k2, k3, ok, hk⟩ : ∃ k0 k1 k2 k3 ok, nodeV (decI s n) = .tuple #[.agg #[.string k0, .string k1, .string k2, .string k3], .bool ok] ∧ decT (decI s n) = (k0, k1, k2, k3, ok) := by
   rcases decI s n with _ | ⟨a, b, c, d⟩
   ·exact ⟨_, _, _, _, _, rfl, rfl⟩
   ·exact ⟨_, _, _, _, _, rfl, rfl⟩
  have HK := Lib.hid hk.1; have HK2 := Lib.hid hk.2; clear hk; have hI5 : (Tryd.prog.info? 49).map (·.size) = some (#[Value.string k0, .string k1, .string k2, .string k3].size) := by kernel_rfl
  have HI5 := Lib.hid hI5; clear hI5; have hsz5 : (#[Value.string ⟨#[]⟩, .string ⟨#[]⟩, .string ⟨#[]⟩, .string ⟨#[]⟩] : Array Value).size = (#[Value.string k0, .string k1, .string k2, .string k3] : Array Value).size := rfl; have HS5 := Lib.hid hsz5; clear hsz5; have h15 : (#[Value.string k0, .string k1, .string k2, .string k3] : Array Value).all (·.oneCell') = true := by simp [Value.oneCell']
  have H15 := Lib.hid h15; clear h15
  go_region_held3 (fun w' => w'.cell? ⟨b, 0, none⟩ = some (.int .i64 (n : Int)) ∧ w'.cell? ⟨b, 1, none⟩ = some (.slice (some ⟨g, 0, none⟩) encs.length VC) ∧ w'.cell? ⟨g, i, none⟩ = some (.string s))
   (repeat' (first | (with_reducible assumption) | (with_reducible exact held3I e0 e1 e2) | (with_reducible refine held3D ?_) | (with_reducible refine held3A _ ?_) | ((with_reducible refine held3S ?_ ?_ ?_ ?_); rotate_left; (· show b < _; omega); (· show b < _; omega); (· show g < _; omega)) | (with_reducible refine held3B (by assumption) ?_)))
   (first | (go_at_call 30; refine (decodeNode_any s n _).mono ?_; rintro e wx ⟨rfl, hbx⟩; rw [HK.out]; obtain ⟨hcx, hfx⟩ := bcell hbx; have hzx := hbx.size; (try simp only [World.size_alloc, World.size_drew] at hcx); (try simp only [World.size_alloc, World.size_drew] at hfx); (try simp only [World.size_alloc, World.size_drew] at hzx)))
  ·have hx2 : wx.heap[w.heap.size]? = some (.cells #[.string ⟨#[]⟩, .string ⟨#[]⟩, .string ⟨#[]⟩, .string ⟨#[]⟩] 49 (0, 0)) := (hbx.block w.heap.size (by show _ < W3.heap.size; have := HZ3.out; omega)).trans HN3.out; have hwx : w.heap.size < wx.heap.size := by have := HZ3.out; omega
   have HF1 := Lib.hid (heap_alloc_new wx (.cells #[Value.string k0, .string k1, .string k2, .string k3] 49)); have HF2 := Lib.hid ((heap_alloc_old wx (.cells #[Value.string k0, .string k1, .string k2, .string k3] 49) hwx).trans hx2); have HBF := Lib.hid ((HB3.out.trans (((Below.refl _ _).drew.trans hbx).mono (by show _ ≤ W3.heap.size; have := HZ3.out; omega))).alloc (Nat.le_of_lt hwx) (.cells #[Value.string k0, .string k1, .string k2, .string k3] 49)); clear hx2 hcx hfx
   cases ok with
   | false =>
    go_wp2_with (refine wpList_store_row rfl 49 _ _ rfl w.heap.size _ rfl rfl _ _ HF2.out HI4.out rfl H14.out ?_)
    refine bodyPost_ret (results_ct rfl _ _ w.heap.size 49 #[.string ⟨#[]⟩, .string ⟨#[]⟩, .string ⟨#[]⟩, .string ⟨#[]⟩] (0, 0) _ rfl (setRow_heap _ _ _ _ _ _ HF2.out) Tryd.underlying49 rfl HI4.out) rfl ⟨?_, below_setRow HBF.out (Nat.le_refl _) _⟩; rw [← HRR.out, findR_some n encs C root i HI.out k0 k1 k2 k3 false (by rw [HSS.out]; exact HK2.out)]; rfl
   | true =>
    go_wp2_with (first | refine wpList_load_row rfl 49 _ rfl wx.heap.size rfl _ _ _ _ HF1.out Tryd.underlying49 rfl HI5.out ?_ | refine wpList_store_row rfl 49 _ _ rfl w.heap.size _ rfl rfl _ _ HF2.out HI5.out rfl H15.out ?_)
    refine bodyPost_ret (results_ct rfl _ _ w.heap.size 49 #[.string k0, .string k1, .string k2, .string k3] (0, 0) _ rfl (setRow_heap _ _ _ _ _ _ HF2.out) Tryd.underlying49 rfl HI5.out) rfl ⟨?_, below_setRow HBF.out (Nat.le_refl _) _⟩; rw [← HRR.out, findR_some n encs C root i HI.out k0 k1 k2 k3 true (by rw [HSS.out]; exact HK2.out)]; rfl
  ·-- the variable is made first
   have hW : (W3.alloc (.cells #[.string ⟨#[]⟩, .string ⟨#[]⟩, .string ⟨#[]⟩, .string ⟨#[]⟩] 49)).drew.heap.size = W3.heap.size + 1 := by simp
   have hx1 : wx.heap[W3.heap.size]? = some (.cells #[.string ⟨#[]⟩, .string ⟨#[]⟩, .string ⟨#[]⟩, .string ⟨#[]⟩] 49 (0, 0)) := (hbx.block W3.heap.size (by rw [hW]; omega)).trans (heap_alloc_new W3 _); have hx2 : wx.heap[w.heap.size]? = some (.cells #[.string ⟨#[]⟩, .string ⟨#[]⟩, .string ⟨#[]⟩, .string ⟨#[]⟩] 49 (0, 0)) := (hbx.block w.heap.size (by rw [hW]; have := HZ3.out; omega)).trans ((heap_alloc_old W3 _ (by have := HZ3.out; omega)).trans HN3.out); have hf1 : ((((wx.setCell ⟨W3.heap.size, 0, none⟩ (.string k0)).setCell ⟨W3.heap.size, 1, none⟩ (.string k1)).setCell ⟨W3.heap.size, 2, none⟩ (.string k2)).setCell ⟨W3.heap.size, 3, none⟩ (.string k3)).heap[W3.heap.size]? = some (.cells #[.string k0, .string k1, .string k2, .string k3] 49 (0, 0)) :=
    blk_put (blk_put (blk_put (blk_put hx1 0 _ rfl) 1 _ rfl) 2 _ rfl) 3 _ rfl
   have hne : w.heap.size ≠ W3.heap.size := by have := HZ3.out; omega
   have hf2 : ((((wx.setCell ⟨W3.heap.size, 0, none⟩ (.string k0)).setCell ⟨W3.heap.size, 1, none⟩ (.string k1)).setCell ⟨W3.heap.size, 2, none⟩ (.string k2)).setCell ⟨W3.heap.size, 3, none⟩ (.string k3)).heap[w.heap.size]? = some (.cells #[.string ⟨#[]⟩, .string ⟨#[]⟩, .string ⟨#[]⟩, .string ⟨#[]⟩] 49 (0, 0)) := by
    rw [heap_setCell_other _ _ _ _ hne, heap_setCell_other _ _ _ _ hne, heap_setCell_other _ _ _ _ hne, heap_setCell_other _ _ _ _ hne]; exact hx2
   have hBx : Below w.heap.size w wx := HB3.out.trans ((((Below.refl _ _).alloc (Nat.le_refl _) _).drew.trans (hbx.mono (by rw [hW]; omega))).mono (by have := HZ3.out; omega)); have hBf : Below w.heap.size w ((((wx.setCell ⟨W3.heap.size, 0, none⟩ (.string k0)).setCell ⟨W3.heap.size, 1, none⟩ (.string k1)).setCell ⟨W3.heap.size, 2, none⟩ (.string k2)).setCell ⟨W3.heap.size, 3, none⟩ (.string k3)) :=
    (((hBx.setCell (by show _ ≤ W3.heap.size; have := HZ3.out; omega) _).setCell (by show _ ≤ W3.heap.size; have := HZ3.out; omega) _).setCell (by show _ ≤ W3.heap.size; have := HZ3.out; omega) _).setCell (by show _ ≤ W3.heap.size; have := HZ3.out; omega) _
   have HF1 := Lib.hid hf1; have HF2 := Lib.hid hf2; have HBF := Lib.hid hBf; clear hf1 hf2 hBf hBx hx1 hx2 hcx hfx
   cases ok with
   | false =>
    go_wp2_with (refine wpList_store_row rfl 49 _ _ rfl w.heap.size _ rfl rfl _ _ HF2.out HI4.out rfl H14.out ?_)
    refine bodyPost_ret (results_ct rfl _ _ w.heap.size 49 #[.string ⟨#[]⟩, .string ⟨#[]⟩, .string ⟨#[]⟩, .string ⟨#[]⟩] (0, 0) _ rfl (setRow_heap _ _ _ _ _ _ HF2.out) Tryd.underlying49 rfl HI4.out) rfl ⟨?_, below_setRow HBF.out (Nat.le_refl _) _⟩; rw [← HRR.out, findR_some n encs C root i HI.out k0 k1 k2 k3 false (by rw [HSS.out]; exact HK2.out)]; rfl
   | true =>
    go_wp2_with (first | refine wpList_load_row rfl 49 _ rfl W3.heap.size rfl _ _ _ _ HF1.out Tryd.underlying49 rfl HI5.out ?_ | refine wpList_store_row rfl 49 _ _ rfl w.heap.size _ rfl rfl _ _ HF2.out HI5.out rfl H15.out ?_)
    refine bodyPost_ret (results_ct rfl _ _ w.heap.size 49 #[.string k0, .string k1, .string k2, .string k3] (0, 0) _ rfl (setRow_heap _ _ _ _ _ _ HF2.out) Tryd.underlying49 rfl HI5.out) rfl ⟨?_, below_setRow HBF.out (Nat.le_refl _) _⟩; rw [← HRR.out, findR_some n encs C root i HI.out k0 k1 k2 k3 true (by rw [HSS.out]; exact HK2.out)]; rfl
def small (l : List ByteArray) : Prop := l.length ≤ 1048576 ∧ ∀ s ∈ l, s.size ≤ 1048576
instance (l : List ByteArray) : Decidable (small l) := inferInstanceAs (Decidable (l.length ≤ 1048576 ∧ ∀ s ∈ l, s.size ≤ 1048576))
def poolOk (W : Int) (l : List ByteArray) : Bool := decide (1 ≤ W ∧ W ≤ 32 ∧ l.length ≤ 20000)
theorem poolOk_iff {W : Int} {l : List ByteArray} : poolOk W l = true ↔ 1 ≤ W ∧ W ≤ 32 ∧ l.length ≤ 20000 := by unfold poolOk; rw [decide_eq_true_eq]
theorem poolValid_f (W : Int) (l : List ByteArray) : impl_Pool_valid.f W l = some (poolOk W l) := by
 unfold impl_Pool_valid.f impl_isWidth.f poolOk
 by_cases h1 : W ≥ 1
 ·rw [if_pos h1, Option.bind_some]
  by_cases h2 : W ≤ 32
  ·rw [decide_eq_true h2, if_pos rfl]; refine congrArg some ?_; rw [decide_eq_decide]; omega
  ·rw [decide_eq_false h2, if_neg (by decide), decide_eq_false (by omega)]
 ·rw [if_neg h1, Option.bind_some, if_neg (by decide), decide_eq_false (by omega)]
end Go.Proofs.YtonbmghgbblifaaDoor.Z
end
section
namespace Go.Proofs.YtonbmghgbblifaaDoor.Z
open RowKit YtonbmghgbblifaaDoorW.PrintWords YtonbmghgbblifaaDoorW.PrintLast YtonbmghgbblifaaDoorW.PrintMore
attribute [local go_sem] max2_int min2_int max_two min_two max_three min_three max_four min_four
set_option linter.all false

end Go.Proofs.YtonbmghgbblifaaDoor.Z
end
section
namespace Go.Proofs.YtonbmghgbblifaaDoor.Z
open RowKit YtonbmghgbblifaaDoor YtonbmghgbblifaaDoorW.PrintWords YtonbmghgbblifaaDoorW.PrintLast
set_option linter.all false
set_option maxRecDepth 100000
def emp (s : ByteArray) : Bool := s.toList.isEmpty
def ltS (a b : ByteArray) : Bool := Op.bytesLess a.toList b.toList
def leS (a b : ByteArray) : Bool := Op.bytesLess a.toList b.toList || a.toList == b.toList
def holdsB (lo hi key : ByteArray) : Bool := (emp lo || !leS key lo) && (emp hi || ltS key hi)
def meetsB (vlo vhi blo bhi : ByteArray) : Bool := !(!emp vhi && leS vhi vlo || !emp bhi && leS bhi vlo) && (emp vhi || emp blo || ltS blo vhi)
def holdsW (lo hi key : ByteArray) : Bool := !ltS key lo && (emp hi || ltS key hi)
set_option maxHeartbeats 2000000 in
theorem boundHolds_any (lo hi key : ByteArray) (w : World) : Calls Tryd.prog 109 #[.agg #[.string lo, .string hi], .string key] w fun e w' => e = .returned (.bool (holdsB lo hi key)) ∧ Below w.heap.size w w' := by
 have hx : holdsB lo hi key = ((emp lo || !leS key lo) && (emp hi || ltS key hi)) := rfl; have HX := Lib.hid hx; clear hx
 cases h1 : lo.toList.isEmpty <;> cases h2 : Op.bytesLess key.toList lo.toList <;> cases h3 : (key.toList == lo.toList) <;> cases h4 : hi.toList.isEmpty <;> cases h5 : Op.bytesLess key.toList hi.toList
 all_goals
  go_enter Tryd.func109, Tryd.ntmps109
  go_wp2_with fail
  go_ret
  exact ⟨by rw [HX.out]; unfold emp leS ltS; rw [h1, h2, h3, h4, h5]; rfl, by (repeat' (first | exact Below.refl _ _ | (with_reducible assumption) | (with_reducible refine Below.setCell ?_ zq_12 _) | refine below_then ?_ (by assumption) | (with_reducible refine below_new2 ?_ _) | (with_reducible refine Below.drew ?_) | (with_reducible refine bdrewN ?_ _)))⟩
set_option maxHeartbeats 2000000 in
theorem windowMeets_any (vlo vhi blo bhi : ByteArray) (w : World) : Calls Tryd.prog 50 #[.agg #[.string vlo, .string vhi], .agg #[.string blo, .string bhi]] w fun e w' => e = .returned (.bool (meetsB vlo vhi blo bhi)) ∧ Below w.heap.size w w' := by
 have hx : meetsB vlo vhi blo bhi = (!(!vhi.toList.isEmpty && (Op.bytesLess vhi.toList vlo.toList || vhi.toList == vlo.toList) || !bhi.toList.isEmpty && (Op.bytesLess bhi.toList vlo.toList || bhi.toList == vlo.toList)) && (vhi.toList.isEmpty || blo.toList.isEmpty || Op.bytesLess blo.toList vhi.toList)) := rfl; have HX := Lib.hid hx; clear hx
 cases h1 : vhi.toList.isEmpty
 ·cases h2 : Op.bytesLess vhi.toList vlo.toList
  ·cases h3 : (vhi.toList == vlo.toList)
   ·cases h4 : bhi.toList.isEmpty
    ·cases h5 : Op.bytesLess bhi.toList vlo.toList
     ·cases h6 : (bhi.toList == vlo.toList)
      ·cases h7 : blo.toList.isEmpty
       ·cases h8 : Op.bytesLess blo.toList vhi.toList
        all_goals (go_enter Tryd.func50, Tryd.ntmps50; go_wp2_with fail; go_ret; exact ⟨by rw [HX.out, h1, h2, h3, h4, h5, h6, h7, h8]; rfl, by (repeat' (first | exact Below.refl _ _ | (with_reducible assumption) | (with_reducible refine Below.setCell ?_ zq_12 _) | refine below_then ?_ (by assumption) | (with_reducible refine below_new2 ?_ _) | (with_reducible refine Below.drew ?_) | (with_reducible refine bdrewN ?_ _)))⟩)
       ·go_enter Tryd.func50, Tryd.ntmps50; go_wp2_with fail; go_ret; exact ⟨by rw [HX.out, h1, h2, h3, h4, h5, h6, h7]; rfl, by (repeat' (first | exact Below.refl _ _ | (with_reducible assumption) | (with_reducible refine Below.setCell ?_ zq_12 _) | refine below_then ?_ (by assumption) | (with_reducible refine below_new2 ?_ _) | (with_reducible refine Below.drew ?_) | (with_reducible refine bdrewN ?_ _)))⟩
      ·go_enter Tryd.func50, Tryd.ntmps50; go_wp2_with fail; go_ret; exact ⟨by rw [HX.out, h1, h2, h3, h4, h5, h6]; rfl, by (repeat' (first | exact Below.refl _ _ | (with_reducible assumption) | (with_reducible refine Below.setCell ?_ zq_12 _) | refine below_then ?_ (by assumption) | (with_reducible refine below_new2 ?_ _) | (with_reducible refine Below.drew ?_) | (with_reducible refine bdrewN ?_ _)))⟩
     ·go_enter Tryd.func50, Tryd.ntmps50; go_wp2_with fail; go_ret; exact ⟨by rw [HX.out, h1, h2, h3, h4, h5]; rfl, by (repeat' (first | exact Below.refl _ _ | (with_reducible assumption) | (with_reducible refine Below.setCell ?_ zq_12 _) | refine below_then ?_ (by assumption) | (with_reducible refine below_new2 ?_ _) | (with_reducible refine Below.drew ?_) | (with_reducible refine bdrewN ?_ _)))⟩
    ·cases h7 : blo.toList.isEmpty
     ·cases h8 : Op.bytesLess blo.toList vhi.toList
      all_goals (go_enter Tryd.func50, Tryd.ntmps50; go_wp2_with fail; go_ret; exact ⟨by rw [HX.out, h1, h2, h3, h4, h7, h8]; rfl, by (repeat' (first | exact Below.refl _ _ | (with_reducible assumption) | (with_reducible refine Below.setCell ?_ zq_12 _) | refine below_then ?_ (by assumption) | (with_reducible refine below_new2 ?_ _) | (with_reducible refine Below.drew ?_) | (with_reducible refine bdrewN ?_ _)))⟩)
     ·go_enter Tryd.func50, Tryd.ntmps50; go_wp2_with fail; go_ret; exact ⟨by rw [HX.out, h1, h2, h3, h4, h7]; rfl, by (repeat' (first | exact Below.refl _ _ | (with_reducible assumption) | (with_reducible refine Below.setCell ?_ zq_12 _) | refine below_then ?_ (by assumption) | (with_reducible refine below_new2 ?_ _) | (with_reducible refine Below.drew ?_) | (with_reducible refine bdrewN ?_ _)))⟩
   ·go_enter Tryd.func50, Tryd.ntmps50; go_wp2_with fail; go_ret; exact ⟨by rw [HX.out, h1, h2, h3]; rfl, by (repeat' (first | exact Below.refl _ _ | (with_reducible assumption) | (with_reducible refine Below.setCell ?_ zq_12 _) | refine below_then ?_ (by assumption) | (with_reducible refine below_new2 ?_ _) | (with_reducible refine Below.drew ?_) | (with_reducible refine bdrewN ?_ _)))⟩
  ·go_enter Tryd.func50, Tryd.ntmps50; go_wp2_with fail; go_ret; exact ⟨by rw [HX.out, h1, h2]; rfl, by (repeat' (first | exact Below.refl _ _ | (with_reducible assumption) | (with_reducible refine Below.setCell ?_ zq_12 _) | refine below_then ?_ (by assumption) | (with_reducible refine below_new2 ?_ _) | (with_reducible refine Below.drew ?_) | (with_reducible refine bdrewN ?_ _)))⟩
 ·cases h4 : bhi.toList.isEmpty
  ·cases h5 : Op.bytesLess bhi.toList vlo.toList
   ·cases h6 : (bhi.toList == vlo.toList)
    all_goals (go_enter Tryd.func50, Tryd.ntmps50; go_wp2_with fail; go_ret; exact ⟨by rw [HX.out, h1, h4, h5, h6]; rfl, by (repeat' (first | exact Below.refl _ _ | (with_reducible assumption) | (with_reducible refine Below.setCell ?_ zq_12 _) | refine below_then ?_ (by assumption) | (with_reducible refine below_new2 ?_ _) | (with_reducible refine Below.drew ?_) | (with_reducible refine bdrewN ?_ _)))⟩)
   ·go_enter Tryd.func50, Tryd.ntmps50; go_wp2_with fail; go_ret; exact ⟨by rw [HX.out, h1, h4, h5]; rfl, by (repeat' (first | exact Below.refl _ _ | (with_reducible assumption) | (with_reducible refine Below.setCell ?_ zq_12 _) | refine below_then ?_ (by assumption) | (with_reducible refine below_new2 ?_ _) | (with_reducible refine Below.drew ?_) | (with_reducible refine bdrewN ?_ _)))⟩
  ·go_enter Tryd.func50, Tryd.ntmps50; go_wp2_with fail; go_ret; exact ⟨by rw [HX.out, h1, h4]; rfl, by (repeat' (first | exact Below.refl _ _ | (with_reducible assumption) | (with_reducible refine Below.setCell ?_ zq_12 _) | refine below_then ?_ (by assumption) | (with_reducible refine below_new2 ?_ _) | (with_reducible refine Below.drew ?_) | (with_reducible refine bdrewN ?_ _)))⟩
theorem grown_two {a b c : World} {r r' : Option Nat} (h1 : a.grownBy b r) (h2 : b.grownBy c r') (h : r' = r ∨ ∃ k, r' = some k ∧ a.heap.size ≤ k) : a.grownBy c r :=
 ⟨h2.os.trans h1.os, h2.tape.trans h1.tape, h2.output.trans h1.output, Nat.le_trans h1.size h2.size, fun k hk hne => (h2.block k (Nat.lt_of_lt_of_le hk h1.size) (fun e => by
  rcases h with h | ⟨q, h, hq⟩
  ·exact hne (e.trans h)
  ·rw [h] at e; cases e; omega)).trans (h1.block k hk hne)⟩
theorem grown_below {a b : World} (h : Below a.heap.size a b) (r : Option Nat) : a.grownBy b r := ⟨h.os, h.tape, h.output, h.size, fun k hk _ => h.block k hk⟩
theorem below_of_grownBy {a b : World} {r : Option Nat} {B : Nat} (h : a.grownBy b r) (hB : B ≤ a.heap.size) (hr : ∀ k, r = some k → B ≤ k) : Below B a b := (Below.refl B a).grown h hB hr
end Go.Proofs.YtonbmghgbblifaaDoor.Z
end
section
namespace Go.Proofs.YtonbmghgbblifaaDoor.Z
open RowKit YtonbmghgbblifaaDoor YtonbmghgbblifaaDoorW.PrintWords YtonbmghgbblifaaDoorW.PrintLast
set_option linter.all false
set_option maxRecDepth 100000
section
variable {B V base b m : Nat} {v : Value} {n : Nat} {encs : List ByteArray} {C : List (List Int)} {lo hi : ByteArray} {seen code s' c' : Int} {w w1 : World}
theorem grownBy_set (w : World) (B j : Nat) (u : Value) : w.grownBy (w.setCell ⟨B, j, none⟩ u) (some B) := ⟨rfl, rfl, rfl, by simp, fun k _ hne => Below.heap_setCell w _ u k (fun e => hne (by rw [e]))⟩
end
section
variable {B V base b m : Nat} {v : Value} {n : Nat} {encs : List ByteArray} {C : List (List Int)} {lo hi : ByteArray} {seen code s0 c0 : Int} {w0 w w1 : World}
end
theorem R_past {α : Type} {d : Kd α} {e base B : Nat} {w w1 : World} {v : Value} {xs : List α} (h : d.R e w base (fun _ => True) v xs) (hg : w.grownBy w1 (some B)) (hB : B < base) : d.R e w1 base (fun _ => True) v xs :=
 Kd.R_mono (Kd.R_grown (Kd.R_bound h) hg (fun k hk e => by have h1 := Option.some.inj e; have := hk.2.1; omega)) (fun _ _ => trivial)
def walkI (n : Nat) (encs : List ByteArray) (C : List (List Int)) (lo hi : ByteArray) : Nat → Int → ByteArray → ByteArray → ByteArray → ByteArray → Option (List S78 × Int × Int)
 | 0, _, _, _, _, _ => none
 | k + 1, seen, root, above, blo, bhi =>
  if emp root = true ∨ meetsB lo hi blo bhi = false then some ([], seen, 0)
  else if (findR n encs C root).2.2.2.2 = 2 then some ([], seen, 2)
  else if (findR n encs C root).2.2.2.2 ≠ 0 ∨ holdsB blo bhi (findR n encs C root).1 = false ∨ (emp above = false ∧ highB above (findR n encs C root).1 = false) then some ([], seen, 3)
  else if seen = 500 then some ([], seen, 6)
  else (walkI n encs C lo hi k (seen + 1) (findR n encs C root).2.2.1 (findR n encs C root).1 blo (findR n encs C root).1).bind fun L =>
   if L.2.2 ≠ 0 then some ([], L.2.1, L.2.2)
   else (walkI n encs C lo hi k L.2.1 (findR n encs C root).2.2.2.1 (findR n encs C root).1 (findR n encs C root).1 bhi).bind fun R =>
    if R.2.2 ≠ 0 then some ([], R.2.1, R.2.2)
    else some ((if holdsW lo hi (findR n encs C root).1 = true then L.1 ++ [⟨(findR n encs C root).1, (findR n encs C root).2.1⟩] else L.1) ++ R.1, R.2.1, 0)
theorem decI_sizes {s : ByteArray} {n : Nat} {a b c d : ByteArray} (hn : n ≤ 32) (h : decI s n = some (a, b, c, d)) : a.size ≤ 256 ∧ c.size ≤ 32 ∧ d.size ≤ 32 := by
 unfold decI at h; dsimp only at h
 split at h
 ·rename_i hc
  obtain ⟨_, _, _, _, h5⟩ := hc; simp only [Option.some.injEq, Prod.mk.injEq] at h; obtain ⟨rfl, rfl, rfl, rfl⟩ := h; unfold nodeOk hOk at h5; simp only [Bool.and_eq_true, Bool.or_eq_true, decide_eq_true_eq] at h5; omega
 ·cases h
theorem findR_sizes {n : Nat} {encs : List ByteArray} {C : List (List Int)} {root : ByteArray} (hn : n ≤ 32) (h : (findR n encs C root).2.2.2.2 = 0) : (findR n encs C root).1.size ≤ 256 ∧ (findR n encs C root).2.2.1.size ≤ 32 ∧ (findR n encs C root).2.2.2.1.size ≤ 32 := by
 unfold findR at h ⊢
 split at h
 ·simp at h
 ·rename_i i hi
  rcases hz : decI (encs.getD i ⟨#[]⟩) n with _ | ⟨a, b, c, d⟩
  ·rw [hz] at h; simp at h
  ·exact decI_sizes hn hz
theorem findR_code (n : Nat) (encs : List ByteArray) (C : List (List Int)) (root : ByteArray) : (findR n encs C root).2.2.2.2 = 0 ∨ (findR n encs C root).2.2.2.2 = 2 ∨ (findR n encs C root).2.2.2.2 = 3 := by
 unfold findR
 split
 ·exact .inr (.inl rfl)
 ·split
  ·exact .inr (.inr rfl)
  ·exact .inl rfl
theorem walkI_len (n : Nat) (encs : List ByteArray) (C : List (List Int)) (lo hi : ByteArray) : ∀ (k : Nat) (seen : Int) (root above blo bhi : ByteArray) (ps : List S78) (s' c' : Int), walkI n encs C lo hi k seen root above blo bhi = some (ps, s', c') → 0 ≤ seen → seen ≤ 500 → seen ≤ s' ∧ s' ≤ 500 ∧ (ps.length : Int) ≤ s' - seen := by
 intro k
 induction k with
 | zero => intro seen root above blo bhi ps s' c' h; cases h
 | succ k ih =>
  intro seen root above blo bhi ps s' c' h h0 h1; unfold walkI at h
  split at h
  ·cases h; simp; omega
  split at h
  ·cases h; simp; omega
  split at h
  ·cases h; simp; omega
  split at h
  ·cases h; simp; omega
  obtain ⟨⟨l, s1, c1⟩, hL, h⟩ := Option.bind_eq_some_iff.mp h; dsimp only at h; have iL := ih _ _ _ _ _ _ _ _ hL (by omega) (by omega)
  split at h
  ·cases h; simp; omega
  obtain ⟨⟨r, s2, c2⟩, hR, h⟩ := Option.bind_eq_some_iff.mp h; dsimp only at h hR; have iR := ih _ _ _ _ _ _ _ _ hR (by omega) (by omega)
  split at h
  ·cases h; simp; omega
  ·cases h
   refine ⟨by omega, by omega, ?_⟩; rw [List.length_append]
   split
   ·rw [List.length_append, List.length_singleton]; omega
   ·omega
end Go.Proofs.YtonbmghgbblifaaDoor.Z
end
section
namespace Go.Proofs.YtonbmghgbblifaaDoor.Z
open RowKit YtonbmghgbblifaaDoor YtonbmghgbblifaaDoorW.PrintWords YtonbmghgbblifaaDoorW.PrintLast
set_option linter.all false
inductive PT where
 | emp : PT
 | stub (s : ByteArray) : PT
 | full (k v : ByteArray) (l r : PT) : PT
def PT.text : PT → List UInt8
 | .emp => [69]
 | .stub s => 83 :: s.data.toList
 | .full k v l r => 70 :: (sizedL k ++ (sizedL v ++ (l.text ++ r.text)))
def PT.num : PT → Nat
 | .full _ _ l r => l.num + r.num + 1
 | _ => 0
def PT.ok : PT → Prop
 | .emp => True
 | .stub s => s.size ≤ 32
 | .full k v l r => k.size ≤ 256 ∧ v.size ≤ 2000 ∧ l.ok ∧ r.ok
theorem PT.text_len (t : PT) (h : t.ok) : t.text.length ≤ 2300 * t.num + 33 := by
 induction t with
 | emp => simp [PT.text]
 | stub s =>
  have : s.data.toList.length = s.size := by rw [Array.length_toList]; rfl
  unfold PT.ok at h; simp only [PT.text, List.length_cons, this]; omega
 | full k v l r ihl ihr =>
  obtain ⟨h1, h2, h3, h4⟩ := h; have i1 := ihl h3; have i2 := ihr h4; simp only [PT.text, PT.num, List.length_cons, List.length_append, sizedL_length]; omega
theorem PT.text_pos (t : PT) : 0 < t.text.length := by cases t <;> simp [PT.text]
def noneT (root : ByteArray) : PT := if emp root = true then .emp else .stub root
theorem noneT_num (root : ByteArray) : (noneT root).num = 0 := by unfold noneT; split <;> rfl
theorem noneT_ok (root : ByteArray) (h : root.size ≤ 32) : (noneT root).ok := by
 unfold noneT
 split
 ·trivial
 ·exact h
def IfOk (c : Int) (p : Prop) : Prop := c = 0 → p
theorem IfOk.bad {c : Int} {p : Prop} (h : c ≠ 0) : IfOk c p := fun e => absurd e h
def walkP (n : Nat) (encs : List ByteArray) (C : List (List Int)) (lo hi : ByteArray) : Nat → Int → ByteArray → ByteArray → ByteArray → ByteArray → Option (PT × Int × Int)
 | 0, _, _, _, _, _ => none
 | k + 1, seen, root, above, blo, bhi =>
  if emp root = true ∨ meetsB lo hi blo bhi = false then some (noneT root, seen, 0)
  else if (findR n encs C root).2.2.2.2 = 2 then some (.emp, seen, 2)
  else if (findR n encs C root).2.2.2.2 ≠ 0 ∨ holdsB blo bhi (findR n encs C root).1 = false ∨ (emp above = false ∧ highB above (findR n encs C root).1 = false) then some (.emp, seen, 3)
  else if seen = 500 then some (.emp, seen, 6)
  else (walkP n encs C lo hi k (seen + 1) (findR n encs C root).2.2.1 (findR n encs C root).1 blo (findR n encs C root).1).bind fun L =>
   if L.2.2 ≠ 0 then some (.emp, L.2.1, L.2.2)
   else (walkP n encs C lo hi k L.2.1 (findR n encs C root).2.2.2.1 (findR n encs C root).1 (findR n encs C root).1 bhi).bind fun R =>
    if R.2.2 ≠ 0 then some (.emp, R.2.1, R.2.2)
    else some (.full (findR n encs C root).1 (findR n encs C root).2.1 L.1 R.1, R.2.1, 0)
theorem walkP_len (n : Nat) (encs : List ByteArray) (C : List (List Int)) (lo hi : ByteArray) : ∀ (k : Nat) (seen : Int) (root above blo bhi : ByteArray) (t : PT) (s' c' : Int), walkP n encs C lo hi k seen root above blo bhi = some (t, s', c') → 0 ≤ seen → seen ≤ 500 → seen ≤ s' ∧ s' ≤ 500 ∧ (t.num : Int) ≤ s' - seen := by
 intro k
 induction k with
 | zero => intro seen root above blo bhi t s' c' h; cases h
 | succ k ih =>
  intro seen root above blo bhi t s' c' h h0 h1; unfold walkP at h
  split at h
  ·simp only [Option.some.injEq, Prod.mk.injEq] at h; obtain ⟨rfl, rfl, rfl⟩ := h; refine ⟨Int.le_refl _, h1, ?_⟩; rw [noneT_num]; omega
  split at h
  ·cases h; simp [PT.num]; omega
  split at h
  ·cases h; simp [PT.num]; omega
  split at h
  ·cases h; simp [PT.num]; omega
  obtain ⟨⟨l, s1, c1⟩, hL, h⟩ := Option.bind_eq_some_iff.mp h; dsimp only at h; have iL := ih _ _ _ _ _ _ _ _ hL (by omega) (by omega)
  split at h
  ·cases h; simp [PT.num]; omega
  obtain ⟨⟨r, s2, c2⟩, hR, h⟩ := Option.bind_eq_some_iff.mp h; dsimp only at h hR; have iR := ih _ _ _ _ _ _ _ _ hR (by omega) (by omega)
  split at h
  ·cases h; simp [PT.num]; omega
  ·cases h
   refine ⟨by omega, by omega, ?_⟩; simp only [PT.num]; omega
theorem walkP_walkI (n : Nat) (encs : List ByteArray) (C : List (List Int)) (lo hi : ByteArray) : ∀ (k : Nat) (seen : Int) (root above blo bhi : ByteArray) (t : PT) (s' c' : Int), walkP n encs C lo hi k seen root above blo bhi = some (t, s', c') → ∃ ps, walkI n encs C lo hi k seen root above blo bhi = some (ps, s', c') := by
 intro k
 induction k with
 | zero => intro seen root above blo bhi t s' c' h; cases h
 | succ k ih =>
  intro seen root above blo bhi t s' c' h; unfold walkP at h; unfold walkI
  by_cases h1 : emp root = true ∨ meetsB lo hi blo bhi = false
  ·rw [if_pos h1] at h ⊢; cases h; exact ⟨_, rfl⟩
  rw [if_neg h1] at h ⊢
  by_cases h2 : (findR n encs C root).2.2.2.2 = 2
  ·rw [if_pos h2] at h ⊢; cases h; exact ⟨_, rfl⟩
  rw [if_neg h2] at h ⊢
  by_cases h3 : (findR n encs C root).2.2.2.2 ≠ 0 ∨ holdsB blo bhi (findR n encs C root).1 = false ∨ (emp above = false ∧ highB above (findR n encs C root).1 = false)
  ·rw [if_pos h3] at h ⊢; cases h; exact ⟨_, rfl⟩
  rw [if_neg h3] at h ⊢
  by_cases h4 : seen = 500
  ·rw [if_pos h4] at h ⊢; cases h; exact ⟨_, rfl⟩
  rw [if_neg h4] at h ⊢; obtain ⟨⟨l, s1, c1⟩, hL, h⟩ := Option.bind_eq_some_iff.mp h; obtain ⟨ps, hp⟩ := ih _ _ _ _ _ _ _ _ hL; rw [hp, Option.bind_some]; dsimp only at h ⊢
  by_cases h5 : c1 ≠ 0
  ·rw [if_pos h5] at h ⊢; cases h; exact ⟨_, rfl⟩
  rw [if_neg h5] at h ⊢; obtain ⟨⟨r, s2, c2⟩, hR, h⟩ := Option.bind_eq_some_iff.mp h; obtain ⟨qs, hq⟩ := ih _ _ _ _ _ _ _ _ hR; rw [hq, Option.bind_some]; dsimp only at h ⊢
  by_cases h6 : c2 ≠ 0
  ·rw [if_pos h6] at h ⊢; cases h; exact ⟨_, rfl⟩
  rw [if_neg h6] at h ⊢
  cases h; exact ⟨_, rfl⟩
theorem walkP_some (n : Nat) (encs : List ByteArray) (C : List (List Int)) (lo hi : ByteArray) : ∀ (k : Nat) (seen : Int) (root above blo bhi : ByteArray), 0 ≤ seen → seen ≤ 500 → 500 - seen < k → ∃ r, walkP n encs C lo hi k seen root above blo bhi = some r := by
 intro k
 induction k with
 | zero => intro seen root above blo bhi h0 h1 h2; omega
 | succ k ih =>
  intro seen root above blo bhi h0 h1 h2; unfold walkP
  split
  ·exact ⟨_, rfl⟩
  split
  ·exact ⟨_, rfl⟩
  split
  ·exact ⟨_, rfl⟩
  split
  ·exact ⟨_, rfl⟩
  rename_i h6
  obtain ⟨⟨l, s1, c1⟩, hL⟩ := ih (seen + 1) (findR n encs C root).2.2.1 (findR n encs C root).1 blo (findR n encs C root).1 (by omega) (by omega) (by omega); have iL := walkP_len _ _ _ _ _ _ _ _ _ _ _ _ _ _ hL (by omega) (by omega); rw [hL, Option.bind_some]; dsimp only
  split
  ·exact ⟨_, rfl⟩
  obtain ⟨⟨r, s2, c2⟩, hR⟩ := ih s1 (findR n encs C root).2.2.2.1 (findR n encs C root).1 (findR n encs C root).1 bhi (by omega) (by omega) (by omega); rw [hR, Option.bind_some]; dsimp only
  split
  ·exact ⟨_, rfl⟩
  ·exact ⟨_, rfl⟩
theorem decI_val {s : ByteArray} {n : Nat} {a b c d : ByteArray} (h : decI s n = some (a, b, c, d)) : b.size ≤ 2000 := by
 unfold decI at h; dsimp only at h
 split at h
 ·rename_i hc
  obtain ⟨_, _, _, _, h5⟩ := hc; simp only [Option.some.injEq, Prod.mk.injEq] at h; obtain ⟨rfl, rfl, rfl, rfl⟩ := h; unfold nodeOk hOk at h5; simp only [Bool.and_eq_true, Bool.or_eq_true, decide_eq_true_eq] at h5; omega
 ·cases h
theorem findR_val {n : Nat} {encs : List ByteArray} {C : List (List Int)} {root : ByteArray} (h : (findR n encs C root).2.2.2.2 = 0) : (findR n encs C root).2.1.size ≤ 2000 := by
 unfold findR at h ⊢
 split at h
 ·simp at h
 ·rename_i i hi
  rcases hz : decI (encs.getD i ⟨#[]⟩) n with _ | ⟨a, b, c, d⟩
  ·rw [hz] at h; simp at h
  ·exact decI_val hz
theorem walkP_ok (n : Nat) (encs : List ByteArray) (C : List (List Int)) (lo hi : ByteArray) (hn : n ≤ 32) : ∀ (k : Nat) (seen : Int) (root above blo bhi : ByteArray) (t : PT) (s' c' : Int), walkP n encs C lo hi k seen root above blo bhi = some (t, s', c') → root.size ≤ 32 → t.ok := by
 intro k
 induction k with
 | zero => intro seen root above blo bhi t s' c' h; cases h
 | succ k ih =>
  intro seen root above blo bhi t s' c' h hr; unfold walkP at h
  split at h
  ·simp only [Option.some.injEq, Prod.mk.injEq] at h; obtain ⟨rfl, rfl, rfl⟩ := h; exact noneT_ok root hr
  split at h
  ·cases h; trivial
  split at h
  ·cases h; trivial
  rename_i h3
  have h30 : (findR n encs C root).2.2.2.2 = 0 := Classical.not_not.mp (fun g => h3 (.inl g)); have hs := findR_sizes hn h30; have hv := findR_val h30
  split at h
  ·cases h; trivial
  obtain ⟨⟨l, s1, c1⟩, hL, h⟩ := Option.bind_eq_some_iff.mp h; have iL := ih _ _ _ _ _ _ _ _ hL hs.2.1; dsimp only at h
  split at h
  ·cases h; trivial
  obtain ⟨⟨r, s2, c2⟩, hR, h⟩ := Option.bind_eq_some_iff.mp h; have iR := ih _ _ _ _ _ _ _ _ hR hs.2.2; dsimp only at h
  split at h
  ·cases h; trivial
  ·cases h; exact ⟨hs.1, hv, iL, iR⟩
end Go.Proofs.YtonbmghgbblifaaDoor.Z
end
section
namespace Go.Proofs.YtonbmghgbblifaaDoor.Z
open RowKit YtonbmghgbblifaaDoor YtonbmghgbblifaaDoorW.PrintWords YtonbmghgbblifaaDoorW.PrintLast
set_option linter.all false
set_option maxRecDepth 100000
def fpRow (k v : ByteArray) (ul ur : Value) (q : ByteArray × ByteArray × ByteArray × ByteArray) : Array Value := #[.string k, .string v, ul, ur, .string q.1, .string q.2.1, .string q.2.2.1, .string q.2.2.2]
def InP (N : PT → ByteArray × ByteArray × ByteArray × ByteArray) (w : World) (base : Nat) : Value → PT → Prop
 | u, .emp => u = .iface 97 (.agg #[])
 | u, .stub s => u = .iface 98 (.string s)
 | u, .full k v l r => ∃ g ul ur, u = .iface 99 (.pointer (some ⟨g, 0, none⟩)) ∧ base ≤ g ∧ g < w.heap.size ∧ w.heap[g]? = some (.cells (fpRow k v ul ur (N (.full k v l r))) 101 (0, 0)) ∧ InP N w base ul l ∧ InP N w base ur r
def N0 : PT → ByteArray × ByteArray × ByteArray × ByteArray := fun _ => (⟨#[]⟩, ⟨#[]⟩, ⟨#[]⟩, ⟨#[]⟩)
section
variable {N : PT → ByteArray × ByteArray × ByteArray × ByteArray} {w w1 : World} {base : Nat}
theorem InP.keep {t : PT} (hs : w.heap.size ≤ w1.heap.size) (hb : ∀ k, base ≤ k → k < w.heap.size → w1.heap[k]? = w.heap[k]?) : ∀ {u : Value}, InP N w base u t → InP N w1 base u t := by
 induction t with
 | emp => intro u h; exact h
 | stub s => intro u h; exact h
 | full k v l r ihl ihr =>
  rintro u ⟨g, ul, ur, rfl, h1, h2, h3, h4, h5⟩; exact ⟨g, ul, ur, rfl, h1, by omega, (hb g h1 h2).trans h3, ihl h4, ihr h5⟩
theorem InP.below {t : PT} {u : Value} (h : InP N w base u t) (hb : Below w.heap.size w w1) : InP N w1 base u t := InP.keep hb.size (fun k _ hk => hb.block k hk) h
theorem InP.past {t : PT} {u : Value} {B : Nat} (h : InP N w base u t) (hg : w.grownBy w1 (some B)) (hB : B < base) : InP N w1 base u t :=
 InP.keep hg.size (fun k h1 hk => hg.block k hk (fun e => by have := Option.some.inj e; omega)) h
theorem InP.lower {t : PT} {b : Nat} (hb : b ≤ base) : ∀ {u : Value}, InP N w base u t → InP N w b u t := by
 induction t with
 | emp => intro u h; exact h
 | stub s => intro u h; exact h
 | full k v l r ihl ihr =>
  rintro u ⟨g, ul, ur, rfl, h1, h2, h3, h4, h5⟩; exact ⟨g, ul, ur, rfl, by omega, h2, h3, ihl h4, ihr h5⟩
end
theorem InP.form {N : PT → ByteArray × ByteArray × ByteArray × ByteArray} {w : World} {base : Nat} {t : PT} {u : Value} (h : InP N w base u t) : ∃ a b, u = .iface a b := by
 cases t with
 | emp => exact ⟨_, _, h⟩
 | stub s => exact ⟨_, _, h⟩
 | full k v l r => obtain ⟨g, ul, ur, rfl, _⟩ := h; exact ⟨_, _, rfl⟩
def noneV (s : ByteArray) : Value := if emp s = true then .iface 97 (.agg #[]) else .iface 98 (.string s)
theorem noneP (N : PT → ByteArray × ByteArray × ByteArray × ByteArray) (w : World) (base : Nat) (s : ByteArray) : InP N w base (noneV s) (noneT s) := by
 unfold noneV noneT
 split
 ·rfl
 ·rfl
theorem proveNone_any (s : ByteArray) (w : World) : Calls Tryd.prog 51 #[.string s] w fun e w' => e = .returned (noneV s) ∧ Below w.heap.size w w' := by
 cases h : s.toList.isEmpty
 ·have hn : noneV s = .iface 98 (.string s) := by unfold noneV emp; rw [h]; rfl
  rw [hn]
  go_enter Tryd.func51, Tryd.ntmps51
  go_wp2_with fail
  go_ret
  exact ⟨rfl, Below.refl _ _⟩
 ·have hn : noneV s = .iface 97 (.agg #[]) := by unfold noneV emp; rw [h]; rfl
  rw [hn]
  go_enter Tryd.func51, Tryd.ntmps51
  go_wp2_with fail
  go_ret
  exact ⟨rfl, Below.refl _ _⟩
theorem proveBoth_any (base : Nat) (k0 k1 k2 k3 : ByteArray) (u1 u2 : Value) (l r : PT) (w : World) (h1 : InP N0 w base u1 l) (h2 : InP N0 w base u2 r) (hb : base ≤ w.heap.size) :
  Calls Tryd.prog 52 #[.agg #[.string k0, .string k1, .string k2, .string k3], u1, u2] w fun e w' => ∃ u, e = .returned u ∧ InP N0 w' base u (.full k0 k1 l r) ∧ Below w.heap.size w w' := by
 obtain ⟨a1, b1, rfl⟩ := h1.form; obtain ⟨a2, b2, rfl⟩ := h2.form; have H1 := Lib.hid h1; have H2 := Lib.hid h2; clear h1 h2
 go_enter Tryd.func52, Tryd.ntmps52
 go_wp2_with fail
 go_ret
 refine ⟨_, rfl, ⟨w.heap.size + 1, .iface a1 b1, .iface a2 b2, rfl, by omega, by simp, ?_, ?_, ?_⟩, by (repeat' (first | exact Below.refl _ _ | (with_reducible assumption) | (with_reducible refine Below.setCell ?_ zq_12 _) | refine below_then ?_ (by assumption) | (with_reducible refine below_new2 ?_ _) | (with_reducible refine Below.drew ?_) | (with_reducible refine bdrewN ?_ _)))⟩
 ·have := heap_alloc_new (w.alloc (.cells #[.string k0, .string k1, .string k2, .string k3] 49)) (.cells (fpRow k0 k1 (.iface a1 b1) (.iface a2 b2) (N0 (.full k0 k1 l r))) 101); rw [World.size_alloc] at this; exact this
 ·exact H1.out.below zq_15
 ·exact H2.out.below zq_15
end Go.Proofs.YtonbmghgbblifaaDoor.Z
end
