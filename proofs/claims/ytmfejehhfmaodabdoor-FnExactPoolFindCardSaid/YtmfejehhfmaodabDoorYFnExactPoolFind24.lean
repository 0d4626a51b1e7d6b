/- Own texts and the print's words that they use, joined by a program of this session. -/
import Derived.Test.YtmfejehhfmaodabDoorYFnExactPoolFind23
import Derived.Test.YtmfejehhfmaodabDoorYFnExactPoolFind22
import Derived.Test.YtmfejehhfmaodabDoorYFnExactPoolFind21
import Derived.Lib.Builder
import Derived.Lib.AppendStr
import Derived.Lib.UnsafeStr
import Derived.Lib.Walk
import Derived.Laws.Externs
import Derived.StillTailTactics
import Derived.Deep.RegionHeld3
import Derived.Lib.SliceRun
import Derived.Maps.OwnSet
import Derived.DeepKeys4
import Derived.Lib.BufferOwn
import Derived.Lib.BufferWrite
section
namespace Go.Proofs.YtmfejehhfmaodabDoor.Z
open Go.RowKit Go.Proofs.YtmfejehhfmaodabDoor Go.Proofs.YtmfejehhfmaodabDoorW.PrintWords Go.Proofs.YtmfejehhfmaodabDoorW.PrintLast
set_option linter.unusedVariables false
set_option linter.unusedSimpArgs false
set_option maxRecDepth 100000
theorem strOfNums_take (l : List Int) (n : Nat) : strOfNums (l.take n) = (strOfNums l).extract 0 n := by
  apply ByteArray.ext
  unfold strOfNums
  simp [ByteArray.data_extract]
def widB (x : Int) : Bool := decide (1 ≤ x ∧ x ≤ 32)
theorem isWidth_any (x : Int) (w : World) : Calls Tryd.prog 47 #[.int .i64 x] w fun e w' => e = .returned (.bool (widB x)) ∧ w = w' := by
  go_enter Tryd.func47, Tryd.ntmps47
  go_wp2
  all_goals
    go_ret
    refine ⟨ret_bool ?_, rfl⟩
    unfold widB
    grind
theorem hash_str (l : List Int) (hl : l.length = 32) (g : Nat) (W : World) (hg : W.heap[g]? = some (.cells (l.map (Value.int .u8)).toArray 85 (0, 0))) :
    (convert 113 9 (.slice (some ⟨g, 0, none⟩) 32 32)).run Tryd.prog W = .ok (.string (strOfNums l)) W := by
  refine run_convert_bytes_arg (P := Tryd.prog) _ 113 5 Tryd.underlying113 Tryd.underlying5 g 0 32 32 l (by omega) (fun i hi => ?_) 9 Tryd.underlying9
  rw [Nat.zero_add, cell_of_row _ _ _ _ _ _ hg]
  simp [List.getD_eq_getElem?_getD, hl, show i < 32 by omega]
def aboveB (x y : List Int) (a b : ByteArray) : Bool := if x = y then Op.bytesLess a.toList b.toList else (!Op.bytesLess (strOfNums x).toList (strOfNums y).toList && !((strOfNums x).toList == (strOfNums y).toList))
set_option maxHeartbeats 1000000 in
set_option maxRecDepth 10000 in
theorem above_any (x y : List Int) (hx : x.length = 32) (hy : y.length = 32) (a b : ByteArray) (w : World) :
    Calls Tryd.prog 84 #[hashV x, .string a, hashV y, .string b] w fun e w' => e = .returned (.bool (aboveB x y a b)) ∧ Below w.heap.size w w' := by
  have hne := fun w => run_neq_hash x y hx hy w
  have hA : ((w.alloc (.cells (x.map (Value.int .u8)).toArray 85)).alloc (.cells (y.map (Value.int .u8)).toArray 85)).heap[w.heap.size]? = some (.cells (x.map (Value.int .u8)).toArray 85 (0, 0)) := heap_alloc2_old _ _ _
  have hB : ((w.alloc (.cells (x.map (Value.int .u8)).toArray 85)).alloc (.cells (y.map (Value.int .u8)).toArray 85)).heap[w.heap.size + 1]? = some (.cells (y.map (Value.int .u8)).toArray 85 (0, 0)) := heap_alloc2_new _ _ _
  have hi : (Tryd.prog.info? 85).map (·.size) = some ((x.map (Value.int .u8)).toArray.size) := by
    rw [show ((x.map (Value.int .u8)).toArray.size) = 32 by simp [hx]]; kernel_rfl
  have hj : (Tryd.prog.info? 85).map (·.size) = some ((y.map (Value.int .u8)).toArray.size) := by
    rw [show ((y.map (Value.int .u8)).toArray.size) = 32 by simp [hy]]; kernel_rfl
  have HA := Lib.hid hA; have HB := Lib.hid hB; have HI := Lib.hid hi; have HJ := Lib.hid hj
  have HX := Lib.hid hx; have HY := Lib.hid hy
  clear hA hB hi hj hx hy
  unfold hashV at *
  by_cases hxy : x = y
  · have hd : decide (x = y) = true := decide_eq_true hxy
    have HD : Hid (aboveB x y a b = Op.bytesLess a.toList b.toList) := Lib.hid (by unfold aboveB; rw [if_pos hxy])
    clear hxy
    go_enter Tryd.func84, Tryd.ntmps84
    go_wp2_with (first | ((with_reducible refine gate_dst (N := 9) rfl ?_); refine wpList_load_row rfl 85 _ rfl w.heap.size rfl _ _ _ _ HA.out Tryd.underlying85 rfl HI.out ?_) | ((with_reducible refine gate_dst (N := 10) rfl ?_); refine wpList_load_row rfl 85 _ rfl (w.heap.size + 1) rfl _ _ _ _ HB.out Tryd.underlying85 rfl HJ.out ?_))
    go_ret
    exact ⟨by rw [HD.out]; rfl, by (repeat' (first | exact Below.refl _ _ | (with_reducible assumption) | (with_reducible refine Below.setCell ?_ (by first | (simp; done) | (simp; omega)) _) | refine below_then ?_ (by assumption) | (with_reducible refine below_new2 ?_ _) | (with_reducible refine Below.drew ?_) | (with_reducible refine bdrewN ?_ _)))⟩
  · have hd : decide (x = y) = false := decide_eq_false hxy
    have HD : Hid (aboveB x y a b = (!Op.bytesLess (strOfNums x).toList (strOfNums y).toList && !((strOfNums x).toList == (strOfNums y).toList))) := Lib.hid (by unfold aboveB; rw [if_neg hxy])
    clear hxy
    go_enter Tryd.func84, Tryd.ntmps84
    go_wp2_with (first | ((with_reducible refine gate_dst (N := 9) rfl ?_); refine wpList_load_row rfl 85 _ rfl w.heap.size rfl _ _ _ _ HA.out Tryd.underlying85 rfl HI.out ?_) | ((with_reducible refine gate_dst (N := 10) rfl ?_); refine wpList_load_row rfl 85 _ rfl (w.heap.size + 1) rfl _ _ _ _ HB.out Tryd.underlying85 rfl HJ.out ?_))
    have hBel : Below w.heap.size w ((w.alloc (.cells (x.map (Value.int .u8)).toArray 85)).alloc (.cells (y.map (Value.int .u8)).toArray 85)) := by (repeat' (first | exact Below.refl _ _ | (with_reducible assumption) | (with_reducible refine Below.setCell ?_ (by first | (simp; done) | (simp; omega)) _) | refine below_then ?_ (by assumption) | (with_reducible refine below_new2 ?_ _) | (with_reducible refine Below.drew ?_) | (with_reducible refine bdrewN ?_ _)))
    generalize (w.alloc (.cells (x.map (Value.int .u8)).toArray 85)).alloc (.cells (y.map (Value.int .u8)).toArray 85) = W at HA HB hBel ⊢
    have kx := fun n => hash_str x HX.out w.heap.size (W.drewN n) HA.out
    have ky := fun n => hash_str y HY.out (w.heap.size + 1) (W.drewN n) HB.out
    have kx0 := hash_str x HX.out w.heap.size W HA.out
    have ky0 := hash_str y HY.out (w.heap.size + 1) W HB.out
    clear hne
    go_quiet (fail)
    go_wp2
    go_ret
    exact ⟨by rw [HD.out]; rfl, bdrewN hBel nq⟩
theorem catL_one (s : ByteArray) : catL [s] = s.data.toList := by simp [catL]
theorem hashOne_any (s : ByteArray) (W w : World) (hW : W = w.alloc (.cells #[.string s] 9)) (ht : Tab w) (hs : s.size ≤ 4294967296) :
    Calls Tryd.prog 83 #[.slice (some ⟨w.heap.size, 0, none⟩) 1 1] W fun e w' => e = .returned (hashV (shaL s.data.toList)) ∧ Below w.heap.size w w' := by
  subst hW
  have h := hashOf_any w.heap.size [s] (w.alloc (.cells #[.string s] 9)) (fun j p hj => by
    match j, hj with
    | 0, hj =>
      simp only [List.getElem?_cons_zero, Option.some.injEq] at hj
      subst hj
      rw [cell_of_row _ _ _ _ _ _ (heap_alloc_new _ _)]; rfl) (ht.below (by (repeat' (first | exact Below.refl _ _ | (with_reducible assumption) | (with_reducible refine Below.setCell ?_ (by first | (simp; done) | (simp; omega)) _) | refine below_then ?_ (by assumption) | (with_reducible refine below_new2 ?_ _) | (with_reducible refine Below.drew ?_) | (with_reducible refine bdrewN ?_ _))))) (by rw [catL_one]; exact hs) (by simp) (by simp)
  rw [catL_one] at h
  refine h.mono ?_
  rintro e w' ⟨h1, hb⟩
  exact ⟨h1, ((Below.refl _ _).alloc (Nat.le_refl _) _).trans (hb.mono (by simp))⟩
def impl_Sha256.f (a0 : ByteArray) : Option ByteArray := if a0.size ≤ 4294967296 then some (shaV a0) else none
def digV (s : ByteArray) (n : Int) : ByteArray := if widB n then (shaV s).extract 0 n.toNat else ⟨#[]⟩
theorem digV_yes {s : ByteArray} {n : Int} (h : widB n = true) : digV s n = (shaV s).extract 0 n.toNat := by unfold digV; rw [h]; rfl
theorem digV_no {s : ByteArray} {n : Int} (h : widB n = false) : digV s n = ⟨#[]⟩ := by unfold digV; rw [h]; rfl
def impl_Digest.f (a0 : ByteArray) (a1 : Int) : Option ByteArray := if a0.size ≤ 4294967296 then some (digV a0 a1) else none
def highB (a b : ByteArray) : Bool := aboveB (shaL a.data.toList) (shaL b.data.toList) a b
def impl_Higher.f (a0 a1 : ByteArray) : Option Bool := if a0.size ≤ 4294967296 ∧ a1.size ≤ 4294967296 then some (highB a0 a1) else none
theorem impl_Higher.calls (a0 a1 : ByteArray) (r : Bool) (w : World) (h : impl_Higher.f a0 a1 = some r) (hTab : Tab w := by exact Tab.below (by assumption) (by repeat (first | (with_reducible first | exact HB.out | apply below_alloc | apply pw_below_drewN | apply below_drew1 | refine below_set ?_ (Aside0.out (by assumption))) | exact HB.out))) :
    Calls Tryd.prog 102 #[.string a0, .string a1] w fun e w' => e = .returned (.bool r) ∧ Below w.heap.size w w' := by
  unfold impl_Higher.f at h
  split at h
  · rename_i hs
    obtain rfl := Option.some.inj h
    have HT := Lib.hid hTab; clear hTab
    go_enter Tryd.func102, Tryd.ntmps102
    go_wp2_with fail
    refine (hashOne_any a0 _ w rfl HT.out hs.1).mono ?_
    rintro e w1 ⟨rfl, hb1⟩
    go_wp2_with fail
    refine (hashOne_any a1 _ w1 rfl (HT.out.below hb1) hs.2).mono ?_
    rintro e w2 ⟨rfl, hb2⟩
    go_wp2_with fail
    refine (above_any _ _ (shaL_length _) (shaL_length _) a0 a1 _).mono ?_
    rintro e w3 ⟨rfl, hb3⟩
    go_wp2
    go_ret
    exact ⟨rfl, (hb1.trans (hb2.mono hb1.size)).trans (hb3.mono (Nat.le_trans hb1.size hb2.size))⟩
  · cases h
end Go.Proofs.YtmfejehhfmaodabDoor.Z
end
section
namespace Go.Proofs.YtmfejehhfmaodabDoor
open Go.RowKit
set_option linter.unusedVariables false
set_option linter.unusedSimpArgs false
set_option maxRecDepth 100000
structure LiesB (T : TypeId) : Prop where
  lies : liesAt Tryd.prog Tryd.prog.depth T (2 / Tryd.prog.cellsOf T) 0 127 1 = true
  ne : T ≠ 5
theorem liesOwn : LiesB 168 := ⟨by kernel_rfl, by decide⟩
theorem sizeBuilder : (Tryd.prog.info? 127).map (·.size) = some 2 := by kernel_rfl
theorem infoU8' : (Tryd.prog.info? 5).map (fun i => (i.zero, i.size, i.bytes)) = some (some (.int .u8 0), 1, 1) := by kernel_rfl
def Bld (T : TypeId) (B b : Nat) (l : List UInt8) (w : World) : Prop := Lib.IsBuilder T 5 B b (bcs l) w
theorem Bld.fresh (T : TypeId) (w : World) : Bld T w.heap.size w.heap.size [] (w.alloc (.cells #[.pointer none, .slice none 0 0] T)) := Lib.fresh_isBuilder T 5 w
theorem Bld.keep {T : TypeId} {B b : Nat} {l : List UInt8} {w w1 : World} (h : Bld T B b l w) (hs : w.heap.size ≤ w1.heap.size) (hb : ∀ k, k < w.heap.size → w1.heap[k]? = w.heap[k]?) : Bld T B b l w1 := by
  have one : ∀ p, Lib.BuilderAt T 5 B b p (bcs l) w → Lib.BuilderAt T 5 B b p (bcs l) w1 := by
    rintro p ⟨hB, v, hbk, hown, hne⟩
    have hlt : b < w.heap.size := by
      rcases Nat.lt_or_ge b w.heap.size with h' | h'
      · exact h'
      · simp [Array.getElem?_eq_none h'] at hbk
    refine ⟨hB, v, (hb b hlt).trans hbk, ⟨hown.1, ?_⟩, hne⟩
    rcases hown.2 with h2 | ⟨g, cap, cur, hv, h1, h2, h3⟩
    · exact .inl h2
    · refine .inr ⟨g, cap, cur, hv, h1, (hb g ?_).trans h2, h3⟩
      rcases Nat.lt_or_ge g w.heap.size with h' | h'
      · exact h'
      · simp [Array.getElem?_eq_none h'] at h2
  rcases h with h | h
  · exact .inl (one _ h)
  · exact .inr (one _ h)
theorem Bld.below {T : TypeId} {B b : Nat} {l : List UInt8} {w w1 : World} (h : Bld T B b l w) (hb : Below w.heap.size w w1) : Bld T B b l w1 := h.keep hb.size fun k hk => hb.block k hk
theorem Bld.base {T : TypeId} {B b : Nat} {l : List UInt8} {w : World} (h : Bld T B b l w) : B ≤ b ∧ b < w.heap.size := by
  rcases h with h | h
  · exact ⟨h.1, h.lt⟩
  · exact ⟨h.1, h.lt⟩
set_option maxHeartbeats 1000000 in
theorem copyCheck_used (b : Nat) (w : World) (h0 : w.cell? ⟨b, 0, none⟩ = some (.pointer (some ⟨b, 0, none⟩))) :
    Calls Tryd.prog 118 #[.pointer (some ⟨b, 0, none⟩)] w fun e w' => e = .returned (.tuple #[]) ∧ w' = w := by
  obtain ⟨j, hj, _⟩ := Option.map_eq_some_iff.1 sizeBuilder
  go_enter Tryd.func118, Tryd.ntmps118
  go_wp2
  rw [Lib.run_neq_ptr_same w _ Tryd.underlying125 hj]
  go_wp2
  go_end0
  exact ⟨rfl, rfl⟩
set_option maxHeartbeats 1000000 in
theorem copyCheck_fresh (T : TypeId) (hT : LiesB T) (b : Nat) (w : World) (h0 : w.cell? ⟨b, 0, none⟩ = some (.pointer none)) (hsh : w.shape? b = some (T, 2)) (hfz : w.frozen? ⟨b, 0, none⟩ = false) :
    Calls Tryd.prog 118 #[.pointer (some ⟨b, 0, none⟩)] w fun e w' => e = .returned (.tuple #[]) ∧ w' = w.setCell ⟨b, 0, none⟩ (.pointer (some ⟨b, 0, none⟩)) := by
  obtain ⟨j, hj, hjs⟩ := Option.map_eq_some_iff.1 sizeBuilder
  go_enter Tryd.func118, Tryd.ntmps118
  go_wp2
  rw [Lib.run_to_unsafe w ⟨b, 0, none⟩ Tryd.underlying125 Tryd.underlying178 hj (by rw [hjs]; decide) hsh (Nat.zero_lt_succ 1)]
  simp only [Result.andThen]
  rw [Oper.upon_value]
  go_wp2
  rw [run_callFunc_extern Tryd.func135 (by kernel_rfl) (by kernel_rfl) (by kernel_rfl) (e := Extern.AbiNoEscape.same) (by kernel_rfl)]
  rw [Lib.run_noEscape]
  simp only [Result.andThen]
  rw [Oper.upon_value]
  go_wp2
  rw [Lib.run_from_unsafe w ⟨b, 0, none⟩ Tryd.underlying178 Tryd.underlying125 hj hsh hT.lies]
  simp only [Result.andThen]
  rw [Oper.upon_value]
  go_wp2
  go_end0
  exact ⟨rfl, rfl⟩
theorem copyCheck_any (T : TypeId) (hT : LiesB T) (B b : Nat) (bs : List Value) (w : World) (h : Lib.IsBuilder T 5 B b bs w) :
    Calls Tryd.prog 118 #[.pointer (some ⟨b, 0, none⟩)] w fun e w' => e = .returned (.tuple #[]) ∧ (Lib.BuilderAt T 5 B b (.pointer (some ⟨b, 0, none⟩)) bs w' ∧ Below B w w') := by
  rcases h with h | h
  · refine (copyCheck_fresh T hT b w h.cell0 h.shape h.frozen0).mono ?_
    rintro e w' ⟨rfl, rfl⟩
    exact ⟨rfl, h.used _, (Below.refl B w).setCell (p := ⟨b, 0, none⟩) h.1 _⟩
  · refine (copyCheck_used b w h.cell0).mono ?_
    rintro e w' ⟨rfl, rfl⟩
    exact ⟨rfl, h, Below.refl B _⟩
theorem bcs_snoc (l : List UInt8) (c : UInt8) : bcs (l ++ [c]) = bcs l ++ [.int .u8 c.toNat] := by simp [bcs]
set_option maxHeartbeats 2000000 in
theorem writeByte_any (T : TypeId) (hT : LiesB T) (B b : Nat) (l : List UInt8) (c : UInt8) (x : Int) (hx : x = c.toNat) (w : World) (h : Bld T B b l w) (hlen : l.length + 1 ≤ 140737488355328) (hBw : B ≤ w.heap.size) :
    Calls Tryd.prog 139 #[.pointer (some ⟨b, 0, none⟩), .int .u8 x] w fun e w' => e = .returned .nilIface ∧ Bld T B b (l ++ [c]) w' ∧ Below B w w' := by
  subst hx
  obtain ⟨i0, hi, hz0, hz1, hz2⟩ := info_parts infoU8'
  go_enter Tryd.func139, Tryd.ntmps139
  go_wp2_with (go_at_call 118; refine (copyCheck_any T hT B b _ _ h).mono ?_)
  rintro e w1 ⟨rfl, h1, hb1⟩
  obtain ⟨hB, v, hbk, hown, hne⟩ := h1
  have c0 : w1.cell? ⟨b, 0, none⟩ = some (.pointer (some ⟨b, 0, none⟩)) := by rw [Lib.cell_of_heap hbk]; rfl
  have c1 : w1.cell? ⟨b, 1, none⟩ = some v := by rw [Lib.cell_of_heap hbk]; rfl
  go_wp2_with (at_builtin; refine wpList_append_own _ rfl _ _ 113 rfl B 5 i0 (.int .u8 0) 1 1 Tryd.underlying113 hi hz0 hz1 hz2 rfl (by decide) _ _ _ rfl (hown.alloc _) ⟨w1.heap.size, 0, none⟩ 1 1 [.int .u8 c.toNat] rfl rfl ?c1 ?c2 ?c3 ?c4 ?c5 ?_)
  case c1 =>
    intro j u hj
    match j, hj with
    | 0, hj => simp at hj; subst hj; simp [Addr.add]
  case c2 => intro u hu; simp at hu; subst hu; rfl
  case c3 => rw [bcs_length]; unfold maxLen; omega
  case c4 => rw [bcs_length]; omega
  case c5 => have := hb1.size; simp; omega
  intro v' w2 hown' hgrow _
  have hlt : b < w1.heap.size := by
    rcases Nat.lt_or_ge b w1.heap.size with h' | h'
    · exact h'
    · simp [Array.getElem?_eq_none h'] at hbk
  have hb2 : w2.heap[b]? = some (.cells #[.pointer (some ⟨b, 0, none⟩), v] T (0, 0)) := by
    rw [hgrow.block b (by simp; omega) (fun e => hne e.symm), Lib.alloc_old w1 _ b hlt]
    exact hbk
  have d0 : w2.cell? ⟨b, 0, none⟩ = some (.pointer (some ⟨b, 0, none⟩)) := by rw [Lib.cell_of_heap hb2]; rfl
  have d1 : w2.cell? ⟨b, 1, none⟩ = some v := by rw [Lib.cell_of_heap hb2]; rfl
  have f1 : w2.frozen? ⟨b, 1, none⟩ = false := Lib.frozen_of_heap hb2 1
  obtain ⟨g, cap, rfl⟩ : ∃ g cap, v' = .slice (some ⟨g, 0, none⟩) ((bcs l).length + 1) cap := by
    rcases hown'.2 with ⟨_, h0⟩ | ⟨g, cap, cur, hv, _⟩
    · omega
    · exact ⟨g, cap, hv⟩
  go_wp2
  go_ret
  refine ⟨rfl, ?_, ?_⟩
  · rw [Bld, bcs_snoc]
    exact .inr (Lib.BuilderAt.put (T := T) (e := 5) hB hb2 (bs' := bcs l ++ [.int .u8 c.toNat]) (by simpa using hown') hT.ne)
  · exact ((hb1.alloc (by have := hb1.size; omega) _).grown hgrow (by have := hb1.size; simp; omega) (fun k hk => (hown.lt k hk).1)).setCell (p := ⟨b, 1, none⟩) hB _
set_option maxHeartbeats 2000000 in
theorem writeString_any (T : TypeId) (hT : LiesB T) (B b : Nat) (l : List UInt8) (s : ByteArray) (w : World) (h : Bld T B b l w) (hlen : l.length + s.size ≤ 140737488355328) (hBw : B ≤ w.heap.size) :
    Calls Tryd.prog 94 #[.pointer (some ⟨b, 0, none⟩), .string s] w fun e w' => e = .returned (.tuple #[.int .i64 s.size, .nilIface]) ∧ Bld T B b (l ++ s.data.toList) w' ∧ Below B w w' := by
  obtain ⟨i0, hi, hz0, hz1, hz2⟩ := info_parts infoU8'
  go_enter Tryd.func94, Tryd.ntmps94
  go_wp2_with (go_at_call 118; refine (copyCheck_any T hT B b _ _ h).mono ?_)
  rintro e w1 ⟨rfl, h1, hb1⟩
  obtain ⟨hB, v, hbk, hown, hne⟩ := h1
  have c0 : w1.cell? ⟨b, 0, none⟩ = some (.pointer (some ⟨b, 0, none⟩)) := by rw [Lib.cell_of_heap hbk]; rfl
  have c1 : w1.cell? ⟨b, 1, none⟩ = some v := by rw [Lib.cell_of_heap hbk]; rfl
  go_wp2_with (at_builtin; refine Lib.wpList_append_own_string _ rfl _ _ 113 9 rfl B 5 i0 Tryd.underlying113 Tryd.underlying9 hi hz0 hz1 hz2 _ _ _ rfl hown s rfl ?c3 ?c4 ?c5 ?_)
  case c3 => rw [bcs_length]; unfold maxLen; omega
  case c4 => rw [bcs_length]; omega
  case c5 => have := hb1.size; omega
  intro v' w2 hown' hgrow _
  have hlt : b < w1.heap.size := by
    rcases Nat.lt_or_ge b w1.heap.size with h' | h'
    · exact h'
    · simp [Array.getElem?_eq_none h'] at hbk
  have hb2 : w2.heap[b]? = some (.cells #[.pointer (some ⟨b, 0, none⟩), v] T (0, 0)) := by
    rw [hgrow.block b hlt (fun e => hne e.symm)]
    exact hbk
  have d0 : w2.cell? ⟨b, 0, none⟩ = some (.pointer (some ⟨b, 0, none⟩)) := by rw [Lib.cell_of_heap hb2]; rfl
  have d1 : w2.cell? ⟨b, 1, none⟩ = some v := by rw [Lib.cell_of_heap hb2]; rfl
  have f1 : w2.frozen? ⟨b, 1, none⟩ = false := Lib.frozen_of_heap hb2 1
  obtain ⟨ao, n', cap, rfl⟩ : ∃ ao n' cap, v' = .slice ao n' cap := by
    rcases hown'.2 with ⟨hv, _⟩ | ⟨g, cap, cur, hv, _⟩
    · exact ⟨_, _, _, hv⟩
    · exact ⟨_, _, _, hv⟩
  go_wp2
  go_ret2
  have hcs : Lib.strCells s = bcs s.data.toList := rfl
  refine ⟨rfl, ?_, ?_⟩
  · rw [Bld, bcs_append, ← hcs]
    exact .inr (Lib.BuilderAt.put (T := T) (e := 5) hB hb2 (bs' := bcs l ++ Lib.strCells s) (by simpa [Lib.strCells_length] using hown') hT.ne)
  · exact (hb1.grown hgrow (by have := hb1.size; omega) (fun k hk => (hown.lt k hk).1)).setCell (p := ⟨b, 1, none⟩) hB _
set_option maxHeartbeats 1000000 in
/-- 'b.String()', of a builder that holds a byte. -/
theorem string_any (T : TypeId) (B b : Nat) (l : List UInt8) (w : World) (h : Bld T B b l w) (h0 : l ≠ []) :
    Calls Tryd.prog 95 #[.pointer (some ⟨b, 0, none⟩)] w fun e w' => e = .returned (.string ⟨l.toArray⟩) ∧ Below B w w' := by
  obtain ⟨p, hB, v, hbk, hown, hne⟩ : ∃ p, Lib.BuilderAt T 5 B b p (bcs l) w := by
    rcases h with h | h
    · exact ⟨_, h⟩
    · exact ⟨_, h⟩
  have hl0 : l.length ≠ 0 := by simpa using h0
  rw [bcs_length] at hown
  obtain ⟨g, cap, cur, rfl, hbg, hg, hnc, hcm, hcs, htake⟩ : ∃ g cap cur, v = .slice (some ⟨g, 0, none⟩) l.length cap ∧ B ≤ g ∧ w.heap[g]? = some (.cells cur 5 (0, 0)) ∧ l.length ≤ cap ∧ cap ≤ maxLen ∧ cur.size = cap * 1 ∧ cur.toList.take (l.length * 1) = bcs l := by
    rcases hown.2 with ⟨_, hz⟩ | ⟨g, cap, cur, hv, r⟩
    · exact absurd hz hl0
    · exact ⟨g, cap, cur, hv, r⟩
  have c1 : w.drew.cell? ⟨b, 1, none⟩ = some (.slice (some ⟨g, 0, none⟩) l.length cap) := by
    have : w.drew.heap[b]? = some (.cells #[p, .slice (some ⟨g, 0, none⟩) l.length cap] T (0, 0)) := hbk
    rw [Lib.cell_of_heap this]; rfl
  have hSD : (Builtin.unsafeSliceData_ #[113] 152 #[.slice (some ⟨g, 0, none⟩) l.length cap]).run Tryd.prog w.drew = .ok (.pointer (some ⟨g, 0, none⟩)) w.drew :=
    Lib.run_unsafeSliceData_row _ _ _ _ _ _ (by omega)
  have hUS : (Builtin.unsafeString_ #[152, 3] 9 #[.pointer (some ⟨g, 0, none⟩), .int .i64 l.length]).run Tryd.prog w.drew = .ok (.string ⟨l.toArray⟩) (w.drew.freeze ⟨g, 0, none⟩ l.length) := by
    refine Lib.run_unsafeString_row w.drew 152 3 9 5 Tryd.underlying152 (by kernel_rfl) g cur.size (by have hg' : w.drew.heap[g]? = some (.cells cur 5 (0, 0)) := hg; simp [World.shape?, hg']) l h0 (by omega) (by unfold maxLen at hcm; omega) ?_
    intro j x hx
    have := hown.cells (g := g) rfl j (.int .u8 x.toNat) (by simp [bcs, hx])
    exact this
  have hbf : Below B w (w.drew.freeze ⟨g, 0, none⟩ l.length) := Lib.below_freeze (Below.drew (Below.refl B w)) (p := ⟨g, 0, none⟩) hbg _
  go_enter Tryd.func95, Tryd.ntmps95
  go_wp2
  go_region
  all_goals (go_wp2; go_ret; exact ⟨rfl, hbf⟩)
end Go.Proofs.YtmfejehhfmaodabDoor
end
section
namespace Go.Proofs.YtmfejehhfmaodabDoor
open Go.RowKit
set_option linter.unusedVariables false
set_option linter.unusedSimpArgs false
set_option maxRecDepth 100000
set_option maxHeartbeats 400000 in
theorem btext_any (B b : Nat) (l : List UInt8) (s : ByteArray) (w : World) (h : Bld 168 B b l w) (hlen : l.length + s.size ≤ 140737488355328) (hBw : B ≤ w.heap.size) :
    Calls Tryd.prog 127 #[.pointer (some ⟨b, 0, none⟩), .string s] w fun e w' => e = .returned (.pointer (some ⟨b, 0, none⟩)) ∧ Bld 168 B b (l ++ s.data.toList) w' ∧ Below B w w' := by
  obtain ⟨c0, hc0⟩ : ∃ v, w.cell? ⟨b, 0, none⟩ = some v := by rcases h with h | h <;> exact ⟨_, h.cell0⟩
  have H := Lib.hid h
  go_enter Tryd.func127, Tryd.ntmps127
  go_wp2_with (go_at_call 94; refine (writeString_any 168 liesOwn B b l s _ H.out hlen hBw).mono ?_; rintro e w1 ⟨rfl, h1, hb1⟩)
  go_ret
  exact ⟨rfl, h1, hb1⟩
def numByte (n k : Nat) (low : Bool) (i : Nat) : UInt8 := UInt8.ofNat (n / 2 ^ (8 * (if low then i else k - 1 - i)))
def numL (n k : Nat) (low : Bool) (m : Nat) : List UInt8 := (List.range m).map (numByte n k low)
theorem numL_succ (n k : Nat) (low : Bool) (m : Nat) : numL n k low (m + 1) = numL n k low m ++ [numByte n k low m] := by simp [numL, List.range_succ]
theorem numL_length (n k : Nat) (low : Bool) (m : Nat) : (numL n k low m).length = m := by simp [numL]
theorem div_cast (n e : Nat) : (n : Int) / 2 ^ e = ((n / 2 ^ e : Nat) : Int) := by
  rw [Int.natCast_ediv, Int.natCast_pow]; rfl
theorem ofNat_cast (q : Nat) : ((q : Nat) : Int) % 256 = ((UInt8.ofNat q).toNat : Int) := by
  rw [UInt8.toNat_ofNat']; omega
theorem numByte_low (n k m : Nat) : (n : Int) / 2 ^ (8 * m) % 256 = (numByte n k true m).toNat := by
  rw [div_cast, ofNat_cast]; rfl
theorem numByte_high (n k m : Nat) : (n : Int) / 2 ^ (8 * (k - 1 - m)) % 256 = (numByte n k false m).toNat := by
  rw [div_cast, ofNat_cast]; rfl
set_option maxHeartbeats 1000000 in
theorem bnumber_any (B b : Nat) (l : List UInt8) (n k : Nat) (low : Bool) (w : World) (h : Bld 168 B b l w) (hn : n ≤ 4294967296) (hk : k ≤ 4) (hlen : l.length ≤ 4294967296) (hBw : B ≤ w.heap.size) :
    Calls Tryd.prog 126 #[.pointer (some ⟨b, 0, none⟩), .int .i64 n, .int .i64 k, .bool low] w fun e w' => e = .returned (.pointer (some ⟨b, 0, none⟩)) ∧ Bld 168 B b (l ++ numL n k low k) w' ∧ Below B w w' := by
  have H := Lib.hid h; clear h
  go_enter Tryd.func126, Tryd.ntmps126
  go_wp2
  go_loopw [12] (fun i wr => ∃ m : Nat, m ≤ k ∧ i = .int .i64 m ∧ Bld 168 B b (l ++ numL n k low m) wr ∧ Below B w wr) (fun i _ => k - (intOf i).toNat)
  case atStart => exact ⟨0, Nat.zero_le _, rfl, by simpa [numL] using H.out, Below.refl _ _⟩
  case round =>
    obtain ⟨m, hm, rfl, h2, hB⟩ := hrel
    obtain ⟨c0, hc0⟩ : ∃ v, wr.cell? ⟨b, 0, none⟩ = some v := by rcases h2 with h | h <;> exact ⟨_, h.cell0⟩
    have H2 := Lib.hid h2; clear h2
    by_cases hlt : m < k
    · cases low
      all_goals
        go_wp2
        go_still_tail 7, (by kernel_rfl)
        change wpList _ _ _ _ _ wr.drew
        go_wp2_with (go_at_call 139; refine (writeByte_any 168 liesOwn B b _ _ _ (by first | exact numByte_low n k m | exact numByte_high n k m) _ (H2.out.below (Below.refl _ _).drew) (by rw [List.length_append, numL_length]; omega) (by have := hB.size; exact Nat.le_trans hBw this)).mono ?_; rintro e w1 ⟨rfl, h1, hb1⟩)
        go_roundw
        case rel => exact ⟨m + 1, by omega, by go_num, by rw [numL_succ, ← List.append_assoc]; exact h1, hB.trans ((Below.refl _ _).drew.trans hb1)⟩
        case measure => simp [intOf]; omega
    · go_wp2
      go_ret
      have e : m = k := by omega
      subst e
      exact ⟨rfl, H2.out, hB⟩
def sizedL (s : ByteArray) : List UInt8 := numL s.size 2 false 2 ++ s.data.toList
set_option maxHeartbeats 400000 in
theorem bsized_any (B b : Nat) (l : List UInt8) (s : ByteArray) (w : World) (h : Bld 168 B b l w) (hs : s.size ≤ 4294967296) (hlen : l.length ≤ 4294967296) (hBw : B ≤ w.heap.size) :
    Calls Tryd.prog 125 #[.pointer (some ⟨b, 0, none⟩), .string s] w fun e w' => e = .returned (.pointer (some ⟨b, 0, none⟩)) ∧ Bld 168 B b (l ++ sizedL s) w' ∧ Below B w w' := by
  have H := Lib.hid h; clear h
  go_enter Tryd.func125, Tryd.ntmps125
  go_wp2_with (go_at_call 126; refine (bnumber_any B b l s.size 2 false _ H.out hs (by omega) hlen hBw).mono ?_; rintro e w1 ⟨rfl, h1, hb1⟩; have hz1 := hb1.size; have H1 := Lib.hid h1; clear h1)
  refine (btext_any B b _ s _ H1.out (by rw [List.length_append, numL_length]; omega) (by omega)).mono ?_
  rintro e w2 ⟨rfl, h2, hb2⟩
  go_wp2
  go_ret
  exact ⟨rfl, by rw [sizedL, ← List.append_assoc]; exact h2, hb1.trans hb2⟩
end Go.Proofs.YtmfejehhfmaodabDoor
end
section
namespace Go.Proofs.YtmfejehhfmaodabDoor
open Go.RowKit
set_option linter.unusedVariables false
set_option linter.unusedSimpArgs false
def isW (w : Int) : Bool := decide (1 ≤ w) && decide (w ≤ 32)
def hOk (h : ByteArray) (w : Int) : Bool := decide (h.size = 0) || decide ((h.size : Int) = w)
def nodeOk (k v l r : ByteArray) (w : Int) : Bool := isW w && decide (1 ≤ k.size) && decide (k.size ≤ 256) && decide (v.size ≤ 2000) && hOk l w && hOk r w
def byteS (x : Int) : ByteArray := ⟨#[UInt8.ofNat x.toNat]⟩
theorem byteS_size (x : Int) : (byteS x).size = 1 := rfl
def sizedS (s : ByteArray) : ByteArray := byteS (s.size / 256) ++ byteS (s.size % 256) ++ s
theorem sizedS_size (s : ByteArray) : (sizedS s).size = 2 + s.size := by simp [sizedS, byteS_size]
def flagsOf (l r : ByteArray) : Int := (if l.size = 0 then 0 else 1) + (if r.size = 0 then 0 else 2)
def encNode (k v l r : ByteArray) (w : Int) : ByteArray := if nodeOk k v l r w = true then sizedS k ++ sizedS v ++ byteS (flagsOf l r) ++ l ++ r else ⟨#[]⟩
set_option maxHeartbeats 400000 in
theorem isWidth_any (x : Int) (w : World) : Calls Tryd.prog 47 #[.int .i64 x] w fun e w' => e = .returned (.bool (isW x)) ∧ w = w' := by
  go_enter Tryd.func47, Tryd.ntmps47
  go_wp2
  all_goals
    go_ret
    refine ⟨ret_bool ?_, rfl⟩
    go_light
    unfold isW
    grind
set_option maxHeartbeats 400000 in
theorem l1Width_any (x : Int) (w : World) : Calls Tryd.prog 43 #[.int .i64 x] w fun e w' => e = .returned (.bool (isW x)) ∧ w = w' := by
  go_enter Tryd.func43, Tryd.ntmps43
  go_wp2
  all_goals
    go_ret
    refine ⟨ret_bool ?_, rfl⟩
    go_light
    unfold isW
    grind
theorem size_zero (s : ByteArray) : s = ByteArray.empty ↔ s.size = 0 := by
  constructor
  · intro h; rw [h]; rfl
  · intro h; exact ByteArray.ext (Array.size_eq_zero_iff.mp h)
set_option maxHeartbeats 400000 in
theorem l2HashOk_any (h : ByteArray) (x : Int) (w : World) : Calls Tryd.prog 64 #[.string h, .int .i64 x] w fun e w' => e = .returned (.bool (hOk h x)) ∧ w = w' := by
  go_enter Tryd.func64, Tryd.ntmps64
  go_wp2
  all_goals
    go_ret
    refine ⟨ret_bool ?_, rfl⟩
    go_light
    have := size_zero h
    unfold hOk
    grind
theorem byte1_str (w : World) (y : Int) (T : TypeId) (g c : Nat) (hg : g = w.heap.size) :
    (convert 113 9 (.slice (some ⟨g, 0, none⟩) 1 c)).run Tryd.prog (w.alloc (.cells #[.int .u8 y] T)) = .ok (.string ⟨#[UInt8.ofNat y.toNat]⟩) (w.alloc (.cells #[.int .u8 y] T)) := by
  subst hg
  have h := run_convert_bytes_arg (P := Tryd.prog) (w.alloc (.cells #[.int .u8 y] T)) 113 5 Tryd.underlying113 Tryd.underlying5 w.heap.size 0 1 c [y] rfl (fun i hi => by
    obtain rfl : i = 0 := by omega
    rw [World.cell?_alloc_new w _ _ (0 + 0)]; rfl) 9 Tryd.underlying9
  exact h
theorem byteS_mod (x : Int) (h : 0 ≤ x) : (⟨#[UInt8.ofNat (x % 256).toNat]⟩ : ByteArray) = byteS x := by
  unfold byteS
  congr 3
  apply UInt8.toNat_inj.mp
  rw [UInt8.toNat_ofNat', UInt8.toNat_ofNat']; omega
set_option maxHeartbeats 400000 in
theorem l2Byte_any (x : Int) (hx : 0 ≤ x) (w : World) : Calls Tryd.prog 90 #[.int .i64 x] w fun e w' => e = .returned (.string (byteS x)) ∧ Below w.heap.size w w' := by
  go_enter Tryd.func90, Tryd.ntmps90
  go_wp2_with ((with_reducible refine gate_dst (N := 6) rfl ?_); refine wpList_convert rfl 113 9 _ rfl rfl (byte1_str _ _ _ _ _ rfl) ?_)
  go_ret
  refine ⟨ret_str ?_, by (repeat' (first | exact Below.refl _ _ | (with_reducible assumption) | (with_reducible refine Below.setCell ?_ (by first | (simp; done) | (simp; omega)) _) | refine below_then ?_ (by assumption) | (with_reducible refine below_new2 ?_ _) | (with_reducible refine Below.drew ?_) | (with_reducible refine bdrewN ?_ _)))⟩
  exact byteS_mod x hx
set_option maxHeartbeats 400000 in
theorem l2Sized_any (s : ByteArray) (hs : s.size ≤ 4294967296) (w : World) : Calls Tryd.prog 109 #[.string s] w fun e w' => e = .returned (.string (sizedS s)) ∧ Below w.heap.size w w' := by
  have z1 : (byteS (s.size / 256)).size + (byteS (s.size % 256)).size ≤ 9223372036854775807 := by rw [byteS_size, byteS_size]; omega
  have z2 : (byteS (s.size / 256)).size + (byteS (s.size % 256)).size + s.size ≤ 9223372036854775807 := by rw [byteS_size, byteS_size]; omega
  go_enter Tryd.func109, Tryd.ntmps109
  go_wp2_with fail
  (go_at_call 90; refine (l2Byte_any _ (by omega) _).mono ?_; rintro e wa ⟨rfl, hb_wa⟩; obtain ⟨hc_wa, hf_wa⟩ := bcell hb_wa; have hz_wa := hb_wa.size; (try simp only [World.size_alloc, World.size_setCell, World.size_drew] at hz_wa); (try simp only [World.size_alloc, World.size_setCell, World.size_drew] at hc_wa); (try simp only [World.size_alloc, World.size_setCell, World.size_drew] at hf_wa); skip)
  go_wp2_with fail
  (go_at_call 90; refine (l2Byte_any _ (by omega) _).mono ?_; rintro e wb ⟨rfl, hb_wb⟩; obtain ⟨hc_wb, hf_wb⟩ := bcell hb_wb; have hz_wb := hb_wb.size; (try simp only [World.size_alloc, World.size_setCell, World.size_drew] at hz_wb); (try simp only [World.size_alloc, World.size_setCell, World.size_drew] at hc_wb); (try simp only [World.size_alloc, World.size_setCell, World.size_drew] at hf_wb); skip)
  go_wp2
  go_ret
  exact ⟨rfl, by (repeat' (first | exact Below.refl _ _ | (with_reducible assumption) | (with_reducible refine Below.setCell ?_ (by first | (simp; done) | (simp; omega)) _) | refine below_then ?_ (by assumption) | (with_reducible refine below_new2 ?_ _) | (with_reducible refine Below.drew ?_) | (with_reducible refine bdrewN ?_ _)))⟩
set_option maxHeartbeats 400000 in
theorem l2NodeOk_any (a b c d : ByteArray) (x : Int) (w : World) :
    Calls Tryd.prog 108 #[.agg #[.string a, .string b, .string c, .string d], .int .i64 x] w fun e w' => e = .returned (.bool (nodeOk a b c d x)) ∧ Below w.heap.size w w' := by
  unfold nodeOk
  by_cases hw : isW x = true
  · by_cases h2 : hOk c x = true
    all_goals
      go_enter Tryd.func108, Tryd.ntmps108
      go_wp2_with (first | (go_at_call 43; refine (l1Width_any _ _).mono ?_; rintro e wq ⟨rfl, rfl⟩) | (go_at_call 64; refine (l2HashOk_any _ _ _).mono ?_; rintro e wq ⟨rfl, rfl⟩))
      all_goals
        go_ret
        refine ⟨ret_bool ?_, by (repeat' (first | exact Below.refl _ _ | (with_reducible assumption) | (with_reducible refine Below.setCell ?_ (by first | (simp; done) | (simp; omega)) _) | refine below_then ?_ (by assumption) | (with_reducible refine below_new2 ?_ _) | (with_reducible refine Below.drew ?_) | (with_reducible refine bdrewN ?_ _)))⟩
        go_light
        grind
  · go_enter Tryd.func108, Tryd.ntmps108
    go_wp2_with (first | (go_at_call 43; refine (l1Width_any _ _).mono ?_; rintro e wq ⟨rfl, rfl⟩) | (go_at_call 64; refine (l2HashOk_any _ _ _).mono ?_; rintro e wq ⟨rfl, rfl⟩))
    all_goals
      go_ret
      refine ⟨ret_bool ?_, by (repeat' (first | exact Below.refl _ _ | (with_reducible assumption) | (with_reducible refine Below.setCell ?_ (by first | (simp; done) | (simp; omega)) _) | refine below_then ?_ (by assumption) | (with_reducible refine below_new2 ?_ _) | (with_reducible refine Below.drew ?_) | (with_reducible refine bdrewN ?_ _)))⟩
      go_light
      grind
set_option maxHeartbeats 400000 in
theorem fits_any (h : ByteArray) (x : Int) (p : Addr) (w : World) (hp : w.cell? p = some (.int .i64 x)) :
    Calls Tryd.prog 123 #[.string h, .pointer (some p)] w fun e w' => e = .returned (.bool (hOk h x)) ∧ w = w' := by
  have he : h.toList.isEmpty = decide (h.size = 0) := by
    rw [Bool.eq_iff_iff, decide_eq_true_eq, ← size_zero, ← toList_nil_iff_emptyBytes, List.isEmpty_iff]
  unfold hOk
  rw [← he]
  clear he
  go_enter Tryd.func123, Tryd.ntmps123
  go_wp2
  all_goals
    go_ret
    refine ⟨ret_bool ?_, rfl⟩
    go_light
    clear hp
    grind
set_option maxHeartbeats 400000 in
theorem nodeValid_any (a b c d : ByteArray) (x : Int) (w : World) :
    Calls Tryd.prog 107 #[.agg #[.string a, .string b, .string c, .string d], .int .i64 x] w fun e w' => e = .returned (.bool (nodeOk a b c d x)) ∧ Below w.heap.size w w' := by
  unfold nodeOk
  by_cases hw : isW x = true
  · by_cases h2 : hOk c x = true
    all_goals
      go_enter Tryd.func107, Tryd.ntmps107
      go_wp2_with (first | (go_at_call 47; refine (isWidth_any _ _).mono ?_; rintro e wq ⟨rfl, rfl⟩) | (go_at_call 123; refine (fits_any _ x _ _ (by simp [go_sem])).mono ?_; rintro e wq ⟨rfl, rfl⟩))
      all_goals
        go_ret
        refine ⟨ret_bool ?_, by (repeat' (first | exact Below.refl _ _ | (with_reducible assumption) | (with_reducible refine Below.setCell ?_ (by first | (simp; done) | (simp; omega)) _) | refine below_then ?_ (by assumption) | (with_reducible refine below_new2 ?_ _) | (with_reducible refine Below.drew ?_) | (with_reducible refine bdrewN ?_ _)))⟩
        go_light
        grind
  · go_enter Tryd.func107, Tryd.ntmps107
    go_wp2_with (first | (go_at_call 47; refine (isWidth_any _ _).mono ?_; rintro e wq ⟨rfl, rfl⟩) | (go_at_call 123; refine (fits_any _ x _ _ (by simp [go_sem])).mono ?_; rintro e wq ⟨rfl, rfl⟩))
    all_goals
      go_ret
      refine ⟨ret_bool ?_, by (repeat' (first | exact Below.refl _ _ | (with_reducible assumption) | (with_reducible refine Below.setCell ?_ (by first | (simp; done) | (simp; omega)) _) | refine below_then ?_ (by assumption) | (with_reducible refine below_new2 ?_ _) | (with_reducible refine Below.drew ?_) | (with_reducible refine bdrewN ?_ _)))⟩
      go_light
      grind
set_option maxHeartbeats 400000 in
theorem specEncodeNode_any (a b c d : ByteArray) (x : Int) (w : World) :
    Calls Tryd.prog 80 #[.agg #[.string a, .string b, .string c, .string d], .int .i64 x] w fun e w' => e = .returned (.string (encNode a b c d x)) ∧ Below w.heap.size w w' := by
  by_cases hok : nodeOk a b c d x = true
  · have hsz : a.size ≤ 256 ∧ b.size ≤ 2000 ∧ c.size ≤ 32 ∧ d.size ≤ 32 := by
      unfold nodeOk hOk isW at hok
      simp only [Bool.and_eq_true, Bool.or_eq_true, decide_eq_true_eq] at hok
      omega
    obtain ⟨h1, h2, h3, h4⟩ := hsz
    have he : encNode a b c d x = sizedS a ++ sizedS b ++ byteS (flagsOf c d) ++ c ++ d := by unfold encNode; rw [if_pos hok]
    have HE := Lib.hid he; clear he
    have h1b : a.size ≤ 4294967296 := by omega
    have h2b : b.size ≤ 4294967296 := by omega
    have z0 := fun x => byteS_size x
    have z1 : ¬ (9223372036854775807 < (sizedS a).size + (sizedS b).size) := by rw [sizedS_size, sizedS_size]; omega
    have z20 : ¬ (9223372036854775807 < (sizedS a).size + (sizedS b).size + (byteS 0).size) := by simp only [ByteArray.size_append, sizedS_size, byteS_size]; omega
    have z30 : ¬ (9223372036854775807 < (sizedS a).size + (sizedS b).size + (byteS 0).size + c.size) := by simp only [ByteArray.size_append, sizedS_size, byteS_size]; omega
    have z40 : ¬ (9223372036854775807 < (sizedS a).size + (sizedS b).size + (byteS 0).size + c.size + d.size) := by simp only [ByteArray.size_append, sizedS_size, byteS_size]; omega
    have z21 : ¬ (9223372036854775807 < (sizedS a).size + (sizedS b).size + (byteS 1).size) := by simp only [ByteArray.size_append, sizedS_size, byteS_size]; omega
    have z31 : ¬ (9223372036854775807 < (sizedS a).size + (sizedS b).size + (byteS 1).size + c.size) := by simp only [ByteArray.size_append, sizedS_size, byteS_size]; omega
    have z41 : ¬ (9223372036854775807 < (sizedS a).size + (sizedS b).size + (byteS 1).size + c.size + d.size) := by simp only [ByteArray.size_append, sizedS_size, byteS_size]; omega
    have z22 : ¬ (9223372036854775807 < (sizedS a).size + (sizedS b).size + (byteS 2).size) := by simp only [ByteArray.size_append, sizedS_size, byteS_size]; omega
    have z32 : ¬ (9223372036854775807 < (sizedS a).size + (sizedS b).size + (byteS 2).size + c.size) := by simp only [ByteArray.size_append, sizedS_size, byteS_size]; omega
    have z42 : ¬ (9223372036854775807 < (sizedS a).size + (sizedS b).size + (byteS 2).size + c.size + d.size) := by simp only [ByteArray.size_append, sizedS_size, byteS_size]; omega
    have z23 : ¬ (9223372036854775807 < (sizedS a).size + (sizedS b).size + (byteS 3).size) := by simp only [ByteArray.size_append, sizedS_size, byteS_size]; omega
    have z33 : ¬ (9223372036854775807 < (sizedS a).size + (sizedS b).size + (byteS 3).size + c.size) := by simp only [ByteArray.size_append, sizedS_size, byteS_size]; omega
    have z43 : ¬ (9223372036854775807 < (sizedS a).size + (sizedS b).size + (byteS 3).size + c.size + d.size) := by simp only [ByteArray.size_append, sizedS_size, byteS_size]; omega
    have z50 : ¬ (9223372036854775807 < (sizedS a).size + (sizedS b).size + (byteS 0).size + d.size) := by simp only [ByteArray.size_append, sizedS_size, byteS_size]; omega
    have z51 : ¬ (9223372036854775807 < (sizedS a).size + (sizedS b).size + (byteS 1).size + d.size) := by simp only [ByteArray.size_append, sizedS_size, byteS_size]; omega
    have z52 : ¬ (9223372036854775807 < (sizedS a).size + (sizedS b).size + (byteS 2).size + d.size) := by simp only [ByteArray.size_append, sizedS_size, byteS_size]; omega
    have z53 : ¬ (9223372036854775807 < (sizedS a).size + (sizedS b).size + (byteS 3).size + d.size) := by simp only [ByteArray.size_append, sizedS_size, byteS_size]; omega
    clear z0
    by_cases hc : c.size = 0
    all_goals
      by_cases hd : d.size = 0
      all_goals
        go_enter Tryd.func80, Tryd.ntmps80
        go_wp2_with (first | (go_at_call 108; refine (l2NodeOk_any _ _ _ _ _ _).mono ?_; rintro e wa ⟨rfl, hb_wa⟩; obtain ⟨hc_wa, hf_wa⟩ := bcell hb_wa; have hz_wa := hb_wa.size; (try simp only [World.size_alloc, World.size_setCell, World.size_drew] at hz_wa); (try simp only [World.size_alloc, World.size_setCell, World.size_drew] at hc_wa); (try simp only [World.size_alloc, World.size_setCell, World.size_drew] at hf_wa); (try have q_w_0_wa : w.heap.size < wa.heap.size := by omega)))
        have hS : wa.cell? ⟨w.heap.size, 0, none⟩ = some (.string a) ∧ wa.cell? ⟨w.heap.size, 1, none⟩ = some (.string b) ∧ wa.cell? ⟨w.heap.size, 2, none⟩ = some (.string c) ∧ wa.cell? ⟨w.heap.size, 3, none⟩ = some (.string d) := by
          refine ⟨?_, ?_, ?_, ?_⟩ <;> (rw [hc_wa _ _ (by omega)]; simp [go_sem])
        obtain ⟨e0, e1, e2, e3⟩ := hS
        clear hc_wa hf_wa
        go_region_held3 (fun w' => w'.cell? ⟨w.heap.size, 0, none⟩ = some (.string a) ∧ w'.cell? ⟨w.heap.size, 1, none⟩ = some (.string b) ∧ w'.cell? ⟨w.heap.size, 2, none⟩ = some (.string c) ∧ w'.cell? ⟨w.heap.size, 3, none⟩ = some (.string d))
          (first
            | exact held4B (by assumption) (by assumption)
            | assumption
            | (simp [*]; done))
          (first
            | (go_at_call 90; refine (l2Byte_any _ (by decide) _).mono ?_; rintro e wx ⟨rfl, hbx⟩)
            | (go_at_call_of 109 (Value.string a); refine (l2Sized_any a h1b _).mono ?_; rintro e wx ⟨rfl, hbx⟩)
            | (go_at_call_of 109 (Value.string b); refine (l2Sized_any b h2b _).mono ?_; rintro e wx ⟨rfl, hbx⟩))
        go_wp2
        all_goals
          go_ret
          refine ⟨?_, by (repeat' (first | exact Below.refl _ _ | (with_reducible assumption) | (with_reducible refine Below.setCell ?_ (by first | (simp; done) | (simp; omega)) _) | refine below_then ?_ (by assumption) | (with_reducible refine below_new2 ?_ _) | (with_reducible refine Below.drew ?_) | (with_reducible refine bdrewN ?_ _)))⟩
          rw [HE.out]
          simp [flagsOf, hc, hd]
  · have he : encNode a b c d x = ⟨#[]⟩ := by unfold encNode; rw [if_neg hok]
    have HE := Lib.hid he; clear he
    go_enter Tryd.func80, Tryd.ntmps80
    go_wp2_with (first | (go_at_call 108; refine (l2NodeOk_any _ _ _ _ _ _).mono ?_; rintro e wa ⟨rfl, hb_wa⟩; obtain ⟨hc_wa, hf_wa⟩ := bcell hb_wa; have hz_wa := hb_wa.size; (try simp only [World.size_alloc, World.size_setCell, World.size_drew] at hz_wa); (try simp only [World.size_alloc, World.size_setCell, World.size_drew] at hc_wa); (try simp only [World.size_alloc, World.size_setCell, World.size_drew] at hf_wa); skip))
    all_goals
      go_ret
      exact ⟨by rw [HE.out]; rfl, by (repeat' (first | exact Below.refl _ _ | (with_reducible assumption) | (with_reducible refine Below.setCell ?_ (by first | (simp; done) | (simp; omega)) _) | refine below_then ?_ (by assumption) | (with_reducible refine below_new2 ?_ _) | (with_reducible refine Below.drew ?_) | (with_reducible refine bdrewN ?_ _)))⟩
end Go.Proofs.YtmfejehhfmaodabDoor
end
section
namespace Go.Proofs.YtmfejehhfmaodabDoor
open Go.RowKit
set_option linter.unusedVariables false
set_option linter.unusedSimpArgs false
theorem isEmpty_size (h : ByteArray) : h.toList.isEmpty = decide (h.size = 0) := by
  rw [Bool.eq_iff_iff, decide_eq_true_eq, ← size_zero, ← toList_nil_iff_emptyBytes, List.isEmpty_iff]
theorem numL_one (n : Nat) (h : n < 256) : numL n 1 false 1 = [UInt8.ofNat n] := by
  simp [numL, numByte]
theorem sizedL_length (s : ByteArray) : (sizedL s).length = 2 + s.size := by
  rw [sizedL, List.length_append, numL_length]; rfl
theorem byteS_list (n : Nat) : byteS n = ⟨[UInt8.ofNat n].toArray⟩ := rfl
theorem app_list (a b : List UInt8) : (⟨(a ++ b).toArray⟩ : ByteArray) = ⟨a.toArray⟩ ++ ⟨b.toArray⟩ := by
  apply ByteArray.ext
  simp [ByteArray.data_append]
theorem self_list (s : ByteArray) : (⟨s.data.toList.toArray⟩ : ByteArray) = s := rfl
theorem sizedL_eq (s : ByteArray) : (⟨(sizedL s).toArray⟩ : ByteArray) = sizedS s := by
  unfold sizedL sizedS
  rw [app_list, self_list]
  have h : numL s.size 2 false 2 = [UInt8.ofNat (s.size / 256)] ++ [UInt8.ofNat s.size] := by
    simp [numL, numByte, List.range_succ]
  rw [h, app_list]
  congr 2
  · unfold byteS
    congr 3
    apply UInt8.toNat_inj.mp
    rw [UInt8.toNat_ofNat', UInt8.toNat_ofNat']; omega
theorem encList (a b c d : ByteArray) (n : Nat) (hn : n < 256) (h : flagsOf c d = n) :
    (⟨(sizedL a ++ (sizedL b ++ (numL n 1 false 1 ++ (c.data.toList ++ d.data.toList)))).toArray⟩ : ByteArray) = sizedS a ++ sizedS b ++ byteS (flagsOf c d) ++ c ++ d := by
  simp only [← List.append_assoc]
  rw [app_list, app_list, app_list, app_list, sizedL_eq, sizedL_eq, self_list, self_list, numL_one n hn, h, byteS_list]
theorem bitsOr1 : bits .or .u32 0 1 = 1 := by decide
theorem bitsOr2 : bits .or .u32 0 2 = 2 := by decide
theorem bitsOr3 : bits .or .u32 1 2 = 3 := by decide
attribute [go_sem] bitsOr1 bitsOr2 bitsOr3
theorem held4BB {B : Nat} {u w1 : World} {p q r t : Addr} {a b c d : Value} (hb : Below B u w1) (hp : p.block < B ∧ q.block < B ∧ r.block < B ∧ t.block < B) (h : u.cell? p = some a ∧ u.cell? q = some b ∧ u.cell? r = some c ∧ u.cell? t = some d) : w1.cell? p = some a ∧ w1.cell? q = some b ∧ w1.cell? r = some c ∧ w1.cell? t = some d :=
  ⟨(hb.cell hp.1).trans h.1, (hb.cell hp.2.1).trans h.2.1, (hb.cell hp.2.2.1).trans h.2.2.1, (hb.cell hp.2.2.2).trans h.2.2.2⟩
set_option maxHeartbeats 1000000 in
theorem encodeNode_any (a b c d : ByteArray) (x : Int) (w : World) :
    Calls Tryd.prog 113 #[.agg #[.string a, .string b, .string c, .string d], .int .i64 x] w fun e w' => e = .returned (.string (encNode a b c d x)) ∧ Below w.heap.size w w' := by
  by_cases hok : nodeOk a b c d x = true
  · have hsz : a.size ≤ 256 ∧ b.size ≤ 2000 ∧ c.size ≤ 32 ∧ d.size ≤ 32 := by
      unfold nodeOk hOk isW at hok
      simp only [Bool.and_eq_true, Bool.or_eq_true, decide_eq_true_eq] at hok
      omega
    obtain ⟨h1, h2, h3, h4⟩ := hsz
    have he : encNode a b c d x = sizedS a ++ sizedS b ++ byteS (flagsOf c d) ++ c ++ d := by unfold encNode; rw [if_pos hok]
    have HE := Lib.hid he; clear he
    have la := sizedL_length a
    have lb := sizedL_length b
    have ln : ∀ n, (numL n 1 false 1).length = 1 := fun n => numL_length n 1 false 1
    have LA := Lib.hid la; clear la
    have LB := Lib.hid lb; clear lb
    have LN := Lib.hid ln; clear ln
    by_cases hc : c.toList.isEmpty = true
    · by_cases hd : d.toList.isEmpty = true
      · go_enter Tryd.func113, Tryd.ntmps113
        go_wp2_with (first | (go_at_call 107; refine (nodeValid_any _ _ _ _ _ _).mono ?_; rintro e wa ⟨rfl, hb_wa⟩; obtain ⟨hc_wa, hf_wa⟩ := bcell hb_wa; have hz_wa := hb_wa.size; (try simp only [World.size_alloc, World.size_setCell, World.size_drew] at hz_wa); (try simp only [World.size_alloc, World.size_setCell, World.size_drew] at hc_wa); (try simp only [World.size_alloc, World.size_setCell, World.size_drew] at hf_wa); (try have q_w_0_wa : w.heap.size < wa.heap.size := by omega)))
        have hS : wa.cell? ⟨w.heap.size, 0, none⟩ = some (.string a) ∧ wa.cell? ⟨w.heap.size, 1, none⟩ = some (.string b) ∧ wa.cell? ⟨w.heap.size, 2, none⟩ = some (.string c) ∧ wa.cell? ⟨w.heap.size, 3, none⟩ = some (.string d) := by
          refine ⟨?_, ?_, ?_, ?_⟩ <;> (rw [hc_wa _ _ (by omega)]; simp [go_sem])
        obtain ⟨e0, e1, e2, e3⟩ := hS
        clear hc_wa hf_wa
        go_wp2
        go_region_held3 (fun w' => w'.cell? ⟨w.heap.size, 0, none⟩ = some (.string a) ∧ w'.cell? ⟨w.heap.size, 1, none⟩ = some (.string b) ∧ w'.cell? ⟨w.heap.size, 2, none⟩ = some (.string c) ∧ w'.cell? ⟨w.heap.size, 3, none⟩ = some (.string d))
          (first
            | exact held4BB (B := wa.heap.size) (by assumption) (by simp; omega) (by assumption)
            | assumption
            | (go_keep; done))
          (first
            | (go_at_call_of 125 (Value.string a); refine (bsized_any wa.heap.size wa.heap.size [] a _ ?_ ?_ ?_ ?_).mono ?_; (· exact Bld.fresh _ wa.drew); (· omega); (· simp; done); (· simp; done); rintro e wx ⟨rfl, hBx, hbx⟩; rw [List.nil_append] at hBx; have hzx := hbx.size; simp only [World.size_alloc, World.size_drew] at hzx)
            | (go_at_call_of 125 (Value.string b); refine (bsized_any wa.heap.size wa.heap.size (sizedL a) b _ ?_ ?_ ?_ ?_).mono ?_; (· assumption); (· omega); (· have := LA.out; omega); (· omega); rintro e wx ⟨rfl, hBx, hbx⟩; have hzx := hbx.size)
            | (go_at_call 126; refine (bnumber_any wa.heap.size wa.heap.size (sizedL a ++ sizedL b) 0 1 false _ ?_ ?_ ?_ ?_ ?_).mono ?_; (· assumption); (· omega); (· omega); (· have := LA.out; have := LB.out; rw [List.length_append]; omega); (· omega); rintro e wx ⟨rfl, hBx, hbx⟩; have hzx := hbx.size)
            | (go_at_call_of 127 (Value.string c); refine (btext_any wa.heap.size wa.heap.size (sizedL a ++ sizedL b ++ numL 0 1 false 1) c _ ?_ ?_ ?_).mono ?_; (· assumption); (· have := LA.out; have := LB.out; have := LN.out; simp only [List.length_append, this]; omega); (· omega); rintro e wx ⟨rfl, hBx, hbx⟩; have hzx := hbx.size)
            | (go_at_call_of 127 (Value.string d); refine (btext_any wa.heap.size wa.heap.size (sizedL a ++ sizedL b ++ numL 0 1 false 1 ++ c.data.toList) d _ ?_ ?_ ?_).mono ?_; (· assumption); (· have := LA.out; have := LB.out; have := LN.out; have hcl : c.data.toList.length = c.size := rfl; simp only [List.length_append, this, hcl]; omega); (· omega); rintro e wx ⟨rfl, hBx, hbx⟩; have hzx := hbx.size))
        go_wp2_with (go_at_call 95; refine (string_any 168 wa.heap.size wa.heap.size _ _ hBx ?_).mono ?_; (· intro h; have := congrArg List.length h; simp only [List.length_append, LN.out, List.length_nil] at this; omega); rintro e wz ⟨rfl, hbz⟩)
        go_ret
        have hz : Below wa.heap.size wa wz := by
          refine Below.trans ?_ hbz
          repeat' (first | (refine Below.trans ?_ (by assumption)))
          (repeat' (first | exact Below.refl _ _ | (with_reducible assumption) | (with_reducible refine Below.setCell ?_ (by first | (simp; done) | (simp; omega)) _) | refine below_then ?_ (by assumption) | (with_reducible refine below_new2 ?_ _) | (with_reducible refine Below.drew ?_) | (with_reducible refine bdrewN ?_ _)))
        refine ⟨?_, by (repeat' (first | exact Below.refl _ _ | (with_reducible assumption) | (with_reducible refine Below.setCell ?_ (by first | (simp; done) | (simp; omega)) _) | refine below_then ?_ (by assumption) | (with_reducible refine below_new2 ?_ _) | (with_reducible refine Below.drew ?_) | (with_reducible refine bdrewN ?_ _)))⟩
        rw [HE.out]
        refine congrArg (fun z => Ending.returned (.string z)) (encList a b c d 0 (by decide) ?_)
        rw [isEmpty_size, decide_eq_true_eq] at hc hd
        simp [flagsOf, hc, hd]
      · go_enter Tryd.func113, Tryd.ntmps113
        go_wp2_with (first | (go_at_call 107; refine (nodeValid_any _ _ _ _ _ _).mono ?_; rintro e wa ⟨rfl, hb_wa⟩; obtain ⟨hc_wa, hf_wa⟩ := bcell hb_wa; have hz_wa := hb_wa.size; (try simp only [World.size_alloc, World.size_setCell, World.size_drew] at hz_wa); (try simp only [World.size_alloc, World.size_setCell, World.size_drew] at hc_wa); (try simp only [World.size_alloc, World.size_setCell, World.size_drew] at hf_wa); (try have q_w_0_wa : w.heap.size < wa.heap.size := by omega)))
        have hS : wa.cell? ⟨w.heap.size, 0, none⟩ = some (.string a) ∧ wa.cell? ⟨w.heap.size, 1, none⟩ = some (.string b) ∧ wa.cell? ⟨w.heap.size, 2, none⟩ = some (.string c) ∧ wa.cell? ⟨w.heap.size, 3, none⟩ = some (.string d) := by
          refine ⟨?_, ?_, ?_, ?_⟩ <;> (rw [hc_wa _ _ (by omega)]; simp [go_sem])
        obtain ⟨e0, e1, e2, e3⟩ := hS
        clear hc_wa hf_wa
        go_wp2
        go_region_held3 (fun w' => w'.cell? ⟨w.heap.size, 0, none⟩ = some (.string a) ∧ w'.cell? ⟨w.heap.size, 1, none⟩ = some (.string b) ∧ w'.cell? ⟨w.heap.size, 2, none⟩ = some (.string c) ∧ w'.cell? ⟨w.heap.size, 3, none⟩ = some (.string d))
          (first
            | exact held4BB (B := wa.heap.size) (by assumption) (by simp; omega) (by assumption)
            | assumption
            | (go_keep; done))
          (first
            | (go_at_call_of 125 (Value.string a); refine (bsized_any wa.heap.size wa.heap.size [] a _ ?_ ?_ ?_ ?_).mono ?_; (· exact Bld.fresh _ wa.drew); (· omega); (· simp; done); (· simp; done); rintro e wx ⟨rfl, hBx, hbx⟩; rw [List.nil_append] at hBx; have hzx := hbx.size; simp only [World.size_alloc, World.size_drew] at hzx)
            | (go_at_call_of 125 (Value.string b); refine (bsized_any wa.heap.size wa.heap.size (sizedL a) b _ ?_ ?_ ?_ ?_).mono ?_; (· assumption); (· omega); (· have := LA.out; omega); (· omega); rintro e wx ⟨rfl, hBx, hbx⟩; have hzx := hbx.size)
            | (go_at_call 126; refine (bnumber_any wa.heap.size wa.heap.size (sizedL a ++ sizedL b) 2 1 false _ ?_ ?_ ?_ ?_ ?_).mono ?_; (· assumption); (· omega); (· omega); (· have := LA.out; have := LB.out; rw [List.length_append]; omega); (· omega); rintro e wx ⟨rfl, hBx, hbx⟩; have hzx := hbx.size)
            | (go_at_call_of 127 (Value.string c); refine (btext_any wa.heap.size wa.heap.size (sizedL a ++ sizedL b ++ numL 2 1 false 1) c _ ?_ ?_ ?_).mono ?_; (· assumption); (· have := LA.out; have := LB.out; have := LN.out; simp only [List.length_append, this]; omega); (· omega); rintro e wx ⟨rfl, hBx, hbx⟩; have hzx := hbx.size)
            | (go_at_call_of 127 (Value.string d); refine (btext_any wa.heap.size wa.heap.size (sizedL a ++ sizedL b ++ numL 2 1 false 1 ++ c.data.toList) d _ ?_ ?_ ?_).mono ?_; (· assumption); (· have := LA.out; have := LB.out; have := LN.out; have hcl : c.data.toList.length = c.size := rfl; simp only [List.length_append, this, hcl]; omega); (· omega); rintro e wx ⟨rfl, hBx, hbx⟩; have hzx := hbx.size))
        go_wp2_with (go_at_call 95; refine (string_any 168 wa.heap.size wa.heap.size _ _ hBx ?_).mono ?_; (· intro h; have := congrArg List.length h; simp only [List.length_append, LN.out, List.length_nil] at this; omega); rintro e wz ⟨rfl, hbz⟩)
        go_ret
        have hz : Below wa.heap.size wa wz := by
          refine Below.trans ?_ hbz
          repeat' (first | (refine Below.trans ?_ (by assumption)))
          (repeat' (first | exact Below.refl _ _ | (with_reducible assumption) | (with_reducible refine Below.setCell ?_ (by first | (simp; done) | (simp; omega)) _) | refine below_then ?_ (by assumption) | (with_reducible refine below_new2 ?_ _) | (with_reducible refine Below.drew ?_) | (with_reducible refine bdrewN ?_ _)))
        refine ⟨?_, by (repeat' (first | exact Below.refl _ _ | (with_reducible assumption) | (with_reducible refine Below.setCell ?_ (by first | (simp; done) | (simp; omega)) _) | refine below_then ?_ (by assumption) | (with_reducible refine below_new2 ?_ _) | (with_reducible refine Below.drew ?_) | (with_reducible refine bdrewN ?_ _)))⟩
        rw [HE.out]
        refine congrArg (fun z => Ending.returned (.string z)) (encList a b c d 2 (by decide) ?_)
        rw [isEmpty_size, decide_eq_true_eq] at hc hd
        simp [flagsOf, hc, hd]
    · by_cases hd : d.toList.isEmpty = true
      · go_enter Tryd.func113, Tryd.ntmps113
        go_wp2_with (first | (go_at_call 107; refine (nodeValid_any _ _ _ _ _ _).mono ?_; rintro e wa ⟨rfl, hb_wa⟩; obtain ⟨hc_wa, hf_wa⟩ := bcell hb_wa; have hz_wa := hb_wa.size; (try simp only [World.size_alloc, World.size_setCell, World.size_drew] at hz_wa); (try simp only [World.size_alloc, World.size_setCell, World.size_drew] at hc_wa); (try simp only [World.size_alloc, World.size_setCell, World.size_drew] at hf_wa); (try have q_w_0_wa : w.heap.size < wa.heap.size := by omega)))
        have hS : wa.cell? ⟨w.heap.size, 0, none⟩ = some (.string a) ∧ wa.cell? ⟨w.heap.size, 1, none⟩ = some (.string b) ∧ wa.cell? ⟨w.heap.size, 2, none⟩ = some (.string c) ∧ wa.cell? ⟨w.heap.size, 3, none⟩ = some (.string d) := by
          refine ⟨?_, ?_, ?_, ?_⟩ <;> (rw [hc_wa _ _ (by omega)]; simp [go_sem])
        obtain ⟨e0, e1, e2, e3⟩ := hS
        clear hc_wa hf_wa
        go_wp2
        go_region_held3 (fun w' => w'.cell? ⟨w.heap.size, 0, none⟩ = some (.string a) ∧ w'.cell? ⟨w.heap.size, 1, none⟩ = some (.string b) ∧ w'.cell? ⟨w.heap.size, 2, none⟩ = some (.string c) ∧ w'.cell? ⟨w.heap.size, 3, none⟩ = some (.string d))
          (first
            | exact held4BB (B := wa.heap.size) (by assumption) (by simp; omega) (by assumption)
            | assumption
            | (go_keep; done))
          (first
            | (go_at_call_of 125 (Value.string a); refine (bsized_any wa.heap.size wa.heap.size [] a _ ?_ ?_ ?_ ?_).mono ?_; (· exact Bld.fresh _ wa.drew); (· omega); (· simp; done); (· simp; done); rintro e wx ⟨rfl, hBx, hbx⟩; rw [List.nil_append] at hBx; have hzx := hbx.size; simp only [World.size_alloc, World.size_drew] at hzx)
            | (go_at_call_of 125 (Value.string b); refine (bsized_any wa.heap.size wa.heap.size (sizedL a) b _ ?_ ?_ ?_ ?_).mono ?_; (· assumption); (· omega); (· have := LA.out; omega); (· omega); rintro e wx ⟨rfl, hBx, hbx⟩; have hzx := hbx.size)
            | (go_at_call 126; refine (bnumber_any wa.heap.size wa.heap.size (sizedL a ++ sizedL b) 1 1 false _ ?_ ?_ ?_ ?_ ?_).mono ?_; (· assumption); (· omega); (· omega); (· have := LA.out; have := LB.out; rw [List.length_append]; omega); (· omega); rintro e wx ⟨rfl, hBx, hbx⟩; have hzx := hbx.size)
            | (go_at_call_of 127 (Value.string c); refine (btext_any wa.heap.size wa.heap.size (sizedL a ++ sizedL b ++ numL 1 1 false 1) c _ ?_ ?_ ?_).mono ?_; (· assumption); (· have := LA.out; have := LB.out; have := LN.out; simp only [List.length_append, this]; omega); (· omega); rintro e wx ⟨rfl, hBx, hbx⟩; have hzx := hbx.size)
            | (go_at_call_of 127 (Value.string d); refine (btext_any wa.heap.size wa.heap.size (sizedL a ++ sizedL b ++ numL 1 1 false 1 ++ c.data.toList) d _ ?_ ?_ ?_).mono ?_; (· assumption); (· have := LA.out; have := LB.out; have := LN.out; have hcl : c.data.toList.length = c.size := rfl; simp only [List.length_append, this, hcl]; omega); (· omega); rintro e wx ⟨rfl, hBx, hbx⟩; have hzx := hbx.size))
        go_wp2_with (go_at_call 95; refine (string_any 168 wa.heap.size wa.heap.size _ _ hBx ?_).mono ?_; (· intro h; have := congrArg List.length h; simp only [List.length_append, LN.out, List.length_nil] at this; omega); rintro e wz ⟨rfl, hbz⟩)
        go_ret
        have hz : Below wa.heap.size wa wz := by
          refine Below.trans ?_ hbz
          repeat' (first | (refine Below.trans ?_ (by assumption)))
          (repeat' (first | exact Below.refl _ _ | (with_reducible assumption) | (with_reducible refine Below.setCell ?_ (by first | (simp; done) | (simp; omega)) _) | refine below_then ?_ (by assumption) | (with_reducible refine below_new2 ?_ _) | (with_reducible refine Below.drew ?_) | (with_reducible refine bdrewN ?_ _)))
        refine ⟨?_, by (repeat' (first | exact Below.refl _ _ | (with_reducible assumption) | (with_reducible refine Below.setCell ?_ (by first | (simp; done) | (simp; omega)) _) | refine below_then ?_ (by assumption) | (with_reducible refine below_new2 ?_ _) | (with_reducible refine Below.drew ?_) | (with_reducible refine bdrewN ?_ _)))⟩
        rw [HE.out]
        refine congrArg (fun z => Ending.returned (.string z)) (encList a b c d 1 (by decide) ?_)
        rw [isEmpty_size, decide_eq_true_eq] at hc hd
        simp [flagsOf, hc, hd]
      · go_enter Tryd.func113, Tryd.ntmps113
        go_wp2_with (first | (go_at_call 107; refine (nodeValid_any _ _ _ _ _ _).mono ?_; rintro e wa ⟨rfl, hb_wa⟩; obtain ⟨hc_wa, hf_wa⟩ := bcell hb_wa; have hz_wa := hb_wa.size; (try simp only [World.size_alloc, World.size_setCell, World.size_drew] at hz_wa); (try simp only [World.size_alloc, World.size_setCell, World.size_drew] at hc_wa); (try simp only [World.size_alloc, World.size_setCell, World.size_drew] at hf_wa); (try have q_w_0_wa : w.heap.size < wa.heap.size := by omega)))
        have hS : wa.cell? ⟨w.heap.size, 0, none⟩ = some (.string a) ∧ wa.cell? ⟨w.heap.size, 1, none⟩ = some (.string b) ∧ wa.cell? ⟨w.heap.size, 2, none⟩ = some (.string c) ∧ wa.cell? ⟨w.heap.size, 3, none⟩ = some (.string d) := by
          refine ⟨?_, ?_, ?_, ?_⟩ <;> (rw [hc_wa _ _ (by omega)]; simp [go_sem])
        obtain ⟨e0, e1, e2, e3⟩ := hS
        clear hc_wa hf_wa
        go_wp2
        go_region_held3 (fun w' => w'.cell? ⟨w.heap.size, 0, none⟩ = some (.string a) ∧ w'.cell? ⟨w.heap.size, 1, none⟩ = some (.string b) ∧ w'.cell? ⟨w.heap.size, 2, none⟩ = some (.string c) ∧ w'.cell? ⟨w.heap.size, 3, none⟩ = some (.string d))
          (first
            | exact held4BB (B := wa.heap.size) (by assumption) (by simp; omega) (by assumption)
            | assumption
            | (go_keep; done))
          (first
            | (go_at_call_of 125 (Value.string a); refine (bsized_any wa.heap.size wa.heap.size [] a _ ?_ ?_ ?_ ?_).mono ?_; (· exact Bld.fresh _ wa.drew); (· omega); (· simp; done); (· simp; done); rintro e wx ⟨rfl, hBx, hbx⟩; rw [List.nil_append] at hBx; have hzx := hbx.size; simp only [World.size_alloc, World.size_drew] at hzx)
            | (go_at_call_of 125 (Value.string b); refine (bsized_any wa.heap.size wa.heap.size (sizedL a) b _ ?_ ?_ ?_ ?_).mono ?_; (· assumption); (· omega); (· have := LA.out; omega); (· omega); rintro e wx ⟨rfl, hBx, hbx⟩; have hzx := hbx.size)
            | (go_at_call 126; refine (bnumber_any wa.heap.size wa.heap.size (sizedL a ++ sizedL b) 3 1 false _ ?_ ?_ ?_ ?_ ?_).mono ?_; (· assumption); (· omega); (· omega); (· have := LA.out; have := LB.out; rw [List.length_append]; omega); (· omega); rintro e wx ⟨rfl, hBx, hbx⟩; have hzx := hbx.size)
            | (go_at_call_of 127 (Value.string c); refine (btext_any wa.heap.size wa.heap.size (sizedL a ++ sizedL b ++ numL 3 1 false 1) c _ ?_ ?_ ?_).mono ?_; (· assumption); (· have := LA.out; have := LB.out; have := LN.out; simp only [List.length_append, this]; omega); (· omega); rintro e wx ⟨rfl, hBx, hbx⟩; have hzx := hbx.size)
            | (go_at_call_of 127 (Value.string d); refine (btext_any wa.heap.size wa.heap.size (sizedL a ++ sizedL b ++ numL 3 1 false 1 ++ c.data.toList) d _ ?_ ?_ ?_).mono ?_; (· assumption); (· have := LA.out; have := LB.out; have := LN.out; have hcl : c.data.toList.length = c.size := rfl; simp only [List.length_append, this, hcl]; omega); (· omega); rintro e wx ⟨rfl, hBx, hbx⟩; have hzx := hbx.size))
        go_wp2_with (go_at_call 95; refine (string_any 168 wa.heap.size wa.heap.size _ _ hBx ?_).mono ?_; (· intro h; have := congrArg List.length h; simp only [List.length_append, LN.out, List.length_nil] at this; omega); rintro e wz ⟨rfl, hbz⟩)
        go_ret
        have hz : Below wa.heap.size wa wz := by
          refine Below.trans ?_ hbz
          repeat' (first | (refine Below.trans ?_ (by assumption)))
          (repeat' (first | exact Below.refl _ _ | (with_reducible assumption) | (with_reducible refine Below.setCell ?_ (by first | (simp; done) | (simp; omega)) _) | refine below_then ?_ (by assumption) | (with_reducible refine below_new2 ?_ _) | (with_reducible refine Below.drew ?_) | (with_reducible refine bdrewN ?_ _)))
        refine ⟨?_, by (repeat' (first | exact Below.refl _ _ | (with_reducible assumption) | (with_reducible refine Below.setCell ?_ (by first | (simp; done) | (simp; omega)) _) | refine below_then ?_ (by assumption) | (with_reducible refine below_new2 ?_ _) | (with_reducible refine Below.drew ?_) | (with_reducible refine bdrewN ?_ _)))⟩
        rw [HE.out]
        refine congrArg (fun z => Ending.returned (.string z)) (encList a b c d 3 (by decide) ?_)
        rw [isEmpty_size, decide_eq_true_eq] at hc hd
        simp [flagsOf, hc, hd]
  · have he : encNode a b c d x = ⟨#[]⟩ := by unfold encNode; rw [if_neg hok]
    have HE := Lib.hid he; clear he
    go_enter Tryd.func113, Tryd.ntmps113
    go_wp2_with (first | (go_at_call 107; refine (nodeValid_any _ _ _ _ _ _).mono ?_; rintro e wa ⟨rfl, hb_wa⟩; obtain ⟨hc_wa, hf_wa⟩ := bcell hb_wa; have hz_wa := hb_wa.size; (try simp only [World.size_alloc, World.size_setCell, World.size_drew] at hz_wa); (try simp only [World.size_alloc, World.size_setCell, World.size_drew] at hc_wa); (try simp only [World.size_alloc, World.size_setCell, World.size_drew] at hf_wa); skip))
    all_goals
      go_ret
      exact ⟨by rw [HE.out]; rfl, by (repeat' (first | exact Below.refl _ _ | (with_reducible assumption) | (with_reducible refine Below.setCell ?_ (by first | (simp; done) | (simp; omega)) _) | refine below_then ?_ (by assumption) | (with_reducible refine below_new2 ?_ _) | (with_reducible refine Below.drew ?_) | (with_reducible refine bdrewN ?_ _)))⟩
end Go.Proofs.YtmfejehhfmaodabDoor
end
section
namespace Go.Proofs.YtmfejehhfmaodabDoor.Z
open Go.RowKit Go.Proofs.YtmfejehhfmaodabDoor
set_option linter.unusedVariables false
set_option linter.unusedSimpArgs false
def spec_EncodeNode.f (a0_0 a0_1 a0_2 a0_3 : ByteArray) (a1 : Int) : Option ByteArray := some (encNode a0_0 a0_1 a0_2 a0_3 a1)
theorem spec_EncodeNode.calls (a0_0 a0_1 a0_2 a0_3 : ByteArray) (a1 : Int) (r : ByteArray) (w : World) (h : spec_EncodeNode.f a0_0 a0_1 a0_2 a0_3 a1 = some r) :
    Calls Tryd.prog 80 #[.agg #[.string a0_0, .string a0_1, .string a0_2, .string a0_3], .int .i64 a1] w fun e w' => e = .returned (.string r) ∧ Below w.heap.size w w' := by
  obtain rfl := Option.some.inj h
  exact specEncodeNode_any _ _ _ _ _ _
def impl_EncodeNode.f (a0_0 a0_1 a0_2 a0_3 : ByteArray) (a1 : Int) : Option ByteArray := some (encNode a0_0 a0_1 a0_2 a0_3 a1)
theorem impl_EncodeNode.calls (a0_0 a0_1 a0_2 a0_3 : ByteArray) (a1 : Int) (r : ByteArray) (w : World) (h : impl_EncodeNode.f a0_0 a0_1 a0_2 a0_3 a1 = some r) :
    Calls Tryd.prog 113 #[.agg #[.string a0_0, .string a0_1, .string a0_2, .string a0_3], .int .i64 a1] w fun e w' => e = .returned (.string r) ∧ Below w.heap.size w w' := by
  obtain rfl := Option.some.inj h
  exact encodeNode_any _ _ _ _ _ _
end Go.Proofs.YtmfejehhfmaodabDoor.Z
end
section
namespace Go.Proofs.YtmfejehhfmaodabDoor.Z
open Go.RowKit Go.Proofs.YtmfejehhfmaodabDoor Go.Proofs.YtmfejehhfmaodabDoorW.PrintWords Go.Proofs.YtmfejehhfmaodabDoorW.PrintLast
set_option linter.unusedVariables false
set_option linter.unusedSimpArgs false
def nText (s : ByteArray) : ByteArray := (⟨#[78]⟩ : ByteArray) ++ s
theorem catL_n (s : ByteArray) : catL [⟨#[78]⟩, s] = (nText s).data.toList := by simp [catL, nText, ByteArray.data_append]
theorem hashN_any (s : ByteArray) (W w : World) (hW : W = w.alloc (.cells #[.string ⟨#[78]⟩, .string s] 9)) (ht : Tab w) (hs : s.size ≤ 4294967200) :
    Calls Tryd.prog 83 #[.slice (some ⟨w.heap.size, 0, none⟩) 2 2] W fun e w' => e = .returned (hashV (shaL (nText s).data.toList)) ∧ Below w.heap.size w w' := by
  subst hW
  have h := hashOf_any w.heap.size [⟨#[78]⟩, s] (w.alloc (.cells #[.string ⟨#[78]⟩, .string s] 9)) (fun j p hj => by
    rw [cell_of_row _ _ _ _ _ _ (heap_alloc_new _ _)]
    match j, hj with
    | 0, hj => simp only [List.getElem?_cons_zero, Option.some.injEq] at hj; subst hj; rfl
    | 1, hj => simp only [List.getElem?_cons_succ, List.getElem?_cons_zero, Option.some.injEq] at hj; subst hj; rfl) (ht.below (by (repeat' (first | exact Below.refl _ _ | (with_reducible assumption) | (with_reducible refine Below.setCell ?_ (by first | (simp; done) | (simp; omega)) _) | refine below_then ?_ (by assumption) | (with_reducible refine below_new2 ?_ _) | (with_reducible refine Below.drew ?_) | (with_reducible refine bdrewN ?_ _))))) (by rw [catL_n, nText, ByteArray.data_append]; simp only [Array.toList_append, List.length_append]; show 1 + s.size ≤ _; omega) (by simp) (by simp)
  rw [catL_n] at h
  refine h.mono ?_
  rintro e w' ⟨h1, hb⟩
  exact ⟨h1, ((Below.refl _ _).alloc (Nat.le_refl _) _).trans (hb.mono (by simp))⟩
def nodeHashV (a b c d : ByteArray) (x : Int) : ByteArray := if (encNode a b c d x).size = 0 then ⟨#[]⟩ else digV (nText (encNode a b c d x)) x
def impl_NodeHash.f (a0_0 a0_1 a0_2 a0_3 : ByteArray) (a1 : Int) : Option ByteArray := some (nodeHashV a0_0 a0_1 a0_2 a0_3 a1)
end Go.Proofs.YtmfejehhfmaodabDoor.Z
end
section
namespace Go.Proofs.YtmfejehhfmaodabDoor.Z
open Go.RowKit Go.Proofs.YtmfejehhfmaodabDoor Go.Proofs.YtmfejehhfmaodabDoorW.PrintWords Go.Proofs.YtmfejehhfmaodabDoorW.PrintLast
set_option linter.unusedVariables false
set_option linter.unusedSimpArgs false
set_option maxRecDepth 100000
def cutL (s : ByteArray) (n : Nat) : List Int := (shaL (nText s).data.toList).take n ++ List.replicate (32 - n) 0
theorem cutL_length (s : ByteArray) (n : Nat) (h : n ≤ 32) : (cutL s n).length = 32 := by
  unfold cutL; rw [List.length_append, List.length_take, shaL_length, List.length_replicate]; omega
def setL (cs : List Value) (o : Nat) : List Value → List Value
  | [] => cs
  | v :: r => setL (cs.set o v) (o + 1) r
theorem setL_all (z : Value) : ∀ (k : Nat) (cs : List Value) (o : Nat), o + k = cs.length → setL cs o (List.replicate k z) = cs.take o ++ List.replicate k z
  | 0, cs, o, h => by rw [List.replicate_zero, List.append_nil, setL, List.take_of_length_le (by omega)]
  | k + 1, cs, o, h => by
    rw [List.replicate_succ, setL, setL_all z k _ (o + 1) (by rw [List.length_set]; omega), List.take_succ_eq_append_getElem (by rw [List.length_set]; omega), List.getElem_set_self, List.take_set_of_le (Nat.le_refl _), List.append_assoc]
    rfl
theorem setCells_row {b : Nat} {T : TypeId} : ∀ (vs cs : List Value) (o : Nat) (w : World), w.heap[b]? = some (.cells cs.toArray T (0, 0)) → (w.setCells b o vs).heap[b]? = some (.cells (setL cs o vs).toArray T (0, 0))
  | [], cs, o, w, h => h
  | v :: r, cs, o, w, h => by
    rw [World.setCells, setL]
    exact setCells_row r (cs.set o v) (o + 1) _ (hset h rfl)
theorem setCells_other {b k : Nat} (hk : k ≠ b) : ∀ (vs : List Value) (o : Nat) (w : World), (w.setCells b o vs).heap[k]? = w.heap[k]?
  | [], _, _ => rfl
  | v :: r, o, w => by
    rw [World.setCells, setCells_other hk r (o + 1), heap_setCell_other _ _ _ _ hk]
theorem setCells_size (b : Nat) : ∀ (vs : List Value) (o : Nat) (w : World), (w.setCells b o vs).heap.size = w.heap.size
  | [], _, _ => rfl
  | v :: r, o, w => by rw [World.setCells, setCells_size b r (o + 1)]; simp
theorem setCells_outer (b : Nat) : ∀ (vs : List Value) (o : Nat) (w : World), (w.setCells b o vs).os = w.os ∧ (w.setCells b o vs).tape = w.tape ∧ (w.setCells b o vs).output = w.output
  | [], _, _ => ⟨rfl, rfl, rfl⟩
  | v :: r, o, w => by rw [World.setCells]; exact setCells_outer b r (o + 1) _
theorem below_setCells {B b : Nat} {w0 w : World} (h : Below B w0 w) (hb : B ≤ b) (vs : List Value) (o : Nat) : Below B w0 (w.setCells b o vs) := by
  obtain ⟨h1, h2, h3⟩ := setCells_outer b vs o w
  exact ⟨h1.trans h.os, h2.trans h.tape, h3.trans h.output, by rw [setCells_size]; exact h.size, fun k hk => (setCells_other (by omega) vs o w).trans (h.block k hk)⟩
theorem below_setRow {B b : Nat} {w0 w : World} (h : Below B w0 w) (hb : B ≤ b) (cs : Array Value) : Below B w0 (w.setRow b cs) :=
  ⟨h.os, h.tape, h.output, by rw [setRow_size]; exact h.size, fun k hk => (setRow_other _ _ _ _ (by omega)).trans (h.block k hk)⟩
section
variable {P : Program} {w : World} {ops : Array Oper} {rest : List Oper} {o : Oper} {a : Act} {Q : Exit → Act → World → Prop}
theorem wpList_clear (hgd : o.guard = none) (x : Operand) (t : TypeId) (ho : o.op = .call { callee := .builtin .clear, args := #[x], argTypes := #[t] }) {v u : Value} {w1 : World} (hx : a.eval x = v) (hr : (Builtin.clear_ #[t] o.type #[v]).run P w = .ok u w1)
    (hK : wpList P ops Q rest (a.put o.dst u) w1) : wpList P ops Q (o :: rest) a w := by
  refine wpList_plain hgd fun K hK' => ?_
  unfold Oper.wp execOp
  simp only [ho, resolve, invoke, builtin, Sem.run_bind, Sem.run_pure, Result.andThen_ok, List.map_toArray, List.map_cons, List.map_nil, hx, hr]
  exact hK' _ _ hK
end
theorem hash_cells32 (l : List Int) (h : l.length = 32) : (Tryd.prog.info? 85).map (·.size) = some ((l.map (Value.int .u8)).toArray.size) := by
  rw [show ((l.map (Value.int .u8)).toArray.size) = 32 by simp [h]]; kernel_rfl
theorem hash_one (l : List Int) : ((l.map (Value.int .u8)).toArray).all (·.oneCell') = true := by simp [Value.oneCell']
theorem hashN_at (s : ByteArray) (g : Nat) (W w : World) (hg : g = w.heap.size) (hW : W = w.alloc (.cells #[.string ⟨#[78]⟩, .string s] 9)) (ht : Tab w) (hs : s.size ≤ 4294967200) :
    Calls Tryd.prog 83 #[.slice (some ⟨g, 0, none⟩) 2 2] W fun e w' => e = .returned (hashV (shaL (nText s).data.toList)) ∧ Below w.heap.size w w' := by
  subst hg
  exact hashN_any s W w hW ht hs
def hashTail (g n : Nat) : Value := .slice (some (if 32 = n then ⟨g, 0, none⟩ else ⟨g, n, none⟩)) (32 - n) (32 - n)
theorem hash_slice (g n : Nat) (hn0 : 1 ≤ n) (hn : n ≤ 32) (W : World) : (Instr.sliceAt 85 (.pointer (some ⟨g, 0, none⟩)) (some (.int .i64 (n : Int))) none none).run Tryd.prog W = .ok (hashTail g n) W := by
  have hT : Tryd.prog.underlying 85 = some (.array (Tryd.prog.arrayLen 85) (Tryd.prog.elem 85)) := by kernel_rfl
  have hL : Tryd.prog.arrayLen 85 = 32 := by kernel_rfl
  have hZ : (sizeOf (Tryd.prog.elem 85)).run Tryd.prog W = .ok 1 W := by kernel_rfl
  rw [run_sliceAt_array_l W _ _ hT .i64 (n : Int) (by omega) (by rw [hL]; omega), hZ, hL]
  have h0 : n ≠ 0 := by omega
  simp [slicedAt, hashTail, Addr.add, h0]
theorem hash_clear (g n : Nat) (hn : n ≤ 32) (l : List Int) (hl : l.length = 32) (W : World) (hW : W.heap[g]? = some (.cells (l.map (Value.int .u8)).toArray 85 (0, 0))) (ty : TypeId) :
    (Builtin.clear_ #[113] ty #[hashTail g n]).run Tryd.prog W = .ok (.tuple #[]) (W.setCells g n (List.replicate (32 - n) (.int .u8 0))) := by
  have hz : ∀ w, (zeroValue 5).run Tryd.prog w = .ok (.int .u8 0) w := fun _ => by kernel_rfl
  by_cases h : 32 = n
  · subst h
    have h1 := run_underlying (w := W) (P := Tryd.prog) Tryd.underlying113
    simp [hashTail, Builtin.clear_, h1, hz, Builtin.zeroCells, World.setCells]
  · unfold hashTail
    rw [if_neg h]
    exact Lib.run_clear_slice W 113 5 ty _ Tryd.underlying113 hz rfl rfl g n (32 - n) (32 - n) (by omega)
      (fun j hj => by rw [cell_of_row _ _ _ _ _ _ hW]; simp [hl]; omega) (fun j hj => frozen_of_row _ _ _ _ _ hW)
set_option maxHeartbeats 1000000 in
theorem cut_any (s : ByteArray) (n : Nat) (hn : 1 ≤ n) (hn2 : n ≤ 32) (hs : s.size ≤ 4294967200) (w : World) (ht : Tab w) :
    Calls Tryd.prog 76 #[.string s, .int .i64 n] w fun e w' => e = .returned (hashV (cutL s n)) ∧ Below w.heap.size w w' := by
  have HT := Lib.hid ht; clear ht
  go_enter Tryd.func76, Tryd.ntmps76
  go_wp2_with fail
  refine (hashN_at s _ _ _ (by simp) rfl (HT.out.below (by (repeat' (first | exact Below.refl _ _ | (with_reducible assumption) | (with_reducible refine Below.setCell ?_ (by first | (simp; done) | (simp; omega)) _) | refine below_then ?_ (by assumption) | (with_reducible refine below_new2 ?_ _) | (with_reducible refine Below.drew ?_) | (with_reducible refine bdrewN ?_ _))))) hs).mono ?_
  rintro e w1 ⟨rfl, hb1⟩
  have hz1 := hb1.size
  simp only [World.size_alloc] at hz1
  have hR4 : w1.heap[w.heap.size]? = some (.cells ((List.replicate 32 (Value.int .u8 0)).toArray) 85 (0, 0)) := (hb1.block _ (by simp)).trans (heap_alloc_new _ _)
  have hB1 : Below w.heap.size w w1 := ((Below.refl _ _).alloc (Nat.le_refl _) _).trans (hb1.mono (by simp))
  obtain ⟨S, hS⟩ : ∃ S, shaL (nText s).data.toList = S := ⟨_, rfl⟩
  have hSl : S.length = 32 := by rw [← hS]; exact shaL_length _
  have hcut : cutL s n = S.take n ++ List.replicate (32 - n) 0 := by unfold cutL; rw [hS]
  rw [hS]
  have HS := Lib.hid hS; clear hS
  have HCUT := Lib.hid hcut; clear hcut
  have HI := Lib.hid (hash_cells32 S hSl)
  have H1 := Lib.hid (hash_one S)
  have HSL := Lib.hid hSl; clear hSl
  have HR4 := Lib.hid hR4; clear hR4
  have hR5 : (w1.alloc (.cells ((List.replicate 32 (Value.int .u8 0)).toArray) 85)).heap[w1.heap.size]? = some (.cells ((List.replicate 32 (Value.int .u8 0)).toArray) 85 (0, 0)) := heap_alloc_new _ _
  have HR5 := Lib.hid hR5; clear hR5
  have hsz : ((List.replicate 32 (Value.int .u8 0)).toArray).size = ((S.map (Value.int .u8)).toArray).size := by have := HSL.out; simp [this]
  have HSZ := Lib.hid hsz; clear hsz
  have hsl := hash_slice w1.heap.size n hn hn2
  have hrow := setRow_heap _ _ _ ((S.map (Value.int .u8)).toArray) _ _ HR5.out
  have HCL := Lib.hid (hash_clear w1.heap.size n hn2 S HSL.out _ hrow 0)
  obtain ⟨C, hC⟩ : ∃ C, cutL s n = C := ⟨_, rfl⟩
  have hCl : C.length = 32 := by rw [← hC]; exact cutL_length s n hn2
  have hCm : setL (S.map (Value.int .u8)) n (List.replicate (32 - n) (.int .u8 0)) = C.map (Value.int .u8) := by
    rw [setL_all _ _ _ _ (by rw [List.length_map, HSL.out]; omega), ← hC, HCUT.out]
    simp
  have hR6 := setCells_row (List.replicate (32 - n) (.int .u8 0)) (S.map (Value.int .u8)) n _ hrow
  rw [hCm] at hR6
  have hR7 := (setCells_other (show w.heap.size ≠ w1.heap.size by omega) (List.replicate (32 - n) (Value.int .u8 0)) n ((w1.alloc (.cells ((List.replicate 32 (Value.int .u8 0)).toArray) 85)).setRow w1.heap.size (S.map (Value.int .u8)).toArray)).trans ((setRow_other _ _ _ _ (show w.heap.size ≠ w1.heap.size by omega)).trans ((heap_alloc_old w1 _ (by omega)).trans HR4.out))
  have HR6 := Lib.hid hR6
  have HR7 := Lib.hid hR7
  have HJ := Lib.hid (hash_cells32 C hCl)
  have H2 := Lib.hid (hash_one C)
  have hsz2 : ((List.replicate 32 (Value.int .u8 0)).toArray).size = ((C.map (Value.int .u8)).toArray).size := by simp [hCl]
  have HSZ2 := Lib.hid hsz2
  have hBx : Below w.heap.size w (((w1.alloc (.cells ((List.replicate 32 (Value.int .u8 0)).toArray) 85)).setRow w1.heap.size (S.map (Value.int .u8)).toArray).setCells w1.heap.size n (List.replicate (32 - n) (.int .u8 0))) :=
    below_setCells (below_setRow (hB1.alloc (by omega) _) (by omega) _) (by omega) _ _
  have HBX := Lib.hid hBx
  have HCC := Lib.hid hC
  clear hrow hC hCm hR6 hR7 hsz2 hBx hCl
  go_wp2_with (first | refine wpList_store_row rfl 85 _ _ rfl w1.heap.size _ rfl rfl _ _ HR5.out HI.out HSZ.out H1.out ?_ | refine wpList_clear rfl _ 113 rfl rfl HCL.out ?_ | refine wpList_load_row rfl 85 _ rfl w1.heap.size rfl _ _ _ _ HR6.out Tryd.underlying85 rfl HJ.out ?_ | refine wpList_store_row rfl 85 _ _ rfl w.heap.size _ rfl rfl _ _ HR7.out HJ.out HSZ2.out H2.out ?_)
  refine bodyPost_ret (v := hashV C) (results_cell_row Tryd.results76 _ _ w.heap.size 85 _ (0, 0) _ rfl (setRow_heap _ _ _ _ _ _ HR7.out) Tryd.underlying85 rfl HJ.out) rfl ⟨?_, ?_⟩
  · rw [HCC.out]
  · exact below_setRow HBX.out (Nat.le_refl _) _
end Go.Proofs.YtmfejehhfmaodabDoor.Z
end
section
namespace Go.Proofs.YtmfejehhfmaodabDoor.Z
open Go.RowKit Go.Proofs.YtmfejehhfmaodabDoor Go.Proofs.YtmfejehhfmaodabDoorW.PrintWords Go.Proofs.YtmfejehhfmaodabDoorW.PrintLast
set_option linter.unusedVariables false
set_option linter.unusedSimpArgs false
set_option maxRecDepth 100000
def H32 (l : List Int) : Prop := l.length = 32 ∧ ∀ x ∈ l, 0 ≤ x ∧ x < 256
theorem ints_mem (l : List UInt8) : ∀ x ∈ ints l, 0 ≤ x ∧ x < 256 := by
  intro x hx
  obtain ⟨b, _, rfl⟩ := List.mem_map.1 hx
  have := UInt8.toNat_lt b
  omega
def firstAt : List (List Int) → List Int → Option Nat
  | [], _ => none
  | c :: r, l => if c = l then some 0 else (firstAt r l).map (· + 1)
theorem firstAt_lt : ∀ (C : List (List Int)) (l : List Int) (i : Nat), firstAt C l = some i → i < C.length
  | [], _, _, h => by cases h
  | c :: r, l, i, h => by
    unfold firstAt at h
    split at h
    · obtain rfl := Option.some.inj h; simp
    · obtain ⟨j, hj, rfl⟩ := Option.map_eq_some_iff.1 h
      have := firstAt_lt r l j hj
      simp; omega
theorem firstAt_snoc (C : List (List Int)) (c l : List Int) : firstAt (C ++ [c]) l = match firstAt C l with
    | some i => some i
    | none => if c = l then some C.length else none := by
  induction C with
  | nil => simp [firstAt]
  | cons d r ih =>
    simp only [List.cons_append, firstAt]
    by_cases h : d = l
    · rw [if_pos h, if_pos h]
    · rw [if_neg h, if_neg h, ih]
      cases firstAt r l with
      | some i => rfl
      | none =>
        dsimp only
        by_cases h2 : c = l
        · simp [h2]
        · simp [h2]
theorem laidOutX : laidOutB Tryd.prog = true := by kernel_rfl
theorem hashLaw : Maps.Keyed Tryd.prog 85 := Maps.Keyed.of_law (deep_law_laid laidOutX (m := 2) (by omega) (of_decide_eq_true (by kernel_rfl)) (by kernel_rfl) (by kernel_rfl))
theorem lit_u8 (x : Int) (h : 0 ≤ x ∧ x < 256) : (Lit.int .u8 x).wf = true := by
  have hmin : IntKind.u8.min = 0 := rfl
  have hmax : IntKind.u8.max = 255 := rfl
  simp only [Lit.wf, Bool.and_eq_true, decide_eq_true_eq, hmin, hmax]
  omega
theorem mapM_one (P : Program) (d : Nat) (e : TypeId) (l : List Int) (he : P.underlying e = some (.int .u8)) (hc : P.cellsOf e = 1) (hb : ∀ x ∈ l, 0 ≤ x ∧ x < 256) : ∀ (k j : Nat), j + k = l.length →
    ((List.range' j k).mapM fun i => P.keyLits (d + 1) e (((l.map (Value.int .u8)).drop (i * P.cellsOf e)).take (P.cellsOf e))) = some ((l.drop j).map fun x => [Lit.int .u8 x])
  | 0, j, h => by
    rw [List.drop_of_length_le (by omega)]; rfl
  | k + 1, j, h => by
    have h1 := mapM_one P d e l he hc hb k (j + 1) (by omega)
    have hd : l.drop j = l[j] :: l.drop (j + 1) := List.drop_eq_getElem_cons (by omega)
    rw [List.range'_succ, List.mapM_cons, h1, hd]
    have : P.keyLits (d + 1) e (((l.map (Value.int .u8)).drop (j * P.cellsOf e)).take (P.cellsOf e)) = some [Lit.int .u8 l[j]] := by
      rw [hc, Nat.mul_one, ← List.map_drop, hd, List.map_cons, List.take_succ_cons, List.take_zero]
      unfold Program.keyLits
      rw [he]
      simp [lit_u8 _ (hb l[j] (List.getElem_mem _))]
    rw [this]
    rfl
theorem flat_one {α β : Type} (f : α → β) : ∀ l : List α, l.flatMap (fun x => [f x]) = l.map f
  | [] => rfl
  | a :: r => by rw [List.flatMap_cons, flat_one f r]; rfl
theorem hash_key (l : List Int) (h : H32 l) : ∃ kl, keyOf Tryd.prog 85 (hashV l) = some kl := by
  have hT : Tryd.prog.underlying 85 = some (.array 32 5) := by kernel_rfl
  have hE : Tryd.prog.underlying 5 = some (.int .u8) := by kernel_rfl
  have hcT : Tryd.prog.cellsOf 85 = 32 := by kernel_rfl
  have hcE : Tryd.prog.cellsOf 5 = 1 := by kernel_rfl
  have hk : Tryd.prog.keyType 85 = true := by kernel_rfl
  have hsz : ∃ n, Tryd.prog.types.size = n + 1 := ⟨Tryd.prog.types.size - 1, by have : 0 < Tryd.prog.types.size := of_decide_eq_true (by kernel_rfl); omega⟩
  obtain ⟨n, hn⟩ := hsz
  have hf : (hashV l).formed Tryd.prog 85 = true := by
    unfold hashV Value.formed
    rw [hT, hcT]
    simp [h.1]
  have hL : Tryd.prog.keyLits (Tryd.prog.types.size + 1) 85 ((hashV l).cells.toList) = some (l.map (Lit.int .u8)) := by
    have hcs : (hashV l).cells.toList = l.map (Value.int .u8) := by simp [hashV, Value.cells]
    rw [hcs, hn]
    unfold Program.keyLits
    rw [hT]
    dsimp only
    rw [if_pos (by rw [List.length_map, hcT, h.1]), List.range_eq_range', mapM_one Tryd.prog n 5 l hE hcE h.2 32 0 (by rw [h.1]), List.drop_zero]
    rw [Option.map_some, ← List.flatMap_def, flat_one]
  unfold keyOf
  rw [hT]
  dsimp only
  rw [hk, hf, hL]
  exact ⟨_, rfl⟩
theorem hash_key_ne {l m : List Int} {kl km : Lit} (h : keyOf Tryd.prog 85 (hashV l) = some kl) (h2 : keyOf Tryd.prog 85 (hashV m) = some km) (hne : l ≠ m) : kl ≠ km := by
  rintro rfl
  have h3 := hashLaw.inj h h2
  unfold hashV at h3
  injection h3 with h4
  refine hne ?_
  have h5 : l.map (Value.int .u8) = m.map (Value.int .u8) := by simpa using h4
  exact (List.map_inj_right (fun a b hab => by injection hab)).1 h5
def PlaceIs (C : List (List Int)) (D : DataW Unit) : Prop := Maps.IsMap D ∧ ∀ l kl, keyOf Tryd.prog 85 (hashV l) = some kl → Maps.has D kl = (firstAt C l).isSome ∧ D.atKey kl (.lit (.int .i64 0)) = .lit (.int .i64 (((firstAt C l).getD 0 : Nat) : Int))
theorem PlaceIs.start : PlaceIs [] (.map []) := ⟨Maps.isMap_empty, fun l kl h => ⟨rfl, rfl⟩⟩
theorem PlaceIs.same {C : List (List Int)} {D : DataW Unit} (h : PlaceIs C D) {c : List Int} {i : Nat} (hc : firstAt C c = some i) : PlaceIs (C ++ [c]) D := by
  refine ⟨h.1, fun l kl hk => ?_⟩
  have := h.2 l kl hk
  rw [firstAt_snoc]
  cases hl : firstAt C l with
  | some j => rw [hl] at this; exact this
  | none =>
    rw [hl] at this
    dsimp only
    rw [if_neg (fun e => by rw [e, hl] at hc; cases hc)]
    exact this
theorem PlaceIs.new {C : List (List Int)} {D : DataW Unit} (h : PlaceIs C D) {c : List Int} {kc : Lit} (hkc : keyOf Tryd.prog 85 (hashV c) = some kc) (hc : firstAt C c = none) : PlaceIs (C ++ [c]) (D.put kc (.lit (.int .i64 (C.length : Int)))) := by
  refine ⟨h.1.put _ _, fun l kl hk => ?_⟩
  have := h.2 l kl hk
  rw [firstAt_snoc]
  by_cases e : c = l
  · subst e
    obtain rfl : kc = kl := by rw [hkc] at hk; exact Option.some.inj hk
    rw [hc]
    dsimp only
    rw [if_pos rfl]
    exact ⟨Maps.has_put_same h.1 (hashLaw.key hkc) _, Maps.atKey_put_same h.1 (hashLaw.key hkc) _ _⟩
  · have hne := hash_key_ne hk hkc (fun e' => e e'.symm)
    rw [Maps.has_put_other hne, Maps.atKey_put_other hne]
    cases hl : firstAt C l with
    | some j => rw [hl] at this; exact this
    | none => rw [hl] at this; dsimp only; rw [if_neg e]; exact this
end Go.Proofs.YtmfejehhfmaodabDoor.Z
end
section
namespace Go.Proofs.YtmfejehhfmaodabDoor.Z
open Go.RowKit Go.Proofs.YtmfejehhfmaodabDoor Go.Proofs.YtmfejehhfmaodabDoorW.PrintWords Go.Proofs.YtmfejehhfmaodabDoorW.PrintLast
set_option linter.unusedVariables false
set_option linter.unusedSimpArgs false
set_option maxRecDepth 100000
def strs (l : List ByteArray) : List Value := l.map Value.string
theorem strs_app (l m : List ByteArray) : strs (l ++ m) = strs l ++ strs m := by simp [strs]
structure Idx (base b m : Nat) (v : Value) (W : Int) (encs : List ByteArray) (C : List (List Int)) (w : World) : Prop where
  row : w.heap[b]? = some (.cells #[.int .i64 W, v, .map (some m)] 110 (0, 0))
  own : Own w base 1 v encs.length (strs encs)
  map : ∃ D : DataW Unit, w.ownsMap Tryd.prog 85 (plainElem Tryd.prog 3) m encs.length D ∧ PlaceIs C D
  hb : base ≤ b
  hm : base ≤ m
  nm : m ≠ b
  vb : v.ownBlock ≠ some b
  vm : v.ownBlock ≠ some m
  len : C.length = encs.length
section
variable {base b m : Nat} {v : Value} {W : Int} {encs : List ByteArray} {C : List (List Int)} {w w1 : World}
theorem Idx.lt (h : Idx base b m v W encs C w) : b < w.heap.size := lt_of_block h.row
theorem Idx.below (h : Idx base b m v W encs C w) (hB : Below w.heap.size w w1) : Idx base b m v W encs C w1 := by
  obtain ⟨D, h1, h2⟩ := h.map
  exact { h with
    row := (hB.block b h.lt).trans h.row
    own := h.own.below hB
    map := ⟨D, h1.kept (row := none) ⟨hB.os, hB.tape, hB.output, hB.size, fun k hk _ => hB.block k hk⟩ (by simp), h2⟩ }
theorem Idx.c0 (h : Idx base b m v W encs C w) : w.cell? ⟨b, 0, none⟩ = some (.int .i64 W) := (cell_of_row _ _ _ _ _ _ h.row).trans rfl
theorem Idx.c1 (h : Idx base b m v W encs C w) : w.cell? ⟨b, 1, none⟩ = some v := (cell_of_row _ _ _ _ _ _ h.row).trans rfl
theorem Idx.c2 (h : Idx base b m v W encs C w) : w.cell? ⟨b, 2, none⟩ = some (.map (some m)) := (cell_of_row _ _ _ _ _ _ h.row).trans rfl
theorem Idx.f (h : Idx base b m v W encs C w) (i : Nat) : w.frozen? ⟨b, i, none⟩ = false := frozen_of_row _ _ _ _ _ h.row
end
theorem Idx.app {base b m : Nat} {v v' : Value} {W : Int} {encs : List ByteArray} {C : List (List Int)} {c : List Int} {s : ByteArray} {w0 w w' : World} (h : Idx base b m v W encs C w0) (hrow : w.heap[b]? = some (.cells #[.int .i64 W, v, .map (some m)] 110 (0, 0)))
    (hmap : ∃ D : DataW Unit, w.ownsMap Tryd.prog 85 (plainElem Tryd.prog 3) m (encs.length + 1) D ∧ PlaceIs (C ++ [c]) D) (hg : w.grownBy w' v.ownBlock) (ho : Own w' base 1 v' (encs.length + 1) (strs encs ++ [Value.string s]))
    (hv : v'.ownBlock = v.ownBlock ∨ ∀ k, v'.ownBlock = some k → w.heap.size ≤ k) : Idx base b m v' W (encs ++ [s]) (C ++ [c]) (w'.setCell ⟨b, 1, none⟩ v') := by
  have hbl := lt_of_block hrow
  obtain ⟨D, hm1, hm2⟩ := hmap
  have hml := hm1.lt
  have vb : v'.ownBlock ≠ some b := by
    rcases hv with e | e
    · rw [e]; exact h.vb
    · intro e2; have := e b e2; omega
  have vm : v'.ownBlock ≠ some m := by
    rcases hv with e | e
    · rw [e]; exact h.vm
    · intro e2; have := e m e2; omega
  have hr1 : w'.heap[b]? = some (.cells #[.int .i64 W, v, .map (some m)] 110 (0, 0)) := (hg.block b hbl (fun e => h.vb e.symm)).trans hrow
  refine ⟨?_, ?_, ⟨D, ?_, hm2⟩, h.hb, h.hm, h.nm, vb, vm, by rw [List.length_append, List.length_append, h.len]; rfl⟩
  · have := heap_setCell_same w' b 1 _ _ v' hr1
    rw [this]; rfl
  · rw [List.length_append, strs_app]
    exact ho.set vb _
  · have h2 : w'.ownsMap Tryd.prog 85 (plainElem Tryd.prog 3) m (encs.length + 1) D := hm1.kept hg (fun e => h.vm e.symm)
    rw [show (encs ++ [s]).length = encs.length + 1 by simp]
    exact h2.setCell (by exact h.nm) _
theorem Idx.slot {base b m : Nat} {v : Value} {W : Int} {encs : List ByteArray} {C : List (List Int)} {w0 w w' : World} (h : Idx base b m v W encs C w0) (hrow : w.heap[b]? = some (.cells #[.int .i64 W, v, .map (some m)] 110 (0, 0))) (hg : w.grownBy w' v.ownBlock) :
    w'.cell? ⟨b, 1, none⟩ = some v ∧ w'.frozen? ⟨b, 1, none⟩ = false := by
  have hr1 : w'.heap[b]? = some (.cells #[.int .i64 W, v, .map (some m)] 110 (0, 0)) := (hg.block b (lt_of_block hrow) (fun e => h.vb e.symm)).trans hrow
  exact ⟨(cell_of_row _ _ _ _ _ _ hr1).trans rfl, frozen_of_row _ _ _ _ _ hr1⟩
theorem infoStr : (Tryd.prog.info? 9).map (fun i => (i.zero, i.size, i.bytes)) = some (some (.string ⟨#[]⟩), 1, 16) := by kernel_rfl
theorem zeroInt (w : World) : (zeroValue 3).run Tryd.prog w = .ok (.int .i64 0) w := by kernel_rfl
theorem wpQuiet_load {P : Program} {ops : Array Oper} {C : World → Prop} {Q : Act → Prop} {a : Act} {o : Oper} {rest : List Oper} (hg : o.guard = none) (ty : TypeId) (x : Operand) (ho : o.op = .load ty x) (p v : Value) (hx : a.eval x = p)
    (hrun : ∀ w, C w → (Instr.loadAt ty p).run P w = .ok v w) (h : wpQuiet P ops C Q rest (a.put o.dst v)) : wpQuiet P ops C Q (o :: rest) a := by
  unfold wpQuiet
  rw [if_pos (by simp [Region.wanted, hg])]
  refine ⟨v, fun w hw => ?_, h⟩
  unfold Oper.quietAt execOp
  simp only [ho, hx, Sem.run_bind, hrun w hw, Result.andThen_ok, Sem.run_pure]
  exact ⟨rfl, rfl⟩
theorem wpStill_load {P : Program} {ops : Array Oper} {w : World} {Q : Act → Prop} {a : Act} {o : Oper} {rest : List Oper} (hg : o.guard = none) (ty : TypeId) (x : Operand) (ho : o.op = .load ty x) (p v : Value) (hx : a.eval x = p)
    (hrun : (Instr.loadAt ty p).run P w = .ok v w) (h : wpStill P ops w Q rest (a.put o.dst v)) : wpStill P ops w Q (o :: rest) a := by
  unfold wpStill
  rw [if_pos (by simp [Region.wanted, hg])]
  unfold Oper.still execOp
  simp only [ho, hx, Sem.run_bind, hrun, Result.andThen_ok, Sem.run_pure]
  exact ⟨rfl, h⟩
theorem hash_load (c : List Int) (hl : c.length = 32) (g : Nat) (W : World) (hg : W.heap[g]? = some (.cells (c.map (Value.int .u8)).toArray 85 (0, 0))) :
    (Instr.loadAt 85 (.pointer (some ⟨g, 0, none⟩))).run Tryd.prog W = .ok (hashV c) W := by
  simp only [Instr.loadAt, Instr.sureAddr, Sem.run_bind, Sem.run_pure, Result.andThen_ok]
  exact run_loadVar_row W g _ _ _ _ _ hg Tryd.underlying85 rfl (hash_cells32 c hl)
theorem place_look {m n : Nat} {D : DataW Unit} {C : List (List Int)} {w : World} (h : w.ownsMap Tryd.prog 85 (plainElem Tryd.prog 3) m n D) (hp : PlaceIs C D) (c : List Int) (hc : H32 c) :
    (Instr.lookup 108 (.map (some m)) (hashV c) true).run Tryd.prog w = .ok (.tuple #[.int .i64 (((firstAt C c).getD 0 : Nat) : Int), .bool (firstAt C c).isSome]) w := by
  obtain ⟨kl, hk⟩ := hash_key c hc
  obtain ⟨h1, h2⟩ := hp.2 c kl hk
  obtain ⟨v, ps, hrun, hv⟩ := h.look_ok hashLaw Tryd.underlying108 (zeroInt w) (plainElem_int Tryd.underlying3 (by decide)) hk
  obtain ⟨x, rfl, hx, _⟩ := plainElem_int_inv Tryd.underlying3 hv
  rw [hrun, h1]
  rw [h2] at hx
  have h3 := congrArg Prod.fst hx
  simp only [DataW.lit.injEq, Lit.int.injEq, true_and] at h3
  rw [← h3]
set_option maxHeartbeats 2000000 in
theorem idxAdd_old (base b m : Nat) (v : Value) (W : Int) (encs : List ByteArray) (C : List (List Int)) (c : List Int) (s : ByteArray) (i : Nat) (w : World) (h : Idx base b m v W encs C w) (hc : H32 c) (hi : firstAt C c = some i) (hn : encs.length ≤ 1073741824) (hbase : base ≤ w.heap.size) :
    Calls Tryd.prog 75 #[.pointer (some ⟨b, 0, none⟩), hashV c, .string s] w fun e w' => e = .returned (.tuple #[]) ∧ (∃ v', Idx base b m v' W (encs ++ [s]) (C ++ [c]) w') ∧ Below base w w' := by
  obtain ⟨VA, VC, rfl⟩ := h.own.form
  obtain ⟨D, hown, hpl⟩ := h.map
  have hw1 : (w.alloc (.cells (c.map (Value.int .u8)).toArray 85)).heap[w.heap.size]? = some (.cells (c.map (Value.int .u8)).toArray 85 (0, 0)) := heap_alloc_new _ _
  have HX := Lib.hid (h.below ((Below.refl _ _).alloc (Nat.le_refl _) (.cells (c.map (Value.int .u8)).toArray 85)))
  have kl := fun n => hash_load c hc.1 w.heap.size ((w.alloc (.cells (c.map (Value.int .u8)).toArray 85)).drewN n) hw1
  have kp := fun n => place_look (w := (w.alloc (.cells (c.map (Value.int .u8)).toArray 85)).drewN n) (hown.alloc _) hpl c hc
  rw [hi] at kp
  have h0 := h.c0
  have h1 := h.c1
  have h2 := h.c2
  have hf := h.f
  have hlt := h.lt
  have HI := Lib.hid hi
  have HC := Lib.hid hc
  have HH := Lib.hid h
  clear hi hc h hown hpl hw1
  unfold hashV at kl kp ⊢
  go_enter Tryd.func75, Tryd.ntmps75
  go_wp2_with fail
  refine wp_region_quiet_lit (by kernel_rfl) (by kernel_rfl) ?_
  iterate 4 (quiet_step (fail))
  refine wpQuiet_load rfl 85 _ rfl _ _ rfl (fun w' ⟨n, hn⟩ => by subst hn; exact kl n) ?_
  repeat (quiet_step (fail))
  refine wpQuiet_nil ?_
  intro _ hw'
  obtain ⟨nq, hw''⟩ := hw'
  subst hw''
  have hrow : (((w.alloc (.cells (c.map (Value.int .u8)).toArray 85)).drewN nq).alloc (.cells #[Value.string s] 9)).heap[b]? = some (.cells #[.int .i64 W, .slice VA encs.length VC, .map (some m)] 110 (0, 0)) :=
    (HX.out.below ((Below.refl _ _).alloc (Nat.le_refl _) (.cells #[Value.string s] 9))).row
  have hown : Own (((w.alloc (.cells (c.map (Value.int .u8)).toArray 85)).drewN nq).alloc (.cells #[Value.string s] 9)) base 1 (.slice VA encs.length VC) encs.length (strs encs) :=
    (HX.out.below ((Below.refl _ _).alloc (Nat.le_refl _) (.cells #[Value.string s] 9))).own
  have hsrc := src_one ((w.alloc (.cells (c.map (Value.int .u8)).toArray 85)).drewN nq) 22 9 9 Tryd.underlying22 (.string s) rfl
  rw [show ((w.alloc (.cells (c.map (Value.int .u8)).toArray 85)).drewN nq).heap.size = w.heap.size + 1 by simp] at hsrc
  have HROW := Lib.hid hrow
  have HOWN := Lib.hid hown
  have HSRC := Lib.hid hsrc
  have hbel : Below base w (((w.alloc (.cells (c.map (Value.int .u8)).toArray 85)).drewN nq).alloc (.cells #[Value.string s] 9)) := (bdrewN ((Below.refl _ _).alloc hbase _) nq).alloc (by simp; omega) _
  have hmp : ∃ D : DataW Unit, (((w.alloc (.cells (c.map (Value.int .u8)).toArray 85)).drewN nq).alloc (.cells #[Value.string s] 9)).ownsMap Tryd.prog 85 (plainElem Tryd.prog 3) m (encs.length + 1) D ∧ PlaceIs (C ++ [c]) D := by
    obtain ⟨D, h1, h2⟩ := (HX.out.below ((Below.refl _ _).alloc (Nat.le_refl _) (.cells #[Value.string s] 9))).map
    exact ⟨D, h1.mono (by omega), h2.same HI.out⟩
  have HMP := Lib.hid hmp
  have HBEL := Lib.hid hbel
  clear hrow hown hsrc hbel hmp kl kp hf
  go_wp2_with (at_builtin; go_loud (refine wpList_app base rfl _ _ 22 22 rfl 9 (.string ⟨#[]⟩) 1 16 Tryd.underlying22 infoStr rfl rfl HOWN.out _ 1 [Value.string s] rfl HSRC.out (by unfold maxLen; omega) (by omega) (by simp; omega) ?_; intro v' w' hown' hgrow hvv; obtain ⟨A', c', rfl⟩ := hown'.form; have HO' := Lib.hid hown'; have HG' := Lib.hid hgrow; have HV' := Lib.hid hvv; clear hown' hgrow hvv; have hs1 := (HH.out.slot HROW.out HG'.out).1; have hs2 := (HH.out.slot HROW.out HG'.out).2))
  go_end0
  refine ⟨rfl, ⟨_, HH.out.app HROW.out HMP.out HG'.out HO'.out HV'.out⟩, ?_⟩
  have h5 : Below base w w' := HBEL.out.grown HG'.out (by simp; omega) (fun k hk => (HH.out.own.lt k hk).1)
  exact h5.setCell HH.out.hb _
set_option maxHeartbeats 2000000 in
theorem idxAdd_new (base b m : Nat) (v : Value) (W : Int) (encs : List ByteArray) (C : List (List Int)) (c : List Int) (s : ByteArray) (w : World) (h : Idx base b m v W encs C w) (hc : H32 c) (hi : firstAt C c = none) (hn : encs.length ≤ 1073741824) (hbase : base ≤ w.heap.size) :
    Calls Tryd.prog 75 #[.pointer (some ⟨b, 0, none⟩), hashV c, .string s] w fun e w' => e = .returned (.tuple #[]) ∧ (∃ v', Idx base b m v' W (encs ++ [s]) (C ++ [c]) w') ∧ Below base w w' := by
  obtain ⟨VA, VC, rfl⟩ := h.own.form
  obtain ⟨D, hown, hpl⟩ := h.map
  have hw1 : (w.alloc (.cells (c.map (Value.int .u8)).toArray 85)).heap[w.heap.size]? = some (.cells (c.map (Value.int .u8)).toArray 85 (0, 0)) := heap_alloc_new _ _
  have HX := Lib.hid (h.below ((Below.refl _ _).alloc (Nat.le_refl _) (.cells (c.map (Value.int .u8)).toArray 85)))
  have kl := fun n => hash_load c hc.1 w.heap.size ((w.alloc (.cells (c.map (Value.int .u8)).toArray 85)).drewN n) hw1
  have kp := fun n => place_look (w := (w.alloc (.cells (c.map (Value.int .u8)).toArray 85)).drewN n) (hown.alloc _) hpl c hc
  rw [hi] at kp
  have h0 := h.c0
  have h1 := h.c1
  have h2 := h.c2
  have hf := h.f
  have hlt := h.lt
  have HI := Lib.hid hi
  have HC := Lib.hid hc
  have HH := Lib.hid h
  clear hi hc h hown hpl hw1
  unfold hashV at kl kp ⊢
  go_enter Tryd.func75, Tryd.ntmps75
  go_wp2_with fail
  refine wp_region_quiet_lit (by kernel_rfl) (by kernel_rfl) ?_
  iterate 4 (quiet_step (fail))
  refine wpQuiet_load rfl 85 _ rfl _ _ rfl (fun w' ⟨n, hn⟩ => by subst hn; exact kl n) ?_
  repeat (quiet_step (fail))
  refine wpQuiet_nil ?_
  intro _ hw'
  obtain ⟨nq, hw''⟩ := hw'
  subst hw''
  go_wp2_with fail
  obtain ⟨W1, hW1⟩ : ∃ W1, W1 = (w.alloc (.cells (c.map (Value.int .u8)).toArray 85)).drewN nq := ⟨_, rfl⟩
  have hX1 : Idx base b m (.slice VA encs.length VC) W encs C W1 := by rw [hW1]; exact HX.out.below (bdrewN (Below.refl _ _) nq)
  have hr1 : W1.heap[w.heap.size]? = some (.cells (c.map (Value.int .u8)).toArray 85 (0, 0)) := by rw [hW1]; exact heap_alloc_new _ _
  have hz1 : W1.heap.size = w.heap.size + 1 := by rw [hW1]; simp
  have hB1 : Below base w W1 := by rw [hW1]; exact bdrewN ((Below.refl _ _).alloc hbase _) nq
  rw [← hW1]
  clear kl kp h0 h1 h2 hf hW1 HX hlt
  have h0 := hX1.c0
  have h1 := hX1.c1
  have h2 := hX1.c2
  have hf := hX1.f
  have kl := hash_load c HC.out.1 w.heap.size W1.drew hr1
  have HX := Lib.hid hX1
  have HZ := Lib.hid hz1
  clear hX1 hz1
  go_still_tail 10, (by kernel_rfl)
  refine wpStill_load rfl 85 _ rfl _ (hashV c) rfl kl ?_
  repeat still_step
  try refine wpStill_nil ?_
  obtain ⟨D1, hm1, hp1⟩ := HX.out.map
  obtain ⟨kc, hkc⟩ := hash_key c HC.out
  have hm1' : W1.drew.ownsMap Tryd.prog 85 (plainElem Tryd.prog 3) m encs.length D1 := hm1
  have HM1 := Lib.hid hm1'
  have HP1 := Lib.hid hp1
  have HKC := Lib.hid hkc
  have HB1 := Lib.hid hB1
  clear hm1 hm1' hp1 hkc hB1 kl hr1 h0 h1 h2 hf
  change wpList _ _ _ _ _ W1.drew
  go_wp2_with (first | (at_mapUpdate; go_loud (refine wpList_mapUpdate_own _ rfl _ _ _ 108 rfl 85 3 hashLaw Tryd.underlying108 (plainElem Tryd.prog 3) m encs.length D1 rfl HM1.out (by unfold maxLen; omega) _ _ kc rfl rfl HKC.out (.lit (.int .i64 (encs.length : Int))) [] (plainElem_int Tryd.underlying3 (by go_wf)) ?_; intro w2 hm2 hg2; have HM2 := Lib.hid hm2; have HG2 := Lib.hid hg2; clear hm2 hg2; have HR2 := Lib.hid ((HG2.out.block b HX.out.lt (fun e => HX.out.nm (Option.some.inj e).symm)).trans HX.out.row); have hc2 := (cell_of_row _ _ 1 _ _ _ HR2.out).trans rfl; have hf2 := frozen_of_row _ _ 1 _ _ HR2.out; have HZ2 := Lib.hid (show W1.heap.size ≤ w2.heap.size from HG2.out.size); have HO2 := Lib.hid (HX.out.own.drew.grown HG2.out (fun k hk e => HX.out.vm (hk.trans e))); have HSRC := Lib.hid (src_one w2 22 9 9 Tryd.underlying22 (.string s) rfl); have HOWN := Lib.hid (HO2.out.alloc (.cells #[Value.string s] 9)); have HROW := Lib.hid ((heap_alloc_old w2 (.cells #[Value.string s] 9) (lt_of_block HR2.out)).trans HR2.out))) | (at_builtin; go_loud (refine wpList_app base rfl _ _ 22 22 rfl 9 (.string ⟨#[]⟩) 1 16 Tryd.underlying22 infoStr rfl rfl HOWN.out _ 1 [Value.string s] rfl HSRC.out (by unfold maxLen; omega) (by omega) (by have := HZ2.out; have := HZ.out; simp at this ⊢; omega) ?_; intro v' w' hown' hgrow hvv; obtain ⟨A', c', rfl⟩ := hown'.form; have HO' := Lib.hid hown'; have HG' := Lib.hid hgrow; have HV' := Lib.hid hvv; clear hown' hgrow hvv; have hs1 := (HH.out.slot HROW.out HG'.out).1; have hs2 := (HH.out.slot HROW.out HG'.out).2)))
  go_end0
  have hz2 := HZ2.out
  have hz := HZ.out
  have hmp : ∃ D : DataW Unit, (w2.alloc (.cells #[Value.string s] 9)).ownsMap Tryd.prog 85 (plainElem Tryd.prog 3) m (encs.length + 1) D ∧ PlaceIs (C ++ [c]) D := by
    refine ⟨_, HM2.out.alloc _, ?_⟩
    have := HP1.out.new HKC.out HI.out
    rw [HH.out.len] at this
    exact this
  refine ⟨rfl, ⟨_, HH.out.app HROW.out hmp HG'.out HO'.out HV'.out⟩, ?_⟩
  have h4 : Below base w w2 := (HB1.out.drew).grown HG2.out (by show base ≤ W1.heap.size; omega) (fun k hk => by cases hk; exact HH.out.hm)
  have h6 : Below base w (w2.alloc (.cells #[Value.string s] 9)) := h4.alloc (Nat.le_trans hbase h4.size) _
  have h5 : Below base w w' := h6.grown HG'.out (Nat.le_trans hbase h6.size) (fun k hk => (HH.out.own.lt k hk).1)
  exact h5.setCell HH.out.hb _
end Go.Proofs.YtmfejehhfmaodabDoor.Z
end
section
namespace Go.Proofs.YtmfejehhfmaodabDoor
open Go.RowKit
set_option linter.unusedVariables false
set_option linter.unusedSimpArgs false
def Rdr (b : Nat) (r : ByteArray) (bad : Bool) (w : World) : Prop := w.heap[b]? = some (.cells #[.string r, .bool bad] 141)
section
variable {b : Nat} {r : ByteArray} {bad : Bool} {w w1 : World}
theorem Rdr.c0 (h : Rdr b r bad w) : w.cell? ⟨b, 0, none⟩ = some (.string r) := by
  unfold Rdr at h
  simp [World.cell?, h]
theorem Rdr.c1 (h : Rdr b r bad w) : w.cell? ⟨b, 1, none⟩ = some (.bool bad) := by
  unfold Rdr at h
  simp [World.cell?, h]
theorem Rdr.f (h : Rdr b r bad w) (i : Nat) : w.frozen? ⟨b, i, none⟩ = false := by
  unfold Rdr at h
  simp [World.frozen?, h]
theorem Rdr.lt (h : Rdr b r bad w) : b < w.heap.size := by
  rcases Nat.lt_or_ge b w.heap.size with h' | h'
  · exact h'
  · unfold Rdr at h
    simp [Array.getElem?_eq_none h'] at h
theorem Rdr.set0 (h : Rdr b r bad w) (s : ByteArray) : Rdr b s bad (w.setCell ⟨b, 0, none⟩ (.string s)) := by
  have hl := h.lt
  unfold Rdr at h ⊢
  rw [Array.getElem?_eq_getElem hl] at h
  have h' := Option.some.inj h
  simp [World.setCell, hl, Array.getElem_modify, h']
theorem Rdr.set1 (h : Rdr b r bad w) (s : Bool) : Rdr b r s (w.setCell ⟨b, 1, none⟩ (.bool s)) := by
  have hl := h.lt
  unfold Rdr at h ⊢
  rw [Array.getElem?_eq_getElem hl] at h
  have h' := Option.some.inj h
  simp [World.setCell, hl, Array.getElem_modify, h']
theorem Rdr.below (h : Rdr b r bad w) (hb : Below w.heap.size w w1) : Rdr b r bad w1 := (hb.block b h.lt).trans h
theorem Rdr.grown (h : Rdr b r bad w) {row : Option Nat} (hb : w.grownBy w1 row) (hn : some b ≠ row) : Rdr b r bad w1 := (hb.block b h.lt hn).trans h
theorem Rdr.fresh (s : ByteArray) (w : World) : Rdr w.heap.size s false (w.alloc (.cells #[.string s, .bool false] 141)) := by
  show (w.heap.push _)[w.heap.size]? = _
  simp
end
def textR (r : ByteArray) (bad : Bool) (n : Int) : ByteArray × ByteArray × Bool :=
  if bad = true ∨ n < 0 ∨ (r.size : Int) < n then (⟨#[]⟩, r, true) else (r.extract 0 n.toNat, r.extract n.toNat r.size, false)
set_option maxHeartbeats 400000 in
theorem text_any (b : Nat) (r : ByteArray) (bad : Bool) (n : Int) (w : World) (h : Rdr b r bad w) :
    Calls Tryd.prog 106 #[.pointer (some ⟨b, 0, none⟩), .int .i64 n] w fun e w' => e = .returned (.string (textR r bad n).1) ∧ Rdr b (textR r bad n).2.1 (textR r bad n).2.2 w' ∧ w.grownBy w' (some b) := by
  have c0 := h.c0
  have c1 := h.c1
  have f0 := h.f 0
  have f1 := h.f 1
  have H := Lib.hid h; clear h
  by_cases hc : bad = true ∨ n < 0 ∨ (r.size : Int) < n
  · have ht : textR r bad n = (⟨#[]⟩, r, true) := by unfold textR; rw [if_pos hc]
    rw [ht]; clear ht
    by_cases hb : bad = true
    · subst hb
      go_enter Tryd.func106, Tryd.ntmps106
      go_wp2
      go_ret
      exact ⟨rfl, H.out.set1 true, Lib.grownBy_setCell _ _ _ _⟩
    · obtain rfl : bad = false := by simpa using hb
      by_cases hn : n < 0
      · go_enter Tryd.func106, Tryd.ntmps106
        go_wp2
        go_ret
        exact ⟨rfl, H.out.set1 true, Lib.grownBy_setCell _ _ _ _⟩
      · have hn2 : (r.size : Int) < n := by simp at hc; omega
        go_enter Tryd.func106, Tryd.ntmps106
        go_wp2
        go_ret
        exact ⟨rfl, H.out.set1 true, Lib.grownBy_setCell _ _ _ _⟩
  · have ht : textR r bad n = (r.extract 0 n.toNat, r.extract n.toNat r.size, false) := by unfold textR; rw [if_neg hc]
    rw [ht]; clear ht
    simp only [not_or, Bool.not_eq_true] at hc
    obtain ⟨rfl, hn0, hn1⟩ := hc
    have hn2 : 0 ≤ n := by omega
    have hn3 : n ≤ r.size := by omega
    have hn4 : ¬ (r.size : Int) < n := by omega
    go_enter Tryd.func106, Tryd.ntmps106
    go_wp2
    go_ret
    exact ⟨rfl, H.out.set0 _, Lib.grownBy_setCell _ _ _ _⟩
theorem or_join (x y : Nat) (hy : y < 256) : (x * 256) ||| y = x * 256 + y := by
  have h := Nat.shiftLeft_add_eq_or_of_lt (i := 8) hy x
  rw [Nat.shiftLeft_eq] at h
  exact h.symm
theorem or_vec (n a b : Nat) : (BitVec.ofInt n (a : Int) ||| BitVec.ofInt n (b : Int)).toNat = (a % 2 ^ n) ||| (b % 2 ^ n) := by
  rw [BitVec.toNat_or, BitVec.ofInt_natCast, BitVec.ofInt_natCast, BitVec.toNat_ofNat, BitVec.toNat_ofNat]
theorem wrap_u32 (n : Nat) (h : n < 4294967296) : IntKind.u32.wrap (n : Int) = n := by
  simp [IntKind.wrap, IntKind.bits, IntKind.signed]
  omega
theorem wrap_i64 (n : Nat) (h : n < 9223372036854775808) : IntKind.i64.wrap (n : Int) = n := by
  simp [IntKind.wrap, IntKind.bits, IntKind.signed]
  omega
theorem bitsOrU32 (x y : Nat) (hx : x < 16777216) (hy : y < 256) : bits .or .u32 ((x : Int) * 256) (y : Int) = ((x * 256 + y : Nat) : Int) := by
  have e : ((x : Int) * 256) = ((x * 256 : Nat) : Int) := by simp
  rw [e]
  show IntKind.u32.wrap (((BitVec.ofInt 32 ((x * 256 : Nat) : Int) ||| BitVec.ofInt 32 (y : Int)).toNat : Nat) : Int) = _
  rw [or_vec, Nat.mod_eq_of_lt (by omega), Nat.mod_eq_of_lt (by omega), or_join x y hy, wrap_u32 _ (by omega)]
theorem bitsOrI64 (x y : Nat) (hx : x < 16777216) (hy : y < 256) : bits .or .i64 ((x : Int) * 256) (y : Int) = ((x * 256 + y : Nat) : Int) := by
  have e : ((x : Int) * 256) = ((x * 256 : Nat) : Int) := by simp
  rw [e]
  show IntKind.i64.wrap (((BitVec.ofInt 64 ((x * 256 : Nat) : Int) ||| BitVec.ofInt 64 (y : Int)).toNat : Nat) : Int) = _
  rw [or_vec, Nat.mod_eq_of_lt (by omega), Nat.mod_eq_of_lt (by omega), or_join x y hy, wrap_i64 _ (by omega)]
def numV (l : List UInt8) : Nat := l.foldl (fun a b => a * 256 + b.toNat) 0
theorem numV_snoc (l : List UInt8) (b : UInt8) : numV (l ++ [b]) = numV l * 256 + b.toNat := by simp [numV]
theorem numV_lt (l : List UInt8) : numV l < 256 ^ l.length := by
  have gen : ∀ (l : List UInt8) (a n : Nat), a < 256 ^ n → l.foldl (fun a b => a * 256 + b.toNat) a < 256 ^ (n + l.length) := by
    intro l
    induction l with
    | nil => intro a n h; simpa using h
    | cons x r ih =>
      intro a n h
      have hx : x.toNat < 256 := x.toNat_lt
      have h2 := ih (a * 256 + x.toNat) (n + 1) (by rw [Nat.pow_succ]; omega)
      rw [List.foldl_cons, List.length_cons, show n + (r.length + 1) = n + 1 + r.length by omega]
      exact h2
  have h := gen l 0 0 (by decide)
  simpa [numV] using h
theorem numV_step (t : ByteArray) (m : Nat) (hm : m < t.size) (h2 : t.size ≤ 2) :
    numV (t.data.toList.take m) < 256 ∧ numV (t.data.toList.take (m + 1)) = numV (t.data.toList.take m) * 256 + (t.data[m]'hm).toNat := by
  constructor
  · have h := numV_lt (t.data.toList.take m)
    have hl : (t.data.toList.take m).length ≤ 1 := by rw [List.length_take]; omega
    have := Nat.pow_le_pow_right (n := 256) (by decide) hl
    omega
  · rw [List.take_succ_eq_append_getElem (by simpa using hm), numV_snoc]
    simp
theorem numU32_step (t : ByteArray) (m : Nat) (hm : m < t.size) (h2 : t.size ≤ 2) :
    bits .or .u32 ((numV (t.data.toList.take m) : Int) * 256 % 4294967296) (((t.data[m]'hm).toNat : Int) % 4294967296) = (numV (t.data.toList.take (m + 1)) : Int) := by
  obtain ⟨h1, h3⟩ := numV_step t m hm h2
  have h4 := (t.data[m]'hm).toNat_lt
  rw [Int.emod_eq_of_lt (by omega) (by omega), Int.emod_eq_of_lt (by omega) (by omega), bitsOrU32 _ _ (by omega) (by omega), h3]
set_option maxHeartbeats 1000000 in
theorem numFlag_any (b : Nat) (r : ByteArray) (bad : Bool) (k : Nat) (hk : k ≤ 2) (w : World) (h : Rdr b r bad w) :
    Calls Tryd.prog 105 #[.pointer (some ⟨b, 0, none⟩), .int .i64 k] w fun e w' => e = .returned (.int .u32 (numV (textR r bad k).1.data.toList)) ∧ Rdr b (textR r bad k).2.1 (textR r bad k).2.2 w' ∧ w.grownBy w' (some b) := by
  have hlt := h.lt
  have hsz : (textR r bad k).1.size ≤ 2 := by
    unfold textR
    split
    · exact Nat.zero_le _
    · simp; omega
  have H := Lib.hid h; clear h
  generalize ht : (textR r bad k).1 = t at hsz ⊢
  have HT := Lib.hid ht; clear ht
  go_enter Tryd.func105, Tryd.ntmps105
  go_wp2_with (first | (go_at_call 106; refine (text_any b r bad k _ H.out).mono ?_; rintro e wa ⟨rfl, hRa, hga⟩; rw [HT.out]; have hza := hga.size) | (((with_reducible refine gate_dst (N := 11) rfl ?_); refine wpList_bytes wa.heap.size rfl 9 113 5 _ rfl Tryd.underlying9 Tryd.underlying113 Tryd.underlying5 t rfl (by first | assumption | (simp; omega) | omega) (by unfold maxLen; omega) ?_; rintro v_wb wb ho_wb hv_wb hb_wb; obtain ⟨hc_wb, hf_wb⟩ := bcell hb_wb; have hz_wb := hb_wb.size; (try simp only [World.size_alloc, World.size_setCell, World.size_drew] at hz_wb); (try simp only [World.size_alloc, World.size_setCell, World.size_drew] at hc_wb); (try simp only [World.size_alloc, World.size_setCell, World.size_drew] at hf_wb); skip); obtain ⟨A, c, rfl⟩ := ho_wb.form))
  have HO := Lib.hid ho_wb; clear ho_wb
  have htl : t.data.toList.length = t.size := rfl
  have HTL := Lib.hid htl; clear htl
  go_loopw [5, 13] (fun v i wr => ∃ m : Nat, m ≤ t.size ∧ i = .int .i64 m ∧ v = .int .u32 (numV (t.data.toList.take m)) ∧ wr = wb) (fun _ i _ => t.size - (intOf i).toNat)
  case atStart => exact ⟨0, Nat.zero_le _, rfl, rfl, rfl⟩
  case round =>
    obtain ⟨m, hm, rfl, rfl, rfl⟩ := hrel
    by_cases hlt2 : m < t.size
    · obtain ⟨g, cap, hv, h1, h2, h3, hcell, hfr⟩ := (HO.out).at (by rw [HTL.out]; omega)
      cases hv
      have hc := hcell m (by rw [HTL.out]; omega)
      rw [bcs_get _ _ (by rw [HTL.out]; omega)] at hc
      clear hcell hfr
      go_wp2
      refine ⟨⟨m + 1, by omega, by go_num, ?_, trivial⟩, by simp [intOf]; omega⟩
      rw [numU32_step t m hlt2 hsz]
    · have hm2 : m = t.size := by omega
      subst hm2
      clear hlt2
      go_wp2
      go_ret
      refine ⟨?_, hRa.below hb_wb, Lib.grownBy_below hga hb_wb⟩
      rw [List.take_of_length_le (by rw [HTL.out]; omega)]
      rfl
theorem wrap64_small (n : Nat) (h : n < 9223372036854775808) : wrap64 (n : Int) = n := by unfold wrap64; omega
theorem numI64_step (t : ByteArray) (m : Nat) (hm : m < t.size) (h2 : t.size ≤ 2) :
    bits .or .i64 (wrap64 ((numV (t.data.toList.take m) : Int) * 256)) (wrap64 ((t.data[m]'hm).toNat : Int)) = (numV (t.data.toList.take (m + 1)) : Int) := by
  obtain ⟨h1, h3⟩ := numV_step t m hm h2
  have h4 := (t.data[m]'hm).toNat_lt
  rw [show ((numV (t.data.toList.take m) : Int) * 256) = ((numV (t.data.toList.take m) * 256 : Nat) : Int) by simp, wrap64_small _ (by omega), wrap64_small _ (by omega), Int.natCast_mul]
  rw [show ((256 : Nat) : Int) = 256 from rfl, bitsOrI64 _ _ (by omega) (by omega), h3]
set_option maxHeartbeats 1000000 in
theorem numInt_any (b : Nat) (r : ByteArray) (bad : Bool) (k : Nat) (hk : k ≤ 2) (w : World) (h : Rdr b r bad w) :
    Calls Tryd.prog 122 #[.pointer (some ⟨b, 0, none⟩), .int .i64 k] w fun e w' => e = .returned (.int .i64 (numV (textR r bad k).1.data.toList)) ∧ Rdr b (textR r bad k).2.1 (textR r bad k).2.2 w' ∧ w.grownBy w' (some b) := by
  have hlt := h.lt
  have hsz : (textR r bad k).1.size ≤ 2 := by
    unfold textR
    split
    · exact Nat.zero_le _
    · simp; omega
  have H := Lib.hid h; clear h
  generalize ht : (textR r bad k).1 = t at hsz ⊢
  have HT := Lib.hid ht; clear ht
  go_enter Tryd.func122, Tryd.ntmps122
  go_wp2_with (first | (go_at_call 106; refine (text_any b r bad k _ H.out).mono ?_; rintro e wa ⟨rfl, hRa, hga⟩; rw [HT.out]; have hza := hga.size) | (((with_reducible refine gate_dst (N := 11) rfl ?_); refine wpList_bytes wa.heap.size rfl 9 113 5 _ rfl Tryd.underlying9 Tryd.underlying113 Tryd.underlying5 t rfl (by first | assumption | (simp; omega) | omega) (by unfold maxLen; omega) ?_; rintro v_wb wb ho_wb hv_wb hb_wb; obtain ⟨hc_wb, hf_wb⟩ := bcell hb_wb; have hz_wb := hb_wb.size; (try simp only [World.size_alloc, World.size_setCell, World.size_drew] at hz_wb); (try simp only [World.size_alloc, World.size_setCell, World.size_drew] at hc_wb); (try simp only [World.size_alloc, World.size_setCell, World.size_drew] at hf_wb); skip); obtain ⟨A, c, rfl⟩ := ho_wb.form))
  have HO := Lib.hid ho_wb; clear ho_wb
  have htl : t.data.toList.length = t.size := rfl
  have HTL := Lib.hid htl; clear htl
  go_loopw [5, 13] (fun v i wr => ∃ m : Nat, m ≤ t.size ∧ i = .int .i64 m ∧ v = .int .i64 (numV (t.data.toList.take m)) ∧ wr = wb) (fun _ i _ => t.size - (intOf i).toNat)
  case atStart => exact ⟨0, Nat.zero_le _, rfl, rfl, rfl⟩
  case round =>
    obtain ⟨m, hm, rfl, rfl, rfl⟩ := hrel
    by_cases hlt2 : m < t.size
    · obtain ⟨g, cap, hv, h1, h2, h3, hcell, hfr⟩ := (HO.out).at (by rw [HTL.out]; omega)
      cases hv
      have hc := hcell m (by rw [HTL.out]; omega)
      rw [bcs_get _ _ (by rw [HTL.out]; omega)] at hc
      clear hcell hfr
      go_wp2
      refine ⟨⟨m + 1, by omega, by go_num, ?_, trivial⟩, by simp [intOf]; omega⟩
      rw [numI64_step t m hlt2 hsz]
    · have hm2 : m = t.size := by omega
      subst hm2
      clear hlt2
      go_wp2
      go_ret
      refine ⟨?_, hRa.below hb_wb, Lib.grownBy_below hga hb_wb⟩
      rw [List.take_of_length_le (by rw [HTL.out]; omega)]
      rfl
def sizedR (r : ByteArray) (bad : Bool) : ByteArray × ByteArray × Bool :=
  textR (textR r bad 2).2.1 (textR r bad 2).2.2 (numV (textR r bad 2).1.data.toList)
set_option maxHeartbeats 400000 in
theorem rsized_any (b : Nat) (r : ByteArray) (bad : Bool) (w : World) (h : Rdr b r bad w) :
    Calls Tryd.prog 104 #[.pointer (some ⟨b, 0, none⟩)] w fun e w' => e = .returned (.string (sizedR r bad).1) ∧ Rdr b (sizedR r bad).2.1 (sizedR r bad).2.2 w' ∧ w.grownBy w' (some b) := by
  have H := Lib.hid h; clear h
  go_enter Tryd.func104, Tryd.ntmps104
  go_wp2_with (first | (go_at_call 122; refine (numInt_any b r bad 2 (by omega) _ H.out).mono ?_; rintro e wa ⟨rfl, hRa, hga⟩) | (go_at_call 106; refine (text_any b _ _ _ _ hRa).mono ?_; rintro e wc ⟨rfl, hRc, hgc⟩))
  go_ret
  exact ⟨rfl, hRc, hga.trans hgc⟩
end Go.Proofs.YtmfejehhfmaodabDoor
end
