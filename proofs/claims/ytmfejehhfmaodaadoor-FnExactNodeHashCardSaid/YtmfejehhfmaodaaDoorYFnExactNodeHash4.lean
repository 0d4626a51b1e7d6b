/- Own texts, joined. -/
import Derived.Test.YtmfejehhfmaodaaDoorYFnExactNodeHash3
import Derived.Lib.Builder
import Derived.Lib.AppendStr
import Derived.Lib.UnsafeStr
import Derived.Lib.Walk
import Derived.Laws.Externs
import Derived.StillTailTactics
import Derived.Deep.RegionHeld3
import Derived.Test.YtmfejehhfmaodaaDoorYFnExactNodeHash0
import Derived.Lib.BufferOwn
import Derived.Lib.BufferWrite
import Derived.Laws.Rows
/- A strings.Builder of the call's own, alone in its block (of type T, which begins with a Builder). -/
section
namespace Go.Proofs.YtmfejehhfmaodaaDoor
open Go.RowKit
set_option linter.unusedVariables false
set_option linter.unusedSimpArgs false
/-- T is laid out as a Builder. -/
structure LiesB (T : TypeId) : Prop where
  lies : liesAt Tryd.prog Tryd.prog.depth T (2 / Tryd.prog.cellsOf T) 0 60 1 = true
  ne : T ≠ 5
theorem liesBuilder : LiesB 60 := ⟨by kernel_rfl, by decide⟩
theorem liesOwn : LiesB 62 := ⟨by kernel_rfl, by decide⟩
theorem sizeBuilder : (Tryd.prog.info? 60).map (·.size) = some 2 := by kernel_rfl
theorem infoU8' : (Tryd.prog.info? 5).map (fun i => (i.zero, i.size, i.bytes)) = some (some (.int .u8 0), 1, 1) := by kernel_rfl
/-- The builder in block b holds l. -/
def Bld (T : TypeId) (B b : Nat) (l : List UInt8) (w : World) : Prop := Lib.IsBuilder T 5 B b (bcs l) w
theorem Bld.fresh (T : TypeId) (w : World) : Bld T w.heap.size w.heap.size [] (w.alloc (.cells #[.pointer none, .slice none 0 0] T)) := Lib.fresh_isBuilder T 5 w
theorem Bld.keep {T : TypeId} {B b : Nat} {l : List UInt8} {w w1 : World} (h : Bld T B b l w) (hs : w.heap.size ≤ w1.heap.size) (hb : ∀ k, k < w.heap.size → w1.heap[k]? = w.heap[k]?) : Bld T B b l w1 := by
  have one : ∀ p, Lib.BuilderAt T 5 B b p (bcs l) w → Lib.BuilderAt T 5 B b p (bcs l) w1 := by
    rintro p ⟨hB, v, hbk, hown, hne⟩
    have hlt : b < w.heap.size := by
      rcases Nat.lt_or_ge b w.heap.size with h' | h'
      · exact h'
      · simp [Array.getElem?_eq_none h'] at hbk
    refine ⟨hB, v, (hb b hlt).trans hbk, ⟨hown.1, ?_⟩, hne⟩
    rcases hown.2 with h2 | ⟨g, cap, cur, hv, h1, h2, h3⟩
    · exact .inl h2
    · refine .inr ⟨g, cap, cur, hv, h1, (hb g ?_).trans h2, h3⟩
      rcases Nat.lt_or_ge g w.heap.size with h' | h'
      · exact h'
      · simp [Array.getElem?_eq_none h'] at h2
  rcases h with h | h
  · exact .inl (one _ h)
  · exact .inr (one _ h)
theorem Bld.below {T : TypeId} {B b : Nat} {l : List UInt8} {w w1 : World} (h : Bld T B b l w) (hb : Below w.heap.size w w1) : Bld T B b l w1 := h.keep hb.size fun k hk => hb.block k hk
theorem Bld.base {T : TypeId} {B b : Nat} {l : List UInt8} {w : World} (h : Bld T B b l w) : B ≤ b ∧ b < w.heap.size := by
  rcases h with h | h
  · exact ⟨h.1, h.lt⟩
  · exact ⟨h.1, h.lt⟩
set_option maxHeartbeats 1000000 in
theorem copyCheck_used (b : Nat) (w : World) (h0 : w.cell? ⟨b, 0, none⟩ = some (.pointer (some ⟨b, 0, none⟩))) :
    Calls Tryd.prog 48 #[.pointer (some ⟨b, 0, none⟩)] w fun e w' => e = .returned (.tuple #[]) ∧ w' = w := by
  obtain ⟨j, hj, _⟩ := Option.map_eq_some_iff.1 sizeBuilder
  go_enter Tryd.func48, Tryd.ntmps48
  go_wp2
  rw [Lib.run_neq_ptr_same w _ Tryd.underlying58 hj]
  go_wp2
  go_end0
  exact ⟨rfl, rfl⟩
set_option maxHeartbeats 1000000 in
theorem copyCheck_fresh (T : TypeId) (hT : LiesB T) (b : Nat) (w : World) (h0 : w.cell? ⟨b, 0, none⟩ = some (.pointer none)) (hsh : w.shape? b = some (T, 2)) (hfz : w.frozen? ⟨b, 0, none⟩ = false) :
    Calls Tryd.prog 48 #[.pointer (some ⟨b, 0, none⟩)] w fun e w' => e = .returned (.tuple #[]) ∧ w' = w.setCell ⟨b, 0, none⟩ (.pointer (some ⟨b, 0, none⟩)) := by
  obtain ⟨j, hj, hjs⟩ := Option.map_eq_some_iff.1 sizeBuilder
  go_enter Tryd.func48, Tryd.ntmps48
  go_wp2
  rw [Lib.run_to_unsafe w ⟨b, 0, none⟩ Tryd.underlying58 Tryd.underlying78 hj (by rw [hjs]; decide) hsh (Nat.zero_lt_succ 1)]
  simp only [Result.andThen]
  rw [Oper.upon_value]
  go_wp2
  rw [run_callFunc_extern Tryd.func50 (by kernel_rfl) (by kernel_rfl) (by kernel_rfl) (e := Extern.AbiNoEscape.same) (by kernel_rfl)]
  rw [Lib.run_noEscape]
  simp only [Result.andThen]
  rw [Oper.upon_value]
  go_wp2
  rw [Lib.run_from_unsafe w ⟨b, 0, none⟩ Tryd.underlying78 Tryd.underlying58 hj hsh hT.lies]
  simp only [Result.andThen]
  rw [Oper.upon_value]
  go_wp2
  go_end0
  exact ⟨rfl, rfl⟩
theorem copyCheck_any (T : TypeId) (hT : LiesB T) (B b : Nat) (bs : List Value) (w : World) (h : Lib.IsBuilder T 5 B b bs w) :
    Calls Tryd.prog 48 #[.pointer (some ⟨b, 0, none⟩)] w fun e w' => e = .returned (.tuple #[]) ∧ (Lib.BuilderAt T 5 B b (.pointer (some ⟨b, 0, none⟩)) bs w' ∧ Below B w w') := by
  rcases h with h | h
  · refine (copyCheck_fresh T hT b w h.cell0 h.shape h.frozen0).mono ?_
    rintro e w' ⟨rfl, rfl⟩
    exact ⟨rfl, h.used _, (Below.refl B w).setCell (p := ⟨b, 0, none⟩) h.1 _⟩
  · refine (copyCheck_used b w h.cell0).mono ?_
    rintro e w' ⟨rfl, rfl⟩
    exact ⟨rfl, h, Below.refl B _⟩
theorem bcs_snoc (l : List UInt8) (c : UInt8) : bcs (l ++ [c]) = bcs l ++ [.int .u8 c.toNat] := by simp [bcs]
set_option maxHeartbeats 2000000 in
theorem writeByte_any (T : TypeId) (hT : LiesB T) (B b : Nat) (l : List UInt8) (c : UInt8) (x : Int) (hx : x = c.toNat) (w : World) (h : Bld T B b l w) (hlen : l.length + 1 ≤ 140737488355328) (hBw : B ≤ w.heap.size) :
    Calls Tryd.prog 45 #[.pointer (some ⟨b, 0, none⟩), .int .u8 x] w fun e w' => e = .returned .nilIface ∧ Bld T B b (l ++ [c]) w' ∧ Below B w w' := by
  subst hx
  obtain ⟨i0, hi, hz0, hz1, hz2⟩ := info_parts infoU8'
  go_enter Tryd.func45, Tryd.ntmps45
  go_wp2_with (go_at_call 48; refine (copyCheck_any T hT B b _ _ h).mono ?_)
  rintro e w1 ⟨rfl, h1, hb1⟩
  obtain ⟨hB, v, hbk, hown, hne⟩ := h1
  have c0 : w1.cell? ⟨b, 0, none⟩ = some (.pointer (some ⟨b, 0, none⟩)) := by rw [Lib.cell_of_heap hbk]; rfl
  have c1 : w1.cell? ⟨b, 1, none⟩ = some v := by rw [Lib.cell_of_heap hbk]; rfl
  go_wp2_with (at_builtin; refine wpList_append_own _ rfl _ _ 37 rfl B 5 i0 (.int .u8 0) 1 1 Tryd.underlying37 hi hz0 hz1 hz2 rfl (by decide) _ _ _ rfl (hown.alloc _) ⟨w1.heap.size, 0, none⟩ 1 1 [.int .u8 c.toNat] rfl rfl ?c1 ?c2 ?c3 ?c4 ?c5 ?_)
  case c1 =>
    intro j u hj
    match j, hj with
    | 0, hj => simp at hj; subst hj; simp [Addr.add]
  case c2 => intro u hu; simp at hu; subst hu; rfl
  case c3 => rw [bcs_length]; unfold maxLen; omega
  case c4 => rw [bcs_length]; omega
  case c5 => have := hb1.size; simp; omega
  intro v' w2 hown' hgrow _
  have hlt : b < w1.heap.size := by
    rcases Nat.lt_or_ge b w1.heap.size with h' | h'
    · exact h'
    · simp [Array.getElem?_eq_none h'] at hbk
  have hb2 : w2.heap[b]? = some (.cells #[.pointer (some ⟨b, 0, none⟩), v] T (0, 0)) := by
    rw [hgrow.block b (by simp; omega) (fun e => hne e.symm), Lib.alloc_old w1 _ b hlt]
    exact hbk
  have d0 : w2.cell? ⟨b, 0, none⟩ = some (.pointer (some ⟨b, 0, none⟩)) := by rw [Lib.cell_of_heap hb2]; rfl
  have d1 : w2.cell? ⟨b, 1, none⟩ = some v := by rw [Lib.cell_of_heap hb2]; rfl
  have f1 : w2.frozen? ⟨b, 1, none⟩ = false := Lib.frozen_of_heap hb2 1
  obtain ⟨g, cap, rfl⟩ : ∃ g cap, v' = .slice (some ⟨g, 0, none⟩) ((bcs l).length + 1) cap := by
    rcases hown'.2 with ⟨_, h0⟩ | ⟨g, cap, cur, hv, _⟩
    · omega
    · exact ⟨g, cap, hv⟩
  go_wp2
  go_ret
  refine ⟨rfl, ?_, ?_⟩
  · rw [Bld, bcs_snoc]
    exact .inr (Lib.BuilderAt.put (T := T) (e := 5) hB hb2 (bs' := bcs l ++ [.int .u8 c.toNat]) (by simpa using hown') hT.ne)
  · exact ((hb1.alloc (by have := hb1.size; omega) _).grown hgrow (by have := hb1.size; simp; omega) (fun k hk => (hown.lt k hk).1)).setCell (p := ⟨b, 1, none⟩) hB _
set_option maxHeartbeats 2000000 in
theorem writeString_any (T : TypeId) (hT : LiesB T) (B b : Nat) (l : List UInt8) (s : ByteArray) (w : World) (h : Bld T B b l w) (hlen : l.length + s.size ≤ 140737488355328) (hBw : B ≤ w.heap.size) :
    Calls Tryd.prog 46 #[.pointer (some ⟨b, 0, none⟩), .string s] w fun e w' => e = .returned (.tuple #[.int .i64 s.size, .nilIface]) ∧ Bld T B b (l ++ s.data.toList) w' ∧ Below B w w' := by
  obtain ⟨i0, hi, hz0, hz1, hz2⟩ := info_parts infoU8'
  go_enter Tryd.func46, Tryd.ntmps46
  go_wp2_with (go_at_call 48; refine (copyCheck_any T hT B b _ _ h).mono ?_)
  rintro e w1 ⟨rfl, h1, hb1⟩
  obtain ⟨hB, v, hbk, hown, hne⟩ := h1
  have c0 : w1.cell? ⟨b, 0, none⟩ = some (.pointer (some ⟨b, 0, none⟩)) := by rw [Lib.cell_of_heap hbk]; rfl
  have c1 : w1.cell? ⟨b, 1, none⟩ = some v := by rw [Lib.cell_of_heap hbk]; rfl
  go_wp2_with (at_builtin; refine Lib.wpList_append_own_string _ rfl _ _ 37 9 rfl B 5 i0 Tryd.underlying37 Tryd.underlying9 hi hz0 hz1 hz2 _ _ _ rfl hown s rfl ?c3 ?c4 ?c5 ?_)
  case c3 => rw [bcs_length]; unfold maxLen; omega
  case c4 => rw [bcs_length]; omega
  case c5 => have := hb1.size; omega
  intro v' w2 hown' hgrow _
  have hlt : b < w1.heap.size := by
    rcases Nat.lt_or_ge b w1.heap.size with h' | h'
    · exact h'
    · simp [Array.getElem?_eq_none h'] at hbk
  have hb2 : w2.heap[b]? = some (.cells #[.pointer (some ⟨b, 0, none⟩), v] T (0, 0)) := by
    rw [hgrow.block b hlt (fun e => hne e.symm)]
    exact hbk
  have d0 : w2.cell? ⟨b, 0, none⟩ = some (.pointer (some ⟨b, 0, none⟩)) := by rw [Lib.cell_of_heap hb2]; rfl
  have d1 : w2.cell? ⟨b, 1, none⟩ = some v := by rw [Lib.cell_of_heap hb2]; rfl
  have f1 : w2.frozen? ⟨b, 1, none⟩ = false := Lib.frozen_of_heap hb2 1
  obtain ⟨ao, n', cap, rfl⟩ : ∃ ao n' cap, v' = .slice ao n' cap := by
    rcases hown'.2 with ⟨hv, _⟩ | ⟨g, cap, cur, hv, _⟩
    · exact ⟨_, _, _, hv⟩
    · exact ⟨_, _, _, hv⟩
  go_wp2
  go_ret2
  have hcs : Lib.strCells s = bcs s.data.toList := rfl
  refine ⟨rfl, ?_, ?_⟩
  · rw [Bld, bcs_append, ← hcs]
    exact .inr (Lib.BuilderAt.put (T := T) (e := 5) hB hb2 (bs' := bcs l ++ Lib.strCells s) (by simpa [Lib.strCells_length] using hown') hT.ne)
  · exact (hb1.grown hgrow (by have := hb1.size; omega) (fun k hk => (hown.lt k hk).1)).setCell (p := ⟨b, 1, none⟩) hB _
set_option maxHeartbeats 1000000 in
/-- 'b.String()', of a builder that holds a byte. -/
theorem string_any (T : TypeId) (B b : Nat) (l : List UInt8) (w : World) (h : Bld T B b l w) (h0 : l ≠ []) :
    Calls Tryd.prog 41 #[.pointer (some ⟨b, 0, none⟩)] w fun e w' => e = .returned (.string ⟨l.toArray⟩) ∧ Below B w w' := by
  obtain ⟨p, hB, v, hbk, hown, hne⟩ : ∃ p, Lib.BuilderAt T 5 B b p (bcs l) w := by
    rcases h with h | h
    · exact ⟨_, h⟩
    · exact ⟨_, h⟩
  have hl0 : l.length ≠ 0 := by simpa using h0
  rw [bcs_length] at hown
  obtain ⟨g, cap, cur, rfl, hbg, hg, hnc, hcm, hcs, htake⟩ : ∃ g cap cur, v = .slice (some ⟨g, 0, none⟩) l.length cap ∧ B ≤ g ∧ w.heap[g]? = some (.cells cur 5 (0, 0)) ∧ l.length ≤ cap ∧ cap ≤ maxLen ∧ cur.size = cap * 1 ∧ cur.toList.take (l.length * 1) = bcs l := by
    rcases hown.2 with ⟨_, hz⟩ | ⟨g, cap, cur, hv, r⟩
    · exact absurd hz hl0
    · exact ⟨g, cap, cur, hv, r⟩
  have c1 : w.drew.cell? ⟨b, 1, none⟩ = some (.slice (some ⟨g, 0, none⟩) l.length cap) := by
    have : w.drew.heap[b]? = some (.cells #[p, .slice (some ⟨g, 0, none⟩) l.length cap] T (0, 0)) := hbk
    rw [Lib.cell_of_heap this]; rfl
  have hSD : (Builtin.unsafeSliceData_ #[37] 76 #[.slice (some ⟨g, 0, none⟩) l.length cap]).run Tryd.prog w.drew = .ok (.pointer (some ⟨g, 0, none⟩)) w.drew :=
    Lib.run_unsafeSliceData_row _ _ _ _ _ _ (by omega)
  have hUS : (Builtin.unsafeString_ #[76, 3] 9 #[.pointer (some ⟨g, 0, none⟩), .int .i64 l.length]).run Tryd.prog w.drew = .ok (.string ⟨l.toArray⟩) (w.drew.freeze ⟨g, 0, none⟩ l.length) := by
    refine Lib.run_unsafeString_row w.drew 76 3 9 5 Tryd.underlying76 (by kernel_rfl) g cur.size (by have hg' : w.drew.heap[g]? = some (.cells cur 5 (0, 0)) := hg; simp [World.shape?, hg']) l h0 (by omega) (by unfold maxLen at hcm; omega) ?_
    intro j x hx
    have := hown.cells (g := g) rfl j (.int .u8 x.toNat) (by simp [bcs, hx])
    exact this
  have hbf : Below B w (w.drew.freeze ⟨g, 0, none⟩ l.length) := Lib.below_freeze (Below.drew (Below.refl B w)) (p := ⟨g, 0, none⟩) hbg _
  go_enter Tryd.func41, Tryd.ntmps41
  go_wp2
  go_region
  all_goals (go_wp2; go_ret; exact ⟨rfl, hbf⟩)
end Go.Proofs.YtmfejehhfmaodaaDoor

end

/- The program's builder of encodings. -/
section
namespace Go.Proofs.YtmfejehhfmaodaaDoor
open Go.RowKit
set_option linter.unusedVariables false
set_option linter.unusedSimpArgs false
set_option maxHeartbeats 400000 in
theorem btext_any (B b : Nat) (l : List UInt8) (s : ByteArray) (w : World) (h : Bld 62 B b l w) (hlen : l.length + s.size ≤ 140737488355328) (hBw : B ≤ w.heap.size) :
    Calls Tryd.prog 40 #[.pointer (some ⟨b, 0, none⟩), .string s] w fun e w' => e = .returned (.pointer (some ⟨b, 0, none⟩)) ∧ Bld 62 B b (l ++ s.data.toList) w' ∧ Below B w w' := by
  obtain ⟨c0, hc0⟩ : ∃ v, w.cell? ⟨b, 0, none⟩ = some v := by rcases h with h | h <;> exact ⟨_, h.cell0⟩
  have H := Lib.hid h
  go_enter Tryd.func40, Tryd.ntmps40
  go_wp2_with (go_at_call 46; refine (writeString_any 62 liesOwn B b l s _ H.out hlen hBw).mono ?_; rintro e w1 ⟨rfl, h1, hb1⟩)
  go_ret
  exact ⟨rfl, h1, hb1⟩
/-- Byte i of a number of k bytes. -/
def numByte (n k : Nat) (low : Bool) (i : Nat) : UInt8 := UInt8.ofNat (n / 2 ^ (8 * (if low then i else k - 1 - i)))
def numL (n k : Nat) (low : Bool) (m : Nat) : List UInt8 := (List.range m).map (numByte n k low)
theorem numL_succ (n k : Nat) (low : Bool) (m : Nat) : numL n k low (m + 1) = numL n k low m ++ [numByte n k low m] := by simp [numL, List.range_succ]
theorem numL_length (n k : Nat) (low : Bool) (m : Nat) : (numL n k low m).length = m := by simp [numL]
theorem div_cast (n e : Nat) : (n : Int) / 2 ^ e = ((n / 2 ^ e : Nat) : Int) := by
  rw [Int.natCast_ediv, Int.natCast_pow]; rfl
theorem ofNat_cast (q : Nat) : ((q : Nat) : Int) % 256 = ((UInt8.ofNat q).toNat : Int) := by
  rw [UInt8.toNat_ofNat']; omega
theorem numByte_low (n k m : Nat) : (n : Int) / 2 ^ (8 * m) % 256 = (numByte n k true m).toNat := by
  rw [div_cast, ofNat_cast]; rfl
theorem numByte_high (n k m : Nat) : (n : Int) / 2 ^ (8 * (k - 1 - m)) % 256 = (numByte n k false m).toNat := by
  rw [div_cast, ofNat_cast]; rfl
set_option maxHeartbeats 1000000 in
theorem bnumber_any (B b : Nat) (l : List UInt8) (n k : Nat) (low : Bool) (w : World) (h : Bld 62 B b l w) (hn : n ≤ 4294967296) (hk : k ≤ 4) (hlen : l.length ≤ 4294967296) (hBw : B ≤ w.heap.size) :
    Calls Tryd.prog 39 #[.pointer (some ⟨b, 0, none⟩), .int .i64 n, .int .i64 k, .bool low] w fun e w' => e = .returned (.pointer (some ⟨b, 0, none⟩)) ∧ Bld 62 B b (l ++ numL n k low k) w' ∧ Below B w w' := by
  have H := Lib.hid h; clear h
  go_enter Tryd.func39, Tryd.ntmps39
  go_wp2
  go_loopw [12] (fun i wr => ∃ m : Nat, m ≤ k ∧ i = .int .i64 m ∧ Bld 62 B b (l ++ numL n k low m) wr ∧ Below B w wr) (fun i _ => k - (intOf i).toNat)
  case atStart => exact ⟨0, Nat.zero_le _, rfl, by simpa [numL] using H.out, Below.refl _ _⟩
  case round =>
    obtain ⟨m, hm, rfl, h2, hB⟩ := hrel
    obtain ⟨c0, hc0⟩ : ∃ v, wr.cell? ⟨b, 0, none⟩ = some v := by rcases h2 with h | h <;> exact ⟨_, h.cell0⟩
    have H2 := Lib.hid h2; clear h2
    by_cases hlt : m < k
    · cases low
      all_goals
        go_wp2
        go_still_tail 7, (by kernel_rfl)
        change wpList _ _ _ _ _ wr.drew
        go_wp2_with (go_at_call 45; refine (writeByte_any 62 liesOwn B b _ _ _ (by first | exact numByte_low n k m | exact numByte_high n k m) _ (H2.out.below (Below.refl _ _).drew) (by rw [List.length_append, numL_length]; omega) (by have := hB.size; exact Nat.le_trans hBw this)).mono ?_; rintro e w1 ⟨rfl, h1, hb1⟩)
        go_roundw
        case rel => exact ⟨m + 1, by omega, by go_num, by rw [numL_succ, ← List.append_assoc]; exact h1, hB.trans ((Below.refl _ _).drew.trans hb1)⟩
        case measure => simp [intOf]; omega
    · go_wp2
      go_ret
      have e : m = k := by omega
      subst e
      exact ⟨rfl, H2.out, hB⟩
/-- A text with its size ahead. -/
def sizedL (s : ByteArray) : List UInt8 := numL s.size 2 false 2 ++ s.data.toList
set_option maxHeartbeats 400000 in
theorem bsized_any (B b : Nat) (l : List UInt8) (s : ByteArray) (w : World) (h : Bld 62 B b l w) (hs : s.size ≤ 4294967296) (hlen : l.length ≤ 4294967296) (hBw : B ≤ w.heap.size) :
    Calls Tryd.prog 38 #[.pointer (some ⟨b, 0, none⟩), .string s] w fun e w' => e = .returned (.pointer (some ⟨b, 0, none⟩)) ∧ Bld 62 B b (l ++ sizedL s) w' ∧ Below B w w' := by
  have H := Lib.hid h; clear h
  go_enter Tryd.func38, Tryd.ntmps38
  go_wp2_with (go_at_call 39; refine (bnumber_any B b l s.size 2 false _ H.out hs (by omega) hlen hBw).mono ?_; rintro e w1 ⟨rfl, h1, hb1⟩; have hz1 := hb1.size; have H1 := Lib.hid h1; clear h1)
  refine (btext_any B b _ s _ H1.out (by rw [List.length_append, numL_length]; omega) (by omega)).mono ?_
  rintro e w2 ⟨rfl, h2, hb2⟩
  go_wp2
  go_ret
  exact ⟨rfl, by rw [sizedL, ← List.append_assoc]; exact h2, hb1.trans hb2⟩
end Go.Proofs.YtmfejehhfmaodaaDoor

end

/- Encodings of nodes: what the functions give. -/
section
namespace Go.Proofs.YtmfejehhfmaodaaDoor
open Go.RowKit
set_option linter.unusedVariables false
set_option linter.unusedSimpArgs false
def isW (w : Int) : Bool := decide (1 ≤ w) && decide (w ≤ 32)
def hOk (h : ByteArray) (w : Int) : Bool := decide (h.size = 0) || decide ((h.size : Int) = w)
def nodeOk (k v l r : ByteArray) (w : Int) : Bool := isW w && decide (1 ≤ k.size) && decide (k.size ≤ 256) && decide (v.size ≤ 2000) && hOk l w && hOk r w
def byteS (x : Int) : ByteArray := ⟨#[UInt8.ofNat x.toNat]⟩
theorem byteS_size (x : Int) : (byteS x).size = 1 := rfl
def sizedS (s : ByteArray) : ByteArray := byteS (s.size / 256) ++ byteS (s.size % 256) ++ s
theorem sizedS_size (s : ByteArray) : (sizedS s).size = 2 + s.size := by simp [sizedS, byteS_size]
def flagsOf (l r : ByteArray) : Int := (if l.size = 0 then 0 else 1) + (if r.size = 0 then 0 else 2)
def encNode (k v l r : ByteArray) (w : Int) : ByteArray := if nodeOk k v l r w = true then sizedS k ++ sizedS v ++ byteS (flagsOf l r) ++ l ++ r else ⟨#[]⟩
set_option maxHeartbeats 400000 in
theorem isWidth_any (x : Int) (w : World) : Calls Tryd.prog 23 #[.int .i64 x] w fun e w' => e = .returned (.bool (isW x)) ∧ w = w' := by
  go_enter Tryd.func23, Tryd.ntmps23
  go_wp2
  all_goals
    go_ret
    refine ⟨ret_bool ?_, rfl⟩
    go_light
    unfold isW
    grind
set_option maxHeartbeats 400000 in
theorem l1Width_any (x : Int) (w : World) : Calls Tryd.prog 22 #[.int .i64 x] w fun e w' => e = .returned (.bool (isW x)) ∧ w = w' := by
  go_enter Tryd.func22, Tryd.ntmps22
  go_wp2
  all_goals
    go_ret
    refine ⟨ret_bool ?_, rfl⟩
    go_light
    unfold isW
    grind
theorem size_zero (s : ByteArray) : s = ByteArray.empty ↔ s.size = 0 := by
  constructor
  · intro h; rw [h]; rfl
  · intro h; exact ByteArray.ext (Array.size_eq_zero_iff.mp h)
set_option maxHeartbeats 400000 in
theorem l2HashOk_any (h : ByteArray) (x : Int) (w : World) : Calls Tryd.prog 43 #[.string h, .int .i64 x] w fun e w' => e = .returned (.bool (hOk h x)) ∧ w = w' := by
  go_enter Tryd.func43, Tryd.ntmps43
  go_wp2
  all_goals
    go_ret
    refine ⟨ret_bool ?_, rfl⟩
    go_light
    have := size_zero h
    unfold hOk
    grind
theorem byte1_str (w : World) (y : Int) (T : TypeId) (g c : Nat) (hg : g = w.heap.size) :
    (convert 37 9 (.slice (some ⟨g, 0, none⟩) 1 c)).run Tryd.prog (w.alloc (.cells #[.int .u8 y] T)) = .ok (.string ⟨#[UInt8.ofNat y.toNat]⟩) (w.alloc (.cells #[.int .u8 y] T)) := by
  subst hg
  have h := run_convert_bytes_arg (P := Tryd.prog) (w.alloc (.cells #[.int .u8 y] T)) 37 5 Tryd.underlying37 Tryd.underlying5 w.heap.size 0 1 c [y] rfl (fun i hi => by
    obtain rfl : i = 0 := by omega
    rw [World.cell?_alloc_new w _ _ (0 + 0)]; rfl) 9 Tryd.underlying9
  exact h
theorem byteS_mod (x : Int) (h : 0 ≤ x) : (⟨#[UInt8.ofNat (x % 256).toNat]⟩ : ByteArray) = byteS x := by
  unfold byteS
  congr 3
  apply UInt8.toNat_inj.mp
  rw [UInt8.toNat_ofNat', UInt8.toNat_ofNat']; omega
set_option maxHeartbeats 400000 in
theorem l2Byte_any (x : Int) (hx : 0 ≤ x) (w : World) : Calls Tryd.prog 36 #[.int .i64 x] w fun e w' => e = .returned (.string (byteS x)) ∧ Below w.heap.size w w' := by
  go_enter Tryd.func36, Tryd.ntmps36
  go_wp2_with ((with_reducible refine gate_dst (N := 6) rfl ?_); refine wpList_convert rfl 37 9 _ rfl rfl (byte1_str _ _ _ _ _ rfl) ?_)
  go_ret
  refine ⟨ret_str ?_, by (repeat' (first | exact Below.refl _ _ | (with_reducible assumption) | (with_reducible refine Below.setCell ?_ (by first | (simp; done) | (simp; omega)) _) | refine below_then ?_ (by assumption) | (with_reducible refine below_new2 ?_ _) | (with_reducible refine Below.drew ?_) | (with_reducible refine bdrewN ?_ _)))⟩
  exact byteS_mod x hx
set_option maxHeartbeats 400000 in
theorem l2Sized_any (s : ByteArray) (hs : s.size ≤ 4294967296) (w : World) : Calls Tryd.prog 35 #[.string s] w fun e w' => e = .returned (.string (sizedS s)) ∧ Below w.heap.size w w' := by
  have z1 : (byteS (s.size / 256)).size + (byteS (s.size % 256)).size ≤ 9223372036854775807 := by rw [byteS_size, byteS_size]; omega
  have z2 : (byteS (s.size / 256)).size + (byteS (s.size % 256)).size + s.size ≤ 9223372036854775807 := by rw [byteS_size, byteS_size]; omega
  go_enter Tryd.func35, Tryd.ntmps35
  go_wp2_with fail
  (go_at_call 36; refine (l2Byte_any _ (by omega) _).mono ?_; rintro e wa ⟨rfl, hb_wa⟩; obtain ⟨hc_wa, hf_wa⟩ := bcell hb_wa; have hz_wa := hb_wa.size; (try simp only [World.size_alloc, World.size_setCell, World.size_drew] at hz_wa); (try simp only [World.size_alloc, World.size_setCell, World.size_drew] at hc_wa); (try simp only [World.size_alloc, World.size_setCell, World.size_drew] at hf_wa); skip)
  go_wp2_with fail
  (go_at_call 36; refine (l2Byte_any _ (by omega) _).mono ?_; rintro e wb ⟨rfl, hb_wb⟩; obtain ⟨hc_wb, hf_wb⟩ := bcell hb_wb; have hz_wb := hb_wb.size; (try simp only [World.size_alloc, World.size_setCell, World.size_drew] at hz_wb); (try simp only [World.size_alloc, World.size_setCell, World.size_drew] at hc_wb); (try simp only [World.size_alloc, World.size_setCell, World.size_drew] at hf_wb); skip)
  go_wp2
  go_ret
  exact ⟨rfl, by (repeat' (first | exact Below.refl _ _ | (with_reducible assumption) | (with_reducible refine Below.setCell ?_ (by first | (simp; done) | (simp; omega)) _) | refine below_then ?_ (by assumption) | (with_reducible refine below_new2 ?_ _) | (with_reducible refine Below.drew ?_) | (with_reducible refine bdrewN ?_ _)))⟩
def szNode (a b c d : ByteArray) (left : Int) : Int :=
  if wrap64 (left - a.size) < 0 then -1 else if wrap64 (wrap64 (left - a.size) - b.size) < 0 then -1 else if wrap64 (wrap64 (wrap64 (left - a.size) - b.size) - c.size) < 0 then -1 else
  if wrap64 (wrap64 (wrap64 (wrap64 (left - a.size) - b.size) - c.size) - d.size) < 0 then -1 else wrap64 (wrap64 (wrap64 (wrap64 (left - a.size) - b.size) - c.size) - d.size)
set_option maxHeartbeats 400000 in
theorem szNode_any (a b c d : ByteArray) (left : Int) (w : World) :
    Calls Tryd.prog 13 #[.agg #[.string a, .string b, .string c, .string d], .int .i64 left] w fun e w' => e = .returned (.int .i64 (szNode a b c d left)) ∧ Below w.heap.size w w' := by
  go_enter Tryd.func13, Tryd.ntmps13
  go_wp2
  all_goals
    go_ret
    refine ⟨ret_int ?_, by (repeat' (first | exact Below.refl _ _ | (with_reducible assumption) | (with_reducible refine Below.setCell ?_ (by first | (simp; done) | (simp; omega)) _) | refine below_then ?_ (by assumption) | (with_reducible refine below_new2 ?_ _) | (with_reducible refine Below.drew ?_) | (with_reducible refine bdrewN ?_ _)))⟩
    go_light
    unfold szNode
    grind
theorem szNode_bound {a b c d : ByteArray} {left : Int} (h1 : a.size ≤ maxLen) (h2 : b.size ≤ maxLen) (h3 : c.size ≤ maxLen) (h4 : d.size ≤ maxLen) (h0 : 0 ≤ left) (hl : left ≤ 4294967296) (h : ¬ szNode a b c d left < 0) : (a.size : Int) + b.size + c.size + d.size ≤ left := by
  unfold maxLen at *
  unfold szNode wrap64 at h
  split at h
  · omega
  · split at h
    · omega
    · split at h
      · omega
      · split at h <;> omega
set_option maxHeartbeats 400000 in
theorem toNode_any (a b c d : ByteArray) (w : World) :
    Calls Tryd.prog 15 #[.agg #[.string a, .string b, .string c, .string d]] w fun e w' => e = .returned (.agg #[.string a, .string b, .string c, .string d]) ∧ Below w.heap.size w w' := by
  go_enter Tryd.func15, Tryd.ntmps15
  go_wp2
  refine bodyPost_ret (v := .agg #[.string a, .string b, .string c, .string d]) (by simp [results, Tryd.results15, go_sem]; try rfl) rfl ⟨rfl, by (repeat' (first | exact Below.refl _ _ | (with_reducible assumption) | (with_reducible refine Below.setCell ?_ (by first | (simp; done) | (simp; omega)) _) | refine below_then ?_ (by assumption) | (with_reducible refine below_new2 ?_ _) | (with_reducible refine Below.drew ?_) | (with_reducible refine bdrewN ?_ _)))⟩
set_option maxHeartbeats 400000 in
theorem l2NodeOk_any (a b c d : ByteArray) (x : Int) (w : World) :
    Calls Tryd.prog 34 #[.agg #[.string a, .string b, .string c, .string d], .int .i64 x] w fun e w' => e = .returned (.bool (nodeOk a b c d x)) ∧ Below w.heap.size w w' := by
  unfold nodeOk
  by_cases hw : isW x = true
  · by_cases h2 : hOk c x = true
    all_goals
      go_enter Tryd.func34, Tryd.ntmps34
      go_wp2_with (first | (go_at_call 22; refine (l1Width_any _ _).mono ?_; rintro e wq ⟨rfl, rfl⟩) | (go_at_call 43; refine (l2HashOk_any _ _ _).mono ?_; rintro e wq ⟨rfl, rfl⟩))
      all_goals
        go_ret
        refine ⟨ret_bool ?_, by (repeat' (first | exact Below.refl _ _ | (with_reducible assumption) | (with_reducible refine Below.setCell ?_ (by first | (simp; done) | (simp; omega)) _) | refine below_then ?_ (by assumption) | (with_reducible refine below_new2 ?_ _) | (with_reducible refine Below.drew ?_) | (with_reducible refine bdrewN ?_ _)))⟩
        go_light
        grind
  · go_enter Tryd.func34, Tryd.ntmps34
    go_wp2_with (first | (go_at_call 22; refine (l1Width_any _ _).mono ?_; rintro e wq ⟨rfl, rfl⟩) | (go_at_call 43; refine (l2HashOk_any _ _ _).mono ?_; rintro e wq ⟨rfl, rfl⟩))
    all_goals
      go_ret
      refine ⟨ret_bool ?_, by (repeat' (first | exact Below.refl _ _ | (with_reducible assumption) | (with_reducible refine Below.setCell ?_ (by first | (simp; done) | (simp; omega)) _) | refine below_then ?_ (by assumption) | (with_reducible refine below_new2 ?_ _) | (with_reducible refine Below.drew ?_) | (with_reducible refine bdrewN ?_ _)))⟩
      go_light
      grind
set_option maxHeartbeats 400000 in
theorem fits_any (h : ByteArray) (x : Int) (p : Addr) (w : World) (hp : w.cell? p = some (.int .i64 x)) :
    Calls Tryd.prog 44 #[.string h, .pointer (some p)] w fun e w' => e = .returned (.bool (hOk h x)) ∧ w = w' := by
  have he : h.toList.isEmpty = decide (h.size = 0) := by
    rw [Bool.eq_iff_iff, decide_eq_true_eq, ← size_zero, ← toList_nil_iff_emptyBytes, List.isEmpty_iff]
  unfold hOk
  rw [← he]
  clear he
  go_enter Tryd.func44, Tryd.ntmps44
  go_wp2
  all_goals
    go_ret
    refine ⟨ret_bool ?_, rfl⟩
    go_light
    clear hp
    grind
set_option maxHeartbeats 400000 in
theorem nodeValid_any (a b c d : ByteArray) (x : Int) (w : World) :
    Calls Tryd.prog 37 #[.agg #[.string a, .string b, .string c, .string d], .int .i64 x] w fun e w' => e = .returned (.bool (nodeOk a b c d x)) ∧ Below w.heap.size w w' := by
  unfold nodeOk
  by_cases hw : isW x = true
  · by_cases h2 : hOk c x = true
    all_goals
      go_enter Tryd.func37, Tryd.ntmps37
      go_wp2_with (first | (go_at_call 23; refine (isWidth_any _ _).mono ?_; rintro e wq ⟨rfl, rfl⟩) | (go_at_call 44; refine (fits_any _ x _ _ (by simp [go_sem])).mono ?_; rintro e wq ⟨rfl, rfl⟩))
      all_goals
        go_ret
        refine ⟨ret_bool ?_, by (repeat' (first | exact Below.refl _ _ | (with_reducible assumption) | (with_reducible refine Below.setCell ?_ (by first | (simp; done) | (simp; omega)) _) | refine below_then ?_ (by assumption) | (with_reducible refine below_new2 ?_ _) | (with_reducible refine Below.drew ?_) | (with_reducible refine bdrewN ?_ _)))⟩
        go_light
        grind
  · go_enter Tryd.func37, Tryd.ntmps37
    go_wp2_with (first | (go_at_call 23; refine (isWidth_any _ _).mono ?_; rintro e wq ⟨rfl, rfl⟩) | (go_at_call 44; refine (fits_any _ x _ _ (by simp [go_sem])).mono ?_; rintro e wq ⟨rfl, rfl⟩))
    all_goals
      go_ret
      refine ⟨ret_bool ?_, by (repeat' (first | exact Below.refl _ _ | (with_reducible assumption) | (with_reducible refine Below.setCell ?_ (by first | (simp; done) | (simp; omega)) _) | refine below_then ?_ (by assumption) | (with_reducible refine below_new2 ?_ _) | (with_reducible refine Below.drew ?_) | (with_reducible refine bdrewN ?_ _)))⟩
      go_light
      grind
set_option maxHeartbeats 400000 in
theorem specEncodeNode_any (a b c d : ByteArray) (x : Int) (w : World) :
    Calls Tryd.prog 26 #[.agg #[.string a, .string b, .string c, .string d], .int .i64 x] w fun e w' => e = .returned (.string (encNode a b c d x)) ∧ Below w.heap.size w w' := by
  by_cases hok : nodeOk a b c d x = true
  · have hsz : a.size ≤ 256 ∧ b.size ≤ 2000 ∧ c.size ≤ 32 ∧ d.size ≤ 32 := by
      unfold nodeOk hOk isW at hok
      simp only [Bool.and_eq_true, Bool.or_eq_true, decide_eq_true_eq] at hok
      omega
    obtain ⟨h1, h2, h3, h4⟩ := hsz
    have he : encNode a b c d x = sizedS a ++ sizedS b ++ byteS (flagsOf c d) ++ c ++ d := by unfold encNode; rw [if_pos hok]
    have HE := Lib.hid he; clear he
    have h1b : a.size ≤ 4294967296 := by omega
    have h2b : b.size ≤ 4294967296 := by omega
    have z0 := fun x => byteS_size x
    have z1 : ¬ (9223372036854775807 < (sizedS a).size + (sizedS b).size) := by rw [sizedS_size, sizedS_size]; omega
    have z20 : ¬ (9223372036854775807 < (sizedS a).size + (sizedS b).size + (byteS 0).size) := by simp only [ByteArray.size_append, sizedS_size, byteS_size]; omega
    have z30 : ¬ (9223372036854775807 < (sizedS a).size + (sizedS b).size + (byteS 0).size + c.size) := by simp only [ByteArray.size_append, sizedS_size, byteS_size]; omega
    have z40 : ¬ (9223372036854775807 < (sizedS a).size + (sizedS b).size + (byteS 0).size + c.size + d.size) := by simp only [ByteArray.size_append, sizedS_size, byteS_size]; omega
    have z21 : ¬ (9223372036854775807 < (sizedS a).size + (sizedS b).size + (byteS 1).size) := by simp only [ByteArray.size_append, sizedS_size, byteS_size]; omega
    have z31 : ¬ (9223372036854775807 < (sizedS a).size + (sizedS b).size + (byteS 1).size + c.size) := by simp only [ByteArray.size_append, sizedS_size, byteS_size]; omega
    have z41 : ¬ (9223372036854775807 < (sizedS a).size + (sizedS b).size + (byteS 1).size + c.size + d.size) := by simp only [ByteArray.size_append, sizedS_size, byteS_size]; omega
    have z22 : ¬ (9223372036854775807 < (sizedS a).size + (sizedS b).size + (byteS 2).size) := by simp only [ByteArray.size_append, sizedS_size, byteS_size]; omega
    have z32 : ¬ (9223372036854775807 < (sizedS a).size + (sizedS b).size + (byteS 2).size + c.size) := by simp only [ByteArray.size_append, sizedS_size, byteS_size]; omega
    have z42 : ¬ (9223372036854775807 < (sizedS a).size + (sizedS b).size + (byteS 2).size + c.size + d.size) := by simp only [ByteArray.size_append, sizedS_size, byteS_size]; omega
    have z23 : ¬ (9223372036854775807 < (sizedS a).size + (sizedS b).size + (byteS 3).size) := by simp only [ByteArray.size_append, sizedS_size, byteS_size]; omega
    have z33 : ¬ (9223372036854775807 < (sizedS a).size + (sizedS b).size + (byteS 3).size + c.size) := by simp only [ByteArray.size_append, sizedS_size, byteS_size]; omega
    have z43 : ¬ (9223372036854775807 < (sizedS a).size + (sizedS b).size + (byteS 3).size + c.size + d.size) := by simp only [ByteArray.size_append, sizedS_size, byteS_size]; omega
    have z50 : ¬ (9223372036854775807 < (sizedS a).size + (sizedS b).size + (byteS 0).size + d.size) := by simp only [ByteArray.size_append, sizedS_size, byteS_size]; omega
    have z51 : ¬ (9223372036854775807 < (sizedS a).size + (sizedS b).size + (byteS 1).size + d.size) := by simp only [ByteArray.size_append, sizedS_size, byteS_size]; omega
    have z52 : ¬ (9223372036854775807 < (sizedS a).size + (sizedS b).size + (byteS 2).size + d.size) := by simp only [ByteArray.size_append, sizedS_size, byteS_size]; omega
    have z53 : ¬ (9223372036854775807 < (sizedS a).size + (sizedS b).size + (byteS 3).size + d.size) := by simp only [ByteArray.size_append, sizedS_size, byteS_size]; omega
    clear z0
    by_cases hc : c.size = 0
    all_goals
      by_cases hd : d.size = 0
      all_goals
        go_enter Tryd.func26, Tryd.ntmps26
        go_wp2_with (first | (go_at_call 34; refine (l2NodeOk_any _ _ _ _ _ _).mono ?_; rintro e wa ⟨rfl, hb_wa⟩; obtain ⟨hc_wa, hf_wa⟩ := bcell hb_wa; have hz_wa := hb_wa.size; (try simp only [World.size_alloc, World.size_setCell, World.size_drew] at hz_wa); (try simp only [World.size_alloc, World.size_setCell, World.size_drew] at hc_wa); (try simp only [World.size_alloc, World.size_setCell, World.size_drew] at hf_wa); (try have q_w_0_wa : w.heap.size < wa.heap.size := by omega)))
        have hS : wa.cell? ⟨w.heap.size, 0, none⟩ = some (.string a) ∧ wa.cell? ⟨w.heap.size, 1, none⟩ = some (.string b) ∧ wa.cell? ⟨w.heap.size, 2, none⟩ = some (.string c) ∧ wa.cell? ⟨w.heap.size, 3, none⟩ = some (.string d) := by
          refine ⟨?_, ?_, ?_, ?_⟩ <;> (rw [hc_wa _ _ (by omega)]; simp [go_sem])
        obtain ⟨e0, e1, e2, e3⟩ := hS
        clear hc_wa hf_wa
        go_region_held3 (fun w' => w'.cell? ⟨w.heap.size, 0, none⟩ = some (.string a) ∧ w'.cell? ⟨w.heap.size, 1, none⟩ = some (.string b) ∧ w'.cell? ⟨w.heap.size, 2, none⟩ = some (.string c) ∧ w'.cell? ⟨w.heap.size, 3, none⟩ = some (.string d))
          (first
            | exact held4B (by assumption) (by assumption)
            | assumption
            | (simp [*]; done))
          (first
            | (go_at_call 36; refine (l2Byte_any _ (by decide) _).mono ?_; rintro e wx ⟨rfl, hbx⟩)
            | (go_at_call_of 35 (Value.string a); refine (l2Sized_any a h1b _).mono ?_; rintro e wx ⟨rfl, hbx⟩)
            | (go_at_call_of 35 (Value.string b); refine (l2Sized_any b h2b _).mono ?_; rintro e wx ⟨rfl, hbx⟩))
        go_wp2
        all_goals
          go_ret
          refine ⟨?_, by (repeat' (first | exact Below.refl _ _ | (with_reducible assumption) | (with_reducible refine Below.setCell ?_ (by first | (simp; done) | (simp; omega)) _) | refine below_then ?_ (by assumption) | (with_reducible refine below_new2 ?_ _) | (with_reducible refine Below.drew ?_) | (with_reducible refine bdrewN ?_ _)))⟩
          rw [HE.out]
          simp [flagsOf, hc, hd]
  · have he : encNode a b c d x = ⟨#[]⟩ := by unfold encNode; rw [if_neg hok]
    have HE := Lib.hid he; clear he
    go_enter Tryd.func26, Tryd.ntmps26
    go_wp2_with (first | (go_at_call 34; refine (l2NodeOk_any _ _ _ _ _ _).mono ?_; rintro e wa ⟨rfl, hb_wa⟩; obtain ⟨hc_wa, hf_wa⟩ := bcell hb_wa; have hz_wa := hb_wa.size; (try simp only [World.size_alloc, World.size_setCell, World.size_drew] at hz_wa); (try simp only [World.size_alloc, World.size_setCell, World.size_drew] at hc_wa); (try simp only [World.size_alloc, World.size_setCell, World.size_drew] at hf_wa); skip))
    all_goals
      go_ret
      exact ⟨by rw [HE.out]; rfl, by (repeat' (first | exact Below.refl _ _ | (with_reducible assumption) | (with_reducible refine Below.setCell ?_ (by first | (simp; done) | (simp; omega)) _) | refine below_then ?_ (by assumption) | (with_reducible refine below_new2 ?_ _) | (with_reducible refine Below.drew ?_) | (with_reducible refine bdrewN ?_ _)))⟩
end Go.Proofs.YtmfejehhfmaodaaDoor

end

/- The encoding of a node by the program's own builder. -/
section
namespace Go.Proofs.YtmfejehhfmaodaaDoor
open Go.RowKit
set_option linter.unusedVariables false
set_option linter.unusedSimpArgs false
theorem isEmpty_size (h : ByteArray) : h.toList.isEmpty = decide (h.size = 0) := by
  rw [Bool.eq_iff_iff, decide_eq_true_eq, ← size_zero, ← toList_nil_iff_emptyBytes, List.isEmpty_iff]
theorem numL_one (n : Nat) (h : n < 256) : numL n 1 false 1 = [UInt8.ofNat n] := by
  simp [numL, numByte]
theorem sizedL_length (s : ByteArray) : (sizedL s).length = 2 + s.size := by
  rw [sizedL, List.length_append, numL_length]; rfl
theorem byteS_list (n : Nat) : byteS n = ⟨[UInt8.ofNat n].toArray⟩ := rfl
theorem app_list (a b : List UInt8) : (⟨(a ++ b).toArray⟩ : ByteArray) = ⟨a.toArray⟩ ++ ⟨b.toArray⟩ := by
  apply ByteArray.ext
  simp [ByteArray.data_append]
theorem self_list (s : ByteArray) : (⟨s.data.toList.toArray⟩ : ByteArray) = s := rfl
theorem sizedL_eq (s : ByteArray) : (⟨(sizedL s).toArray⟩ : ByteArray) = sizedS s := by
  unfold sizedL sizedS
  rw [app_list, self_list]
  have h : numL s.size 2 false 2 = [UInt8.ofNat (s.size / 256)] ++ [UInt8.ofNat s.size] := by
    simp [numL, numByte, List.range_succ]
  rw [h, app_list]
  congr 2
  · unfold byteS
    congr 3
    apply UInt8.toNat_inj.mp
    rw [UInt8.toNat_ofNat', UInt8.toNat_ofNat']; omega
theorem encList (a b c d : ByteArray) (n : Nat) (hn : n < 256) (h : flagsOf c d = n) :
    (⟨(sizedL a ++ (sizedL b ++ (numL n 1 false 1 ++ (c.data.toList ++ d.data.toList)))).toArray⟩ : ByteArray) = sizedS a ++ sizedS b ++ byteS (flagsOf c d) ++ c ++ d := by
  simp only [← List.append_assoc]
  rw [app_list, app_list, app_list, app_list, sizedL_eq, sizedL_eq, self_list, self_list, numL_one n hn, h, byteS_list]
theorem bitsOr1 : bits .or .u32 0 1 = 1 := by decide
theorem bitsOr2 : bits .or .u32 0 2 = 2 := by decide
theorem bitsOr3 : bits .or .u32 1 2 = 3 := by decide
attribute [go_sem] bitsOr1 bitsOr2 bitsOr3
theorem held4BB {B : Nat} {u w1 : World} {p q r t : Addr} {a b c d : Value} (hb : Below B u w1) (hp : p.block < B ∧ q.block < B ∧ r.block < B ∧ t.block < B) (h : u.cell? p = some a ∧ u.cell? q = some b ∧ u.cell? r = some c ∧ u.cell? t = some d) : w1.cell? p = some a ∧ w1.cell? q = some b ∧ w1.cell? r = some c ∧ w1.cell? t = some d :=
  ⟨(hb.cell hp.1).trans h.1, (hb.cell hp.2.1).trans h.2.1, (hb.cell hp.2.2.1).trans h.2.2.1, (hb.cell hp.2.2.2).trans h.2.2.2⟩
set_option maxHeartbeats 1000000 in
theorem encodeNode_any (a b c d : ByteArray) (x : Int) (w : World) :
    Calls Tryd.prog 28 #[.agg #[.string a, .string b, .string c, .string d], .int .i64 x] w fun e w' => e = .returned (.string (encNode a b c d x)) ∧ Below w.heap.size w w' := by
  by_cases hok : nodeOk a b c d x = true
  · have hsz : a.size ≤ 256 ∧ b.size ≤ 2000 ∧ c.size ≤ 32 ∧ d.size ≤ 32 := by
      unfold nodeOk hOk isW at hok
      simp only [Bool.and_eq_true, Bool.or_eq_true, decide_eq_true_eq] at hok
      omega
    obtain ⟨h1, h2, h3, h4⟩ := hsz
    have he : encNode a b c d x = sizedS a ++ sizedS b ++ byteS (flagsOf c d) ++ c ++ d := by unfold encNode; rw [if_pos hok]
    have HE := Lib.hid he; clear he
    have la := sizedL_length a
    have lb := sizedL_length b
    have ln : ∀ n, (numL n 1 false 1).length = 1 := fun n => numL_length n 1 false 1
    have LA := Lib.hid la; clear la
    have LB := Lib.hid lb; clear lb
    have LN := Lib.hid ln; clear ln
    by_cases hc : c.toList.isEmpty = true
    · by_cases hd : d.toList.isEmpty = true
      · go_enter Tryd.func28, Tryd.ntmps28
        go_wp2_with (first | (go_at_call 37; refine (nodeValid_any _ _ _ _ _ _).mono ?_; rintro e wa ⟨rfl, hb_wa⟩; obtain ⟨hc_wa, hf_wa⟩ := bcell hb_wa; have hz_wa := hb_wa.size; (try simp only [World.size_alloc, World.size_setCell, World.size_drew] at hz_wa); (try simp only [World.size_alloc, World.size_setCell, World.size_drew] at hc_wa); (try simp only [World.size_alloc, World.size_setCell, World.size_drew] at hf_wa); (try have q_w_0_wa : w.heap.size < wa.heap.size := by omega)))
        have hS : wa.cell? ⟨w.heap.size, 0, none⟩ = some (.string a) ∧ wa.cell? ⟨w.heap.size, 1, none⟩ = some (.string b) ∧ wa.cell? ⟨w.heap.size, 2, none⟩ = some (.string c) ∧ wa.cell? ⟨w.heap.size, 3, none⟩ = some (.string d) := by
          refine ⟨?_, ?_, ?_, ?_⟩ <;> (rw [hc_wa _ _ (by omega)]; simp [go_sem])
        obtain ⟨e0, e1, e2, e3⟩ := hS
        clear hc_wa hf_wa
        go_wp2
        go_region_held3 (fun w' => w'.cell? ⟨w.heap.size, 0, none⟩ = some (.string a) ∧ w'.cell? ⟨w.heap.size, 1, none⟩ = some (.string b) ∧ w'.cell? ⟨w.heap.size, 2, none⟩ = some (.string c) ∧ w'.cell? ⟨w.heap.size, 3, none⟩ = some (.string d))
          (first
            | exact held4BB (B := wa.heap.size) (by assumption) (by simp; omega) (by assumption)
            | assumption
            | (go_keep; done))
          (first
            | (go_at_call_of 38 (Value.string a); refine (bsized_any wa.heap.size wa.heap.size [] a _ ?_ ?_ ?_ ?_).mono ?_; (· exact Bld.fresh _ wa.drew); (· omega); (· simp; done); (· simp; done); rintro e wx ⟨rfl, hBx, hbx⟩; rw [List.nil_append] at hBx; have hzx := hbx.size; simp only [World.size_alloc, World.size_drew] at hzx)
            | (go_at_call_of 38 (Value.string b); refine (bsized_any wa.heap.size wa.heap.size (sizedL a) b _ ?_ ?_ ?_ ?_).mono ?_; (· assumption); (· omega); (· have := LA.out; omega); (· omega); rintro e wx ⟨rfl, hBx, hbx⟩; have hzx := hbx.size)
            | (go_at_call 39; refine (bnumber_any wa.heap.size wa.heap.size (sizedL a ++ sizedL b) 0 1 false _ ?_ ?_ ?_ ?_ ?_).mono ?_; (· assumption); (· omega); (· omega); (· have := LA.out; have := LB.out; rw [List.length_append]; omega); (· omega); rintro e wx ⟨rfl, hBx, hbx⟩; have hzx := hbx.size)
            | (go_at_call_of 40 (Value.string c); refine (btext_any wa.heap.size wa.heap.size (sizedL a ++ sizedL b ++ numL 0 1 false 1) c _ ?_ ?_ ?_).mono ?_; (· assumption); (· have := LA.out; have := LB.out; have := LN.out; simp only [List.length_append, this]; omega); (· omega); rintro e wx ⟨rfl, hBx, hbx⟩; have hzx := hbx.size)
            | (go_at_call_of 40 (Value.string d); refine (btext_any wa.heap.size wa.heap.size (sizedL a ++ sizedL b ++ numL 0 1 false 1 ++ c.data.toList) d _ ?_ ?_ ?_).mono ?_; (· assumption); (· have := LA.out; have := LB.out; have := LN.out; have hcl : c.data.toList.length = c.size := rfl; simp only [List.length_append, this, hcl]; omega); (· omega); rintro e wx ⟨rfl, hBx, hbx⟩; have hzx := hbx.size))
        go_wp2_with (go_at_call 41; refine (string_any 62 wa.heap.size wa.heap.size _ _ hBx ?_).mono ?_; (· intro h; have := congrArg List.length h; simp only [List.length_append, LN.out, List.length_nil] at this; omega); rintro e wz ⟨rfl, hbz⟩)
        go_ret
        have hz : Below wa.heap.size wa wz := by
          refine Below.trans ?_ hbz
          repeat' (first | (refine Below.trans ?_ (by assumption)))
          (repeat' (first | exact Below.refl _ _ | (with_reducible assumption) | (with_reducible refine Below.setCell ?_ (by first | (simp; done) | (simp; omega)) _) | refine below_then ?_ (by assumption) | (with_reducible refine below_new2 ?_ _) | (with_reducible refine Below.drew ?_) | (with_reducible refine bdrewN ?_ _)))
        refine ⟨?_, by (repeat' (first | exact Below.refl _ _ | (with_reducible assumption) | (with_reducible refine Below.setCell ?_ (by first | (simp; done) | (simp; omega)) _) | refine below_then ?_ (by assumption) | (with_reducible refine below_new2 ?_ _) | (with_reducible refine Below.drew ?_) | (with_reducible refine bdrewN ?_ _)))⟩
        rw [HE.out]
        refine congrArg (fun z => Ending.returned (.string z)) (encList a b c d 0 (by decide) ?_)
        rw [isEmpty_size, decide_eq_true_eq] at hc hd
        simp [flagsOf, hc, hd]
      · go_enter Tryd.func28, Tryd.ntmps28
        go_wp2_with (first | (go_at_call 37; refine (nodeValid_any _ _ _ _ _ _).mono ?_; rintro e wa ⟨rfl, hb_wa⟩; obtain ⟨hc_wa, hf_wa⟩ := bcell hb_wa; have hz_wa := hb_wa.size; (try simp only [World.size_alloc, World.size_setCell, World.size_drew] at hz_wa); (try simp only [World.size_alloc, World.size_setCell, World.size_drew] at hc_wa); (try simp only [World.size_alloc, World.size_setCell, World.size_drew] at hf_wa); (try have q_w_0_wa : w.heap.size < wa.heap.size := by omega)))
        have hS : wa.cell? ⟨w.heap.size, 0, none⟩ = some (.string a) ∧ wa.cell? ⟨w.heap.size, 1, none⟩ = some (.string b) ∧ wa.cell? ⟨w.heap.size, 2, none⟩ = some (.string c) ∧ wa.cell? ⟨w.heap.size, 3, none⟩ = some (.string d) := by
          refine ⟨?_, ?_, ?_, ?_⟩ <;> (rw [hc_wa _ _ (by omega)]; simp [go_sem])
        obtain ⟨e0, e1, e2, e3⟩ := hS
        clear hc_wa hf_wa
        go_wp2
        go_region_held3 (fun w' => w'.cell? ⟨w.heap.size, 0, none⟩ = some (.string a) ∧ w'.cell? ⟨w.heap.size, 1, none⟩ = some (.string b) ∧ w'.cell? ⟨w.heap.size, 2, none⟩ = some (.string c) ∧ w'.cell? ⟨w.heap.size, 3, none⟩ = some (.string d))
          (first
            | exact held4BB (B := wa.heap.size) (by assumption) (by simp; omega) (by assumption)
            | assumption
            | (go_keep; done))
          (first
            | (go_at_call_of 38 (Value.string a); refine (bsized_any wa.heap.size wa.heap.size [] a _ ?_ ?_ ?_ ?_).mono ?_; (· exact Bld.fresh _ wa.drew); (· omega); (· simp; done); (· simp; done); rintro e wx ⟨rfl, hBx, hbx⟩; rw [List.nil_append] at hBx; have hzx := hbx.size; simp only [World.size_alloc, World.size_drew] at hzx)
            | (go_at_call_of 38 (Value.string b); refine (bsized_any wa.heap.size wa.heap.size (sizedL a) b _ ?_ ?_ ?_ ?_).mono ?_; (· assumption); (· omega); (· have := LA.out; omega); (· omega); rintro e wx ⟨rfl, hBx, hbx⟩; have hzx := hbx.size)
            | (go_at_call 39; refine (bnumber_any wa.heap.size wa.heap.size (sizedL a ++ sizedL b) 2 1 false _ ?_ ?_ ?_ ?_ ?_).mono ?_; (· assumption); (· omega); (· omega); (· have := LA.out; have := LB.out; rw [List.length_append]; omega); (· omega); rintro e wx ⟨rfl, hBx, hbx⟩; have hzx := hbx.size)
            | (go_at_call_of 40 (Value.string c); refine (btext_any wa.heap.size wa.heap.size (sizedL a ++ sizedL b ++ numL 2 1 false 1) c _ ?_ ?_ ?_).mono ?_; (· assumption); (· have := LA.out; have := LB.out; have := LN.out; simp only [List.length_append, this]; omega); (· omega); rintro e wx ⟨rfl, hBx, hbx⟩; have hzx := hbx.size)
            | (go_at_call_of 40 (Value.string d); refine (btext_any wa.heap.size wa.heap.size (sizedL a ++ sizedL b ++ numL 2 1 false 1 ++ c.data.toList) d _ ?_ ?_ ?_).mono ?_; (· assumption); (· have := LA.out; have := LB.out; have := LN.out; have hcl : c.data.toList.length = c.size := rfl; simp only [List.length_append, this, hcl]; omega); (· omega); rintro e wx ⟨rfl, hBx, hbx⟩; have hzx := hbx.size))
        go_wp2_with (go_at_call 41; refine (string_any 62 wa.heap.size wa.heap.size _ _ hBx ?_).mono ?_; (· intro h; have := congrArg List.length h; simp only [List.length_append, LN.out, List.length_nil] at this; omega); rintro e wz ⟨rfl, hbz⟩)
        go_ret
        have hz : Below wa.heap.size wa wz := by
          refine Below.trans ?_ hbz
          repeat' (first | (refine Below.trans ?_ (by assumption)))
          (repeat' (first | exact Below.refl _ _ | (with_reducible assumption) | (with_reducible refine Below.setCell ?_ (by first | (simp; done) | (simp; omega)) _) | refine below_then ?_ (by assumption) | (with_reducible refine below_new2 ?_ _) | (with_reducible refine Below.drew ?_) | (with_reducible refine bdrewN ?_ _)))
        refine ⟨?_, by (repeat' (first | exact Below.refl _ _ | (with_reducible assumption) | (with_reducible refine Below.setCell ?_ (by first | (simp; done) | (simp; omega)) _) | refine below_then ?_ (by assumption) | (with_reducible refine below_new2 ?_ _) | (with_reducible refine Below.drew ?_) | (with_reducible refine bdrewN ?_ _)))⟩
        rw [HE.out]
        refine congrArg (fun z => Ending.returned (.string z)) (encList a b c d 2 (by decide) ?_)
        rw [isEmpty_size, decide_eq_true_eq] at hc hd
        simp [flagsOf, hc, hd]
    · by_cases hd : d.toList.isEmpty = true
      · go_enter Tryd.func28, Tryd.ntmps28
        go_wp2_with (first | (go_at_call 37; refine (nodeValid_any _ _ _ _ _ _).mono ?_; rintro e wa ⟨rfl, hb_wa⟩; obtain ⟨hc_wa, hf_wa⟩ := bcell hb_wa; have hz_wa := hb_wa.size; (try simp only [World.size_alloc, World.size_setCell, World.size_drew] at hz_wa); (try simp only [World.size_alloc, World.size_setCell, World.size_drew] at hc_wa); (try simp only [World.size_alloc, World.size_setCell, World.size_drew] at hf_wa); (try have q_w_0_wa : w.heap.size < wa.heap.size := by omega)))
        have hS : wa.cell? ⟨w.heap.size, 0, none⟩ = some (.string a) ∧ wa.cell? ⟨w.heap.size, 1, none⟩ = some (.string b) ∧ wa.cell? ⟨w.heap.size, 2, none⟩ = some (.string c) ∧ wa.cell? ⟨w.heap.size, 3, none⟩ = some (.string d) := by
          refine ⟨?_, ?_, ?_, ?_⟩ <;> (rw [hc_wa _ _ (by omega)]; simp [go_sem])
        obtain ⟨e0, e1, e2, e3⟩ := hS
        clear hc_wa hf_wa
        go_wp2
        go_region_held3 (fun w' => w'.cell? ⟨w.heap.size, 0, none⟩ = some (.string a) ∧ w'.cell? ⟨w.heap.size, 1, none⟩ = some (.string b) ∧ w'.cell? ⟨w.heap.size, 2, none⟩ = some (.string c) ∧ w'.cell? ⟨w.heap.size, 3, none⟩ = some (.string d))
          (first
            | exact held4BB (B := wa.heap.size) (by assumption) (by simp; omega) (by assumption)
            | assumption
            | (go_keep; done))
          (first
            | (go_at_call_of 38 (Value.string a); refine (bsized_any wa.heap.size wa.heap.size [] a _ ?_ ?_ ?_ ?_).mono ?_; (· exact Bld.fresh _ wa.drew); (· omega); (· simp; done); (· simp; done); rintro e wx ⟨rfl, hBx, hbx⟩; rw [List.nil_append] at hBx; have hzx := hbx.size; simp only [World.size_alloc, World.size_drew] at hzx)
            | (go_at_call_of 38 (Value.string b); refine (bsized_any wa.heap.size wa.heap.size (sizedL a) b _ ?_ ?_ ?_ ?_).mono ?_; (· assumption); (· omega); (· have := LA.out; omega); (· omega); rintro e wx ⟨rfl, hBx, hbx⟩; have hzx := hbx.size)
            | (go_at_call 39; refine (bnumber_any wa.heap.size wa.heap.size (sizedL a ++ sizedL b) 1 1 false _ ?_ ?_ ?_ ?_ ?_).mono ?_; (· assumption); (· omega); (· omega); (· have := LA.out; have := LB.out; rw [List.length_append]; omega); (· omega); rintro e wx ⟨rfl, hBx, hbx⟩; have hzx := hbx.size)
            | (go_at_call_of 40 (Value.string c); refine (btext_any wa.heap.size wa.heap.size (sizedL a ++ sizedL b ++ numL 1 1 false 1) c _ ?_ ?_ ?_).mono ?_; (· assumption); (· have := LA.out; have := LB.out; have := LN.out; simp only [List.length_append, this]; omega); (· omega); rintro e wx ⟨rfl, hBx, hbx⟩; have hzx := hbx.size)
            | (go_at_call_of 40 (Value.string d); refine (btext_any wa.heap.size wa.heap.size (sizedL a ++ sizedL b ++ numL 1 1 false 1 ++ c.data.toList) d _ ?_ ?_ ?_).mono ?_; (· assumption); (· have := LA.out; have := LB.out; have := LN.out; have hcl : c.data.toList.length = c.size := rfl; simp only [List.length_append, this, hcl]; omega); (· omega); rintro e wx ⟨rfl, hBx, hbx⟩; have hzx := hbx.size))
        go_wp2_with (go_at_call 41; refine (string_any 62 wa.heap.size wa.heap.size _ _ hBx ?_).mono ?_; (· intro h; have := congrArg List.length h; simp only [List.length_append, LN.out, List.length_nil] at this; omega); rintro e wz ⟨rfl, hbz⟩)
        go_ret
        have hz : Below wa.heap.size wa wz := by
          refine Below.trans ?_ hbz
          repeat' (first | (refine Below.trans ?_ (by assumption)))
          (repeat' (first | exact Below.refl _ _ | (with_reducible assumption) | (with_reducible refine Below.setCell ?_ (by first | (simp; done) | (simp; omega)) _) | refine below_then ?_ (by assumption) | (with_reducible refine below_new2 ?_ _) | (with_reducible refine Below.drew ?_) | (with_reducible refine bdrewN ?_ _)))
        refine ⟨?_, by (repeat' (first | exact Below.refl _ _ | (with_reducible assumption) | (with_reducible refine Below.setCell ?_ (by first | (simp; done) | (simp; omega)) _) | refine below_then ?_ (by assumption) | (with_reducible refine below_new2 ?_ _) | (with_reducible refine Below.drew ?_) | (with_reducible refine bdrewN ?_ _)))⟩
        rw [HE.out]
        refine congrArg (fun z => Ending.returned (.string z)) (encList a b c d 1 (by decide) ?_)
        rw [isEmpty_size, decide_eq_true_eq] at hc hd
        simp [flagsOf, hc, hd]
      · go_enter Tryd.func28, Tryd.ntmps28
        go_wp2_with (first | (go_at_call 37; refine (nodeValid_any _ _ _ _ _ _).mono ?_; rintro e wa ⟨rfl, hb_wa⟩; obtain ⟨hc_wa, hf_wa⟩ := bcell hb_wa; have hz_wa := hb_wa.size; (try simp only [World.size_alloc, World.size_setCell, World.size_drew] at hz_wa); (try simp only [World.size_alloc, World.size_setCell, World.size_drew] at hc_wa); (try simp only [World.size_alloc, World.size_setCell, World.size_drew] at hf_wa); (try have q_w_0_wa : w.heap.size < wa.heap.size := by omega)))
        have hS : wa.cell? ⟨w.heap.size, 0, none⟩ = some (.string a) ∧ wa.cell? ⟨w.heap.size, 1, none⟩ = some (.string b) ∧ wa.cell? ⟨w.heap.size, 2, none⟩ = some (.string c) ∧ wa.cell? ⟨w.heap.size, 3, none⟩ = some (.string d) := by
          refine ⟨?_, ?_, ?_, ?_⟩ <;> (rw [hc_wa _ _ (by omega)]; simp [go_sem])
        obtain ⟨e0, e1, e2, e3⟩ := hS
        clear hc_wa hf_wa
        go_wp2
        go_region_held3 (fun w' => w'.cell? ⟨w.heap.size, 0, none⟩ = some (.string a) ∧ w'.cell? ⟨w.heap.size, 1, none⟩ = some (.string b) ∧ w'.cell? ⟨w.heap.size, 2, none⟩ = some (.string c) ∧ w'.cell? ⟨w.heap.size, 3, none⟩ = some (.string d))
          (first
            | exact held4BB (B := wa.heap.size) (by assumption) (by simp; omega) (by assumption)
            | assumption
            | (go_keep; done))
          (first
            | (go_at_call_of 38 (Value.string a); refine (bsized_any wa.heap.size wa.heap.size [] a _ ?_ ?_ ?_ ?_).mono ?_; (· exact Bld.fresh _ wa.drew); (· omega); (· simp; done); (· simp; done); rintro e wx ⟨rfl, hBx, hbx⟩; rw [List.nil_append] at hBx; have hzx := hbx.size; simp only [World.size_alloc, World.size_drew] at hzx)
            | (go_at_call_of 38 (Value.string b); refine (bsized_any wa.heap.size wa.heap.size (sizedL a) b _ ?_ ?_ ?_ ?_).mono ?_; (· assumption); (· omega); (· have := LA.out; omega); (· omega); rintro e wx ⟨rfl, hBx, hbx⟩; have hzx := hbx.size)
            | (go_at_call 39; refine (bnumber_any wa.heap.size wa.heap.size (sizedL a ++ sizedL b) 3 1 false _ ?_ ?_ ?_ ?_ ?_).mono ?_; (· assumption); (· omega); (· omega); (· have := LA.out; have := LB.out; rw [List.length_append]; omega); (· omega); rintro e wx ⟨rfl, hBx, hbx⟩; have hzx := hbx.size)
            | (go_at_call_of 40 (Value.string c); refine (btext_any wa.heap.size wa.heap.size (sizedL a ++ sizedL b ++ numL 3 1 false 1) c _ ?_ ?_ ?_).mono ?_; (· assumption); (· have := LA.out; have := LB.out; have := LN.out; simp only [List.length_append, this]; omega); (· omega); rintro e wx ⟨rfl, hBx, hbx⟩; have hzx := hbx.size)
            | (go_at_call_of 40 (Value.string d); refine (btext_any wa.heap.size wa.heap.size (sizedL a ++ sizedL b ++ numL 3 1 false 1 ++ c.data.toList) d _ ?_ ?_ ?_).mono ?_; (· assumption); (· have := LA.out; have := LB.out; have := LN.out; have hcl : c.data.toList.length = c.size := rfl; simp only [List.length_append, this, hcl]; omega); (· omega); rintro e wx ⟨rfl, hBx, hbx⟩; have hzx := hbx.size))
        go_wp2_with (go_at_call 41; refine (string_any 62 wa.heap.size wa.heap.size _ _ hBx ?_).mono ?_; (· intro h; have := congrArg List.length h; simp only [List.length_append, LN.out, List.length_nil] at this; omega); rintro e wz ⟨rfl, hbz⟩)
        go_ret
        have hz : Below wa.heap.size wa wz := by
          refine Below.trans ?_ hbz
          repeat' (first | (refine Below.trans ?_ (by assumption)))
          (repeat' (first | exact Below.refl _ _ | (with_reducible assumption) | (with_reducible refine Below.setCell ?_ (by first | (simp; done) | (simp; omega)) _) | refine below_then ?_ (by assumption) | (with_reducible refine below_new2 ?_ _) | (with_reducible refine Below.drew ?_) | (with_reducible refine bdrewN ?_ _)))
        refine ⟨?_, by (repeat' (first | exact Below.refl _ _ | (with_reducible assumption) | (with_reducible refine Below.setCell ?_ (by first | (simp; done) | (simp; omega)) _) | refine below_then ?_ (by assumption) | (with_reducible refine below_new2 ?_ _) | (with_reducible refine Below.drew ?_) | (with_reducible refine bdrewN ?_ _)))⟩
        rw [HE.out]
        refine congrArg (fun z => Ending.returned (.string z)) (encList a b c d 3 (by decide) ?_)
        rw [isEmpty_size, decide_eq_true_eq] at hc hd
        simp [flagsOf, hc, hd]
  · have he : encNode a b c d x = ⟨#[]⟩ := by unfold encNode; rw [if_neg hok]
    have HE := Lib.hid he; clear he
    go_enter Tryd.func28, Tryd.ntmps28
    go_wp2_with (first | (go_at_call 37; refine (nodeValid_any _ _ _ _ _ _).mono ?_; rintro e wa ⟨rfl, hb_wa⟩; obtain ⟨hc_wa, hf_wa⟩ := bcell hb_wa; have hz_wa := hb_wa.size; (try simp only [World.size_alloc, World.size_setCell, World.size_drew] at hz_wa); (try simp only [World.size_alloc, World.size_setCell, World.size_drew] at hc_wa); (try simp only [World.size_alloc, World.size_setCell, World.size_drew] at hf_wa); skip))
    all_goals
      go_ret
      exact ⟨by rw [HE.out]; rfl, by (repeat' (first | exact Below.refl _ _ | (with_reducible assumption) | (with_reducible refine Below.setCell ?_ (by first | (simp; done) | (simp; omega)) _) | refine below_then ?_ (by assumption) | (with_reducible refine below_new2 ?_ _) | (with_reducible refine Below.drew ?_) | (with_reducible refine bdrewN ?_ _)))⟩
end Go.Proofs.YtmfejehhfmaodaaDoor

end

/- EncodeNode, of the specification and of the program, as one function. -/
section
namespace Go.Proofs.YtmfejehhfmaodaaDoor.Z
open Go.RowKit Go.Proofs.YtmfejehhfmaodaaDoor
set_option linter.unusedVariables false
set_option linter.unusedSimpArgs false
def spec_EncodeNode.f (a0_0 a0_1 a0_2 a0_3 : ByteArray) (a1 : Int) : Option ByteArray := some (encNode a0_0 a0_1 a0_2 a0_3 a1)
theorem spec_EncodeNode.calls (a0_0 a0_1 a0_2 a0_3 : ByteArray) (a1 : Int) (r : ByteArray) (w : World) (h : spec_EncodeNode.f a0_0 a0_1 a0_2 a0_3 a1 = some r) :
    Calls Tryd.prog 26 #[.agg #[.string a0_0, .string a0_1, .string a0_2, .string a0_3], .int .i64 a1] w fun e w' => e = .returned (.string r) ∧ Below w.heap.size w w' := by
  obtain rfl := Option.some.inj h
  exact specEncodeNode_any _ _ _ _ _ _
def impl_EncodeNode.f (a0_0 a0_1 a0_2 a0_3 : ByteArray) (a1 : Int) : Option ByteArray := some (encNode a0_0 a0_1 a0_2 a0_3 a1)
theorem impl_EncodeNode.calls (a0_0 a0_1 a0_2 a0_3 : ByteArray) (a1 : Int) (r : ByteArray) (w : World) (h : impl_EncodeNode.f a0_0 a0_1 a0_2 a0_3 a1 = some r) :
    Calls Tryd.prog 28 #[.agg #[.string a0_0, .string a0_1, .string a0_2, .string a0_3], .int .i64 a1] w fun e w' => e = .returned (.string r) ∧ Below w.heap.size w w' := by
  obtain rfl := Option.some.inj h
  exact encodeNode_any _ _ _ _ _ _
end Go.Proofs.YtmfejehhfmaodaaDoor.Z

end

/- Contracts of functions of the program, written by a program of this session over the translation's print. -/
section
namespace Go.Proofs.YtmfejehhfmaodaaDoor.Z
open Go.RowKit Go.Proofs.YtmfejehhfmaodaaDoorW.PrintWords Go.Proofs.YtmfejehhfmaodaaDoorW.PrintLast Go.Proofs.YtmfejehhfmaodaaDoorW.PrintMore
attribute [local go_sem] max2_int min2_int max_two min_two max_three min_three max_four min_four   -- for this text's walks alone
set_option linter.unusedVariables false
set_option linter.unusedSimpArgs false

/-! ### spec_NodeHash: function 14 -/
def spec_NodeHash.f (k : Nat) (a0_0 : ByteArray) (a0_1 : ByteArray) (a0_2 : ByteArray) (a0_3 : ByteArray) (a1 : Int) : Option (ByteArray) := (spec_EncodeNode.f a0_0 a0_1 a0_2 a0_3 a1).bind fun t194 => (if (t194.size : Int) = 0 then (some (⟨#[]⟩ : ByteArray)) else ((spec_l2Text.f t194).bind fun t195 => ((spec_Digest.f k t195 a1).bind fun t196 => (some t196))))
theorem spec_NodeHash.mono : ∀ a0 a1 a2 a3 a4 k, LeO (spec_NodeHash.f k a0 a1 a2 a3 a4) (spec_NodeHash.f (k + 1) a0 a1 a2 a3 a4) := by
  intro a0 a1 a2 a3 a4 k
  unfold spec_NodeHash.f
  repeat' first
      | (with_reducible exact spec_Digest.mono _ _ _)
      | (with_reducible exact LeO.refl _)
      | (with_reducible exact LeO.none _)
      | (with_reducible refine LeO.ite ?_ ?_)
      | (with_reducible refine LeO.bind ?_ (fun _ => ?_))
      | exact spec_Digest.mono _ _ _
      | exact LeO.none _
      | refine LeO.ite ?_ ?_
      | refine LeO.bind ?_ (fun _ => ?_)
set_option maxHeartbeats 8000000 in
set_option maxRecDepth 100000 in
theorem spec_NodeHash.calls (k : Nat) (a0_0 : ByteArray) (a0_1 : ByteArray) (a0_2 : ByteArray) (a0_3 : ByteArray) (a1 : Int) (r : ByteArray) (w : World) (h : spec_NodeHash.f k a0_0 a0_1 a0_2 a0_3 a1 = some r) :
    Calls Tryd.prog 14 #[.agg #[.string a0_0, .string a0_1, .string a0_2, .string a0_3], .int .i64 a1] w fun e w' => e = .returned (.string r) ∧ Below w.heap.size w w' := by
  have hu31 := Tryd.underlying31
  have HB := Aside0.mk (Below.refl w.heap.size w)
  have H : ((spec_EncodeNode.f a0_0 a0_1 a0_2 a0_3 a1).bind fun t194 => (if (t194.size : Int) = 0 then (some (⟨#[]⟩ : ByteArray)) else ((spec_l2Text.f t194).bind fun t195 => ((spec_Digest.f k t195 a1).bind fun t196 => (some t196))))) = some r := h
  clear h
  replace H := Option.bind_eq_some_iff.mp H
  obtain ⟨t194, A30, H⟩ := H
  replace H : (if (t194.size : Int) = 0 then (some (⟨#[]⟩ : ByteArray)) else ((spec_l2Text.f t194).bind fun t195 => ((spec_Digest.f k t195 a1).bind fun t196 => (some t196)))) = some r := H
  have A3 := Aside0.mk A30
  clear A30
  by_cases c4 : (t194.size : Int) = 0
  · rw [if_pos c4] at H
    have c4b0 : ((t194.size : Int) == 0) = true := beq_iff_eq.mpr c4
    have c4b1 : ((t194.size : Int) != 0) = false := bne_eq_false_iff_eq.mpr c4
    clear c4
    obtain rfl := Option.some.inj H
    go_enter Tryd.func14, Tryd.ntmps14
    go_wp2_with (first | ((with_reducible refine gate_dst (N := 2) rfl ?_); refine box_event ?hg (N := 2) ?hd (cs := #[.string a0_0, .string a0_1, .string a0_2, .string a0_3]) (t := 31) ?hr ?_; (case hd => rfl); (case hg => rfl); (case hr => first | (go_simp; done) | (go_simp; rfl)); intro gb193 hg w5 hbox hb; have n0_ := Aside0.mk (below_step (by repeat (first | (with_reducible first | exact HB.out | apply below_alloc | apply pw_below_drewN | apply below_drew1) | exact HB.out)) hb); have n1_ := Aside0.mk (hbox); have n2_ := Aside0.mk ((by rw [hg]; exact (below_size (by repeat (first | (with_reducible first | exact HB.out | apply below_alloc | apply pw_below_drewN | apply below_drew1) | exact HB.out))) : w.heap.size ≤ gb193)); have n3_ := Aside0.mk ((by rw [hg]; exact (below_size (by repeat (first | (with_reducible first | exact HB.out | apply below_alloc | apply pw_below_drewN | apply below_drew1) | exact HB.out))) : w.heap.size ≤ gb193)); clear HB; have HB := n0_; have BK193 := n1_; have GW193 := n2_; have GE193 := n3_; clear n0_ n1_ n2_ n3_; clear hb hbox hg; have hcz6_0 : w5.cell? ⟨gb193, 0, none⟩ = some (.string a0_0) := (blk_cell BK193.out 0).trans rfl; have hcz6_1 : w5.cell? ⟨gb193, 1, none⟩ = some (.string a0_1) := (blk_cell BK193.out 1).trans rfl; have hcz6_2 : w5.cell? ⟨gb193, 2, none⟩ = some (.string a0_2) := (blk_cell BK193.out 2).trans rfl; have hcz6_3 : w5.cell? ⟨gb193, 3, none⟩ = some (.string a0_3) := (blk_cell BK193.out 3).trans rfl; have hfz6_0 := blk_frozen BK193.out 0; have hfz6_1 := blk_frozen BK193.out 1; have hfz6_2 := blk_frozen BK193.out 2; have hfz6_3 := blk_frozen BK193.out 3) | ((with_reducible refine gate_callee (f := 26) rfl ?_); refine goesL_ (some 8) rfl rfl Tryd.func26 (by kernel_rfl) rfl #[.agg #[.string a0_0, .string a0_1, .string a0_2, .string a0_3], .int .i64 a1] rfl (by (try simp only [List.map_toArray, List.map_cons, List.map_nil]); first | done | rfl | (simp only [List.length_drop, List.length_take]; rfl)) ?_; (with_reducible refine (spec_EncodeNode.calls a0_0 a0_1 a0_2 a0_3 a1 t194 _ A3.out).mono ?_); rintro e w7 ⟨rfl, hb⟩; refine ⟨_, rfl, ?_⟩; have n0_ := Aside0.mk (blk_below (g := gb193) (o := .cells #[.string a0_0, .string a0_1, .string a0_2, .string a0_3] 31 (0, 0)) (by (with_reducible repeat (first | refine blk_drewN ?_ _ | refine blk_drew ?_ | refine blk_alloc ?_ _)); exact BK193.out) hb); have n1_ := Aside0.mk (below_step (by repeat (first | (with_reducible first | exact HB.out | apply below_alloc | apply pw_below_drewN | apply below_drew1 | refine below_set ?_ GE193.out) | exact HB.out)) hb); clear BK193; clear HB; have BK193 := n0_; have HB := n1_; clear n0_ n1_; (try clear hb); (try clear hb2); (try clear hk); (try clear hi)))
    go_ret
    exact ⟨by first | rfl | (simp [errW_none, errW_some] <;> rfl) | (simp [*, errW_none, errW_some] <;> rfl), by repeat (first | (with_reducible first | exact HB.out | apply below_alloc | apply pw_below_drewN | apply below_drew1 | refine below_set ?_ GE193.out) | exact HB.out)⟩
  · rw [if_neg c4] at H
    have c4b0 : ((t194.size : Int) == 0) = false := beq_eq_false_iff_ne.mpr c4
    have c4b1 : ((t194.size : Int) != 0) = true := bne_iff_ne.mpr c4
    replace H := Option.bind_eq_some_iff.mp H
    obtain ⟨t195, A80, H⟩ := H
    replace H : ((spec_Digest.f k t195 a1).bind fun t196 => (some t196)) = some r := H
    have A8 := Aside0.mk A80
    clear A80
    replace H := Option.bind_eq_some_iff.mp H
    obtain ⟨t196, A90, H⟩ := H
    replace H : (some t196) = some r := H
    have A9 := Aside0.mk A90
    clear A90
    obtain rfl := Option.some.inj H
    go_enter Tryd.func14, Tryd.ntmps14
    go_wp2_with (first | ((with_reducible refine gate_dst (N := 2) rfl ?_); refine box_event ?hg (N := 2) ?hd (cs := #[.string a0_0, .string a0_1, .string a0_2, .string a0_3]) (t := 31) ?hr ?_; (case hd => rfl); (case hg => rfl); (case hr => first | (go_simp; done) | (go_simp; rfl)); intro gb193 hg w10 hbox hb; have n0_ := Aside0.mk (below_step (by repeat (first | (with_reducible first | exact HB.out | apply below_alloc | apply pw_below_drewN | apply below_drew1) | exact HB.out)) hb); have n1_ := Aside0.mk (hbox); have n2_ := Aside0.mk ((by rw [hg]; exact (below_size (by repeat (first | (with_reducible first | exact HB.out | apply below_alloc | apply pw_below_drewN | apply below_drew1) | exact HB.out))) : w.heap.size ≤ gb193)); have n3_ := Aside0.mk ((by rw [hg]; exact (below_size (by repeat (first | (with_reducible first | exact HB.out | apply below_alloc | apply pw_below_drewN | apply below_drew1) | exact HB.out))) : w.heap.size ≤ gb193)); clear HB; have HB := n0_; have BK193 := n1_; have GW193 := n2_; have GE193 := n3_; clear n0_ n1_ n2_ n3_; clear hb hbox hg; have hcz11_0 : w10.cell? ⟨gb193, 0, none⟩ = some (.string a0_0) := (blk_cell BK193.out 0).trans rfl; have hcz11_1 : w10.cell? ⟨gb193, 1, none⟩ = some (.string a0_1) := (blk_cell BK193.out 1).trans rfl; have hcz11_2 : w10.cell? ⟨gb193, 2, none⟩ = some (.string a0_2) := (blk_cell BK193.out 2).trans rfl; have hcz11_3 : w10.cell? ⟨gb193, 3, none⟩ = some (.string a0_3) := (blk_cell BK193.out 3).trans rfl; have hfz11_0 := blk_frozen BK193.out 0; have hfz11_1 := blk_frozen BK193.out 1; have hfz11_2 := blk_frozen BK193.out 2; have hfz11_3 := blk_frozen BK193.out 3) | ((with_reducible refine gate_callee (f := 26) rfl ?_); refine goesL_ (some 8) rfl rfl Tryd.func26 (by kernel_rfl) rfl #[.agg #[.string a0_0, .string a0_1, .string a0_2, .string a0_3], .int .i64 a1] rfl (by (try simp only [List.map_toArray, List.map_cons, List.map_nil]); first | done | rfl | (simp only [List.length_drop, List.length_take]; rfl)) ?_; (with_reducible refine (spec_EncodeNode.calls a0_0 a0_1 a0_2 a0_3 a1 t194 _ A3.out).mono ?_); rintro e w12 ⟨rfl, hb⟩; refine ⟨_, rfl, ?_⟩; have n0_ := Aside0.mk (blk_below (g := gb193) (o := .cells #[.string a0_0, .string a0_1, .string a0_2, .string a0_3] 31 (0, 0)) (by (with_reducible repeat (first | refine blk_drewN ?_ _ | refine blk_drew ?_ | refine blk_alloc ?_ _)); exact BK193.out) hb); have n1_ := Aside0.mk (below_step (by repeat (first | (with_reducible first | exact HB.out | apply below_alloc | apply pw_below_drewN | apply below_drew1 | refine below_set ?_ GE193.out) | exact HB.out)) hb); clear BK193; clear HB; have BK193 := n0_; have HB := n1_; clear n0_ n1_; (try clear hb); (try clear hb2); (try clear hk); (try clear hi)) | ((with_reducible refine gate_callee (f := 27) rfl ?_); refine goesL_ (some 13) rfl rfl Tryd.func27 (by kernel_rfl) rfl #[.string t194] rfl (by (try simp only [List.map_toArray, List.map_cons, List.map_nil]); first | done | rfl | (simp only [List.length_drop, List.length_take]; rfl)) ?_; (with_reducible refine (spec_l2Text.calls t194 t195 _ A8.out).mono ?_); rintro e w' ⟨rfl, ⟨nd, rfl⟩⟩; refine ⟨_, rfl, ?_⟩) | ((with_reducible refine gate_callee (f := 9) rfl ?_); refine goesL_ (some 15) rfl rfl Tryd.func9 (by kernel_rfl) rfl #[.string t195, .int .i64 a1] rfl (by (try simp only [List.map_toArray, List.map_cons, List.map_nil]); first | done | rfl | (simp only [List.length_drop, List.length_take]; rfl)) ?_; (with_reducible refine (spec_Digest.calls k t195 a1 t196 _ A9.out).mono ?_); rintro e w13 ⟨rfl, hb⟩; refine ⟨_, rfl, ?_⟩; have n0_ := Aside0.mk (blk_below (g := gb193) (o := .cells #[.string a0_0, .string a0_1, .string a0_2, .string a0_3] 31 (0, 0)) (by (with_reducible repeat (first | refine blk_drewN ?_ _ | refine blk_drew ?_ | refine blk_alloc ?_ _)); exact BK193.out) hb); have n1_ := Aside0.mk (below_step (by repeat (first | (with_reducible first | exact HB.out | apply below_alloc | apply pw_below_drewN | apply below_drew1 | refine below_set ?_ GE193.out) | exact HB.out)) hb); clear BK193; clear HB; have BK193 := n0_; have HB := n1_; clear n0_ n1_; (try clear hb); (try clear hb2); (try clear hk); (try clear hi)))
    go_ret
    exact ⟨by first | rfl | (simp [errW_none, errW_some] <;> rfl) | (simp [*, errW_none, errW_some] <;> rfl), by repeat (first | (with_reducible first | exact HB.out | apply below_alloc | apply pw_below_drewN | apply below_drew1 | refine below_set ?_ GE193.out) | exact HB.out)⟩

end Go.Proofs.YtmfejehhfmaodaaDoor.Z

end

/- Contracts of functions of the program, written by a program of this session over the translation's print. -/
section
namespace Go.Proofs.YtmfejehhfmaodaaDoor.Z
open Go.RowKit Go.Proofs.YtmfejehhfmaodaaDoorW.PrintWords Go.Proofs.YtmfejehhfmaodaaDoorW.PrintLast Go.Proofs.YtmfejehhfmaodaaDoorW.PrintMore
attribute [local go_sem] max2_int min2_int max_two min_two max_three min_three max_four min_four   -- for this text's walks alone
set_option linter.unusedVariables false
set_option linter.unusedSimpArgs false

/-! ### laws_toNode: function 15 -/
def laws_toNode.f (a0_0 : ByteArray) (a0_1 : ByteArray) (a0_2 : ByteArray) (a0_3 : ByteArray) : Option (ByteArray × ByteArray × ByteArray × ByteArray) := some (a0_0, a0_1, a0_2, a0_3)
set_option maxHeartbeats 8000000 in
set_option maxRecDepth 100000 in
theorem laws_toNode.calls (a0_0 : ByteArray) (a0_1 : ByteArray) (a0_2 : ByteArray) (a0_3 : ByteArray) (r1 : ByteArray) (r2 : ByteArray) (r3 : ByteArray) (r4 : ByteArray) (w : World) (h : laws_toNode.f a0_0 a0_1 a0_2 a0_3 = some (r1, r2, r3, r4)) :
    Calls Tryd.prog 15 #[.agg #[.string a0_0, .string a0_1, .string a0_2, .string a0_3]] w fun e w' => e = .returned (.agg #[.string r1, .string r2, .string r3, .string r4]) ∧ Below w.heap.size w w' := by
  have hu28 := Tryd.underlying28
  have hu31 := Tryd.underlying31
  have HB := Aside0.mk (Below.refl w.heap.size w)
  have H : (some (a0_0, a0_1, a0_2, a0_3)) = some (r1, r2, r3, r4) := h
  clear h
  simp only [Option.some.injEq, Prod.mk.injEq] at H
  obtain ⟨rfl, rfl, rfl, rfl⟩ := H
  go_enter Tryd.func15, Tryd.ntmps15
  go_wp2_with (first | ((with_reducible refine gate_dst (N := 1) rfl ?_); refine box_event ?hg (N := 1) ?hd (cs := #[.string a0_0, .string a0_1, .string a0_2, .string a0_3]) (t := 28) ?hr ?_; (case hd => rfl); (case hg => rfl); (case hr => first | (go_simp; done) | (go_simp; rfl)); intro gb197 hg w2 hbox hb; have n0_ := Aside0.mk (below_step (by repeat (first | (with_reducible first | exact HB.out | apply below_alloc | apply pw_below_drewN | apply below_drew1) | exact HB.out)) hb); have n1_ := Aside0.mk (hbox); have n2_ := Aside0.mk ((by rw [hg]; exact (below_size (by repeat (first | (with_reducible first | exact HB.out | apply below_alloc | apply pw_below_drewN | apply below_drew1) | exact HB.out))) : w.heap.size ≤ gb197)); have n3_ := Aside0.mk ((by rw [hg]; exact (below_size (by repeat (first | (with_reducible first | exact HB.out | apply below_alloc | apply pw_below_drewN | apply below_drew1) | exact HB.out))) : w.heap.size ≤ gb197)); clear HB; have HB := n0_; have BK197 := n1_; have GW197 := n2_; have GE197 := n3_; clear n0_ n1_ n2_ n3_; clear hb hbox hg) | ((with_reducible refine gate_dst (N := 2) rfl ?_); refine box_event ?hg (N := 2) ?hd (cs := #[.string (⟨#[]⟩ : ByteArray), .string (⟨#[]⟩ : ByteArray), .string (⟨#[]⟩ : ByteArray), .string (⟨#[]⟩ : ByteArray)]) (t := 31) ?hr ?_; (case hd => rfl); (case hg => rfl); (case hr => first | (go_simp; done) | (go_simp; rfl)); intro gb198 hg w3 hbox hb; have n0_ := Aside0.mk (blk_below (g := gb197) (o := .cells #[.string a0_0, .string a0_1, .string a0_2, .string a0_3] 28 (0, 0)) (by (with_reducible repeat (first | refine blk_drewN ?_ _ | refine blk_drew ?_ | refine blk_alloc ?_ _)); exact BK197.out) hb); have n1_ := Aside0.mk (below_step (by repeat (first | (with_reducible first | exact HB.out | apply below_alloc | apply pw_below_drewN | apply below_drew1 | refine below_set ?_ GE197.out) | exact HB.out)) hb); have n2_ := Aside0.mk (hbox); have n3_ := Aside0.mk ((by rw [hg]; exact (below_size (by repeat (first | (with_reducible first | exact HB.out | apply below_alloc | apply pw_below_drewN | apply below_drew1 | refine below_set ?_ GE197.out) | exact HB.out))) : w.heap.size ≤ gb198)); have n4_ := Aside0.mk ((by rw [hg]; exact (below_size (by repeat (first | (with_reducible first | exact HB.out | apply below_alloc | apply pw_below_drewN | apply below_drew1 | refine below_set ?_ GE197.out) | exact HB.out))) : w.heap.size ≤ gb198)); have n5_ := Aside0.mk ((by rw [hg]; exact Nat.ne_of_lt (blk_lt (g := gb197) (o := .cells #[.string a0_0, .string a0_1, .string a0_2, .string a0_3] 28 (0, 0)) (by (with_reducible repeat (first | refine blk_drewN ?_ _ | refine blk_drew ?_ | refine blk_alloc ?_ _)); exact BK197.out)) : gb197 ≠ gb198)); have n6_ := Aside0.mk ((by rw [hg]; exact Nat.ne_of_gt (blk_lt (g := gb197) (o := .cells #[.string a0_0, .string a0_1, .string a0_2, .string a0_3] 28 (0, 0)) (by (with_reducible repeat (first | refine blk_drewN ?_ _ | refine blk_drew ?_ | refine blk_alloc ?_ _)); exact BK197.out)) : gb198 ≠ gb197)); clear BK197; clear HB; have BK197 := n0_; have HB := n1_; have BK198 := n2_; have GW198 := n3_; have GE198 := n4_; have NB197_198 := n5_; have NB198_197 := n6_; clear n0_ n1_ n2_ n3_ n4_ n5_ n6_; clear hb hbox hg) | ((with_reducible refine gate_dst (N := 3) rfl ?_); refine box_event ?hg (N := 3) ?hd (cs := #[.string (⟨#[]⟩ : ByteArray), .string (⟨#[]⟩ : ByteArray), .string (⟨#[]⟩ : ByteArray), .string (⟨#[]⟩ : ByteArray)]) (t := 31) ?hr ?_; (case hd => rfl); (case hg => rfl); (case hr => first | (go_simp; done) | (go_simp; rfl)); intro gb199 hg w4 hbox hb; have n0_ := Aside0.mk (blk_below (g := gb197) (o := .cells #[.string a0_0, .string a0_1, .string a0_2, .string a0_3] 28 (0, 0)) (by (with_reducible repeat (first | refine blk_drewN ?_ _ | refine blk_drew ?_ | refine blk_alloc ?_ _)); exact BK197.out) hb); have n1_ := Aside0.mk (blk_below (g := gb198) (o := .cells #[.string (⟨#[]⟩ : ByteArray), .string (⟨#[]⟩ : ByteArray), .string (⟨#[]⟩ : ByteArray), .string (⟨#[]⟩ : ByteArray)] 31 (0, 0)) (by (with_reducible repeat (first | refine blk_drewN ?_ _ | refine blk_drew ?_ | refine blk_alloc ?_ _)); exact BK198.out) hb); have n2_ := Aside0.mk (below_step (by repeat (first | (with_reducible first | exact HB.out | apply below_alloc | apply pw_below_drewN | apply below_drew1 | refine below_set ?_ GE197.out | refine below_set ?_ GE198.out) | exact HB.out)) hb); have n3_ := Aside0.mk (hbox); have n4_ := Aside0.mk ((by rw [hg]; exact (below_size (by repeat (first | (with_reducible first | exact HB.out | apply below_alloc | apply pw_below_drewN | apply below_drew1 | refine below_set ?_ GE197.out | refine below_set ?_ GE198.out) | exact HB.out))) : w.heap.size ≤ gb199)); have n5_ := Aside0.mk ((by rw [hg]; exact (below_size (by repeat (first | (with_reducible first | exact HB.out | apply below_alloc | apply pw_below_drewN | apply below_drew1 | refine below_set ?_ GE197.out | refine below_set ?_ GE198.out) | exact HB.out))) : w.heap.size ≤ gb199)); have n6_ := Aside0.mk ((by rw [hg]; exact Nat.ne_of_lt (blk_lt (g := gb197) (o := .cells #[.string a0_0, .string a0_1, .string a0_2, .string a0_3] 28 (0, 0)) (by (with_reducible repeat (first | refine blk_drewN ?_ _ | refine blk_drew ?_ | refine blk_alloc ?_ _)); exact BK197.out)) : gb197 ≠ gb199)); have n7_ := Aside0.mk ((by rw [hg]; exact Nat.ne_of_gt (blk_lt (g := gb197) (o := .cells #[.string a0_0, .string a0_1, .string a0_2, .string a0_3] 28 (0, 0)) (by (with_reducible repeat (first | refine blk_drewN ?_ _ | refine blk_drew ?_ | refine blk_alloc ?_ _)); exact BK197.out)) : gb199 ≠ gb197)); have n8_ := Aside0.mk ((by rw [hg]; exact Nat.ne_of_lt (blk_lt (g := gb198) (o := .cells #[.string (⟨#[]⟩ : ByteArray), .string (⟨#[]⟩ : ByteArray), .string (⟨#[]⟩ : ByteArray), .string (⟨#[]⟩ : ByteArray)] 31 (0, 0)) (by (with_reducible repeat (first | refine blk_drewN ?_ _ | refine blk_drew ?_ | refine blk_alloc ?_ _)); exact BK198.out)) : gb198 ≠ gb199)); have n9_ := Aside0.mk ((by rw [hg]; exact Nat.ne_of_gt (blk_lt (g := gb198) (o := .cells #[.string (⟨#[]⟩ : ByteArray), .string (⟨#[]⟩ : ByteArray), .string (⟨#[]⟩ : ByteArray), .string (⟨#[]⟩ : ByteArray)] 31 (0, 0)) (by (with_reducible repeat (first | refine blk_drewN ?_ _ | refine blk_drew ?_ | refine blk_alloc ?_ _)); exact BK198.out)) : gb199 ≠ gb198)); clear BK197; clear BK198; clear HB; have BK197 := n0_; have BK198 := n1_; have HB := n2_; have BK199 := n3_; have GW199 := n4_; have GE199 := n5_; have NB197_199 := n6_; have NB199_197 := n7_; have NB198_199 := n8_; have NB199_198 := n9_; clear n0_ n1_ n2_ n3_ n4_ n5_ n6_ n7_ n8_ n9_; clear hb hbox hg; have hnb5 := NB197_198.out; have hnc5 := NB198_197.out; have hnb6 := NB197_199.out; have hnc6 := NB199_197.out; have hcz7_0 : w4.cell? ⟨gb197, 0, none⟩ = some (.string a0_0) := (blk_cell BK197.out 0).trans rfl; have hcz7_1 : w4.cell? ⟨gb197, 1, none⟩ = some (.string a0_1) := (blk_cell BK197.out 1).trans rfl; have hcz7_2 : w4.cell? ⟨gb197, 2, none⟩ = some (.string a0_2) := (blk_cell BK197.out 2).trans rfl; have hcz7_3 : w4.cell? ⟨gb197, 3, none⟩ = some (.string a0_3) := (blk_cell BK197.out 3).trans rfl; have hfz7_0 := blk_frozen BK197.out 0; have hfz7_1 := blk_frozen BK197.out 1; have hfz7_2 := blk_frozen BK197.out 2; have hfz7_3 := blk_frozen BK197.out 3; have hnb8 := NB199_198.out; have hnc8 := NB198_199.out; have hcz9_0 : w4.cell? ⟨gb199, 0, none⟩ = some (.string (⟨#[]⟩ : ByteArray)) := (blk_cell BK199.out 0).trans rfl; have hcz9_1 : w4.cell? ⟨gb199, 1, none⟩ = some (.string (⟨#[]⟩ : ByteArray)) := (blk_cell BK199.out 1).trans rfl; have hcz9_2 : w4.cell? ⟨gb199, 2, none⟩ = some (.string (⟨#[]⟩ : ByteArray)) := (blk_cell BK199.out 2).trans rfl; have hcz9_3 : w4.cell? ⟨gb199, 3, none⟩ = some (.string (⟨#[]⟩ : ByteArray)) := (blk_cell BK199.out 3).trans rfl; have hfz9_0 := blk_frozen BK199.out 0; have hfz9_1 := blk_frozen BK199.out 1; have hfz9_2 := blk_frozen BK199.out 2; have hfz9_3 := blk_frozen BK199.out 3; have hcz10_0 : w4.cell? ⟨gb198, 0, none⟩ = some (.string (⟨#[]⟩ : ByteArray)) := (blk_cell BK198.out 0).trans rfl; have hcz10_1 : w4.cell? ⟨gb198, 1, none⟩ = some (.string (⟨#[]⟩ : ByteArray)) := (blk_cell BK198.out 1).trans rfl; have hcz10_2 : w4.cell? ⟨gb198, 2, none⟩ = some (.string (⟨#[]⟩ : ByteArray)) := (blk_cell BK198.out 2).trans rfl; have hcz10_3 : w4.cell? ⟨gb198, 3, none⟩ = some (.string (⟨#[]⟩ : ByteArray)) := (blk_cell BK198.out 3).trans rfl; have hfz10_0 := blk_frozen BK198.out 0; have hfz10_1 := blk_frozen BK198.out 1; have hfz10_2 := blk_frozen BK198.out 2; have hfz10_3 := blk_frozen BK198.out 3))
  refine bodyPost_ret (results_cell_row rfl _ _ gb198 31 #[.string a0_0, .string a0_1, .string a0_2, .string a0_3] (0, 0) _ rfl (by (with_reducible repeat (first | refine blk_drewN ?_ _ | refine blk_drew ?_ | refine blk_alloc ?_ _)); refine blk_put (cs := #[.string a0_0, .string a0_1, .string a0_2, .string (⟨#[]⟩ : ByteArray)]) ?_ 3 _ rfl; (with_reducible repeat (first | refine blk_drewN ?_ _ | refine blk_drew ?_ | refine blk_alloc ?_ _)); refine blk_put (cs := #[.string a0_0, .string a0_1, .string (⟨#[]⟩ : ByteArray), .string (⟨#[]⟩ : ByteArray)]) ?_ 2 _ rfl; (with_reducible repeat (first | refine blk_drewN ?_ _ | refine blk_drew ?_ | refine blk_alloc ?_ _)); refine blk_put (cs := #[.string a0_0, .string (⟨#[]⟩ : ByteArray), .string (⟨#[]⟩ : ByteArray), .string (⟨#[]⟩ : ByteArray)]) ?_ 1 _ rfl; (with_reducible repeat (first | refine blk_drewN ?_ _ | refine blk_drew ?_ | refine blk_alloc ?_ _)); refine blk_put (cs := #[.string (⟨#[]⟩ : ByteArray), .string (⟨#[]⟩ : ByteArray), .string (⟨#[]⟩ : ByteArray), .string (⟨#[]⟩ : ByteArray)]) ?_ 0 _ rfl; (with_reducible repeat (first | refine blk_drewN ?_ _ | refine blk_drew ?_ | refine blk_alloc ?_ _)); refine blk_far ?_ NB198_199.out _; (with_reducible repeat (first | refine blk_drewN ?_ _ | refine blk_drew ?_ | refine blk_alloc ?_ _)); refine blk_far ?_ NB198_199.out _; (with_reducible repeat (first | refine blk_drewN ?_ _ | refine blk_drew ?_ | refine blk_alloc ?_ _)); refine blk_far ?_ NB198_199.out _; (with_reducible repeat (first | refine blk_drewN ?_ _ | refine blk_drew ?_ | refine blk_alloc ?_ _)); refine blk_far ?_ NB198_199.out _; (with_reducible repeat (first | refine blk_drewN ?_ _ | refine blk_drew ?_ | refine blk_alloc ?_ _)); exact BK198.out) Tryd.underlying31 rfl (by kernel_rfl)) rfl ?_
  exact ⟨by first | rfl | (simp [errW_none, errW_some] <;> rfl) | (simp [*, errW_none, errW_some] <;> rfl), by repeat (first | (with_reducible first | exact HB.out | apply below_alloc | apply pw_below_drewN | apply below_drew1 | refine below_set ?_ GE197.out | refine below_set ?_ GE198.out | refine below_set ?_ GE199.out) | exact HB.out)⟩

end Go.Proofs.YtmfejehhfmaodaaDoor.Z

end

/- What the specification's Sha256 answers. -/
section
namespace Go.Proofs.YtmfejehhfmaodaaDoor.Z
open Go.RowKit Go.Proofs.YtmfejehhfmaodaaDoor Go.Proofs.YtmfejehhfmaodaaDoorW.PrintWords Go.Proofs.YtmfejehhfmaodaaDoorW.PrintLast
set_option linter.unusedVariables false
set_option linter.unusedSimpArgs false
def h0P : List Int := [1779033703, 3144134277, 1013904242, 2773480762, 1359893119, 2600822924, 528734635, 1541459225]
def stateP (m : List Int) : Nat → List Int
  | 0 => h0P
  | n + 1 => compP (stateP m n) (blockAt m (64 * n))
theorem compP_length (h b : List Int) : (compP h b).length = 8 := rfl
theorem stateP_length (m : List Int) : ∀ n, (stateP m n).length = 8
  | 0 => rfl
  | n + 1 => compP_length _ _
def wordB (x : Int) : List Int := [x / 16777216 % 256, x / 65536 % 256, x / 256 % 256, x % 256]
def outB (h : List Int) : Nat → List Int
  | 0 => []
  | n + 1 => outB h n ++ wordB (rdN h n)
theorem outB_length (h : List Int) : ∀ n, (outB h n).length = 4 * n
  | 0 => rfl
  | n + 1 => by rw [outB, List.length_append, outB_length h n]; simp [wordB]; omega
/-- The hash of a list of bytes, as 32 numbers. -/
def shaL (l : List UInt8) : List Int := outB (stateP (ints (padP l)) ((l.length + 72) / 64)) 8
theorem shaL_length (l : List UInt8) : (shaL l).length = 32 := outB_length _ _
def shaV (s : ByteArray) : ByteArray := strOfNums (shaL s.data.toList)
theorem strOfNums_size (l : List Int) : (strOfNums l).size = l.length := by simp [strOfNums, ByteArray.size]
theorem shaV_size (s : ByteArray) : (shaV s).size = 32 := by rw [shaV, strOfNums_size, shaL_length]
theorem sha_l1 (h : List Int) (hh : h.length = 8) : ∀ (d n k : Nat), n + d = 8 → d < k → spec_Sha256.l1 k h (outB h n) (n : Int) = some (strOfNums (outB h 8)) := by
  intro d
  induction d with
  | zero =>
    intro n k hn hk
    obtain ⟨k, rfl⟩ : ∃ j, k = j + 1 := ⟨k - 1, by omega⟩
    obtain rfl : n = 8 := by omega
    simp only [spec_Sha256.l1]; rw [if_neg (by omega)]
  | succ d ih =>
    intro n k hn hk
    obtain ⟨k, rfl⟩ : ∃ j, k = j + 1 := ⟨k - 1, by omega⟩
    have hl := outB_length h n
    simp only [spec_Sha256.l1]
    have e1 : wrap64 ((n : Int) + 1) = ((n + 1 : Nat) : Int) := by rw [w64 (by omega) (by omega)]; omega
    rw [e1, hh, hl]
    clear e1
    simp only [rd_nat, Option.bind_some]
    rw [if_pos (by omega), if_pos (by omega), if_pos (by omega), if_pos (by simp; omega)]
    exact ih (n + 1) k (by omega) (by omega)
theorem sha_l0 (m : List Int) (N : Nat) (hm : m.length = 64 * N) (hb : m.length ≤ 1099511627776) : ∀ (d n k : Nat), n + d = N → d + 80 < k →
    spec_Sha256.l0 k (stateP m n) kTab m ((64 * n : Nat) : Int) = some (strOfNums (outB (stateP m N) 8)) := by
  intro d
  induction d with
  | zero =>
    intro n k hn hk
    obtain ⟨k, rfl⟩ : ∃ j, k = j + 1 := ⟨k - 1, by omega⟩
    obtain rfl : n = N := by omega
    simp only [spec_Sha256.l0]; rw [if_neg (by omega)]
    exact sha_l1 _ (stateP_length _ _) 8 0 k rfl (by omega)
  | succ d ih =>
    intro n k hn hk
    obtain ⟨k, rfl⟩ : ∃ j, k = j + 1 := ⟨k - 1, by omega⟩
    simp only [spec_Sha256.l0]
    rw [if_pos (by omega), l1Block_f _ m (64 * n) k (stateP_length _ _) (by omega) hb (by omega)]
    simp only [Option.bind_some]
    have e1 : wrap64 (((64 * n : Nat) : Int) + 64) = ((64 * (n + 1) : Nat) : Int) := by rw [w64 (by omega) (by omega)]; omega
    rw [e1]
    clear e1
    exact ih (n + 1) k (by omega) (by omega)
theorem spec_Sha256_f (a0 : ByteArray) (ha : a0.size ≤ 4294967296) (k : Nat) (hk : a0.size + 100 < k) : spec_Sha256.f k a0 = some (shaV a0) := by
  unfold spec_Sha256.f
  rw [kTab_f]
  simp only [Option.bind_some]
  unfold spec_l1Padded.f
  rw [if_pos ha]
  simp only [Option.bind_some]
  have hl : a0.data.toList.length = a0.size := rfl
  have hp : (ints (padP a0.data.toList)).length = 64 * ((a0.data.toList.length + 72) / 64) := by rw [ints_length, padP_length]
  exact sha_l0 (ints (padP a0.data.toList)) _ hp (by rw [hp, hl]; omega) ((a0.data.toList.length + 72) / 64) 0 k (by omega) (by rw [hl]; omega)
end Go.Proofs.YtmfejehhfmaodaaDoor.Z

end

/- The program's hasher. -/
section
namespace Go.Proofs.YtmfejehhfmaodaaDoor.Z
open Go.RowKit Go.Proofs.YtmfejehhfmaodaaDoor Go.Proofs.YtmfejehhfmaodaaDoorW.PrintWords Go.Proofs.YtmfejehhfmaodaaDoorW.PrintLast
set_option linter.unusedVariables false
set_option linter.unusedSimpArgs false
def hCells (st blk : List Int) (fill tot : Int) : List Value := st.map (.int .u32) ++ blk.map (.int .u8) ++ [.int .i64 fill, .int .u64 tot]
/-- Block b is a hasher. -/
structure Hsh (b : Nat) (st blk : List Int) (fill tot : Int) (w : World) : Prop where
  heap : w.heap[b]? = some (.cells (hCells st blk fill tot).toArray 69 (0, 0))
  st8 : st.length = 8
  blk64 : blk.length = 64
section
variable {b : Nat} {st blk : List Int} {fill tot : Int} {w w1 : World}
theorem Hsh.lt (h : Hsh b st blk fill tot w) : b < w.heap.size := lt_of_block h.heap
theorem Hsh.f (h : Hsh b st blk fill tot w) (i : Nat) : w.frozen? ⟨b, i, none⟩ = false := frozen_of_row _ _ _ _ _ h.heap
theorem hCells_length (st blk : List Int) (fill tot : Int) : (hCells st blk fill tot).length = st.length + blk.length + 2 := by simp [hCells]; omega
theorem Hsh.cS (h : Hsh b st blk fill tot w) (i : Nat) (hi : i < 8) : w.cell? ⟨b, i, none⟩ = some (.int .u32 (rdN st i)) := by
  rw [cell_of_row _ _ _ _ _ _ h.heap]
  have h8 := h.st8
  simp only [List.getElem?_toArray, hCells]
  rw [List.append_assoc, List.getElem?_append_left (by simp; omega)]
  simp [rdN, List.getD_eq_getElem?_getD, h8, hi]
theorem Hsh.cB (h : Hsh b st blk fill tot w) (j : Nat) (hj : j < 64) : w.cell? ⟨b, 8 + j, none⟩ = some (.int .u8 (rdN blk j)) := by
  rw [cell_of_row _ _ _ _ _ _ h.heap]
  have h8 := h.st8
  have h64 := h.blk64
  simp only [List.getElem?_toArray, hCells]
  rw [List.append_assoc, List.getElem?_append_right (by simp; omega), List.getElem?_append_left (by simp; omega)]
  simp [rdN, List.getD_eq_getElem?_getD, h8, h64, hj]
theorem Hsh.cF (h : Hsh b st blk fill tot w) : w.cell? ⟨b, 72, none⟩ = some (.int .i64 fill) := by
  rw [cell_of_row _ _ _ _ _ _ h.heap]
  have h8 := h.st8
  have h64 := h.blk64
  simp only [List.getElem?_toArray, hCells]
  rw [List.getElem?_append_right (by simp; omega)]
  simp [h8, h64]
theorem Hsh.cT (h : Hsh b st blk fill tot w) : w.cell? ⟨b, 73, none⟩ = some (.int .u64 tot) := by
  rw [cell_of_row _ _ _ _ _ _ h.heap]
  have h8 := h.st8
  have h64 := h.blk64
  simp only [List.getElem?_toArray, hCells]
  rw [List.getElem?_append_right (by simp; omega)]
  simp [h8, h64]
theorem hset {cs ds : List Value} {T : TypeId} {i : Nat} {v : Value} (h : w.heap[b]? = some (.cells cs.toArray T (0, 0))) (he : cs.set i v = ds) :
    (w.setCell ⟨b, i, none⟩ v).heap[b]? = some (.cells ds.toArray T (0, 0)) := by
  have := heap_setCell_same w b i cs.toArray T v h
  rw [this, ← he]
  simp
theorem Hsh.setS (h : Hsh b st blk fill tot w) (i : Nat) (hi : i < 8) (x : Int) : Hsh b (st.set i x) blk fill tot (w.setCell ⟨b, i, none⟩ (.int .u32 x)) := by
  have h8 := h.st8
  refine ⟨hset h.heap ?_, by rw [List.length_set]; exact h8, h.blk64⟩
  simp only [hCells]
  rw [List.append_assoc, List.set_append_left _ _ (by simp; omega), ← List.map_set, List.append_assoc]
theorem Hsh.setB (h : Hsh b st blk fill tot w) (j : Nat) (hj : j < 64) (x : Int) : Hsh b st (blk.set j x) fill tot (w.setCell ⟨b, 8 + j, none⟩ (.int .u8 x)) := by
  have h8 := h.st8
  have h64 := h.blk64
  refine ⟨hset h.heap ?_, h8, by rw [List.length_set]; exact h64⟩
  simp only [hCells]
  rw [List.append_assoc, List.set_append_right _ _ (by simp; omega), List.set_append_left _ _ (by simp; omega), ← List.map_set, List.append_assoc]
  simp [h8]
theorem Hsh.setF (h : Hsh b st blk fill tot w) (x : Int) : Hsh b st blk x tot (w.setCell ⟨b, 72, none⟩ (.int .i64 x)) := by
  have h8 := h.st8
  have h64 := h.blk64
  refine ⟨hset h.heap ?_, h8, h64⟩
  simp only [hCells]
  rw [List.set_append_right _ _ (by simp; omega)]
  simp [h8, h64]
theorem Hsh.setT (h : Hsh b st blk fill tot w) (x : Int) : Hsh b st blk fill x (w.setCell ⟨b, 73, none⟩ (.int .u64 x)) := by
  have h8 := h.st8
  have h64 := h.blk64
  refine ⟨hset h.heap ?_, h8, h64⟩
  simp only [hCells]
  rw [List.set_append_right _ _ (by simp; omega)]
  simp [h8, h64]
theorem Hsh.keep (h : Hsh b st blk fill tot w) (hb : w1.heap[b]? = w.heap[b]?) : Hsh b st blk fill tot w1 := ⟨hb.trans h.heap, h.st8, h.blk64⟩
theorem Hsh.below (h : Hsh b st blk fill tot w) (hb : Below w.heap.size w w1) : Hsh b st blk fill tot w1 := h.keep (hb.block b h.lt)
theorem Hsh.grown (h : Hsh b st blk fill tot w) {row : Option Nat} (hb : w.grownBy w1 row) (hn : some b ≠ row) : Hsh b st blk fill tot w1 := h.keep (hb.block b h.lt hn)
theorem Hsh.drew (h : Hsh b st blk fill tot w) : Hsh b st blk fill tot w.drew := h.keep rfl
theorem Hsh.alloc (h : Hsh b st blk fill tot w) (o : Obj) : Hsh b st blk fill tot (w.alloc o) := h.keep (Below.heap_alloc _ _ _ h.lt)
theorem Hsh.setOther (h : Hsh b st blk fill tot w) (a : Addr) (v : Value) (hn : b ≠ a.block) : Hsh b st blk fill tot (w.setCell a v) := h.keep (heap_setCell_other _ _ _ _ hn)
end
set_option maxRecDepth 100000 in
set_option maxHeartbeats 1000000 in
theorem newHasher_any (w : World) : Calls Tryd.prog 31 #[] w fun e w' => e = .returned (.pointer (some ⟨w.heap.size, 0, none⟩)) ∧ Hsh w.heap.size h0P (List.replicate 64 0) 0 0 w' ∧ w.heap.size < w'.heap.size ∧ Below w.heap.size w w' := by
  have hz : ∀ w : World, Sem.run Tryd.prog (zeroValue 69) w = .ok (.agg #[.int .u32 0, .int .u32 0, .int .u32 0, .int .u32 0, .int .u32 0, .int .u32 0, .int .u32 0, .int .u32 0, .int .u8 0, .int .u8 0, .int .u8 0, .int .u8 0, .int .u8 0, .int .u8 0, .int .u8 0, .int .u8 0, .int .u8 0, .int .u8 0, .int .u8 0, .int .u8 0, .int .u8 0, .int .u8 0, .int .u8 0, .int .u8 0, .int .u8 0, .int .u8 0, .int .u8 0, .int .u8 0, .int .u8 0, .int .u8 0, .int .u8 0, .int .u8 0, .int .u8 0, .int .u8 0, .int .u8 0, .int .u8 0, .int .u8 0, .int .u8 0, .int .u8 0, .int .u8 0, .int .u8 0, .int .u8 0, .int .u8 0, .int .u8 0, .int .u8 0, .int .u8 0, .int .u8 0, .int .u8 0, .int .u8 0, .int .u8 0, .int .u8 0, .int .u8 0, .int .u8 0, .int .u8 0, .int .u8 0, .int .u8 0, .int .u8 0, .int .u8 0, .int .u8 0, .int .u8 0, .int .u8 0, .int .u8 0, .int .u8 0, .int .u8 0, .int .u8 0, .int .u8 0, .int .u8 0, .int .u8 0, .int .u8 0, .int .u8 0, .int .u8 0, .int .u8 0, .int .i64 0, .int .u64 0]) w := fun _ => by kernel_rfl
  go_enter Tryd.func31, Tryd.ntmps31
  go_wp2
  go_ret
  refine ⟨rfl, ⟨?_, rfl, by simp⟩, by simp, by (repeat' (first | exact Below.refl _ _ | (with_reducible assumption) | (with_reducible refine Below.setCell ?_ (by first | (simp; done) | (simp; omega)) _) | refine below_then ?_ (by assumption) | (with_reducible refine below_new2 ?_ _) | (with_reducible refine Below.drew ?_) | (with_reducible refine bdrewN ?_ _)))⟩
  exact (heap_alloc_new _ _).trans rfl
end Go.Proofs.YtmfejehhfmaodaaDoor.Z

end
