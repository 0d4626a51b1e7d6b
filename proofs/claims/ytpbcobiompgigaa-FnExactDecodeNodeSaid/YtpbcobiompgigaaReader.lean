/- The reader of encodings: what its methods give. -/
import Derived.Test.YtpbcobiompgigaaEnc2
import Derived.Lib.BufferOwn
import Derived.Lib.BufferWrite
namespace Go.Proofs.Ytpbcobiompgigaa
open Go.RowKit
set_option linter.unusedVariables false
set_option linter.unusedSimpArgs false
/-- Block b is a reader with r before it. -/
def Rdr (b : Nat) (r : ByteArray) (bad : Bool) (w : World) : Prop := w.heap[b]? = some (.cells #[.string r, .bool bad] 42)
section
variable {b : Nat} {r : ByteArray} {bad : Bool} {w w1 : World}
theorem Rdr.c0 (h : Rdr b r bad w) : w.cell? ⟨b, 0, none⟩ = some (.string r) := by
  unfold Rdr at h
  simp [World.cell?, h]
theorem Rdr.c1 (h : Rdr b r bad w) : w.cell? ⟨b, 1, none⟩ = some (.bool bad) := by
  unfold Rdr at h
  simp [World.cell?, h]
theorem Rdr.f (h : Rdr b r bad w) (i : Nat) : w.frozen? ⟨b, i, none⟩ = false := by
  unfold Rdr at h
  simp [World.frozen?, h]
theorem Rdr.lt (h : Rdr b r bad w) : b < w.heap.size := by
  rcases Nat.lt_or_ge b w.heap.size with h' | h'
  · exact h'
  · unfold Rdr at h
    simp [Array.getElem?_eq_none h'] at h
theorem Rdr.set0 (h : Rdr b r bad w) (s : ByteArray) : Rdr b s bad (w.setCell ⟨b, 0, none⟩ (.string s)) := by
  have hl := h.lt
  unfold Rdr at h ⊢
  rw [Array.getElem?_eq_getElem hl] at h
  have h' := Option.some.inj h
  simp [World.setCell, hl, Array.getElem_modify, h']
theorem Rdr.set1 (h : Rdr b r bad w) (s : Bool) : Rdr b r s (w.setCell ⟨b, 1, none⟩ (.bool s)) := by
  have hl := h.lt
  unfold Rdr at h ⊢
  rw [Array.getElem?_eq_getElem hl] at h
  have h' := Option.some.inj h
  simp [World.setCell, hl, Array.getElem_modify, h']
theorem Rdr.below (h : Rdr b r bad w) (hb : Below w.heap.size w w1) : Rdr b r bad w1 := (hb.block b h.lt).trans h
theorem Rdr.grown (h : Rdr b r bad w) {row : Option Nat} (hb : w.grownBy w1 row) (hn : some b ≠ row) : Rdr b r bad w1 := (hb.block b h.lt hn).trans h
theorem Rdr.fresh (s : ByteArray) (w : World) : Rdr w.heap.size s false (w.alloc (.cells #[.string s, .bool false] 42)) := by
  show (w.heap.push _)[w.heap.size]? = _
  simp
end
def textR (r : ByteArray) (bad : Bool) (n : Int) : ByteArray × ByteArray × Bool :=
  if bad = true ∨ n < 0 ∨ (r.size : Int) < n then (⟨#[]⟩, r, true) else (r.extract 0 n.toNat, r.extract n.toNat r.size, false)
set_option maxHeartbeats 400000 in
theorem text_any (b : Nat) (r : ByteArray) (bad : Bool) (n : Int) (w : World) (h : Rdr b r bad w) :
    Calls Try.prog 23 #[.pointer (some ⟨b, 0, none⟩), .int .i64 n] w fun e w' => e = .returned (.string (textR r bad n).1) ∧ Rdr b (textR r bad n).2.1 (textR r bad n).2.2 w' ∧ w.grownBy w' (some b) := by
  have c0 := h.c0
  have c1 := h.c1
  have f0 := h.f 0
  have f1 := h.f 1
  have H := Lib.hid h; clear h
  by_cases hc : bad = true ∨ n < 0 ∨ (r.size : Int) < n
  · have ht : textR r bad n = (⟨#[]⟩, r, true) := by unfold textR; rw [if_pos hc]
    rw [ht]; clear ht
    by_cases hb : bad = true
    · subst hb
      go_enter Try.func23, Try.ntmps23
      go_wp2
      go_ret
      exact ⟨rfl, H.out.set1 true, Lib.grownBy_setCell _ _ _ _⟩
    · obtain rfl : bad = false := by simpa using hb
      by_cases hn : n < 0
      · go_enter Try.func23, Try.ntmps23
        go_wp2
        go_ret
        exact ⟨rfl, H.out.set1 true, Lib.grownBy_setCell _ _ _ _⟩
      · have hn2 : (r.size : Int) < n := by simp at hc; omega
        go_enter Try.func23, Try.ntmps23
        go_wp2
        go_ret
        exact ⟨rfl, H.out.set1 true, Lib.grownBy_setCell _ _ _ _⟩
  · have ht : textR r bad n = (r.extract 0 n.toNat, r.extract n.toNat r.size, false) := by unfold textR; rw [if_neg hc]
    rw [ht]; clear ht
    simp only [not_or, Bool.not_eq_true] at hc
    obtain ⟨rfl, hn0, hn1⟩ := hc
    have hn2 : 0 ≤ n := by omega
    have hn3 : n ≤ r.size := by omega
    have hn4 : ¬ (r.size : Int) < n := by omega
    go_enter Try.func23, Try.ntmps23
    go_wp2
    go_ret
    exact ⟨rfl, H.out.set0 _, Lib.grownBy_setCell _ _ _ _⟩
theorem or_join (x y : Nat) (hy : y < 256) : (x * 256) ||| y = x * 256 + y := by
  have h := Nat.shiftLeft_add_eq_or_of_lt (i := 8) hy x
  rw [Nat.shiftLeft_eq] at h
  exact h.symm
theorem or_vec (n a b : Nat) : (BitVec.ofInt n (a : Int) ||| BitVec.ofInt n (b : Int)).toNat = (a % 2 ^ n) ||| (b % 2 ^ n) := by
  rw [BitVec.toNat_or, BitVec.ofInt_natCast, BitVec.ofInt_natCast, BitVec.toNat_ofNat, BitVec.toNat_ofNat]
theorem wrap_u32 (n : Nat) (h : n < 4294967296) : IntKind.u32.wrap (n : Int) = n := by
  simp [IntKind.wrap, IntKind.bits, IntKind.signed]
  omega
theorem wrap_i64 (n : Nat) (h : n < 9223372036854775808) : IntKind.i64.wrap (n : Int) = n := by
  simp [IntKind.wrap, IntKind.bits, IntKind.signed]
  omega
theorem bitsOrU32 (x y : Nat) (hx : x < 16777216) (hy : y < 256) : bits .or .u32 ((x : Int) * 256) (y : Int) = ((x * 256 + y : Nat) : Int) := by
  have e : ((x : Int) * 256) = ((x * 256 : Nat) : Int) := by simp
  rw [e]
  show IntKind.u32.wrap (((BitVec.ofInt 32 ((x * 256 : Nat) : Int) ||| BitVec.ofInt 32 (y : Int)).toNat : Nat) : Int) = _
  rw [or_vec, Nat.mod_eq_of_lt (by omega), Nat.mod_eq_of_lt (by omega), or_join x y hy, wrap_u32 _ (by omega)]
theorem bitsOrI64 (x y : Nat) (hx : x < 16777216) (hy : y < 256) : bits .or .i64 ((x : Int) * 256) (y : Int) = ((x * 256 + y : Nat) : Int) := by
  have e : ((x : Int) * 256) = ((x * 256 : Nat) : Int) := by simp
  rw [e]
  show IntKind.i64.wrap (((BitVec.ofInt 64 ((x * 256 : Nat) : Int) ||| BitVec.ofInt 64 (y : Int)).toNat : Nat) : Int) = _
  rw [or_vec, Nat.mod_eq_of_lt (by omega), Nat.mod_eq_of_lt (by omega), or_join x y hy, wrap_i64 _ (by omega)]
/-- The number that bytes give, the highest first. -/
def numV (l : List UInt8) : Nat := l.foldl (fun a b => a * 256 + b.toNat) 0
theorem numV_snoc (l : List UInt8) (b : UInt8) : numV (l ++ [b]) = numV l * 256 + b.toNat := by simp [numV]
theorem numV_lt (l : List UInt8) : numV l < 256 ^ l.length := by
  have gen : ∀ (l : List UInt8) (a n : Nat), a < 256 ^ n → l.foldl (fun a b => a * 256 + b.toNat) a < 256 ^ (n + l.length) := by
    intro l
    induction l with
    | nil => intro a n h; simpa using h
    | cons x r ih =>
      intro a n h
      have hx : x.toNat < 256 := x.toNat_lt
      have h2 := ih (a * 256 + x.toNat) (n + 1) (by rw [Nat.pow_succ]; omega)
      rw [List.foldl_cons, List.length_cons, show n + (r.length + 1) = n + 1 + r.length by omega]
      exact h2
  have h := gen l 0 0 (by decide)
  simpa [numV] using h
theorem numV_step (t : ByteArray) (m : Nat) (hm : m < t.size) (h2 : t.size ≤ 2) :
    numV (t.data.toList.take m) < 256 ∧ numV (t.data.toList.take (m + 1)) = numV (t.data.toList.take m) * 256 + (t.data[m]'hm).toNat := by
  constructor
  · have h := numV_lt (t.data.toList.take m)
    have hl : (t.data.toList.take m).length ≤ 1 := by rw [List.length_take]; omega
    have := Nat.pow_le_pow_right (n := 256) (by decide) hl
    omega
  · rw [List.take_succ_eq_append_getElem (by simpa using hm), numV_snoc]
    simp
theorem numU32_step (t : ByteArray) (m : Nat) (hm : m < t.size) (h2 : t.size ≤ 2) :
    bits .or .u32 ((numV (t.data.toList.take m) : Int) * 256 % 4294967296) (((t.data[m]'hm).toNat : Int) % 4294967296) = (numV (t.data.toList.take (m + 1)) : Int) := by
  obtain ⟨h1, h3⟩ := numV_step t m hm h2
  have h4 := (t.data[m]'hm).toNat_lt
  rw [Int.emod_eq_of_lt (by omega) (by omega), Int.emod_eq_of_lt (by omega) (by omega), bitsOrU32 _ _ (by omega) (by omega), h3]
set_option maxHeartbeats 1000000 in
theorem numFlag_any (b : Nat) (r : ByteArray) (bad : Bool) (k : Nat) (hk : k ≤ 2) (w : World) (h : Rdr b r bad w) :
    Calls Try.prog 22 #[.pointer (some ⟨b, 0, none⟩), .int .i64 k] w fun e w' => e = .returned (.int .u32 (numV (textR r bad k).1.data.toList)) ∧ Rdr b (textR r bad k).2.1 (textR r bad k).2.2 w' ∧ w.grownBy w' (some b) := by
  have hlt := h.lt
  have hsz : (textR r bad k).1.size ≤ 2 := by
    unfold textR
    split
    · exact Nat.zero_le _
    · simp; omega
  have H := Lib.hid h; clear h
  generalize ht : (textR r bad k).1 = t at hsz ⊢
  have HT := Lib.hid ht; clear ht
  go_enter Try.func22, Try.ntmps22
  go_wp2_with (first | (go_at_call 23; refine (text_any b r bad k _ H.out).mono ?_; rintro e wa ⟨rfl, hRa, hga⟩; rw [HT.out]; have hza := hga.size) | (((with_reducible refine gate_dst (N := 11) rfl ?_); refine wpList_bytes wa.heap.size rfl 9 51 5 _ rfl Try.underlying9 Try.underlying51 Try.underlying5 t rfl (by first | assumption | (simp; omega) | omega) (by unfold maxLen; omega) ?_; rintro v_wb wb ho_wb hv_wb hb_wb; obtain ⟨hc_wb, hf_wb⟩ := bcell hb_wb; have hz_wb := hb_wb.size; (try simp only [World.size_alloc, World.size_setCell, World.size_drew] at hz_wb); (try simp only [World.size_alloc, World.size_setCell, World.size_drew] at hc_wb); (try simp only [World.size_alloc, World.size_setCell, World.size_drew] at hf_wb); skip); obtain ⟨A, c, rfl⟩ := ho_wb.form))
  have HO := Lib.hid ho_wb; clear ho_wb
  have htl : t.data.toList.length = t.size := rfl
  have HTL := Lib.hid htl; clear htl
  go_loopw [5, 13] (fun v i wr => ∃ m : Nat, m ≤ t.size ∧ i = .int .i64 m ∧ v = .int .u32 (numV (t.data.toList.take m)) ∧ wr = wb) (fun _ i _ => t.size - (intOf i).toNat)
  case atStart => exact ⟨0, Nat.zero_le _, rfl, rfl, rfl⟩
  case round =>
    obtain ⟨m, hm, rfl, rfl, rfl⟩ := hrel
    by_cases hlt2 : m < t.size
    · obtain ⟨g, cap, hv, h1, h2, h3, hcell, hfr⟩ := (HO.out).at (by rw [HTL.out]; omega)
      cases hv
      have hc := hcell m (by rw [HTL.out]; omega)
      rw [bcs_get _ _ (by rw [HTL.out]; omega)] at hc
      clear hcell hfr
      go_wp2
      refine ⟨⟨m + 1, by omega, by go_num, ?_, trivial⟩, by simp [intOf]; omega⟩
      rw [numU32_step t m hlt2 hsz]
    · have hm2 : m = t.size := by omega
      subst hm2
      clear hlt2
      go_wp2
      go_ret
      refine ⟨?_, hRa.below hb_wb, Lib.grownBy_below hga hb_wb⟩
      rw [List.take_of_length_le (by rw [HTL.out]; omega)]
      rfl
theorem wrap64_small (n : Nat) (h : n < 9223372036854775808) : wrap64 (n : Int) = n := by unfold wrap64; omega
theorem numI64_step (t : ByteArray) (m : Nat) (hm : m < t.size) (h2 : t.size ≤ 2) :
    bits .or .i64 (wrap64 ((numV (t.data.toList.take m) : Int) * 256)) (wrap64 ((t.data[m]'hm).toNat : Int)) = (numV (t.data.toList.take (m + 1)) : Int) := by
  obtain ⟨h1, h3⟩ := numV_step t m hm h2
  have h4 := (t.data[m]'hm).toNat_lt
  rw [show ((numV (t.data.toList.take m) : Int) * 256) = ((numV (t.data.toList.take m) * 256 : Nat) : Int) by simp, wrap64_small _ (by omega), wrap64_small _ (by omega), Int.natCast_mul]
  rw [show ((256 : Nat) : Int) = 256 from rfl, bitsOrI64 _ _ (by omega) (by omega), h3]
set_option maxHeartbeats 1000000 in
theorem numInt_any (b : Nat) (r : ByteArray) (bad : Bool) (k : Nat) (hk : k ≤ 2) (w : World) (h : Rdr b r bad w) :
    Calls Try.prog 35 #[.pointer (some ⟨b, 0, none⟩), .int .i64 k] w fun e w' => e = .returned (.int .i64 (numV (textR r bad k).1.data.toList)) ∧ Rdr b (textR r bad k).2.1 (textR r bad k).2.2 w' ∧ w.grownBy w' (some b) := by
  have hlt := h.lt
  have hsz : (textR r bad k).1.size ≤ 2 := by
    unfold textR
    split
    · exact Nat.zero_le _
    · simp; omega
  have H := Lib.hid h; clear h
  generalize ht : (textR r bad k).1 = t at hsz ⊢
  have HT := Lib.hid ht; clear ht
  go_enter Try.func35, Try.ntmps35
  go_wp2_with (first | (go_at_call 23; refine (text_any b r bad k _ H.out).mono ?_; rintro e wa ⟨rfl, hRa, hga⟩; rw [HT.out]; have hza := hga.size) | (((with_reducible refine gate_dst (N := 11) rfl ?_); refine wpList_bytes wa.heap.size rfl 9 51 5 _ rfl Try.underlying9 Try.underlying51 Try.underlying5 t rfl (by first | assumption | (simp; omega) | omega) (by unfold maxLen; omega) ?_; rintro v_wb wb ho_wb hv_wb hb_wb; obtain ⟨hc_wb, hf_wb⟩ := bcell hb_wb; have hz_wb := hb_wb.size; (try simp only [World.size_alloc, World.size_setCell, World.size_drew] at hz_wb); (try simp only [World.size_alloc, World.size_setCell, World.size_drew] at hc_wb); (try simp only [World.size_alloc, World.size_setCell, World.size_drew] at hf_wb); skip); obtain ⟨A, c, rfl⟩ := ho_wb.form))
  have HO := Lib.hid ho_wb; clear ho_wb
  have htl : t.data.toList.length = t.size := rfl
  have HTL := Lib.hid htl; clear htl
  go_loopw [5, 13] (fun v i wr => ∃ m : Nat, m ≤ t.size ∧ i = .int .i64 m ∧ v = .int .i64 (numV (t.data.toList.take m)) ∧ wr = wb) (fun _ i _ => t.size - (intOf i).toNat)
  case atStart => exact ⟨0, Nat.zero_le _, rfl, rfl, rfl⟩
  case round =>
    obtain ⟨m, hm, rfl, rfl, rfl⟩ := hrel
    by_cases hlt2 : m < t.size
    · obtain ⟨g, cap, hv, h1, h2, h3, hcell, hfr⟩ := (HO.out).at (by rw [HTL.out]; omega)
      cases hv
      have hc := hcell m (by rw [HTL.out]; omega)
      rw [bcs_get _ _ (by rw [HTL.out]; omega)] at hc
      clear hcell hfr
      go_wp2
      refine ⟨⟨m + 1, by omega, by go_num, ?_, trivial⟩, by simp [intOf]; omega⟩
      rw [numI64_step t m hlt2 hsz]
    · have hm2 : m = t.size := by omega
      subst hm2
      clear hlt2
      go_wp2
      go_ret
      refine ⟨?_, hRa.below hb_wb, Lib.grownBy_below hga hb_wb⟩
      rw [List.take_of_length_le (by rw [HTL.out]; omega)]
      rfl
def sizedR (r : ByteArray) (bad : Bool) : ByteArray × ByteArray × Bool :=
  textR (textR r bad 2).2.1 (textR r bad 2).2.2 (numV (textR r bad 2).1.data.toList)
set_option maxHeartbeats 400000 in
theorem rsized_any (b : Nat) (r : ByteArray) (bad : Bool) (w : World) (h : Rdr b r bad w) :
    Calls Try.prog 21 #[.pointer (some ⟨b, 0, none⟩)] w fun e w' => e = .returned (.string (sizedR r bad).1) ∧ Rdr b (sizedR r bad).2.1 (sizedR r bad).2.2 w' ∧ w.grownBy w' (some b) := by
  have H := Lib.hid h; clear h
  go_enter Try.func21, Try.ntmps21
  go_wp2_with (first | (go_at_call 35; refine (numInt_any b r bad 2 (by omega) _ H.out).mono ?_; rintro e wa ⟨rfl, hRa, hga⟩) | (go_at_call 23; refine (text_any b _ _ _ _ hRa).mono ?_; rintro e wc ⟨rfl, hRc, hgc⟩))
  go_ret
  exact ⟨rfl, hRc, hga.trans hgc⟩
end Go.Proofs.Ytpbcobiompgigaa
