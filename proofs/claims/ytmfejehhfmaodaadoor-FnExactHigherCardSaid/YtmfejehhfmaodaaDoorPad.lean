/- The padded text of the specification's SHA-256. -/
import Derived.Test.YtmfejehhfmaodaaDoorOwn
import Derived.Test.YtmfejehhfmaodaaDoorShaP
import Derived.Deep.AppendSrc
import Derived.Test.YtmfejehhfmaodaaDoorWMore
namespace Go.Proofs.YtmfejehhfmaodaaDoor.Z
open Go.RowKit Go.Proofs.YtmfejehhfmaodaaDoor Go.Proofs.YtmfejehhfmaodaaDoorW.PrintWords Go.Proofs.YtmfejehhfmaodaaDoorW.PrintLast
set_option linter.unusedVariables false
set_option linter.unusedSimpArgs false
def zerosN (n : Nat) : Nat := (119 - n % 64) % 64
theorem zerosN_lt (n : Nat) : zerosN n < 64 := by unfold zerosN; omega
theorem zerosN_mod (n : Nat) : (n + 1 + zerosN n) % 64 = 56 := by unfold zerosN; omega
def lenByte (n j : Nat) : UInt8 := UInt8.ofNat (8 * n / 2 ^ (8 * (7 - j)))
def lenB (n m : Nat) : List UInt8 := (List.range m).map (lenByte n)
theorem lenB_succ (n m : Nat) : lenB n (m + 1) = lenB n m ++ [lenByte n m] := by simp [lenB, List.range_succ]
theorem lenB_length (n m : Nat) : (lenB n m).length = m := by simp [lenB]
def padZ (l : List UInt8) (j : Nat) : List UInt8 := l ++ [128] ++ List.replicate j 0
theorem padZ_length (l : List UInt8) (j : Nat) : (padZ l j).length = l.length + 1 + j := by simp [padZ]; omega
theorem padZ_succ (l : List UInt8) (j : Nat) : padZ l (j + 1) = padZ l j ++ [0] := by simp [padZ, List.replicate_succ']
def padP (l : List UInt8) : List UInt8 := padZ l (zerosN l.length) ++ lenB l.length 8
theorem padP_length (l : List UInt8) : (padP l).length = 64 * ((l.length + 72) / 64) := by
  rw [padP, List.length_append, padZ_length, lenB_length]; unfold zerosN; omega
theorem infoU8 : (Tryd.prog.info? 5).map (fun i => (i.zero, i.size, i.bytes)) = some (some (.int .u8 0), 1, 1) := by kernel_rfl
theorem len_byte_eq (n i : Nat) (hi : i ≤ 7) (hn : n ≤ 4294967296) : (((8 * n : Nat) : Int) / 2 ^ (8 * i)) % 256 = ((lenByte n (7 - i)).toNat : Int) := by
  unfold lenByte
  rw [show 7 - (7 - i) = i by omega, UInt8.toNat_ofNat']
  rw [show ((2 : Int) ^ (8 * i)) = ((2 ^ (8 * i) : Nat) : Int) by rw [Int.natCast_pow]; rfl]
  rw [← Int.natCast_ediv]
  generalize 8 * n / 2 ^ (8 * i) = q
  omega
set_option maxHeartbeats 1000000 in
theorem padded_any (s : ByteArray) (w : World) (hs : s.size ≤ 4294967296) :
    Calls Tryd.prog 18 #[.string s] w fun e w' => ∃ v, e = .returned v ∧ OwnB w' w.heap.size v (padP s.data.toList) ∧ Below w.heap.size w w' := by
  have hl : s.data.toList.length = s.size := rfl
  have hzl := zerosN_lt s.size
  have hzm := zerosN_mod s.size
  have HL := Lib.hid hl; clear hl
  have HZM := Lib.hid hzm; clear hzm
  go_enter Tryd.func18, Tryd.ntmps18
  go_wp2_with (first | ((with_reducible refine gate_dst (N := 7) rfl ?_); refine wpList_bytes w.heap.size rfl 9 37 5 _ rfl Tryd.underlying9 Tryd.underlying37 Tryd.underlying5 s rfl (by first | assumption | (simp; omega) | omega) (by unfold maxLen; omega) ?_; rintro v_wb wb ho_wb hv_wb hb_wb; obtain ⟨hc_wb, hf_wb⟩ := bcell hb_wb; have hz_wb := hb_wb.size; (try simp only [World.size_alloc, World.size_setCell, World.size_drew] at hz_wb); (try simp only [World.size_alloc, World.size_setCell, World.size_drew] at hc_wb); (try simp only [World.size_alloc, World.size_setCell, World.size_drew] at hf_wb); skip) | ((with_reducible refine gate_dst (N := 10) rfl ?_); refine wpList_appB1 (w0 := wb) w.heap.size rfl _ _ 37 5 rfl Tryd.underlying37 infoU8 rfl 128 rfl rfl ho_wb (by have := HL.out; omega) (by omega) ?_; rintro v1 w1 ho1 hb1))
  go_loopw [3] (fun v wr => ∃ j : Nat, j ≤ zerosN s.size ∧ OwnB wr w.heap.size v (padZ s.data.toList j) ∧ Below w.heap.size w wr) (fun v _ => match v with | .slice _ n _ => s.size + 1 + zerosN s.size - n | _ => 0)
  case atStart => exact ⟨0, Nat.zero_le _, by simpa [padZ] using ho1, hb_wb.trans hb1⟩
  case round =>
    obtain ⟨j, hj, hO, hB⟩ := hrel
    obtain ⟨A5, c5, rfl⟩ := hO.form
    have hz := hB.size
    have hpl := padZ_length s.data.toList j
    rw [HL.out] at hpl
    rw [hpl] at hO ⊢
    have HPL := Lib.hid hpl; clear hpl
    by_cases hlt : j < zerosN s.size
    · have hne : (((s.size : Int) + 1 + (j : Int)) % 64 != 56) = true := by rw [bne_iff_ne]; have := HZM.out; unfold zerosN at *; omega
      go_wp2_with ((with_reducible refine gate_dst (N := 17) rfl ?_); refine wpList_appB1 (w0 := wr) w.heap.size rfl _ _ 37 5 rfl Tryd.underlying37 infoU8 rfl 0 rfl rfl hO (by have := HPL.out; omega) (by omega) ?_; rintro v2 w2 ho2 hb2)
      obtain ⟨A6, c6, hv6⟩ := ho2.form
      subst hv6
      go_roundw
      case rel => exact ⟨j + 1, by omega, by rw [padZ_succ]; exact ho2, hB.trans hb2⟩
      case measure => rw [List.length_append, HPL.out]; simp; omega
    · obtain rfl : j = zerosN s.size := by omega
      have hne : (((s.size : Int) + 1 + (zerosN s.size : Int)) % 64 != 56) = false := by rw [bne_eq_false_iff_eq]; have := HZM.out; omega
      generalize hzz : zerosN s.size = zz at *
      have HZZ := Lib.hid hzz; clear hzz
      go_wp2
      go_loopw [3, 5] (fun v i wr2 => ∃ m : Nat, m ≤ 8 ∧ i = .int .i64 (7 - (m : Int)) ∧ OwnB wr2 w.heap.size v (padZ s.data.toList zz ++ lenB s.size m) ∧ Below w.heap.size w wr2) (fun _ i _ => (intOf i + 1).toNat)
      case atStart => exact ⟨0, by omega, rfl, by simpa [lenB] using hO, hB⟩
      case round =>
        obtain ⟨m, hm, rfl, hO2, hB2⟩ := hrel
        have hz2 := hB2.size
        obtain ⟨A7, c7, rfl⟩ := hO2.form
        have hl2 : (padZ s.data.toList zz ++ lenB s.size m).length = s.size + 1 + zz + m := by rw [List.length_append, HPL.out, lenB_length]
        rw [hl2] at hO2 ⊢
        have HL2 := Lib.hid hl2; clear hl2
        by_cases h8 : m < 8
        · have t0 : (0 : Int) ≤ 7 - (m : Int) := by omega
          have hbyte : (s.size : Int) * 8 / 2 ^ (8 * (7 - m)) % 256 = ((lenByte s.size m).toNat : Int) := by
            have := len_byte_eq s.size (7 - m) (by omega) hs
            rw [show 7 - (7 - m) = m by omega, show ((8 * s.size : Nat) : Int) = (s.size : Int) * 8 by omega] at this
            exact this
          go_wp2_with ((with_reducible refine gate_dst (N := 34) rfl ?_); refine wpList_appB1 (w0 := wr) w.heap.size rfl _ _ 37 5 rfl Tryd.underlying37 infoU8 rfl (lenByte s.size m) rfl rfl hO2 (by have := HL2.out; omega) (by omega) ?_; rintro v3 w3 ho3 hb3)
          obtain ⟨A8, c8, hv8⟩ := ho3.form
          subst hv8
          clear hbyte
          go_roundw
          case rel => exact ⟨m + 1, by omega, by go_num, by rw [lenB_succ, ← List.append_assoc]; exact ho3, hB2.trans hb3⟩
          case measure => simp [intOf]; omega
        · obtain rfl : m = 8 := by omega
          go_wp2
          go_ret
          refine ⟨_, rfl, ?_, hB2⟩
          have := HZZ.out
          rw [padP, HL.out, this]
          exact hO2
def ints (l : List UInt8) : List Int := l.map fun b => (b.toNat : Int)
theorem ints_length (l : List UInt8) : (ints l).length = l.length := by simp [ints]
/-- A slice of bytes that is read only. -/
def RB (w : World) (v : Value) (xs : List Int) : Prop := ∃ base l, OwnB w base v l ∧ xs = ints l
section
variable {w w1 : World} {v : Value} {xs : List Int}
theorem RB.below (h : RB w v xs) (hb : Below w.heap.size w w1) : RB w1 v xs := by
  obtain ⟨b, l, h1, h2⟩ := h
  exact ⟨b, l, h1.below hb, h2⟩
theorem RB.alloc (h : RB w v xs) (o : Obj) : RB (w.alloc o) v xs := h.below (below_alloc (Below.refl _ _) o)
theorem RB.drew (h : RB w v xs) : RB w.drew v xs := h.below (below_drew (Below.refl _ _))
theorem RB.drewN (h : RB w v xs) (m : Nat) : RB (w.drewN m) v xs := h.below (pw_below_drewN (Below.refl _ _) m)
theorem RB.lower {a b : Nat} (h : RB w v xs) (_ : a ≤ b) : RB w v xs := h
theorem RB.slice (h : RB w v xs) : ∃ A c, v = .slice A xs.length c := by
  obtain ⟨b, l, h1, rfl⟩ := h
  obtain ⟨A, c, rfl⟩ := h1.form
  exact ⟨A, c, by rw [ints_length]⟩
theorem RB.reads {A : Option Addr} {n c : Nat} (h : RB w (.slice A n c) xs) : n = xs.length ∧ n ≤ c ∧ Kd.C (Kd.int .u8) w A xs.length xs := by
  obtain ⟨b, l, h1, rfl⟩ := h
  rcases h1.2 with ⟨hv, h0⟩ | ⟨g, cap, hv, h1', h2, h3, h4, h5, h6⟩
  · cases hv
    rw [ints_length]
    refine ⟨by omega, Nat.le_refl _, ?_⟩
    have : l = [] := List.eq_nil_of_length_eq_zero h0
    subst this
    exact Kd.C_of_reads (d := (0 : Int)) (h1 := fun _ => rfl) (show ReadsInt w .u8 none 0 [] from ⟨rfl, by omega, fun h => by omega⟩)
  · cases hv
    rw [ints_length]
    refine ⟨rfl, h3, ?_⟩
    refine Kd.C_of_reads (d := (0 : Int)) (h1 := fun _ => rfl) (show ReadsInt w .u8 (some ⟨g, 0, none⟩) l.length (ints l) from ⟨ints_length l, by unfold maxLen at h4; omega, fun _ => ⟨_, rfl, fun i hi => ?_⟩⟩)
    have h5' := h5 i (by omega)
    rw [bcs_get l i hi] at h5'
    have e : (⟨g, 0, none⟩ : Addr).add i = ⟨g, i, none⟩ := by simp [Addr.add]; omega
    rw [e, h5']
    simp [ints, List.getD_eq_getElem?_getD, hi]
end
def spec_l1Padded.f (a0 : ByteArray) : Option (List Int) := if a0.size ≤ 4294967296 then some (ints (padP a0.data.toList)) else none
theorem spec_l1Padded.calls (a0 : ByteArray) (r : List Int) (w : World) (h : spec_l1Padded.f a0 = some r) :
    Calls Tryd.prog 18 #[.string a0] w fun e w' => ∃ v0_ : Value, e = .returned (v0_) ∧ RB w' v0_ r ∧ Below w.heap.size w w' := by
  unfold spec_l1Padded.f at h
  split at h
  · obtain rfl := Option.some.inj h
    refine (padded_any a0 w (by assumption)).mono ?_
    rintro e w' ⟨v, rfl, ho, hb⟩
    exact ⟨v, rfl, ⟨_, _, ho, rfl⟩, hb⟩
  · cases h
end Go.Proofs.YtmfejehhfmaodaaDoor.Z
